/-
  THE LAW: what was touched, pinned and unpinned is as it was.
-/
import Derived.Test.YtgjaiabenjafeaaGreatDoorGa
import Derived.Test.YtgjaiabenjafeaaGreatDoorFc
import Derived.Test.YtgjaiabenjafeaaGreatDoorPb
namespace Go.Proofs.YtgjaiabenjafeaaGreatDoor
set_option maxRecDepth 100000
set_option linter.unusedSimpArgs false
set_option linter.unusedVariables false
open Go.Xe
theorem Sob.of {x : StA} (h : Bok x.c) : Sob x := ⟨fun z hz => h z.c (List.mem_append_left _ (List.mem_map.2 ⟨z, hz, rfl⟩)), fun z hz => h z.c (List.mem_append_right _ (List.mem_map.2 ⟨z, hz, rfl⟩))⟩
theorem bok_touchR {s : Sc} (k : ByteArray) (h : Bok s) : Bok (touchR s k) := by
  unfold touchR
  split
  · rename_i h0
    obtain ⟨hf, hl⟩ := swF_0 h0
    obtain ⟨e, hl⟩ := Option.isSome_iff_exists.1 hl
    exact fun x hx => h x ((touch_perm (free_of hf).a hl).subset hx)
  · exact fun x hx => by cases hx
theorem pf_body (k : ByteArray) (d : Int) (e : En) : (pf k d e).body = e.body := by unfold pf; split <;> rfl
theorem bok_pin {s : Sc} {k : ByteArray} {d : Int} {e : En} (hp : PinL s k d e) (h : Bok s) : Bok (pinS s k d) := fun x hx => by
  rw [pinS_all k d hp.f.a] at hx
  obtain ⟨y, hy, rfl⟩ := List.mem_map.1 hx
  rw [pf_body]
  exact h y hy
theorem PinL.pk {s : Sc} {k : ByteArray} {d : Int} {e : En} (h : PinL s k d e) : swF s k = 0 ∧ pk s k = e := swF_some h.f.ok h.l
theorem touch_look {s : Sc} {k : ByteArray} (h : Free s) (hl : (look s.all k).isSome = true) : (look (touchS s k).all k).isSome = true := by
  have hfr := touch_free h hl
  obtain ⟨e, hl⟩ := Option.isSome_iff_exists.1 hl
  have hek : e.key = k := seq_iff.1 (by have := List.find?_some hl; exact this)
  have hmem : e ∈ (touchS s k).all := (touch_perm h.a hl).symm.subset (look_mem hl)
  have h9 := look_apt hfr.a hmem
  rw [hek] at h9
  rw [h9]; rfl
set_option maxHeartbeats 8000000 in
theorem touches_law (A : Option Addr) (c : Nat) (bs : List Int) (M : PH) (hs : Sl M A 1 byC bs) (hby : ∀ (i : Nat) b, bs[i]? = some b → 0 ≤ b ∧ b ≤ 255) :
    ACall env 6 [.slice A bs.length c] M fun r M' => r = B true ∧ M.Le M' := by
  refine xcall_of_vc Tryz.func6 rfl _ Tryz.ntmps6 _ rfl (fun _ _ => Tryz.call6 _ _) rfl (fun w0 ρ0 => ?_)
  conv => whnf
  repeat' (first | (refine ⟨⟨[], rfl⟩, _, PH.Le.refl _, PH.Le.refl _, ?_⟩; conv => whnf) | (refine caseB_true ?_; conv => whnf) | (refine caseB_false ?_; conv => whnf) | ((with_reducible refine caseB_dec (fun h => ?_) (fun h => ?_)) <;> conv => whnf) | ((with_reducible refine caseB_ndec (fun h => ?_) (fun h => ?_)) <;> conv => whnf) | ((with_reducible refine caseB_not (fun h => ?_) (fun h => ?_)) <;> conv => whnf) | (refine Ret.go (lwBig_ret A c bs _) ?_; conv => whnf) | (with_reducible refine @And.intro (guardVC _ _ _ _ _) _ ?_ ?_) <;> conv => whnf | (refine caseB_intro (fun h => ?_) (fun h => ?_) <;> (try simp only [Bool.not_eq_true', Bool.not_eq_false', decide_eq_true_eq, decide_eq_false_iff_not] at h) <;> conv => whnf))
  · exact ⟨_, PH.Le.refl _, rfl, PH.Le.refl _⟩
  have hb : Byt M A bs := ⟨hs, by omega, hby⟩
  refine ACall.step (drawTouch_ret A c bs M hb) fun r M1 hh => ?_
  obtain ⟨x, k, rfl, hx, hxc, hxy, l1⟩ := hh
  conv => whnf
  refine ACall.step (touchEntry_impl x k M1 hx (by omega)) fun r M2 hh => ?_
  obtain ⟨t, rfl, et, Nt⟩ := hh
  have l2 := Nt.le
  conv => whnf
  refine ACall.step (drawPin_ret A c bs M2 (hb.mono (l1.trans l2))) fun r M3 hh => ?_
  obtain ⟨b, q, d, rfl, hd, hbi, hbc, hbo, l3⟩ := hh
  conv => whnf
  refine ACall.step (pinEntry_impl b q d M3 hbi (by omega)) fun r M4 hh => ?_
  obtain ⟨p, rfl, ep, Np⟩ := hh
  have l4 := Np.le
  have hx4 := ((hx.mono l2).mono l3).mono l4
  have hb4 := hbi.mono l4
  have Dt := (Nt.d.mono l3).mono l4
  have Dp := Np.d
  have L4 := ((l1.trans l2).trans l3).trans l4
  clear hb hs hby h
  conv => whnf
  have ts := touchEntry_spec x k M4 hx4 (by omega)
  have ps : ∀ N, M4.Le N → ACall env 47 [b.val, Tx q, I d] N fun r M' => ∃ s : So, r = srS (pinCode b.c q d) s ∧ N.Le M' := fun N l => (pinEntry_spec b q d N (hb4.mono l) (by omega)).mono fun r M' ⟨s, h1, _, h3⟩ => ⟨s, h1, h3.le⟩
  repeat' (first | (refine ⟨⟨[], rfl⟩, _, PH.Le.refl _, PH.Le.refl _, ?_⟩; conv => whnf) | (refine ACall.step (ps _ N5.le) fun r M6 hh => ?_; obtain ⟨p6, rfl, l6⟩ := hh; (first | (refine ⟨⟨[], rfl⟩, _, l6, PH.Le.refl _, ?_⟩; conv => whnf) | (refine ⟨⟨_, rfl⟩, _, l6, PH.Le.refl _, ?_⟩; conv => whnf) | conv => whnf)) | (refine ACall.step ts fun r M5 hh => ?_; obtain ⟨t5, rfl, e5, N5⟩ := hh; (first | (refine ⟨⟨[], rfl⟩, _, N5.le, PH.Le.refl _, ?_⟩; conv => whnf) | (refine ⟨⟨_, rfl⟩, _, N5.le, PH.Le.refl _, ?_⟩; conv => whnf) | conv => whnf)) | (refine caseB_true ?_; conv => whnf) | (refine caseB_false ?_; conv => whnf) | ((with_reducible refine caseB_dec (fun h => ?_) (fun h => ?_)) <;> conv => whnf) | ((with_reducible refine caseB_ndec (fun h => ?_) (fun h => ?_)) <;> conv => whnf) | ((with_reducible refine caseB_not (fun h => ?_) (fun h => ?_)) <;> conv => whnf) | (refine draw_rule (.light 0 <| .light 1 <| .light 2 <| .light 3 <| .alt 4 false (.light 5 <| .light 6 <| .light 7 <| .light 8 <| .light 9 <| .light 10 <| .light 11 <| .light 12 <| .alt 13 false (.light 14 <| .light 15 <| .light 16 <| .done) .nil) .nil) (by decide +kernel) ?_; conv => whnf) | (refine draw_rule (.light 0 <| .light 1 <| .light 2 <| .light 3 <| .light 4 <| .light 5 <| .light 6 <| .light 7 <| .light 8 <| .light 11 <| .alt 9 false (.light 10 <| .alt 12 false (.light 13 <| .light 14 <| .light 15 <| .light 16 <| .light 17 <| .light 21 <| .light 22 <| .light 26 <| .alt 18 false (.light 19 <| .light 20 <| .alt 23 false (.light 24 <| .light 25 <| .light 27 <| .light 28 <| .light 29 <| .light 30 <| .done) .nil) .nil) .nil) .nil) (by decide +kernel) ?_; conv => whnf) | (refine draw_rule (.light 0 <| .light 1 <| .alt 2 false (.light 3 <| .light 4 <| .light 5 <| .light 6 <| .light 8 <| .alt 7 false (.alt 9 false (.light 10 <| .light 11 <| .light 12 <| .light 13 <| .light 14 <| .light 15 <| .light 16 <| .light 17 <| .light 18 <| .light 19 <| .light 20 <| .light 21 <| .light 22 <| .light 23 <| .light 24 <| .light 25 <| .light 26 <| .light 27 <| .light 28 <| .light 29 <| .light 30 <| .light 31 <| .light 32 <| .light 33 <| .light 34 <| .light 35 <| .light 36 <| .light 37 <| .light 38 <| .light 39 <| .light 40 <| .alt 41 false (.light 42 <| .light 43 <| .light 44 <| .light 45 <| .light 46 <| .light 47 <| .alt 48 false (.light 49 <| .alt 50 false (.light 51 <| .light 52 <| .done) .nil) .nil) .nil) .nil) .nil) .nil) (by decide +kernel) ?_; conv => whnf) | (with_reducible refine @And.intro (guardVC _ _ _ _ _) _ ?_ ?_) <;> conv => whnf | (refine caseB_intro (fun h => ?_) (fun h => ?_) <;> (try simp only [Bool.not_eq_true', Bool.not_eq_false', decide_eq_true_eq, decide_eq_false_iff_not] at h) <;> conv => whnf))
  · exact absurd rfl h
  · exact absurd rfl h
  · have h : pinCode b.c q d = 0 := h
    obtain ⟨e, hp⟩ := pinC_0 h
    have hwd : IntKind.i64.wrap (0 - d) = -d := by rw [wrap_id (by omega) (by omega)]; omega
    have hpd := hp.dd
    have hpp := hp.p
    have epS : p.c = pinS b.c q d := by rw [ep]; unfold pinR; rw [if_pos h]
    have hpc : p.c.cost ≤ 60000 := by
      have m := pinS_map q d hp.f.a
      rw [epS, m]
      have hcm : ∀ l : List En, costL En.cost (l.map (pf q d)) = costL En.cost l := fun l => by
        unfold costL
        rw [List.map_map, List.length_map]
        congr 2
        exact List.map_congr_left fun x _ => by show En.cost (pf q d x) = En.cost x; unfold pf; split <;> rfl
      show costL En.cost (b.c.tr.map (pf q d)) + costL En.cost (b.c.kp.map (pf q d)) ≤ _
      rw [hcm, hcm]
      exact hbc
    have lA := N5.le.trans l6
    have Dp6 := Dp.mono lA
    have b6 := hb4.mono lA
    have bk := pinEntry_impl p.sta q (-d) M6 Dp6.inn (by rw [p.sta_c]; omega)
    rw [p.sta_val, p.sta_c, epS, hp.back.code] at bk
    rw [hwd]
    refine ACall.step bk fun r M7 hh => ?_
    obtain ⟨s7, rfl, e7, N7⟩ := hh
    have e7 : s7.c = b.c := by rw [e7]; unfold pinR; rw [if_pos hp.back.code, hp.twice]
    (first | (refine ⟨⟨[], rfl⟩, _, N7.le, PH.Le.refl _, ?_⟩; conv => whnf) | (refine ⟨⟨_, rfl⟩, _, N7.le, PH.Le.refl _, ?_⟩; conv => whnf) | conv => whnf)
    have b7 := b6.mono N7.le
    have Dp7 := Dp6.mono N7.le
    have ss := sameStores_impl s7.sta b M7 N7.d.inn b7 (by rw [s7.sta_c, e7]; omega) (Sob.of (by rw [s7.sta_c, e7]; exact hbo)) (Sob.of hbo)
    rw [s7.sta_val, s7.sta_c, sameB_true e7] at ss
    have pk1 := peekEntry_impl p.sta q M7 Dp7.inn (by rw [p.sta_c]; omega)
    rw [p.sta_val, p.sta_c, epS, hp.back.pk.1, hp.back.pk.2] at pk1
    have pk2 : ∀ N, M7.Le N → ACall env 29 [b.val, Tx q] N fun r M' => ∃ y : EP, r = erV 0 y.1 ∧ y.1.c = e ∧ N.Le M' := fun N l => by
      have := peekEntry_impl b q N (b7.mono l) (by omega)
      rw [hp.pk.1, hp.pk.2] at this
      exact this.mono fun r M' ⟨y, h1, h2, h3⟩ => ⟨y, h1, h2, h3.le⟩
    repeat' (first | (refine ⟨⟨[], rfl⟩, _, PH.Le.refl _, PH.Le.refl _, ?_⟩; conv => whnf) | (refine ACall.step (pk2 _ N8.le) fun r M9 hh => ?_; obtain ⟨y9, rfl, e9, l9⟩ := hh; (first | (refine ⟨⟨[], rfl⟩, _, l9, PH.Le.refl _, ?_⟩; conv => whnf) | (refine ⟨⟨_, rfl⟩, _, l9, PH.Le.refl _, ?_⟩; conv => whnf) | conv => whnf)) | (refine ACall.step pk1 fun r M8 hh => ?_; obtain ⟨y8, rfl, e8, N8⟩ := hh; (first | (refine ⟨⟨[], rfl⟩, _, N8.le, PH.Le.refl _, ?_⟩; conv => whnf) | (refine ⟨⟨_, rfl⟩, _, N8.le, PH.Le.refl _, ?_⟩; conv => whnf) | conv => whnf)) | (refine caseB_true ?_; conv => whnf) | (refine caseB_false ?_; conv => whnf) | ((with_reducible refine caseB_dec (fun h => ?_) (fun h => ?_)) <;> conv => whnf) | ((with_reducible refine caseB_ndec (fun h => ?_) (fun h => ?_)) <;> conv => whnf) | ((with_reducible refine caseB_not (fun h => ?_) (fun h => ?_)) <;> conv => whnf) | (refine Ret.go (ss) ?_; conv => whnf) | (refine draw_rule (.light 0 <| .light 1 <| .light 2 <| .light 3 <| .alt 4 false (.light 5 <| .light 6 <| .light 7 <| .light 8 <| .light 9 <| .light 10 <| .light 11 <| .light 12 <| .alt 13 false (.light 14 <| .light 15 <| .light 16 <| .done) .nil) .nil) (by decide +kernel) ?_; conv => whnf) | (refine draw_rule (.light 0 <| .light 1 <| .light 2 <| .light 3 <| .light 4 <| .light 5 <| .light 6 <| .light 7 <| .light 8 <| .light 11 <| .alt 9 false (.light 10 <| .alt 12 false (.light 13 <| .light 14 <| .light 15 <| .light 16 <| .light 17 <| .light 21 <| .light 22 <| .light 26 <| .alt 18 false (.light 19 <| .light 20 <| .alt 23 false (.light 24 <| .light 25 <| .light 27 <| .light 28 <| .light 29 <| .light 30 <| .done) .nil) .nil) .nil) .nil) (by decide +kernel) ?_; conv => whnf) | (refine draw_rule (.light 0 <| .light 1 <| .alt 2 false (.light 3 <| .light 4 <| .light 5 <| .light 6 <| .light 8 <| .alt 7 false (.alt 9 false (.light 10 <| .light 11 <| .light 12 <| .light 13 <| .light 14 <| .light 15 <| .light 16 <| .light 17 <| .light 18 <| .light 19 <| .light 20 <| .light 21 <| .light 22 <| .light 23 <| .light 24 <| .light 25 <| .light 26 <| .light 27 <| .light 28 <| .light 29 <| .light 30 <| .light 31 <| .light 32 <| .light 33 <| .light 34 <| .light 35 <| .light 36 <| .light 37 <| .light 38 <| .light 39 <| .light 40 <| .alt 41 false (.light 42 <| .light 43 <| .light 44 <| .light 45 <| .light 46 <| .light 47 <| .alt 48 false (.light 49 <| .alt 50 false (.light 51 <| .light 52 <| .done) .nil) .nil) .nil) .nil) .nil) .nil) (by decide +kernel) ?_; conv => whnf) | (with_reducible refine @And.intro (guardVC _ _ _ _ _) _ ?_ ?_) <;> conv => whnf | (refine caseB_intro (fun h => ?_) (fun h => ?_) <;> (try simp only [Bool.not_eq_true', Bool.not_eq_false', decide_eq_true_eq, decide_eq_false_iff_not] at h) <;> conv => whnf))
    · exfalso
      have h : ¬ y8.1.c.pins = IntKind.i64.wrap (y9.1.c.pins + d) := h
      apply h
      rw [e8, e9]
      have hq := hp.q
      show e.pins + d = _
      exact (wrap_id (by omega) (by omega)).symm
    · exact ⟨_, PH.Le.refl _, rfl, (((L4.trans lA).trans N7.le).trans N8.le).trans l9⟩
    have h0 : swF x.c k = 0 := h
    obtain ⟨hf, hl⟩ := swF_0 h0
    have fx := free_of hf
    have ft := touch_free fx hl
    have tl := touch_look fx hl
    have tw := touch_twice fx hl
    have tR : touchR x.c k = touchS x.c k := by unfold touchR; rw [if_pos h0]
    have tc : t.c = touchS x.c k := by rw [et, tR]
    have tcost : t.c.cost ≤ 1048576 := by rw [et]; exact touchR_cost k (by omega)
    have s2 : swF (touchS x.c k) k = 0 := by
      obtain ⟨e', he'⟩ := Option.isSome_iff_exists.1 tl
      exact (swF_some ft.ok he').1
    obtain ⟨e0, he0⟩ := Option.isSome_iff_exists.1 hl
    have pm := touch_perm fx.a he0
    have LN : M4.Le M9 := ((lA.trans N7.le).trans N8.le).trans l9
    have Dt := Dt.mono LN
    have hx := hx4.mono LN
    have ag := touchEntry_impl t.sta k M9 Dt.inn (by rw [t.sta_c]; exact tcost)
    rw [t.sta_val, t.sta_c, tc, s2] at ag
    refine ACall.step ag fun r K1 hh => ?_
    obtain ⟨s8, rfl, e8, N8'⟩ := hh
    have e8 : s8.c = touchS x.c k := by rw [e8]; unfold touchR; rw [if_pos s2, tw]
    have Dt := Dt.mono N8'.le
    have hx := hx.mono N8'.le
    have bt : Bok t.c := by rw [et]; exact bok_touchR k hxy
    have b8 : Bok s8.c := by rw [e8, ← tc]; exact bt
    conv => whnf
    have sf := storeFault_impl t.sta K1 Dt.inn (by rw [t.sta_c]; exact tcost)
    rw [t.sta_val, t.sta_c, tc, ft.ok] at sf
    have c1 := costIn_impl t.sta K1 Dt.inn (by rw [t.sta_c]; exact tcost)
    have hc1 : costInR (touchS x.c k) = ⟨0, eCosts x.c.all⟩ := by unfold costInR; rw [if_pos ft.ok, eCosts_perm pm]
    rw [t.sta_val, t.sta_c, tc, hc1] at c1
    have c2 := costIn_impl x K1 hx (by omega)
    have hc2 : costInR x.c = ⟨0, eCosts x.c.all⟩ := by unfold costInR; rw [if_pos hf]
    rw [hc2] at c2
    have ss := sameStores_impl s8.sta t.sta K1 N8'.d.inn Dt.inn (by rw [s8.sta_c, e8, ← tc]; exact tcost) (Sob.of (by rw [s8.sta_c]; exact b8)) (Sob.of (by rw [t.sta_c]; exact bt))
    rw [s8.sta_val, t.sta_val, s8.sta_c, t.sta_c, sameB_true (by rw [e8, tc])] at ss
    have hlen : t.p1.length + t.p2.length = x.tr.length + x.kp.length := by
      have h1 := pm.length_eq
      rw [← tc] at h1
      have h2 : t.c.all.length = t.p1.length + t.p2.length := by
        show (t.p1.map (·.1.c) ++ t.p2.map (·.1.c)).length = _
        rw [List.length_append, List.length_map, List.length_map]
      have h3 : x.c.all.length = x.tr.length + x.kp.length := by
        show (conts x.tr ++ conts x.kp).length = _
        unfold conts
        rw [List.length_append, List.length_map, List.length_map]
      omega
    have hwl : IntKind.i64.wrap ((t.p1.length : Int) + (t.p2.length : Int)) = IntKind.i64.wrap ((x.tr.length : Int) + (x.kp.length : Int)) := by
      rw [show (t.p1.length : Int) + (t.p2.length : Int) = (x.tr.length : Int) + (x.kp.length : Int) by omega]
    have tsp := touchEntry_spec x k K1 hx (by omega)
    rw [h0] at tsp
    repeat' (first | (refine ⟨⟨[], rfl⟩, _, PH.Le.refl _, PH.Le.refl _, ?_⟩; conv => whnf) | (refine caseB_true ?_; conv => whnf) | (refine caseB_false ?_; conv => whnf) | ((with_reducible refine caseB_dec (fun h => ?_) (fun h => ?_)) <;> conv => whnf) | ((with_reducible refine caseB_ndec (fun h => ?_) (fun h => ?_)) <;> conv => whnf) | ((with_reducible refine caseB_not (fun h => ?_) (fun h => ?_)) <;> conv => whnf) | (refine Ret.go (sf) ?_; conv => whnf) | (refine Ret.go (c1) ?_; conv => whnf) | (refine Ret.go (c2) ?_; conv => whnf) | (refine Ret.go (ss) ?_; conv => whnf) | (refine draw_rule (.light 0 <| .light 1 <| .light 2 <| .light 3 <| .alt 4 false (.light 5 <| .light 6 <| .light 7 <| .light 8 <| .light 9 <| .light 10 <| .light 11 <| .light 12 <| .alt 13 false (.light 14 <| .light 15 <| .light 16 <| .done) .nil) .nil) (by decide +kernel) ?_; conv => whnf) | (refine draw_rule (.light 0 <| .light 1 <| .light 2 <| .light 3 <| .light 4 <| .light 5 <| .light 6 <| .light 7 <| .light 8 <| .light 11 <| .alt 9 false (.light 10 <| .alt 12 false (.light 13 <| .light 14 <| .light 15 <| .light 16 <| .light 17 <| .light 21 <| .light 22 <| .light 26 <| .alt 18 false (.light 19 <| .light 20 <| .alt 23 false (.light 24 <| .light 25 <| .light 27 <| .light 28 <| .light 29 <| .light 30 <| .done) .nil) .nil) .nil) .nil) (by decide +kernel) ?_; conv => whnf) | (refine draw_rule (.light 0 <| .light 1 <| .alt 2 false (.light 3 <| .light 4 <| .light 5 <| .light 6 <| .light 8 <| .alt 7 false (.alt 9 false (.light 10 <| .light 11 <| .light 12 <| .light 13 <| .light 14 <| .light 15 <| .light 16 <| .light 17 <| .light 18 <| .light 19 <| .light 20 <| .light 21 <| .light 22 <| .light 23 <| .light 24 <| .light 25 <| .light 26 <| .light 27 <| .light 28 <| .light 29 <| .light 30 <| .light 31 <| .light 32 <| .light 33 <| .light 34 <| .light 35 <| .light 36 <| .light 37 <| .light 38 <| .light 39 <| .light 40 <| .alt 41 false (.light 42 <| .light 43 <| .light 44 <| .light 45 <| .light 46 <| .light 47 <| .alt 48 false (.light 49 <| .alt 50 false (.light 51 <| .light 52 <| .done) .nil) .nil) .nil) .nil) .nil) .nil) (by decide +kernel) ?_; conv => whnf) | (with_reducible refine @And.intro (guardVC _ _ _ _ _) _ ?_ ?_) <;> conv => whnf | (refine caseB_intro (fun h => ?_) (fun h => ?_) <;> (try simp only [Bool.not_eq_true', Bool.not_eq_false', decide_eq_true_eq, decide_eq_false_iff_not] at h) <;> conv => whnf))
    · refine ACall.step tsp fun r K2 hh => ?_
      obtain ⟨s9, rfl, e9', N9'⟩ := hh
      (first | (refine ⟨⟨[], rfl⟩, _, N9'.le, PH.Le.refl _, ?_⟩; conv => whnf) | (refine ⟨⟨_, rfl⟩, _, N9'.le, PH.Le.refl _, ?_⟩; conv => whnf) | conv => whnf)
      have ss2 := sameStores_spec t.sta s9.sta K2 (Dt.mono N9'.le).inn N9'.d.inn (by rw [t.sta_c]; exact tcost) (Sob.of (by rw [t.sta_c]; exact bt)) (Sob.of (by rw [s9.sta_c, e9', ← et]; exact bt))
      rw [s9.sta_val, t.sta_val, s9.sta_c, t.sta_c, sameB_true (by rw [e9', et])] at ss2
      repeat' (first | (refine ⟨⟨[], rfl⟩, _, PH.Le.refl _, PH.Le.refl _, ?_⟩; conv => whnf) | (refine caseB_true ?_; conv => whnf) | (refine caseB_false ?_; conv => whnf) | ((with_reducible refine caseB_dec (fun h => ?_) (fun h => ?_)) <;> conv => whnf) | ((with_reducible refine caseB_ndec (fun h => ?_) (fun h => ?_)) <;> conv => whnf) | ((with_reducible refine caseB_not (fun h => ?_) (fun h => ?_)) <;> conv => whnf) | (refine Ret.go (ss2) ?_; conv => whnf) | (refine draw_rule (.light 0 <| .light 1 <| .light 2 <| .light 3 <| .alt 4 false (.light 5 <| .light 6 <| .light 7 <| .light 8 <| .light 9 <| .light 10 <| .light 11 <| .light 12 <| .alt 13 false (.light 14 <| .light 15 <| .light 16 <| .done) .nil) .nil) (by decide +kernel) ?_; conv => whnf) | (refine draw_rule (.light 0 <| .light 1 <| .light 2 <| .light 3 <| .light 4 <| .light 5 <| .light 6 <| .light 7 <| .light 8 <| .light 11 <| .alt 9 false (.light 10 <| .alt 12 false (.light 13 <| .light 14 <| .light 15 <| .light 16 <| .light 17 <| .light 21 <| .light 22 <| .light 26 <| .alt 18 false (.light 19 <| .light 20 <| .alt 23 false (.light 24 <| .light 25 <| .light 27 <| .light 28 <| .light 29 <| .light 30 <| .done) .nil) .nil) .nil) .nil) (by decide +kernel) ?_; conv => whnf) | (refine draw_rule (.light 0 <| .light 1 <| .alt 2 false (.light 3 <| .light 4 <| .light 5 <| .light 6 <| .light 8 <| .alt 7 false (.alt 9 false (.light 10 <| .light 11 <| .light 12 <| .light 13 <| .light 14 <| .light 15 <| .light 16 <| .light 17 <| .light 18 <| .light 19 <| .light 20 <| .light 21 <| .light 22 <| .light 23 <| .light 24 <| .light 25 <| .light 26 <| .light 27 <| .light 28 <| .light 29 <| .light 30 <| .light 31 <| .light 32 <| .light 33 <| .light 34 <| .light 35 <| .light 36 <| .light 37 <| .light 38 <| .light 39 <| .light 40 <| .alt 41 false (.light 42 <| .light 43 <| .light 44 <| .light 45 <| .light 46 <| .light 47 <| .alt 48 false (.light 49 <| .alt 50 false (.light 51 <| .light 52 <| .done) .nil) .nil) .nil) .nil) .nil) .nil) (by decide +kernel) ?_; conv => whnf) | (with_reducible refine @And.intro (guardVC _ _ _ _ _) _ ?_ ?_) <;> conv => whnf | (refine caseB_intro (fun h => ?_) (fun h => ?_) <;> (try simp only [Bool.not_eq_true', Bool.not_eq_false', decide_eq_true_eq, decide_eq_false_iff_not] at h) <;> conv => whnf))
      exact ⟨_, PH.Le.refl _, rfl, ((L4.trans LN).trans N8'.le).trans N9'.le⟩
    · exact absurd hwl h
    · exfalso; simp at h

  · exact ⟨_, PH.Le.refl _, rfl, (L4.trans N5.le).trans l6⟩
  · have hdummy : True := trivial
    have h0 : swF x.c k = 0 := h
    obtain ⟨hf, hl⟩ := swF_0 h0
    have fx := free_of hf
    have ft := touch_free fx hl
    have tl := touch_look fx hl
    have tw := touch_twice fx hl
    have tR : touchR x.c k = touchS x.c k := by unfold touchR; rw [if_pos h0]
    have tc : t.c = touchS x.c k := by rw [et, tR]
    have tcost : t.c.cost ≤ 1048576 := by rw [et]; exact touchR_cost k (by omega)
    have s2 : swF (touchS x.c k) k = 0 := by
      obtain ⟨e', he'⟩ := Option.isSome_iff_exists.1 tl
      exact (swF_some ft.ok he').1
    obtain ⟨e0, he0⟩ := Option.isSome_iff_exists.1 hl
    have pm := touch_perm fx.a he0
    have LN : M4.Le M6 := N5.le.trans l6
    have Dt := Dt.mono LN
    have hx := hx4.mono LN
    have ag := touchEntry_impl t.sta k M6 Dt.inn (by rw [t.sta_c]; exact tcost)
    rw [t.sta_val, t.sta_c, tc, s2] at ag
    refine ACall.step ag fun r K1 hh => ?_
    obtain ⟨s8, rfl, e8, N8'⟩ := hh
    have e8 : s8.c = touchS x.c k := by rw [e8]; unfold touchR; rw [if_pos s2, tw]
    have Dt := Dt.mono N8'.le
    have hx := hx.mono N8'.le
    have bt : Bok t.c := by rw [et]; exact bok_touchR k hxy
    have b8 : Bok s8.c := by rw [e8, ← tc]; exact bt
    conv => whnf
    have sf := storeFault_impl t.sta K1 Dt.inn (by rw [t.sta_c]; exact tcost)
    rw [t.sta_val, t.sta_c, tc, ft.ok] at sf
    have c1 := costIn_impl t.sta K1 Dt.inn (by rw [t.sta_c]; exact tcost)
    have hc1 : costInR (touchS x.c k) = ⟨0, eCosts x.c.all⟩ := by unfold costInR; rw [if_pos ft.ok, eCosts_perm pm]
    rw [t.sta_val, t.sta_c, tc, hc1] at c1
    have c2 := costIn_impl x K1 hx (by omega)
    have hc2 : costInR x.c = ⟨0, eCosts x.c.all⟩ := by unfold costInR; rw [if_pos hf]
    rw [hc2] at c2
    have ss := sameStores_impl s8.sta t.sta K1 N8'.d.inn Dt.inn (by rw [s8.sta_c, e8, ← tc]; exact tcost) (Sob.of (by rw [s8.sta_c]; exact b8)) (Sob.of (by rw [t.sta_c]; exact bt))
    rw [s8.sta_val, t.sta_val, s8.sta_c, t.sta_c, sameB_true (by rw [e8, tc])] at ss
    have hlen : t.p1.length + t.p2.length = x.tr.length + x.kp.length := by
      have h1 := pm.length_eq
      rw [← tc] at h1
      have h2 : t.c.all.length = t.p1.length + t.p2.length := by
        show (t.p1.map (·.1.c) ++ t.p2.map (·.1.c)).length = _
        rw [List.length_append, List.length_map, List.length_map]
      have h3 : x.c.all.length = x.tr.length + x.kp.length := by
        show (conts x.tr ++ conts x.kp).length = _
        unfold conts
        rw [List.length_append, List.length_map, List.length_map]
      omega
    have hwl : IntKind.i64.wrap ((t.p1.length : Int) + (t.p2.length : Int)) = IntKind.i64.wrap ((x.tr.length : Int) + (x.kp.length : Int)) := by
      rw [show (t.p1.length : Int) + (t.p2.length : Int) = (x.tr.length : Int) + (x.kp.length : Int) by omega]
    have tsp := touchEntry_spec x k K1 hx (by omega)
    rw [h0] at tsp
    repeat' (first | (refine ⟨⟨[], rfl⟩, _, PH.Le.refl _, PH.Le.refl _, ?_⟩; conv => whnf) | (refine caseB_true ?_; conv => whnf) | (refine caseB_false ?_; conv => whnf) | ((with_reducible refine caseB_dec (fun h => ?_) (fun h => ?_)) <;> conv => whnf) | ((with_reducible refine caseB_ndec (fun h => ?_) (fun h => ?_)) <;> conv => whnf) | ((with_reducible refine caseB_not (fun h => ?_) (fun h => ?_)) <;> conv => whnf) | (refine Ret.go (sf) ?_; conv => whnf) | (refine Ret.go (c1) ?_; conv => whnf) | (refine Ret.go (c2) ?_; conv => whnf) | (refine Ret.go (ss) ?_; conv => whnf) | (refine draw_rule (.light 0 <| .light 1 <| .light 2 <| .light 3 <| .alt 4 false (.light 5 <| .light 6 <| .light 7 <| .light 8 <| .light 9 <| .light 10 <| .light 11 <| .light 12 <| .alt 13 false (.light 14 <| .light 15 <| .light 16 <| .done) .nil) .nil) (by decide +kernel) ?_; conv => whnf) | (refine draw_rule (.light 0 <| .light 1 <| .light 2 <| .light 3 <| .light 4 <| .light 5 <| .light 6 <| .light 7 <| .light 8 <| .light 11 <| .alt 9 false (.light 10 <| .alt 12 false (.light 13 <| .light 14 <| .light 15 <| .light 16 <| .light 17 <| .light 21 <| .light 22 <| .light 26 <| .alt 18 false (.light 19 <| .light 20 <| .alt 23 false (.light 24 <| .light 25 <| .light 27 <| .light 28 <| .light 29 <| .light 30 <| .done) .nil) .nil) .nil) .nil) (by decide +kernel) ?_; conv => whnf) | (refine draw_rule (.light 0 <| .light 1 <| .alt 2 false (.light 3 <| .light 4 <| .light 5 <| .light 6 <| .light 8 <| .alt 7 false (.alt 9 false (.light 10 <| .light 11 <| .light 12 <| .light 13 <| .light 14 <| .light 15 <| .light 16 <| .light 17 <| .light 18 <| .light 19 <| .light 20 <| .light 21 <| .light 22 <| .light 23 <| .light 24 <| .light 25 <| .light 26 <| .light 27 <| .light 28 <| .light 29 <| .light 30 <| .light 31 <| .light 32 <| .light 33 <| .light 34 <| .light 35 <| .light 36 <| .light 37 <| .light 38 <| .light 39 <| .light 40 <| .alt 41 false (.light 42 <| .light 43 <| .light 44 <| .light 45 <| .light 46 <| .light 47 <| .alt 48 false (.light 49 <| .alt 50 false (.light 51 <| .light 52 <| .done) .nil) .nil) .nil) .nil) .nil) .nil) (by decide +kernel) ?_; conv => whnf) | (with_reducible refine @And.intro (guardVC _ _ _ _ _) _ ?_ ?_) <;> conv => whnf | (refine caseB_intro (fun h => ?_) (fun h => ?_) <;> (try simp only [Bool.not_eq_true', Bool.not_eq_false', decide_eq_true_eq, decide_eq_false_iff_not] at h) <;> conv => whnf))
    · refine ACall.step tsp fun r K2 hh => ?_
      obtain ⟨s9, rfl, e9', N9'⟩ := hh
      (first | (refine ⟨⟨[], rfl⟩, _, N9'.le, PH.Le.refl _, ?_⟩; conv => whnf) | (refine ⟨⟨_, rfl⟩, _, N9'.le, PH.Le.refl _, ?_⟩; conv => whnf) | conv => whnf)
      have ss2 := sameStores_spec t.sta s9.sta K2 (Dt.mono N9'.le).inn N9'.d.inn (by rw [t.sta_c]; exact tcost) (Sob.of (by rw [t.sta_c]; exact bt)) (Sob.of (by rw [s9.sta_c, e9', ← et]; exact bt))
      rw [s9.sta_val, t.sta_val, s9.sta_c, t.sta_c, sameB_true (by rw [e9', et])] at ss2
      repeat' (first | (refine ⟨⟨[], rfl⟩, _, PH.Le.refl _, PH.Le.refl _, ?_⟩; conv => whnf) | (refine caseB_true ?_; conv => whnf) | (refine caseB_false ?_; conv => whnf) | ((with_reducible refine caseB_dec (fun h => ?_) (fun h => ?_)) <;> conv => whnf) | ((with_reducible refine caseB_ndec (fun h => ?_) (fun h => ?_)) <;> conv => whnf) | ((with_reducible refine caseB_not (fun h => ?_) (fun h => ?_)) <;> conv => whnf) | (refine Ret.go (ss2) ?_; conv => whnf) | (refine draw_rule (.light 0 <| .light 1 <| .light 2 <| .light 3 <| .alt 4 false (.light 5 <| .light 6 <| .light 7 <| .light 8 <| .light 9 <| .light 10 <| .light 11 <| .light 12 <| .alt 13 false (.light 14 <| .light 15 <| .light 16 <| .done) .nil) .nil) (by decide +kernel) ?_; conv => whnf) | (refine draw_rule (.light 0 <| .light 1 <| .light 2 <| .light 3 <| .light 4 <| .light 5 <| .light 6 <| .light 7 <| .light 8 <| .light 11 <| .alt 9 false (.light 10 <| .alt 12 false (.light 13 <| .light 14 <| .light 15 <| .light 16 <| .light 17 <| .light 21 <| .light 22 <| .light 26 <| .alt 18 false (.light 19 <| .light 20 <| .alt 23 false (.light 24 <| .light 25 <| .light 27 <| .light 28 <| .light 29 <| .light 30 <| .done) .nil) .nil) .nil) .nil) (by decide +kernel) ?_; conv => whnf) | (refine draw_rule (.light 0 <| .light 1 <| .alt 2 false (.light 3 <| .light 4 <| .light 5 <| .light 6 <| .light 8 <| .alt 7 false (.alt 9 false (.light 10 <| .light 11 <| .light 12 <| .light 13 <| .light 14 <| .light 15 <| .light 16 <| .light 17 <| .light 18 <| .light 19 <| .light 20 <| .light 21 <| .light 22 <| .light 23 <| .light 24 <| .light 25 <| .light 26 <| .light 27 <| .light 28 <| .light 29 <| .light 30 <| .light 31 <| .light 32 <| .light 33 <| .light 34 <| .light 35 <| .light 36 <| .light 37 <| .light 38 <| .light 39 <| .light 40 <| .alt 41 false (.light 42 <| .light 43 <| .light 44 <| .light 45 <| .light 46 <| .light 47 <| .alt 48 false (.light 49 <| .alt 50 false (.light 51 <| .light 52 <| .done) .nil) .nil) .nil) .nil) .nil) .nil) (by decide +kernel) ?_; conv => whnf) | (with_reducible refine @And.intro (guardVC _ _ _ _ _) _ ?_ ?_) <;> conv => whnf | (refine caseB_intro (fun h => ?_) (fun h => ?_) <;> (try simp only [Bool.not_eq_true', Bool.not_eq_false', decide_eq_true_eq, decide_eq_false_iff_not] at h) <;> conv => whnf))
      exact ⟨_, PH.Le.refl _, rfl, ((L4.trans LN).trans N8'.le).trans N9'.le⟩
    · exact absurd hwl h
    · exfalso; simp at h

end Go.Proofs.YtgjaiabenjafeaaGreatDoor
