/-
  THE LAW: after a hard purge nothing of it is there; after a soft one nothing of it is fresh.
-/
import Derived.Test.YtgjaiabenjafeaaGreatDoorGa
import Derived.Test.YtgjaiabenjafeaaGreatDoorFd
import Derived.Test.YtgjaiabenjafeaaGreatDoorPb
namespace Go.Proofs.YtgjaiabenjafeaaGreatDoor
set_option maxRecDepth 100000
set_option linter.unusedSimpArgs false
set_option linter.unusedVariables false
open Go.Xe
theorem SobC.of {x : StA} (h : Bok x.c) : Sob x := ⟨fun z hz => h z.c (List.mem_append_left _ (List.mem_map.2 ⟨z, hz, rfl⟩)), fun z hz => h z.c (List.mem_append_right _ (List.mem_map.2 ⟨z, hz, rfl⟩))⟩
theorem bok_purge {s : Sc} (ks : List ByteArray) (hard : Bool) (h : Bok s) : Bok (purgeS s ks hard) := fun x hx => by
  cases hard with
  | true =>
    rw [purge_hard, out_all] at hx
    exact h x (List.mem_filter.1 hx).1
  | false =>
    have hx : x ∈ (softS s ks).all := hx
    rw [soft_all] at hx
    obtain ⟨y, hy, rfl⟩ := List.mem_map.1 hx
    have : (if tagT ks y.key = true then soft1 y else y).body = y.body := by split <;> rfl
    rw [this]
    exact h y hy
abbrev pgBox (k : Int) (s : So) (A : Option Addr) (n c : Nat) : Box := ⟨57, [.v (I k), .v (I s.b), .v (I s.g), .v (.slice s.A1 s.p1.length s.c1), .v (.slice s.A2 s.p2.length s.c2), .v (.slice A n c)]⟩
abbrev nmBox (k : Int) (A : Option Addr) (n c : Nat) : Box := ⟨60, [.v (I k), .v (.slice A n c)]⟩
theorem so_all_len (s : So) : s.c.all.length = s.p1.length + s.p2.length := by
  show (s.p1.map (·.1.c) ++ s.p2.map (·.1.c)).length = _
  rw [List.length_append, List.length_map, List.length_map]
theorem sta_all_len (x : StA) : x.c.all.length = x.tr.length + x.kp.length := by
  show (conts x.tr ++ conts x.kp).length = _
  unfold conts
  rw [List.length_append, List.length_map, List.length_map]
theorem conts_len_le (x : StA) : x.c.cost ≤ 60000 → x.tr.length + x.kp.length ≤ 60000 := fun h => by
  have h1 := costL_len En.cost (conts x.tr)
  have h2 := costL_len En.cost (conts x.kp)
  have h3 : costL En.cost (conts x.tr) + costL En.cost (conts x.kp) ≤ 60000 := h
  unfold conts at h1 h2
  rw [List.length_map] at h1 h2
  unfold conts at h3
  omega
set_option maxHeartbeats 8000000 in
theorem purges_law (A : Option Addr) (c : Nat) (bs : List Int) (M : PH) (hs : Sl M A 1 byC bs) (hby : ∀ (i : Nat) b, bs[i]? = some b → 0 ≤ b ∧ b ≤ 255) :
    ACall env 4 [.slice A bs.length c] M fun r M' => r = B true ∧ M.Le M' := by
  refine xcall_of_vc Tryz.func4 rfl _ Tryz.ntmps4 _ rfl (fun _ _ => Tryz.call4 _ _) rfl (fun w0 ρ0 => ?_)
  conv => whnf
  repeat' (first | (refine ⟨⟨[], rfl⟩, _, PH.Le.refl _, PH.Le.refl _, ?_⟩; conv => whnf) | (refine caseB_true ?_; conv => whnf) | (refine caseB_false ?_; conv => whnf) | ((with_reducible refine caseB_dec (fun h => ?_) (fun h => ?_)) <;> conv => whnf) | ((with_reducible refine caseB_ndec (fun h => ?_) (fun h => ?_)) <;> conv => whnf) | ((with_reducible refine caseB_not (fun h => ?_) (fun h => ?_)) <;> conv => whnf) | (refine Ret.go (lwBig_ret A c bs _) ?_; conv => whnf) | (with_reducible refine @And.intro (guardVC _ _ _ _ _) _ ?_ ?_) <;> conv => whnf | (refine caseB_intro (fun h => ?_) (fun h => ?_) <;> (try simp only [Bool.not_eq_true', Bool.not_eq_false', decide_eq_true_eq, decide_eq_false_iff_not] at h) <;> conv => whnf))
  · exact ⟨_, PH.Le.refl _, rfl, PH.Le.refl _⟩
  have hb : Byt M A bs := ⟨hs, by omega, hby⟩
  refine ACall.step (drawPurgeTag_ret A c bs M hb) fun r M1 hh => ?_
  obtain ⟨x, k, hard, rfl, hx, hxc, hxy, l1⟩ := hh
  clear hb hs hby h
  conv => whnf
  refine ACall.step (purgeTag_impl x k hard M1 hx (by omega)) fun r M2 hh => ?_
  obtain ⟨p, o2, A2, c2, rfl, ep, P2⟩ := hh
  have l2 := P2.st.le
  conv => whnf
  refine ACall.step (keysTagged_impl x k M2 (hx.mono l2) (by omega)) fun r M3 hh => ?_
  obtain ⟨o3, A3, c3, rfl, N3⟩ := hh
  have l3 := N3.le
  conv => whnf
  refine ACall.step (purgeAll_impl x hard M3 ((hx.mono l2).mono l3) (by omega)) fun r M4 hh => ?_
  obtain ⟨a, o4, A4, c4, rfl, ea, P4⟩ := hh
  have l4 := P4.st.le
  have hx4 := ((hx.mono l2).mono l3).mono l4
  have P2 := (P2.mono l3).mono l4
  have N3 := N3.to l4
  have L4 := ((l1.trans l2).trans l3).trans l4
  have hkt : kt x.c k = pgK x.c (fun e => tagT e.tags k) := rfl
  have hkl := pgK_len x.c (fun e => tagT e.tags k)
  rw [hkt] at N3 ⊢
  conv => whnf
  have ps := purgeTag_spec x k hard M4 hx4 (by omega)
  have ks : ∀ N, M4.Le N → ACall env 28 [x.val, Tx k] N fun r M' => ∃ o A c, r = nrV (stFault x.c) A (pgK x.c (fun e => tagT e.tags k)).length c ∧ New N M' o A c 1 stC (pgK x.c (fun e => tagT e.tags k)) := fun N l => keysTagged_spec x k N (hx4.mono l) (by omega)
  repeat' (first | (refine ⟨⟨[], rfl⟩, _, PH.Le.refl _, PH.Le.refl _, ?_⟩; conv => whnf) | (refine ACall.step (ks _ l5) fun r M6 hh => ?_; obtain ⟨o6, A6, c6, rfl, N6⟩ := hh; have l6 := N6.le; (first | (refine ⟨⟨[], rfl⟩, _, l6, PH.Le.refl _, ?_⟩; conv => whnf) | (refine ⟨⟨_, rfl⟩, _, l6, PH.Le.refl _, ?_⟩; conv => whnf) | conv => whnf)) | (refine ACall.step ps fun r M5 hh => ?_; obtain ⟨p5, o5, A5, c5, rfl, _, P5⟩ := hh; have l5 := P5.st.le; (first | (refine ⟨⟨[], rfl⟩, _, l5, PH.Le.refl _, ?_⟩; conv => whnf) | (refine ⟨⟨_, rfl⟩, _, l5, PH.Le.refl _, ?_⟩; conv => whnf) | conv => whnf)) | (refine caseB_true ?_; conv => whnf) | (refine caseB_false ?_; conv => whnf) | ((with_reducible refine caseB_dec (fun h => ?_) (fun h => ?_)) <;> conv => whnf) | ((with_reducible refine caseB_ndec (fun h => ?_) (fun h => ?_)) <;> conv => whnf) | ((with_reducible refine caseB_not (fun h => ?_) (fun h => ?_)) <;> conv => whnf) | (refine Ret.go (lwTexts_ret A2 A6 c2 c6 (pgK x.c (fun e => tagT e.tags k)) _ (((P2.w.sl st_len).mono l5).mono l6) (N6.ow.sl st_len) (by omega)) ?_; conv => whnf) | (refine Ret.go (lwTexts_ret A3 A2 c3 c2 (pgK x.c (fun e => tagT e.tags k)) _ (((N3.ow.sl st_len).mono l5).mono l6) (((P2.w.sl st_len).mono l5).mono l6) (by omega)) ?_; conv => whnf) | (refine draw_rule (.light 0 <| .light 1 <| .light 2 <| .light 3 <| .light 4 <| .alt 5 false (.light 6 <| .light 7 <| .light 8 <| .light 9 <| .light 10 <| .light 11 <| .light 12 <| .light 13 <| .light 14 <| .light 15 <| .light 16 <| .light 17 <| .light 18 <| .light 19 <| .light 20 <| .light 21 <| .light 22 <| .light 23 <| .light 24 <| .light 25 <| .light 26 <| .alt 27 false (.light 28 <| .alt 29 false (.light 30 <| .light 31 <| .light 32 <| .light 33 <| .light 34 <| .light 35 <| .light 36 <| .alt 37 false (.light 38 <| .light 39 <| .done) .nil) .nil) .nil) .nil) (by decide +kernel) ?_; conv => whnf) | (refine draw_rule (.light 0 <| .light 1 <| .light 2 <| .light 3 <| .light 4 <| .light 5 <| .light 6 <| .alt 7 false (.alt 8 false (.alt 9 true (.done) .nil) .nil) (.alt 8 false (.alt 7 false (.alt 9 true (.done) .nil) .nil) .nil)) (by decide +kernel) ?_; conv => whnf) | (refine draw_rule (.light 0 <| .light 1 <| .light 2 <| .light 3 <| .light 4 <| .light 5 <| .light 6 <| .alt 7 false (.alt 8 false (.alt 9 true (.done) .nil) .nil) (.alt 8 false (.alt 7 false (.alt 9 true (.done) .nil) .nil) .nil)) (by decide +kernel) ?_; conv => whnf) | (with_reducible refine @And.intro (guardVC _ _ _ _ _) _ ?_ ?_) <;> conv => whnf | (refine caseB_intro (fun h => ?_) (fun h => ?_) <;> (try simp only [Bool.not_eq_true', Bool.not_eq_false', decide_eq_true_eq, decide_eq_false_iff_not] at h) <;> conv => whnf))
  all_goals first | (exfalso; exact absurd rfl h; done) | skip
  · exact ⟨_, PH.Le.refl _, rfl, (L4.trans l5).trans l6⟩
  have hf : stFault x.c = 0 := h
  have fx := free_of hf
  have eK : pgK x.c (fun e => tagT e.tags k) = keysL (fun e => tagT e.tags k) x.c.all := by unfold pgK; rw [if_pos hf]
  have ep : p.c = purgeS x.c (keysL (fun e => tagT e.tags k) x.c.all) hard := by rw [ep]; unfold pgS; rw [if_pos hf]
  have ea : a.c = purgeS x.c (keysL (fun _ => true) x.c.all) hard := by rw [ea]; unfold pgS; rw [if_pos hf]
  have eL : pgK x.c (fun _ => true) = keysL (fun _ => true) x.c.all := by unfold pgK; rw [if_pos hf]
  have hLl := keysL_true x.c.all
  have hol := out_len (fun e => tagT e.tags k) fx.a
  have hol2 := out_len (fun _ => true) fx.a
  have hmem : ∀ z ∈ keysL (fun e => tagT e.tags k) x.c.all, ∃ e ∈ x.c.all, e.key = z := fun z hz => keysL_mem hz
  have hnd : ∀ i, ∀ h : i < (keysL (fun e => tagT e.tags k) x.c.all).length, (keysL (fun e => tagT e.tags k) x.c.all)[i] ∉ (keysL (fun e => tagT e.tags k) x.c.all).take i := fun i h => keysL_nodup fx.a h
  rw [eK] at P2 hkl ⊢
  rw [eL] at P4 ⊢
  clear N3 N6 P5 ks ps eK eL
  generalize hKd : keysL (fun e => tagT e.tags k) x.c.all = K at *
  have hfp : Free p.c := by rw [ep]; exact purge_free fx K hard
  have hpc : p.c.cost ≤ 60000 := by rw [ep]; exact Nat.le_trans (purgeS_cost _ _ _) hxc
  have LL := (L4.trans l5).trans l6
  have P2 := (P2.mono l5).mono l6
  have P4 := (P4.mono l5).mono l6
  have hx6 := (hx4.mono l5).mono l6
  have w2 := P2.w.sl st_len
  have hbp : Bok p.c := by rw [ep]; exact bok_purge K hard hxy
  refine loop_rule (fun z : Nat × StA => ⟨slots 205 [(2, .v (B false)), (3, .bp 0 0), (4, .v (Tx k)), (5, .v (B hard)), (6, .bp 1 0), (7, .bp 2 0), (8, .bp 3 0), (9, .bp 4 0), (10, .v (I z.1))], [stBox x, pgBox (stFault x.c) p A2 K.length c2, nmBox (stFault x.c) A3 K.length c3, pgBox (stFault x.c) a A4 (keysL (fun _ => true) x.c.all).length c4, stBox z.2]⟩)
    (fun z M' => z.1 ≤ K.length ∧ M6.Le M' ∧ z.2.inn M' ∧ z.2.c = purgeS x.c (K.take z.1) hard) (fun z => K.length - z.1) (0, x) ?_ ?_ ?_
  · exact ⟨by simp [slots, leT], ⟨[], rfl⟩, Nat.zero_le _, rfl, rfl⟩
  · refine ⟨Nat.zero_le _, PH.Le.refl _, hx6, ?_⟩
    show x.c = purgeS x.c [] hard
    cases hard with
    | true => rw [purge_hard, outS_nil]
    | false => show x.c = softS x.c []; unfold softS; rw [softK_nil, softK_nil]
  rintro ⟨i, nw⟩ M7 ⟨hi, l7, hnw, enw⟩
  have hi : i ≤ K.length := hi
  have hnw : nw.inn M7 := hnw
  have enw : nw.c = purgeS x.c (K.take i) hard := enw
  have l7 : M6.Le M7 := l7
  have Dp := P2.st.d.mono l7
  have w7 := w2.mono l7
  have fnw : Free nw.c := by rw [enw]; exact purge_free fx _ hard
  have cnw : nw.c.cost ≤ 60000 := by rw [enw]; exact Nat.le_trans (purgeS_cost _ _ _) hxc
  conv => whnf
  refine caseB_dec (fun hb2 => ?_) (fun hb2 => ?_)
  · have hi' : i < K.length := by have hb2 : (i : Int) < K.length := hb2; omega
    have hw : IntKind.i64.wrap ((i : Int) + 1) = (i : Int) + 1 := wr_id (by omega) (by omega)
    obtain ⟨hA, _, hc⟩ := w7.get hi'
    have hzm := hmem _ (List.getElem_mem hi')
    have hzi : K[i] ∈ K := List.getElem_mem hi'
    have hzn := hnd i hi'
    have htk : K.take (i + 1) = K.take i ++ [K[i]] := List.take_succ_eq_append_getElem hi'
    generalize K[i] = z at *
    have hb1 : (0 : Int) ≤ (i : Int) := by omega
    have hpk : ACall env 29 [p.val, Tx z] M7 fun r M' => ∃ y : EP, r = erV (if hard then 4 else 0) y.1 ∧ (hard = false → y.1.c.mt.soft = true) ∧ M7.Le M' := by
      have := peekEntry_impl p.sta z M7 Dp.inn (by rw [p.sta_c]; omega)
      rw [p.sta_val, p.sta_c] at this
      cases hard with
      | true =>
        have hn := swF_none hfp.ok (by rw [ep]; exact purge_gone hzi : look p.c.all z = none)
        rw [hn] at this
        exact this.mono fun r M' ⟨y, h1, h2, h3⟩ => ⟨y, h1, fun h => (by cases h), h3.le⟩
      | false =>
        obtain ⟨e, he, hes⟩ := purge_is_soft hzm hzi
        have hn := swF_some hfp.ok (by rw [ep]; exact he : look p.c.all z = some e)
        rw [hn.1, hn.2] at this
        exact this.mono fun r M' ⟨y, h1, h2, h3⟩ => ⟨y, h1, fun _ => by rw [h2]; exact hes, h3.le⟩
    have hpg : ∀ N, M7.Le N → ACall env 30 [nw.val, Tx z, B hard] N fun r M' => ∃ s o A c, r = prV 0 s A 1 c ∧ s.c = purgeS x.c (K.take (i + 1)) hard ∧ NewS N M' s := fun N l => by
      have := purgeKey_impl nw z hard N (hnw.mono l) (by omega)
      have hk1 : pgK nw.c (fun e => seq e.key z) = [z] := by
        unfold pgK
        rw [if_pos fnw.ok, keysL_one fnw.a, if_pos]
        rw [enw]
        exact purge_there hard hzm hzn
      have hk2 : pgS nw.c (fun e => seq e.key z) hard = purgeS x.c (K.take (i + 1)) hard := by
        have h1 : keysL (fun e => seq e.key z) nw.c.all = [z] := by
          have := hk1
          unfold pgK at this
          rw [if_pos fnw.ok] at this
          exact this
        unfold pgS
        rw [if_pos fnw.ok, h1, enw, purge_step, htk]
      rw [fnw.ok, hk1, hk2] at this
      exact this.mono fun r M' ⟨s, o, A, c, h1, h2, h3⟩ => ⟨s, o, A, c, h1, h2, h3.st⟩
    conv => whnf
    repeat' (first | (refine ⟨⟨[], rfl⟩, _, PH.Le.refl _, PH.Le.refl _, ?_⟩; conv => whnf) | (refine ⟨⟨_, rfl⟩, _, PH.Le.refl _, PH.Le.refl _, ?_⟩; conv => whnf) | (refine ACall.step hpk fun r M8 hh => ?_; obtain ⟨y8, rfl, hy8, l8⟩ := hh; (first | (refine ⟨⟨[], rfl⟩, _, l8, PH.Le.refl _, ?_⟩; conv => whnf) | (refine ⟨⟨_, rfl⟩, _, l8, PH.Le.refl _, ?_⟩; conv => whnf) | conv => whnf)) | (refine ACall.step (hpg _ l8) fun r M9 hh => ?_; obtain ⟨s9, o9, A9, c9, rfl, e9, N9⟩ := hh; have l9 := N9.le; (first | (refine ⟨⟨[], rfl⟩, _, l9, PH.Le.refl _, ?_⟩; conv => whnf) | (refine ⟨⟨_, rfl⟩, _, l9, PH.Le.refl _, ?_⟩; conv => whnf) | conv => whnf)) | (refine ⟨_, l8.cells hc, ?_⟩; conv => whnf) | (refine ⟨_, hc, ?_⟩; conv => whnf) | (refine ⟨hb1, hb2, hA, ?_⟩; conv => whnf) | (refine caseB_true ?_; conv => whnf) | (refine caseB_false ?_; conv => whnf) | ((with_reducible refine caseB_dec (fun h => ?_) (fun h => ?_)) <;> conv => whnf) | ((with_reducible refine caseB_ndec (fun h => ?_) (fun h => ?_)) <;> conv => whnf) | ((with_reducible refine caseB_not (fun h => ?_) (fun h => ?_)) <;> conv => whnf) | (refine draw_rule (.light 0 <| .light 1 <| .light 2 <| .light 3 <| .light 4 <| .alt 5 false (.light 6 <| .light 7 <| .light 8 <| .light 9 <| .light 10 <| .light 11 <| .light 12 <| .light 13 <| .light 14 <| .light 15 <| .light 16 <| .light 17 <| .light 18 <| .light 19 <| .light 20 <| .light 21 <| .light 22 <| .light 23 <| .light 24 <| .light 25 <| .light 26 <| .alt 27 false (.light 28 <| .alt 29 false (.light 30 <| .light 31 <| .light 32 <| .light 33 <| .light 34 <| .light 35 <| .light 36 <| .alt 37 false (.light 38 <| .light 39 <| .done) .nil) .nil) .nil) .nil) (by decide +kernel) ?_; conv => whnf) | (refine draw_rule (.light 0 <| .light 1 <| .light 2 <| .light 3 <| .light 4 <| .light 5 <| .light 6 <| .alt 7 false (.alt 8 false (.alt 9 true (.done) .nil) .nil) (.alt 8 false (.alt 7 false (.alt 9 true (.done) .nil) .nil) .nil)) (by decide +kernel) ?_; conv => whnf) | (refine draw_rule (.light 0 <| .light 1 <| .light 2 <| .light 3 <| .light 4 <| .light 5 <| .light 6 <| .alt 7 false (.alt 8 false (.alt 9 true (.done) .nil) .nil) (.alt 8 false (.alt 7 false (.alt 9 true (.done) .nil) .nil) .nil)) (by decide +kernel) ?_; conv => whnf) | (with_reducible refine @And.intro (guardVC _ _ _ _ _) _ ?_ ?_) <;> conv => whnf | (refine caseB_intro (fun h => ?_) (fun h => ?_) <;> (try simp only [Bool.not_eq_true', Bool.not_eq_false', decide_eq_true_eq, decide_eq_false_iff_not] at h) <;> conv => whnf))
    all_goals cases hard
    all_goals first
      | (exfalso; first | contradiction | (have hsz := hy8 rfl; rename y8.1.c.mt.soft = false => hsf; rw [hsf] at hsz; cases hsz) | exact absurd rfl h | exact absurd (hy8 rfl) (by rw [h]; decide) | (revert h; rw [hy8 rfl]; decide) | (revert h; decide) | cases h; done)
      | exact ⟨(i + 1, s9.sta), ⟨by simp [slots, leT, hw], ⟨[_, _], by rw [soBox_eq]; rfl⟩, Nat.zero_le _, rfl, rfl⟩, ⟨hi', (l7.trans l8).trans l9, N9.d.inn, by rw [s9.sta_c]; exact e9⟩, by show _ - (i+1) < _ - i; omega⟩
      | fail
  · have hiK : i = K.length := by have hb2 : ¬ (i : Int) < K.length := hb2; omega
    rw [hiK, List.take_length] at enw
    have enp : nw.c = p.c := by rw [enw, ep]
    clear hnd hmem
    have hp7 := Dp.inn
    have ss1 := sameStores_impl nw p.sta M7 hnw hp7 (by omega) (SobC.of (by rw [enp]; exact hbp)) (SobC.of (by rw [p.sta_c]; exact hbp))
    rw [p.sta_val, p.sta_c, sameB_true enp] at ss1
    have ss2 := sameStores_spec nw p.sta M7 hnw hp7 (by omega) (SobC.of (by rw [enp]; exact hbp)) (SobC.of (by rw [p.sta_c]; exact hbp))
    rw [p.sta_val, p.sta_c, sameB_true enp] at ss2
    have sf := storeFault_impl p.sta M7 hp7 (by rw [p.sta_c]; omega)
    rw [p.sta_val, p.sta_c, hfp.ok] at sf
    rw [sta_all_len] at hLl hol hol2
    have hq1 := conts_len_le x hxc
    have hLp : p.p1.length + p.p2.length = if hard then x.tr.length + x.kp.length - K.length else x.tr.length + x.kp.length := by
      rw [← so_all_len, ep]
      cases hard with
      | true => rw [purge_hard, out_all]; show (outK x.c.all K).length = x.tr.length + x.kp.length - K.length; omega
      | false =>
        show (softS x.c K).all.length = x.tr.length + x.kp.length
        rw [soft_all, ← sta_all_len]; unfold softK; rw [List.length_map]
    have hLa : hard = true → a.p1.length + a.p2.length = 0 := fun hh => by
      rw [← so_all_len, ea, hh, purge_hard, out_all]; omega
    have w1 : IntKind.i64.wrap ((x.tr.length : Int) + x.kp.length) = (x.tr.length : Int) + x.kp.length := wr_id (by omega) (by omega)
    have w2 : IntKind.i64.wrap ((p.p1.length : Int) + p.p2.length) = (p.p1.length : Int) + p.p2.length := wr_id (by omega) (by split at hLp <;> omega)
    have w3 : hard = true → IntKind.i64.wrap ((a.p1.length : Int) + a.p2.length) = 0 := fun hh => by
      have := hLa hh
      have e : (a.p1.length : Int) + a.p2.length = 0 := by omega
      rw [e]; rfl
    have w4 : IntKind.i64.wrap ((x.tr.length : Int) + x.kp.length - K.length) = (x.tr.length : Int) + x.kp.length - K.length := wr_id (by omega) (by omega)
    cases hard with
    | true =>
      have hLp : p.p1.length + p.p2.length = x.tr.length + x.kp.length - K.length := hLp
      have w3 := w3 rfl
      repeat' (first | (refine ⟨⟨[], rfl⟩, _, PH.Le.refl _, PH.Le.refl _, ?_⟩; conv => whnf) | (refine caseB_true ?_; conv => whnf) | (refine caseB_false ?_; conv => whnf) | ((with_reducible refine caseB_dec (fun h => ?_) (fun h => ?_)) <;> conv => whnf) | ((with_reducible refine caseB_ndec (fun h => ?_) (fun h => ?_)) <;> conv => whnf) | ((with_reducible refine caseB_not (fun h => ?_) (fun h => ?_)) <;> conv => whnf) | (refine Ret.go (ss1) ?_; conv => whnf) | (refine Ret.go (ss2) ?_; conv => whnf) | (refine Ret.go (sf) ?_; conv => whnf) | (refine draw_rule (.light 0 <| .light 1 <| .light 2 <| .light 3 <| .light 4 <| .alt 5 false (.light 6 <| .light 7 <| .light 8 <| .light 9 <| .light 10 <| .light 11 <| .light 12 <| .light 13 <| .light 14 <| .light 15 <| .light 16 <| .light 17 <| .light 18 <| .light 19 <| .light 20 <| .light 21 <| .light 22 <| .light 23 <| .light 24 <| .light 25 <| .light 26 <| .alt 27 false (.light 28 <| .alt 29 false (.light 30 <| .light 31 <| .light 32 <| .light 33 <| .light 34 <| .light 35 <| .light 36 <| .alt 37 false (.light 38 <| .light 39 <| .done) .nil) .nil) .nil) .nil) (by decide +kernel) ?_; conv => whnf) | (refine draw_rule (.light 0 <| .light 1 <| .light 2 <| .light 3 <| .light 4 <| .light 5 <| .light 6 <| .alt 7 false (.alt 8 false (.alt 9 true (.done) .nil) .nil) (.alt 8 false (.alt 7 false (.alt 9 true (.done) .nil) .nil) .nil)) (by decide +kernel) ?_; conv => whnf) | (refine draw_rule (.light 0 <| .light 1 <| .light 2 <| .light 3 <| .light 4 <| .light 5 <| .light 6 <| .alt 7 false (.alt 8 false (.alt 9 true (.done) .nil) .nil) (.alt 8 false (.alt 7 false (.alt 9 true (.done) .nil) .nil) .nil)) (by decide +kernel) ?_; conv => whnf) | (with_reducible refine @And.intro (guardVC _ _ _ _ _) _ ?_ ?_) <;> conv => whnf | (refine caseB_intro (fun h => ?_) (fun h => ?_) <;> (try simp only [Bool.not_eq_true', Bool.not_eq_false', decide_eq_true_eq, decide_eq_false_iff_not] at h) <;> conv => whnf))
      all_goals first
        | (exfalso; contradiction; done)
        | (exfalso; exact absurd rfl h; done)
        | (refine ⟨_, PH.Le.refl _, ?_, LL.trans l7⟩; show B (decide (IntKind.i64.wrap ((a.p1.length : Int) + a.p2.length) = 0)) = B true; rw [w3]; rfl)
        | (exfalso; apply h; show (((keysL (fun _ => true) x.c.all).length : Nat) : Int) = IntKind.i64.wrap ((x.tr.length : Int) + x.kp.length); rw [w1]; omega)
        | (exfalso; apply h; show IntKind.i64.wrap ((p.p1.length : Int) + p.p2.length) = IntKind.i64.wrap (IntKind.i64.wrap ((x.tr.length : Int) + x.kp.length) - K.length); rw [w1, w2, w4]; omega)
        | fail
    | false =>
      have hLp : p.p1.length + p.p2.length = x.tr.length + x.kp.length := hLp
      repeat' (first | (refine ⟨⟨[], rfl⟩, _, PH.Le.refl _, PH.Le.refl _, ?_⟩; conv => whnf) | (refine caseB_true ?_; conv => whnf) | (refine caseB_false ?_; conv => whnf) | ((with_reducible refine caseB_dec (fun h => ?_) (fun h => ?_)) <;> conv => whnf) | ((with_reducible refine caseB_ndec (fun h => ?_) (fun h => ?_)) <;> conv => whnf) | ((with_reducible refine caseB_not (fun h => ?_) (fun h => ?_)) <;> conv => whnf) | (refine Ret.go (ss1) ?_; conv => whnf) | (refine Ret.go (ss2) ?_; conv => whnf) | (refine Ret.go (sf) ?_; conv => whnf) | (refine draw_rule (.light 0 <| .light 1 <| .light 2 <| .light 3 <| .light 4 <| .alt 5 false (.light 6 <| .light 7 <| .light 8 <| .light 9 <| .light 10 <| .light 11 <| .light 12 <| .light 13 <| .light 14 <| .light 15 <| .light 16 <| .light 17 <| .light 18 <| .light 19 <| .light 20 <| .light 21 <| .light 22 <| .light 23 <| .light 24 <| .light 25 <| .light 26 <| .alt 27 false (.light 28 <| .alt 29 false (.light 30 <| .light 31 <| .light 32 <| .light 33 <| .light 34 <| .light 35 <| .light 36 <| .alt 37 false (.light 38 <| .light 39 <| .done) .nil) .nil) .nil) .nil) (by decide +kernel) ?_; conv => whnf) | (refine draw_rule (.light 0 <| .light 1 <| .light 2 <| .light 3 <| .light 4 <| .light 5 <| .light 6 <| .alt 7 false (.alt 8 false (.alt 9 true (.done) .nil) .nil) (.alt 8 false (.alt 7 false (.alt 9 true (.done) .nil) .nil) .nil)) (by decide +kernel) ?_; conv => whnf) | (refine draw_rule (.light 0 <| .light 1 <| .light 2 <| .light 3 <| .light 4 <| .light 5 <| .light 6 <| .alt 7 false (.alt 8 false (.alt 9 true (.done) .nil) .nil) (.alt 8 false (.alt 7 false (.alt 9 true (.done) .nil) .nil) .nil)) (by decide +kernel) ?_; conv => whnf) | (with_reducible refine @And.intro (guardVC _ _ _ _ _) _ ?_ ?_) <;> conv => whnf | (refine caseB_intro (fun h => ?_) (fun h => ?_) <;> (try simp only [Bool.not_eq_true', Bool.not_eq_false', decide_eq_true_eq, decide_eq_false_iff_not] at h) <;> conv => whnf))
      all_goals first
        | (exfalso; contradiction; done)
        | (exfalso; exact absurd rfl h; done)
        | exact ⟨_, PH.Le.refl _, rfl, LL.trans l7⟩
        | (exfalso; apply h; show (((keysL (fun _ => true) x.c.all).length : Nat) : Int) = IntKind.i64.wrap ((x.tr.length : Int) + x.kp.length); rw [w1]; omega)
        | (exfalso; apply h; show IntKind.i64.wrap ((p.p1.length : Int) + p.p2.length) = IntKind.i64.wrap ((x.tr.length : Int) + x.kp.length); rw [w1, w2]; omega)
        | fail
end Go.Proofs.YtgjaiabenjafeaaGreatDoor
