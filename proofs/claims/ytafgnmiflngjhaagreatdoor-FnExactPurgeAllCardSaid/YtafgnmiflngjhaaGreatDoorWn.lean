/-
  CONTRACTS AND THE LAWS: purged, results and the reference's way.
-/
import Derived.Test.YtafgnmiflngjhaaGreatDoorWm
namespace Go.Proofs.YtafgnmiflngjhaaGreatDoor
set_option maxRecDepth 100000
set_option linter.unusedSimpArgs false
set_option linter.unusedVariables false
open Go.Xe
theorem keysL_one {es : List En} {k : ByteArray} (ha : AptG En.key es) : keysL (fun e => seq e.key k) es = if (look es k).isSome then [k] else [] := by
  induction es with
  | nil => rfl
  | cons e r ih =>
    have hp := List.pairwise_cons.1 ha
    cases h : seq e.key k with
    | false =>
      have e1 : keysL (fun e => seq e.key k) (e :: r) = keysL (fun e => seq e.key k) r := by unfold keysL; rw [List.filter_cons, h]; rfl
      have e2 : look (e :: r) k = look r k := by unfold look; rw [List.find?_cons, h]
      rw [e1, e2, ih hp.2]
    | true =>
      have hk : e.key = k := seq_iff.1 h
      have e0 : r.filter (fun e => seq e.key k) = [] := by
        rw [List.filter_eq_nil_iff]
        intro y hy hs
        exact hp.1 y hy (hk.trans (seq_iff.1 hs).symm)
      have e2 : look (e :: r) k = some e := by unfold look; rw [List.find?_cons, h]
      unfold keysL
      rw [List.filter_cons, h, e0, e2]
      simp [hk]
theorem l9Keys_ret (x : StA) (k : ByteArray) (M : PH) (hi : x.inn M) (hco : x.c.cost ≤ 1048576) (ha : AptG En.key x.c.all) :
    XCall env 141 [.bp 0 0, .v (Tx k)] [stBox x] M fun r b M' => (∃ o A c, r = .slice A (keysL (fun e => seq e.key k) x.c.all).length c ∧ New M M' o A c 1 stC (keysL (fun e => seq e.key k) x.c.all)) ∧ b = [stBox x] := by
  have he := keysL_one (k := k) ha
  refine xcall_of_vc Tryz.func141 rfl _ Tryz.ntmps141 _ rfl (fun _ _ => Tryz.call141 _ _) rfl (fun w0 ρ0 => ?_)
  conv => whnf
  refine XCall.lift (l8Peek_ret x k M hi hco) [0] ?_ (by simp) (by simp) (by simp [AV.plain]) ?_
  · simp [ren]
  rintro r bs' M1 ⟨⟨y, rfl, ey, hN⟩, rfl⟩
  refine ⟨by simp [AV.plain], ?_⟩
  rw [he]
  cases hl : (look x.c.all k).isSome with
  | true =>
    conv => whnf
    refine caseB_true ?_
    conv => whnf
    intro g hg
    conv => whnf
    have l2 := PH.Le.set (.cells ([k].flatMap stC).toArray 9 (0, 0)) hg
    exact ⟨_, PH.Le.refl _, ⟨some g, some ⟨g, 0, none⟩, 1, rfl, ⟨Ow.new (f := stC) (sz := 1) (fun _ => rfl) M1 g [k] 9, hN.le.trans l2, fun g' e => by cases e; exact none_of_le hN.le hg⟩⟩, rfl⟩
  | false =>
    conv => whnf
    refine caseB_false ?_
    conv => whnf
    exact ⟨_, PH.Le.refl _, ⟨none, none, 0, rfl, ⟨Ow.nil, hN.le, fun g e => (nomatch e)⟩⟩, rfl⟩
theorem eqPR_ret (k : Int) (s s' : So) (A A' : Option Addr) (c c' : Nat) (ws : List ByteArray) (M : PH) (h : Dso M s) (h' : Dso M s') (hs : Sl M A 1 stC ws) (hs' : Sl M A' 1 stC ws) (e : s.c = s'.c) (hco : s.c.cost ≤ 1048576) (hn : ws.length ≤ 40) :
    Ret 67 [prV k s A ws.length c, prV k s' A' ws.length c'] M (B true) := by
  have hq := eqStore_ret s.sta s'.sta M h.inn h'.inn (by rw [s.sta_c, s'.sta_c]; exact e) (by rw [s.sta_c]; exact hco)
  rw [s.sta_val, s'.sta_val] at hq
  refine xcall_of_vc Tryz.func67 rfl _ Tryz.ntmps67 _ rfl (fun _ _ => Tryz.call67 _ _) rfl (fun w0 ρ0 => ?_)
  conv => whnf
  refine caseB_ndec (fun h => absurd rfl h) (fun _ => ?_)
  conv => whnf
  refine Ret.go hq ?_
  conv => whnf
  refine caseB_false ?_
  conv => whnf
  refine Ret.go (eqStringS_ret A A' c c' ws _ hs hs' (by omega)) ?_
  conv => whnf
  refine caseB_false ?_
  conv => whnf
  exact ⟨_, PH.Le.refl _, rfl, rfl⟩
theorem markPR_ret (k : Int) (s : So) (o : Option Nat) (A : Option Addr) (c : Nat) (ws : List ByteArray) (M : PH) (h : Dso M s) (hk : Mok 1 s) (hw : Ow M o A c 1 stC ws) (ap : ∀ b ∈ soL s, Apart o b) (hn : ws.length ≤ 40) :
    ACall env 68 [prV k s A ws.length c, I 1] M fun r M' => ∃ s', r = I (posS 1 s + 1 * ws.length) ∧ Mks 1 s s' ∧ Dso M' s' ∧ Ow M' o A c 1 stC (marksL mText 1 (posS 1 s) ws.length) ∧ KeepsL (o :: soL s) M M' := by
  have hps := posS_end hk
  have hpb := hk.hi
  refine xcall_of_vc Tryz.func68 rfl _ Tryz.ntmps68 _ rfl (fun _ _ => Tryz.call68 _ _) rfl (fun w0 ρ0 => ?_)
  conv => whnf
  refine ACall.step (markStore_ret s 1 M h hk) fun v M1 hh => ?_
  obtain ⟨s', rfl, h1, h2, h3⟩ := hh
  conv => whnf
  refine ACall.step (markStringS_ret o A c ws (posS 1 s) M1 (ow_keepsL hw h3 ap) (by omega) ⟨by omega, by omega⟩) fun v M2 hh => ?_
  obtain ⟨rfl, h4, h5⟩ := hh
  conv => whnf
  have k5 : KeepsL (o :: soL s) M1 M2 := Keeps.inL h5 (by simp)
  have k3 : KeepsL (o :: soL s) M M1 := fun g ob hg hm => h3 g ob hg fun hb => hm (List.mem_cons_of_mem _ hb)
  exact ⟨_, PH.Le.refl _, s', rfl, h1, h2.keepsL (Keeps.inL h5 (by simp : o ∈ [o])) (fun a ha b hb => by rw [List.mem_singleton] at hb; subst hb; exact (ap a (h1.l ▸ ha)).symm), h4, k3.trans k5⟩
theorem heldPR_ret (k : Int) (s s' : So) (A : Option Addr) (c n : Nat) (M : PH) (h : Dso M s') (hk : Mok 1 s) (hm : Mks 1 s s') (hs : Sl M A 1 stC (marksL mText 1 (posS 1 s) n)) (hn : n ≤ 40) :
    Ret 69 [prV k s A n c, I 1] M (I (posS 1 s + 1 * n)) := by
  have hps := posS_end hk
  have hpb := hk.hi
  refine xcall_of_vc Tryz.func69 rfl _ Tryz.ntmps69 _ rfl (fun _ _ => Tryz.call69 _ _) rfl (fun w0 ρ0 => ?_)
  conv => whnf
  refine Ret.go (heldStore_ret s s' 1 M h hk hm hm.a) ?_
  conv => whnf
  refine caseB_dec (fun h => ?_) (fun _ => ?_)
  · exfalso; have h : posS 1 s < 0 := h; omega
  conv => whnf
  refine Ret.go (heldStringS_ret A c n (posS 1 s) M hs (by omega) ⟨by omega, by omega⟩) ?_
  conv => whnf
  refine caseB_dec (fun h => ?_) (fun _ => ?_)
  · exfalso; have h : posS 1 s + 1 * (n : Int) < 0 := h; omega
  conv => whnf
  exact ⟨_, PH.Le.refl _, rfl, rfl⟩
theorem purgeKey_spec (x : StA) (k : ByteArray) (hard : Bool) (M : PH) (hi : x.inn M) (hco : x.c.cost ≤ 1048576) :
    ACall env 70 [x.val, Tx k, B hard] M fun r M' => ∃ s o A c, r = prV (stFault x.c) s A (pgK x.c (fun e => seq e.key k)).length c ∧ s.c = pgS x.c (fun e => seq e.key k) hard ∧ NewP M M' s o A c (pgK x.c (fun e => seq e.key k)) := by
  obtain ⟨n1, n2, hd⟩ := st_split hco
  refine xcall_of_vc Tryz.func70 rfl _ Tryz.ntmps70 _ rfl (fun _ _ => Tryz.call70 _ _) rfl (fun w0 ρ0 => ?_)
  conv => whnf
  refine Ret.go (storeFault_spec x _ hi hco) ?_
  conv => whnf
  refine caseB_ndec (fun h => ?_) (fun h => ?_)
  · conv => whnf
    have e1 : pgK x.c (fun e => seq e.key k) = [] := by unfold pgK; rw [if_neg h]
    have e2 : pgS x.c (fun e => seq e.key k) hard = zSc := by unfold pgS; rw [if_neg h]
    rw [e1, e2]
    exact ⟨M, PH.Le.refl _, zSo, none, none, 0, rfl, rfl, zNewP M⟩
  have e1 : pgK x.c (fun e => seq e.key k) = keysL (fun e => seq e.key k) x.c.all := by unfold pgK; rw [if_pos h]
  have e2 : pgS x.c (fun e => seq e.key k) hard = purgeS x.c (keysL (fun e => seq e.key k) x.c.all) hard := by unfold pgS; rw [if_pos h]
  rw [e1, e2, h]
  conv => whnf
  refine XCall.lift (l9Keys_ret x k M hi hco (apt_of h)) [0] ?_ (by simp) (by simp) (by simp [AV.plain]) ?_
  · simp [ren]
  rintro r bs' M1 ⟨⟨o, A, c, rfl, N⟩, rfl⟩
  refine ⟨by simp [AV.plain], ?_⟩
  conv => whnf
  refine XCall.lift (l9Do_ret x o A c _ hard M1 (hi.mono N.le) hco N.ow (Nat.le_trans (keysL_le _ _) (Nat.le_trans (stF_40 h) (by decide)))) [0] ?_ (by simp) (by simp) (by simp [AV.plain]) ?_
  · simp [ren]
  rintro r bs' M2 ⟨⟨s, rfl, ec, hS, hO, ap⟩, rfl⟩
  refine ⟨by simp [AV.plain], ?_⟩
  conv => whnf
  exact ⟨_, PH.Le.refl _, s, o, A, c, rfl, ec, ⟨hS.d, N.le.trans hS.le, hS.fr.le N.le⟩, hO, N.fr, fun b hb => (ap b hb)⟩
theorem purgeTag_spec (x : StA) (k : ByteArray) (hard : Bool) (M : PH) (hi : x.inn M) (hco : x.c.cost ≤ 1048576) :
    ACall env 42 [x.val, Tx k, B hard] M fun r M' => ∃ s o A c, r = prV (stFault x.c) s A (pgK x.c (fun e => tagT e.tags k)).length c ∧ s.c = pgS x.c (fun e => tagT e.tags k) hard ∧ NewP M M' s o A c (pgK x.c (fun e => tagT e.tags k)) := by
  obtain ⟨n1, n2, hd⟩ := st_split hco
  refine xcall_of_vc Tryz.func42 rfl _ Tryz.ntmps42 _ rfl (fun _ _ => Tryz.call42 _ _) rfl (fun w0 ρ0 => ?_)
  conv => whnf
  refine Ret.go (storeFault_spec x _ hi hco) ?_
  conv => whnf
  refine caseB_ndec (fun h => ?_) (fun h => ?_)
  · conv => whnf
    have e1 : pgK x.c (fun e => tagT e.tags k) = [] := by unfold pgK; rw [if_neg h]
    have e2 : pgS x.c (fun e => tagT e.tags k) hard = zSc := by unfold pgS; rw [if_neg h]
    rw [e1, e2]
    exact ⟨M, PH.Le.refl _, zSo, none, none, 0, rfl, rfl, zNewP M⟩
  have e1 : pgK x.c (fun e => tagT e.tags k) = keysL (fun e => tagT e.tags k) x.c.all := by unfold pgK; rw [if_pos h]
  have e2 : pgS x.c (fun e => tagT e.tags k) hard = purgeS x.c (keysL (fun e => tagT e.tags k) x.c.all) hard := by unfold pgS; rw [if_pos h]
  rw [e1, e2, h]
  conv => whnf
  refine XCall.lift (l9Tagged_ret 36 x k M hi n1 n2 hd) [0] ?_ (by simp) (by simp) (by simp [AV.plain]) ?_
  · simp [ren]
  rintro r bs' M1 ⟨⟨o, A, c, rfl, N⟩, rfl⟩
  refine ⟨by simp [AV.plain], ?_⟩
  conv => whnf
  refine XCall.lift (l9Do_ret x o A c _ hard M1 (hi.mono N.le) hco N.ow (Nat.le_trans (keysL_le _ _) (Nat.le_trans (stF_40 h) (by decide)))) [0] ?_ (by simp) (by simp) (by simp [AV.plain]) ?_
  · simp [ren]
  rintro r bs' M2 ⟨⟨s, rfl, ec, hS, hO, ap⟩, rfl⟩
  refine ⟨by simp [AV.plain], ?_⟩
  conv => whnf
  exact ⟨_, PH.Le.refl _, s, o, A, c, rfl, ec, ⟨hS.d, N.le.trans hS.le, hS.fr.le N.le⟩, hO, N.fr, fun b hb => (ap b hb)⟩
theorem purgeAll_spec (x : StA) (hard : Bool) (M : PH) (hi : x.inn M) (hco : x.c.cost ≤ 1048576) :
    ACall env 66 [x.val, B hard] M fun r M' => ∃ s o A c, r = prV (stFault x.c) s A (pgK x.c (fun _ => true)).length c ∧ s.c = pgS x.c (fun _ => true) hard ∧ NewP M M' s o A c (pgK x.c (fun _ => true)) := by
  obtain ⟨n1, n2, hd⟩ := st_split hco
  refine xcall_of_vc Tryz.func66 rfl _ Tryz.ntmps66 _ rfl (fun _ _ => Tryz.call66 _ _) rfl (fun w0 ρ0 => ?_)
  conv => whnf
  refine Ret.go (storeFault_spec x _ hi hco) ?_
  conv => whnf
  refine caseB_ndec (fun h => ?_) (fun h => ?_)
  · conv => whnf
    have e1 : pgK x.c (fun _ => true) = [] := by unfold pgK; rw [if_neg h]
    have e2 : pgS x.c (fun _ => true) hard = zSc := by unfold pgS; rw [if_neg h]
    rw [e1, e2]
    exact ⟨M, PH.Le.refl _, zSo, none, none, 0, rfl, rfl, zNewP M⟩
  have e1 : pgK x.c (fun _ => true) = keysL (fun _ => true) x.c.all := by unfold pgK; rw [if_pos h]
  have e2 : pgS x.c (fun _ => true) hard = purgeS x.c (keysL (fun _ => true) x.c.all) hard := by unfold pgS; rw [if_pos h]
  rw [e1, e2, h]
  conv => whnf
  refine XCall.lift (l9All_ret x M hi n1 n2) [0] ?_ (by simp) (by simp) (by simp [AV.plain]) ?_
  · simp [ren]
  rintro r bs' M1 ⟨⟨o, A, c, rfl, N⟩, rfl⟩
  refine ⟨by simp [AV.plain], ?_⟩
  conv => whnf
  refine XCall.lift (l9Do_ret x o A c _ hard M1 (hi.mono N.le) hco N.ow (Nat.le_trans (keysL_le _ _) (Nat.le_trans (stF_40 h) (by decide)))) [0] ?_ (by simp) (by simp) (by simp [AV.plain]) ?_
  · simp [ren]
  rintro r bs' M2 ⟨⟨s, rfl, ec, hS, hO, ap⟩, rfl⟩
  refine ⟨by simp [AV.plain], ?_⟩
  conv => whnf
  exact ⟨_, PH.Le.refl _, s, o, A, c, rfl, ec, ⟨hS.d, N.le.trans hS.le, hS.fr.le N.le⟩, hO, N.fr, fun b hb => (ap b hb)⟩
theorem purgeKey_law (x : StA) (k : ByteArray) (hard : Bool) (M : PH) (hi : x.inn M) (ho : x.c.okl) :
    ACall env 12 [x.val, Tx k, B hard] M fun r M' => r = B true ∧ M.Le M' := by
  refine xcall_of_vc Tryz.func12 rfl _ Tryz.ntmps12 _ rfl (fun _ _ => Tryz.call12 _ _) rfl (fun w0 ρ0 => ?_)
  conv => whnf
  refine caseB_dec (fun h => ?_) (fun _ => ?_)
  · conv => whnf
    exact ⟨_, PH.Le.refl _, rfl, PH.Le.refl _⟩
  conv => whnf
  refine ACall.step (szStore_ret x _ M hi ho (by omega) (by omega)) fun v M0 hh => ?_
  obtain ⟨m, rfl, rfl, hm⟩ := hh
  conv => whnf
  refine caseB_dec (fun h0 => ?_) (fun h0 => ?_)
  · conv => whnf
    exact ⟨_, PH.Le.refl _, rfl, PH.Le.refl _⟩
  have hm := hm (by omega)
  have hco : x.c.cost ≤ 1048576 := by omega
  clear hm h0 ho
  have hpc : (pgS x.c (fun e => seq e.key k) hard).cost ≤ 1048576 := pgS_cost _ hard hco
  have hkl := pgK_len x.c (fun e => seq e.key k)
  conv => whnf
  refine ACall.step (toStore_ret x _ hi hco) fun v M1 hh => ?_
  obtain ⟨y1, rfl, e1, l1, i1⟩ := hh
  conv => whnf
  refine ACall.step (purgeKey_spec y1 k hard M1 i1 (by rw [e1]; exact hco)) fun v M2 hh => ?_
  obtain ⟨z1, o1, A1, d1, rfl, c1, N1⟩ := hh
  rw [e1] at c1 N1 ⊢
  have l2 := l1.trans N1.st.le
  conv => whnf
  refine ACall.step (toStore_own x _ (hi.mono l2) hco) fun v M3 hh => ?_
  obtain ⟨s, rfl, es, l3, D, F⟩ := hh
  have l4 := l2.trans l3
  conv => whnf
  have hsv := s.sta_val
  have hsc := s.sta_c
  have hcs : s.sta.c.cost ≤ 1048576 := by rw [hsc, es]; exact hco
  have hI := purgeKey_impl s.sta k hard M3 D.inn hcs
  rw [hsv, hsc, es] at hI
  refine ACall.step hI fun v M4 hh => ?_
  obtain ⟨z2, o2, A2, d2, rfl, c2, N2⟩ := hh
  have l5 := l4.trans N2.st.le
  conv => whnf
  have W1 := N1.st.d.mono (l3.trans N2.st.le)
  have W2 := N2.st.d
  have K1 := N1.w.mono (l3.trans N2.st.le)
  have K2 := N2.w
  have kn1 : Kn M2 (o1 :: soL z1) := fun b hb => (List.mem_cons.1 hb).elim (fun e => e ▸ N1.w.known) (N1.st.d.kn b)
  have fr2 : Fr M3 (o2 :: soL z2) := fun b hb => (List.mem_cons.1 hb).elim (fun e => e ▸ N2.f) (N2.st.fr b)
  have ap1 := apart_of kn1 F
  have ap2 : ∀ a ∈ o2 :: soL z2, ∀ b ∈ soL s, Apart a b := fun a ha b hb => (apart_of D.kn fr2 b hb a ha).symm
  have ap12 : ∀ a ∈ o1 :: soL z1, ∀ b ∈ o2 :: soL z2, Apart a b := apart_of (kn1.mono l3) fr2
  have D := D.mono N2.st.le
  have q12 : z2.c = z1.c := by rw [c1, c2]
  have q2 : z2.c.cost ≤ 1048576 := by rw [c2]; exact hpc
  have mok2 : Mok 1 z2 := Mok.of (by omega) (by omega)
  have hps2 := posS_end mok2
  refine Ret.go (eqPR_ret _ z2 z1 A2 A1 d2 d1 _ _ W2 W1 (K2.sl fun _ => rfl) (K1.sl fun _ => rfl) q12 q2 hkl) ?_
  conv => whnf
  refine caseB_false ?_
  conv => whnf
  repeat' (first | (refine ⟨⟨[], rfl⟩, _, PH.Le.refl _, PH.Le.refl _, ?_⟩; conv => whnf) | (refine caseB_true ?_; conv => whnf) | (refine caseB_false ?_; conv => whnf) | ((with_reducible refine caseB_dec (fun h => ?_) (fun h => ?_)) <;> conv => whnf) | ((with_reducible refine caseB_ndec (fun h => ?_) (fun h => ?_)) <;> conv => whnf) | ((with_reducible refine caseB_not (fun h => ?_) (fun h => ?_)) <;> conv => whnf) | (refine draw_rule (.light 0 <| .light 1 <| .alt 2 false (.alt 3 false (.light 4 <| .done) .nil) .nil) (by decide +kernel) ?_; conv => whnf) | (with_reducible refine @And.intro (guardVC _ _ _ _ _) _ ?_ ?_) <;> conv => whnf | (refine caseB_intro (fun h => ?_) (fun h => ?_) <;> (try simp only [Bool.not_eq_true', Bool.not_eq_false', decide_eq_true_eq, decide_eq_false_iff_not] at h) <;> conv => whnf))
  refine ACall.step (toStore_ret x _ (hi.mono l5) hco) fun v M5 hh => ?_
  obtain ⟨y5, rfl, e5, l6, i5⟩ := hh
  (first | (refine ⟨⟨[], rfl⟩, _, l6, PH.Le.refl _, ?_⟩; conv => whnf) | conv => whnf)
  have D := D.mono l6
  have W1 := W1.mono l6
  have W2 := W2.mono l6
  have K1 := K1.mono l6
  have K2 := K2.mono l6
  have hq := eqStore_ret s.sta y5 _ D.inn i5 (by rw [hsc, es, e5]) hcs
  rw [hsv] at hq
  refine Ret.go hq ?_
  (first | (refine ⟨⟨[], rfl⟩, _, PH.Le.refl _, PH.Le.refl _, ?_⟩; conv => whnf) | conv => whnf)
  refine caseB_false ?_
  conv => whnf
  have mok : Mok 1 s := Mok.of (by omega) (by rw [← hsc]; omega)
  refine ACall.step (markStore_ret s 1 _ D mok) fun v M6 hh => ?_
  obtain ⟨s', rfl, _, _, K6⟩ := hh
  have hps := posS_end mok
  have W1 := W1.keepsL K6 fun a ha => ap1 a (List.mem_cons_of_mem _ ha)
  have W2 := W2.keepsL K6 fun a ha => ap2 a (List.mem_cons_of_mem _ ha)
  have K1 := ow_keepsL K1 K6 (ap1 o1 List.mem_cons_self)
  have K2 := ow_keepsL K2 K6 (ap2 o2 List.mem_cons_self)
  have L6 : M0.Le M6 := K6.over (l5.trans l6) (F.le l2)
  conv => whnf
  refine caseB_dec (fun h => ?_) (fun _ => ?_)
  · exfalso; omega
  conv => whnf
  repeat (refine caseB_false ?_; conv => whnf)
  refine Ret.go (eqPR_ret _ z2 z1 A2 A1 d2 d1 _ _ W2 W1 (K2.sl fun _ => rfl) (K1.sl fun _ => rfl) q12 q2 hkl) ?_
  conv => whnf
  repeat (refine caseB_false ?_; conv => whnf)
  refine ACall.step (markPR_ret _ z2 o2 A2 d2 _ _ W2 mok2 K2 N2.a hkl) fun v M7 hh => ?_
  obtain ⟨z3, rfl, mk3, W3, K3, K7⟩ := hh
  have W1 := W1.keepsL K7 fun a ha => ap12 a (List.mem_cons_of_mem _ ha)
  have K1 := ow_keepsL K1 K7 (ap12 o1 List.mem_cons_self)
  have L7 : M0.Le M7 := K7.over L6 (fr2.le l4)
  conv => whnf
  refine Ret.go (heldPR_ret _ z2 z3 A2 d2 _ _ W3 mok2 mk3 (K3.sl fun _ => rfl) hkl) ?_
  conv => whnf
  refine caseB_dec (fun h => ?_) (fun _ => ?_)
  · exfalso; have h : posS 1 z2 + 1 * ((pgK x.c (fun e => seq e.key k)).length : Int) < 0 := h; omega
  conv => whnf
  refine caseB_ndec (fun h => absurd rfl h) (fun _ => ?_)
  conv => whnf
  refine ACall.step (toStore_ret x _ (hi.mono L7) hco) fun v M8 hh => ?_
  obtain ⟨y8, rfl, e8, l8, i8⟩ := hh
  conv => whnf
  refine ACall.step (purgeKey_impl y8 k hard M8 i8 (by rw [e8]; exact hco)) fun v M9 hh => ?_
  obtain ⟨z9, o9, A9, d9, rfl, c9, N9⟩ := hh
  rw [e8] at c9 N9 ⊢
  conv => whnf
  have W1 := (W1.mono l8).mono N9.st.le
  have W3 := (W3.mono l8).mono N9.st.le
  have K1 := (K1.mono l8).mono N9.st.le
  have K3 := (K3.mono l8).mono N9.st.le
  refine Ret.go (eqPR_ret _ z9 z1 A9 A1 d9 d1 _ _ N9.st.d W1 (N9.w.sl fun _ => rfl) (K1.sl fun _ => rfl) (by rw [c9, c1]) (by rw [c9]; exact hpc) hkl) ?_
  conv => whnf
  refine caseB_false ?_
  conv => whnf
  refine Ret.go (heldPR_ret _ z2 z3 A2 d2 _ _ W3 mok2 mk3 (K3.sl fun _ => rfl) hkl) ?_
  conv => whnf
  refine caseB_dec (fun h => ?_) (fun _ => ?_)
  · exfalso; have h : posS 1 z2 + 1 * ((pgK x.c (fun e => seq e.key k)).length : Int) < 0 := h; omega
  conv => whnf
  refine caseB_ndec (fun h => absurd rfl h) (fun _ => ?_)
  conv => whnf
  exact ⟨_, PH.Le.refl _, rfl, (L7.trans l8).trans N9.st.le⟩

theorem purgeTag_law (x : StA) (k : ByteArray) (hard : Bool) (M : PH) (hi : x.inn M) (ho : x.c.okl) :
    ACall env 13 [x.val, Tx k, B hard] M fun r M' => r = B true ∧ M.Le M' := by
  refine xcall_of_vc Tryz.func13 rfl _ Tryz.ntmps13 _ rfl (fun _ _ => Tryz.call13 _ _) rfl (fun w0 ρ0 => ?_)
  conv => whnf
  refine caseB_dec (fun h => ?_) (fun _ => ?_)
  · conv => whnf
    exact ⟨_, PH.Le.refl _, rfl, PH.Le.refl _⟩
  conv => whnf
  refine ACall.step (szStore_ret x _ M hi ho (by omega) (by omega)) fun v M0 hh => ?_
  obtain ⟨m, rfl, rfl, hm⟩ := hh
  conv => whnf
  refine caseB_dec (fun h0 => ?_) (fun h0 => ?_)
  · conv => whnf
    exact ⟨_, PH.Le.refl _, rfl, PH.Le.refl _⟩
  have hm := hm (by omega)
  have hco : x.c.cost ≤ 1048576 := by omega
  clear hm h0 ho
  have hpc : (pgS x.c (fun e => tagT e.tags k) hard).cost ≤ 1048576 := pgS_cost _ hard hco
  have hkl := pgK_len x.c (fun e => tagT e.tags k)
  conv => whnf
  refine ACall.step (toStore_ret x _ hi hco) fun v M1 hh => ?_
  obtain ⟨y1, rfl, e1, l1, i1⟩ := hh
  conv => whnf
  refine ACall.step (purgeTag_spec y1 k hard M1 i1 (by rw [e1]; exact hco)) fun v M2 hh => ?_
  obtain ⟨z1, o1, A1, d1, rfl, c1, N1⟩ := hh
  rw [e1] at c1 N1 ⊢
  have l2 := l1.trans N1.st.le
  conv => whnf
  refine ACall.step (toStore_own x _ (hi.mono l2) hco) fun v M3 hh => ?_
  obtain ⟨s, rfl, es, l3, D, F⟩ := hh
  have l4 := l2.trans l3
  conv => whnf
  have hsv := s.sta_val
  have hsc := s.sta_c
  have hcs : s.sta.c.cost ≤ 1048576 := by rw [hsc, es]; exact hco
  have hI := purgeTag_impl s.sta k hard M3 D.inn hcs
  rw [hsv, hsc, es] at hI
  refine ACall.step hI fun v M4 hh => ?_
  obtain ⟨z2, o2, A2, d2, rfl, c2, N2⟩ := hh
  have l5 := l4.trans N2.st.le
  conv => whnf
  have W1 := N1.st.d.mono (l3.trans N2.st.le)
  have W2 := N2.st.d
  have K1 := N1.w.mono (l3.trans N2.st.le)
  have K2 := N2.w
  have kn1 : Kn M2 (o1 :: soL z1) := fun b hb => (List.mem_cons.1 hb).elim (fun e => e ▸ N1.w.known) (N1.st.d.kn b)
  have fr2 : Fr M3 (o2 :: soL z2) := fun b hb => (List.mem_cons.1 hb).elim (fun e => e ▸ N2.f) (N2.st.fr b)
  have ap1 := apart_of kn1 F
  have ap2 : ∀ a ∈ o2 :: soL z2, ∀ b ∈ soL s, Apart a b := fun a ha b hb => (apart_of D.kn fr2 b hb a ha).symm
  have ap12 : ∀ a ∈ o1 :: soL z1, ∀ b ∈ o2 :: soL z2, Apart a b := apart_of (kn1.mono l3) fr2
  have D := D.mono N2.st.le
  have q12 : z2.c = z1.c := by rw [c1, c2]
  have q2 : z2.c.cost ≤ 1048576 := by rw [c2]; exact hpc
  have mok2 : Mok 1 z2 := Mok.of (by omega) (by omega)
  have hps2 := posS_end mok2
  refine Ret.go (eqPR_ret _ z2 z1 A2 A1 d2 d1 _ _ W2 W1 (K2.sl fun _ => rfl) (K1.sl fun _ => rfl) q12 q2 hkl) ?_
  conv => whnf
  refine caseB_false ?_
  conv => whnf
  repeat' (first | (refine ⟨⟨[], rfl⟩, _, PH.Le.refl _, PH.Le.refl _, ?_⟩; conv => whnf) | (refine caseB_true ?_; conv => whnf) | (refine caseB_false ?_; conv => whnf) | ((with_reducible refine caseB_dec (fun h => ?_) (fun h => ?_)) <;> conv => whnf) | ((with_reducible refine caseB_ndec (fun h => ?_) (fun h => ?_)) <;> conv => whnf) | ((with_reducible refine caseB_not (fun h => ?_) (fun h => ?_)) <;> conv => whnf) | (refine draw_rule (.light 0 <| .light 1 <| .alt 2 false (.alt 3 false (.light 4 <| .done) .nil) .nil) (by decide +kernel) ?_; conv => whnf) | (with_reducible refine @And.intro (guardVC _ _ _ _ _) _ ?_ ?_) <;> conv => whnf | (refine caseB_intro (fun h => ?_) (fun h => ?_) <;> (try simp only [Bool.not_eq_true', Bool.not_eq_false', decide_eq_true_eq, decide_eq_false_iff_not] at h) <;> conv => whnf))
  refine ACall.step (toStore_ret x _ (hi.mono l5) hco) fun v M5 hh => ?_
  obtain ⟨y5, rfl, e5, l6, i5⟩ := hh
  (first | (refine ⟨⟨[], rfl⟩, _, l6, PH.Le.refl _, ?_⟩; conv => whnf) | conv => whnf)
  have D := D.mono l6
  have W1 := W1.mono l6
  have W2 := W2.mono l6
  have K1 := K1.mono l6
  have K2 := K2.mono l6
  have hq := eqStore_ret s.sta y5 _ D.inn i5 (by rw [hsc, es, e5]) hcs
  rw [hsv] at hq
  refine Ret.go hq ?_
  (first | (refine ⟨⟨[], rfl⟩, _, PH.Le.refl _, PH.Le.refl _, ?_⟩; conv => whnf) | conv => whnf)
  refine caseB_false ?_
  conv => whnf
  have mok : Mok 1 s := Mok.of (by omega) (by rw [← hsc]; omega)
  refine ACall.step (markStore_ret s 1 _ D mok) fun v M6 hh => ?_
  obtain ⟨s', rfl, _, _, K6⟩ := hh
  have hps := posS_end mok
  have W1 := W1.keepsL K6 fun a ha => ap1 a (List.mem_cons_of_mem _ ha)
  have W2 := W2.keepsL K6 fun a ha => ap2 a (List.mem_cons_of_mem _ ha)
  have K1 := ow_keepsL K1 K6 (ap1 o1 List.mem_cons_self)
  have K2 := ow_keepsL K2 K6 (ap2 o2 List.mem_cons_self)
  have L6 : M0.Le M6 := K6.over (l5.trans l6) (F.le l2)
  conv => whnf
  refine caseB_dec (fun h => ?_) (fun _ => ?_)
  · exfalso; omega
  conv => whnf
  repeat (refine caseB_false ?_; conv => whnf)
  refine Ret.go (eqPR_ret _ z2 z1 A2 A1 d2 d1 _ _ W2 W1 (K2.sl fun _ => rfl) (K1.sl fun _ => rfl) q12 q2 hkl) ?_
  conv => whnf
  repeat (refine caseB_false ?_; conv => whnf)
  refine ACall.step (markPR_ret _ z2 o2 A2 d2 _ _ W2 mok2 K2 N2.a hkl) fun v M7 hh => ?_
  obtain ⟨z3, rfl, mk3, W3, K3, K7⟩ := hh
  have W1 := W1.keepsL K7 fun a ha => ap12 a (List.mem_cons_of_mem _ ha)
  have K1 := ow_keepsL K1 K7 (ap12 o1 List.mem_cons_self)
  have L7 : M0.Le M7 := K7.over L6 (fr2.le l4)
  conv => whnf
  refine Ret.go (heldPR_ret _ z2 z3 A2 d2 _ _ W3 mok2 mk3 (K3.sl fun _ => rfl) hkl) ?_
  conv => whnf
  refine caseB_dec (fun h => ?_) (fun _ => ?_)
  · exfalso; have h : posS 1 z2 + 1 * ((pgK x.c (fun e => tagT e.tags k)).length : Int) < 0 := h; omega
  conv => whnf
  refine caseB_ndec (fun h => absurd rfl h) (fun _ => ?_)
  conv => whnf
  refine ACall.step (toStore_ret x _ (hi.mono L7) hco) fun v M8 hh => ?_
  obtain ⟨y8, rfl, e8, l8, i8⟩ := hh
  conv => whnf
  refine ACall.step (purgeTag_impl y8 k hard M8 i8 (by rw [e8]; exact hco)) fun v M9 hh => ?_
  obtain ⟨z9, o9, A9, d9, rfl, c9, N9⟩ := hh
  rw [e8] at c9 N9 ⊢
  conv => whnf
  have W1 := (W1.mono l8).mono N9.st.le
  have W3 := (W3.mono l8).mono N9.st.le
  have K1 := (K1.mono l8).mono N9.st.le
  have K3 := (K3.mono l8).mono N9.st.le
  refine Ret.go (eqPR_ret _ z9 z1 A9 A1 d9 d1 _ _ N9.st.d W1 (N9.w.sl fun _ => rfl) (K1.sl fun _ => rfl) (by rw [c9, c1]) (by rw [c9]; exact hpc) hkl) ?_
  conv => whnf
  refine caseB_false ?_
  conv => whnf
  refine Ret.go (heldPR_ret _ z2 z3 A2 d2 _ _ W3 mok2 mk3 (K3.sl fun _ => rfl) hkl) ?_
  conv => whnf
  refine caseB_dec (fun h => ?_) (fun _ => ?_)
  · exfalso; have h : posS 1 z2 + 1 * ((pgK x.c (fun e => tagT e.tags k)).length : Int) < 0 := h; omega
  conv => whnf
  refine caseB_ndec (fun h => absurd rfl h) (fun _ => ?_)
  conv => whnf
  exact ⟨_, PH.Le.refl _, rfl, (L7.trans l8).trans N9.st.le⟩

theorem purgeAll_law (x : StA) (hard : Bool) (M : PH) (hi : x.inn M) (ho : x.c.okl) :
    ACall env 11 [x.val, B hard] M fun r M' => r = B true ∧ M.Le M' := by
  refine xcall_of_vc Tryz.func11 rfl _ Tryz.ntmps11 _ rfl (fun _ _ => Tryz.call11 _ _) rfl (fun w0 ρ0 => ?_)
  conv => whnf
  refine ACall.step (szStore_ret x _ M hi ho (by omega) (by omega)) fun v M0 hh => ?_
  obtain ⟨m, rfl, rfl, hm⟩ := hh
  conv => whnf
  refine caseB_dec (fun h0 => ?_) (fun h0 => ?_)
  · conv => whnf
    exact ⟨_, PH.Le.refl _, rfl, PH.Le.refl _⟩
  have hm := hm (by omega)
  have hco : x.c.cost ≤ 1048576 := by omega
  clear hm h0 ho
  have hpc : (pgS x.c (fun _ => true) hard).cost ≤ 1048576 := pgS_cost _ hard hco
  have hkl := pgK_len x.c (fun _ => true)
  conv => whnf
  refine ACall.step (toStore_ret x _ hi hco) fun v M1 hh => ?_
  obtain ⟨y1, rfl, e1, l1, i1⟩ := hh
  conv => whnf
  refine ACall.step (purgeAll_spec y1 hard M1 i1 (by rw [e1]; exact hco)) fun v M2 hh => ?_
  obtain ⟨z1, o1, A1, d1, rfl, c1, N1⟩ := hh
  rw [e1] at c1 N1 ⊢
  have l2 := l1.trans N1.st.le
  conv => whnf
  refine ACall.step (toStore_own x _ (hi.mono l2) hco) fun v M3 hh => ?_
  obtain ⟨s, rfl, es, l3, D, F⟩ := hh
  have l4 := l2.trans l3
  conv => whnf
  have hsv := s.sta_val
  have hsc := s.sta_c
  have hcs : s.sta.c.cost ≤ 1048576 := by rw [hsc, es]; exact hco
  have hI := purgeAll_impl s.sta hard M3 D.inn hcs
  rw [hsv, hsc, es] at hI
  refine ACall.step hI fun v M4 hh => ?_
  obtain ⟨z2, o2, A2, d2, rfl, c2, N2⟩ := hh
  have l5 := l4.trans N2.st.le
  conv => whnf
  have W1 := N1.st.d.mono (l3.trans N2.st.le)
  have W2 := N2.st.d
  have K1 := N1.w.mono (l3.trans N2.st.le)
  have K2 := N2.w
  have kn1 : Kn M2 (o1 :: soL z1) := fun b hb => (List.mem_cons.1 hb).elim (fun e => e ▸ N1.w.known) (N1.st.d.kn b)
  have fr2 : Fr M3 (o2 :: soL z2) := fun b hb => (List.mem_cons.1 hb).elim (fun e => e ▸ N2.f) (N2.st.fr b)
  have ap1 := apart_of kn1 F
  have ap2 : ∀ a ∈ o2 :: soL z2, ∀ b ∈ soL s, Apart a b := fun a ha b hb => (apart_of D.kn fr2 b hb a ha).symm
  have ap12 : ∀ a ∈ o1 :: soL z1, ∀ b ∈ o2 :: soL z2, Apart a b := apart_of (kn1.mono l3) fr2
  have D := D.mono N2.st.le
  have q12 : z2.c = z1.c := by rw [c1, c2]
  have q2 : z2.c.cost ≤ 1048576 := by rw [c2]; exact hpc
  have mok2 : Mok 1 z2 := Mok.of (by omega) (by omega)
  have hps2 := posS_end mok2
  refine Ret.go (eqPR_ret _ z2 z1 A2 A1 d2 d1 _ _ W2 W1 (K2.sl fun _ => rfl) (K1.sl fun _ => rfl) q12 q2 hkl) ?_
  conv => whnf
  refine caseB_false ?_
  conv => whnf
  repeat' (first | (refine ⟨⟨[], rfl⟩, _, PH.Le.refl _, PH.Le.refl _, ?_⟩; conv => whnf) | (refine caseB_true ?_; conv => whnf) | (refine caseB_false ?_; conv => whnf) | ((with_reducible refine caseB_dec (fun h => ?_) (fun h => ?_)) <;> conv => whnf) | ((with_reducible refine caseB_ndec (fun h => ?_) (fun h => ?_)) <;> conv => whnf) | ((with_reducible refine caseB_not (fun h => ?_) (fun h => ?_)) <;> conv => whnf) | (refine draw_rule (.light 0 <| .light 1 <| .alt 2 false (.alt 3 false (.light 4 <| .done) .nil) .nil) (by decide +kernel) ?_; conv => whnf) | (with_reducible refine @And.intro (guardVC _ _ _ _ _) _ ?_ ?_) <;> conv => whnf | (refine caseB_intro (fun h => ?_) (fun h => ?_) <;> (try simp only [Bool.not_eq_true', Bool.not_eq_false', decide_eq_true_eq, decide_eq_false_iff_not] at h) <;> conv => whnf))
  refine ACall.step (toStore_ret x _ (hi.mono l5) hco) fun v M5 hh => ?_
  obtain ⟨y5, rfl, e5, l6, i5⟩ := hh
  (first | (refine ⟨⟨[], rfl⟩, _, l6, PH.Le.refl _, ?_⟩; conv => whnf) | conv => whnf)
  have D := D.mono l6
  have W1 := W1.mono l6
  have W2 := W2.mono l6
  have K1 := K1.mono l6
  have K2 := K2.mono l6
  have hq := eqStore_ret s.sta y5 _ D.inn i5 (by rw [hsc, es, e5]) hcs
  rw [hsv] at hq
  refine Ret.go hq ?_
  (first | (refine ⟨⟨[], rfl⟩, _, PH.Le.refl _, PH.Le.refl _, ?_⟩; conv => whnf) | conv => whnf)
  refine caseB_false ?_
  conv => whnf
  have mok : Mok 1 s := Mok.of (by omega) (by rw [← hsc]; omega)
  refine ACall.step (markStore_ret s 1 _ D mok) fun v M6 hh => ?_
  obtain ⟨s', rfl, _, _, K6⟩ := hh
  have hps := posS_end mok
  have W1 := W1.keepsL K6 fun a ha => ap1 a (List.mem_cons_of_mem _ ha)
  have W2 := W2.keepsL K6 fun a ha => ap2 a (List.mem_cons_of_mem _ ha)
  have K1 := ow_keepsL K1 K6 (ap1 o1 List.mem_cons_self)
  have K2 := ow_keepsL K2 K6 (ap2 o2 List.mem_cons_self)
  have L6 : M0.Le M6 := K6.over (l5.trans l6) (F.le l2)
  conv => whnf
  refine caseB_dec (fun h => ?_) (fun _ => ?_)
  · exfalso; omega
  conv => whnf
  repeat (refine caseB_false ?_; conv => whnf)
  refine Ret.go (eqPR_ret _ z2 z1 A2 A1 d2 d1 _ _ W2 W1 (K2.sl fun _ => rfl) (K1.sl fun _ => rfl) q12 q2 hkl) ?_
  conv => whnf
  repeat (refine caseB_false ?_; conv => whnf)
  refine ACall.step (markPR_ret _ z2 o2 A2 d2 _ _ W2 mok2 K2 N2.a hkl) fun v M7 hh => ?_
  obtain ⟨z3, rfl, mk3, W3, K3, K7⟩ := hh
  have W1 := W1.keepsL K7 fun a ha => ap12 a (List.mem_cons_of_mem _ ha)
  have K1 := ow_keepsL K1 K7 (ap12 o1 List.mem_cons_self)
  have L7 : M0.Le M7 := K7.over L6 (fr2.le l4)
  conv => whnf
  refine Ret.go (heldPR_ret _ z2 z3 A2 d2 _ _ W3 mok2 mk3 (K3.sl fun _ => rfl) hkl) ?_
  conv => whnf
  refine caseB_dec (fun h => ?_) (fun _ => ?_)
  · exfalso; have h : posS 1 z2 + 1 * ((pgK x.c (fun _ => true)).length : Int) < 0 := h; omega
  conv => whnf
  refine caseB_ndec (fun h => absurd rfl h) (fun _ => ?_)
  conv => whnf
  refine ACall.step (toStore_ret x _ (hi.mono L7) hco) fun v M8 hh => ?_
  obtain ⟨y8, rfl, e8, l8, i8⟩ := hh
  conv => whnf
  refine ACall.step (purgeAll_impl y8 hard M8 i8 (by rw [e8]; exact hco)) fun v M9 hh => ?_
  obtain ⟨z9, o9, A9, d9, rfl, c9, N9⟩ := hh
  rw [e8] at c9 N9 ⊢
  conv => whnf
  have W1 := (W1.mono l8).mono N9.st.le
  have W3 := (W3.mono l8).mono N9.st.le
  have K1 := (K1.mono l8).mono N9.st.le
  have K3 := (K3.mono l8).mono N9.st.le
  refine Ret.go (eqPR_ret _ z9 z1 A9 A1 d9 d1 _ _ N9.st.d W1 (N9.w.sl fun _ => rfl) (K1.sl fun _ => rfl) (by rw [c9, c1]) (by rw [c9]; exact hpc) hkl) ?_
  conv => whnf
  refine caseB_false ?_
  conv => whnf
  refine Ret.go (heldPR_ret _ z2 z3 A2 d2 _ _ W3 mok2 mk3 (K3.sl fun _ => rfl) hkl) ?_
  conv => whnf
  refine caseB_dec (fun h => ?_) (fun _ => ?_)
  · exfalso; have h : posS 1 z2 + 1 * ((pgK x.c (fun _ => true)).length : Int) < 0 := h; omega
  conv => whnf
  refine caseB_ndec (fun h => absurd rfl h) (fun _ => ?_)
  conv => whnf
  exact ⟨_, PH.Le.refl _, rfl, (L7.trans l8).trans N9.st.le⟩

end Go.Proofs.YtafgnmiflngjhaaGreatDoor
