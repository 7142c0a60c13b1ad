/-
  CONTRACTS AND THE LAW: an entry put into a store.
-/
import Derived.Test.YtgjaiabenjafeaaGreatDoorWv
namespace Go.Proofs.YtgjaiabenjafeaaGreatDoor
set_option maxRecDepth 100000
set_option linter.unusedSimpArgs false
set_option linter.unusedVariables false
open Go.Xe
theorem firstF_all {es : List En} : firstF enFault es = 0 → ∀ e ∈ es, enFault e = 0 := by
  induction es with
  | nil => intro _ e he; cases he
  | cons x r ih =>
    intro hf e he
    rw [firstF] at hf
    split at hf
    · rename_i hx
      rcases List.mem_cons.1 he with rfl | he
      · exact hx
      · exact ih hf e he
    · exact absurd hf ‹_›
theorem stF_all {s : Sc} (h : stFault s = 0) : ∀ e ∈ s.all, enFault e = 0 := by
  have h1 : firstF enFault s.all = 0 := by
    unfold stFault at h
    repeat' (split at h <;> try (first | cases h | contradiction))
    all_goals first | (apply Classical.byContradiction; assumption) | simp_all
  exact firstF_all h1
theorem enF_key {e : En} (h : enFault e = 0) : e.key ≠ ByteArray.empty := fun h0 => by
  unfold enFault at h
  split at h
  · cases h
  · rename_i hk
    apply hk
    rw [h0]
    rfl
theorem stF_keys {s : Sc} (h : stFault s = 0) : keysOk s.all := fun e he => enF_key (stF_all h e he)
theorem putE_some {s : Sc} {e : En} {r : Ev} (h : putE s e = some r) : r.tr.Sublist (e :: s.tr) ∧ r.kp.Sublist s.kp ∧ r.gone.length ≤ s.all.length + 1 := by
  obtain ⟨a, b, c⟩ := evict_le _ _ _ h
  have n1 : (dropK s.tr e.key).length ≤ s.tr.length := List.length_filter_le _ _
  have n2 : (dropK s.kp e.key).length ≤ s.kp.length := List.length_filter_le _ _
  refine ⟨a.trans (List.Sublist.cons_cons e List.filter_sublist), b.trans List.filter_sublist, ?_⟩
  unfold evSize at c
  simp only [List.length_cons, List.length_nil] at c
  unfold Sc.all
  rw [List.length_append]
  omega
structure PutOk (s : Sc) (g : List ByteArray) : Prop where
  x : ∀ e ∈ s.all, e.cost ≤ 1048576
  c : s.cost ≤ 2097153
  n1 : s.tr.length ≤ 41
  n2 : s.kp.length ≤ 41
  g : g.length ≤ 41
theorem zPutOk : PutOk zSc [] := ⟨fun e he => by simp [zSc, Sc.all] at he, by show costL En.cost [] + costL En.cost [] ≤ _; decide, Nat.zero_le _, Nat.zero_le _, Nat.zero_le _⟩
theorem putR_ok {s : Sc} {e : En} (hs : s.cost ≤ 1048576) (he : e.cost ≤ 1048576) : PutOk (putR s e) (putG s e) := by
  unfold putR putG
  split
  · exact zPutOk
  · rename_i h0
    have h0 : stFault s = 0 := by simpa using h0
    split
    · exact zPutOk
    · cases hp : putE s e with
      | none => exact zPutOk
      | some r =>
        obtain ⟨a, b, c⟩ := putE_some hp
        have hl := stF_40 h0
        have hl2 : s.all.length = s.tr.length + s.kp.length := List.length_append
        have la := a.length_le
        have lb := b.length_le
        have ca := sub_cost (f := En.cost) a
        have cb := sub_cost (f := En.cost) b
        rw [costL_cons] at ca
        have ce : costL En.cost [e] = 1 + e.cost := by simp [costL]
        have hcs : s.cost = costL En.cost s.tr + costL En.cost s.kp := rfl
        rw [List.length_cons] at la
        refine ⟨fun x hx => ?_, ?_, by show r.tr.length ≤ _; omega, by show r.kp.length ≤ _; omega, by show r.gone.length ≤ _; omega⟩
        · rcases List.mem_append.1 hx with hx | hx
          · rcases List.mem_cons.1 (a.subset hx) with rfl | hx
            · exact he
            · have := costL_le (f := En.cost) hx; omega
          · have := costL_le (f := En.cost) (b.subset hx); omega
        · show costL En.cost r.tr + costL En.cost r.kp ≤ _
          omega
theorem putEntry_spec (x : StA) (e : EnA) (M : PH) (hi : x.inn M) (he : e.inn M) (hco : x.c.cost ≤ 1048576) (hec : e.c.cost ≤ 1048576) :
    ACall env 10 [x.val, e.val] M fun r M' => ∃ s o A c, r = prV (putC x.c e.c) s A (putG x.c e.c).length c ∧ s.c = putR x.c e.c ∧ NewP M M' s o A c (putG x.c e.c) := by
  refine xcall_of_vc Tryz.func10 rfl _ Tryz.ntmps10 _ rfl (fun _ _ => Tryz.call10 _ _) rfl (fun w0 ρ0 => ?_)
  conv => whnf
  refine Ret.go (storeFault_spec x _ hi hco) ?_
  conv => whnf
  refine caseB_ndec (fun h => ?_) (fun h => ?_)
  · conv => whnf
    have e1 : putC x.c e.c = stFault x.c := by unfold putC; rw [if_pos h]
    have e2 : putR x.c e.c = zSc := by unfold putR; rw [if_pos h]
    have e3 : putG x.c e.c = [] := by unfold putG; rw [if_pos h]
    rw [e1, e2, e3]
    exact ⟨M, PH.Le.refl _, zSo, none, none, 0, rfl, rfl, zNewP M⟩
  have h : stFault x.c = 0 := h
  conv => whnf
  refine Ret.go (entryFault_spec e _ he hec) ?_
  conv => whnf
  refine caseB_ndec (fun h2 => ?_) (fun h2 => ?_)
  · conv => whnf
    have e1 : putC x.c e.c = enFault e.c := by unfold putC; rw [if_neg (by simpa using h), if_pos h2]
    have e2 : putR x.c e.c = zSc := by unfold putR; rw [if_neg (by simpa using h), if_pos h2]
    have e3 : putG x.c e.c = [] := by unfold putG; rw [if_neg (by simpa using h), if_pos h2]
    rw [e1, e2, e3]
    exact ⟨M, PH.Le.refl _, zSo, none, none, 0, rfl, rfl, zNewP M⟩
  have h2 : enFault e.c = 0 := h2
  conv => whnf
  refine XCall.lift (l8Copy_ret x M hi hco) [0] ?_ (by simp) (by simp) (by simp [AV.plain]) ?_
  · simp [ren]
  rintro r bs' M1 ⟨⟨s, rfl, es, hs⟩, rfl⟩
  refine ⟨by simp [AV.plain], ?_⟩
  have hl := stF_40 h
  have hl1 : s.p1.length = x.c.tr.length := (List.length_map _).symm.trans (congrArg (fun z : Sc => z.tr.length) es)
  have hl2 : s.p2.length = x.c.kp.length := (List.length_map _).symm.trans (congrArg (fun z : Sc => z.kp.length) es)
  have hl3 : x.c.all.length = x.c.tr.length + x.c.kp.length := List.length_append
  have hcx : ∀ y ∈ x.c.all, y.cost ≤ 1048576 := fun y hy => by
    have hcs : x.c.cost = costL En.cost x.c.tr + costL En.cost x.c.kp := rfl
    rcases List.mem_append.1 hy with hy | hy
    · have := costL_le (f := En.cost) hy; omega
    · have := costL_le (f := En.cost) hy; omega
  have hput := l8Put_ret s e M M1 hs he (by omega) (by rw [es]; exact hcx) hec (by rw [es]; exact apt_of h) (by rw [es]; exact stF_keys h) (enF_key h2)
  rw [es] at hput
  conv => whnf
  refine XCall.lift hput [3] ?_ (by simp) (by simp) (by simp [AV.plain]) ?_
  · simp [ren]
  have e1 : putC x.c e.c = if (putE x.c e.c).isSome then 0 else 7 := by unfold putC; rw [if_neg (by simpa using h), if_neg (by simpa using h2)]
  have e2 : putR x.c e.c = match putE x.c e.c with | some r => evS x.c r | none => zSc := by unfold putR; rw [if_neg (by simpa using h), if_neg (by simpa using h2)]; cases putE x.c e.c <;> rfl
  have e3 : putG x.c e.c = match putE x.c e.c with | some r => r.gone | none => [] := by unfold putG; rw [if_neg (by simpa using h), if_neg (by simpa using h2)]; cases putE x.c e.c <;> rfl
  rintro r bs' M2 (⟨hE, rfl, hl, s', rfl⟩ | ⟨ev, s', o, A, c, hE, rfl, rfl, ec, hP⟩)
  · refine ⟨by simp [AV.plain], ?_⟩
    rw [hE] at e1 e2 e3
    rw [e1, e2, e3]
    conv => whnf
    refine caseB_true ?_
    conv => whnf
    exact ⟨M, hl, zSo, none, none, 0, rfl, rfl, zNewP M⟩
  · refine ⟨by simp [AV.plain], ?_⟩
    rw [hE] at e1 e2 e3
    rw [e1, e2, e3]
    conv => whnf
    refine caseB_false ?_
    conv => whnf
    exact ⟨_, PH.Le.refl _, s', o, A, c, rfl, by rw [ec, es], hP⟩
theorem putEntry_impl (x : StA) (e : EnA) (M : PH) (hi : x.inn M) (he : e.inn M) (hco : x.c.cost ≤ 1048576) (hec : e.c.cost ≤ 1048576) :
    ACall env 13 [x.val, e.val] M fun r M' => ∃ s o A c, r = prV (putC x.c e.c) s A (putG x.c e.c).length c ∧ s.c = putR x.c e.c ∧ NewP M M' s o A c (putG x.c e.c) := by
  refine xcall_of_vc Tryz.func13 rfl _ Tryz.ntmps13 _ rfl (fun _ _ => Tryz.call13 _ _) rfl (fun w0 ρ0 => ?_)
  conv => whnf
  refine Ret.go (storeFault_impl x _ hi hco) ?_
  conv => whnf
  refine caseB_dec (fun h => ?_) (fun h => ?_)
  rotate_left
  · conv => whnf
    refine caseB_ndec (fun _ => ?_) (fun h0 => absurd h0 h)
    have h : stFault x.c ≠ 0 := h
    conv => whnf
    have e1 : putC x.c e.c = stFault x.c := by unfold putC; rw [if_pos h]
    have e2 : putR x.c e.c = zSc := by unfold putR; rw [if_pos h]
    have e3 : putG x.c e.c = [] := by unfold putG; rw [if_pos h]
    rw [e1, e2, e3]
    exact ⟨M, PH.Le.refl _, zSo, none, none, 0, rfl, rfl, zNewP M⟩
  have h : stFault x.c = 0 := h
  conv => whnf
  refine Ret.go (entryFault_impl e _ he hec) ?_
  conv => whnf
  refine caseB_ndec (fun h2 => ?_) (fun h2 => ?_)
  · conv => whnf
    have e1 : putC x.c e.c = enFault e.c := by unfold putC; rw [if_neg (by simpa using h), if_pos h2]
    have e2 : putR x.c e.c = zSc := by unfold putR; rw [if_neg (by simpa using h), if_pos h2]
    have e3 : putG x.c e.c = [] := by unfold putG; rw [if_neg (by simpa using h), if_pos h2]
    rw [e1, e2, e3]
    exact ⟨M, PH.Le.refl _, zSo, none, none, 0, rfl, rfl, zNewP M⟩
  have h2 : enFault e.c = 0 := h2
  conv => whnf
  refine ACall.step (copyStore_ret x M hi hco) fun v M1 hh => ?_
  obtain ⟨s, rfl, es, hs⟩ := hh
  have hl := stF_40 h
  have hl1 : s.p1.length = x.c.tr.length := (List.length_map _).symm.trans (congrArg (fun z : Sc => z.tr.length) es)
  have hl2 : s.p2.length = x.c.kp.length := (List.length_map _).symm.trans (congrArg (fun z : Sc => z.kp.length) es)
  have hl3 : x.c.all.length = x.c.tr.length + x.c.kp.length := List.length_append
  have hcx : ∀ y ∈ x.c.all, y.cost ≤ 1048576 := fun y hy => by
    have hcs : x.c.cost = costL En.cost x.c.tr + costL En.cost x.c.kp := rfl
    rcases List.mem_append.1 hy with hy | hy
    · have := costL_le (f := En.cost) hy; omega
    · have := costL_le (f := En.cost) hy; omega
  have hput := put_ret s e M M1 hs he (by omega) (by rw [es]; exact hcx) hec
  rw [es] at hput
  conv => whnf
  refine XCall.lift hput [3] ?_ (by simp) (by simp) (by simp [AV.plain]) ?_
  · simp [ren]
  have e1 : putC x.c e.c = if (putE x.c e.c).isSome then 0 else 7 := by unfold putC; rw [if_neg (by simpa using h), if_neg (by simpa using h2)]
  have e2 : putR x.c e.c = match putE x.c e.c with | some r => evS x.c r | none => zSc := by unfold putR; rw [if_neg (by simpa using h), if_neg (by simpa using h2)]; cases putE x.c e.c <;> rfl
  have e3 : putG x.c e.c = match putE x.c e.c with | some r => r.gone | none => [] := by unfold putG; rw [if_neg (by simpa using h), if_neg (by simpa using h2)]; cases putE x.c e.c <;> rfl
  rintro r bs' M2 (⟨hE, rfl, hl, s', rfl⟩ | ⟨ev, s', o, A, c, hE, rfl, rfl, ec, hP⟩)
  · refine ⟨by simp [AV.plain], ?_⟩
    rw [hE] at e1 e2 e3
    rw [e1, e2, e3]
    conv => whnf
    refine caseB_true ?_
    conv => whnf
    exact ⟨M, hl, zSo, none, none, 0, rfl, rfl, zNewP M⟩
  · refine ⟨by simp [AV.plain], ?_⟩
    rw [hE] at e1 e2 e3
    rw [e1, e2, e3]
    conv => whnf
    refine caseB_false ?_
    conv => whnf
    exact ⟨_, PH.Le.refl _, s', o, A, c, rfl, by rw [ec, es], hP⟩
/-! ### The result compared, marked, read again -/
theorem eqStore2_ret (x y : StA) (M : PH) (hi : x.inn M) (hi' : y.inn M) (e : x.c = y.c) (hx : ∀ z ∈ x.c.all, z.cost ≤ 1048576) (n1 : x.tr.length ≤ 1048576) (n2 : x.kp.length ≤ 1048576) :
    Ret 15 [x.val, y.val] M (B true) := by
  have d1 : ∀ z ∈ x.tr, z.inn M ∧ z.c.cost ≤ 1048576 := fun z hz => ⟨hi.t.inn z hz, hx _ (List.mem_append_left _ (List.mem_map.2 ⟨z, hz, rfl⟩))⟩
  have d2 : ∀ z ∈ x.kp, z.inn M ∧ z.c.cost ≤ 1048576 := fun z hz => ⟨hi.k.inn z hz, hx _ (List.mem_append_right _ (List.mem_map.2 ⟨z, hz, rfl⟩))⟩
  obtain ⟨b, g, tr, kp, tA, tc, kA, kc⟩ := x
  obtain ⟨b', g', tr', kp', tA', tc', kA', kc'⟩ := y
  have e1 : b = b' := congrArg Sc.bud e
  have e2 : g = g' := congrArg Sc.gd e
  have e3 : conts tr = conts tr' := congrArg Sc.tr e
  have e4 : conts kp = conts kp' := congrArg Sc.kp e
  subst e1; subst e2
  have r1 := eqEntryS_ret tA tA' tc tc' tr tr' M hi.t.sl hi'.t.sl d1 hi'.t.inn e3.symm n1
  have r2 := eqEntryS_ret kA kA' kc kc' kp kp' M hi.k.sl hi'.k.sl d2 hi'.k.inn e4.symm n2
  refine xcall_of_vc Tryz.func15 rfl _ Tryz.ntmps15 _ rfl (fun _ _ => Tryz.call15 _ _) rfl (fun w0 ρ0 => ?_)
  conv => whnf
  repeat' (first | (refine ⟨⟨[], rfl⟩, _, PH.Le.refl _, PH.Le.refl _, ?_⟩; conv => whnf) | (refine caseB_true ?_; conv => whnf) | (refine caseB_false ?_; conv => whnf) | ((with_reducible refine caseB_dec (fun h => ?_) (fun h => ?_)) <;> conv => whnf) | ((with_reducible refine caseB_ndec (fun h => ?_) (fun h => ?_)) <;> conv => whnf) | ((with_reducible refine caseB_not (fun h => ?_) (fun h => ?_)) <;> conv => whnf) | (refine Ret.go (r1) ?_; conv => whnf) | (refine Ret.go (r2) ?_; conv => whnf) | (with_reducible refine @And.intro (guardVC _ _ _ _ _) _ ?_ ?_) <;> conv => whnf | (refine caseB_intro (fun h => ?_) (fun h => ?_) <;> (try simp only [Bool.not_eq_true', Bool.not_eq_false', decide_eq_true_eq, decide_eq_false_iff_not] at h) <;> conv => whnf))
  all_goals first | (exfalso; exact h rfl; done) | exact ⟨_, PH.Le.refl _, rfl, rfl⟩
theorem eqPut_ret (k : Int) (s s' : So) (A A' : Option Addr) (c c' : Nat) (ws : List ByteArray) (M : PH) (h : Dso M s) (h' : Dso M s') (hs : Sl M A 1 stC ws) (hs' : Sl M A' 1 stC ws) (e : s.c = s'.c) (hp : PutOk s.c ws) :
    Ret 14 [prV k s A ws.length c, prV k s' A' ws.length c'] M (B true) := by
  have hg := hp.g
  have hn1 := hp.n1
  have hn2 := hp.n2
  have hq := eqStore2_ret s.sta s'.sta M h.inn h'.inn (by rw [s.sta_c, s'.sta_c]; exact e) (by rw [s.sta_c]; exact hp.x) (by rw [← s.sta_c] at hn1; have : s.sta.tr.length = s.sta.c.tr.length := (List.length_map _).symm; omega) (by rw [← s.sta_c] at hn2; have : s.sta.kp.length = s.sta.c.kp.length := (List.length_map _).symm; omega)
  rw [s.sta_val, s'.sta_val] at hq
  refine xcall_of_vc Tryz.func14 rfl _ Tryz.ntmps14 _ rfl (fun _ _ => Tryz.call14 _ _) rfl (fun w0 ρ0 => ?_)
  conv => whnf
  refine caseB_ndec (fun h => absurd rfl h) (fun _ => ?_)
  conv => whnf
  refine Ret.go hq ?_
  conv => whnf
  refine caseB_false ?_
  conv => whnf
  refine Ret.go (eqStringS_ret A A' c c' ws _ hs hs' (by omega)) ?_
  conv => whnf
  refine caseB_false ?_
  conv => whnf
  exact ⟨_, PH.Le.refl _, rfl, rfl⟩
theorem markPut_ret (k : Int) (s : So) (o : Option Nat) (A : Option Addr) (c : Nat) (ws : List ByteArray) (M : PH) (h : Dso M s) (hk : Mok 1 s) (hw : Ow M o A c 1 stC ws) (ap : ∀ b ∈ soL s, Apart o b) (hn : ws.length ≤ 41) :
    ACall env 19 [prV k s A ws.length c, I 1] M fun r M' => ∃ s', r = I (posS 1 s + 1 * ws.length) ∧ Mks 1 s s' ∧ Dso M' s' ∧ Ow M' o A c 1 stC (marksL mText 1 (posS 1 s) ws.length) ∧ KeepsL (o :: soL s) M M' := by
  have hps := posS_end hk
  have hpb := hk.hi
  refine xcall_of_vc Tryz.func19 rfl _ Tryz.ntmps19 _ rfl (fun _ _ => Tryz.call19 _ _) rfl (fun w0 ρ0 => ?_)
  conv => whnf
  refine ACall.step (markStore_ret s 1 M h hk) fun v M1 hh => ?_
  obtain ⟨s', rfl, h1, h2, h3⟩ := hh
  conv => whnf
  refine ACall.step (markStringS_ret o A c ws (posS 1 s) M1 (ow_keepsL hw h3 ap) (by omega) ⟨by omega, by omega⟩) fun v M2 hh => ?_
  obtain ⟨rfl, h4, h5⟩ := hh
  conv => whnf
  have k5 : KeepsL (o :: soL s) M1 M2 := Keeps.inL h5 (by simp)
  have k3 : KeepsL (o :: soL s) M M1 := fun g ob hg hm => h3 g ob hg fun hb => hm (List.mem_cons_of_mem _ hb)
  exact ⟨_, PH.Le.refl _, s', rfl, h1, h2.keepsL (Keeps.inL h5 (by simp : o ∈ [o])) (fun a ha b hb => by rw [List.mem_singleton] at hb; subst hb; exact (ap a (h1.l ▸ ha)).symm), h4, k3.trans k5⟩
theorem heldPut_ret (k : Int) (s s' : So) (A : Option Addr) (c n : Nat) (M : PH) (h : Dso M s') (hk : Mok 1 s) (hm : Mks 1 s s') (hs : Sl M A 1 stC (marksL mText 1 (posS 1 s) n)) (hn : n ≤ 41) :
    Ret 20 [prV k s A n c, I 1] M (I (posS 1 s + 1 * n)) := by
  have hps := posS_end hk
  have hpb := hk.hi
  refine xcall_of_vc Tryz.func20 rfl _ Tryz.ntmps20 _ rfl (fun _ _ => Tryz.call20 _ _) rfl (fun w0 ρ0 => ?_)
  conv => whnf
  refine Ret.go (heldStore_ret s s' 1 M h hk hm hm.a) ?_
  conv => whnf
  refine caseB_dec (fun h => ?_) (fun _ => ?_)
  · exfalso; have h : posS 1 s < 0 := h; omega
  conv => whnf
  refine Ret.go (heldStringS_ret A c n (posS 1 s) M hs (by omega) ⟨by omega, by omega⟩) ?_
  conv => whnf
  refine caseB_dec (fun h => ?_) (fun _ => ?_)
  · exfalso; have h : posS 1 s + 1 * (n : Int) < 0 := h; omega
  conv => whnf
  exact ⟨_, PH.Le.refl _, rfl, rfl⟩
/-- An entry is marked from any number on. -/
theorem markEntry_any (y : EP) (k : Int) (M : PH) (h : Ed M y) (hp : (EP.blks y).Pairwise Apart) (hco : y.1.c.cost ≤ 1048576) (h0 : 0 ≤ k) (h1 : k ≤ 800000000000) :
    ACall env 18 [y.1.val, I k] M fun r M' => ∃ n, r = I n ∧ 0 ≤ n ∧ KeepsL (EP.blks y) M M' := by
  obtain ⟨_, _, hn1, hn2, hn3⟩ := En.hn hco
  obtain ⟨p12, p13, p23⟩ := apart3 hp
  refine xcall_of_vc Tryz.func18 rfl _ Tryz.ntmps18 _ rfl (fun _ _ => Tryz.call18 _ _) rfl (fun w0 ρ0 => ?_)
  conv => whnf
  refine ACall.step (markHeaderS_ret _ _ _ _ k M h.h (by omega) ⟨by omega, by omega⟩) fun v M1 hh => ?_
  obtain ⟨rfl, _, k1⟩ := hh
  have y1 := h.y.keeps k1 p12.symm
  have t1 := h.t.keeps k1 p13.symm
  conv => whnf
  refine ACall.step (markByteS_ret _ _ _ _ (k + 2 * (y.1.c.hs.length : Int)) M1 y1 (by omega) ⟨by omega, by omega⟩) fun v M2 hh => ?_
  obtain ⟨rfl, _, k2⟩ := hh
  have t2 := t1.keeps k2 p23.symm
  conv => whnf
  refine ACall.step (markStringS_ret _ _ _ _ (k + 2 * (y.1.c.hs.length : Int) + 1 * (y.1.c.body.length : Int)) M2 t2 (by omega) ⟨by omega, by omega⟩) fun v M3 hh => ?_
  obtain ⟨rfl, _, k3⟩ := hh
  conv => whnf
  exact ⟨_, PH.Le.refl _, _, rfl, by omega, ((Keeps.inL k1 (show y.2.1 ∈ [y.2.1, y.2.2.1, y.2.2.2] by simp)).trans (Keeps.inL k2 (show y.2.2.1 ∈ [y.2.1, y.2.2.1, y.2.2.2] by simp))).trans (Keeps.inL k3 (show y.2.2.2 ∈ [y.2.1, y.2.2.1, y.2.2.2] by simp))⟩
theorem putEntry_law (x : StA) (e : EnA) (M : PH) (hi : x.inn M) (ho : x.c.okl) (hei : e.inn M) (heo : e.c.okl) :
    ACall env 3 [x.val, e.val] M fun r M' => r = B true ∧ M.Le M' := by
  refine xcall_of_vc Tryz.func3 rfl _ Tryz.ntmps3 _ rfl (fun _ _ => Tryz.call3 _ _) rfl (fun w0 ρ0 => ?_)
  conv => whnf
  refine ACall.step (szStore_ret x _ M hi ho (by omega) (by omega)) fun v M0 hh => ?_
  obtain ⟨m, rfl, rfl, hm⟩ := hh
  conv => whnf
  refine caseB_dec (fun h0 => ?_) (fun h0 => ?_)
  · conv => whnf
    exact ⟨_, PH.Le.refl _, rfl, PH.Le.refl _⟩
  have h0 : ¬ m < 0 := h0
  have hm := hm (by omega)
  have hco : x.c.cost ≤ 1048576 := by omega
  conv => whnf
  refine ACall.step (szEntry_ret e m _ ⟨hei, heo⟩ (by omega) (by omega)) fun v M0' hh => ?_
  obtain ⟨m2, rfl, rfl, hm2⟩ := hh
  conv => whnf
  refine caseB_dec (fun h2 => ?_) (fun h2 => ?_)
  · conv => whnf
    exact ⟨_, PH.Le.refl _, rfl, PH.Le.refl _⟩
  have h2 : ¬ m2 < 0 := h2
  have hm2 := hm2 (by omega)
  have hec : e.c.cost ≤ 1048576 := by omega
  clear hm hm2 h0 h2 ho heo
  have hok := putR_ok hco hec
  have hpc := hok.c
  have hkl := hok.g
  conv => whnf
  refine join_rule (fun z : So × Option Nat × Option Addr × Nat => ⟨slots 92 [(2, .bp 0 0), (3, .bp 1 0), (4, .v (B false)), (6, .bp 2 0)], [⟨24, [.v (I x.b), .v (I x.g), .v (.slice x.tA x.tr.length x.tc), .v (.slice x.kA x.kp.length x.kc)]⟩, ⟨31, e.cs.map .v⟩, ⟨38, [.v (I (putC x.c e.c)), .v (I z.1.b), .v (I z.1.g), .v (.slice z.1.A1 z.1.p1.length z.1.c1), .v (.slice z.1.A2 z.1.p2.length z.1.c2), .v (.slice z.2.2.1 (putG x.c e.c).length z.2.2.2)]⟩]⟩) (fun z M' => M0'.Le M' ∧ z.1.c = putR x.c e.c ∧ Dso M' z.1 ∧ Ow M' z.2.1 z.2.2.1 z.2.2.2 1 stC (putG x.c e.c)) ?_ ?_
  · have lev : ∀ {A B C : PH}, A.Le B → B.Le C → A.Le C := fun a b => a.trans b
    repeat' (first | (refine ⟨⟨[], rfl⟩, _, PH.Le.refl _, PH.Le.refl _, ?_⟩; conv => whnf) | (refine ⟨⟨_, rfl⟩, _, PH.Le.refl _, PH.Le.refl _, ?_⟩; conv => whnf) | (refine ACall.step (putEntry_spec y1 y2 _ (i1.mono (by assumption)) (by assumption) (by rw [e1]; exact hco) (by rw [e2]; exact hec)) fun v M3 hh => ?_; obtain ⟨z1, o1, A1, d1, rfl, c1, N1⟩ := hh; rw [e1, e2] at c1 N1; rw [e1, e2]; (first | (refine ⟨⟨[], rfl⟩, _, N1.st.le, PH.Le.refl _, ?_⟩; conv => whnf) | (refine ⟨⟨_, rfl⟩, _, N1.st.le, PH.Le.refl _, ?_⟩; conv => whnf) | conv => whnf)) | (refine ACall.step (toEntry_ret e _ (hei.mono (by assumption)) hec) fun v M2 hh => ?_; obtain ⟨y2, rfl, e2, l2, i2, _⟩ := hh; (first | (refine ⟨⟨[], rfl⟩, _, l2, PH.Le.refl _, ?_⟩; conv => whnf) | (refine ⟨⟨_, rfl⟩, _, l2, PH.Le.refl _, ?_⟩; conv => whnf) | conv => whnf)) | (refine ACall.step (toStore_ret x _ hi hco) fun v M1 hh => ?_; obtain ⟨y1, rfl, e1, l1, i1⟩ := hh; (first | (refine ⟨⟨[], rfl⟩, _, l1, PH.Le.refl _, ?_⟩; conv => whnf) | (refine ⟨⟨_, rfl⟩, _, l1, PH.Le.refl _, ?_⟩; conv => whnf) | conv => whnf)) | (refine caseB_true ?_; conv => whnf) | (refine caseB_false ?_; conv => whnf) | ((with_reducible refine caseB_dec (fun h => ?_) (fun h => ?_)) <;> conv => whnf) | ((with_reducible refine caseB_ndec (fun h => ?_) (fun h => ?_)) <;> conv => whnf) | ((with_reducible refine caseB_not (fun h => ?_) (fun h => ?_)) <;> conv => whnf) | (refine draw_rule (.light 0 <| .light 2 <| .alt 1 false (.alt 3 false (.alt 4 false (.alt 5 false (.alt 6 true (.done) .nil) .nil) (.alt 5 false (.alt 4 false (.alt 6 true (.done) .nil) .nil) .nil)) (.alt 5 false (.alt 3 false (.alt 4 false (.alt 6 true (.done) .nil) .nil) .nil) .nil)) (.alt 5 false (.alt 1 false (.alt 3 false (.alt 4 false (.alt 6 true (.done) .nil) .nil) .nil) .nil) .nil)) (by decide +kernel) ?_; conv => whnf) | (refine draw_rule (.light 0 <| .light 1 <| .alt 2 false (.alt 3 false (.light 4 <| .done) .nil) .nil) (by decide +kernel) ?_; conv => whnf) | (refine draw_rule (.light 0 <| .light 1 <| .alt 2 false (.alt 3 false (.light 4 <| .done) .nil) .nil) (by decide +kernel) ?_; conv => whnf) | (refine draw_rule (.light 0 <| .light 2 <| .alt 1 false (.alt 3 false (.alt 4 false (.alt 5 false (.alt 6 true (.done) .nil) .nil) (.alt 5 false (.alt 4 false (.alt 6 true (.done) .nil) .nil) .nil)) (.alt 5 false (.alt 3 false (.alt 4 false (.alt 6 true (.done) .nil) .nil) .nil) .nil)) (.alt 5 false (.alt 1 false (.alt 3 false (.alt 4 false (.alt 6 true (.done) .nil) .nil) .nil) .nil) .nil)) (by decide +kernel) ?_; conv => whnf) | (with_reducible refine @And.intro (guardVC _ _ _ _ _) _ ?_ ?_) <;> conv => whnf | (refine caseB_intro (fun h => ?_) (fun h => ?_) <;> (try simp only [Bool.not_eq_true', Bool.not_eq_false', decide_eq_true_eq, decide_eq_false_iff_not] at h) <;> conv => whnf))
    all_goals exact ⟨(z1, o1, A1, d1), ⟨by simp [slots, leT], ⟨[], rfl⟩, by simp, rfl, rfl⟩, (l1.trans l2).trans N1.st.le, c1, N1.st.d, N1.w⟩
  rintro ⟨z1, o1, A1, d1⟩ M2 ⟨l2, c1, D1, O1⟩
  have c1 : z1.c = putR x.c e.c := c1
  have D1 : Dso M2 z1 := D1
  have O1 : Ow M2 o1 A1 d1 1 stC (putG x.c e.c) := O1
  have l2 : M0'.Le M2 := l2
  conv => whnf
  refine ACall.step (toStore_own x _ (hi.mono l2) hco) fun v M3 hh => ?_
  obtain ⟨s, rfl, es, l3, D, F⟩ := hh
  have l4 := l2.trans l3
  conv => whnf
  refine ACall.step (toEntry_own e _ (hei.mono l4) hec) fun v M3' hh => ?_
  obtain ⟨y, rfl, ey, l3', E, FE, pE⟩ := hh
  have l4' := l4.trans l3'
  conv => whnf
  have hsv := s.sta_val
  have hsc := s.sta_c
  have hcs : s.sta.c.cost ≤ 1048576 := by rw [hsc, es]; exact hco
  have hye : y.1.c.cost ≤ 1048576 := by rw [ey]; exact hec
  have apsy : ∀ a ∈ EP.blks y, ∀ b ∈ soL s, Apart a b := fun a ha b hb => (apart_of D.kn FE b hb a ha).symm
  have D := D.mono l3'
  have hI := putEntry_impl s.sta y.1 M3' D.inn E.inn hcs hye
  rw [hsv, hsc, es, ey] at hI
  refine ACall.step hI fun v M4 hh => ?_
  obtain ⟨z2, o2, A2, d2, rfl, c2, N2⟩ := hh
  have l5 := l4'.trans N2.st.le
  conv => whnf
  have W1 := D1.mono ((l3.trans l3').trans N2.st.le)
  have W2 := N2.st.d
  have K1 := O1.mono ((l3.trans l3').trans N2.st.le)
  have K2 := N2.w
  have kn1 : Kn M2 (o1 :: soL z1) := fun b hb => (List.mem_cons.1 hb).elim (fun e => e ▸ O1.known) (D1.kn b)
  have fr2 : Fr M3' (o2 :: soL z2) := fun b hb => (List.mem_cons.1 hb).elim (fun e => e ▸ N2.f) (N2.st.fr b)
  have FE2 : Fr M2 (EP.blks y) := FE.le l3
  have ap1 := apart_of kn1 F
  have ap1e := apart_of kn1 FE2
  have ap2 : ∀ a ∈ o2 :: soL z2, ∀ b ∈ soL s, Apart a b := fun a ha b hb => (apart_of D.kn fr2 b hb a ha).symm
  have ap2e : ∀ a ∈ o2 :: soL z2, ∀ b ∈ EP.blks y, Apart a b := fun a ha b hb => (apart_of E.kn fr2 b hb a ha).symm
  have ap12 : ∀ a ∈ o1 :: soL z1, ∀ b ∈ o2 :: soL z2, Apart a b := apart_of (kn1.mono (l3.trans l3')) fr2
  have D := D.mono N2.st.le
  have E := E.mono N2.st.le
  have q12 : z2.c = z1.c := by rw [c1, c2]
  have ok2 : PutOk z2.c (putG x.c e.c) := by rw [c2]; exact hok
  have q2 : z2.c.cost ≤ 2097153 := ok2.c
  have mok2 : Mok 1 z2 := Mok.of (by omega) (by omega)
  have hps2 := posS_end mok2
  refine Ret.go (eqPut_ret _ z2 z1 A2 A1 d2 d1 _ _ W2 W1 (K2.sl fun _ => rfl) (K1.sl fun _ => rfl) q12 ok2) ?_
  conv => whnf
  refine caseB_false ?_
  conv => whnf
  repeat' (first | (refine ⟨⟨[], rfl⟩, _, PH.Le.refl _, PH.Le.refl _, ?_⟩; conv => whnf) | (refine caseB_true ?_; conv => whnf) | (refine caseB_false ?_; conv => whnf) | ((with_reducible refine caseB_dec (fun h => ?_) (fun h => ?_)) <;> conv => whnf) | ((with_reducible refine caseB_ndec (fun h => ?_) (fun h => ?_)) <;> conv => whnf) | ((with_reducible refine caseB_not (fun h => ?_) (fun h => ?_)) <;> conv => whnf) | (refine draw_rule (.light 0 <| .light 2 <| .alt 1 false (.alt 3 false (.alt 4 false (.alt 5 false (.alt 6 true (.done) .nil) .nil) (.alt 5 false (.alt 4 false (.alt 6 true (.done) .nil) .nil) .nil)) (.alt 5 false (.alt 3 false (.alt 4 false (.alt 6 true (.done) .nil) .nil) .nil) .nil)) (.alt 5 false (.alt 1 false (.alt 3 false (.alt 4 false (.alt 6 true (.done) .nil) .nil) .nil) .nil) .nil)) (by decide +kernel) ?_; conv => whnf) | (refine draw_rule (.light 0 <| .light 1 <| .alt 2 false (.alt 3 false (.light 4 <| .done) .nil) .nil) (by decide +kernel) ?_; conv => whnf) | (refine draw_rule (.light 0 <| .light 1 <| .alt 2 false (.alt 3 false (.light 4 <| .done) .nil) .nil) (by decide +kernel) ?_; conv => whnf) | (refine draw_rule (.light 0 <| .light 2 <| .alt 1 false (.alt 3 false (.alt 4 false (.alt 5 false (.alt 6 true (.done) .nil) .nil) (.alt 5 false (.alt 4 false (.alt 6 true (.done) .nil) .nil) .nil)) (.alt 5 false (.alt 3 false (.alt 4 false (.alt 6 true (.done) .nil) .nil) .nil) .nil)) (.alt 5 false (.alt 1 false (.alt 3 false (.alt 4 false (.alt 6 true (.done) .nil) .nil) .nil) .nil) .nil)) (by decide +kernel) ?_; conv => whnf) | (with_reducible refine @And.intro (guardVC _ _ _ _ _) _ ?_ ?_) <;> conv => whnf | (refine caseB_intro (fun h => ?_) (fun h => ?_) <;> (try simp only [Bool.not_eq_true', Bool.not_eq_false', decide_eq_true_eq, decide_eq_false_iff_not] at h) <;> conv => whnf))
  refine ACall.step (toStore_ret x _ (hi.mono l5) hco) fun v M5 hh => ?_
  obtain ⟨y5, rfl, e5, l6, i5⟩ := hh
  (first | (refine ⟨⟨[], rfl⟩, _, l6, PH.Le.refl _, ?_⟩; conv => whnf) | conv => whnf)
  have D := D.mono l6
  have E := E.mono l6
  have W1 := W1.mono l6
  have W2 := W2.mono l6
  have K1 := K1.mono l6
  have K2 := K2.mono l6
  have hq := eqStore_ret s.sta y5 _ D.inn i5 (by rw [hsc, es, e5]) hcs
  rw [hsv] at hq
  refine Ret.go hq ?_
  (first | (refine ⟨⟨[], rfl⟩, _, PH.Le.refl _, PH.Le.refl _, ?_⟩; conv => whnf) | conv => whnf)
  refine caseB_false ?_
  conv => whnf
  repeat' (first | (refine ⟨⟨[], rfl⟩, _, PH.Le.refl _, PH.Le.refl _, ?_⟩; conv => whnf) | (refine caseB_true ?_; conv => whnf) | (refine caseB_false ?_; conv => whnf) | ((with_reducible refine caseB_dec (fun h => ?_) (fun h => ?_)) <;> conv => whnf) | ((with_reducible refine caseB_ndec (fun h => ?_) (fun h => ?_)) <;> conv => whnf) | ((with_reducible refine caseB_not (fun h => ?_) (fun h => ?_)) <;> conv => whnf) | (refine draw_rule (.light 0 <| .light 2 <| .alt 1 false (.alt 3 false (.alt 4 false (.alt 5 false (.alt 6 true (.done) .nil) .nil) (.alt 5 false (.alt 4 false (.alt 6 true (.done) .nil) .nil) .nil)) (.alt 5 false (.alt 3 false (.alt 4 false (.alt 6 true (.done) .nil) .nil) .nil) .nil)) (.alt 5 false (.alt 1 false (.alt 3 false (.alt 4 false (.alt 6 true (.done) .nil) .nil) .nil) .nil) .nil)) (by decide +kernel) ?_; conv => whnf) | (refine draw_rule (.light 0 <| .light 1 <| .alt 2 false (.alt 3 false (.light 4 <| .done) .nil) .nil) (by decide +kernel) ?_; conv => whnf) | (refine draw_rule (.light 0 <| .light 1 <| .alt 2 false (.alt 3 false (.light 4 <| .done) .nil) .nil) (by decide +kernel) ?_; conv => whnf) | (refine draw_rule (.light 0 <| .light 2 <| .alt 1 false (.alt 3 false (.alt 4 false (.alt 5 false (.alt 6 true (.done) .nil) .nil) (.alt 5 false (.alt 4 false (.alt 6 true (.done) .nil) .nil) .nil)) (.alt 5 false (.alt 3 false (.alt 4 false (.alt 6 true (.done) .nil) .nil) .nil) .nil)) (.alt 5 false (.alt 1 false (.alt 3 false (.alt 4 false (.alt 6 true (.done) .nil) .nil) .nil) .nil) .nil)) (by decide +kernel) ?_; conv => whnf) | (with_reducible refine @And.intro (guardVC _ _ _ _ _) _ ?_ ?_) <;> conv => whnf | (refine caseB_intro (fun h => ?_) (fun h => ?_) <;> (try simp only [Bool.not_eq_true', Bool.not_eq_false', decide_eq_true_eq, decide_eq_false_iff_not] at h) <;> conv => whnf))
  refine ACall.step (toEntry_ret e _ (hei.mono (l5.trans l6)) hec) fun v M5' hh => ?_
  obtain ⟨y6, rfl, e6, l6', i6, _⟩ := hh
  (first | (refine ⟨⟨[], rfl⟩, _, l6', PH.Le.refl _, ?_⟩; conv => whnf) | conv => whnf)
  have D := D.mono l6'
  have E := E.mono l6'
  have W1 := W1.mono l6'
  have W2 := W2.mono l6'
  have K1 := K1.mono l6'
  have K2 := K2.mono l6'
  refine Ret.go (eqEntry_ret y.1 y6 _ E.inn i6 (by rw [ey, e6]) hye) ?_
  (first | (refine ⟨⟨[], rfl⟩, _, PH.Le.refl _, PH.Le.refl _, ?_⟩; conv => whnf) | conv => whnf)
  refine caseB_false ?_
  conv => whnf
  have mok : Mok 1 s := Mok.of (by omega) (by rw [← hsc]; omega)
  refine ACall.step (markStore_ret s 1 _ D mok) fun v M6 hh => ?_
  obtain ⟨s', rfl, _, _, K6⟩ := hh
  have hps := posS_end mok
  have hpb := mok.hi
  have E := E.keepsL K6 apsy
  have W1 := W1.keepsL K6 fun a ha => ap1 a (List.mem_cons_of_mem _ ha)
  have W2 := W2.keepsL K6 fun a ha => ap2 a (List.mem_cons_of_mem _ ha)
  have K1 := ow_keepsL K1 K6 (ap1 o1 List.mem_cons_self)
  have K2 := ow_keepsL K2 K6 (ap2 o2 List.mem_cons_self)
  have L6 : M0'.Le M6 := K6.over ((l5.trans l6).trans l6') (F.le l2)
  conv => whnf
  refine ACall.step (markEntry_any y (posS 1 s) _ E pE hye (by omega) (by omega)) fun v M6' hh => ?_
  obtain ⟨n6, rfl, hn6, K6'⟩ := hh
  have W1 := W1.keepsL K6' fun a ha => ap1e a (List.mem_cons_of_mem _ ha)
  have W2 := W2.keepsL K6' fun a ha => ap2e a (List.mem_cons_of_mem _ ha)
  have K1 := ow_keepsL K1 K6' (ap1e o1 List.mem_cons_self)
  have K2 := ow_keepsL K2 K6' (ap2e o2 List.mem_cons_self)
  have L6 : M0'.Le M6' := K6'.over L6 (FE2.le l2)
  conv => whnf
  refine caseB_dec (fun h => ?_) (fun _ => ?_)
  · exfalso; have h : n6 < 0 := h; omega
  conv => whnf
  repeat (refine caseB_false ?_; conv => whnf)
  refine Ret.go (eqPut_ret _ z2 z1 A2 A1 d2 d1 _ _ W2 W1 (K2.sl fun _ => rfl) (K1.sl fun _ => rfl) q12 ok2) ?_
  conv => whnf
  repeat (refine caseB_false ?_; conv => whnf)
  refine ACall.step (markPut_ret _ z2 o2 A2 d2 _ _ W2 mok2 K2 N2.a hkl) fun v M7 hh => ?_
  obtain ⟨z3, rfl, mk3, W3, K3, K7⟩ := hh
  have W1 := W1.keepsL K7 fun a ha => ap12 a (List.mem_cons_of_mem _ ha)
  have K1 := ow_keepsL K1 K7 (ap12 o1 List.mem_cons_self)
  have L7 : M0'.Le M7 := K7.over L6 (fr2.le l4')
  conv => whnf
  refine Ret.go (heldPut_ret _ z2 z3 A2 d2 _ _ W3 mok2 mk3 (K3.sl fun _ => rfl) hkl) ?_
  conv => whnf
  refine caseB_dec (fun h => ?_) (fun _ => ?_)
  · exfalso; have h : posS 1 z2 + 1 * ((putG x.c e.c).length : Int) < 0 := h; omega
  conv => whnf
  refine caseB_ndec (fun h => absurd rfl h) (fun _ => ?_)
  conv => whnf
  refine join_rule (fun z : So × Option Nat × Option Addr × Nat => ⟨slots 92 [(2, .bp 0 0), (3, .bp 1 0), (4, .v (B false)), (6, .bp 2 0), (9, .bp 5 0), (11, .v (I (posS 1 z2 + 1 * (putG x.c e.c).length))), (13, .bp 6 0)], [⟨24, [.v (I x.b), .v (I x.g), .v (.slice x.tA x.tr.length x.tc), .v (.slice x.kA x.kp.length x.kc)]⟩, ⟨31, e.cs.map .v⟩, ⟨38, [.v (I (putC x.c e.c)), .v (I z1.b), .v (I z1.g), .v (.slice z1.A1 z1.p1.length z1.c1), .v (.slice z1.A2 z1.p2.length z1.c2), .v (.slice A1 (putG x.c e.c).length d1)]⟩, ⟨36, [.v (I s.b), .v (I s.g), .v (.slice s.A1 s.p1.length s.c1), .v (.slice s.A2 s.p2.length s.c2)]⟩, ⟨44, y.1.cs.map .v⟩, ⟨38, [.v (I (putC x.c e.c)), .v (I z2.b), .v (I z2.g), .v (.slice z2.A1 z2.p1.length z2.c1), .v (.slice z2.A2 z2.p2.length z2.c2), .v (.slice A2 (putG x.c e.c).length d2)]⟩, ⟨38, [.v (I (putC x.c e.c)), .v (I z.1.b), .v (I z.1.g), .v (.slice z.1.A1 z.1.p1.length z.1.c1), .v (.slice z.1.A2 z.1.p2.length z.1.c2), .v (.slice z.2.2.1 (putG x.c e.c).length z.2.2.2)]⟩]⟩) (fun z M' => M7.Le M' ∧ z.1.c = putR x.c e.c ∧ Dso M' z.1 ∧ Ow M' z.2.1 z.2.2.1 z.2.2.2 1 stC (putG x.c e.c)) ?_ ?_
  · repeat' (first | (refine ⟨⟨[], rfl⟩, _, PH.Le.refl _, PH.Le.refl _, ?_⟩; conv => whnf) | (refine ⟨⟨_, rfl⟩, _, PH.Le.refl _, PH.Le.refl _, ?_⟩; conv => whnf) | (refine ACall.step (putEntry_impl y8 y9 _ (i8.mono (by assumption)) (by assumption) (by rw [e8]; exact hco) (by rw [e9]; exact hec)) fun v M10 hh => ?_; obtain ⟨z9, o9, A9, d9, rfl, c9, N9⟩ := hh; rw [e8, e9] at c9 N9; rw [e8, e9]; (first | (refine ⟨⟨[], rfl⟩, _, N9.st.le, PH.Le.refl _, ?_⟩; conv => whnf) | (refine ⟨⟨_, rfl⟩, _, N9.st.le, PH.Le.refl _, ?_⟩; conv => whnf) | conv => whnf)) | (refine ACall.step (toEntry_ret e _ (hei.mono (L7.trans (by assumption))) hec) fun v M9 hh => ?_; obtain ⟨y9, rfl, e9, l9, i9, _⟩ := hh; (first | (refine ⟨⟨[], rfl⟩, _, l9, PH.Le.refl _, ?_⟩; conv => whnf) | (refine ⟨⟨_, rfl⟩, _, l9, PH.Le.refl _, ?_⟩; conv => whnf) | conv => whnf)) | (refine ACall.step (toStore_ret x _ (hi.mono L7) hco) fun v M8 hh => ?_; obtain ⟨y8, rfl, e8, l8, i8⟩ := hh; (first | (refine ⟨⟨[], rfl⟩, _, l8, PH.Le.refl _, ?_⟩; conv => whnf) | (refine ⟨⟨_, rfl⟩, _, l8, PH.Le.refl _, ?_⟩; conv => whnf) | conv => whnf)) | (refine caseB_true ?_; conv => whnf) | (refine caseB_false ?_; conv => whnf) | ((with_reducible refine caseB_dec (fun h => ?_) (fun h => ?_)) <;> conv => whnf) | ((with_reducible refine caseB_ndec (fun h => ?_) (fun h => ?_)) <;> conv => whnf) | ((with_reducible refine caseB_not (fun h => ?_) (fun h => ?_)) <;> conv => whnf) | (refine draw_rule (.light 0 <| .light 2 <| .alt 1 false (.alt 3 false (.alt 4 false (.alt 5 false (.alt 6 true (.done) .nil) .nil) (.alt 5 false (.alt 4 false (.alt 6 true (.done) .nil) .nil) .nil)) (.alt 5 false (.alt 3 false (.alt 4 false (.alt 6 true (.done) .nil) .nil) .nil) .nil)) (.alt 5 false (.alt 1 false (.alt 3 false (.alt 4 false (.alt 6 true (.done) .nil) .nil) .nil) .nil) .nil)) (by decide +kernel) ?_; conv => whnf) | (refine draw_rule (.light 0 <| .light 1 <| .alt 2 false (.alt 3 false (.light 4 <| .done) .nil) .nil) (by decide +kernel) ?_; conv => whnf) | (refine draw_rule (.light 0 <| .light 1 <| .alt 2 false (.alt 3 false (.light 4 <| .done) .nil) .nil) (by decide +kernel) ?_; conv => whnf) | (refine draw_rule (.light 0 <| .light 2 <| .alt 1 false (.alt 3 false (.alt 4 false (.alt 5 false (.alt 6 true (.done) .nil) .nil) (.alt 5 false (.alt 4 false (.alt 6 true (.done) .nil) .nil) .nil)) (.alt 5 false (.alt 3 false (.alt 4 false (.alt 6 true (.done) .nil) .nil) .nil) .nil)) (.alt 5 false (.alt 1 false (.alt 3 false (.alt 4 false (.alt 6 true (.done) .nil) .nil) .nil) .nil) .nil)) (by decide +kernel) ?_; conv => whnf) | (with_reducible refine @And.intro (guardVC _ _ _ _ _) _ ?_ ?_) <;> conv => whnf | (refine caseB_intro (fun h => ?_) (fun h => ?_) <;> (try simp only [Bool.not_eq_true', Bool.not_eq_false', decide_eq_true_eq, decide_eq_false_iff_not] at h) <;> conv => whnf))
    all_goals exact ⟨(z9, o9, A9, d9), ⟨by simp [slots, leT], ⟨[], rfl⟩, by simp, rfl, rfl⟩, (l8.trans l9).trans N9.st.le, c9, N9.st.d, N9.w⟩
  rintro ⟨z9, o9, A9, d9⟩ M9 ⟨l9, c9, D9, O9⟩
  have c9 : z9.c = putR x.c e.c := c9
  have D9 : Dso M9 z9 := D9
  have O9 : Ow M9 o9 A9 d9 1 stC (putG x.c e.c) := O9
  have l9 : M7.Le M9 := l9
  have W1 := W1.mono l9
  have W3 := W3.mono l9
  have K1 := K1.mono l9
  have K3 := K3.mono l9
  have ok9 : PutOk z9.c (putG x.c e.c) := by rw [c9]; exact hok
  conv => whnf
  refine Ret.go (eqPut_ret _ z9 z1 A9 A1 d9 d1 _ _ D9 W1 (O9.sl fun _ => rfl) (K1.sl fun _ => rfl) (by rw [c9, c1]) ok9) ?_
  conv => whnf
  refine caseB_false ?_
  conv => whnf
  refine Ret.go (heldPut_ret _ z2 z3 A2 d2 _ _ W3 mok2 mk3 (K3.sl fun _ => rfl) hkl) ?_
  conv => whnf
  refine caseB_dec (fun h => ?_) (fun _ => ?_)
  · exfalso; have h : posS 1 z2 + 1 * ((putG x.c e.c).length : Int) < 0 := h; omega
  conv => whnf
  refine caseB_ndec (fun h => absurd rfl h) (fun _ => ?_)
  conv => whnf
  exact ⟨_, PH.Le.refl _, rfl, L7.trans l9⟩
end Go.Proofs.YtgjaiabenjafeaaGreatDoor
