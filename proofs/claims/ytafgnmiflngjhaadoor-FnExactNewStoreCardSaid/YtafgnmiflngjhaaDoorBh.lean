/-
  THE LAWS: what is wrong with a store; what is in it costs; a new one.
-/
import Derived.Test.YtafgnmiflngjhaaDoorBg
import Derived.Test.YtafgnmiflngjhaaDoorBe
namespace Go.Proofs.YtafgnmiflngjhaaDoor
set_option maxRecDepth 100000
set_option linter.unusedSimpArgs false
set_option linter.unusedVariables false
open Go.Xe
theorem storeFault_law (x : StA) (M : PH) (hi : x.inn M) (ho : x.c.okl) :
    ACall env 5 [x.val] M fun r M' => r = B true ∧ M.Le M' := by
  refine xcall_of_vc Tryd.func5 rfl _ Tryd.ntmps5 _ rfl (fun _ _ => Tryd.call5 _ _) rfl (fun w0 ρ0 => ?_)
  conv => whnf
  refine ACall.step (szStore_ret x _ M hi ho (by omega) (by omega)) fun v M2 hh => ?_
  obtain ⟨m, rfl, rfl, hm⟩ := hh
  conv => whnf
  refine caseB_dec (fun h0 => ?_) (fun h0 => ?_)
  · conv => whnf
    exact ⟨_, PH.Le.refl _, rfl, PH.Le.refl _⟩
  have hm := hm (by omega)
  have hco : x.c.cost ≤ 1048576 := by omega
  clear hm h0 ho
  conv => whnf
  refine ACall.step (toStore_ret x _ hi hco) fun v M1 hh => ?_
  obtain ⟨y1, rfl, e1, l1, i1⟩ := hh
  conv => whnf
  refine Ret.go (storeFault_spec y1 _ i1 (by rw [e1]; exact hco)) ?_
  conv => whnf
  refine ACall.step (toStore_ret x _ (hi.mono l1) hco) fun v M3 hh => ?_
  obtain ⟨y2, rfl, e2, l2, i2⟩ := hh
  conv => whnf
  refine Ret.go (storeFault_impl y2 _ i2 (by rw [e2]; exact hco)) ?_
  conv => whnf
  refine caseB_ndec (fun h => absurd (by rw [e1, e2]) h) (fun _ => ?_)
  conv => whnf
  repeat' (first | (refine ⟨⟨[], rfl⟩, _, PH.Le.refl _, PH.Le.refl _, ?_⟩; conv => whnf) | (refine ACall.step (toStore_ret x _ ((hi.mono l1).mono l2) hco) fun v M4 hh => ?_; obtain ⟨y3, rfl, e3, l3, i3⟩ := hh; (first | (refine ⟨⟨[], rfl⟩, _, l3, PH.Le.refl _, ?_⟩; conv => whnf) | conv => whnf)) | (refine caseB_true ?_; conv => whnf) | (refine caseB_false ?_; conv => whnf) | ((with_reducible refine caseB_dec (fun h => ?_) (fun h => ?_)) <;> conv => whnf) | ((with_reducible refine caseB_ndec (fun h => ?_) (fun h => ?_)) <;> conv => whnf) | ((with_reducible refine caseB_not (fun h => ?_) (fun h => ?_)) <;> conv => whnf) | (refine draw_rule (.light 0 <| .light 1 <| .alt 2 false (.alt 3 false (.light 4 <| .done) .nil) .nil) (by decide +kernel) ?_; conv => whnf) | (refine Ret.go (eqStore_ret y2 y3 _ (i2.mono l3) i3 (by rw [e2, e3]) (by rw [e2]; exact hco)) ?_; conv => whnf) | (with_reducible refine @And.intro (guardVC _ _ _ _ _) _ ?_ ?_) <;> conv => whnf | (refine caseB_intro (fun h => ?_) (fun h => ?_) <;> (try simp only [Bool.not_eq_true', Bool.not_eq_false', decide_eq_true_eq, decide_eq_false_iff_not] at h) <;> conv => whnf))
  all_goals exact ⟨_, PH.Le.refl _, rfl, (l1.trans l2).trans l3⟩
noncomputable def costInR (s : Sc) : IR := if stFault s = 0 then ⟨0, eCosts s.all⟩ else ⟨stFault s, 0⟩
theorem costIn_impl (x : StA) (M : PH) (hi : x.inn M) (hco : x.c.cost ≤ 1048576) : Ret 22 [x.val] M (costInR x.c).v := by
  refine xcall_of_vc Tryd.func22 rfl _ Tryd.ntmps22 _ rfl (fun _ _ => Tryd.call22 _ _) rfl (fun w0 ρ0 => ?_)
  conv => whnf
  repeat' (first | (refine ⟨⟨[], rfl⟩, _, PH.Le.refl _, PH.Le.refl _, ?_⟩; conv => whnf) | (refine caseB_true ?_; conv => whnf) | (refine caseB_false ?_; conv => whnf) | ((with_reducible refine caseB_dec (fun h => ?_) (fun h => ?_)) <;> conv => whnf) | ((with_reducible refine caseB_ndec (fun h => ?_) (fun h => ?_)) <;> conv => whnf) | ((with_reducible refine caseB_not (fun h => ?_) (fun h => ?_)) <;> conv => whnf) | (refine Ret.go (storeFault_impl x _ hi hco) ?_; conv => whnf) | (refine Ret.go (storeCost_ret x _ hi hco) ?_; conv => whnf) | (with_reducible refine @And.intro (guardVC _ _ _ _ _) _ ?_ ?_) <;> conv => whnf | (refine caseB_intro (fun h => ?_) (fun h => ?_) <;> (try simp only [Bool.not_eq_true', Bool.not_eq_false', decide_eq_true_eq, decide_eq_false_iff_not] at h) <;> conv => whnf))
  all_goals (refine ⟨_, PH.Le.refl _, ?_, rfl⟩; unfold costInR; first | (rw [if_pos (by assumption)]; rfl; done) | (rw [if_neg (by assumption)]; rfl; done))
theorem costIn_spec (x : StA) (M : PH) (hi : x.inn M) (hco : x.c.cost ≤ 1048576) : Ret 21 [x.val] M (costInR x.c).v := by
  have hc1 : costL En.cost (conts x.tr) ≤ 1048576 := by unfold Sc.cost StA.c at hco; simp only at hco; omega
  have hc2 : costL En.cost (conts x.kp) ≤ 1048576 := by unfold Sc.cost StA.c at hco; simp only at hco; omega
  obtain ⟨n1, d1⟩ := costE hc1
  obtain ⟨n2, d2⟩ := costE hc2
  have hd : ∀ y ∈ x.tr ++ x.kp, y.c.cost ≤ 1048576 := fun y hy => (List.mem_append.1 hy).elim (fun h => d1 y h) (fun h => d2 y h)
  have hwn : (x.tr ++ x.kp).length ≤ 2097152 := by rw [List.length_append]; omega
  refine Ret.of ?_
  refine xcall_of_vc Tryd.func21 rfl _ Tryd.ntmps21 _ rfl (fun _ _ => Tryd.call21 _ _) rfl (fun w0 ρ0 => ?_)
  conv => whnf
  refine Ret.go (storeFault_spec x _ hi hco) ?_
  conv => whnf
  refine caseB_ndec (fun h => ?_) (fun h => ?_)
  · conv => whnf
    exact ⟨_, PH.Le.refl _, by unfold costInR; rw [if_neg h]; rfl, PH.Le.refl _⟩
  conv => whnf
  refine XCall.lift (l8All_ret 49 x M hi n1 n2) [0] ?_ (by simp) (by simp) (by simp [AV.plain]) ?_
  · simp [ren]
  rintro r bs' M1 ⟨⟨o, A, c, rfl, hN⟩, rfl⟩
  refine ⟨by simp [AV.plain], ?_⟩
  conv => whnf
  refine Ret.go (l8Costs_ret A c (x.tr ++ x.kp) _ (all_ens hi hN) hd hwn) ?_
  conv => whnf
  exact ⟨_, PH.Le.refl _, by unfold costInR; rw [if_pos h, all_conts]; rfl, hN.le⟩
theorem costIn_law (x : StA) (M : PH) (hi : x.inn M) (ho : x.c.okl) :
    ACall env 6 [x.val] M fun r M' => r = B true ∧ M.Le M' := by
  refine xcall_of_vc Tryd.func6 rfl _ Tryd.ntmps6 _ rfl (fun _ _ => Tryd.call6 _ _) rfl (fun w0 ρ0 => ?_)
  conv => whnf
  refine ACall.step (szStore_ret x _ M hi ho (by omega) (by omega)) fun v M2 hh => ?_
  obtain ⟨m, rfl, rfl, hm⟩ := hh
  conv => whnf
  refine caseB_dec (fun h0 => ?_) (fun h0 => ?_)
  · conv => whnf
    exact ⟨_, PH.Le.refl _, rfl, PH.Le.refl _⟩
  have hm := hm (by omega)
  have hco : x.c.cost ≤ 1048576 := by omega
  clear hm h0 ho
  conv => whnf
  refine ACall.step (toStore_ret x _ hi hco) fun v M1 hh => ?_
  obtain ⟨y1, rfl, e1, l1, i1⟩ := hh
  conv => whnf
  refine Ret.go (costIn_spec y1 _ i1 (by rw [e1]; exact hco)) ?_
  conv => whnf
  refine ACall.step (toStore_ret x _ (hi.mono l1) hco) fun v M3 hh => ?_
  obtain ⟨y2, rfl, e2, l2, i2⟩ := hh
  conv => whnf
  refine Ret.go (costIn_impl y2 _ i2 (by rw [e2]; exact hco)) ?_
  conv => whnf
  refine Ret.go ((eqInt_ret (costInR y2.c) (costInR y1.c) _).to (v' := B true) (by rw [e1, e2]; simp)) ?_
  conv => whnf
  refine caseB_false ?_
  conv => whnf
  repeat' (first | (refine ⟨⟨[], rfl⟩, _, PH.Le.refl _, PH.Le.refl _, ?_⟩; conv => whnf) | (refine ACall.step (toStore_ret x _ ((hi.mono l1).mono l2) hco) fun v M4 hh => ?_; obtain ⟨y3, rfl, e3, l3, i3⟩ := hh; (first | (refine ⟨⟨[], rfl⟩, _, l3, PH.Le.refl _, ?_⟩; conv => whnf) | conv => whnf)) | (refine caseB_true ?_; conv => whnf) | (refine caseB_false ?_; conv => whnf) | ((with_reducible refine caseB_dec (fun h => ?_) (fun h => ?_)) <;> conv => whnf) | ((with_reducible refine caseB_ndec (fun h => ?_) (fun h => ?_)) <;> conv => whnf) | ((with_reducible refine caseB_not (fun h => ?_) (fun h => ?_)) <;> conv => whnf) | (refine draw_rule (.light 0 <| .light 1 <| .alt 2 false (.alt 3 false (.light 4 <| .done) .nil) .nil) (by decide +kernel) ?_; conv => whnf) | (refine Ret.go (eqStore_ret y2 y3 _ (i2.mono l3) i3 (by rw [e2, e3]) (by rw [e2]; exact hco)) ?_; conv => whnf) | (with_reducible refine @And.intro (guardVC _ _ _ _ _) _ ?_ ?_) <;> conv => whnf | (refine caseB_intro (fun h => ?_) (fun h => ?_) <;> (try simp only [Bool.not_eq_true', Bool.not_eq_false', decide_eq_true_eq, decide_eq_false_iff_not] at h) <;> conv => whnf))
  all_goals exact ⟨_, PH.Le.refl _, rfl, (l1.trans l2).trans l3⟩
/-! ### A new store -/
def st0 (b g : Int) : StA := ⟨b, g, [], [], none, 0, none, 0⟩
theorem ens0 (M : PH) : Ens M none [] := ⟨⟨fun h => absurd rfl h, by simp⟩, by simp⟩
theorem st0_inn (b g : Int) (M : PH) : (st0 b g).inn M := ⟨ens0 M, ens0 M, Nat.le_refl _, Nat.le_refl _⟩
theorem st0_cost (b g : Int) : (st0 b g).c.cost ≤ 1048576 := by
  have : (st0 b g).c.cost = 0 := rfl
  omega
abbrev srV (k b g : Int) : Value := .agg #[I k, I b, I g, .slice none 0 0, .slice none 0 0]
noncomputable def newR (b g : Int) : Value := if stFault (st0 b g).c = 0 then srV 0 b g else srV (stFault (st0 b g).c) 0 0
theorem newStore_impl (b g : Int) (M : PH) : Ret 24 [I b, I g] M (newR b g) := by
  refine xcall_of_vc Tryd.func24 rfl _ Tryd.ntmps24 _ rfl (fun _ _ => Tryd.call24 _ _) rfl (fun w0 ρ0 => ?_)
  conv => whnf
  repeat' (first | (refine ⟨⟨[], rfl⟩, _, PH.Le.refl _, PH.Le.refl _, ?_⟩; conv => whnf) | (refine caseB_true ?_; conv => whnf) | (refine caseB_false ?_; conv => whnf) | ((with_reducible refine caseB_dec (fun h => ?_) (fun h => ?_)) <;> conv => whnf) | ((with_reducible refine caseB_ndec (fun h => ?_) (fun h => ?_)) <;> conv => whnf) | ((with_reducible refine caseB_not (fun h => ?_) (fun h => ?_)) <;> conv => whnf) | (refine Ret.go (storeFault_impl (st0 b g) _ (st0_inn b g _) (st0_cost b g)) ?_; conv => whnf) | (with_reducible refine @And.intro (guardVC _ _ _ _ _) _ ?_ ?_) <;> conv => whnf | (refine caseB_intro (fun h => ?_) (fun h => ?_) <;> (try simp only [Bool.not_eq_true', Bool.not_eq_false', decide_eq_true_eq, decide_eq_false_iff_not] at h) <;> conv => whnf))
  all_goals (refine ⟨_, PH.Le.refl _, ?_, rfl⟩; unfold newR; first | (rw [if_pos (by assumption)]; rfl; done) | (rw [if_neg (by assumption)]; rfl; done))
theorem newStore_spec (b g : Int) (M : PH) : Ret 23 [I b, I g] M (newR b g) := by
  refine xcall_of_vc Tryd.func23 rfl _ Tryd.ntmps23 _ rfl (fun _ _ => Tryd.call23 _ _) rfl (fun w0 ρ0 => ?_)
  conv => whnf
  repeat' (first | (refine ⟨⟨[], rfl⟩, _, PH.Le.refl _, PH.Le.refl _, ?_⟩; conv => whnf) | (refine caseB_true ?_; conv => whnf) | (refine caseB_false ?_; conv => whnf) | ((with_reducible refine caseB_dec (fun h => ?_) (fun h => ?_)) <;> conv => whnf) | ((with_reducible refine caseB_ndec (fun h => ?_) (fun h => ?_)) <;> conv => whnf) | ((with_reducible refine caseB_not (fun h => ?_) (fun h => ?_)) <;> conv => whnf) | (refine Ret.go (storeFault_spec (st0 b g) _ (st0_inn b g _) (st0_cost b g)) ?_; conv => whnf) | (with_reducible refine @And.intro (guardVC _ _ _ _ _) _ ?_ ?_) <;> conv => whnf | (refine caseB_intro (fun h => ?_) (fun h => ?_) <;> (try simp only [Bool.not_eq_true', Bool.not_eq_false', decide_eq_true_eq, decide_eq_false_iff_not] at h) <;> conv => whnf))
  all_goals (refine ⟨_, PH.Le.refl _, ?_, rfl⟩; unfold newR; first | (rw [if_pos (by assumption)]; rfl; done) | (rw [if_neg (by assumption)]; rfl; done))
theorem eqSR_ret (k b g : Int) (M : PH) : Ret 25 [srV k b g, srV k b g] M (B true) := by
  refine xcall_of_vc Tryd.func25 rfl _ Tryd.ntmps25 _ rfl (fun _ _ => Tryd.call25 _ _) rfl (fun w0 ρ0 => ?_)
  conv => whnf
  repeat' (first | (refine ⟨⟨[], rfl⟩, _, PH.Le.refl _, PH.Le.refl _, ?_⟩; conv => whnf) | (refine caseB_true ?_; conv => whnf) | (refine caseB_false ?_; conv => whnf) | ((with_reducible refine caseB_dec (fun h => ?_) (fun h => ?_)) <;> conv => whnf) | ((with_reducible refine caseB_ndec (fun h => ?_) (fun h => ?_)) <;> conv => whnf) | ((with_reducible refine caseB_not (fun h => ?_) (fun h => ?_)) <;> conv => whnf) | (refine Ret.go (eqStore_ret (st0 b g) (st0 b g) _ (st0_inn b g _) (st0_inn b g _) rfl (st0_cost b g)) ?_; conv => whnf) | (with_reducible refine @And.intro (guardVC _ _ _ _ _) _ ?_ ?_) <;> conv => whnf | (refine caseB_intro (fun h => ?_) (fun h => ?_) <;> (try simp only [Bool.not_eq_true', Bool.not_eq_false', decide_eq_true_eq, decide_eq_false_iff_not] at h) <;> conv => whnf))
  all_goals first | (exfalso; exact h rfl; done) | exact ⟨_, PH.Le.refl _, rfl, rfl⟩
theorem markE0_ret (k : Int) (M : PH) : Ret 71 [.slice none 0 0, I k] M (I k) := by
  refine xcall_of_vc Tryd.func71 rfl _ Tryd.ntmps71 _ rfl (fun _ _ => Tryd.call71 _ _) rfl (fun w0 ρ0 => ?_)
  conv => whnf
  refine unroll_rule 1 ?_
  conv => whnf
  refine caseB_dec (fun h => absurd h (by decide)) (fun h => ?_)
  conv => whnf
  exact ⟨_, PH.Le.refl _, rfl, rfl⟩
theorem heldE0_ret (k : Int) (M : PH) : Ret 72 [.slice none 0 0, I k] M (I k) := by
  refine xcall_of_vc Tryd.func72 rfl _ Tryd.ntmps72 _ rfl (fun _ _ => Tryd.call72 _ _) rfl (fun w0 ρ0 => ?_)
  conv => whnf
  refine unroll_rule 1 ?_
  conv => whnf
  refine caseB_dec (fun h => absurd h (by decide)) (fun h => ?_)
  conv => whnf
  exact ⟨_, PH.Le.refl _, rfl, rfl⟩
theorem markS0_ret (k b g : Int) (M : PH) : Ret 58 [.agg #[I b, I g, .slice none 0 0, .slice none 0 0], I k] M (I k) := by
  refine xcall_of_vc Tryd.func58 rfl _ Tryd.ntmps58 _ rfl (fun _ _ => Tryd.call58 _ _) rfl (fun w0 ρ0 => ?_)
  conv => whnf
  repeat' (first | (refine ⟨⟨[], rfl⟩, _, PH.Le.refl _, PH.Le.refl _, ?_⟩; conv => whnf) | (refine caseB_true ?_; conv => whnf) | (refine caseB_false ?_; conv => whnf) | ((with_reducible refine caseB_dec (fun h => ?_) (fun h => ?_)) <;> conv => whnf) | ((with_reducible refine caseB_ndec (fun h => ?_) (fun h => ?_)) <;> conv => whnf) | ((with_reducible refine caseB_not (fun h => ?_) (fun h => ?_)) <;> conv => whnf) | (refine Ret.go (markE0_ret _ _) ?_; conv => whnf) | (with_reducible refine @And.intro (guardVC _ _ _ _ _) _ ?_ ?_) <;> conv => whnf | (refine caseB_intro (fun h => ?_) (fun h => ?_) <;> (try simp only [Bool.not_eq_true', Bool.not_eq_false', decide_eq_true_eq, decide_eq_false_iff_not] at h) <;> conv => whnf))
  all_goals exact ⟨_, PH.Le.refl _, rfl, rfl⟩
theorem heldS0_ret (b g : Int) (M : PH) : Ret 59 [.agg #[I b, I g, .slice none 0 0, .slice none 0 0], I 1] M (I 1) := by
  refine xcall_of_vc Tryd.func59 rfl _ Tryd.ntmps59 _ rfl (fun _ _ => Tryd.call59 _ _) rfl (fun w0 ρ0 => ?_)
  conv => whnf
  repeat' (first | (refine ⟨⟨[], rfl⟩, _, PH.Le.refl _, PH.Le.refl _, ?_⟩; conv => whnf) | (refine caseB_true ?_; conv => whnf) | (refine caseB_false ?_; conv => whnf) | ((with_reducible refine caseB_dec (fun h => ?_) (fun h => ?_)) <;> conv => whnf) | ((with_reducible refine caseB_ndec (fun h => ?_) (fun h => ?_)) <;> conv => whnf) | ((with_reducible refine caseB_not (fun h => ?_) (fun h => ?_)) <;> conv => whnf) | (refine Ret.go (heldE0_ret _ _) ?_; conv => whnf) | (with_reducible refine @And.intro (guardVC _ _ _ _ _) _ ?_ ?_) <;> conv => whnf | (refine caseB_intro (fun h => ?_) (fun h => ?_) <;> (try simp only [Bool.not_eq_true', Bool.not_eq_false', decide_eq_true_eq, decide_eq_false_iff_not] at h) <;> conv => whnf))
  all_goals first | (exfalso; omega; done) | exact ⟨_, PH.Le.refl _, rfl, rfl⟩
theorem markSR_ret (c b g : Int) (M : PH) : Ret 26 [srV c b g, I 1] M (I 1) := by
  refine xcall_of_vc Tryd.func26 rfl _ Tryd.ntmps26 _ rfl (fun _ _ => Tryd.call26 _ _) rfl (fun w0 ρ0 => ?_)
  conv => whnf
  repeat' (first | (refine ⟨⟨[], rfl⟩, _, PH.Le.refl _, PH.Le.refl _, ?_⟩; conv => whnf) | (refine caseB_true ?_; conv => whnf) | (refine caseB_false ?_; conv => whnf) | ((with_reducible refine caseB_dec (fun h => ?_) (fun h => ?_)) <;> conv => whnf) | ((with_reducible refine caseB_ndec (fun h => ?_) (fun h => ?_)) <;> conv => whnf) | ((with_reducible refine caseB_not (fun h => ?_) (fun h => ?_)) <;> conv => whnf) | (refine Ret.go (markS0_ret _ _ _ _) ?_; conv => whnf) | (with_reducible refine @And.intro (guardVC _ _ _ _ _) _ ?_ ?_) <;> conv => whnf | (refine caseB_intro (fun h => ?_) (fun h => ?_) <;> (try simp only [Bool.not_eq_true', Bool.not_eq_false', decide_eq_true_eq, decide_eq_false_iff_not] at h) <;> conv => whnf))
  all_goals exact ⟨_, PH.Le.refl _, rfl, rfl⟩
theorem heldSR_ret (c b g : Int) (M : PH) : Ret 27 [srV c b g, I 1] M (I 1) := by
  refine xcall_of_vc Tryd.func27 rfl _ Tryd.ntmps27 _ rfl (fun _ _ => Tryd.call27 _ _) rfl (fun w0 ρ0 => ?_)
  conv => whnf
  repeat' (first | (refine ⟨⟨[], rfl⟩, _, PH.Le.refl _, PH.Le.refl _, ?_⟩; conv => whnf) | (refine caseB_true ?_; conv => whnf) | (refine caseB_false ?_; conv => whnf) | ((with_reducible refine caseB_dec (fun h => ?_) (fun h => ?_)) <;> conv => whnf) | ((with_reducible refine caseB_ndec (fun h => ?_) (fun h => ?_)) <;> conv => whnf) | ((with_reducible refine caseB_not (fun h => ?_) (fun h => ?_)) <;> conv => whnf) | (refine Ret.go (heldS0_ret _ _ _) ?_; conv => whnf) | (with_reducible refine @And.intro (guardVC _ _ _ _ _) _ ?_ ?_) <;> conv => whnf | (refine caseB_intro (fun h => ?_) (fun h => ?_) <;> (try simp only [Bool.not_eq_true', Bool.not_eq_false', decide_eq_true_eq, decide_eq_false_iff_not] at h) <;> conv => whnf))
  all_goals first | (exfalso; omega; done) | exact ⟨_, PH.Le.refl _, rfl, rfl⟩
theorem newR_srV (b g : Int) : ∃ k b' g', newR b g = srV k b' g' := by
  unfold newR
  split
  · exact ⟨_, _, _, rfl⟩
  · exact ⟨_, _, _, rfl⟩
theorem newStore_law (b g : Int) (M : PH) : Ret 7 [I b, I g] M (B true) := by
  obtain ⟨k, b', g', e⟩ := newR_srV b g
  have h1 := newStore_impl b g M
  have h2 := newStore_spec b g M
  rw [e] at h1 h2
  refine xcall_of_vc Tryd.func7 rfl _ Tryd.ntmps7 _ rfl (fun _ _ => Tryd.call7 _ _) rfl (fun w0 ρ0 => ?_)
  conv => whnf
  repeat' (first | (refine ⟨⟨[], rfl⟩, _, PH.Le.refl _, PH.Le.refl _, ?_⟩; conv => whnf) | (refine caseB_true ?_; conv => whnf) | (refine caseB_false ?_; conv => whnf) | ((with_reducible refine caseB_dec (fun h => ?_) (fun h => ?_)) <;> conv => whnf) | ((with_reducible refine caseB_ndec (fun h => ?_) (fun h => ?_)) <;> conv => whnf) | ((with_reducible refine caseB_not (fun h => ?_) (fun h => ?_)) <;> conv => whnf) | (refine Ret.go (h1) ?_; conv => whnf) | (refine Ret.go (h2) ?_; conv => whnf) | (refine Ret.go (eqSR_ret k b' g' _) ?_; conv => whnf) | (refine Ret.go (markSR_ret k b' g' _) ?_; conv => whnf) | (refine Ret.go (heldSR_ret k b' g' _) ?_; conv => whnf) | (with_reducible refine @And.intro (guardVC _ _ _ _ _) _ ?_ ?_) <;> conv => whnf | (refine caseB_intro (fun h => ?_) (fun h => ?_) <;> (try simp only [Bool.not_eq_true', Bool.not_eq_false', decide_eq_true_eq, decide_eq_false_iff_not] at h) <;> conv => whnf))
  all_goals first | (exfalso; omega; done) | exact ⟨_, PH.Le.refl _, rfl, rfl⟩
end Go.Proofs.YtafgnmiflngjhaaDoor
