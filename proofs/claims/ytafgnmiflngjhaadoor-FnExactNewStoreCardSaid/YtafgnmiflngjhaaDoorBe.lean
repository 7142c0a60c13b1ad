/-
  THE LAW over what an entry costs.
-/
import Derived.Test.YtafgnmiflngjhaaDoorBd
namespace Go.Proofs.YtafgnmiflngjhaaDoor
set_option maxRecDepth 100000
set_option linter.unusedSimpArgs false
set_option linter.unusedVariables false
open Go.Xe
def costR (e : En) : IR := if enFault e = 0 then ⟨0, eCost e⟩ else ⟨enFault e, 0⟩
theorem costOf_impl (x : EnA) (M : PH) (hi : x.inn M) (hco : x.c.cost ≤ 1048576) : Ret 14 [x.val] M (costR x.c).v := by
  refine xcall_of_vc Tryd.func14 rfl _ Tryd.ntmps14 _ rfl (fun _ _ => Tryd.call14 _ _) rfl (fun w0 ρ0 => ?_)
  conv => whnf
  repeat' (first | (refine ⟨⟨[], rfl⟩, _, PH.Le.refl _, PH.Le.refl _, ?_⟩; conv => whnf) | (refine caseB_true ?_; conv => whnf) | (refine caseB_false ?_; conv => whnf) | ((with_reducible refine caseB_dec (fun h => ?_) (fun h => ?_)) <;> conv => whnf) | ((with_reducible refine caseB_ndec (fun h => ?_) (fun h => ?_)) <;> conv => whnf) | ((with_reducible refine caseB_not (fun h => ?_) (fun h => ?_)) <;> conv => whnf) | (refine Ret.go (entryFault_impl x _ hi hco) ?_; conv => whnf) | (refine Ret.go (cost_impl x _ hi (by omega)) ?_; conv => whnf) | (with_reducible refine @And.intro (guardVC _ _ _ _ _) _ ?_ ?_) <;> conv => whnf | (refine caseB_intro (fun h => ?_) (fun h => ?_) <;> (try simp only [Bool.not_eq_true', Bool.not_eq_false', decide_eq_true_eq, decide_eq_false_iff_not] at h) <;> conv => whnf))
  all_goals (refine ⟨_, PH.Le.refl _, ?_, rfl⟩; unfold costR; first | (rw [if_pos (by assumption)]; rfl; done) | (rw [if_neg (by assumption)]; rfl; done))
theorem costOf_spec (x : EnA) (M : PH) (hi : x.inn M) (hco : x.c.cost ≤ 1048576) : Ret 13 [x.val] M (costR x.c).v := by
  refine xcall_of_vc Tryd.func13 rfl _ Tryd.ntmps13 _ rfl (fun _ _ => Tryd.call13 _ _) rfl (fun w0 ρ0 => ?_)
  conv => whnf
  repeat' (first | (refine ⟨⟨[], rfl⟩, _, PH.Le.refl _, PH.Le.refl _, ?_⟩; conv => whnf) | (refine RetP.go (l8Cost_box 34 x _ hi (by omega)) rfl rfl ?_; conv => whnf) | (refine caseB_true ?_; conv => whnf) | (refine caseB_false ?_; conv => whnf) | ((with_reducible refine caseB_dec (fun h => ?_) (fun h => ?_)) <;> conv => whnf) | ((with_reducible refine caseB_ndec (fun h => ?_) (fun h => ?_)) <;> conv => whnf) | ((with_reducible refine caseB_not (fun h => ?_) (fun h => ?_)) <;> conv => whnf) | (refine Ret.go (entryFault_spec x _ hi hco) ?_; conv => whnf) | (with_reducible refine @And.intro (guardVC _ _ _ _ _) _ ?_ ?_) <;> conv => whnf | (refine caseB_intro (fun h => ?_) (fun h => ?_) <;> (try simp only [Bool.not_eq_true', Bool.not_eq_false', decide_eq_true_eq, decide_eq_false_iff_not] at h) <;> conv => whnf))
  all_goals (refine ⟨_, PH.Le.refl _, ?_, rfl⟩; unfold costR; first | (rw [if_pos (by assumption)]; rfl; done) | (rw [if_neg (by assumption)]; rfl; done))
theorem costOf_law (x : EnA) (M : PH) (hi : x.inn M) (ho : x.c.okl) :
    ACall env 4 [x.val] M fun r M' => r = B true ∧ M.Le M' := by
  refine xcall_of_vc Tryd.func4 rfl _ Tryd.ntmps4 _ rfl (fun _ _ => Tryd.call4 _ _) rfl (fun w0 ρ0 => ?_)
  conv => whnf
  refine ACall.step (szEntry_ret x _ M ⟨hi, ho⟩ (by omega) (by omega)) fun v M2 hh => ?_
  obtain ⟨m, rfl, rfl, hm⟩ := hh
  conv => whnf
  refine caseB_dec (fun h0 => ?_) (fun h0 => ?_)
  · conv => whnf
    exact ⟨_, PH.Le.refl _, rfl, PH.Le.refl _⟩
  have hm := hm (by omega)
  have hco : x.c.cost ≤ 1048576 := by omega
  clear hm h0 ho
  conv => whnf
  refine ACall.step (toEntry_ret x _ hi hco) fun v M1 hh => ?_
  obtain ⟨y1, rfl, e1, l1, i1, p1⟩ := hh
  conv => whnf
  refine Ret.go (costOf_spec y1 _ i1 (by rw [e1]; exact hco)) ?_
  conv => whnf
  refine ACall.step (toEntry_ret x _ (hi.mono l1) hco) fun v M3 hh => ?_
  obtain ⟨y2, rfl, e2, l2, i2, p2⟩ := hh
  conv => whnf
  refine Ret.go (costOf_impl y2 _ i2 (by rw [e2]; exact hco)) ?_
  conv => whnf
  refine Ret.go ((eqInt_ret (costR y2.c) (costR y1.c) _).to (v' := B true) (by rw [e1, e2]; simp)) ?_
  conv => whnf
  refine caseB_false ?_
  conv => whnf
  repeat' (first | (refine ⟨⟨[], rfl⟩, _, PH.Le.refl _, PH.Le.refl _, ?_⟩; conv => whnf) | (refine ACall.step (toEntry_ret x _ ((hi.mono l1).mono l2) hco) fun v M4 hh => ?_; obtain ⟨y3, rfl, e3, l3, i3, p3⟩ := hh; (first | (refine ⟨⟨[], rfl⟩, _, l3, PH.Le.refl _, ?_⟩; conv => whnf) | conv => whnf)) | (refine caseB_true ?_; conv => whnf) | (refine caseB_false ?_; conv => whnf) | ((with_reducible refine caseB_dec (fun h => ?_) (fun h => ?_)) <;> conv => whnf) | ((with_reducible refine caseB_ndec (fun h => ?_) (fun h => ?_)) <;> conv => whnf) | ((with_reducible refine caseB_not (fun h => ?_) (fun h => ?_)) <;> conv => whnf) | (refine draw_rule (.light 0 <| .light 1 <| .alt 2 false (.alt 3 false (.light 4 <| .done) .nil) .nil) (by decide +kernel) ?_; conv => whnf) | (refine Ret.go (eqEntry_ret y2 y3 _ (i2.mono l3) i3 (by rw [e2, e3]) (by rw [e2]; exact hco)) ?_; conv => whnf) | (with_reducible refine @And.intro (guardVC _ _ _ _ _) _ ?_ ?_) <;> conv => whnf | (refine caseB_intro (fun h => ?_) (fun h => ?_) <;> (try simp only [Bool.not_eq_true', Bool.not_eq_false', decide_eq_true_eq, decide_eq_false_iff_not] at h) <;> conv => whnf))
  all_goals first | (exfalso; simp at h; done) | exact ⟨_, PH.Le.refl _, rfl, (l1.trans l2).trans l3⟩
end Go.Proofs.YtafgnmiflngjhaaDoor
