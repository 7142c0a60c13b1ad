/-
  THE LAW over what an entry costs.
-/
import Derived.Test.YtgjaiabenjafeaaGreatDoorBf
namespace Go.Proofs.YtgjaiabenjafeaaGreatDoor
set_option maxRecDepth 100000
set_option linter.unusedSimpArgs false
set_option linter.unusedVariables false
open Go.Xe
def costR (e : En) : IR := if enFault e = 0 then ⟨0, eCost e⟩ else ⟨enFault e, 0⟩
theorem costOf_impl (x : EnA) (M : PH) (hi : x.inn M) (hco : x.c.cost ≤ 1048576) : Ret 40 [x.val] M (costR x.c).v := by
  refine xcall_of_vc Tryz.func40 rfl _ Tryz.ntmps40 _ rfl (fun _ _ => Tryz.call40 _ _) rfl (fun w0 ρ0 => ?_)
  conv => whnf
  repeat' (first | (refine ⟨⟨[], rfl⟩, _, PH.Le.refl _, PH.Le.refl _, ?_⟩; conv => whnf) | (refine caseB_true ?_; conv => whnf) | (refine caseB_false ?_; conv => whnf) | ((with_reducible refine caseB_dec (fun h => ?_) (fun h => ?_)) <;> conv => whnf) | ((with_reducible refine caseB_ndec (fun h => ?_) (fun h => ?_)) <;> conv => whnf) | ((with_reducible refine caseB_not (fun h => ?_) (fun h => ?_)) <;> conv => whnf) | (refine Ret.go (entryFault_impl x _ hi hco) ?_; conv => whnf) | (refine Ret.go (cost_impl x _ hi (by omega)) ?_; conv => whnf) | (with_reducible refine @And.intro (guardVC _ _ _ _ _) _ ?_ ?_) <;> conv => whnf | (refine caseB_intro (fun h => ?_) (fun h => ?_) <;> (try simp only [Bool.not_eq_true', Bool.not_eq_false', decide_eq_true_eq, decide_eq_false_iff_not] at h) <;> conv => whnf))
  all_goals (refine ⟨_, PH.Le.refl _, ?_, rfl⟩; unfold costR; first | (rw [if_pos (by assumption)]; rfl; done) | (rw [if_neg (by assumption)]; rfl; done))
end Go.Proofs.YtgjaiabenjafeaaGreatDoor
