/-
  THE LAWS: what is wrong with a store; what is in it costs; a new one.
-/
import Derived.Test.YtgjaiabenjafeaaGreatDoorBg
import Derived.Test.YtgjaiabenjafeaaGreatDoorBe
namespace Go.Proofs.YtgjaiabenjafeaaGreatDoor
set_option maxRecDepth 100000
set_option linter.unusedSimpArgs false
set_option linter.unusedVariables false
open Go.Xe
noncomputable def costInR (s : Sc) : IR := if stFault s = 0 then ⟨0, eCosts s.all⟩ else ⟨stFault s, 0⟩
theorem costIn_impl (x : StA) (M : PH) (hi : x.inn M) (hco : x.c.cost ≤ 1048576) : Ret 38 [x.val] M (costInR x.c).v := by
  refine xcall_of_vc Tryz.func38 rfl _ Tryz.ntmps38 _ rfl (fun _ _ => Tryz.call38 _ _) rfl (fun w0 ρ0 => ?_)
  conv => whnf
  repeat' (first | (refine ⟨⟨[], rfl⟩, _, PH.Le.refl _, PH.Le.refl _, ?_⟩; conv => whnf) | (refine caseB_true ?_; conv => whnf) | (refine caseB_false ?_; conv => whnf) | ((with_reducible refine caseB_dec (fun h => ?_) (fun h => ?_)) <;> conv => whnf) | ((with_reducible refine caseB_ndec (fun h => ?_) (fun h => ?_)) <;> conv => whnf) | ((with_reducible refine caseB_not (fun h => ?_) (fun h => ?_)) <;> conv => whnf) | (refine Ret.go (storeFault_impl x _ hi hco) ?_; conv => whnf) | (refine Ret.go (storeCost_ret x _ hi hco) ?_; conv => whnf) | (with_reducible refine @And.intro (guardVC _ _ _ _ _) _ ?_ ?_) <;> conv => whnf | (refine caseB_intro (fun h => ?_) (fun h => ?_) <;> (try simp only [Bool.not_eq_true', Bool.not_eq_false', decide_eq_true_eq, decide_eq_false_iff_not] at h) <;> conv => whnf))
  all_goals (refine ⟨_, PH.Le.refl _, ?_, rfl⟩; unfold costInR; first | (rw [if_pos (by assumption)]; rfl; done) | (rw [if_neg (by assumption)]; rfl; done))
/-! ### A new store -/
def st0 (b g : Int) : StA := ⟨b, g, [], [], none, 0, none, 0⟩
theorem ens0 (M : PH) : Ens M none [] := ⟨⟨fun h => absurd rfl h, by simp⟩, by simp⟩
theorem st0_inn (b g : Int) (M : PH) : (st0 b g).inn M := ⟨ens0 M, ens0 M, Nat.le_refl _, Nat.le_refl _⟩
theorem st0_cost (b g : Int) : (st0 b g).c.cost ≤ 1048576 := by
  have : (st0 b g).c.cost = 0 := rfl
  omega
abbrev srV (k b g : Int) : Value := .agg #[I k, I b, I g, .slice none 0 0, .slice none 0 0]
noncomputable def newR (b g : Int) : Value := if stFault (st0 b g).c = 0 then srV 0 b g else srV (stFault (st0 b g).c) 0 0
theorem eqSR_ret (k b g : Int) (M : PH) : Ret 48 [srV k b g, srV k b g] M (B true) := by
  refine xcall_of_vc Tryz.func48 rfl _ Tryz.ntmps48 _ rfl (fun _ _ => Tryz.call48 _ _) rfl (fun w0 ρ0 => ?_)
  conv => whnf
  repeat' (first | (refine ⟨⟨[], rfl⟩, _, PH.Le.refl _, PH.Le.refl _, ?_⟩; conv => whnf) | (refine caseB_true ?_; conv => whnf) | (refine caseB_false ?_; conv => whnf) | ((with_reducible refine caseB_dec (fun h => ?_) (fun h => ?_)) <;> conv => whnf) | ((with_reducible refine caseB_ndec (fun h => ?_) (fun h => ?_)) <;> conv => whnf) | ((with_reducible refine caseB_not (fun h => ?_) (fun h => ?_)) <;> conv => whnf) | (refine Ret.go (eqStore_ret (st0 b g) (st0 b g) _ (st0_inn b g _) (st0_inn b g _) rfl (st0_cost b g)) ?_; conv => whnf) | (with_reducible refine @And.intro (guardVC _ _ _ _ _) _ ?_ ?_) <;> conv => whnf | (refine caseB_intro (fun h => ?_) (fun h => ?_) <;> (try simp only [Bool.not_eq_true', Bool.not_eq_false', decide_eq_true_eq, decide_eq_false_iff_not] at h) <;> conv => whnf))
  all_goals first | (exfalso; exact h rfl; done) | exact ⟨_, PH.Le.refl _, rfl, rfl⟩
theorem markE0_ret (k : Int) (M : PH) : Ret 69 [.slice none 0 0, I k] M (I k) := by
  refine xcall_of_vc Tryz.func69 rfl _ Tryz.ntmps69 _ rfl (fun _ _ => Tryz.call69 _ _) rfl (fun w0 ρ0 => ?_)
  conv => whnf
  refine unroll_rule 1 ?_
  conv => whnf
  refine caseB_dec (fun h => absurd h (by decide)) (fun h => ?_)
  conv => whnf
  exact ⟨_, PH.Le.refl _, rfl, rfl⟩
theorem heldE0_ret (k : Int) (M : PH) : Ret 130 [.slice none 0 0, I k] M (I k) := by
  refine xcall_of_vc Tryz.func130 rfl _ Tryz.ntmps130 _ rfl (fun _ _ => Tryz.call130 _ _) rfl (fun w0 ρ0 => ?_)
  conv => whnf
  refine unroll_rule 1 ?_
  conv => whnf
  refine caseB_dec (fun h => absurd h (by decide)) (fun h => ?_)
  conv => whnf
  exact ⟨_, PH.Le.refl _, rfl, rfl⟩
theorem markS0_ret (k b g : Int) (M : PH) : Ret 17 [.agg #[I b, I g, .slice none 0 0, .slice none 0 0], I k] M (I k) := by
  refine xcall_of_vc Tryz.func17 rfl _ Tryz.ntmps17 _ rfl (fun _ _ => Tryz.call17 _ _) rfl (fun w0 ρ0 => ?_)
  conv => whnf
  repeat' (first | (refine ⟨⟨[], rfl⟩, _, PH.Le.refl _, PH.Le.refl _, ?_⟩; conv => whnf) | (refine caseB_true ?_; conv => whnf) | (refine caseB_false ?_; conv => whnf) | ((with_reducible refine caseB_dec (fun h => ?_) (fun h => ?_)) <;> conv => whnf) | ((with_reducible refine caseB_ndec (fun h => ?_) (fun h => ?_)) <;> conv => whnf) | ((with_reducible refine caseB_not (fun h => ?_) (fun h => ?_)) <;> conv => whnf) | (refine Ret.go (markE0_ret _ _) ?_; conv => whnf) | (with_reducible refine @And.intro (guardVC _ _ _ _ _) _ ?_ ?_) <;> conv => whnf | (refine caseB_intro (fun h => ?_) (fun h => ?_) <;> (try simp only [Bool.not_eq_true', Bool.not_eq_false', decide_eq_true_eq, decide_eq_false_iff_not] at h) <;> conv => whnf))
  all_goals exact ⟨_, PH.Le.refl _, rfl, rfl⟩
theorem heldS0_ret (b g : Int) (M : PH) : Ret 73 [.agg #[I b, I g, .slice none 0 0, .slice none 0 0], I 1] M (I 1) := by
  refine xcall_of_vc Tryz.func73 rfl _ Tryz.ntmps73 _ rfl (fun _ _ => Tryz.call73 _ _) rfl (fun w0 ρ0 => ?_)
  conv => whnf
  repeat' (first | (refine ⟨⟨[], rfl⟩, _, PH.Le.refl _, PH.Le.refl _, ?_⟩; conv => whnf) | (refine caseB_true ?_; conv => whnf) | (refine caseB_false ?_; conv => whnf) | ((with_reducible refine caseB_dec (fun h => ?_) (fun h => ?_)) <;> conv => whnf) | ((with_reducible refine caseB_ndec (fun h => ?_) (fun h => ?_)) <;> conv => whnf) | ((with_reducible refine caseB_not (fun h => ?_) (fun h => ?_)) <;> conv => whnf) | (refine Ret.go (heldE0_ret _ _) ?_; conv => whnf) | (with_reducible refine @And.intro (guardVC _ _ _ _ _) _ ?_ ?_) <;> conv => whnf | (refine caseB_intro (fun h => ?_) (fun h => ?_) <;> (try simp only [Bool.not_eq_true', Bool.not_eq_false', decide_eq_true_eq, decide_eq_false_iff_not] at h) <;> conv => whnf))
  all_goals first | (exfalso; omega; done) | exact ⟨_, PH.Le.refl _, rfl, rfl⟩
theorem markSR_ret (c b g : Int) (M : PH) : Ret 49 [srV c b g, I 1] M (I 1) := by
  refine xcall_of_vc Tryz.func49 rfl _ Tryz.ntmps49 _ rfl (fun _ _ => Tryz.call49 _ _) rfl (fun w0 ρ0 => ?_)
  conv => whnf
  repeat' (first | (refine ⟨⟨[], rfl⟩, _, PH.Le.refl _, PH.Le.refl _, ?_⟩; conv => whnf) | (refine caseB_true ?_; conv => whnf) | (refine caseB_false ?_; conv => whnf) | ((with_reducible refine caseB_dec (fun h => ?_) (fun h => ?_)) <;> conv => whnf) | ((with_reducible refine caseB_ndec (fun h => ?_) (fun h => ?_)) <;> conv => whnf) | ((with_reducible refine caseB_not (fun h => ?_) (fun h => ?_)) <;> conv => whnf) | (refine Ret.go (markS0_ret _ _ _ _) ?_; conv => whnf) | (with_reducible refine @And.intro (guardVC _ _ _ _ _) _ ?_ ?_) <;> conv => whnf | (refine caseB_intro (fun h => ?_) (fun h => ?_) <;> (try simp only [Bool.not_eq_true', Bool.not_eq_false', decide_eq_true_eq, decide_eq_false_iff_not] at h) <;> conv => whnf))
  all_goals exact ⟨_, PH.Le.refl _, rfl, rfl⟩
theorem heldSR_ret (c b g : Int) (M : PH) : Ret 50 [srV c b g, I 1] M (I 1) := by
  refine xcall_of_vc Tryz.func50 rfl _ Tryz.ntmps50 _ rfl (fun _ _ => Tryz.call50 _ _) rfl (fun w0 ρ0 => ?_)
  conv => whnf
  repeat' (first | (refine ⟨⟨[], rfl⟩, _, PH.Le.refl _, PH.Le.refl _, ?_⟩; conv => whnf) | (refine caseB_true ?_; conv => whnf) | (refine caseB_false ?_; conv => whnf) | ((with_reducible refine caseB_dec (fun h => ?_) (fun h => ?_)) <;> conv => whnf) | ((with_reducible refine caseB_ndec (fun h => ?_) (fun h => ?_)) <;> conv => whnf) | ((with_reducible refine caseB_not (fun h => ?_) (fun h => ?_)) <;> conv => whnf) | (refine Ret.go (heldS0_ret _ _ _) ?_; conv => whnf) | (with_reducible refine @And.intro (guardVC _ _ _ _ _) _ ?_ ?_) <;> conv => whnf | (refine caseB_intro (fun h => ?_) (fun h => ?_) <;> (try simp only [Bool.not_eq_true', Bool.not_eq_false', decide_eq_true_eq, decide_eq_false_iff_not] at h) <;> conv => whnf))
  all_goals first | (exfalso; omega; done) | exact ⟨_, PH.Le.refl _, rfl, rfl⟩
theorem newR_srV (b g : Int) : ∃ k b' g', newR b g = srV k b' g' := by
  unfold newR
  split
  · exact ⟨_, _, _, rfl⟩
  · exact ⟨_, _, _, rfl⟩
end Go.Proofs.YtgjaiabenjafeaaGreatDoor
