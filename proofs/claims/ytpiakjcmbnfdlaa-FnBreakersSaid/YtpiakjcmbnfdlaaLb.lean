/-
  CONTRACTS: the tests of lanes and of rules.
-/
import Derived.Test.YtpiakjcmbnfdlaaLa
namespace Go.Proofs.Ytpiakjcmbnfdlaa
set_option maxRecDepth 100000
set_option linter.unusedSimpArgs false
set_option linter.unusedVariables false
open Go.Xe
structure Ln where
  a : Int
  b : Int
  c : Int
abbrev Ln.v (m : Ln) : Value := .agg #[I m.a, I m.b, I m.c]
theorem toLanes_ret (m : Ln) (M : PH) : Ret 22 [m.v] M m.v := by
  refine xcall_of_vc Try.func22 rfl _ Try.ntmps22 _ rfl (fun _ _ => Try.call22 _ _) rfl (fun w0 ρ0 => ?_)
  conv => whnf
  all_goals first | (refine ⟨M, PH.Le.refl _, ?_, rfl⟩; simp [resV, *]; done) | (refine ⟨M, PH.Le.refl _, ?_, rfl, rfl⟩; simp [resV, *]; done) | (exfalso; simp_all; done)
def lanesFault (m : Ln) : Int := if inB m.a 1 8 && inB m.b 0 8 && inB m.c 0 1000000 then 0 else 3
theorem lanesFault_spec (m : Ln) (M : PH) : Ret 39 [m.v] M (I (lanesFault m)) := by
  refine xcall_of_vc Try.func39 rfl _ Try.ntmps39 _ rfl (fun _ _ => Try.call39 _ _) rfl (fun w0 ρ0 => ?_)
  conv => whnf
  repeat' (first | (refine ⟨⟨[], rfl⟩, _, PH.Le.refl _, PH.Le.refl _, ?_⟩; conv => whnf) | (refine caseB_true ?_; conv => whnf) | (refine caseB_false ?_; conv => whnf) | ((with_reducible refine caseB_dec (fun h => ?_) (fun h => ?_)) <;> conv => whnf) | ((with_reducible refine caseB_ndec (fun h => ?_) (fun h => ?_)) <;> conv => whnf) | ((with_reducible refine caseB_not (fun h => ?_) (fun h => ?_)) <;> conv => whnf) | (refine Ret.go (l1In_ret _ _ _ _) ?_; conv => whnf) | (with_reducible refine @And.intro (guardVC _ _ _ _ _) _ ?_ ?_) <;> conv => whnf | (refine caseB_intro (fun h => ?_) (fun h => ?_) <;> (try simp only [Bool.not_eq_true', Bool.not_eq_false', decide_eq_true_eq, decide_eq_false_iff_not] at h) <;> conv => whnf))
  all_goals first | (refine ⟨M, PH.Le.refl _, ?_, rfl⟩; simp [resV, lanesFault, *]; done) | (refine ⟨M, PH.Le.refl _, ?_, rfl, rfl⟩; simp [resV, lanesFault, *]; done) | (exfalso; simp_all; done)
theorem lanesFault_impl (m : Ln) (M : PH) : Ret 38 [m.v] M (I (lanesFault m)) := by
  refine xcall_of_vc Try.func38 rfl _ Try.ntmps38 _ rfl (fun _ _ => Try.call38 _ _) rfl (fun w0 ρ0 => ?_)
  conv => whnf
  repeat' (first | (refine ⟨⟨[], rfl⟩, _, PH.Le.refl _, PH.Le.refl _, ?_⟩; conv => whnf) | (refine caseB_true ?_; conv => whnf) | (refine caseB_false ?_; conv => whnf) | ((with_reducible refine caseB_dec (fun h => ?_) (fun h => ?_)) <;> conv => whnf) | ((with_reducible refine caseB_ndec (fun h => ?_) (fun h => ?_)) <;> conv => whnf) | ((with_reducible refine caseB_not (fun h => ?_) (fun h => ?_)) <;> conv => whnf) | (refine Ret.go (within_ret _ _ _ _) ?_; conv => whnf) | (with_reducible refine @And.intro (guardVC _ _ _ _ _) _ ?_ ?_) <;> conv => whnf | (refine caseB_intro (fun h => ?_) (fun h => ?_) <;> (try simp only [Bool.not_eq_true', Bool.not_eq_false', decide_eq_true_eq, decide_eq_false_iff_not] at h) <;> conv => whnf))
  all_goals first | (refine ⟨M, PH.Le.refl _, ?_, rfl⟩; simp [resV, lanesFault, *]; done) | (refine ⟨M, PH.Le.refl _, ?_, rfl, rfl⟩; simp [resV, lanesFault, *]; done) | (exfalso; simp_all; done)
structure Rl where
  a : Int
  b : Int
  c : Int
  d : Int
  e : Int
abbrev Rl.v (m : Rl) : Value := .agg #[I m.a, I m.b, I m.c, I m.d, I m.e]
theorem toRules_ret (m : Rl) (M : PH) : Ret 55 [m.v] M m.v := by
  refine xcall_of_vc Try.func55 rfl _ Try.ntmps55 _ rfl (fun _ _ => Try.call55 _ _) rfl (fun w0 ρ0 => ?_)
  conv => whnf
  all_goals first | (refine ⟨M, PH.Le.refl _, ?_, rfl⟩; simp [resV, *]; done) | (refine ⟨M, PH.Le.refl _, ?_, rfl, rfl⟩; simp [resV, *]; done) | (exfalso; simp_all; done)
def rulesFault (m : Rl) : Int := if inB m.a 1 1000000 && inB m.b 1 50 && inB m.c 1 1000 && inB m.d 0 1000000 && inB m.e 1 5 then 0 else 3
theorem rulesFault_spec (m : Rl) (M : PH) : Ret 54 [m.v] M (I (rulesFault m)) := by
  refine xcall_of_vc Try.func54 rfl _ Try.ntmps54 _ rfl (fun _ _ => Try.call54 _ _) rfl (fun w0 ρ0 => ?_)
  conv => whnf
  repeat' (first | (refine ⟨⟨[], rfl⟩, _, PH.Le.refl _, PH.Le.refl _, ?_⟩; conv => whnf) | (refine caseB_true ?_; conv => whnf) | (refine caseB_false ?_; conv => whnf) | ((with_reducible refine caseB_dec (fun h => ?_) (fun h => ?_)) <;> conv => whnf) | ((with_reducible refine caseB_ndec (fun h => ?_) (fun h => ?_)) <;> conv => whnf) | ((with_reducible refine caseB_not (fun h => ?_) (fun h => ?_)) <;> conv => whnf) | (refine Ret.go (l1In_ret _ _ _ _) ?_; conv => whnf) | (with_reducible refine @And.intro (guardVC _ _ _ _ _) _ ?_ ?_) <;> conv => whnf | (refine caseB_intro (fun h => ?_) (fun h => ?_) <;> (try simp only [Bool.not_eq_true', Bool.not_eq_false', decide_eq_true_eq, decide_eq_false_iff_not] at h) <;> conv => whnf))
  all_goals first | (refine ⟨M, PH.Le.refl _, ?_, rfl⟩; simp [resV, rulesFault, *]; done) | (refine ⟨M, PH.Le.refl _, ?_, rfl, rfl⟩; simp [resV, rulesFault, *]; done) | (exfalso; simp_all; done)
theorem rulesFault_impl (m : Rl) (M : PH) : Ret 53 [m.v] M (I (rulesFault m)) := by
  refine xcall_of_vc Try.func53 rfl _ Try.ntmps53 _ rfl (fun _ _ => Try.call53 _ _) rfl (fun w0 ρ0 => ?_)
  conv => whnf
  repeat' (first | (refine ⟨⟨[], rfl⟩, _, PH.Le.refl _, PH.Le.refl _, ?_⟩; conv => whnf) | (refine caseB_true ?_; conv => whnf) | (refine caseB_false ?_; conv => whnf) | ((with_reducible refine caseB_dec (fun h => ?_) (fun h => ?_)) <;> conv => whnf) | ((with_reducible refine caseB_ndec (fun h => ?_) (fun h => ?_)) <;> conv => whnf) | ((with_reducible refine caseB_not (fun h => ?_) (fun h => ?_)) <;> conv => whnf) | (refine Ret.go (within_ret _ _ _ _) ?_; conv => whnf) | (with_reducible refine @And.intro (guardVC _ _ _ _ _) _ ?_ ?_) <;> conv => whnf | (refine caseB_intro (fun h => ?_) (fun h => ?_) <;> (try simp only [Bool.not_eq_true', Bool.not_eq_false', decide_eq_true_eq, decide_eq_false_iff_not] at h) <;> conv => whnf))
  all_goals first | (refine ⟨M, PH.Le.refl _, ?_, rfl⟩; simp [resV, rulesFault, *]; done) | (refine ⟨M, PH.Le.refl _, ?_, rfl, rfl⟩; simp [resV, rulesFault, *]; done) | (exfalso; simp_all; done)
end Go.Proofs.Ytpiakjcmbnfdlaa
