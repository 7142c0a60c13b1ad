/-
  CONTRACTS: the tests of lanes and of rules.
-/
import Derived.Test.YtffddijdfeafnaaCa
namespace Go.Proofs.Ytffddijdfeafnaa
set_option maxRecDepth 100000
open Go.Xe
structure Ln where
  a : Int
  b : Int
  c : Int
abbrev Ln.v (m : Ln) : Value := .agg #[I m.a, I m.b, I m.c]
theorem toLanes_ret (m : Ln) (M : PH) : Ret 17 [m.v] M m.v := by
  refine xcall_of_vc Try.func17 rfl _ Try.ntmps17 _ rfl (fun _ _ => Try.call17 _ _) rfl (fun w0 ρ0 => ?_)
  conv => whnf
  all_goals first | (refine ⟨M, PH.Le.refl _, ?_, rfl⟩; simp [resV, *]; done) | (exfalso; simp_all; done)
def lanesFault (m : Ln) : Int := if inB m.a 1 8 && inB m.b 0 8 && inB m.c 0 1000000 then 0 else 3
theorem lanesFault_spec (m : Ln) (M : PH) : Ret 16 [m.v] M (I (lanesFault m)) := by
  refine xcall_of_vc Try.func16 rfl _ Try.ntmps16 _ rfl (fun _ _ => Try.call16 _ _) rfl (fun w0 ρ0 => ?_)
  conv => whnf
  repeat' (first | (refine caseB_true ?_; conv => whnf) | (refine caseB_false ?_; conv => whnf) | (with_reducible refine caseB_dec (fun h => ?_) (fun h => ?_) <;> conv => whnf) | (with_reducible refine caseB_ndec (fun h => ?_) (fun h => ?_) <;> conv => whnf) | (with_reducible refine caseB_not (fun h => ?_) (fun h => ?_) <;> conv => whnf) | (refine Ret.go (l1In_ret _ _ _ _) ?_; conv => whnf) | (refine caseB_intro (fun h => ?_) (fun h => ?_) <;> conv => whnf))
  all_goals first | (refine ⟨M, PH.Le.refl _, ?_, rfl⟩; simp [resV, lanesFault, *]; done) | (exfalso; simp_all; done)
theorem lanesFault_impl (m : Ln) (M : PH) : Ret 18 [m.v] M (I (lanesFault m)) := by
  refine xcall_of_vc Try.func18 rfl _ Try.ntmps18 _ rfl (fun _ _ => Try.call18 _ _) rfl (fun w0 ρ0 => ?_)
  conv => whnf
  repeat' (first | (refine caseB_true ?_; conv => whnf) | (refine caseB_false ?_; conv => whnf) | (with_reducible refine caseB_dec (fun h => ?_) (fun h => ?_) <;> conv => whnf) | (with_reducible refine caseB_ndec (fun h => ?_) (fun h => ?_) <;> conv => whnf) | (with_reducible refine caseB_not (fun h => ?_) (fun h => ?_) <;> conv => whnf) | (refine Ret.go (within_ret _ _ _ _) ?_; conv => whnf) | (refine caseB_intro (fun h => ?_) (fun h => ?_) <;> conv => whnf))
  all_goals first | (refine ⟨M, PH.Le.refl _, ?_, rfl⟩; simp [resV, lanesFault, *]; done) | (exfalso; simp_all; done)
theorem lanesFault_law (m : Ln) (M : PH) : Ret 3 [m.v] M (B true) := by
  refine xcall_of_vc Try.func3 rfl _ Try.ntmps3 _ rfl (fun _ _ => Try.call3 _ _) rfl (fun w0 ρ0 => ?_)
  conv => whnf
  repeat' (first | (refine caseB_true ?_; conv => whnf) | (refine caseB_false ?_; conv => whnf) | (with_reducible refine caseB_dec (fun h => ?_) (fun h => ?_) <;> conv => whnf) | (with_reducible refine caseB_ndec (fun h => ?_) (fun h => ?_) <;> conv => whnf) | (with_reducible refine caseB_not (fun h => ?_) (fun h => ?_) <;> conv => whnf) | (refine Ret.go (toLanes_ret _ _) ?_; conv => whnf) | (refine Ret.go (lanesFault_spec _ _) ?_; conv => whnf) | (refine Ret.go (lanesFault_impl _ _) ?_; conv => whnf) | (refine caseB_intro (fun h => ?_) (fun h => ?_) <;> conv => whnf))
  all_goals first | (refine ⟨M, PH.Le.refl _, ?_, rfl⟩; simp [resV, *]; done) | (exfalso; simp_all; done)
structure Rl where
  a : Int
  b : Int
  c : Int
  d : Int
  e : Int
abbrev Rl.v (m : Rl) : Value := .agg #[I m.a, I m.b, I m.c, I m.d, I m.e]
theorem toRules_ret (m : Rl) (M : PH) : Ret 20 [m.v] M m.v := by
  refine xcall_of_vc Try.func20 rfl _ Try.ntmps20 _ rfl (fun _ _ => Try.call20 _ _) rfl (fun w0 ρ0 => ?_)
  conv => whnf
  all_goals first | (refine ⟨M, PH.Le.refl _, ?_, rfl⟩; simp [resV, *]; done) | (exfalso; simp_all; done)
def rulesFault (m : Rl) : Int := if inB m.a 1 1000000 && inB m.b 1 50 && inB m.c 1 1000 && inB m.d 0 1000000 && inB m.e 1 5 then 0 else 3
theorem rulesFault_spec (m : Rl) (M : PH) : Ret 19 [m.v] M (I (rulesFault m)) := by
  refine xcall_of_vc Try.func19 rfl _ Try.ntmps19 _ rfl (fun _ _ => Try.call19 _ _) rfl (fun w0 ρ0 => ?_)
  conv => whnf
  repeat' (first | (refine caseB_true ?_; conv => whnf) | (refine caseB_false ?_; conv => whnf) | (with_reducible refine caseB_dec (fun h => ?_) (fun h => ?_) <;> conv => whnf) | (with_reducible refine caseB_ndec (fun h => ?_) (fun h => ?_) <;> conv => whnf) | (with_reducible refine caseB_not (fun h => ?_) (fun h => ?_) <;> conv => whnf) | (refine Ret.go (l1In_ret _ _ _ _) ?_; conv => whnf) | (refine caseB_intro (fun h => ?_) (fun h => ?_) <;> conv => whnf))
  all_goals first | (refine ⟨M, PH.Le.refl _, ?_, rfl⟩; simp [resV, rulesFault, *]; done) | (exfalso; simp_all; done)
theorem rulesFault_impl (m : Rl) (M : PH) : Ret 21 [m.v] M (I (rulesFault m)) := by
  refine xcall_of_vc Try.func21 rfl _ Try.ntmps21 _ rfl (fun _ _ => Try.call21 _ _) rfl (fun w0 ρ0 => ?_)
  conv => whnf
  repeat' (first | (refine caseB_true ?_; conv => whnf) | (refine caseB_false ?_; conv => whnf) | (with_reducible refine caseB_dec (fun h => ?_) (fun h => ?_) <;> conv => whnf) | (with_reducible refine caseB_ndec (fun h => ?_) (fun h => ?_) <;> conv => whnf) | (with_reducible refine caseB_not (fun h => ?_) (fun h => ?_) <;> conv => whnf) | (refine Ret.go (within_ret _ _ _ _) ?_; conv => whnf) | (refine caseB_intro (fun h => ?_) (fun h => ?_) <;> conv => whnf))
  all_goals first | (refine ⟨M, PH.Le.refl _, ?_, rfl⟩; simp [resV, rulesFault, *]; done) | (exfalso; simp_all; done)
theorem rulesFault_law (m : Rl) (M : PH) : Ret 4 [m.v] M (B true) := by
  refine xcall_of_vc Try.func4 rfl _ Try.ntmps4 _ rfl (fun _ _ => Try.call4 _ _) rfl (fun w0 ρ0 => ?_)
  conv => whnf
  repeat' (first | (refine caseB_true ?_; conv => whnf) | (refine caseB_false ?_; conv => whnf) | (with_reducible refine caseB_dec (fun h => ?_) (fun h => ?_) <;> conv => whnf) | (with_reducible refine caseB_ndec (fun h => ?_) (fun h => ?_) <;> conv => whnf) | (with_reducible refine caseB_not (fun h => ?_) (fun h => ?_) <;> conv => whnf) | (refine Ret.go (toRules_ret _ _) ?_; conv => whnf) | (refine Ret.go (rulesFault_spec _ _) ?_; conv => whnf) | (refine Ret.go (rulesFault_impl _ _) ?_; conv => whnf) | (refine caseB_intro (fun h => ?_) (fun h => ?_) <;> conv => whnf))
  all_goals first | (refine ⟨M, PH.Le.refl _, ?_, rfl⟩; simp [resV, *]; done) | (exfalso; simp_all; done)
end Go.Proofs.Ytffddijdfeafnaa
