/-
  CONTRACTS: ages, lives and what may be served.
-/
import Derived.Test.YtffddijdfeafnaaCa
namespace Go.Proofs.Ytffddijdfeafnaa
set_option maxRecDepth 100000
set_option linter.unusedSimpArgs false
open Go.Xe
abbrev Mt.b (m : Mt) : Box := ⟨37, [.v (I m.at_), .v (I m.age), .v (I m.life), .v (I m.swr), .v (I m.sie), .v (B m.soft), .v (B m.nocache)]⟩
def min' (a b : Int) : Int := if b < a then b else a
theorem l1Min_ret (a b : Int) (M : PH) : Ret 104 [I a, I b] M (I (min' a b)) := by
  refine xcall_of_vc Try.func104 rfl _ Try.ntmps104 _ rfl (fun _ _ => Try.call104 _ _) rfl (fun w0 ρ0 => ?_)
  conv => whnf
  repeat' (first | (refine ⟨⟨[], rfl⟩, _, PH.Le.refl _, PH.Le.refl _, ?_⟩; conv => whnf) | (refine caseB_true ?_; conv => whnf) | (refine caseB_false ?_; conv => whnf) | ((with_reducible refine caseB_dec (fun h => ?_) (fun h => ?_)) <;> conv => whnf) | ((with_reducible refine caseB_ndec (fun h => ?_) (fun h => ?_)) <;> conv => whnf) | ((with_reducible refine caseB_not (fun h => ?_) (fun h => ?_)) <;> conv => whnf) | (refine caseB_intro (fun h => ?_) (fun h => ?_) <;> (try simp only [Bool.not_eq_true', Bool.not_eq_false', decide_eq_true_eq, decide_eq_false_iff_not] at h) <;> conv => whnf))
  all_goals refine ⟨M, PH.Le.refl _, ?_, rfl⟩; simp [resV, min']; omega
def add' (a b : Int) : Int := min' (wr (a + b)) 1000000000000000
theorem l1Add_ret (a b : Int) (M : PH) : Ret 92 [I a, I b] M (I (add' a b)) := by
  refine xcall_of_vc Try.func92 rfl _ Try.ntmps92 _ rfl (fun _ _ => Try.call92 _ _) rfl (fun w0 ρ0 => ?_)
  conv => whnf
  repeat' (first | (refine ⟨⟨[], rfl⟩, _, PH.Le.refl _, PH.Le.refl _, ?_⟩; conv => whnf) | (refine caseB_true ?_; conv => whnf) | (refine caseB_false ?_; conv => whnf) | ((with_reducible refine caseB_dec (fun h => ?_) (fun h => ?_)) <;> conv => whnf) | ((with_reducible refine caseB_ndec (fun h => ?_) (fun h => ?_)) <;> conv => whnf) | ((with_reducible refine caseB_not (fun h => ?_) (fun h => ?_)) <;> conv => whnf) | (refine Ret.go (l1Min_ret _ _ _) ?_; conv => whnf) | (refine caseB_intro (fun h => ?_) (fun h => ?_) <;> (try simp only [Bool.not_eq_true', Bool.not_eq_false', decide_eq_true_eq, decide_eq_false_iff_not] at h) <;> conv => whnf))
  all_goals first | (refine ⟨M, PH.Le.refl _, ?_, rfl⟩; simp [resV, add', *]; done) | (refine ⟨M, PH.Le.refl _, ?_, rfl, rfl⟩; simp [resV, add', *]; done) | (exfalso; simp_all; done)
theorem addTime_ret (a b : Int) (M : PH) : Ret 87 [I a, I b] M (I (add' a b)) := by
  refine xcall_of_vc Try.func87 rfl _ Try.ntmps87 _ rfl (fun _ _ => Try.call87 _ _) rfl (fun w0 ρ0 => ?_)
  conv => whnf
  repeat' (first | (refine ⟨⟨[], rfl⟩, _, PH.Le.refl _, PH.Le.refl _, ?_⟩; conv => whnf) | (refine caseB_true ?_; conv => whnf) | (refine caseB_false ?_; conv => whnf) | ((with_reducible refine caseB_dec (fun h => ?_) (fun h => ?_)) <;> conv => whnf) | ((with_reducible refine caseB_ndec (fun h => ?_) (fun h => ?_)) <;> conv => whnf) | ((with_reducible refine caseB_not (fun h => ?_) (fun h => ?_)) <;> conv => whnf) | (refine caseB_intro (fun h => ?_) (fun h => ?_) <;> (try simp only [Bool.not_eq_true', Bool.not_eq_false', decide_eq_true_eq, decide_eq_false_iff_not] at h) <;> conv => whnf))
  all_goals first | (refine ⟨M, PH.Le.refl _, ?_, rfl⟩; simp [resV, add', min', *]; done) | (refine ⟨M, PH.Le.refl _, ?_, rfl, rfl⟩; simp [resV, add', min', *]; done) | (exfalso; simp_all; done)
def age' (m : Mt) (t : Int) : Int := add' m.age (wr (t - m.at_))
theorem l7Age_ret (m : Mt) (t : Int) (M : PH) : RetP 61 m.b [I t] M (I (age' m t)) := by
  refine xcall_of_vc Try.func61 rfl _ Try.ntmps61 _ rfl (fun _ _ => Try.call61 _ _) rfl (fun w0 ρ0 => ?_)
  conv => whnf
  repeat' (first | (refine ⟨⟨[], rfl⟩, _, PH.Le.refl _, PH.Le.refl _, ?_⟩; conv => whnf) | (refine caseB_true ?_; conv => whnf) | (refine caseB_false ?_; conv => whnf) | ((with_reducible refine caseB_dec (fun h => ?_) (fun h => ?_)) <;> conv => whnf) | ((with_reducible refine caseB_ndec (fun h => ?_) (fun h => ?_)) <;> conv => whnf) | ((with_reducible refine caseB_not (fun h => ?_) (fun h => ?_)) <;> conv => whnf) | (refine draw_rule (.light 0 <| .light 1 <| .light 2 <| .light 3 <| .light 4 <| .light 5 <| .light 6 <| .light 7 <| .light 8 <| .light 9 <| .alt 10 false (.light 11 <| .done) .nil) (by decide +kernel) ?_; conv => whnf) | (refine Ret.go (l1Add_ret _ _ _) ?_; conv => whnf) | (refine caseB_intro (fun h => ?_) (fun h => ?_) <;> (try simp only [Bool.not_eq_true', Bool.not_eq_false', decide_eq_true_eq, decide_eq_false_iff_not] at h) <;> conv => whnf))
  all_goals first | (refine ⟨M, PH.Le.refl _, ?_, rfl⟩; simp [resV, age', *]; done) | (refine ⟨M, PH.Le.refl _, ?_, rfl, rfl⟩; simp [resV, age', *]; done) | (exfalso; simp_all; done)
theorem age_ret (m : Mt) (t : Int) (M : PH) : Ret 63 [m.v, I t] M (I (age' m t)) := by
  refine xcall_of_vc Try.func63 rfl _ Try.ntmps63 _ rfl (fun _ _ => Try.call63 _ _) rfl (fun w0 ρ0 => ?_)
  conv => whnf
  repeat' (first | (refine ⟨⟨[], rfl⟩, _, PH.Le.refl _, PH.Le.refl _, ?_⟩; conv => whnf) | (refine caseB_true ?_; conv => whnf) | (refine caseB_false ?_; conv => whnf) | ((with_reducible refine caseB_dec (fun h => ?_) (fun h => ?_)) <;> conv => whnf) | ((with_reducible refine caseB_ndec (fun h => ?_) (fun h => ?_)) <;> conv => whnf) | ((with_reducible refine caseB_not (fun h => ?_) (fun h => ?_)) <;> conv => whnf) | (refine Ret.go (addTime_ret _ _ _) ?_; conv => whnf) | (refine caseB_intro (fun h => ?_) (fun h => ?_) <;> (try simp only [Bool.not_eq_true', Bool.not_eq_false', decide_eq_true_eq, decide_eq_false_iff_not] at h) <;> conv => whnf))
  all_goals first | (refine ⟨M, PH.Le.refl _, ?_, rfl⟩; simp [resV, age', *]; done) | (refine ⟨M, PH.Le.refl _, ?_, rfl, rfl⟩; simp [resV, age', *]; done) | (exfalso; simp_all; done)
def isAt (m : Mt) (t : Int) : Bool := metaOk m && isT t && decide (m.at_ ≤ t)
theorem l7Ask_ret (m : Mt) (t : Int) (M : PH) : RetP 60 m.b [I t] M (I (if isAt m t then 0 else 3)) := by
  refine xcall_of_vc Try.func60 rfl _ Try.ntmps60 _ rfl (fun _ _ => Try.call60 _ _) rfl (fun w0 ρ0 => ?_)
  conv => whnf
  repeat' (first | (refine ⟨⟨[], rfl⟩, _, PH.Le.refl _, PH.Le.refl _, ?_⟩; conv => whnf) | (refine caseB_true ?_; conv => whnf) | (refine caseB_false ?_; conv => whnf) | ((with_reducible refine caseB_dec (fun h => ?_) (fun h => ?_)) <;> conv => whnf) | ((with_reducible refine caseB_ndec (fun h => ?_) (fun h => ?_)) <;> conv => whnf) | ((with_reducible refine caseB_not (fun h => ?_) (fun h => ?_)) <;> conv => whnf) | (refine Ret.go (metaFault_spec m _) ?_; conv => whnf) | (refine Ret.go (l1Time_ret _ _) ?_; conv => whnf) | (refine caseB_intro (fun h => ?_) (fun h => ?_) <;> (try simp only [Bool.not_eq_true', Bool.not_eq_false', decide_eq_true_eq, decide_eq_false_iff_not] at h) <;> conv => whnf))
  all_goals simp only [metaFault] at *
  all_goals refine ⟨M, PH.Le.refl _, ?_, rfl, rfl⟩; simp_all [resV, isAt]
  all_goals omega
theorem isAt_ret (m : Mt) (t : Int) (M : PH) : Ret 62 [m.v, I t] M (B (isAt m t)) := by
  refine xcall_of_vc Try.func62 rfl _ Try.ntmps62 _ rfl (fun _ _ => Try.call62 _ _) rfl (fun w0 ρ0 => ?_)
  conv => whnf
  repeat' (first | (refine ⟨⟨[], rfl⟩, _, PH.Le.refl _, PH.Le.refl _, ?_⟩; conv => whnf) | (refine caseB_true ?_; conv => whnf) | (refine caseB_false ?_; conv => whnf) | ((with_reducible refine caseB_dec (fun h => ?_) (fun h => ?_)) <;> conv => whnf) | ((with_reducible refine caseB_ndec (fun h => ?_) (fun h => ?_)) <;> conv => whnf) | ((with_reducible refine caseB_not (fun h => ?_) (fun h => ?_)) <;> conv => whnf) | (refine Ret.go (metaFault_impl m _) ?_; conv => whnf) | (refine Ret.go (isTime_ret _ _) ?_; conv => whnf) | (refine caseB_intro (fun h => ?_) (fun h => ?_) <;> (try simp only [Bool.not_eq_true', Bool.not_eq_false', decide_eq_true_eq, decide_eq_false_iff_not] at h) <;> conv => whnf))
  all_goals simp only [metaFault] at *
  all_goals refine ⟨M, PH.Le.refl _, ?_, rfl⟩; simp_all [resV, isAt]
structure IR where
  why : Int
  n : Int
abbrev IR.v (r : IR) : Value := .agg #[I r.why, I r.n]
def ageAt (m : Mt) (t : Int) : IR := if isAt m t then ⟨0, age' m t⟩ else ⟨3, 0⟩
theorem eqInt_ret (x y : IR) (M : PH) : Ret 27 [x.v, y.v] M (B (decide (x.why = y.why) && decide (x.n = y.n))) := by
  refine xcall_of_vc Try.func27 rfl _ Try.ntmps27 _ rfl (fun _ _ => Try.call27 _ _) rfl (fun w0 ρ0 => ?_)
  conv => whnf
  repeat' (first | (refine ⟨⟨[], rfl⟩, _, PH.Le.refl _, PH.Le.refl _, ?_⟩; conv => whnf) | (refine caseB_true ?_; conv => whnf) | (refine caseB_false ?_; conv => whnf) | ((with_reducible refine caseB_dec (fun h => ?_) (fun h => ?_)) <;> conv => whnf) | ((with_reducible refine caseB_ndec (fun h => ?_) (fun h => ?_)) <;> conv => whnf) | ((with_reducible refine caseB_not (fun h => ?_) (fun h => ?_)) <;> conv => whnf) | (refine caseB_intro (fun h => ?_) (fun h => ?_) <;> (try simp only [Bool.not_eq_true', Bool.not_eq_false', decide_eq_true_eq, decide_eq_false_iff_not] at h) <;> conv => whnf))
  all_goals first | (refine ⟨M, PH.Le.refl _, ?_, rfl⟩; simp [resV, *]; done) | (refine ⟨M, PH.Le.refl _, ?_, rfl, rfl⟩; simp [resV, *]; done) | (exfalso; simp_all; done)
theorem ageAt_spec (m : Mt) (t : Int) (M : PH) : Ret 25 [m.v, I t] M (ageAt m t).v := by
  refine xcall_of_vc Try.func25 rfl _ Try.ntmps25 _ rfl (fun _ _ => Try.call25 _ _) rfl (fun w0 ρ0 => ?_)
  conv => whnf
  repeat' (first | (refine ⟨⟨[], rfl⟩, _, PH.Le.refl _, PH.Le.refl _, ?_⟩; conv => whnf) | (refine RetP.go (l7Age_ret m t _) rfl rfl ?_; conv => whnf) | (refine RetP.go (l7Ask_ret m t _) rfl rfl ?_; conv => whnf) | (refine caseB_true ?_; conv => whnf) | (refine caseB_false ?_; conv => whnf) | ((with_reducible refine caseB_dec (fun h => ?_) (fun h => ?_)) <;> conv => whnf) | ((with_reducible refine caseB_ndec (fun h => ?_) (fun h => ?_)) <;> conv => whnf) | ((with_reducible refine caseB_not (fun h => ?_) (fun h => ?_)) <;> conv => whnf) | (refine caseB_intro (fun h => ?_) (fun h => ?_) <;> (try simp only [Bool.not_eq_true', Bool.not_eq_false', decide_eq_true_eq, decide_eq_false_iff_not] at h) <;> conv => whnf))
  all_goals refine ⟨M, PH.Le.refl _, ?_, rfl⟩; simp_all [resV, ageAt, IR.v]
theorem ageAt_impl (m : Mt) (t : Int) (M : PH) : Ret 26 [m.v, I t] M (ageAt m t).v := by
  refine xcall_of_vc Try.func26 rfl _ Try.ntmps26 _ rfl (fun _ _ => Try.call26 _ _) rfl (fun w0 ρ0 => ?_)
  conv => whnf
  repeat' (first | (refine ⟨⟨[], rfl⟩, _, PH.Le.refl _, PH.Le.refl _, ?_⟩; conv => whnf) | (refine caseB_true ?_; conv => whnf) | (refine caseB_false ?_; conv => whnf) | ((with_reducible refine caseB_dec (fun h => ?_) (fun h => ?_)) <;> conv => whnf) | ((with_reducible refine caseB_ndec (fun h => ?_) (fun h => ?_)) <;> conv => whnf) | ((with_reducible refine caseB_not (fun h => ?_) (fun h => ?_)) <;> conv => whnf) | (refine Ret.go (isAt_ret m t _) ?_; conv => whnf) | (refine Ret.go (age_ret m t _) ?_; conv => whnf) | (refine caseB_intro (fun h => ?_) (fun h => ?_) <;> (try simp only [Bool.not_eq_true', Bool.not_eq_false', decide_eq_true_eq, decide_eq_false_iff_not] at h) <;> conv => whnf))
  all_goals refine ⟨M, PH.Le.refl _, ?_, rfl⟩; simp_all [resV, ageAt, IR.v]
theorem ageAt_law (m : Mt) (t : Int) (M : PH) : Ret 6 [m.v, I t] M (B true) := by
  refine xcall_of_vc Try.func6 rfl _ Try.ntmps6 _ rfl (fun _ _ => Try.call6 _ _) rfl (fun w0 ρ0 => ?_)
  conv => whnf
  repeat' (first | (refine ⟨⟨[], rfl⟩, _, PH.Le.refl _, PH.Le.refl _, ?_⟩; conv => whnf) | (refine caseB_true ?_; conv => whnf) | (refine caseB_false ?_; conv => whnf) | ((with_reducible refine caseB_dec (fun h => ?_) (fun h => ?_)) <;> conv => whnf) | ((with_reducible refine caseB_ndec (fun h => ?_) (fun h => ?_)) <;> conv => whnf) | ((with_reducible refine caseB_not (fun h => ?_) (fun h => ?_)) <;> conv => whnf) | (refine Ret.go (toMeta_ret _ _) ?_; conv => whnf) | (refine Ret.go (ageAt_spec m t _) ?_; conv => whnf) | (refine Ret.go (ageAt_impl m t _) ?_; conv => whnf) | (refine Ret.go (eqInt_ret (ageAt m t) (ageAt m t) _) ?_; conv => whnf) | (refine caseB_intro (fun h => ?_) (fun h => ?_) <;> (try simp only [Bool.not_eq_true', Bool.not_eq_false', decide_eq_true_eq, decide_eq_false_iff_not] at h) <;> conv => whnf))
  all_goals first | (refine ⟨M, PH.Le.refl _, ?_, rfl⟩; simp [resV, *]; done) | (refine ⟨M, PH.Le.refl _, ?_, rfl, rfl⟩; simp [resV, *]; done) | (exfalso; simp_all; done)
end Go.Proofs.Ytffddijdfeafnaa
