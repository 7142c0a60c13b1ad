/-
  CONTRACTS: what may be served, what is renewed early, the phase, what is noted.
-/
import Derived.Test.YtffddijdfeafnaaCd
namespace Go.Proofs.Ytffddijdfeafnaa
set_option maxRecDepth 100000
set_option linter.unusedSimpArgs false
open Go.Xe
def may (m : Mt) (t : Int) (onErr : Bool) : Bool := decide (phase m t = 1) || decide (phase m t = 2) || (onErr && decide (age' m t < add' (life' m) m.sie))
theorem l7May_ret (m : Mt) (t : Int) (e : Bool) (M : PH) : RetP 78 m.b [I t, B e] M (B (may m t e)) := by
  refine xcall_of_vc Try.func78 rfl _ Try.ntmps78 _ rfl (fun _ _ => Try.call78 _ _) rfl (fun w0 ρ0 => ?_)
  conv => whnf
  repeat' (first | (refine ⟨⟨[], rfl⟩, _, PH.Le.refl _, PH.Le.refl _, ?_⟩; conv => whnf) | (refine RetP.go (l7Life_ret m _) rfl rfl ?_; conv => whnf) | (refine RetP.go (l7Age_ret m t _) rfl rfl ?_; conv => whnf) | (refine RetP.go (l7Phase_ret m t _) rfl rfl ?_; conv => whnf) | (refine caseB_true ?_; conv => whnf) | (refine caseB_false ?_; conv => whnf) | ((with_reducible refine caseB_dec (fun h => ?_) (fun h => ?_)) <;> conv => whnf) | ((with_reducible refine caseB_ndec (fun h => ?_) (fun h => ?_)) <;> conv => whnf) | ((with_reducible refine caseB_not (fun h => ?_) (fun h => ?_)) <;> conv => whnf) | (refine draw_rule (.light 0 <| .light 1 <| .light 2 <| .light 3 <| .light 4 <| .light 5 <| .light 6 <| .light 7 <| .light 8 <| .light 9 <| .light 10 <| .light 12 <| .light 14 <| .light 15 <| .light 16 <| .light 17 <| .alt 11 false (.alt 13 false (.alt 18 false (.light 19 <| .light 20 <| .light 21 <| .light 22 <| .done) .nil) .nil) .nil) (by decide +kernel) ?_; conv => whnf) | (refine Ret.go (l1Add_ret _ _ _) ?_; conv => whnf) | (refine caseB_intro (fun h => ?_) (fun h => ?_) <;> (try simp only [Bool.not_eq_true', Bool.not_eq_false', decide_eq_true_eq, decide_eq_false_iff_not] at h) <;> conv => whnf))
  all_goals refine ⟨M, PH.Le.refl _, ?_, rfl, rfl⟩; simp_all [resV, may]
theorem mayServe_ret (m : Mt) (t : Int) (e : Bool) (M : PH) : Ret 79 [m.v, I t, B e] M (B (may m t e)) := by
  refine xcall_of_vc Try.func79 rfl _ Try.ntmps79 _ rfl (fun _ _ => Try.call79 _ _) rfl (fun w0 ρ0 => ?_)
  conv => whnf
  repeat' (first | (refine ⟨⟨[], rfl⟩, _, PH.Le.refl _, PH.Le.refl _, ?_⟩; conv => whnf) | (refine caseB_true ?_; conv => whnf) | (refine caseB_false ?_; conv => whnf) | ((with_reducible refine caseB_dec (fun h => ?_) (fun h => ?_)) <;> conv => whnf) | ((with_reducible refine caseB_ndec (fun h => ?_) (fun h => ?_)) <;> conv => whnf) | ((with_reducible refine caseB_not (fun h => ?_) (fun h => ?_)) <;> conv => whnf) | (refine draw_rule (.light 0 <| .light 1 <| .light 2 <| .light 3 <| .light 4 <| .light 5 <| .light 6 <| .light 7 <| .light 8 <| .light 9 <| .light 10 <| .light 12 <| .light 14 <| .light 15 <| .alt 11 false (.alt 13 false (.alt 16 false (.light 17 <| .light 18 <| .light 19 <| .light 20 <| .done) .nil) .nil) .nil) (by decide +kernel) ?_; conv => whnf) | (refine Ret.go (phase_ret m t _) ?_; conv => whnf) | (refine Ret.go (age_ret m t _) ?_; conv => whnf) | (refine Ret.go (life_ret m _) ?_; conv => whnf) | (refine Ret.go (addTime_ret _ _ _) ?_; conv => whnf) | (refine caseB_intro (fun h => ?_) (fun h => ?_) <;> (try simp only [Bool.not_eq_true', Bool.not_eq_false', decide_eq_true_eq, decide_eq_false_iff_not] at h) <;> conv => whnf))
  all_goals refine ⟨M, PH.Le.refl _, ?_, rfl⟩; simp_all [resV, may]
theorem mayServe_spec (m : Mt) (t : Int) (e : Bool) (M : PH) : Ret 41 [m.v, I t, B e] M (B (isAt m t && may m t e)) := by
  refine xcall_of_vc Try.func41 rfl _ Try.ntmps41 _ rfl (fun _ _ => Try.call41 _ _) rfl (fun w0 ρ0 => ?_)
  conv => whnf
  repeat' (first | (refine ⟨⟨[], rfl⟩, _, PH.Le.refl _, PH.Le.refl _, ?_⟩; conv => whnf) | (refine RetP.go (l7May_ret m t e _) rfl rfl ?_; conv => whnf) | (refine RetP.go (l7Ask_ret m t _) rfl rfl ?_; conv => whnf) | (refine caseB_true ?_; conv => whnf) | (refine caseB_false ?_; conv => whnf) | ((with_reducible refine caseB_dec (fun h => ?_) (fun h => ?_)) <;> conv => whnf) | ((with_reducible refine caseB_ndec (fun h => ?_) (fun h => ?_)) <;> conv => whnf) | ((with_reducible refine caseB_not (fun h => ?_) (fun h => ?_)) <;> conv => whnf) | (refine caseB_intro (fun h => ?_) (fun h => ?_) <;> (try simp only [Bool.not_eq_true', Bool.not_eq_false', decide_eq_true_eq, decide_eq_false_iff_not] at h) <;> conv => whnf))
  all_goals refine ⟨M, PH.Le.refl _, ?_, rfl⟩; simp_all [resV]
theorem mayServe_impl (m : Mt) (t : Int) (e : Bool) (M : PH) : Ret 42 [m.v, I t, B e] M (B (isAt m t && may m t e)) := by
  refine xcall_of_vc Try.func42 rfl _ Try.ntmps42 _ rfl (fun _ _ => Try.call42 _ _) rfl (fun w0 ρ0 => ?_)
  conv => whnf
  repeat' (first | (refine ⟨⟨[], rfl⟩, _, PH.Le.refl _, PH.Le.refl _, ?_⟩; conv => whnf) | (refine caseB_true ?_; conv => whnf) | (refine caseB_false ?_; conv => whnf) | ((with_reducible refine caseB_dec (fun h => ?_) (fun h => ?_)) <;> conv => whnf) | ((with_reducible refine caseB_ndec (fun h => ?_) (fun h => ?_)) <;> conv => whnf) | ((with_reducible refine caseB_not (fun h => ?_) (fun h => ?_)) <;> conv => whnf) | (refine Ret.go (isAt_ret m t _) ?_; conv => whnf) | (refine Ret.go (mayServe_ret m t e _) ?_; conv => whnf) | (refine caseB_intro (fun h => ?_) (fun h => ?_) <;> (try simp only [Bool.not_eq_true', Bool.not_eq_false', decide_eq_true_eq, decide_eq_false_iff_not] at h) <;> conv => whnf))
  all_goals refine ⟨M, PH.Le.refl _, ?_, rfl⟩; simp_all [resV]
theorem mayServe_law (m : Mt) (t : Int) (e : Bool) (M : PH) : Ret 10 [m.v, I t, B e] M (B true) := by
  refine xcall_of_vc Try.func10 rfl _ Try.ntmps10 _ rfl (fun _ _ => Try.call10 _ _) rfl (fun w0 ρ0 => ?_)
  conv => whnf
  repeat' (first | (refine ⟨⟨[], rfl⟩, _, PH.Le.refl _, PH.Le.refl _, ?_⟩; conv => whnf) | (refine caseB_true ?_; conv => whnf) | (refine caseB_false ?_; conv => whnf) | ((with_reducible refine caseB_dec (fun h => ?_) (fun h => ?_)) <;> conv => whnf) | ((with_reducible refine caseB_ndec (fun h => ?_) (fun h => ?_)) <;> conv => whnf) | ((with_reducible refine caseB_not (fun h => ?_) (fun h => ?_)) <;> conv => whnf) | (refine Ret.go (toMeta_ret _ _) ?_; conv => whnf) | (refine Ret.go (mayServe_spec m t e _) ?_; conv => whnf) | (refine Ret.go (mayServe_impl m t e _) ?_; conv => whnf) | (refine caseB_intro (fun h => ?_) (fun h => ?_) <;> (try simp only [Bool.not_eq_true', Bool.not_eq_false', decide_eq_true_eq, decide_eq_false_iff_not] at h) <;> conv => whnf))
  all_goals refine ⟨M, PH.Le.refl _, ?_, rfl⟩; simp_all [resV]
def phaseOf (m : Mt) (t : Int) : IR := if isAt m t then ⟨0, phase m t⟩ else ⟨3, 0⟩
theorem phaseOf_spec (m : Mt) (t : Int) (M : PH) : Ret 45 [m.v, I t] M (phaseOf m t).v := by
  refine xcall_of_vc Try.func45 rfl _ Try.ntmps45 _ rfl (fun _ _ => Try.call45 _ _) rfl (fun w0 ρ0 => ?_)
  conv => whnf
  repeat' (first | (refine ⟨⟨[], rfl⟩, _, PH.Le.refl _, PH.Le.refl _, ?_⟩; conv => whnf) | (refine RetP.go (l7Phase_ret m t _) rfl rfl ?_; conv => whnf) | (refine RetP.go (l7Ask_ret m t _) rfl rfl ?_; conv => whnf) | (refine caseB_true ?_; conv => whnf) | (refine caseB_false ?_; conv => whnf) | ((with_reducible refine caseB_dec (fun h => ?_) (fun h => ?_)) <;> conv => whnf) | ((with_reducible refine caseB_ndec (fun h => ?_) (fun h => ?_)) <;> conv => whnf) | ((with_reducible refine caseB_not (fun h => ?_) (fun h => ?_)) <;> conv => whnf) | (refine caseB_intro (fun h => ?_) (fun h => ?_) <;> (try simp only [Bool.not_eq_true', Bool.not_eq_false', decide_eq_true_eq, decide_eq_false_iff_not] at h) <;> conv => whnf))
  all_goals refine ⟨M, PH.Le.refl _, ?_, rfl⟩; simp_all [resV, phaseOf, IR.v]
theorem phaseOf_impl (m : Mt) (t : Int) (M : PH) : Ret 46 [m.v, I t] M (phaseOf m t).v := by
  refine xcall_of_vc Try.func46 rfl _ Try.ntmps46 _ rfl (fun _ _ => Try.call46 _ _) rfl (fun w0 ρ0 => ?_)
  conv => whnf
  repeat' (first | (refine ⟨⟨[], rfl⟩, _, PH.Le.refl _, PH.Le.refl _, ?_⟩; conv => whnf) | (refine caseB_true ?_; conv => whnf) | (refine caseB_false ?_; conv => whnf) | ((with_reducible refine caseB_dec (fun h => ?_) (fun h => ?_)) <;> conv => whnf) | ((with_reducible refine caseB_ndec (fun h => ?_) (fun h => ?_)) <;> conv => whnf) | ((with_reducible refine caseB_not (fun h => ?_) (fun h => ?_)) <;> conv => whnf) | (refine Ret.go (isAt_ret m t _) ?_; conv => whnf) | (refine Ret.go (phase_ret m t _) ?_; conv => whnf) | (refine caseB_intro (fun h => ?_) (fun h => ?_) <;> (try simp only [Bool.not_eq_true', Bool.not_eq_false', decide_eq_true_eq, decide_eq_false_iff_not] at h) <;> conv => whnf))
  all_goals refine ⟨M, PH.Le.refl _, ?_, rfl⟩; simp_all [resV, phaseOf, IR.v]
theorem phaseOf_law (m : Mt) (t : Int) (M : PH) : Ret 12 [m.v, I t] M (B true) := by
  refine xcall_of_vc Try.func12 rfl _ Try.ntmps12 _ rfl (fun _ _ => Try.call12 _ _) rfl (fun w0 ρ0 => ?_)
  conv => whnf
  repeat' (first | (refine ⟨⟨[], rfl⟩, _, PH.Le.refl _, PH.Le.refl _, ?_⟩; conv => whnf) | (refine caseB_true ?_; conv => whnf) | (refine caseB_false ?_; conv => whnf) | ((with_reducible refine caseB_dec (fun h => ?_) (fun h => ?_)) <;> conv => whnf) | ((with_reducible refine caseB_ndec (fun h => ?_) (fun h => ?_)) <;> conv => whnf) | ((with_reducible refine caseB_not (fun h => ?_) (fun h => ?_)) <;> conv => whnf) | (refine Ret.go (toMeta_ret _ _) ?_; conv => whnf) | (refine Ret.go (phaseOf_spec m t _) ?_; conv => whnf) | (refine Ret.go (phaseOf_impl m t _) ?_; conv => whnf) | (refine Ret.go (eqInt_ret (phaseOf m t) (phaseOf m t) _) ?_; conv => whnf) | (refine caseB_intro (fun h => ?_) (fun h => ?_) <;> (try simp only [Bool.not_eq_true', Bool.not_eq_false', decide_eq_true_eq, decide_eq_false_iff_not] at h) <;> conv => whnf))
  all_goals first | (refine ⟨M, PH.Le.refl _, ?_, rfl⟩; simp [resV, *]; done) | (refine ⟨M, PH.Le.refl _, ?_, rfl, rfl⟩; simp [resV, *]; done) | (exfalso; simp_all; done)
end Go.Proofs.Ytffddijdfeafnaa
