/-
  CONTRACTS: how long an answer may be kept, and what is noted of it.
-/
import Derived.Test.YtffddijdfeafnaaCc
namespace Go.Proofs.Ytffddijdfeafnaa
set_option maxRecDepth 100000
set_option linter.unusedSimpArgs false
open Go.Xe
structure Pl where
  b0 : Bool
  b1 : Bool
  b2 : Bool
  n3 : Int
  n4 : Int
  n5 : Int
  n6 : Int
abbrev Pl.v (p : Pl) : Value := .agg #[B p.b0, B p.b1, B p.b2, I p.n3, I p.n4, I p.n5, I p.n6]
abbrev Pl.b (p : Pl) : Box := ⟨48, [.v (B p.b0), .v (B p.b1), .v (B p.b2), .v (I p.n3), .v (I p.n4), .v (I p.n5), .v (I p.n6)]⟩
theorem toPolicy_ret (p : Pl) (M : PH) : Ret 29 [p.v] M p.v := by
  refine xcall_of_vc Try.func29 rfl _ Try.ntmps29 _ rfl (fun _ _ => Try.call29 _ _) rfl (fun w0 ρ0 => ?_)
  conv => whnf
  all_goals first | (refine ⟨M, PH.Le.refl _, ?_, rfl⟩; simp [resV, *]; done) | (refine ⟨M, PH.Le.refl _, ?_, rfl, rfl⟩; simp [resV, *]; done) | (exfalso; simp_all; done)
def policyOk (p : Pl) : Bool := (isT p.n3 || decide (p.n3 = -1)) && isT p.n4 && isT p.n5 && isT p.n6
theorem policyFault_spec (p : Pl) (M : PH) : Ret 64 [p.v] M (I (if policyOk p then 0 else 3)) := by
  refine xcall_of_vc Try.func64 rfl _ Try.ntmps64 _ rfl (fun _ _ => Try.call64 _ _) rfl (fun w0 ρ0 => ?_)
  conv => whnf
  repeat' (first | (refine ⟨⟨[], rfl⟩, _, PH.Le.refl _, PH.Le.refl _, ?_⟩; conv => whnf) | (refine caseB_true ?_; conv => whnf) | (refine caseB_false ?_; conv => whnf) | ((with_reducible refine caseB_dec (fun h => ?_) (fun h => ?_)) <;> conv => whnf) | ((with_reducible refine caseB_ndec (fun h => ?_) (fun h => ?_)) <;> conv => whnf) | ((with_reducible refine caseB_not (fun h => ?_) (fun h => ?_)) <;> conv => whnf) | (refine Ret.go (l1Time_ret _ _) ?_; conv => whnf) | (refine caseB_intro (fun h => ?_) (fun h => ?_) <;> (try simp only [Bool.not_eq_true', Bool.not_eq_false', decide_eq_true_eq, decide_eq_false_iff_not] at h) <;> conv => whnf))
  all_goals first | (refine ⟨M, PH.Le.refl _, ?_, rfl⟩; simp [resV, policyOk, *]; done) | (refine ⟨M, PH.Le.refl _, ?_, rfl, rfl⟩; simp [resV, policyOk, *]; done) | (exfalso; simp_all; done)
theorem policyFault_impl (p : Pl) (M : PH) : Ret 66 [p.v] M (I (if policyOk p then 0 else 3)) := by
  refine xcall_of_vc Try.func66 rfl _ Try.ntmps66 _ rfl (fun _ _ => Try.call66 _ _) rfl (fun w0 ρ0 => ?_)
  conv => whnf
  repeat' (first | (refine ⟨⟨[], rfl⟩, _, PH.Le.refl _, PH.Le.refl _, ?_⟩; conv => whnf) | (refine caseB_true ?_; conv => whnf) | (refine caseB_false ?_; conv => whnf) | ((with_reducible refine caseB_dec (fun h => ?_) (fun h => ?_)) <;> conv => whnf) | ((with_reducible refine caseB_ndec (fun h => ?_) (fun h => ?_)) <;> conv => whnf) | ((with_reducible refine caseB_not (fun h => ?_) (fun h => ?_)) <;> conv => whnf) | (refine Ret.go (isTime_ret _ _) ?_; conv => whnf) | (refine caseB_intro (fun h => ?_) (fun h => ?_) <;> (try simp only [Bool.not_eq_true', Bool.not_eq_false', decide_eq_true_eq, decide_eq_false_iff_not] at h) <;> conv => whnf))
  all_goals first | (refine ⟨M, PH.Le.refl _, ?_, rfl⟩; simp [resV, policyOk, *]; done) | (refine ⟨M, PH.Le.refl _, ?_, rfl, rfl⟩; simp [resV, policyOk, *]; done) | (exfalso; simp_all; done)
def isStatus (n : Int) : Bool := inB n 200 599
theorem isStatus_ret (n : Int) (M : PH) : Ret 67 [I n] M (B (isStatus n)) := by
  refine xcall_of_vc Try.func67 rfl _ Try.ntmps67 _ rfl (fun _ _ => Try.call67 _ _) rfl (fun w0 ρ0 => ?_)
  conv => whnf
  repeat' (first | (refine ⟨⟨[], rfl⟩, _, PH.Le.refl _, PH.Le.refl _, ?_⟩; conv => whnf) | (refine caseB_true ?_; conv => whnf) | (refine caseB_false ?_; conv => whnf) | ((with_reducible refine caseB_dec (fun h => ?_) (fun h => ?_)) <;> conv => whnf) | ((with_reducible refine caseB_ndec (fun h => ?_) (fun h => ?_)) <;> conv => whnf) | ((with_reducible refine caseB_not (fun h => ?_) (fun h => ?_)) <;> conv => whnf) | (refine Ret.go (within_ret _ _ _ _) ?_; conv => whnf) | (refine caseB_intro (fun h => ?_) (fun h => ?_) <;> (try simp only [Bool.not_eq_true', Bool.not_eq_false', decide_eq_true_eq, decide_eq_false_iff_not] at h) <;> conv => whnf))
  all_goals first | (refine ⟨M, PH.Le.refl _, ?_, rfl⟩; simp [resV, isStatus, *]; done) | (refine ⟨M, PH.Le.refl _, ?_, rfl, rfl⟩; simp [resV, isStatus, *]; done) | (exfalso; simp_all; done)
def skips (p : Pl) (st : Int) : Bool := p.b0 || (decide (st ≠ 200) && decide (st ≠ 404) && decide (st ≠ 410))
def keeps (p : Pl) (st : Int) : Bool := !skips p st && (decide (p.n3 ≠ -1) || decide (st ≠ 200))
def keepN (p : Pl) (d : Int) : Int := if p.n3 = -1 then d else p.n3
theorem l6Life_ret (p : Pl) (st d : Int) (M : PH) : RetP 65 p.b [I st, I d] M (.tuple #[I (if keeps p st then keepN p d else 0), B (keeps p st)]) := by
  refine xcall_of_vc Try.func65 rfl _ Try.ntmps65 _ rfl (fun _ _ => Try.call65 _ _) rfl (fun w0 ρ0 => ?_)
  conv => whnf
  repeat' (first | (refine ⟨⟨[], rfl⟩, _, PH.Le.refl _, PH.Le.refl _, ?_⟩; conv => whnf) | (refine caseB_true ?_; conv => whnf) | (refine caseB_false ?_; conv => whnf) | ((with_reducible refine caseB_dec (fun h => ?_) (fun h => ?_)) <;> conv => whnf) | ((with_reducible refine caseB_ndec (fun h => ?_) (fun h => ?_)) <;> conv => whnf) | ((with_reducible refine caseB_not (fun h => ?_) (fun h => ?_)) <;> conv => whnf) | (refine caseB_intro (fun h => ?_) (fun h => ?_) <;> (try simp only [Bool.not_eq_true', Bool.not_eq_false', decide_eq_true_eq, decide_eq_false_iff_not] at h) <;> conv => whnf))
  all_goals refine ⟨M, PH.Le.refl _, ?_, rfl, rfl⟩; simp_all [resV, keeps, keepN, skips]
theorem storeLife_ret (p : Pl) (st d : Int) (M : PH) : Ret 68 [p.v, I st, I d] M (.tuple #[I (if skips p st then 0 else keepN p d), B (keeps p st)]) := by
  refine xcall_of_vc Try.func68 rfl _ Try.ntmps68 _ rfl (fun _ _ => Try.call68 _ _) rfl (fun w0 ρ0 => ?_)
  conv => whnf
  repeat' (first | (refine ⟨⟨[], rfl⟩, _, PH.Le.refl _, PH.Le.refl _, ?_⟩; conv => whnf) | (refine caseB_true ?_; conv => whnf) | (refine caseB_false ?_; conv => whnf) | ((with_reducible refine caseB_dec (fun h => ?_) (fun h => ?_)) <;> conv => whnf) | ((with_reducible refine caseB_ndec (fun h => ?_) (fun h => ?_)) <;> conv => whnf) | ((with_reducible refine caseB_not (fun h => ?_) (fun h => ?_)) <;> conv => whnf) | (refine caseB_intro (fun h => ?_) (fun h => ?_) <;> (try simp only [Bool.not_eq_true', Bool.not_eq_false', decide_eq_true_eq, decide_eq_false_iff_not] at h) <;> conv => whnf))
  all_goals refine ⟨M, PH.Le.refl _, ?_, rfl⟩; simp_all [resV, keeps, keepN, skips]
def storeLife (p : Pl) (st d : Int) : IR := if policyOk p && isStatus st && isT d then (if keeps p st then ⟨0, keepN p d⟩ else ⟨4, 0⟩) else ⟨3, 0⟩
theorem keeps_not {p : Pl} {st : Int} (h : keeps p st = true) : skips p st = false := by simp_all [keeps]
theorem storeLife_spec (p : Pl) (st d : Int) (M : PH) : Ret 28 [p.v, I st, I d] M (storeLife p st d).v := by
  refine xcall_of_vc Try.func28 rfl _ Try.ntmps28 _ rfl (fun _ _ => Try.call28 _ _) rfl (fun w0 ρ0 => ?_)
  conv => whnf
  repeat' (first | (refine ⟨⟨[], rfl⟩, _, PH.Le.refl _, PH.Le.refl _, ?_⟩; conv => whnf) | (refine RetP.go (l6Life_ret p st d _) rfl rfl ?_; conv => whnf) | (refine caseB_true ?_; conv => whnf) | (refine caseB_false ?_; conv => whnf) | ((with_reducible refine caseB_dec (fun h => ?_) (fun h => ?_)) <;> conv => whnf) | ((with_reducible refine caseB_ndec (fun h => ?_) (fun h => ?_)) <;> conv => whnf) | ((with_reducible refine caseB_not (fun h => ?_) (fun h => ?_)) <;> conv => whnf) | (refine Ret.go (policyFault_spec p _) ?_; conv => whnf) | (refine Ret.go (l1In_ret _ _ _ _) ?_; conv => whnf) | (refine Ret.go (l1Time_ret _ _) ?_; conv => whnf) | (refine caseB_intro (fun h => ?_) (fun h => ?_) <;> (try simp only [Bool.not_eq_true', Bool.not_eq_false', decide_eq_true_eq, decide_eq_false_iff_not] at h) <;> conv => whnf))
  all_goals refine ⟨M, PH.Le.refl _, ?_, rfl⟩; simp_all [resV, storeLife, IR.v, isStatus]
theorem storeLife_impl (p : Pl) (st d : Int) (M : PH) : Ret 30 [p.v, I st, I d] M (storeLife p st d).v := by
  refine xcall_of_vc Try.func30 rfl _ Try.ntmps30 _ rfl (fun _ _ => Try.call30 _ _) rfl (fun w0 ρ0 => ?_)
  conv => whnf
  repeat' (first | (refine ⟨⟨[], rfl⟩, _, PH.Le.refl _, PH.Le.refl _, ?_⟩; conv => whnf) | (refine caseB_true ?_; conv => whnf) | (refine caseB_false ?_; conv => whnf) | ((with_reducible refine caseB_dec (fun h => ?_) (fun h => ?_)) <;> conv => whnf) | ((with_reducible refine caseB_ndec (fun h => ?_) (fun h => ?_)) <;> conv => whnf) | ((with_reducible refine caseB_not (fun h => ?_) (fun h => ?_)) <;> conv => whnf) | (refine Ret.go (policyFault_impl p _) ?_; conv => whnf) | (refine Ret.go (isStatus_ret _ _) ?_; conv => whnf) | (refine Ret.go (isTime_ret _ _) ?_; conv => whnf) | (refine Ret.go (storeLife_ret p st d _) ?_; conv => whnf) | (refine caseB_intro (fun h => ?_) (fun h => ?_) <;> (try simp only [Bool.not_eq_true', Bool.not_eq_false', decide_eq_true_eq, decide_eq_false_iff_not] at h) <;> conv => whnf))
  all_goals refine ⟨M, PH.Le.refl _, ?_, rfl⟩
  all_goals first | (simp_all [resV, storeLife, IR.v, isStatus]; done) | (have := keeps_not (p := p) (st := st); simp_all [resV, storeLife, IR.v, isStatus])
theorem storeLife_law (p : Pl) (st d : Int) (M : PH) : Ret 7 [p.v, I st, I d] M (B true) := by
  refine xcall_of_vc Try.func7 rfl _ Try.ntmps7 _ rfl (fun _ _ => Try.call7 _ _) rfl (fun w0 ρ0 => ?_)
  conv => whnf
  repeat' (first | (refine ⟨⟨[], rfl⟩, _, PH.Le.refl _, PH.Le.refl _, ?_⟩; conv => whnf) | (refine caseB_true ?_; conv => whnf) | (refine caseB_false ?_; conv => whnf) | ((with_reducible refine caseB_dec (fun h => ?_) (fun h => ?_)) <;> conv => whnf) | ((with_reducible refine caseB_ndec (fun h => ?_) (fun h => ?_)) <;> conv => whnf) | ((with_reducible refine caseB_not (fun h => ?_) (fun h => ?_)) <;> conv => whnf) | (refine Ret.go (toPolicy_ret _ _) ?_; conv => whnf) | (refine Ret.go (storeLife_spec p st d _) ?_; conv => whnf) | (refine Ret.go (storeLife_impl p st d _) ?_; conv => whnf) | (refine Ret.go (eqInt_ret (storeLife p st d) (storeLife p st d) _) ?_; conv => whnf) | (refine caseB_intro (fun h => ?_) (fun h => ?_) <;> (try simp only [Bool.not_eq_true', Bool.not_eq_false', decide_eq_true_eq, decide_eq_false_iff_not] at h) <;> conv => whnf))
  all_goals first | (refine ⟨M, PH.Le.refl _, ?_, rfl⟩; simp [resV, *]; done) | (refine ⟨M, PH.Le.refl _, ?_, rfl, rfl⟩; simp [resV, *]; done) | (exfalso; simp_all; done)
def life' (m : Mt) : Int := if m.soft || m.nocache then 0 else m.life
theorem l7Life_ret (m : Mt) (M : PH) : RetP 97 m.b [] M (I (life' m)) := by
  refine xcall_of_vc Try.func97 rfl _ Try.ntmps97 _ rfl (fun _ _ => Try.call97 _ _) rfl (fun w0 ρ0 => ?_)
  conv => whnf
  repeat' (first | (refine ⟨⟨[], rfl⟩, _, PH.Le.refl _, PH.Le.refl _, ?_⟩; conv => whnf) | (refine caseB_true ?_; conv => whnf) | (refine caseB_false ?_; conv => whnf) | ((with_reducible refine caseB_dec (fun h => ?_) (fun h => ?_)) <;> conv => whnf) | ((with_reducible refine caseB_ndec (fun h => ?_) (fun h => ?_)) <;> conv => whnf) | ((with_reducible refine caseB_not (fun h => ?_) (fun h => ?_)) <;> conv => whnf) | (refine caseB_intro (fun h => ?_) (fun h => ?_) <;> (try simp only [Bool.not_eq_true', Bool.not_eq_false', decide_eq_true_eq, decide_eq_false_iff_not] at h) <;> conv => whnf))
  all_goals first | (refine ⟨M, PH.Le.refl _, ?_, rfl⟩; simp [resV, life', *]; done) | (refine ⟨M, PH.Le.refl _, ?_, rfl, rfl⟩; simp [resV, life', *]; done) | (exfalso; simp_all; done)
theorem life_ret (m : Mt) (M : PH) : Ret 98 [m.v] M (I (life' m)) := by
  refine xcall_of_vc Try.func98 rfl _ Try.ntmps98 _ rfl (fun _ _ => Try.call98 _ _) rfl (fun w0 ρ0 => ?_)
  conv => whnf
  repeat' (first | (refine ⟨⟨[], rfl⟩, _, PH.Le.refl _, PH.Le.refl _, ?_⟩; conv => whnf) | (refine caseB_true ?_; conv => whnf) | (refine caseB_false ?_; conv => whnf) | ((with_reducible refine caseB_dec (fun h => ?_) (fun h => ?_)) <;> conv => whnf) | ((with_reducible refine caseB_ndec (fun h => ?_) (fun h => ?_)) <;> conv => whnf) | ((with_reducible refine caseB_not (fun h => ?_) (fun h => ?_)) <;> conv => whnf) | (refine caseB_intro (fun h => ?_) (fun h => ?_) <;> (try simp only [Bool.not_eq_true', Bool.not_eq_false', decide_eq_true_eq, decide_eq_false_iff_not] at h) <;> conv => whnf))
  all_goals first | (refine ⟨M, PH.Le.refl _, ?_, rfl⟩; simp [resV, life', *]; done) | (refine ⟨M, PH.Le.refl _, ?_, rfl, rfl⟩; simp [resV, life', *]; done) | (exfalso; simp_all; done)
def phase (m : Mt) (t : Int) : Int := if age' m t < life' m then 1 else if m.nocache = false ∧ age' m t < add' (life' m) m.swr then 2 else if age' m t < add' (life' m) m.sie then 3 else 0
theorem l7Phase_ret (m : Mt) (t : Int) (M : PH) : RetP 82 m.b [I t] M (I (phase m t)) := by
  refine xcall_of_vc Try.func82 rfl _ Try.ntmps82 _ rfl (fun _ _ => Try.call82 _ _) rfl (fun w0 ρ0 => ?_)
  conv => whnf
  repeat' (first | (refine ⟨⟨[], rfl⟩, _, PH.Le.refl _, PH.Le.refl _, ?_⟩; conv => whnf) | (refine RetP.go (l7Life_ret m _) rfl rfl ?_; conv => whnf) | (refine RetP.go (l7Age_ret m t _) rfl rfl ?_; conv => whnf) | (refine caseB_true ?_; conv => whnf) | (refine caseB_false ?_; conv => whnf) | ((with_reducible refine caseB_dec (fun h => ?_) (fun h => ?_)) <;> conv => whnf) | ((with_reducible refine caseB_ndec (fun h => ?_) (fun h => ?_)) <;> conv => whnf) | ((with_reducible refine caseB_not (fun h => ?_) (fun h => ?_)) <;> conv => whnf) | (refine Ret.go (l1Add_ret _ _ _) ?_; conv => whnf) | (refine caseB_intro (fun h => ?_) (fun h => ?_) <;> (try simp only [Bool.not_eq_true', Bool.not_eq_false', decide_eq_true_eq, decide_eq_false_iff_not] at h) <;> conv => whnf))
  all_goals refine ⟨M, PH.Le.refl _, ?_, rfl, rfl⟩; simp_all [resV, phase]
  all_goals omega
theorem phase_ret (m : Mt) (t : Int) (M : PH) : Ret 83 [m.v, I t] M (I (phase m t)) := by
  refine xcall_of_vc Try.func83 rfl _ Try.ntmps83 _ rfl (fun _ _ => Try.call83 _ _) rfl (fun w0 ρ0 => ?_)
  conv => whnf
  repeat' (first | (refine ⟨⟨[], rfl⟩, _, PH.Le.refl _, PH.Le.refl _, ?_⟩; conv => whnf) | (refine caseB_true ?_; conv => whnf) | (refine caseB_false ?_; conv => whnf) | ((with_reducible refine caseB_dec (fun h => ?_) (fun h => ?_)) <;> conv => whnf) | ((with_reducible refine caseB_ndec (fun h => ?_) (fun h => ?_)) <;> conv => whnf) | ((with_reducible refine caseB_not (fun h => ?_) (fun h => ?_)) <;> conv => whnf) | (refine draw_rule (.light 0 <| .light 1 <| .light 3 <| .alt 2 false (.alt 4 false (.light 5 <| .light 6 <| .done) .nil) .nil) (by decide +kernel) ?_; conv => whnf) | (refine Ret.go (age_ret m t _) ?_; conv => whnf) | (refine Ret.go (life_ret m _) ?_; conv => whnf) | (refine Ret.go (addTime_ret _ _ _) ?_; conv => whnf) | (refine caseB_intro (fun h => ?_) (fun h => ?_) <;> (try simp only [Bool.not_eq_true', Bool.not_eq_false', decide_eq_true_eq, decide_eq_false_iff_not] at h) <;> conv => whnf))
  all_goals refine ⟨M, PH.Le.refl _, ?_, rfl⟩; simp_all [resV, phase]
  all_goals omega
end Go.Proofs.Ytffddijdfeafnaa
