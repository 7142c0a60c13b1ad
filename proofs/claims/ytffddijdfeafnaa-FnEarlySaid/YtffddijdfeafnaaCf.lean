/-
  CONTRACTS: what is renewed early; what is noted of an answer.
-/
import Derived.Test.YtffddijdfeafnaaCe
namespace Go.Proofs.Ytffddijdfeafnaa
set_option maxRecDepth 100000
set_option linter.unusedSimpArgs false
open Go.Xe
def mulK (a : Int) : Int := if 1000000000000 < a then 1000000000000000 else wr (a * 1000)
theorem l1Mul_ret (a : Int) (M : PH) : Ret 99 [I a, I 1000] M (I (mulK a)) := by
  refine xcall_of_vc Try.func99 rfl _ Try.ntmps99 _ rfl (fun _ _ => Try.call99 _ _) rfl (fun w0 ρ0 => ?_)
  conv => whnf
  repeat' (first | (refine ⟨⟨[], rfl⟩, _, PH.Le.refl _, PH.Le.refl _, ?_⟩; conv => whnf) | (refine And.intro (by decide) ?_; conv => whnf) | (refine caseB_true ?_; conv => whnf) | (refine caseB_false ?_; conv => whnf) | ((with_reducible refine caseB_dec (fun h => ?_) (fun h => ?_)) <;> conv => whnf) | ((with_reducible refine caseB_ndec (fun h => ?_) (fun h => ?_)) <;> conv => whnf) | ((with_reducible refine caseB_not (fun h => ?_) (fun h => ?_)) <;> conv => whnf) | (refine caseB_intro (fun h => ?_) (fun h => ?_) <;> (try simp only [Bool.not_eq_true', Bool.not_eq_false', decide_eq_true_eq, decide_eq_false_iff_not] at h) <;> conv => whnf))

  all_goals rw [show IntKind.i64.wrap (Int.tdiv 1000000000000000 1000) = 1000000000000 from by decide] at h
  all_goals refine ⟨M, PH.Le.refl _, ?_, rfl⟩; simp [resV, mulK, h]
def early1 (m : Mt) (t l c : Int) : Bool := decide (phase m t = 1) && decide (mulK (wr (life' m - age' m t)) ≤ wr (l * c))
def early2 (m : Mt) (t l c : Int) : Bool := decide (phase m t = 1) && decide (wr (1000 * wr (m.life - age' m t)) ≤ wr (l * c))
theorem l7Early_ret (m : Mt) (t l c : Int) (M : PH) : RetP 80 m.b [I t, I l, I c] M (B (early1 m t l c)) := by
  refine xcall_of_vc Try.func80 rfl _ Try.ntmps80 _ rfl (fun _ _ => Try.call80 _ _) rfl (fun w0 ρ0 => ?_)
  conv => whnf
  repeat' (first | (refine ⟨⟨[], rfl⟩, _, PH.Le.refl _, PH.Le.refl _, ?_⟩; conv => whnf) | (refine RetP.go (l7Life_ret m _) rfl rfl ?_; conv => whnf) | (refine RetP.go (l7Age_ret m t _) rfl rfl ?_; conv => whnf) | (refine RetP.go (l7Phase_ret m t _) rfl rfl ?_; conv => whnf) | (refine caseB_true ?_; conv => whnf) | (refine caseB_false ?_; conv => whnf) | ((with_reducible refine caseB_dec (fun h => ?_) (fun h => ?_)) <;> conv => whnf) | ((with_reducible refine caseB_ndec (fun h => ?_) (fun h => ?_)) <;> conv => whnf) | ((with_reducible refine caseB_not (fun h => ?_) (fun h => ?_)) <;> conv => whnf) | (refine Ret.go (l1Mul_ret _ _) ?_; conv => whnf) | (refine caseB_intro (fun h => ?_) (fun h => ?_) <;> (try simp only [Bool.not_eq_true', Bool.not_eq_false', decide_eq_true_eq, decide_eq_false_iff_not] at h) <;> conv => whnf))
  all_goals refine ⟨M, PH.Le.refl _, ?_, rfl, rfl⟩; simp_all [resV, early1]
theorem earlyDue_ret (m : Mt) (t l c : Int) (M : PH) : Ret 81 [m.v, I t, I l, I c] M (B (early2 m t l c)) := by
  refine xcall_of_vc Try.func81 rfl _ Try.ntmps81 _ rfl (fun _ _ => Try.call81 _ _) rfl (fun w0 ρ0 => ?_)
  conv => whnf
  repeat' (first | (refine ⟨⟨[], rfl⟩, _, PH.Le.refl _, PH.Le.refl _, ?_⟩; conv => whnf) | (refine caseB_true ?_; conv => whnf) | (refine caseB_false ?_; conv => whnf) | ((with_reducible refine caseB_dec (fun h => ?_) (fun h => ?_)) <;> conv => whnf) | ((with_reducible refine caseB_ndec (fun h => ?_) (fun h => ?_)) <;> conv => whnf) | ((with_reducible refine caseB_not (fun h => ?_) (fun h => ?_)) <;> conv => whnf) | (refine draw_rule (.light 0 <| .light 1 <| .alt 2 false (.light 3 <| .light 4 <| .light 5 <| .light 6 <| .light 7 <| .light 8 <| .light 12 <| .light 13 <| .light 14 <| .alt 9 false (.light 10 <| .light 11 <| .light 15 <| .light 16 <| .light 17 <| .done) .nil) .nil) (by decide +kernel) ?_; conv => whnf) | (refine Ret.go (phase_ret m t _) ?_; conv => whnf) | (refine Ret.go (age_ret m t _) ?_; conv => whnf) | (refine caseB_intro (fun h => ?_) (fun h => ?_) <;> (try simp only [Bool.not_eq_true', Bool.not_eq_false', decide_eq_true_eq, decide_eq_false_iff_not] at h) <;> conv => whnf))
  all_goals refine ⟨M, PH.Le.refl _, ?_, rfl⟩
  all_goals simp_all [resV, early2]

theorem isT_iff (n : Int) : isT n = true ↔ 0 ≤ n ∧ n ≤ 1000000000000000 := by simp [isT, inB]
/-- The two sums agree where what is asked is in order. -/
theorem early_eq (m : Mt) (t l c : Int) (h : isAt m t = true) (hl : inB l 0 1000000 = true) (hc : inB c 0 999 = true) : early1 m t l c = early2 m t l c := by
  simp only [isAt, metaOk, Bool.and_eq_true, isT_iff, decide_eq_true_eq] at h
  simp only [inB, decide_eq_true_eq] at hl hc
  obtain ⟨⟨⟨⟨⟨⟨h1, h2⟩, h3⟩, h4⟩, h5⟩, h6⟩, h7⟩ := h
  unfold early1 early2
  by_cases hp : phase m t = 1
  · simp only [hp]
    have hage : 0 ≤ age' m t ∧ age' m t ≤ 1000000000000000 := by
      unfold age' add' min'
      rw [wr_id (n := t - m.at_) (by omega) (by omega), wr_id (n := m.age + (t - m.at_)) (by omega) (by omega)]
      split <;> omega
    have hlt : age' m t < life' m := by
      unfold phase at hp
      split at hp
      · assumption
      · split at hp
        · omega
        · split at hp <;> omega
    have hlife : life' m = m.life := by
      unfold life' at hlt ⊢
      split
      · rename_i e; rw [if_pos e] at hlt; omega
      · rfl
    rw [hlife] at hlt ⊢
    rw [wr_id (n := m.life - age' m t) (by omega) (by omega)]
    have hprod : 0 ≤ l * c ∧ l * c ≤ 999000000 := by
      refine ⟨Int.mul_nonneg hl.1 hc.1, ?_⟩
      have := Int.mul_le_mul hl.2 hc.2 hc.1 (by omega : (0 : Int) ≤ 1000000)
      omega
    rw [wr_id (n := l * c) (by omega) (by omega), wr_id (n := 1000 * (m.life - age' m t)) (by omega) (by omega)]
    unfold mulK
    split
    · simp; omega
    · rw [wr_id (by omega) (by omega), Int.mul_comm]
  · simp [hp]
theorem earlyDue_spec (m : Mt) (t l c : Int) (M : PH) : Ret 43 [m.v, I t, I l, I c] M (B (isAt m t && inB l 0 1000000 && inB c 0 999 && early1 m t l c)) := by
  refine xcall_of_vc Try.func43 rfl _ Try.ntmps43 _ rfl (fun _ _ => Try.call43 _ _) rfl (fun w0 ρ0 => ?_)
  conv => whnf
  repeat' (first | (refine ⟨⟨[], rfl⟩, _, PH.Le.refl _, PH.Le.refl _, ?_⟩; conv => whnf) | (refine RetP.go (l7Early_ret m t l c _) rfl rfl ?_; conv => whnf) | (refine RetP.go (l7Ask_ret m t _) rfl rfl ?_; conv => whnf) | (refine caseB_true ?_; conv => whnf) | (refine caseB_false ?_; conv => whnf) | ((with_reducible refine caseB_dec (fun h => ?_) (fun h => ?_)) <;> conv => whnf) | ((with_reducible refine caseB_ndec (fun h => ?_) (fun h => ?_)) <;> conv => whnf) | ((with_reducible refine caseB_not (fun h => ?_) (fun h => ?_)) <;> conv => whnf) | (refine Ret.go (l1In_ret _ _ _ _) ?_; conv => whnf) | (refine caseB_intro (fun h => ?_) (fun h => ?_) <;> (try simp only [Bool.not_eq_true', Bool.not_eq_false', decide_eq_true_eq, decide_eq_false_iff_not] at h) <;> conv => whnf))
  all_goals refine ⟨M, PH.Le.refl _, ?_, rfl⟩; simp_all [resV]
theorem earlyDue_impl (m : Mt) (t l c : Int) (M : PH) : Ret 44 [m.v, I t, I l, I c] M (B (isAt m t && inB l 0 1000000 && inB c 0 999 && early1 m t l c)) := by
  refine xcall_of_vc Try.func44 rfl _ Try.ntmps44 _ rfl (fun _ _ => Try.call44 _ _) rfl (fun w0 ρ0 => ?_)
  conv => whnf
  repeat' (first | (refine ⟨⟨[], rfl⟩, _, PH.Le.refl _, PH.Le.refl _, ?_⟩; conv => whnf) | (refine caseB_true ?_; conv => whnf) | (refine caseB_false ?_; conv => whnf) | ((with_reducible refine caseB_dec (fun h => ?_) (fun h => ?_)) <;> conv => whnf) | ((with_reducible refine caseB_ndec (fun h => ?_) (fun h => ?_)) <;> conv => whnf) | ((with_reducible refine caseB_not (fun h => ?_) (fun h => ?_)) <;> conv => whnf) | (refine Ret.go (isAt_ret m t _) ?_; conv => whnf) | (refine Ret.go (within_ret _ _ _ _) ?_; conv => whnf) | (refine Ret.go (earlyDue_ret m t l c _) ?_; conv => whnf) | (refine caseB_intro (fun h => ?_) (fun h => ?_) <;> (try simp only [Bool.not_eq_true', Bool.not_eq_false', decide_eq_true_eq, decide_eq_false_iff_not] at h) <;> conv => whnf))
  all_goals refine ⟨M, PH.Le.refl _, ?_, rfl⟩
  all_goals first | (simp_all [resV]; done) | (rw [early_eq m t l c (by assumption) (by assumption) (by assumption)]; simp_all [resV])
theorem earlyDue_law (m : Mt) (t l c : Int) (M : PH) : Ret 11 [m.v, I t, I l, I c] M (B true) := by
  refine xcall_of_vc Try.func11 rfl _ Try.ntmps11 _ rfl (fun _ _ => Try.call11 _ _) rfl (fun w0 ρ0 => ?_)
  conv => whnf
  repeat' (first | (refine ⟨⟨[], rfl⟩, _, PH.Le.refl _, PH.Le.refl _, ?_⟩; conv => whnf) | (refine caseB_true ?_; conv => whnf) | (refine caseB_false ?_; conv => whnf) | ((with_reducible refine caseB_dec (fun h => ?_) (fun h => ?_)) <;> conv => whnf) | ((with_reducible refine caseB_ndec (fun h => ?_) (fun h => ?_)) <;> conv => whnf) | ((with_reducible refine caseB_not (fun h => ?_) (fun h => ?_)) <;> conv => whnf) | (refine Ret.go (toMeta_ret _ _) ?_; conv => whnf) | (refine Ret.go (earlyDue_spec m t l c _) ?_; conv => whnf) | (refine Ret.go (earlyDue_impl m t l c _) ?_; conv => whnf) | (refine caseB_intro (fun h => ?_) (fun h => ?_) <;> (try simp only [Bool.not_eq_true', Bool.not_eq_false', decide_eq_true_eq, decide_eq_false_iff_not] at h) <;> conv => whnf))
  all_goals refine ⟨M, PH.Le.refl _, ?_, rfl⟩; simp_all [resV]
def noteOf (p : Pl) (n t : Int) : Mt := ⟨t, p.n6, n, p.n4, p.n5, false, p.b1⟩
theorem l7Meta_ret (p : Pl) (n t : Int) (M : PH) : RetP 84 p.b [I n, I t] M (noteOf p n t).v := by
  refine xcall_of_vc Try.func84 rfl _ Try.ntmps84 _ rfl (fun _ _ => Try.call84 _ _) rfl (fun w0 ρ0 => ?_)
  conv => whnf
  repeat' (first | (refine ⟨⟨[], rfl⟩, _, PH.Le.refl _, PH.Le.refl _, ?_⟩; conv => whnf) | (refine caseB_true ?_; conv => whnf) | (refine caseB_false ?_; conv => whnf) | ((with_reducible refine caseB_dec (fun h => ?_) (fun h => ?_)) <;> conv => whnf) | ((with_reducible refine caseB_ndec (fun h => ?_) (fun h => ?_)) <;> conv => whnf) | ((with_reducible refine caseB_not (fun h => ?_) (fun h => ?_)) <;> conv => whnf) | (refine draw_rule (.light 0 <| .light 1 <| .light 2 <| .light 3 <| .light 4 <| .light 5 <| .light 6 <| .light 7 <| .light 8 <| .light 9 <| .light 10 <| .light 11 <| .light 12 <| .light 13 <| .light 14 <| .light 15 <| .light 16 <| .light 17 <| .light 18 <| .alt 19 true (.done) .nil) (by decide +kernel) ?_; conv => whnf) | (refine caseB_intro (fun h => ?_) (fun h => ?_) <;> (try simp only [Bool.not_eq_true', Bool.not_eq_false', decide_eq_true_eq, decide_eq_false_iff_not] at h) <;> conv => whnf))
  all_goals first | (refine ⟨M, PH.Le.refl _, ?_, rfl⟩; simp [resV, noteOf, Mt.v, *]; done) | (refine ⟨M, PH.Le.refl _, ?_, rfl, rfl⟩; simp [resV, noteOf, Mt.v, *]; done) | (exfalso; simp_all; done)
structure MR where
  why : Int
  m : Mt
abbrev MR.v (r : MR) : Value := .agg #[I r.why, I r.m.at_, I r.m.age, I r.m.life, I r.m.swr, I r.m.sie, B r.m.soft, B r.m.nocache]
def metaOf (p : Pl) (st d t : Int) : MR := if (storeLife p st d).why = 0 then (if isT t then ⟨0, noteOf p (storeLife p st d).n t⟩ else ⟨3, ⟨0, 0, 0, 0, 0, false, false⟩⟩) else ⟨(storeLife p st d).why, ⟨0, 0, 0, 0, 0, false, false⟩⟩
theorem metaOf_spec (p : Pl) (st d t : Int) (M : PH) : Ret 47 [p.v, I st, I d, I t] M (metaOf p st d t).v := by
  refine xcall_of_vc Try.func47 rfl _ Try.ntmps47 _ rfl (fun _ _ => Try.call47 _ _) rfl (fun w0 ρ0 => ?_)
  conv => whnf
  repeat' (first | (refine ⟨⟨[], rfl⟩, _, PH.Le.refl _, PH.Le.refl _, ?_⟩; conv => whnf) | (refine RetP.go (l7Meta_ret p _ t _) rfl rfl ?_; conv => whnf) | (refine caseB_true ?_; conv => whnf) | (refine caseB_false ?_; conv => whnf) | ((with_reducible refine caseB_dec (fun h => ?_) (fun h => ?_)) <;> conv => whnf) | ((with_reducible refine caseB_ndec (fun h => ?_) (fun h => ?_)) <;> conv => whnf) | ((with_reducible refine caseB_not (fun h => ?_) (fun h => ?_)) <;> conv => whnf) | (refine Ret.go (storeLife_spec p st d _) ?_; conv => whnf) | (refine Ret.go (l1Time_ret _ _) ?_; conv => whnf) | (refine caseB_intro (fun h => ?_) (fun h => ?_) <;> (try simp only [Bool.not_eq_true', Bool.not_eq_false', decide_eq_true_eq, decide_eq_false_iff_not] at h) <;> conv => whnf))
  all_goals refine ⟨M, PH.Le.refl _, ?_, rfl⟩; simp_all [resV, metaOf, MR.v]
theorem metaOf_impl (p : Pl) (st d t : Int) (M : PH) : Ret 48 [p.v, I st, I d, I t] M (metaOf p st d t).v := by
  refine xcall_of_vc Try.func48 rfl _ Try.ntmps48 _ rfl (fun _ _ => Try.call48 _ _) rfl (fun w0 ρ0 => ?_)
  conv => whnf
  repeat' (first | (refine ⟨⟨[], rfl⟩, _, PH.Le.refl _, PH.Le.refl _, ?_⟩; conv => whnf) | (refine caseB_true ?_; conv => whnf) | (refine caseB_false ?_; conv => whnf) | ((with_reducible refine caseB_dec (fun h => ?_) (fun h => ?_)) <;> conv => whnf) | ((with_reducible refine caseB_ndec (fun h => ?_) (fun h => ?_)) <;> conv => whnf) | ((with_reducible refine caseB_not (fun h => ?_) (fun h => ?_)) <;> conv => whnf) | (refine Ret.go (storeLife_impl p st d _) ?_; conv => whnf) | (refine Ret.go (isTime_ret _ _) ?_; conv => whnf) | (refine caseB_intro (fun h => ?_) (fun h => ?_) <;> (try simp only [Bool.not_eq_true', Bool.not_eq_false', decide_eq_true_eq, decide_eq_false_iff_not] at h) <;> conv => whnf))
  all_goals refine ⟨M, PH.Le.refl _, ?_, rfl⟩; simp_all [resV, metaOf, MR.v, noteOf]
theorem eqMeta_ret (x : Mt) (M : PH) : Ret 85 [x.v, x.v] M (B true) := by
  refine xcall_of_vc Try.func85 rfl _ Try.ntmps85 _ rfl (fun _ _ => Try.call85 _ _) rfl (fun w0 ρ0 => ?_)
  conv => whnf
  repeat' (first | (refine ⟨⟨[], rfl⟩, _, PH.Le.refl _, PH.Le.refl _, ?_⟩; conv => whnf) | (refine caseB_true ?_; conv => whnf) | (refine caseB_false ?_; conv => whnf) | ((with_reducible refine caseB_dec (fun h => ?_) (fun h => ?_)) <;> conv => whnf) | ((with_reducible refine caseB_ndec (fun h => ?_) (fun h => ?_)) <;> conv => whnf) | ((with_reducible refine caseB_not (fun h => ?_) (fun h => ?_)) <;> conv => whnf) | (refine caseB_intro (fun h => ?_) (fun h => ?_) <;> (try simp only [Bool.not_eq_true', Bool.not_eq_false', decide_eq_true_eq, decide_eq_false_iff_not] at h) <;> conv => whnf))
  all_goals first | (refine ⟨M, PH.Le.refl _, ?_, rfl⟩; simp [resV, *]; done) | (refine ⟨M, PH.Le.refl _, ?_, rfl, rfl⟩; simp [resV, *]; done) | (exfalso; simp_all; done)
theorem eqMetaResult_ret (x : MR) (M : PH) : Ret 49 [x.v, x.v] M (B true) := by
  refine xcall_of_vc Try.func49 rfl _ Try.ntmps49 _ rfl (fun _ _ => Try.call49 _ _) rfl (fun w0 ρ0 => ?_)
  conv => whnf
  repeat' (first | (refine ⟨⟨[], rfl⟩, _, PH.Le.refl _, PH.Le.refl _, ?_⟩; conv => whnf) | (refine caseB_true ?_; conv => whnf) | (refine caseB_false ?_; conv => whnf) | ((with_reducible refine caseB_dec (fun h => ?_) (fun h => ?_)) <;> conv => whnf) | ((with_reducible refine caseB_ndec (fun h => ?_) (fun h => ?_)) <;> conv => whnf) | ((with_reducible refine caseB_not (fun h => ?_) (fun h => ?_)) <;> conv => whnf) | (refine Ret.go (eqMeta_ret x.m _) ?_; conv => whnf) | (refine caseB_intro (fun h => ?_) (fun h => ?_) <;> (try simp only [Bool.not_eq_true', Bool.not_eq_false', decide_eq_true_eq, decide_eq_false_iff_not] at h) <;> conv => whnf))
  all_goals first | (refine ⟨M, PH.Le.refl _, ?_, rfl⟩; simp [resV, *]; done) | (refine ⟨M, PH.Le.refl _, ?_, rfl, rfl⟩; simp [resV, *]; done) | (exfalso; simp_all; done)
theorem metaOf_law (p : Pl) (st d t : Int) (M : PH) : Ret 13 [p.v, I st, I d, I t] M (B true) := by
  refine xcall_of_vc Try.func13 rfl _ Try.ntmps13 _ rfl (fun _ _ => Try.call13 _ _) rfl (fun w0 ρ0 => ?_)
  conv => whnf
  repeat' (first | (refine ⟨⟨[], rfl⟩, _, PH.Le.refl _, PH.Le.refl _, ?_⟩; conv => whnf) | (refine caseB_true ?_; conv => whnf) | (refine caseB_false ?_; conv => whnf) | ((with_reducible refine caseB_dec (fun h => ?_) (fun h => ?_)) <;> conv => whnf) | ((with_reducible refine caseB_ndec (fun h => ?_) (fun h => ?_)) <;> conv => whnf) | ((with_reducible refine caseB_not (fun h => ?_) (fun h => ?_)) <;> conv => whnf) | (refine Ret.go (toPolicy_ret _ _) ?_; conv => whnf) | (refine Ret.go (metaOf_spec p st d t _) ?_; conv => whnf) | (refine Ret.go (metaOf_impl p st d t _) ?_; conv => whnf) | (refine Ret.go (eqMetaResult_ret (metaOf p st d t) _) ?_; conv => whnf) | (refine caseB_intro (fun h => ?_) (fun h => ?_) <;> (try simp only [Bool.not_eq_true', Bool.not_eq_false', decide_eq_true_eq, decide_eq_false_iff_not] at h) <;> conv => whnf))
  all_goals first | (refine ⟨M, PH.Le.refl _, ?_, rfl⟩; simp [resV, *]; done) | (refine ⟨M, PH.Le.refl _, ?_, rfl, rfl⟩; simp [resV, *]; done) | (exfalso; simp_all; done)
end Go.Proofs.Ytffddijdfeafnaa
