/-
  CONTRACTS of dates: leap years, months, days, seconds.
-/
import Derived.Test.YtdgipmlkkmmliaaGreatDoorRa
namespace Go.Proofs.YtdgipmlkkmmliaaGreatDoor
set_option maxRecDepth 100000
set_option linter.unusedSimpArgs false
set_option linter.unusedVariables false
open Go.Xe
theorem td {a b : Int} (h : 0 ≤ a) : a.tdiv b = a / b := Int.tdiv_eq_ediv_of_nonneg h
theorem tm {a b : Int} (h : 0 ≤ a) : a.tmod b = a % b := Int.tmod_eq_emod_of_nonneg h
theorem wi {x : Int} (h0 : -9223372036854775808 ≤ x) (h1 : x ≤ 9223372036854775807) : IntKind.i64.wrap x = x := wrap_id h0 h1
theorem isLeap_ret (y : Int) (M : PH) : Ret 216 [I y] M (B (leapY y)) := by
  refine xcall_of_vc Tryz.func216 rfl _ Tryz.ntmps216 _ rfl (fun _ _ => Tryz.call216 _ _) rfl (fun w0 ρ0 => ?_)
  conv => whnf
  repeat' (first | (refine ⟨⟨[], rfl⟩, _, PH.Le.refl _, PH.Le.refl _, ?_⟩; conv => whnf) | (refine And.intro (by decide) ?_; conv => whnf) | (refine caseB_true ?_; conv => whnf) | (refine caseB_false ?_; conv => whnf) | ((with_reducible refine caseB_dec (fun h => ?_) (fun h => ?_)) <;> conv => whnf) | ((with_reducible refine caseB_ndec (fun h => ?_) (fun h => ?_)) <;> conv => whnf) | ((with_reducible refine caseB_not (fun h => ?_) (fun h => ?_)) <;> conv => whnf) | (with_reducible refine @And.intro (guardVC _ _ _ _ _) _ ?_ ?_) <;> conv => whnf | (refine caseB_intro (fun h => ?_) (fun h => ?_) <;> (try simp only [Bool.not_eq_true', Bool.not_eq_false', decide_eq_true_eq, decide_eq_false_iff_not] at h) <;> conv => whnf))
  all_goals first | (refine ⟨M, PH.Le.refl _, ?_, rfl⟩; simp [resV, leapY, *]; done) | (refine ⟨M, PH.Le.refl _, ?_, rfl, rfl⟩; simp [resV, leapY, *]; done) | (exfalso; simp_all; done)
theorem l3Leap_ret (y : Int) (M : PH) : Ret 205 [I y] M (B (leapY y)) := by
  refine xcall_of_vc Tryz.func205 rfl _ Tryz.ntmps205 _ rfl (fun _ _ => Tryz.call205 _ _) rfl (fun w0 ρ0 => ?_)
  conv => whnf
  repeat' (first | (refine ⟨⟨[], rfl⟩, _, PH.Le.refl _, PH.Le.refl _, ?_⟩; conv => whnf) | (refine And.intro (by decide) ?_; conv => whnf) | (refine caseB_true ?_; conv => whnf) | (refine caseB_false ?_; conv => whnf) | ((with_reducible refine caseB_dec (fun h => ?_) (fun h => ?_)) <;> conv => whnf) | ((with_reducible refine caseB_ndec (fun h => ?_) (fun h => ?_)) <;> conv => whnf) | ((with_reducible refine caseB_not (fun h => ?_) (fun h => ?_)) <;> conv => whnf) | (with_reducible refine @And.intro (guardVC _ _ _ _ _) _ ?_ ?_) <;> conv => whnf | (refine caseB_intro (fun h => ?_) (fun h => ?_) <;> (try simp only [Bool.not_eq_true', Bool.not_eq_false', decide_eq_true_eq, decide_eq_false_iff_not] at h) <;> conv => whnf))
  all_goals first | (refine ⟨M, PH.Le.refl _, ?_, rfl⟩; simp [resV, leapY, *]; done) | (refine ⟨M, PH.Le.refl _, ?_, rfl, rfl⟩; simp [resV, leapY, *]; done) | (exfalso; simp_all; done)
theorem daysIn_ret (y m : Int) (M : PH) : Ret 208 [I y, I m] M (I (monD y m)) := by
  refine xcall_of_vc Tryz.func208 rfl _ Tryz.ntmps208 _ rfl (fun _ _ => Tryz.call208 _ _) rfl (fun w0 ρ0 => ?_)
  conv => whnf
  repeat' (first | (refine ⟨⟨[], rfl⟩, _, PH.Le.refl _, PH.Le.refl _, ?_⟩; conv => whnf) | (refine caseB_true ?_; conv => whnf) | (refine caseB_false ?_; conv => whnf) | ((with_reducible refine caseB_dec (fun h => ?_) (fun h => ?_)) <;> conv => whnf) | ((with_reducible refine caseB_ndec (fun h => ?_) (fun h => ?_)) <;> conv => whnf) | ((with_reducible refine caseB_not (fun h => ?_) (fun h => ?_)) <;> conv => whnf) | (refine Ret.go (isLeap_ret _ _) ?_; conv => whnf) | (with_reducible refine @And.intro (guardVC _ _ _ _ _) _ ?_ ?_) <;> conv => whnf | (refine caseB_intro (fun h => ?_) (fun h => ?_) <;> (try simp only [Bool.not_eq_true', Bool.not_eq_false', decide_eq_true_eq, decide_eq_false_iff_not] at h) <;> conv => whnf))
  all_goals first | (refine ⟨M, PH.Le.refl _, ?_, rfl⟩; simp [resV, monD, *]; done) | (refine ⟨M, PH.Le.refl _, ?_, rfl, rfl⟩; simp [resV, monD, *]; done) | (exfalso; simp_all; done)
theorem l3Month_ret (y m : Int) (M : PH) : Ret 193 [I y, I m] M (I (monD y m)) := by
  refine xcall_of_vc Tryz.func193 rfl _ Tryz.ntmps193 _ rfl (fun _ _ => Tryz.call193 _ _) rfl (fun w0 ρ0 => ?_)
  conv => whnf
  repeat' (first | (refine ⟨⟨[], rfl⟩, _, PH.Le.refl _, PH.Le.refl _, ?_⟩; conv => whnf) | (refine caseB_true ?_; conv => whnf) | (refine caseB_false ?_; conv => whnf) | ((with_reducible refine caseB_dec (fun h => ?_) (fun h => ?_)) <;> conv => whnf) | ((with_reducible refine caseB_ndec (fun h => ?_) (fun h => ?_)) <;> conv => whnf) | ((with_reducible refine caseB_not (fun h => ?_) (fun h => ?_)) <;> conv => whnf) | (refine Ret.go (l3Leap_ret _ _) ?_; conv => whnf) | (with_reducible refine @And.intro (guardVC _ _ _ _ _) _ ?_ ?_) <;> conv => whnf | (refine caseB_intro (fun h => ?_) (fun h => ?_) <;> (try simp only [Bool.not_eq_true', Bool.not_eq_false', decide_eq_true_eq, decide_eq_false_iff_not] at h) <;> conv => whnf))
  all_goals first | (refine ⟨M, PH.Le.refl _, ?_, rfl⟩; simp [resV, monD, *]; done) | (refine ⟨M, PH.Le.refl _, ?_, rfl, rfl⟩; simp [resV, monD, *]; done) | (exfalso; simp_all; done)
theorem isDay_ret (y m d : Int) (M : PH) : Ret 196 [I y, I m, I d] M (B (dayOk y m d)) := by
  refine xcall_of_vc Tryz.func196 rfl _ Tryz.ntmps196 _ rfl (fun _ _ => Tryz.call196 _ _) rfl (fun w0 ρ0 => ?_)
  conv => whnf
  repeat' (first | (refine ⟨⟨[], rfl⟩, _, PH.Le.refl _, PH.Le.refl _, ?_⟩; conv => whnf) | (refine caseB_true ?_; conv => whnf) | (refine caseB_false ?_; conv => whnf) | ((with_reducible refine caseB_dec (fun h => ?_) (fun h => ?_)) <;> conv => whnf) | ((with_reducible refine caseB_ndec (fun h => ?_) (fun h => ?_)) <;> conv => whnf) | ((with_reducible refine caseB_not (fun h => ?_) (fun h => ?_)) <;> conv => whnf) | (refine Ret.go (within_ret _ _ _ _) ?_; conv => whnf) | (refine Ret.go (daysIn_ret _ _ _) ?_; conv => whnf) | (with_reducible refine @And.intro (guardVC _ _ _ _ _) _ ?_ ?_) <;> conv => whnf | (refine caseB_intro (fun h => ?_) (fun h => ?_) <;> (try simp only [Bool.not_eq_true', Bool.not_eq_false', decide_eq_true_eq, decide_eq_false_iff_not] at h) <;> conv => whnf))
  all_goals first | (refine ⟨M, PH.Le.refl _, ?_, rfl⟩; simp [resV, dayOk, *]; done) | (refine ⟨M, PH.Le.refl _, ?_, rfl, rfl⟩; simp [resV, dayOk, *]; done) | (exfalso; simp_all; done)
theorem l3Day_ret (y m d : Int) (M : PH) : Ret 173 [I y, I m, I d] M (B (dayOk y m d)) := by
  refine xcall_of_vc Tryz.func173 rfl _ Tryz.ntmps173 _ rfl (fun _ _ => Tryz.call173 _ _) rfl (fun w0 ρ0 => ?_)
  conv => whnf
  repeat' (first | (refine ⟨⟨[], rfl⟩, _, PH.Le.refl _, PH.Le.refl _, ?_⟩; conv => whnf) | (refine caseB_true ?_; conv => whnf) | (refine caseB_false ?_; conv => whnf) | ((with_reducible refine caseB_dec (fun h => ?_) (fun h => ?_)) <;> conv => whnf) | ((with_reducible refine caseB_ndec (fun h => ?_) (fun h => ?_)) <;> conv => whnf) | ((with_reducible refine caseB_not (fun h => ?_) (fun h => ?_)) <;> conv => whnf) | (refine Ret.go (l1In_ret _ _ _ _) ?_; conv => whnf) | (refine Ret.go (l3Month_ret _ _ _) ?_; conv => whnf) | (with_reducible refine @And.intro (guardVC _ _ _ _ _) _ ?_ ?_) <;> conv => whnf | (refine caseB_intro (fun h => ?_) (fun h => ?_) <;> (try simp only [Bool.not_eq_true', Bool.not_eq_false', decide_eq_true_eq, decide_eq_false_iff_not] at h) <;> conv => whnf))
  all_goals first | (refine ⟨M, PH.Le.refl _, ?_, rfl⟩; simp [resV, dayOk, *]; done) | (refine ⟨M, PH.Le.refl _, ?_, rfl, rfl⟩; simp [resV, dayOk, *]; done) | (exfalso; simp_all; done)
def dtC (x : Dt) : Int := if dtOk x = true then 0 else 3
theorem dateFault_impl (x : Dt) (M : PH) : Ret 179 [x.val] M (I (dtC x)) := by
  refine xcall_of_vc Tryz.func179 rfl _ Tryz.ntmps179 _ rfl (fun _ _ => Tryz.call179 _ _) rfl (fun w0 ρ0 => ?_)
  conv => whnf
  repeat' (first | (refine ⟨⟨[], rfl⟩, _, PH.Le.refl _, PH.Le.refl _, ?_⟩; conv => whnf) | (refine caseB_true ?_; conv => whnf) | (refine caseB_false ?_; conv => whnf) | ((with_reducible refine caseB_dec (fun h => ?_) (fun h => ?_)) <;> conv => whnf) | ((with_reducible refine caseB_ndec (fun h => ?_) (fun h => ?_)) <;> conv => whnf) | ((with_reducible refine caseB_not (fun h => ?_) (fun h => ?_)) <;> conv => whnf) | (refine Ret.go (within_ret _ _ _ _) ?_; conv => whnf) | (refine Ret.go (isDay_ret _ _ _ _) ?_; conv => whnf) | (with_reducible refine @And.intro (guardVC _ _ _ _ _) _ ?_ ?_) <;> conv => whnf | (refine caseB_intro (fun h => ?_) (fun h => ?_) <;> (try simp only [Bool.not_eq_true', Bool.not_eq_false', decide_eq_true_eq, decide_eq_false_iff_not] at h) <;> conv => whnf))
  all_goals first | (refine ⟨M, PH.Le.refl _, ?_, rfl⟩; simp [resV, dtC, dtOk, *]; done) | (refine ⟨M, PH.Le.refl _, ?_, rfl, rfl⟩; simp [resV, dtC, dtOk, *]; done) | (exfalso; simp_all; done)
theorem dateFault_spec (x : Dt) (M : PH) : Ret 152 [x.val] M (I (dtC x)) := by
  refine xcall_of_vc Tryz.func152 rfl _ Tryz.ntmps152 _ rfl (fun _ _ => Tryz.call152 _ _) rfl (fun w0 ρ0 => ?_)
  conv => whnf
  repeat' (first | (refine ⟨⟨[], rfl⟩, _, PH.Le.refl _, PH.Le.refl _, ?_⟩; conv => whnf) | (refine caseB_true ?_; conv => whnf) | (refine caseB_false ?_; conv => whnf) | ((with_reducible refine caseB_dec (fun h => ?_) (fun h => ?_)) <;> conv => whnf) | ((with_reducible refine caseB_ndec (fun h => ?_) (fun h => ?_)) <;> conv => whnf) | ((with_reducible refine caseB_not (fun h => ?_) (fun h => ?_)) <;> conv => whnf) | (refine Ret.go (l1In_ret _ _ _ _) ?_; conv => whnf) | (refine Ret.go (l3Day_ret _ _ _ _) ?_; conv => whnf) | (with_reducible refine @And.intro (guardVC _ _ _ _ _) _ ?_ ?_) <;> conv => whnf | (refine caseB_intro (fun h => ?_) (fun h => ?_) <;> (try simp only [Bool.not_eq_true', Bool.not_eq_false', decide_eq_true_eq, decide_eq_false_iff_not] at h) <;> conv => whnf))
  all_goals first | (refine ⟨M, PH.Le.refl _, ?_, rfl⟩; simp [resV, dtC, dtOk, *]; done) | (refine ⟨M, PH.Le.refl _, ?_, rfl, rfl⟩; simp [resV, dtC, dtOk, *]; done) | (exfalso; simp_all; done)
theorem l3Year_ret (y : Int) (M : PH) : Ret 194 [I y] M (I (yearD y)) := by
  refine xcall_of_vc Tryz.func194 rfl _ Tryz.ntmps194 _ rfl (fun _ _ => Tryz.call194 _ _) rfl (fun w0 ρ0 => ?_)
  conv => whnf
  repeat' (first | (refine ⟨⟨[], rfl⟩, _, PH.Le.refl _, PH.Le.refl _, ?_⟩; conv => whnf) | (refine caseB_true ?_; conv => whnf) | (refine caseB_false ?_; conv => whnf) | ((with_reducible refine caseB_dec (fun h => ?_) (fun h => ?_)) <;> conv => whnf) | ((with_reducible refine caseB_ndec (fun h => ?_) (fun h => ?_)) <;> conv => whnf) | ((with_reducible refine caseB_not (fun h => ?_) (fun h => ?_)) <;> conv => whnf) | (refine Ret.go (l3Leap_ret _ _) ?_; conv => whnf) | (with_reducible refine @And.intro (guardVC _ _ _ _ _) _ ?_ ?_) <;> conv => whnf | (refine caseB_intro (fun h => ?_) (fun h => ?_) <;> (try simp only [Bool.not_eq_true', Bool.not_eq_false', decide_eq_true_eq, decide_eq_false_iff_not] at h) <;> conv => whnf))
  all_goals first | (refine ⟨M, PH.Le.refl _, ?_, rfl⟩; simp [resV, yearD, *]; done) | (refine ⟨M, PH.Le.refl _, ?_, rfl, rfl⟩; simp [resV, yearD, *]; done) | (exfalso; simp_all; done)
theorem daysAhead_ret (y : Int) (h0 : 1 ≤ y) (h1 : y ≤ 100000) (M : PH) : Ret 209 [I y] M (I (ahead y)) := by
  refine xcall_of_vc Tryz.func209 rfl _ Tryz.ntmps209 _ rfl (fun _ _ => Tryz.call209 _ _) rfl (fun w0 ρ0 => ?_)
  conv => whnf
  repeat' (first | (refine ⟨⟨[], rfl⟩, _, PH.Le.refl _, PH.Le.refl _, ?_⟩; conv => whnf) | (refine And.intro (by decide) ?_; conv => whnf) | (refine caseB_true ?_; conv => whnf) | (refine caseB_false ?_; conv => whnf) | ((with_reducible refine caseB_dec (fun h => ?_) (fun h => ?_)) <;> conv => whnf) | ((with_reducible refine caseB_ndec (fun h => ?_) (fun h => ?_)) <;> conv => whnf) | ((with_reducible refine caseB_not (fun h => ?_) (fun h => ?_)) <;> conv => whnf) | (with_reducible refine @And.intro (guardVC _ _ _ _ _) _ ?_ ?_) <;> conv => whnf | (refine caseB_intro (fun h => ?_) (fun h => ?_) <;> (try simp only [Bool.not_eq_true', Bool.not_eq_false', decide_eq_true_eq, decide_eq_false_iff_not] at h) <;> conv => whnf))
  have e1 : IntKind.i64.wrap (y - 1) = y - 1 := wi (by omega) (by omega)
  have e2 : IntKind.i64.wrap (y - 1970) = y - 1970 := wi (by omega) (by omega)
  have e3 : IntKind.i64.wrap (365 * (y - 1970)) = 365 * (y - 1970) := wi (by omega) (by omega)
  have q : ∀ b : Int, 4 ≤ b → IntKind.i64.wrap ((y - 1).tdiv b) = (y - 1) / b ∧ 0 ≤ (y - 1) / b ∧ (y - 1) / b ≤ 100000 := fun b hb => by
    have h2 : 0 ≤ (y - 1) / b := Int.ediv_nonneg (by omega) (by omega)
    have h3 : (y - 1) / b ≤ y - 1 := Int.ediv_le_self _ (by omega)
    rw [td (by omega)]
    exact ⟨wi (by omega) (by omega), h2, by omega⟩
  obtain ⟨q4, a4, b4⟩ := q 4 (by omega)
  obtain ⟨q100, a100, b100⟩ := q 100 (by omega)
  obtain ⟨q400, a400, b400⟩ := q 400 (by omega)
  refine ⟨_, PH.Le.refl _, ?_, rfl⟩
  show I _ = I _
  rw [e1, e2, e3, q4, q100, q400]
  have e4 : IntKind.i64.wrap (365 * (y - 1970) + (y - 1) / 4) = 365 * (y - 1970) + (y - 1) / 4 := wi (by omega) (by omega)
  rw [e4]
  have e5 : IntKind.i64.wrap (365 * (y - 1970) + (y - 1) / 4 - (y - 1) / 100) = 365 * (y - 1970) + (y - 1) / 4 - (y - 1) / 100 := wi (by omega) (by omega)
  rw [e5]
  have e6 : IntKind.i64.wrap (365 * (y - 1970) + (y - 1) / 4 - (y - 1) / 100 + (y - 1) / 400) = 365 * (y - 1970) + (y - 1) / 4 - (y - 1) / 100 + (y - 1) / 400 := wi (by omega) (by omega)
  rw [e6]
  have e7 : IntKind.i64.wrap (365 * (y - 1970) + (y - 1) / 4 - (y - 1) / 100 + (y - 1) / 400 - 477) = 365 * (y - 1970) + (y - 1) / 4 - (y - 1) / 100 + (y - 1) / 400 - 477 := wi (by omega) (by omega)
  rw [e7]
  rfl
theorem monA_in (y : Int) (k : Nat) : 28 * (k : Int) ≤ monA y k ∧ monA y k ≤ 31 * k := by
  induction k with
  | zero => exact ⟨Int.le_refl _, Int.le_refl _⟩
  | succ k ih =>
    have e : monA y (k + 1) = monA y k + monD y ((k + 1 : Nat) : Int) := rfl
    have := monD_in y ((k + 1 : Nat) : Int)
    omega
theorem ahead_in {y : Int} (h : 1970 ≤ y) (h1 : y ≤ 10000) : 0 ≤ ahead y ∧ ahead y ≤ 4000000 := by
  have := ahead_lo h
  omega
theorem daysOf_ret (y m d : Int) (h : dayOk y m d = true) (M : PH) : Ret 197 [I y, I m, I d] M (I (daysF y m d)) := by
  obtain ⟨h1, h2, h3⟩ := day_in h
  have ha := ahead_in (y := y) (by omega) (by omega)
  have hd31 := (monD_in y m).2
  refine xcall_of_vc Tryz.func197 rfl _ Tryz.ntmps197 _ rfl (fun _ _ => Tryz.call197 _ _) rfl (fun w0 ρ0 => ?_)
  conv => whnf
  refine Ret.go (daysAhead_ret y (by omega) (by omega) _) ?_
  conv => whnf
  refine loop_rule (fun k : Nat => ⟨slots 25 [(0, .v (I y)), (1, .v (I m)), (2, .v (I d)), (7, .v (I (ahead y + monA y k))), (8, .v (I ((k + 1 : Nat) : Int)))], []⟩) (fun k M' => k ≤ (m - 1).toNat ∧ M' = M) (fun k => (m - 1).toNat - k) 0 ?_ ?_ ?_
  · exact ⟨by simp [slots, leT, monA], ⟨[], rfl⟩, Nat.zero_le _, rfl, rfl⟩
  · exact ⟨Nat.zero_le _, rfl⟩
  rintro k M' ⟨hk, rfl⟩
  have hm := monA_in y k
  conv => whnf
  refine caseB_dec (fun hb => ?_) (fun hb => ?_)
  · have hb : ((k + 1 : Nat) : Int) < m := hb
    have hw : IntKind.i64.wrap (((k + 1 : Nat) : Int) + 1) = ((k + 1 + 1 : Nat) : Int) := by rw [wi (by omega) (by omega)]; omega
    have hm1 := monD_in y ((k + 1 : Nat) : Int)
    have hs : IntKind.i64.wrap (ahead y + monA y k + monD y ((k + 1 : Nat) : Int)) = ahead y + monA y (k + 1) := by
      rw [wi (by omega) (by omega)]
      have e : monA y (k + 1) = monA y k + monD y ((k + 1 : Nat) : Int) := rfl
      omega
    conv => whnf
    refine Ret.go (daysIn_ret _ _ _) ?_
    conv => whnf
    exact ⟨k + 1, ⟨by simp only [slots, leT]; rw [hw, hs]; simp [leT], ⟨[], rfl⟩, Nat.zero_le _, rfl, rfl⟩, ⟨by omega, rfl⟩, by omega⟩
  · have hb : ¬ ((k + 1 : Nat) : Int) < m := hb
    have e : k = (m - 1).toNat := by omega
    conv => whnf
    refine ⟨_, PH.Le.refl _, ?_, rfl⟩
    show I _ = I _
    have e1 : IntKind.i64.wrap (ahead y + monA y k + d) = ahead y + monA y k + d := wi (by omega) (by omega)
    rw [e1]
    have e2 : IntKind.i64.wrap (ahead y + monA y k + d - 1) = ahead y + monA y k + d - 1 := wi (by omega) (by omega)
    rw [e2, e]
    rfl
theorem l3Days_ret (y m d : Int) (h : dayOk y m d = true) (M : PH) : Ret 176 [I y, I m, I d] M (I (daysF y m d)) := by
  obtain ⟨h1, h2, h3⟩ := day_in h
  have hd31 := (monD_in y m).2
  have e0 : IntKind.i64.wrap (d - 1) = d - 1 := wi (by omega) (by omega)
  refine xcall_of_vc Tryz.func176 rfl _ Tryz.ntmps176 _ rfl (fun _ _ => Tryz.call176 _ _) rfl (fun w0 ρ0 => ?_)
  conv => whnf
  refine loop_rule (fun z : Int => ⟨slots 32 [(0, .v (I y)), (1, .v (I m)), (2, .v (I d)), (7, .v (I (d - 1 + ahead z))), (8, .v (I z))], []⟩) (fun z M' => (1970 ≤ z ∧ z ≤ y) ∧ M' = M) (fun z => (y - z).toNat) 1970 ?_ ?_ ?_
  · have ea : ahead 1970 = 0 := by decide
    exact ⟨by simp [slots, leT, e0, ea], ⟨[], rfl⟩, Nat.zero_le _, rfl, rfl⟩
  · exact ⟨⟨by omega, by omega⟩, rfl⟩
  rintro z M' ⟨⟨hz, hz2⟩, rfl⟩
  have ha := ahead_in hz (by omega)
  conv => whnf
  refine caseB_dec (fun hb => ?_) (fun hb => ?_)
  · have hb : z < y := hb
    have hw : IntKind.i64.wrap (z + 1) = z + 1 := wi (by omega) (by omega)
    have hy := yearD_in z
    have hs : IntKind.i64.wrap (d - 1 + ahead z + yearD z) = d - 1 + ahead (z + 1) := by
      rw [wi (by omega) (by omega), ahead_next (by omega)]
      omega
    conv => whnf
    refine Ret.go (l3Year_ret _ _) ?_
    conv => whnf
    exact ⟨z + 1, ⟨by simp only [slots, leT]; rw [hw, hs]; simp [leT], ⟨[], rfl⟩, Nat.zero_le _, rfl, rfl⟩, ⟨⟨by omega, by omega⟩, rfl⟩, by omega⟩
  have hb : ¬ z < y := hb
  have e : z = y := by omega
  subst e
  conv => whnf
  refine loop_rule (fun k : Nat => ⟨slots 32 [(0, .v (I z)), (1, .v (I m)), (2, .v (I d)), (7, .v (I (d - 1 + ahead z + monA z k))), (9, .v (I ((k + 1 : Nat) : Int)))], []⟩) (fun k M1 => k ≤ (m - 1).toNat ∧ M1 = M') (fun k => (m - 1).toNat - k) 0 ?_ ?_ ?_
  · exact ⟨by simp [slots, leT, monA], ⟨[], rfl⟩, Nat.zero_le _, rfl, rfl⟩
  · exact ⟨Nat.zero_le _, rfl⟩
  rintro k M1 ⟨hk, rfl⟩
  have hm := monA_in z k
  conv => whnf
  refine caseB_dec (fun hb => ?_) (fun hb => ?_)
  · have hb : ((k + 1 : Nat) : Int) < m := hb
    have hw : IntKind.i64.wrap (((k + 1 : Nat) : Int) + 1) = ((k + 1 + 1 : Nat) : Int) := by rw [wi (by omega) (by omega)]; omega
    have hm1 := monD_in z ((k + 1 : Nat) : Int)
    have hs : IntKind.i64.wrap (d - 1 + ahead z + monA z k + monD z ((k + 1 : Nat) : Int)) = d - 1 + ahead z + monA z (k + 1) := by
      rw [wi (by omega) (by omega)]
      have e : monA z (k + 1) = monA z k + monD z ((k + 1 : Nat) : Int) := rfl
      omega
    conv => whnf
    refine Ret.go (l3Month_ret _ _ _) ?_
    conv => whnf
    exact ⟨k + 1, ⟨by simp only [slots, leT]; rw [hw, hs]; simp [leT], ⟨[], rfl⟩, Nat.zero_le _, rfl, rfl⟩, ⟨by omega, rfl⟩, by omega⟩
  · have hb : ¬ ((k + 1 : Nat) : Int) < m := hb
    have e : k = (m - 1).toNat := by omega
    conv => whnf
    refine ⟨_, PH.Le.refl _, ?_, rfl⟩
    show I _ = I _
    rw [e]
    unfold daysF
    congr 1
    omega
theorem dt_in {x : Dt} (h : dtOk x = true) : dayOk x.y x.m x.d = true ∧ (0 ≤ x.h ∧ x.h ≤ 23) ∧ (0 ≤ x.mi ∧ x.mi ≤ 59) ∧ (0 ≤ x.s ∧ x.s ≤ 59) := by
  unfold dtOk at h
  simp only [Bool.and_eq_true, inB_iff] at h
  exact h
theorem secondsOf_ret (x : Dt) (h : dtOk x = true) (M : PH) : Ret 180 [x.val] M (I (secsF x)) := by
  obtain ⟨h1, h2, h3, h4⟩ := dt_in h
  have hb := days_bound h1
  refine xcall_of_vc Tryz.func180 rfl _ Tryz.ntmps180 _ rfl (fun _ _ => Tryz.call180 _ _) rfl (fun w0 ρ0 => ?_)
  conv => whnf
  repeat' (first | (refine ⟨⟨[], rfl⟩, _, PH.Le.refl _, PH.Le.refl _, ?_⟩; conv => whnf) | (refine caseB_true ?_; conv => whnf) | (refine caseB_false ?_; conv => whnf) | ((with_reducible refine caseB_dec (fun h => ?_) (fun h => ?_)) <;> conv => whnf) | ((with_reducible refine caseB_ndec (fun h => ?_) (fun h => ?_)) <;> conv => whnf) | ((with_reducible refine caseB_not (fun h => ?_) (fun h => ?_)) <;> conv => whnf) | (refine draw_rule (.light 0 <| .light 1 <| .light 2 <| .light 3 <| .light 4 <| .light 5 <| .light 8 <| .light 9 <| .light 12 <| .light 13 <| .light 16 <| .light 17 <| .alt 6 false (.light 7 <| .light 10 <| .light 11 <| .light 14 <| .light 15 <| .light 18 <| .light 19 <| .done) .nil) (by decide +kernel) ?_; conv => whnf) | (refine Ret.go (daysOf_ret _ _ _ h1 _) ?_; conv => whnf) | (with_reducible refine @And.intro (guardVC _ _ _ _ _) _ ?_ ?_) <;> conv => whnf | (refine caseB_intro (fun h => ?_) (fun h => ?_) <;> (try simp only [Bool.not_eq_true', Bool.not_eq_false', decide_eq_true_eq, decide_eq_false_iff_not] at h) <;> conv => whnf))
  refine ⟨_, PH.Le.refl _, ?_, rfl⟩
  show I _ = I _
  unfold secsF
  generalize daysF x.y x.m x.d = n at *
  have e1 : IntKind.i64.wrap (n * 24) = n * 24 := wi (by omega) (by omega)
  have e2 : IntKind.i64.wrap (n * 24 + x.h) = n * 24 + x.h := wi (by omega) (by omega)
  have e3 : IntKind.i64.wrap ((n * 24 + x.h) * 60) = (n * 24 + x.h) * 60 := wi (by omega) (by omega)
  have e4 : IntKind.i64.wrap ((n * 24 + x.h) * 60 + x.mi) = (n * 24 + x.h) * 60 + x.mi := wi (by omega) (by omega)
  have e5 : IntKind.i64.wrap (((n * 24 + x.h) * 60 + x.mi) * 60) = ((n * 24 + x.h) * 60 + x.mi) * 60 := wi (by omega) (by omega)
  have e6 : IntKind.i64.wrap (((n * 24 + x.h) * 60 + x.mi) * 60 + x.s) = ((n * 24 + x.h) * 60 + x.mi) * 60 + x.s := wi (by omega) (by omega)
  rw [e1, e2, e3, e4, e5, e6]
theorem l3Seconds_ret (x : Dt) (h : dtOk x = true) (M : PH) : Ret 154 [x.val] M (I (secsF x)) := by
  obtain ⟨h1, h2, h3, h4⟩ := dt_in h
  have hb := days_bound h1
  refine xcall_of_vc Tryz.func154 rfl _ Tryz.ntmps154 _ rfl (fun _ _ => Tryz.call154 _ _) rfl (fun w0 ρ0 => ?_)
  conv => whnf
  repeat' (first | (refine ⟨⟨[], rfl⟩, _, PH.Le.refl _, PH.Le.refl _, ?_⟩; conv => whnf) | (refine caseB_true ?_; conv => whnf) | (refine caseB_false ?_; conv => whnf) | ((with_reducible refine caseB_dec (fun h => ?_) (fun h => ?_)) <;> conv => whnf) | ((with_reducible refine caseB_ndec (fun h => ?_) (fun h => ?_)) <;> conv => whnf) | ((with_reducible refine caseB_not (fun h => ?_) (fun h => ?_)) <;> conv => whnf) | (refine draw_rule (.light 0 <| .light 1 <| .light 2 <| .light 3 <| .light 4 <| .light 5 <| .light 8 <| .light 9 <| .light 10 <| .light 12 <| .light 13 <| .light 14 <| .light 16 <| .light 17 <| .alt 6 false (.light 7 <| .light 11 <| .light 15 <| .light 18 <| .light 19 <| .done) .nil) (by decide +kernel) ?_; conv => whnf) | (refine Ret.go (l3Days_ret _ _ _ h1 _) ?_; conv => whnf) | (with_reducible refine @And.intro (guardVC _ _ _ _ _) _ ?_ ?_) <;> conv => whnf | (refine caseB_intro (fun h => ?_) (fun h => ?_) <;> (try simp only [Bool.not_eq_true', Bool.not_eq_false', decide_eq_true_eq, decide_eq_false_iff_not] at h) <;> conv => whnf))
  refine ⟨_, PH.Le.refl _, ?_, rfl⟩
  show I _ = I _
  unfold secsF
  generalize daysF x.y x.m x.d = n at *
  have e1 : IntKind.i64.wrap (n * 86400) = n * 86400 := wi (by omega) (by omega)
  have e2 : IntKind.i64.wrap (x.h * 3600) = x.h * 3600 := wi (by omega) (by omega)
  have e3 : IntKind.i64.wrap (n * 86400 + x.h * 3600) = n * 86400 + x.h * 3600 := wi (by omega) (by omega)
  have e4 : IntKind.i64.wrap (x.mi * 60) = x.mi * 60 := wi (by omega) (by omega)
  have e5 : IntKind.i64.wrap (n * 86400 + x.h * 3600 + x.mi * 60) = n * 86400 + x.h * 3600 + x.mi * 60 := wi (by omega) (by omega)
  have e6 : IntKind.i64.wrap (n * 86400 + x.h * 3600 + x.mi * 60 + x.s) = n * 86400 + x.h * 3600 + x.mi * 60 + x.s := wi (by omega) (by omega)
  rw [e1, e2, e3, e4, e5, e6]
  congr 1
  omega
end Go.Proofs.YtdgipmlkkmmliaaGreatDoor
