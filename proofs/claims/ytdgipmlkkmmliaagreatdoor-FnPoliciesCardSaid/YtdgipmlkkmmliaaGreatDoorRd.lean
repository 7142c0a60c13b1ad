/-
  CONTRACTS of dates: the date of seconds; two digits.
-/
import Derived.Test.YtdgipmlkkmmliaaGreatDoorRc
namespace Go.Proofs.YtdgipmlkkmmliaaGreatDoor
set_option maxRecDepth 100000
set_option linter.unusedSimpArgs false
set_option linter.unusedVariables false
open Go.Xe
theorem IsDate.facts {s : Int} {x : Dt} (h : IsDate s x) (h1 : s ≤ 253402300799) : (1970 ≤ x.y ∧ x.y ≤ 9999) ∧ (1 ≤ x.m ∧ x.m ≤ 12) ∧ (1 ≤ x.d ∧ x.d ≤ monD x.y x.m) ∧ s / 86400 = ahead x.y + monA x.y (x.m - 1).toNat + x.d - 1 ∧ ahead x.y ≤ s / 86400 ∧ s / 86400 < ahead (x.y + 1) := by
  obtain ⟨a, b, c⟩ := day_in h.ok
  have d := days_in h.ok
  rw [h.days] at d
  have e : daysF x.y x.m x.d = ahead x.y + monA x.y (x.m - 1).toNat + x.d - 1 := rfl
  rw [h.days] at e
  exact ⟨a, b, c, e, d.1, d.2⟩
theorem monA_step (y : Int) {m : Int} (hm : 1 ≤ m) : monA y m.toNat = monA y (m - 1).toNat + monD y m := by
  have e2 : m.toNat = (m - 1).toNat + 1 := by omega
  rw [e2]
  show _ + monD y _ = _
  have : (((m - 1).toNat + 1 : Nat) : Int) = m := by omega
  rw [this]
theorem dateAt_ret (s : Int) (h0 : 0 ≤ s) (h1 : s ≤ 253402300799) (x : Dt) (hx : IsDate s x) (M : PH) : Ret 198 [I s] M x.val := by
  obtain ⟨hy, hm, hd, he, hl, hu⟩ := hx.facts h1
  have eh := hx.h
  have em := hx.mi
  have es := hx.s
  have hal := ahead_lo hy.1
  have eq1 : IntKind.i64.wrap (s.tdiv 86400) = s / 86400 := by rw [td h0]; exact wi (by omega) (by omega)
  have eq2 : IntKind.i64.wrap ((s / 86400).tdiv 366) = s / 86400 / 366 := by rw [td (by omega)]; exact wi (by omega) (by omega)
  have eq3 : IntKind.i64.wrap (1970 + s / 86400 / 366) = 1970 + s / 86400 / 366 := wi (by omega) (by omega)
  have hz0 : 1970 + s / 86400 / 366 ≤ x.y := by
    rcases Int.lt_or_le x.y (1970 + s / 86400 / 366) with l | l
    · have := ahead_lt (by omega) l
      have := ahead_lo (y := 1970 + s / 86400 / 366) (by omega)
      omega
    · exact l
  generalize hn : s / 86400 = n at *
  refine xcall_of_vc Tryz.func198 rfl _ Tryz.ntmps198 _ rfl (fun _ _ => Tryz.call198 _ _) rfl (fun w0 ρ0 => ?_)
  conv => whnf
  repeat' (first | (refine ⟨⟨[], rfl⟩, _, PH.Le.refl _, PH.Le.refl _, ?_⟩; conv => whnf) | (refine And.intro (by decide) ?_; conv => whnf) | (refine caseB_true ?_; conv => whnf) | (refine caseB_false ?_; conv => whnf) | ((with_reducible refine caseB_dec (fun h => ?_) (fun h => ?_)) <;> conv => whnf) | ((with_reducible refine caseB_ndec (fun h => ?_) (fun h => ?_)) <;> conv => whnf) | ((with_reducible refine caseB_not (fun h => ?_) (fun h => ?_)) <;> conv => whnf) | (with_reducible refine @And.intro (guardVC _ _ _ _ _) _ ?_ ?_) <;> conv => whnf | (refine caseB_intro (fun h => ?_) (fun h => ?_) <;> (try simp only [Bool.not_eq_true', Bool.not_eq_false', decide_eq_true_eq, decide_eq_false_iff_not] at h) <;> conv => whnf))
  rw [eq1, eq2, eq3]
  refine loop_rule (fun z : Int => ⟨slots 47 [(0, .v (I s)), (2, .bp 0 0), (3, .v (I n)), (4, .v (I z))], [⟨170, [.v (I 0), .v (I 0), .v (I 0), .v (I 0), .v (I 0), .v (I 0)]⟩]⟩) (fun z M' => (1970 ≤ z ∧ z ≤ x.y) ∧ M' = M) (fun z => (x.y - z).toNat) (1970 + n / 366) ?_ ?_ ?_
  · exact ⟨by simp [slots, leT], ⟨[], rfl⟩, by simp, rfl, rfl⟩
  · exact ⟨⟨by omega, by omega⟩, rfl⟩
  rintro z M' ⟨⟨hz, hz2⟩, rfl⟩
  have hw : IntKind.i64.wrap (z + 1) = z + 1 := wi (by omega) (by omega)
  have hda := daysAhead_ret (z + 1) (by omega) (by omega)
  conv => whnf
  rw [hw]
  refine Ret.go (hda _) ?_
  conv => whnf
  refine caseB_dec (fun hb => ?_) (fun hb => ?_)
  · have hb : ahead (z + 1) ≤ n := hb
    have hzy : z ≠ x.y := by rintro rfl; omega
    conv => whnf
    exact ⟨z + 1, ⟨by simp only [slots, leT]; rw [hw]; simp [leT], ⟨[], rfl⟩, by simp, rfl, rfl⟩, ⟨⟨by omega, by omega⟩, rfl⟩, by omega⟩
  have hb : ¬ ahead (z + 1) ≤ n := hb
  have hzy : z = x.y := by
    rcases Int.lt_or_eq_of_le hz2 with l | l
    · have := ahead_lt (by omega) l
      omega
    · exact l
  subst hzy
  have hdy := daysAhead_ret x.y (by omega) (by omega)
  have hai := ahead_in hy.1 (by omega)
  have hw2 : IntKind.i64.wrap (n - ahead x.y) = n - ahead x.y := wi (by omega) (by omega)
  conv => whnf
  refine Ret.go (hdy _) ?_
  conv => whnf
  rw [hw2]
  refine loop_rule (fun k : Nat => ⟨slots 47 [(0, .v (I s)), (2, .bp 0 0), (3, .v (I (n - ahead x.y - monA x.y k))), (4, .v (I x.y)), (5, .v (I ((k + 1 : Nat) : Int)))], [⟨170, [.v (I 0), .v (I 0), .v (I 0), .v (I 0), .v (I 0), .v (I 0)]⟩]⟩) (fun k M1 => k ≤ (x.m - 1).toNat ∧ M1 = M') (fun k => (x.m - 1).toNat - k) 0 ?_ ?_ ?_
  · exact ⟨by simp [slots, leT, monA], ⟨[], rfl⟩, by simp, rfl, rfl⟩
  · exact ⟨Nat.zero_le _, rfl⟩
  rintro k M1 ⟨hk, rfl⟩
  have hma := monA_in x.y k
  have hmd := monD_in x.y ((k + 1 : Nat) : Int)
  have hst : monA x.y (k + 1) = monA x.y k + monD x.y ((k + 1 : Nat) : Int) := rfl
  have hms := monA_step x.y hm.1
  conv => whnf
  refine Ret.go (daysIn_ret _ _ _) ?_
  conv => whnf
  refine caseB_dec (fun hb => ?_) (fun hb => ?_)
  · have hb : monD x.y ((k + 1 : Nat) : Int) ≤ n - ahead x.y - monA x.y k := hb
    have hne : k ≠ (x.m - 1).toNat := by
      intro e
      have e2 : ((k + 1 : Nat) : Int) = x.m := by omega
      rw [e2] at hb
      rw [e] at hb
      omega
    have hw3 : IntKind.i64.wrap (((k + 1 : Nat) : Int) + 1) = ((k + 1 + 1 : Nat) : Int) := by rw [wi (by omega) (by omega)]; omega
    have hw4 : IntKind.i64.wrap (n - ahead x.y - monA x.y k - monD x.y ((k + 1 : Nat) : Int)) = n - ahead x.y - monA x.y (k + 1) := by rw [wi (by omega) (by omega)]; omega
    conv => whnf
    refine Ret.go (daysIn_ret _ _ _) ?_
    conv => whnf
    exact ⟨k + 1, ⟨by simp only [slots, leT]; rw [hw3, hw4]; simp [leT], ⟨[], rfl⟩, by simp, rfl, rfl⟩, ⟨by omega, rfl⟩, by omega⟩
  have hb : ¬ monD x.y ((k + 1 : Nat) : Int) ≤ n - ahead x.y - monA x.y k := hb
  have hkm : k = (x.m - 1).toNat := by
    rcases Nat.lt_or_eq_of_le hk with l | l
    · have := monA_mono x.y (k + 1) ((x.m - 1).toNat - (k + 1))
      have e3 : k + 1 + ((x.m - 1).toNat - (k + 1)) = (x.m - 1).toNat := by omega
      rw [e3] at this
      omega
    · exact l
  have hk1 : ((k + 1 : Nat) : Int) = x.m := by omega
  have w1 : IntKind.i64.wrap (n - ahead x.y - monA x.y k + 1) = x.d := by rw [wi (by omega) (by omega), hkm]; omega
  have q1 : IntKind.i64.wrap (s.tdiv 3600) = s / 3600 := by rw [td h0]; exact wi (by omega) (by omega)
  have q2 : IntKind.i64.wrap (s.tdiv 60) = s / 60 := by rw [td h0]; exact wi (by omega) (by omega)
  conv => whnf
  repeat' (first | (refine ⟨⟨[], rfl⟩, _, PH.Le.refl _, PH.Le.refl _, ?_⟩; conv => whnf) | (refine And.intro (by decide) ?_; conv => whnf) | (refine caseB_true ?_; conv => whnf) | (refine caseB_false ?_; conv => whnf) | ((with_reducible refine caseB_dec (fun h => ?_) (fun h => ?_)) <;> conv => whnf) | ((with_reducible refine caseB_ndec (fun h => ?_) (fun h => ?_)) <;> conv => whnf) | ((with_reducible refine caseB_not (fun h => ?_) (fun h => ?_)) <;> conv => whnf) | (with_reducible refine @And.intro (guardVC _ _ _ _ _) _ ?_ ?_) <;> conv => whnf | (refine caseB_intro (fun h => ?_) (fun h => ?_) <;> (try simp only [Bool.not_eq_true', Bool.not_eq_false', decide_eq_true_eq, decide_eq_false_iff_not] at h) <;> conv => whnf))
  refine ⟨_, PH.Le.refl _, ?_, rfl⟩
  show Value.agg _ = Value.agg _
  rw [w1, q1, q2, hk1, tm (show 0 ≤ s / 3600 by omega), tm (show 0 ≤ s / 60 by omega), tm h0, ← eh, ← em, ← es]
theorem l3At_ret (s : Int) (h0 : 0 ≤ s) (h1 : s ≤ 253402300799) (x : Dt) (hx : IsDate s x) (M : PH) : Ret 174 [I s] M x.val := by
  obtain ⟨hy, hm, hd, he, hl, hu⟩ := hx.facts h1
  have eh := hx.h
  have em := hx.mi
  have es := hx.s
  have hal := ahead_lo hy.1
  have eq1 : IntKind.i64.wrap (s.tdiv 86400) = s / 86400 := by rw [td h0]; exact wi (by omega) (by omega)
  have eq2 : s.tmod 86400 = s % 86400 := tm h0
  generalize hn : s / 86400 = n at *
  refine xcall_of_vc Tryz.func174 rfl _ Tryz.ntmps174 _ rfl (fun _ _ => Tryz.call174 _ _) rfl (fun w0 ρ0 => ?_)
  conv => whnf
  repeat' (first | (refine ⟨⟨[], rfl⟩, _, PH.Le.refl _, PH.Le.refl _, ?_⟩; conv => whnf) | (refine And.intro (by decide) ?_; conv => whnf) | (refine caseB_true ?_; conv => whnf) | (refine caseB_false ?_; conv => whnf) | ((with_reducible refine caseB_dec (fun h => ?_) (fun h => ?_)) <;> conv => whnf) | ((with_reducible refine caseB_ndec (fun h => ?_) (fun h => ?_)) <;> conv => whnf) | ((with_reducible refine caseB_not (fun h => ?_) (fun h => ?_)) <;> conv => whnf) | (with_reducible refine @And.intro (guardVC _ _ _ _ _) _ ?_ ?_) <;> conv => whnf | (refine caseB_intro (fun h => ?_) (fun h => ?_) <;> (try simp only [Bool.not_eq_true', Bool.not_eq_false', decide_eq_true_eq, decide_eq_false_iff_not] at h) <;> conv => whnf))
  rw [eq1, eq2]
  refine loop_rule (fun z : Int => ⟨slots 45 [(0, .v (I s)), (2, .bp 0 0), (3, .v (I (n - ahead z))), (4, .v (I (s % 86400))), (5, .v (I z))], [⟨170, [.v (I 0), .v (I 0), .v (I 0), .v (I 0), .v (I 0), .v (I 0)]⟩]⟩) (fun z M' => (1970 ≤ z ∧ z ≤ x.y) ∧ M' = M) (fun z => (x.y - z).toNat) 1970 ?_ ?_ ?_
  · have ea : ahead 1970 = 0 := by decide
    exact ⟨by simp [slots, leT, ea], ⟨[], rfl⟩, by simp, rfl, rfl⟩
  · exact ⟨⟨by omega, by omega⟩, rfl⟩
  rintro z M' ⟨⟨hz, hz2⟩, rfl⟩
  have hw : IntKind.i64.wrap (z + 1) = z + 1 := wi (by omega) (by omega)
  have hnx := ahead_next (y := z) (by omega)
  have hyd := yearD_in z
  have haz := ahead_in hz (by omega)
  have hw2 : IntKind.i64.wrap (n - ahead z - yearD z) = n - ahead (z + 1) := by rw [wi (by omega) (by omega)]; omega
  conv => whnf
  refine Ret.go (l3Year_ret _ _) ?_
  conv => whnf
  refine caseB_dec (fun hb => ?_) (fun hb => ?_)
  · have hb : yearD z ≤ n - ahead z := hb
    have hzy : z ≠ x.y := by rintro rfl; omega
    conv => whnf
    refine Ret.go (l3Year_ret _ _) ?_
    conv => whnf
    exact ⟨z + 1, ⟨by simp only [slots, leT]; rw [hw, hw2]; simp [leT], ⟨[], rfl⟩, by simp, rfl, rfl⟩, ⟨⟨by omega, by omega⟩, rfl⟩, by omega⟩
  have hb : ¬ yearD z ≤ n - ahead z := hb
  have hzy : z = x.y := by
    rcases Int.lt_or_eq_of_le hz2 with l | l
    · have := ahead_lt (by omega) l
      omega
    · exact l
  subst hzy
  conv => whnf
  refine loop_rule (fun k : Nat => ⟨slots 45 [(0, .v (I s)), (2, .bp 0 0), (3, .v (I (n - ahead x.y - monA x.y k))), (4, .v (I (s % 86400))), (5, .v (I x.y)), (6, .v (I ((k + 1 : Nat) : Int)))], [⟨170, [.v (I 0), .v (I 0), .v (I 0), .v (I 0), .v (I 0), .v (I 0)]⟩]⟩) (fun k M1 => k ≤ (x.m - 1).toNat ∧ M1 = M') (fun k => (x.m - 1).toNat - k) 0 ?_ ?_ ?_
  · exact ⟨by simp [slots, leT, monA], ⟨[], rfl⟩, by simp, rfl, rfl⟩
  · exact ⟨Nat.zero_le _, rfl⟩
  rintro k M1 ⟨hk, rfl⟩
  have hma := monA_in x.y k
  have hmd := monD_in x.y ((k + 1 : Nat) : Int)
  have hst : monA x.y (k + 1) = monA x.y k + monD x.y ((k + 1 : Nat) : Int) := rfl
  have hms := monA_step x.y hm.1
  conv => whnf
  refine Ret.go (l3Month_ret _ _ _) ?_
  conv => whnf
  refine caseB_dec (fun hb => ?_) (fun hb => ?_)
  · have hb : monD x.y ((k + 1 : Nat) : Int) ≤ n - ahead x.y - monA x.y k := hb
    have hne : k ≠ (x.m - 1).toNat := by
      intro e
      have e2 : ((k + 1 : Nat) : Int) = x.m := by omega
      rw [e2] at hb
      rw [e] at hb
      omega
    have hw3 : IntKind.i64.wrap (((k + 1 : Nat) : Int) + 1) = ((k + 1 + 1 : Nat) : Int) := by rw [wi (by omega) (by omega)]; omega
    have hw4 : IntKind.i64.wrap (n - ahead x.y - monA x.y k - monD x.y ((k + 1 : Nat) : Int)) = n - ahead x.y - monA x.y (k + 1) := by rw [wi (by omega) (by omega)]; omega
    conv => whnf
    refine Ret.go (l3Month_ret _ _ _) ?_
    conv => whnf
    exact ⟨k + 1, ⟨by simp only [slots, leT]; rw [hw3, hw4]; simp [leT], ⟨[], rfl⟩, by simp, rfl, rfl⟩, ⟨by omega, rfl⟩, by omega⟩
  have hb : ¬ monD x.y ((k + 1 : Nat) : Int) ≤ n - ahead x.y - monA x.y k := hb
  have hkm : k = (x.m - 1).toNat := by
    rcases Nat.lt_or_eq_of_le hk with l | l
    · have := monA_mono x.y (k + 1) ((x.m - 1).toNat - (k + 1))
      have e3 : k + 1 + ((x.m - 1).toNat - (k + 1)) = (x.m - 1).toNat := by omega
      rw [e3] at this
      omega
    · exact l
  have hk1 : ((k + 1 : Nat) : Int) = x.m := by omega
  have w1 : IntKind.i64.wrap (n - ahead x.y - monA x.y k + 1) = x.d := by rw [wi (by omega) (by omega), hkm]; omega
  have q1 : IntKind.i64.wrap ((s % 86400).tdiv 3600) = x.h := by rw [td (by omega), eh]; rw [wi (by omega) (by omega)]; omega
  have q2 : IntKind.i64.wrap ((s % 86400).tdiv 60) = s % 86400 / 60 := by rw [td (by omega)]; exact wi (by omega) (by omega)
  have q3 : (s % 86400 / 60) % 60 = x.mi := by rw [em]; omega
  have q4 : s % 86400 % 60 = x.s := by rw [es]; omega
  conv => whnf
  repeat' (first | (refine ⟨⟨[], rfl⟩, _, PH.Le.refl _, PH.Le.refl _, ?_⟩; conv => whnf) | (refine And.intro (by decide) ?_; conv => whnf) | (refine caseB_true ?_; conv => whnf) | (refine caseB_false ?_; conv => whnf) | ((with_reducible refine caseB_dec (fun h => ?_) (fun h => ?_)) <;> conv => whnf) | ((with_reducible refine caseB_ndec (fun h => ?_) (fun h => ?_)) <;> conv => whnf) | ((with_reducible refine caseB_not (fun h => ?_) (fun h => ?_)) <;> conv => whnf) | (with_reducible refine @And.intro (guardVC _ _ _ _ _) _ ?_ ?_) <;> conv => whnf | (refine caseB_intro (fun h => ?_) (fun h => ?_) <;> (try simp only [Bool.not_eq_true', Bool.not_eq_false', decide_eq_true_eq, decide_eq_false_iff_not] at h) <;> conv => whnf))
  refine ⟨_, PH.Le.refl _, ?_, rfl⟩
  show Value.agg _ = Value.agg _
  rw [w1, q1, q2, hk1, tm (show 0 ≤ s % 86400 / 60 by omega), tm (show 0 ≤ s % 86400 by omega), q3, q4]
end Go.Proofs.YtdgipmlkkmmliaaGreatDoor
