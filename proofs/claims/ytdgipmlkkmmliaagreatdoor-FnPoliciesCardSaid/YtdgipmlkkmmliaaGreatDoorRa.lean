/-
  DATES: days and seconds, the text of a date; plain facts, no program in them.
-/
import Derived.Test.YtdgipmlkkmmliaaGreatDoorTe
import Derived.Lib.ParseIntB
namespace Go.Proofs.YtdgipmlkkmmliaaGreatDoor
set_option maxRecDepth 100000
set_option linter.unusedSimpArgs false
set_option linter.unusedVariables false
open Go.Xe
def leapY (y : Int) : Bool := decide (y.tmod 4 = 0) && (!decide (y.tmod 100 = 0) || decide (y.tmod 400 = 0))
def monD (y m : Int) : Int := if m = 2 then (if leapY y = true then 29 else 28) else if m = 4 ∨ m = 6 ∨ m = 9 ∨ m = 11 then 30 else 31
def yearD (y : Int) : Int := if leapY y = true then 366 else 365
def ahead (y : Int) : Int := 365 * (y - 1970) + (y - 1) / 4 - (y - 1) / 100 + (y - 1) / 400 - 477
theorem leap_iff {y : Int} (h : 0 ≤ y) : leapY y = true ↔ (y % 4 = 0 ∧ (y % 100 ≠ 0 ∨ y % 400 = 0)) := by
  unfold leapY
  rw [Int.tmod_eq_emod_of_nonneg h, Int.tmod_eq_emod_of_nonneg h, Int.tmod_eq_emod_of_nonneg h]
  simp
theorem ahead_next {y : Int} (h : 1 ≤ y) : ahead (y + 1) = ahead y + yearD y := by
  unfold yearD ahead
  have hl := leap_iff (y := y) (by omega)
  split
  · rename_i h1
    have := hl.1 h1
    omega
  · rename_i h1
    have : ¬ (y % 4 = 0 ∧ (y % 100 ≠ 0 ∨ y % 400 = 0)) := fun e => h1 (hl.2 e)
    omega
theorem yearD_in (y : Int) : 365 ≤ yearD y ∧ yearD y ≤ 366 := by unfold yearD; split <;> omega
theorem monD_in (y m : Int) : 28 ≤ monD y m ∧ monD y m ≤ 31 := by unfold monD; split <;> (try split) <;> omega
theorem ahead_mono {y : Int} (h : 1 ≤ y) (k : Nat) : ahead y + 365 * k ≤ ahead (y + k) := by
  induction k with
  | zero => simp
  | succ k ih =>
    have e : y + ((k + 1 : Nat) : Int) = (y + k) + 1 := by omega
    have h1 := ahead_next (y := y + k) (by omega)
    have h2 := (yearD_in (y + k)).1
    rw [e]
    omega
theorem ahead_lt {y z : Int} (h : 1 ≤ y) (hz : y < z) : ahead (y + 1) ≤ ahead z := by
  have := ahead_mono (y := y + 1) (by omega) (z - (y + 1)).toNat
  have e : y + 1 + ((z - (y + 1)).toNat : Int) = z := by omega
  rw [e] at this
  omega
theorem ahead_lo {y : Int} (h : 1970 ≤ y) : 365 * (y - 1970) ≤ ahead y ∧ ahead y ≤ 366 * (y - 1970) := by unfold ahead; omega
/-- The days of the first k months. -/
def monA (y : Int) : Nat → Int
  | 0 => 0
  | k + 1 => monA y k + monD y ((k + 1 : Nat) : Int)
theorem monA_12 (y : Int) : monA y 12 = yearD y := by
  unfold yearD
  split <;> rename_i h
  · simp [monA, monD, h]
  · have h : leapY y = false := by simpa using h
    simp [monA, monD, h]
theorem monA_mono (y : Int) (a k : Nat) : monA y a + 28 * k ≤ monA y (a + k) := by
  induction k with
  | zero => simp
  | succ k ih =>
    have e : monA y (a + (k + 1)) = monA y (a + k) + monD y ((a + k + 1 : Nat) : Int) := rfl
    rw [e]
    have := (monD_in y ((a + k + 1 : Nat) : Int)).1
    omega
structure Dt where
  y : Int
  m : Int
  d : Int
  h : Int
  mi : Int
  s : Int
abbrev Dt.val (x : Dt) : Value := .agg #[I x.y, I x.m, I x.d, I x.h, I x.mi, I x.s]
def dayOk (y m d : Int) : Bool := inB y 1970 9999 && (inB m 1 12 && inB d 1 (monD y m))
def dtOk (x : Dt) : Bool := dayOk x.y x.m x.d && (inB x.h 0 23 && (inB x.mi 0 59 && inB x.s 0 59))
def daysF (y m d : Int) : Int := ahead y + monA y (m - 1).toNat + d - 1
def secsF (x : Dt) : Int := ((daysF x.y x.m x.d * 24 + x.h) * 60 + x.mi) * 60 + x.s
theorem inB_iff {v l h : Int} : inB v l h = true ↔ l ≤ v ∧ v ≤ h := by unfold inB; simp
theorem day_in {y m d : Int} (h : dayOk y m d = true) : (1970 ≤ y ∧ y ≤ 9999) ∧ (1 ≤ m ∧ m ≤ 12) ∧ (1 ≤ d ∧ d ≤ monD y m) := by
  unfold dayOk at h
  simp only [Bool.and_eq_true, inB_iff] at h
  exact h
/-- The days of a day lie in its year. -/
theorem days_in {y m d : Int} (h : dayOk y m d = true) : ahead y ≤ daysF y m d ∧ daysF y m d < ahead (y + 1) := by
  obtain ⟨h1, h2, h3⟩ := day_in h
  have a1 := monA_mono y 0 (m - 1).toNat
  have a2 := monA_mono y m.toNat (12 - m.toNat)
  have e : m.toNat + (12 - m.toNat) = 12 := by omega
  rw [e, monA_12] at a2
  have e2 : m.toNat = (m - 1).toNat + 1 := by omega
  have a3 : monA y m.toNat = monA y (m - 1).toNat + monD y m := by
    rw [e2]
    show _ + monD y _ = _
    have : (((m - 1).toNat + 1 : Nat) : Int) = m := by omega
    rw [this]
  rw [ahead_next (by omega)]
  have e0 : monA y 0 = 0 := rfl
  rw [Nat.zero_add, e0] at a1
  unfold daysF
  omega
theorem days_bound {y m d : Int} (h : dayOk y m d = true) : 0 ≤ daysF y m d ∧ daysF y m d ≤ 2932896 := by
  obtain ⟨h1, h2, h3⟩ := day_in h
  have hd := days_in h
  have l := (ahead_lo h1.1).1
  have u : ahead (y + 1) ≤ ahead 10000 := by
    rcases Int.lt_or_eq_of_le (show y + 1 ≤ 10000 by omega) with e | e
    · have := ahead_lt (y := y + 1) (by omega) e
      have := ahead_next (y := y + 1) (by omega)
      have := yearD_in (y + 1)
      omega
    · rw [e]; exact Int.le_refl _
  have e : ahead 10000 = 2932897 := by decide
  omega
theorem secs_bound {x : Dt} (h : dtOk x = true) : 0 ≤ secsF x ∧ secsF x ≤ 253402300799 := by
  unfold dtOk at h
  simp only [Bool.and_eq_true, inB_iff] at h
  obtain ⟨h1, h2, h3, h4⟩ := h
  have := days_bound h1
  unfold secsF
  omega
/-- The date of seconds. -/
structure IsDate (s : Int) (x : Dt) : Prop where
  ok : dayOk x.y x.m x.d = true
  days : daysF x.y x.m x.d = s / 86400
  h : x.h = s / 3600 % 24
  mi : x.mi = s / 60 % 60
  s : x.s = s % 60
theorem monA_at {y : Int} : ∀ (k : Nat) (r : Int), 0 ≤ r → r < monA y k → ∃ j : Nat, j < k ∧ monA y j ≤ r ∧ r < monA y (j + 1)
  | 0, r, h0, h1 => by have e : monA y 0 = 0 := rfl; omega
  | k + 1, r, h0, h1 => by
    by_cases h : r < monA y k
    · obtain ⟨j, hj, a, b⟩ := monA_at k r h0 h
      exact ⟨j, by omega, a, b⟩
    · exact ⟨k, by omega, by omega, h1⟩
theorem ahead_at : ∀ (k : Nat) (r : Int), 0 ≤ r → r < ahead (1970 + k) → ∃ j : Nat, j < k ∧ ahead (1970 + j) ≤ r ∧ r < ahead (1970 + j + 1)
  | 0, r, h0, h1 => by have e : ahead (1970 + (0 : Nat)) = 0 := by decide
                       omega
  | k + 1, r, h0, h1 => by
    by_cases h : r < ahead (1970 + k)
    · obtain ⟨j, hj, a, b⟩ := ahead_at k r h0 h
      exact ⟨j, by omega, a, b⟩
    · exact ⟨k, by omega, by omega, by have e : (1970 : Int) + ((k + 1 : Nat) : Int) = 1970 + k + 1 := by omega
                                       rw [← e]; exact h1⟩
theorem date_is {s : Int} (h0 : 0 ≤ s) (h1 : s ≤ 253402300799) : ∃ x, IsDate s x := by
  have e : ahead (1970 + (8030 : Nat)) = 2932897 := by decide
  obtain ⟨j, hj, a, b⟩ := ahead_at 8030 (s / 86400) (by omega) (by rw [e]; omega)
  have hn := ahead_next (y := 1970 + j) (by omega)
  rw [hn] at b
  obtain ⟨k, hk, c, d⟩ := monA_at (y := 1970 + j) 12 (s / 86400 - ahead (1970 + j)) (by omega) (by rw [monA_12]; omega)
  have hm : monA (1970 + j) (k + 1) = monA (1970 + j) k + monD (1970 + j) ((k + 1 : Nat) : Int) := rfl
  refine ⟨⟨1970 + j, ((k + 1 : Nat) : Int), s / 86400 - ahead (1970 + j) - monA (1970 + j) k + 1, s / 3600 % 24, s / 60 % 60, s % 60⟩, ?_, ?_, rfl, rfl, rfl⟩
  · unfold dayOk
    simp only [Bool.and_eq_true, inB_iff]
    omega
  · unfold daysF
    show ahead _ + monA _ ((((k + 1 : Nat) : Int) - 1).toNat) + _ - 1 = _
    have : (((k + 1 : Nat) : Int) - 1).toNat = k := by omega
    rw [this]
    dsimp only
    omega
theorem day_one {y m d y' m' d' : Int} (h : dayOk y m d = true) (h' : dayOk y' m' d' = true) (e : daysF y m d = daysF y' m' d') : y = y' ∧ m = m' ∧ d = d' := by
  have a := days_in h
  have a' := days_in h'
  obtain ⟨h1, h2, h3⟩ := day_in h
  obtain ⟨h1', h2', h3'⟩ := day_in h'
  have ey : y = y' := by
    rcases Int.lt_trichotomy y y' with l | l | l
    · have := ahead_lt (by omega) l; omega
    · exact l
    · have := ahead_lt (by omega) l; omega
  subst ey
  have st : ∀ m : Int, 1 ≤ m → monA y m.toNat = monA y (m - 1).toNat + monD y m := fun m hm => by
    have e2 : m.toNat = (m - 1).toNat + 1 := by omega
    rw [e2]
    show _ + monD y _ = _
    have : (((m - 1).toNat + 1 : Nat) : Int) = m := by omega
    rw [this]
  have em : m = m' := by
    unfold daysF at e
    rcases Int.lt_trichotomy m m' with l | l | l
    · have b := monA_mono y m.toNat ((m' - 1).toNat - m.toNat)
      have e3 : m.toNat + ((m' - 1).toNat - m.toNat) = (m' - 1).toNat := by omega
      rw [e3] at b
      have := st m h2.1
      omega
    · exact l
    · have b := monA_mono y m'.toNat ((m - 1).toNat - m'.toNat)
      have e3 : m'.toNat + ((m - 1).toNat - m'.toNat) = (m - 1).toNat := by omega
      rw [e3] at b
      have := st m' h2'.1
      omega
  subst em
  unfold daysF at e
  exact ⟨rfl, rfl, by omega⟩
theorem date_one {s : Int} {x x' : Dt} (h : IsDate s x) (h' : IsDate s x') : x = x' := by
  obtain ⟨e1, e2, e3⟩ := day_one h.ok h'.ok (h.days.trans h'.days.symm)
  cases x
  cases x'
  have a := h.h.trans h'.h.symm
  have b := h.mi.trans h'.mi.symm
  have c := h.s.trans h'.s.symm
  simp only at e1 e2 e3 a b c
  subst e1; subst e2; subst e3; subst a; subst b; subst c
  rfl
end Go.Proofs.YtdgipmlkkmmliaaGreatDoor
