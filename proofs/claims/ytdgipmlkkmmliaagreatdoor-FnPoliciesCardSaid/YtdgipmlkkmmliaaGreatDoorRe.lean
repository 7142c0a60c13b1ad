/-
  DIGITS: what they tell, how a number is written in two.
-/
import Derived.Test.YtdgipmlkkmmliaaGreatDoorRd
import Derived.Test.YtdgipmlkkmmliaaGreatDoorSr
namespace Go.Proofs.YtdgipmlkkmmliaaGreatDoor
set_option maxRecDepth 100000
set_option linter.unusedSimpArgs false
set_option linter.unusedVariables false
open Go.Xe
def stepD (n c : Int) : Int := if 10 * n + (c - 48) < 2147483648 then 10 * n + (c - 48) else 2147483648
def dl (n : Int) : List Int → Int
  | [] => n
  | c :: r => dl (stepD n c) r
def deltaV (t : ByteArray) : Int := if (1 ≤ (t.size : Int) ∧ (t.size : Int) ≤ 64) ∧ allB digitB t = true then dl 0 (byI t) else -1
def max0 (v : Int) : Int := if 0 < v then v else 0
theorem stepD_in {n c : Int} (h0 : 0 ≤ n) (h1 : n ≤ 2147483648) (hc : digitB c = true) : 0 ≤ stepD n c ∧ stepD n c ≤ 2147483648 := by
  unfold digitB at hc
  simp at hc
  unfold stepD
  split <;> omega
theorem dl_in : ∀ {l : List Int} {n : Int}, 0 ≤ n → n ≤ 2147483648 → (∀ c ∈ l, digitB c = true) → 0 ≤ dl n l ∧ dl n l ≤ 2147483648
  | [], n, h0, h1, _ => ⟨h0, h1⟩
  | c :: r, n, h0, h1, h => by
    have := stepD_in h0 h1 (h c List.mem_cons_self)
    exact dl_in (n := stepD n c) (l := r) this.1 this.2 fun d hd => h d (List.mem_cons_of_mem _ hd)
theorem byI_all {t : ByteArray} (h : allB digitB t = true) : ∀ c ∈ byI t, digitB c = true := fun c hc => by
  obtain ⟨j, hj, rfl⟩ := List.getElem_of_mem hc
  have hl := byI_length t
  have hb : (byI t)[j] = bt t j := by
    have := byI_get (b := t) (i := j) (by omega)
    rw [List.getElem?_eq_getElem hj] at this
    exact Option.some.inj this
  rw [hb]
  cases hd : digitB (bt t j) with
  | true => rfl
  | false => rw [allB_false (by omega) hd] at h; cases h
theorem deltaV_in (t : ByteArray) : -1 ≤ deltaV t ∧ deltaV t ≤ 2147483648 := by
  unfold deltaV
  split
  · rename_i h
    have := dl_in (n := 0) (by omega) (by omega) (byI_all h.2)
    omega
  · omega
theorem byI_drop {t : ByteArray} {i : Nat} (h : i < t.size) : (byI t).drop i = bt t i :: (byI t).drop (i + 1) := by
  have hl := byI_length t
  rw [List.drop_eq_getElem_cons (by omega)]
  congr 1
  have := byI_get (b := t) (i := i) h
  rw [List.getElem?_eq_getElem (by omega)] at this
  exact Option.some.inj this
theorem l1Max_ret (v : Int) (M : PH) : Ret 75 [I v, I 0] M (I (max0 v)) := by
  refine xcall_of_vc Tryz.func75 rfl _ Tryz.ntmps75 _ rfl (fun _ _ => Tryz.call75 _ _) rfl (fun w0 ρ0 => ?_)
  conv => whnf
  repeat' (first | (refine ⟨⟨[], rfl⟩, _, PH.Le.refl _, PH.Le.refl _, ?_⟩; conv => whnf) | (refine caseB_true ?_; conv => whnf) | (refine caseB_false ?_; conv => whnf) | ((with_reducible refine caseB_dec (fun h => ?_) (fun h => ?_)) <;> conv => whnf) | ((with_reducible refine caseB_ndec (fun h => ?_) (fun h => ?_)) <;> conv => whnf) | ((with_reducible refine caseB_not (fun h => ?_) (fun h => ?_)) <;> conv => whnf) | (with_reducible refine @And.intro (guardVC _ _ _ _ _) _ ?_ ?_) <;> conv => whnf | (refine caseB_intro (fun h => ?_) (fun h => ?_) <;> (try simp only [Bool.not_eq_true', Bool.not_eq_false', decide_eq_true_eq, decide_eq_false_iff_not] at h) <;> conv => whnf))
  all_goals first | (refine ⟨M, PH.Le.refl _, ?_, rfl⟩; simp [resV, max0, *]; done) | (refine ⟨M, PH.Le.refl _, ?_, rfl, rfl⟩; simp [resV, max0, *]; done) | (exfalso; simp_all; done)
theorem w8 {x : Int} (h0 : 0 ≤ x) (h1 : x ≤ 255) : IntKind.u8.wrap x = x := by
  simp only [IntKind.wrap, IntKind.bits, IntKind.signed, Bool.false_and, Bool.false_eq_true, if_false]
  omega
theorem digit_in {c : Int} (h : digitB c = true) : 48 ≤ c ∧ c ≤ 57 := by
  unfold digitB at h
  simpa using h
theorem deltaOf_ret (t : ByteArray) (ht : t.size ≤ maxLen) (M : PH) : Ret 85 [Tx t] M (.agg #[I (if deltaV t < 0 then 5 else 0), I (max0 (deltaV t))]) := by
  have e63 : maxLen = 9223372036854775807 := rfl
  refine xcall_of_vc Tryz.func85 rfl _ Tryz.ntmps85 _ rfl (fun _ _ => Tryz.call85 _ _) rfl (fun w0 ρ0 => ?_)
  conv => whnf
  refine XCall.go0 (areBytes_ret _ digitB t 1 64 _ ht (fun c _ _ => isDigit_ret c _)) rfl ?_
  conv => whnf
  refine caseB_not (fun h => ?_) (fun h => ?_)
  · have e : deltaV t = -1 := by
      unfold deltaV
      rw [if_neg]
      rintro ⟨⟨h1, h2⟩, h3⟩
      rw [h3, decide_eq_true h1, decide_eq_true h2] at h
      cases h
    conv => whnf
    exact ⟨_, PH.Le.refl _, by rw [e]; rfl, rfl⟩
  simp only [Bool.and_eq_true, decide_eq_true_eq] at h
  obtain ⟨h1, h2, h3⟩ := h
  have e : deltaV t = dl 0 (byI t) := by unfold deltaV; rw [if_pos ⟨⟨h1, h2⟩, h3⟩]
  have hall := byI_all h3
  have hin := dl_in (n := 0) (by omega) (by omega) hall
  rw [e, if_neg (by omega)]
  conv => whnf
  refine loop_rule (fun z : Nat × Int => ⟨slots 26 [(0, .v (Tx t)), (2, .bp 0 0), (3, .v (I z.2)), (10, .v (I t.size)), (11, .v (I z.1))], [⟨40, [.v (I 0), .v (I 0)]⟩]⟩) (fun z M' => z.1 ≤ t.size ∧ (0 ≤ z.2 ∧ z.2 ≤ 2147483648) ∧ dl z.2 ((byI t).drop z.1) = dl 0 (byI t) ∧ M' = M) (fun z => t.size - z.1) (0, 0) ?_ ?_ ?_
  · exact ⟨by simp [slots, leT], ⟨[], rfl⟩, by simp, rfl, rfl⟩
  · exact ⟨Nat.zero_le _, ⟨by omega, by omega⟩, rfl, rfl⟩
  rintro ⟨i, n⟩ M' ⟨hi, hn, hd, rfl⟩
  have hi : i ≤ t.size := hi
  have hn : 0 ≤ n ∧ n ≤ 2147483648 := hn
  have hd : dl n ((byI t).drop i) = dl 0 (byI t) := hd
  conv => whnf
  refine caseB_dec (fun hb => ?_) (fun hb => ?_)
  · have hb : (i : Int) < t.size := hb
    have hi' : i < t.size := by omega
    have hw : IntKind.i64.wrap ((i : Int) + 1) = (i : Int) + 1 := wr_id (by omega) (by omega)
    have hdr := byI_drop hi'
    have hc : digitB (bt t i) = true := hall _ (List.mem_of_mem_drop (i := i) (by rw [hdr]; exact List.mem_cons_self))
    have hc2 := digit_in hc
    rw [hdr] at hd
    have w1 : IntKind.u8.wrap (bt t i - 48) = bt t i - 48 := w8 (by omega) (by omega)
    have w2 : IntKind.i64.wrap (10 * n) = 10 * n := wi (by omega) (by omega)
    have w3 : IntKind.i64.wrap (bt t i - 48) = bt t i - 48 := wi (by omega) (by omega)
    have w4 : IntKind.i64.wrap (10 * n + (bt t i - 48)) = 10 * n + (bt t i - 48) := wi (by omega) (by omega)
    have hst := stepD_in hn.1 hn.2 hc
    conv => whnf
    have hX : (if 2147483648 < IntKind.i64.wrap (IntKind.i64.wrap (10 * n) + IntKind.i64.wrap (IntKind.u8.wrap (bt t i - 48))) then 2147483648 else IntKind.i64.wrap (IntKind.i64.wrap (10 * n) + IntKind.i64.wrap (IntKind.u8.wrap (bt t i - 48)))) = stepD n (bt t i) := by
      rw [w1, w2, w3, w4]
      unfold stepD
      split <;> split <;> omega
    repeat' (first | (refine ⟨⟨[], rfl⟩, _, PH.Le.refl _, PH.Le.refl _, ?_⟩; conv => whnf) | (refine ⟨by omega, hb, ?_⟩; conv => whnf) | (refine caseB_true ?_; conv => whnf) | (refine caseB_false ?_; conv => whnf) | ((with_reducible refine caseB_dec (fun h => ?_) (fun h => ?_)) <;> conv => whnf) | ((with_reducible refine caseB_ndec (fun h => ?_) (fun h => ?_)) <;> conv => whnf) | ((with_reducible refine caseB_not (fun h => ?_) (fun h => ?_)) <;> conv => whnf) | (with_reducible refine @And.intro (guardVC _ _ _ _ _) _ ?_ ?_) <;> conv => whnf | (refine caseB_intro (fun h => ?_) (fun h => ?_) <;> (try simp only [Bool.not_eq_true', Bool.not_eq_false', decide_eq_true_eq, decide_eq_false_iff_not] at h) <;> conv => whnf))
    exact ⟨(i + 1, stepD n (bt t i)), ⟨by simp only [slots, leT]; rw [hX, hw]; simp [leT], ⟨[], rfl⟩, by simp, rfl, rfl⟩, ⟨hi', hst, hd, rfl⟩, by show t.size - (i + 1) < t.size - i; omega⟩
  · have hb : ¬ (i : Int) < t.size := hb
    have hie : i = t.size := by omega
    rw [hie, List.drop_of_length_le (by rw [byI_length]; omega)] at hd
    have hd : n = dl 0 (byI t) := hd
    have hmx : max0 (dl 0 (byI t)) = n := by rw [← hd]; unfold max0; split <;> omega
    conv => whnf
    exact ⟨_, PH.Le.refl _, by rw [hmx]; rfl, rfl⟩
theorem l1Delta_ret (t : ByteArray) (ht : t.size ≤ maxLen) (M : PH) : Ret 76 [Tx t] M (I (deltaV t)) := by
  have e63 : maxLen = 9223372036854775807 := rfl
  have no : ¬ ((1 ≤ (t.size : Int) ∧ (t.size : Int) ≤ 64) ∧ allB digitB t = true) → deltaV t = -1 := fun h => if_neg h
  refine xcall_of_vc Tryz.func76 rfl _ Tryz.ntmps76 _ rfl (fun _ _ => Tryz.call76 _ _) rfl (fun w0 ρ0 => ?_)
  conv => whnf
  repeat' (first | (refine ⟨⟨[], rfl⟩, _, PH.Le.refl _, PH.Le.refl _, ?_⟩; conv => whnf) | (refine caseB_true ?_; conv => whnf) | (refine caseB_false ?_; conv => whnf) | ((with_reducible refine caseB_dec (fun h => ?_) (fun h => ?_)) <;> conv => whnf) | ((with_reducible refine caseB_ndec (fun h => ?_) (fun h => ?_)) <;> conv => whnf) | ((with_reducible refine caseB_not (fun h => ?_) (fun h => ?_)) <;> conv => whnf) | (with_reducible refine @And.intro (guardVC _ _ _ _ _) _ ?_ ?_) <;> conv => whnf | (refine caseB_intro (fun h => ?_) (fun h => ?_) <;> (try simp only [Bool.not_eq_true', Bool.not_eq_false', decide_eq_true_eq, decide_eq_false_iff_not] at h) <;> conv => whnf))
  · exact ⟨_, PH.Le.refl _, by rw [no (by rintro ⟨⟨h1, h2⟩, _⟩; have h : (t.size : Int) < 1 := h; omega)]; rfl, rfl⟩
  · exact ⟨_, PH.Le.refl _, by rw [no (by rintro ⟨⟨h1, h2⟩, _⟩; have h : (64 : Int) < t.size := h; omega)]; rfl, rfl⟩
  have h1 : 1 ≤ (t.size : Int) := by omega
  have h2 : (t.size : Int) ≤ 64 := by omega
  refine loop_rule (fun z : Nat × Int => ⟨slots 34 [(0, .v (Tx t)), (2, .v (I 0)), (3, .v (I z.2)), (4, .v (I z.1))], []⟩) (fun z M' => z.1 ≤ t.size ∧ (0 ≤ z.2 ∧ z.2 ≤ 2147483648) ∧ (∀ j : Nat, j < z.1 → digitB (bt t j) = true) ∧ dl z.2 ((byI t).drop z.1) = dl 0 (byI t) ∧ M' = M) (fun z => t.size - z.1) (0, 0) ?_ ?_ ?_
  · exact ⟨by simp [slots, leT], ⟨[], rfl⟩, Nat.zero_le _, rfl, rfl⟩
  · exact ⟨Nat.zero_le _, ⟨by omega, by omega⟩, fun j hj => absurd hj (Nat.not_lt_zero _), rfl, rfl⟩
  rintro ⟨i, n⟩ M' ⟨hi, hn, hq, hd, rfl⟩
  have hi : i ≤ t.size := hi
  have hn : 0 ≤ n ∧ n ≤ 2147483648 := hn
  have hq : ∀ j : Nat, j < i → digitB (bt t j) = true := hq
  have hd : dl n ((byI t).drop i) = dl 0 (byI t) := hd
  conv => whnf
  refine caseB_dec (fun hb => ?_) (fun hb => ?_)
  · have hb : (i : Int) < t.size := hb
    have hi' : i < t.size := by omega
    have hw : IntKind.i64.wrap ((i : Int) + 1) = (i : Int) + 1 := wr_id (by omega) (by omega)
    have hdr := byI_drop hi'
    rw [hdr] at hd
    conv => whnf
    refine ⟨by omega, hb, ?_⟩
    conv => whnf
    refine Ret.go (l1Digit_ret _ _) ?_
    conv => whnf
    refine caseB_not (fun hc => ?_) (fun hc => ?_)
    · conv => whnf
      have hc : digitB (bt t i) = false := hc
      exact ⟨_, PH.Le.refl _, by rw [no (by rintro ⟨_, h3⟩; rw [allB_false hi' hc] at h3; cases h3)]; rfl, rfl⟩
    have hc : digitB (bt t i) = true := hc
    have hc2 := digit_in hc
    have w1 : IntKind.u8.wrap (bt t i - 48) = bt t i - 48 := w8 (by omega) (by omega)
    have w2 : IntKind.i64.wrap (n * 10) = 10 * n := by rw [wi (by omega) (by omega)]; omega
    have w3 : IntKind.i64.wrap (bt t i - 48) = bt t i - 48 := wi (by omega) (by omega)
    have w4 : IntKind.i64.wrap (10 * n + (bt t i - 48)) = 10 * n + (bt t i - 48) := wi (by omega) (by omega)
    have hst := stepD_in hn.1 hn.2 hc
    conv => whnf
    refine ⟨by omega, hb, ?_⟩
    conv => whnf
    rw [w1, w2, w3, w4]
    refine Ret.go (l1Min_ret _ _ _) ?_
    conv => whnf
    have hX : min' (10 * n + (bt t i - 48)) 2147483648 = stepD n (bt t i) := by
      unfold min' stepD
      split <;> split <;> omega
    exact ⟨(i + 1, stepD n (bt t i)), ⟨by simp only [slots, leT]; rw [hw, hX]; simp [leT], ⟨[], rfl⟩, Nat.zero_le _, rfl, rfl⟩, ⟨hi', hst, fun j hj => (Nat.lt_succ_iff_lt_or_eq.1 hj).elim (hq j) (fun e => by subst e; exact hc), hd, rfl⟩, by show t.size - (i + 1) < t.size - i; omega⟩
  · have hb : ¬ (i : Int) < t.size := hb
    have hie : i = t.size := by omega
    subst hie
    rw [List.drop_of_length_le (by rw [byI_length]; omega)] at hd
    have hd : n = dl 0 (byI t) := hd
    conv => whnf
    exact ⟨_, PH.Le.refl _, by unfold deltaV; rw [if_pos ⟨⟨h1, h2⟩, allB_true hq⟩, ← hd]; rfl, rfl⟩
end Go.Proofs.YtdgipmlkkmmliaaGreatDoor
