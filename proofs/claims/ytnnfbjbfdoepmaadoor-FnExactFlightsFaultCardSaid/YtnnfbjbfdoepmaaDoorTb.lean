/-
  TEXTS: words, plain texts, hosts, paths; small letters; blanks at both ends.
-/
import Derived.Test.YtnnfbjbfdoepmaaDoorTa
namespace Go.Proofs.YtnnfbjbfdoepmaaDoor
set_option maxRecDepth 100000
set_option linter.unusedSimpArgs false
set_option linter.unusedVariables false
open Go.Xe
theorem areBytes_ret (g : FuncId) (p : Int → Bool) (b : ByteArray) (lo hi : Int) (M : PH) (hb : b.size ≤ maxLen) (hg : ∀ c, 0 ≤ c → c ≤ 255 → Ret g [Y c] M (B (p c))) :
    XCall env 59 [.v (Tx b), .v (I lo), .v (I hi), .fn g []] [] M fun r bx M' => r = B (decide (lo ≤ (b.size : Int)) && (decide ((b.size : Int) ≤ hi) && allB p b)) ∧ bx = [] ∧ M' = M := by
  have e63 : maxLen = 9223372036854775807 := rfl
  refine xcall_of_vc Tryd.func59 rfl _ Tryd.ntmps59 _ rfl (fun _ _ => Tryd.call59 _ _) rfl (fun w0 ρ0 => ?_)
  conv => whnf
  repeat' (first | (refine ⟨⟨[], rfl⟩, _, PH.Le.refl _, PH.Le.refl _, ?_⟩; conv => whnf) | (refine caseB_true ?_; conv => whnf) | (refine caseB_false ?_; conv => whnf) | ((with_reducible refine caseB_dec (fun h => ?_) (fun h => ?_)) <;> conv => whnf) | ((with_reducible refine caseB_ndec (fun h => ?_) (fun h => ?_)) <;> conv => whnf) | ((with_reducible refine caseB_not (fun h => ?_) (fun h => ?_)) <;> conv => whnf) | (with_reducible refine @And.intro (guardVC _ _ _ _ _) _ ?_ ?_) <;> conv => whnf | (refine caseB_intro (fun h => ?_) (fun h => ?_) <;> (try simp only [Bool.not_eq_true', Bool.not_eq_false', decide_eq_true_eq, decide_eq_false_iff_not] at h) <;> conv => whnf))
  · exact ⟨_, PH.Le.refl _, by rw [decide_eq_false (by omega)]; rfl, rfl, rfl⟩
  · exact ⟨_, PH.Le.refl _, by rw [decide_eq_false (p := (b.size : Int) ≤ hi) (by omega)]; simp [resV], rfl, rfl⟩
  rename_i h2
  rw [decide_eq_true (p := lo ≤ (b.size : Int)) (by omega), decide_eq_true (p := (b.size : Int) ≤ hi) (by omega), Bool.true_and, Bool.true_and]
  refine loop_rule (fun i : Nat => ⟨slots 32 [(0, .v (Tx b)), (3, .fn g []), (21, .v (I b.size)), (22, .v (I i))], []⟩) (fun i M' => i ≤ b.size ∧ (∀ j : Nat, j < i → p (bt b j) = true) ∧ M' = M) (fun i => b.size - i) 0 ?_ ?_ ?_
  · exact ⟨by simp [slots, leT], ⟨[], rfl⟩, Nat.zero_le _, rfl, rfl⟩
  · exact ⟨Nat.zero_le _, fun j hj => absurd hj (Nat.not_lt_zero _), rfl⟩
  rintro i M' ⟨hi0, hp, rfl⟩
  conv => whnf
  refine caseB_dec (fun h0 => ?_) (fun h0 => ?_)
  · have h0 : (i : Int) < b.size := h0
    have hi' : i < b.size := by omega
    have hw : IntKind.i64.wrap ((i : Int) + 1) = (i : Int) + 1 := wr_id (by omega) (by omega)
    have hbt := bt_in b i
    conv => whnf
    refine ⟨by omega, by omega, ?_⟩
    conv => whnf
    refine Ret.go (hg _ hbt.1 hbt.2) ?_
    conv => whnf
    refine caseB_not (fun h => ?_) (fun h => ?_)
    · conv => whnf
      exact ⟨_, PH.Le.refl _, by rw [allB_false hi' h]; rfl, rfl, rfl⟩
    · conv => whnf
      exact ⟨i + 1, ⟨by simp [slots, leT, hw], ⟨_, rfl⟩, Nat.zero_le _, rfl, rfl⟩, ⟨by omega, fun j hj => (Nat.lt_succ_iff_lt_or_eq.1 hj).elim (hp j) (fun e => by subst e; exact h), rfl⟩, by omega⟩
  · have hi' : i = b.size := by have : ¬ (i : Int) < b.size := h0; omega
    subst hi'
    conv => whnf
    exact ⟨_, PH.Le.refl _, by rw [allB_true hp]; rfl, rfl, rfl⟩
def wordT (b : ByteArray) : Bool := decide (1 ≤ (b.size : Int)) && (decide ((b.size : Int) ≤ 64) && allB wordB b)
theorem isWord_impl (b : ByteArray) (M : PH) (hb : b.size ≤ maxLen) : Ret 75 [Tx b] M (B (wordT b)) := by
  refine xcall_of_vc Tryd.func75 rfl _ Tryd.ntmps75 _ rfl (fun _ _ => Tryd.call75 _ _) rfl (fun w0 ρ0 => ?_)
  conv => whnf
  refine XCall.go0 (areBytes_ret _ wordB b 1 64 _ hb (fun c _ _ => isWordByte_ret c _)) rfl ?_
  conv => whnf
  exact ⟨_, PH.Le.refl _, rfl, rfl⟩
theorem isWord_spec (b : ByteArray) (M : PH) (hb : b.size ≤ maxLen) : Ret 67 [Tx b] M (B (wordT b)) := by
  have e63 : maxLen = 9223372036854775807 := rfl
  unfold wordT
  refine xcall_of_vc Tryd.func67 rfl _ Tryd.ntmps67 _ rfl (fun _ _ => Tryd.call67 _ _) rfl (fun w0 ρ0 => ?_)
  conv => whnf
  repeat' (first | (refine ⟨⟨[], rfl⟩, _, PH.Le.refl _, PH.Le.refl _, ?_⟩; conv => whnf) | (refine caseB_true ?_; conv => whnf) | (refine caseB_false ?_; conv => whnf) | ((with_reducible refine caseB_dec (fun h => ?_) (fun h => ?_)) <;> conv => whnf) | ((with_reducible refine caseB_ndec (fun h => ?_) (fun h => ?_)) <;> conv => whnf) | ((with_reducible refine caseB_not (fun h => ?_) (fun h => ?_)) <;> conv => whnf) | (with_reducible refine @And.intro (guardVC _ _ _ _ _) _ ?_ ?_) <;> conv => whnf | (refine caseB_intro (fun h => ?_) (fun h => ?_) <;> (try simp only [Bool.not_eq_true', Bool.not_eq_false', decide_eq_true_eq, decide_eq_false_iff_not] at h) <;> conv => whnf))
  · exact ⟨_, PH.Le.refl _, by simp [resV, wordT]; omega, rfl⟩
  · exact ⟨_, PH.Le.refl _, by simp [resV, wordT]; omega, rfl⟩
  refine loop_rule (fun i : Nat => ⟨slots 23 [(0, .v (Tx b)), (3, .v (I i))], []⟩) (fun i M' => i ≤ b.size ∧ (∀ j : Nat, j < i → wordB (bt b j) = true) ∧ M' = M) (fun i => b.size - i) 0 ?_ ?_ ?_
  · exact ⟨by simp [slots, leT], ⟨[], rfl⟩, Nat.zero_le _, rfl, rfl⟩
  · exact ⟨Nat.zero_le _, fun j hj => absurd hj (Nat.not_lt_zero _), rfl⟩
  rintro i M' ⟨hi, hp, rfl⟩
  conv => whnf
  refine caseB_dec (fun h0 => ?_) (fun h0 => ?_)
  · have h0 : (i : Int) < b.size := h0
    have hi' : i < b.size := by omega
    have hw : IntKind.i64.wrap ((i : Int) + 1) = (i : Int) + 1 := wr_id (by omega) (by omega)
    have hbt := bt_in b i
    conv => whnf
    repeat' (first | (refine ⟨⟨[], rfl⟩, _, PH.Le.refl _, PH.Le.refl _, ?_⟩; conv => whnf) | (refine ⟨by omega, by omega, ?_⟩; conv => whnf) | (refine caseB_true ?_; conv => whnf) | (refine caseB_false ?_; conv => whnf) | ((with_reducible refine caseB_dec (fun h => ?_) (fun h => ?_)) <;> conv => whnf) | ((with_reducible refine caseB_ndec (fun h => ?_) (fun h => ?_)) <;> conv => whnf) | ((with_reducible refine caseB_not (fun h => ?_) (fun h => ?_)) <;> conv => whnf) | (refine Ret.go (l1WordByte_ret _ _ hbt.1 hbt.2) ?_; conv => whnf) | (with_reducible refine @And.intro (guardVC _ _ _ _ _) _ ?_ ?_) <;> conv => whnf | (refine caseB_intro (fun h => ?_) (fun h => ?_) <;> (try simp only [Bool.not_eq_true', Bool.not_eq_false', decide_eq_true_eq, decide_eq_false_iff_not] at h) <;> conv => whnf))
    all_goals first
      | exact ⟨i + 1, ⟨by simp [slots, leT, hw], ⟨_, rfl⟩, Nat.zero_le _, rfl, rfl⟩, ⟨by omega, fun j hj => (Nat.lt_succ_iff_lt_or_eq.1 hj).elim (hp j) (fun e => by subst e; first | assumption | (simp [wordB, *]; done)), rfl⟩, by omega⟩
      | (refine ⟨_, PH.Le.refl _, ?_, rfl⟩; rw [allB_false hi' (p := wordB) (by first | assumption | (simp [wordB, *]; done))]; simp [resV]; done)
  · have hi' : i = b.size := by have : ¬ (i : Int) < b.size := h0; omega
    subst hi'
    conv => whnf
    refine ⟨_, PH.Le.refl _, ?_, rfl⟩
    rw [allB_true (p := wordB) hp]
    (simp [resV, wordT]; omega)

def plainB (c : Int) : Bool := decide (c = 9) || (decide (32 ≤ c) && decide (c ≤ 126))
theorem l2Plain_ret (c : Int) (M : PH) : Ret 79 [Y c] M (B (plainB c)) := by
  refine xcall_of_vc Tryd.func79 rfl _ Tryd.ntmps79 _ rfl (fun _ _ => Tryd.call79 _ _) rfl (fun w0 ρ0 => ?_)
  conv => whnf
  repeat' (first | (refine ⟨⟨[], rfl⟩, _, PH.Le.refl _, PH.Le.refl _, ?_⟩; conv => whnf) | (refine caseB_true ?_; conv => whnf) | (refine caseB_false ?_; conv => whnf) | ((with_reducible refine caseB_dec (fun h => ?_) (fun h => ?_)) <;> conv => whnf) | ((with_reducible refine caseB_ndec (fun h => ?_) (fun h => ?_)) <;> conv => whnf) | ((with_reducible refine caseB_not (fun h => ?_) (fun h => ?_)) <;> conv => whnf) | (with_reducible refine @And.intro (guardVC _ _ _ _ _) _ ?_ ?_) <;> conv => whnf | (refine caseB_intro (fun h => ?_) (fun h => ?_) <;> (try simp only [Bool.not_eq_true', Bool.not_eq_false', decide_eq_true_eq, decide_eq_false_iff_not] at h) <;> conv => whnf))
  all_goals refine ⟨_, PH.Le.refl _, ?_, rfl⟩
  all_goals simp [resV, plainB, *] <;> omega
theorem isPlain_ret (c : Int) (M : PH) : Ret 82 [Y c] M (B (plainB c)) := by
  refine xcall_of_vc Tryd.func82 rfl _ Tryd.ntmps82 _ rfl (fun _ _ => Tryd.call82 _ _) rfl (fun w0 ρ0 => ?_)
  conv => whnf
  repeat' (first | (refine ⟨⟨[], rfl⟩, _, PH.Le.refl _, PH.Le.refl _, ?_⟩; conv => whnf) | (refine caseB_true ?_; conv => whnf) | (refine caseB_false ?_; conv => whnf) | ((with_reducible refine caseB_dec (fun h => ?_) (fun h => ?_)) <;> conv => whnf) | ((with_reducible refine caseB_ndec (fun h => ?_) (fun h => ?_)) <;> conv => whnf) | ((with_reducible refine caseB_not (fun h => ?_) (fun h => ?_)) <;> conv => whnf) | (with_reducible refine @And.intro (guardVC _ _ _ _ _) _ ?_ ?_) <;> conv => whnf | (refine caseB_intro (fun h => ?_) (fun h => ?_) <;> (try simp only [Bool.not_eq_true', Bool.not_eq_false', decide_eq_true_eq, decide_eq_false_iff_not] at h) <;> conv => whnf))
  all_goals refine ⟨_, PH.Le.refl _, ?_, rfl⟩
  all_goals simp [resV, plainB, *] <;> omega
theorem plain_spec (b : ByteArray) (M : PH) (hb : b.size ≤ maxLen) : Ret 68 [Tx b] M (B (allB plainB b)) := by
  have e63 : maxLen = 9223372036854775807 := rfl
  refine xcall_of_vc Tryd.func68 rfl _ Tryd.ntmps68 _ rfl (fun _ _ => Tryd.call68 _ _) rfl (fun w0 ρ0 => ?_)
  conv => whnf
  refine loop_rule (fun i : Nat => ⟨slots 15 [(0, .v (Tx b)), (3, .v (I i))], []⟩) (fun i M' => i ≤ b.size ∧ (∀ j : Nat, j < i → plainB (bt b j) = true) ∧ M' = M) (fun i => b.size - i) 0 ?_ ?_ ?_
  · exact ⟨by simp [slots, leT], ⟨[], rfl⟩, Nat.zero_le _, rfl, rfl⟩
  · exact ⟨Nat.zero_le _, fun j hj => absurd hj (Nat.not_lt_zero _), rfl⟩
  rintro i M' ⟨hi, hp, rfl⟩
  conv => whnf
  refine caseB_dec (fun h0 => ?_) (fun h0 => ?_)
  · have h0 : (i : Int) < b.size := h0
    have hi' : i < b.size := by omega
    have hw : IntKind.i64.wrap ((i : Int) + 1) = (i : Int) + 1 := wr_id (by omega) (by omega)
    have hbt := bt_in b i
    conv => whnf
    repeat' (first | (refine ⟨⟨[], rfl⟩, _, PH.Le.refl _, PH.Le.refl _, ?_⟩; conv => whnf) | (refine ⟨by omega, by omega, ?_⟩; conv => whnf) | (refine caseB_true ?_; conv => whnf) | (refine caseB_false ?_; conv => whnf) | ((with_reducible refine caseB_dec (fun h => ?_) (fun h => ?_)) <;> conv => whnf) | ((with_reducible refine caseB_ndec (fun h => ?_) (fun h => ?_)) <;> conv => whnf) | ((with_reducible refine caseB_not (fun h => ?_) (fun h => ?_)) <;> conv => whnf) | (refine Ret.go (l2Plain_ret _ _) ?_; conv => whnf) | (with_reducible refine @And.intro (guardVC _ _ _ _ _) _ ?_ ?_) <;> conv => whnf | (refine caseB_intro (fun h => ?_) (fun h => ?_) <;> (try simp only [Bool.not_eq_true', Bool.not_eq_false', decide_eq_true_eq, decide_eq_false_iff_not] at h) <;> conv => whnf))
    all_goals first
      | exact ⟨i + 1, ⟨by simp [slots, leT, hw], ⟨_, rfl⟩, Nat.zero_le _, rfl, rfl⟩, ⟨by omega, fun j hj => (Nat.lt_succ_iff_lt_or_eq.1 hj).elim (hp j) (fun e => by subst e; first | assumption | (simp [plainB, *]; done)), rfl⟩, by omega⟩
      | (refine ⟨_, PH.Le.refl _, ?_, rfl⟩; rw [allB_false hi' (p := plainB) (by first | assumption | (simp [plainB, *]; done))]; simp [resV]; done)
  · have hi' : i = b.size := by have : ¬ (i : Int) < b.size := h0; omega
    subst hi'
    conv => whnf
    refine ⟨_, PH.Le.refl _, ?_, rfl⟩
    rw [allB_true (p := plainB) hp]
    simp [resV]

theorem plain_impl (b : ByteArray) (M : PH) (hb : b.size ≤ maxLen) : Ret 76 [Tx b] M (B (allB plainB b)) := by
  refine xcall_of_vc Tryd.func76 rfl _ Tryd.ntmps76 _ rfl (fun _ _ => Tryd.call76 _ _) rfl (fun w0 ρ0 => ?_)
  conv => whnf
  refine XCall.go0 (areBytes_ret _ plainB b 0 b.size _ hb (fun c _ _ => isPlain_ret c _)) rfl ?_
  conv => whnf
  exact ⟨_, PH.Le.refl _, by simp [resV], rfl⟩
def hostB (c : Int) : Bool := letterB c || (digitB c || (decide (c = 46) || decide (c = 45)))
theorem isHostByte_ret (c : Int) (M : PH) : Ret 60 [Y c] M (B (hostB c)) := by
  refine xcall_of_vc Tryd.func60 rfl _ Tryd.ntmps60 _ rfl (fun _ _ => Tryd.call60 _ _) rfl (fun w0 ρ0 => ?_)
  conv => whnf
  repeat' (first | (refine ⟨⟨[], rfl⟩, _, PH.Le.refl _, PH.Le.refl _, ?_⟩; conv => whnf) | (refine caseB_true ?_; conv => whnf) | (refine caseB_false ?_; conv => whnf) | ((with_reducible refine caseB_dec (fun h => ?_) (fun h => ?_)) <;> conv => whnf) | ((with_reducible refine caseB_ndec (fun h => ?_) (fun h => ?_)) <;> conv => whnf) | ((with_reducible refine caseB_not (fun h => ?_) (fun h => ?_)) <;> conv => whnf) | (refine Ret.go (isLetter_ret _ _) ?_; conv => whnf) | (refine Ret.go (isDigit_ret _ _) ?_; conv => whnf) | (with_reducible refine @And.intro (guardVC _ _ _ _ _) _ ?_ ?_) <;> conv => whnf | (refine caseB_intro (fun h => ?_) (fun h => ?_) <;> (try simp only [Bool.not_eq_true', Bool.not_eq_false', decide_eq_true_eq, decide_eq_false_iff_not] at h) <;> conv => whnf))
  all_goals refine ⟨_, PH.Le.refl _, ?_, rfl⟩
  all_goals simp [resV, hostB, *]
def hostT (b : ByteArray) : Bool := decide (1 ≤ (b.size : Int)) && (decide ((b.size : Int) ≤ 60) && allB hostB b)
theorem isHost_ret (b : ByteArray) (M : PH) (hb : b.size ≤ maxLen) : Ret 42 [Tx b] M (B (hostT b)) := by
  refine xcall_of_vc Tryd.func42 rfl _ Tryd.ntmps42 _ rfl (fun _ _ => Tryd.call42 _ _) rfl (fun w0 ρ0 => ?_)
  conv => whnf
  refine XCall.go0 (areBytes_ret _ hostB b 1 60 _ hb (fun c _ _ => isHostByte_ret c _)) rfl ?_
  conv => whnf
  exact ⟨_, PH.Le.refl _, rfl, rfl⟩
theorem l5Host_ret (b : ByteArray) (M : PH) (hb : b.size ≤ maxLen) : Ret 34 [Tx b] M (B (hostT b)) := by
  have e63 : maxLen = 9223372036854775807 := rfl
  unfold hostT
  refine xcall_of_vc Tryd.func34 rfl _ Tryd.ntmps34 _ rfl (fun _ _ => Tryd.call34 _ _) rfl (fun w0 ρ0 => ?_)
  conv => whnf
  repeat' (first | (refine ⟨⟨[], rfl⟩, _, PH.Le.refl _, PH.Le.refl _, ?_⟩; conv => whnf) | (refine caseB_true ?_; conv => whnf) | (refine caseB_false ?_; conv => whnf) | ((with_reducible refine caseB_dec (fun h => ?_) (fun h => ?_)) <;> conv => whnf) | ((with_reducible refine caseB_ndec (fun h => ?_) (fun h => ?_)) <;> conv => whnf) | ((with_reducible refine caseB_not (fun h => ?_) (fun h => ?_)) <;> conv => whnf) | (with_reducible refine @And.intro (guardVC _ _ _ _ _) _ ?_ ?_) <;> conv => whnf | (refine caseB_intro (fun h => ?_) (fun h => ?_) <;> (try simp only [Bool.not_eq_true', Bool.not_eq_false', decide_eq_true_eq, decide_eq_false_iff_not] at h) <;> conv => whnf))
  · exact ⟨_, PH.Le.refl _, by simp [resV, hostT]; omega, rfl⟩
  · exact ⟨_, PH.Le.refl _, by simp [resV, hostT]; omega, rfl⟩
  refine loop_rule (fun i : Nat => ⟨slots 42 [(0, .v (Tx b)), (3, .v (I i))], []⟩) (fun i M' => i ≤ b.size ∧ (∀ j : Nat, j < i → hostB (bt b j) = true) ∧ M' = M) (fun i => b.size - i) 0 ?_ ?_ ?_
  · exact ⟨by simp [slots, leT], ⟨[], rfl⟩, Nat.zero_le _, rfl, rfl⟩
  · exact ⟨Nat.zero_le _, fun j hj => absurd hj (Nat.not_lt_zero _), rfl⟩
  rintro i M' ⟨hi, hp, rfl⟩
  conv => whnf
  refine caseB_dec (fun h0 => ?_) (fun h0 => ?_)
  · have h0 : (i : Int) < b.size := h0
    have hi' : i < b.size := by omega
    have hw : IntKind.i64.wrap ((i : Int) + 1) = (i : Int) + 1 := wr_id (by omega) (by omega)
    have hbt := bt_in b i
    conv => whnf
    repeat' (first | (refine ⟨⟨[], rfl⟩, _, PH.Le.refl _, PH.Le.refl _, ?_⟩; conv => whnf) | (refine ⟨by omega, by omega, ?_⟩; conv => whnf) | (refine caseB_true ?_; conv => whnf) | (refine caseB_false ?_; conv => whnf) | ((with_reducible refine caseB_dec (fun h => ?_) (fun h => ?_)) <;> conv => whnf) | ((with_reducible refine caseB_ndec (fun h => ?_) (fun h => ?_)) <;> conv => whnf) | ((with_reducible refine caseB_not (fun h => ?_) (fun h => ?_)) <;> conv => whnf) | (refine Ret.go (l1Letter_ret _ _) ?_; conv => whnf) | (refine Ret.go (l1Digit_ret _ _) ?_; conv => whnf) | (with_reducible refine @And.intro (guardVC _ _ _ _ _) _ ?_ ?_) <;> conv => whnf | (refine caseB_intro (fun h => ?_) (fun h => ?_) <;> (try simp only [Bool.not_eq_true', Bool.not_eq_false', decide_eq_true_eq, decide_eq_false_iff_not] at h) <;> conv => whnf))
    all_goals first
      | exact ⟨i + 1, ⟨by simp [slots, leT, hw], ⟨_, rfl⟩, Nat.zero_le _, rfl, rfl⟩, ⟨by omega, fun j hj => (Nat.lt_succ_iff_lt_or_eq.1 hj).elim (hp j) (fun e => by subst e; first | assumption | (simp [hostB, *]; done)), rfl⟩, by omega⟩
      | (refine ⟨_, PH.Le.refl _, ?_, rfl⟩; rw [allB_false hi' (p := hostB) (by first | assumption | (simp [hostB, *]; done))]; simp [resV]; done)
  · have hi' : i = b.size := by have : ¬ (i : Int) < b.size := h0; omega
    subst hi'
    conv => whnf
    refine ⟨_, PH.Le.refl _, ?_, rfl⟩
    rw [allB_true (p := hostB) hp]
    (simp [resV, hostT]; omega)

def pathS : List UInt8 := [47, 63, 61, 38, 58, 64, 44, 59, 40, 41]
def pathB (c : Int) : Bool := wordB c || setB pathS c
theorem isPathByte_ret (c : Int) (M : PH) : Ret 61 [Y c] M (B (pathB c)) := by
  refine xcall_of_vc Tryd.func61 rfl _ Tryd.ntmps61 _ rfl (fun _ _ => Tryd.call61 _ _) rfl (fun w0 ρ0 => ?_)
  conv => whnf
  repeat' (first | (refine ⟨⟨[], rfl⟩, _, PH.Le.refl _, PH.Le.refl _, ?_⟩; conv => whnf) | (refine caseB_true ?_; conv => whnf) | (refine caseB_false ?_; conv => whnf) | ((with_reducible refine caseB_dec (fun h => ?_) (fun h => ?_)) <;> conv => whnf) | ((with_reducible refine caseB_ndec (fun h => ?_) (fun h => ?_)) <;> conv => whnf) | ((with_reducible refine caseB_not (fun h => ?_) (fun h => ?_)) <;> conv => whnf) | (refine Ret.go (isWordByte_ret _ _) ?_; conv => whnf) | (refine Ret.go (indexByte_ret _ _ _) ?_; conv => whnf) | (with_reducible refine @And.intro (guardVC _ _ _ _ _) _ ?_ ?_) <;> conv => whnf | (refine caseB_intro (fun h => ?_) (fun h => ?_) <;> (try simp only [Bool.not_eq_true', Bool.not_eq_false', decide_eq_true_eq, decide_eq_false_iff_not] at h) <;> conv => whnf))
  all_goals refine ⟨_, PH.Le.refl _, ?_, rfl⟩
  all_goals simp [resV, pathB, setB, pathS, *]
theorem pathS_eq {c : Int} (h0 : 0 ≤ c) (h1 : c ≤ 255) : setB pathS c = (decide (c = 47) || (decide (c = 63) || (decide (c = 61) || (decide (c = 38) || (decide (c = 58) || (decide (c = 64) || (decide (c = 44) || (decide (c = 59) || (decide (c = 40) || (decide (c = 41) || false)))))))))) := by
  unfold pathS
  simp only [setB_cons _ _ h0 h1, setB_nil]
  rfl
theorem l5PathByte_ret (c : Int) (M : PH) (h0 : 0 ≤ c) (h1 : c ≤ 255) : Ret 55 [Y c] M (B (pathB c)) := by
  unfold pathB
  rw [pathS_eq h0 h1]
  refine xcall_of_vc Tryd.func55 rfl _ Tryd.ntmps55 _ rfl (fun _ _ => Tryd.call55 _ _) rfl (fun w0 ρ0 => ?_)
  conv => whnf
  repeat' (first | (refine ⟨⟨[], rfl⟩, _, PH.Le.refl _, PH.Le.refl _, ?_⟩; conv => whnf) | (refine caseB_true ?_; conv => whnf) | (refine caseB_false ?_; conv => whnf) | ((with_reducible refine caseB_dec (fun h => ?_) (fun h => ?_)) <;> conv => whnf) | ((with_reducible refine caseB_ndec (fun h => ?_) (fun h => ?_)) <;> conv => whnf) | ((with_reducible refine caseB_not (fun h => ?_) (fun h => ?_)) <;> conv => whnf) | (refine Ret.go (l1WordByte_ret _ _ h0 h1) ?_; conv => whnf) | (with_reducible refine @And.intro (guardVC _ _ _ _ _) _ ?_ ?_) <;> conv => whnf | (refine caseB_intro (fun h => ?_) (fun h => ?_) <;> (try simp only [Bool.not_eq_true', Bool.not_eq_false', decide_eq_true_eq, decide_eq_false_iff_not] at h) <;> conv => whnf))
  all_goals first | (exfalso; omega) | refine ⟨_, PH.Le.refl _, ?_, rfl⟩
  all_goals first | (have e := ‹c = _›; subst e; simp [resV]; done) | (simp [resV, *]; done)
def pathT (b : ByteArray) : Bool := decide (1 ≤ (b.size : Int)) && (decide ((b.size : Int) ≤ 100) && (decide (bt b 0 = 47) && allB pathB b))
theorem isPath_ret (b : ByteArray) (M : PH) (hb : b.size ≤ maxLen) : Ret 43 [Tx b] M (B (pathT b)) := by
  refine xcall_of_vc Tryd.func43 rfl _ Tryd.ntmps43 _ rfl (fun _ _ => Tryd.call43 _ _) rfl (fun w0 ρ0 => ?_)
  conv => whnf
  refine XCall.go0 (areBytes_ret _ pathB b 1 100 _ hb (fun c _ _ => isPathByte_ret c _)) rfl ?_
  conv => whnf
  repeat' (first | (refine ⟨⟨[], rfl⟩, _, PH.Le.refl _, PH.Le.refl _, ?_⟩; conv => whnf) | (refine ⟨by omega, by (simp only [Bool.and_eq_true, decide_eq_true_eq] at h; omega), ?_⟩; conv => whnf) | (refine caseB_true ?_; conv => whnf) | (refine caseB_false ?_; conv => whnf) | ((with_reducible refine caseB_dec (fun h => ?_) (fun h => ?_)) <;> conv => whnf) | ((with_reducible refine caseB_ndec (fun h => ?_) (fun h => ?_)) <;> conv => whnf) | ((with_reducible refine caseB_not (fun h => ?_) (fun h => ?_)) <;> conv => whnf) | (with_reducible refine @And.intro (guardVC _ _ _ _ _) _ ?_ ?_) <;> conv => whnf | (refine caseB_intro (fun h => ?_) (fun h => ?_) <;> (try simp only [Bool.not_eq_true', Bool.not_eq_false', decide_eq_true_eq, decide_eq_false_iff_not] at h) <;> conv => whnf))
  all_goals refine ⟨_, PH.Le.refl _, ?_, rfl⟩
  all_goals unfold pathT
  all_goals simp only [resV]
  all_goals revert h
  all_goals cases decide (1 ≤ (b.size : Int)) <;> cases decide ((b.size : Int) ≤ 100) <;> cases allB pathB b <;> simp
theorem l5Path_ret (b : ByteArray) (M : PH) (hb : b.size ≤ maxLen) : Ret 35 [Tx b] M (B (pathT b)) := by
  have e63 : maxLen = 9223372036854775807 := rfl
  unfold pathT
  refine xcall_of_vc Tryd.func35 rfl _ Tryd.ntmps35 _ rfl (fun _ _ => Tryd.call35 _ _) rfl (fun w0 ρ0 => ?_)
  conv => whnf
  repeat' (first | (refine ⟨⟨[], rfl⟩, _, PH.Le.refl _, PH.Le.refl _, ?_⟩; conv => whnf) | (refine ⟨by omega, by omega, ?_⟩; conv => whnf) | (refine caseB_true ?_; conv => whnf) | (refine caseB_false ?_; conv => whnf) | ((with_reducible refine caseB_dec (fun h => ?_) (fun h => ?_)) <;> conv => whnf) | ((with_reducible refine caseB_ndec (fun h => ?_) (fun h => ?_)) <;> conv => whnf) | ((with_reducible refine caseB_not (fun h => ?_) (fun h => ?_)) <;> conv => whnf) | (with_reducible refine @And.intro (guardVC _ _ _ _ _) _ ?_ ?_) <;> conv => whnf | (refine caseB_intro (fun h => ?_) (fun h => ?_) <;> (try simp only [Bool.not_eq_true', Bool.not_eq_false', decide_eq_true_eq, decide_eq_false_iff_not] at h) <;> conv => whnf))
  · exact ⟨_, PH.Le.refl _, by simp [resV, pathT]; omega, rfl⟩
  · exact ⟨_, PH.Le.refl _, by simp [resV, pathT]; omega, rfl⟩
  · exact ⟨_, PH.Le.refl _, by simp [resV, pathT, *], rfl⟩
  refine loop_rule (fun i : Nat => ⟨slots 28 [(0, .v (Tx b)), (3, .v (I i))], []⟩) (fun i M' => i ≤ b.size ∧ (∀ j : Nat, j < i → pathB (bt b j) = true) ∧ M' = M) (fun i => b.size - i) 0 ?_ ?_ ?_
  · exact ⟨by simp [slots, leT], ⟨[], rfl⟩, Nat.zero_le _, rfl, rfl⟩
  · exact ⟨Nat.zero_le _, fun j hj => absurd hj (Nat.not_lt_zero _), rfl⟩
  rintro i M' ⟨hi, hp, rfl⟩
  conv => whnf
  refine caseB_dec (fun h0 => ?_) (fun h0 => ?_)
  · have h0 : (i : Int) < b.size := h0
    have hi' : i < b.size := by omega
    have hw : IntKind.i64.wrap ((i : Int) + 1) = (i : Int) + 1 := wr_id (by omega) (by omega)
    have hbt := bt_in b i
    conv => whnf
    repeat' (first | (refine ⟨⟨[], rfl⟩, _, PH.Le.refl _, PH.Le.refl _, ?_⟩; conv => whnf) | (refine ⟨by omega, by omega, ?_⟩; conv => whnf) | (refine caseB_true ?_; conv => whnf) | (refine caseB_false ?_; conv => whnf) | ((with_reducible refine caseB_dec (fun h => ?_) (fun h => ?_)) <;> conv => whnf) | ((with_reducible refine caseB_ndec (fun h => ?_) (fun h => ?_)) <;> conv => whnf) | ((with_reducible refine caseB_not (fun h => ?_) (fun h => ?_)) <;> conv => whnf) | (refine Ret.go (l5PathByte_ret _ _ hbt.1 hbt.2) ?_; conv => whnf) | (with_reducible refine @And.intro (guardVC _ _ _ _ _) _ ?_ ?_) <;> conv => whnf | (refine caseB_intro (fun h => ?_) (fun h => ?_) <;> (try simp only [Bool.not_eq_true', Bool.not_eq_false', decide_eq_true_eq, decide_eq_false_iff_not] at h) <;> conv => whnf))
    all_goals first
      | exact ⟨i + 1, ⟨by simp [slots, leT, hw], ⟨_, rfl⟩, Nat.zero_le _, rfl, rfl⟩, ⟨by omega, fun j hj => (Nat.lt_succ_iff_lt_or_eq.1 hj).elim (hp j) (fun e => by subst e; first | assumption | (simp [pathB, *]; done)), rfl⟩, by omega⟩
      | (refine ⟨_, PH.Le.refl _, ?_, rfl⟩; rw [allB_false hi' (p := pathB) (by first | assumption | (simp [pathB, *]; done))]; simp [resV]; done)
  · have hi' : i = b.size := by have : ¬ (i : Int) < b.size := h0; omega
    subst hi'
    conv => whnf
    refine ⟨_, PH.Le.refl _, ?_, rfl⟩
    rw [allB_true (p := pathB) hp]
    (simp [resV, pathT, *]; omega)

end Go.Proofs.YtnnfbjbfdoepmaaDoor
