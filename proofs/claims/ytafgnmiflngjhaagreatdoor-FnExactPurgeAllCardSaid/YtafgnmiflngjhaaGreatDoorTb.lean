/-
  TEXTS: words, plain texts, hosts, paths; small letters; blanks at both ends.
-/
import Derived.Test.YtafgnmiflngjhaaGreatDoorTa
namespace Go.Proofs.YtafgnmiflngjhaaGreatDoor
set_option maxRecDepth 100000
set_option linter.unusedSimpArgs false
set_option linter.unusedVariables false
open Go.Xe
theorem areBytes_ret (g : FuncId) (p : Int → Bool) (b : ByteArray) (lo hi : Int) (M : PH) (hb : b.size ≤ maxLen) (hg : ∀ c, 0 ≤ c → c ≤ 255 → Ret g [Y c] M (B (p c))) :
    XCall env 219 [.v (Tx b), .v (I lo), .v (I hi), .fn g []] [] M fun r bx M' => r = B (decide (lo ≤ (b.size : Int)) && (decide ((b.size : Int) ≤ hi) && allB p b)) ∧ bx = [] ∧ M' = M := by
  have e63 : maxLen = 9223372036854775807 := rfl
  refine xcall_of_vc Tryz.func219 rfl _ Tryz.ntmps219 _ rfl (fun _ _ => Tryz.call219 _ _) rfl (fun w0 ρ0 => ?_)
  conv => whnf
  repeat' (first | (refine ⟨⟨[], rfl⟩, _, PH.Le.refl _, PH.Le.refl _, ?_⟩; conv => whnf) | (refine caseB_true ?_; conv => whnf) | (refine caseB_false ?_; conv => whnf) | ((with_reducible refine caseB_dec (fun h => ?_) (fun h => ?_)) <;> conv => whnf) | ((with_reducible refine caseB_ndec (fun h => ?_) (fun h => ?_)) <;> conv => whnf) | ((with_reducible refine caseB_not (fun h => ?_) (fun h => ?_)) <;> conv => whnf) | (with_reducible refine @And.intro (guardVC _ _ _ _ _) _ ?_ ?_) <;> conv => whnf | (refine caseB_intro (fun h => ?_) (fun h => ?_) <;> (try simp only [Bool.not_eq_true', Bool.not_eq_false', decide_eq_true_eq, decide_eq_false_iff_not] at h) <;> conv => whnf))
  · exact ⟨_, PH.Le.refl _, by rw [decide_eq_false (by omega)]; rfl, rfl, rfl⟩
  · exact ⟨_, PH.Le.refl _, by rw [decide_eq_false (p := (b.size : Int) ≤ hi) (by omega)]; simp [resV], rfl, rfl⟩
  rename_i h2
  rw [decide_eq_true (p := lo ≤ (b.size : Int)) (by omega), decide_eq_true (p := (b.size : Int) ≤ hi) (by omega), Bool.true_and, Bool.true_and]
  refine loop_rule (fun i : Nat => ⟨slots 32 [(0, .v (Tx b)), (3, .fn g []), (21, .v (I b.size)), (22, .v (I i))], []⟩) (fun i M' => i ≤ b.size ∧ (∀ j : Nat, j < i → p (bt b j) = true) ∧ M' = M) (fun i => b.size - i) 0 ?_ ?_ ?_
  · exact ⟨by simp [slots, leT], ⟨[], rfl⟩, Nat.zero_le _, rfl, rfl⟩
  · exact ⟨Nat.zero_le _, fun j hj => absurd hj (Nat.not_lt_zero _), rfl⟩
  rintro i M' ⟨hi0, hp, rfl⟩
  conv => whnf
  refine caseB_dec (fun h0 => ?_) (fun h0 => ?_)
  · have h0 : (i : Int) < b.size := h0
    have hi' : i < b.size := by omega
    have hw : IntKind.i64.wrap ((i : Int) + 1) = (i : Int) + 1 := wr_id (by omega) (by omega)
    have hbt := bt_in b i
    conv => whnf
    refine ⟨by omega, by omega, ?_⟩
    conv => whnf
    refine Ret.go (hg _ hbt.1 hbt.2) ?_
    conv => whnf
    refine caseB_not (fun h => ?_) (fun h => ?_)
    · conv => whnf
      exact ⟨_, PH.Le.refl _, by rw [allB_false hi' h]; rfl, rfl, rfl⟩
    · conv => whnf
      exact ⟨i + 1, ⟨by simp [slots, leT, hw], ⟨_, rfl⟩, Nat.zero_le _, rfl, rfl⟩, ⟨by omega, fun j hj => (Nat.lt_succ_iff_lt_or_eq.1 hj).elim (hp j) (fun e => by subst e; exact h), rfl⟩, by omega⟩
  · have hi' : i = b.size := by have : ¬ (i : Int) < b.size := h0; omega
    subst hi'
    conv => whnf
    exact ⟨_, PH.Le.refl _, by rw [allB_true hp]; rfl, rfl, rfl⟩
def wordT (b : ByteArray) : Bool := decide (1 ≤ (b.size : Int)) && (decide ((b.size : Int) ≤ 64) && allB wordB b)
theorem isWord_impl (b : ByteArray) (M : PH) (hb : b.size ≤ maxLen) : Ret 207 [Tx b] M (B (wordT b)) := by
  refine xcall_of_vc Tryz.func207 rfl _ Tryz.ntmps207 _ rfl (fun _ _ => Tryz.call207 _ _) rfl (fun w0 ρ0 => ?_)
  conv => whnf
  refine XCall.go0 (areBytes_ret _ wordB b 1 64 _ hb (fun c _ _ => isWordByte_ret c _)) rfl ?_
  conv => whnf
  exact ⟨_, PH.Le.refl _, rfl, rfl⟩
theorem isWord_spec (b : ByteArray) (M : PH) (hb : b.size ≤ maxLen) : Ret 210 [Tx b] M (B (wordT b)) := by
  have e63 : maxLen = 9223372036854775807 := rfl
  unfold wordT
  refine xcall_of_vc Tryz.func210 rfl _ Tryz.ntmps210 _ rfl (fun _ _ => Tryz.call210 _ _) rfl (fun w0 ρ0 => ?_)
  conv => whnf
  repeat' (first | (refine ⟨⟨[], rfl⟩, _, PH.Le.refl _, PH.Le.refl _, ?_⟩; conv => whnf) | (refine caseB_true ?_; conv => whnf) | (refine caseB_false ?_; conv => whnf) | ((with_reducible refine caseB_dec (fun h => ?_) (fun h => ?_)) <;> conv => whnf) | ((with_reducible refine caseB_ndec (fun h => ?_) (fun h => ?_)) <;> conv => whnf) | ((with_reducible refine caseB_not (fun h => ?_) (fun h => ?_)) <;> conv => whnf) | (with_reducible refine @And.intro (guardVC _ _ _ _ _) _ ?_ ?_) <;> conv => whnf | (refine caseB_intro (fun h => ?_) (fun h => ?_) <;> (try simp only [Bool.not_eq_true', Bool.not_eq_false', decide_eq_true_eq, decide_eq_false_iff_not] at h) <;> conv => whnf))
  · exact ⟨_, PH.Le.refl _, by simp [resV, wordT]; omega, rfl⟩
  · exact ⟨_, PH.Le.refl _, by simp [resV, wordT]; omega, rfl⟩
  refine loop_rule (fun i : Nat => ⟨slots 23 [(0, .v (Tx b)), (3, .v (I i))], []⟩) (fun i M' => i ≤ b.size ∧ (∀ j : Nat, j < i → wordB (bt b j) = true) ∧ M' = M) (fun i => b.size - i) 0 ?_ ?_ ?_
  · exact ⟨by simp [slots, leT], ⟨[], rfl⟩, Nat.zero_le _, rfl, rfl⟩
  · exact ⟨Nat.zero_le _, fun j hj => absurd hj (Nat.not_lt_zero _), rfl⟩
  rintro i M' ⟨hi, hp, rfl⟩
  conv => whnf
  refine caseB_dec (fun h0 => ?_) (fun h0 => ?_)
  · have h0 : (i : Int) < b.size := h0
    have hi' : i < b.size := by omega
    have hw : IntKind.i64.wrap ((i : Int) + 1) = (i : Int) + 1 := wr_id (by omega) (by omega)
    have hbt := bt_in b i
    conv => whnf
    repeat' (first | (refine ⟨⟨[], rfl⟩, _, PH.Le.refl _, PH.Le.refl _, ?_⟩; conv => whnf) | (refine ⟨by omega, by omega, ?_⟩; conv => whnf) | (refine caseB_true ?_; conv => whnf) | (refine caseB_false ?_; conv => whnf) | ((with_reducible refine caseB_dec (fun h => ?_) (fun h => ?_)) <;> conv => whnf) | ((with_reducible refine caseB_ndec (fun h => ?_) (fun h => ?_)) <;> conv => whnf) | ((with_reducible refine caseB_not (fun h => ?_) (fun h => ?_)) <;> conv => whnf) | (refine Ret.go (l1WordByte_ret _ _ hbt.1 hbt.2) ?_; conv => whnf) | (with_reducible refine @And.intro (guardVC _ _ _ _ _) _ ?_ ?_) <;> conv => whnf | (refine caseB_intro (fun h => ?_) (fun h => ?_) <;> (try simp only [Bool.not_eq_true', Bool.not_eq_false', decide_eq_true_eq, decide_eq_false_iff_not] at h) <;> conv => whnf))
    all_goals first
      | exact ⟨i + 1, ⟨by simp [slots, leT, hw], ⟨_, rfl⟩, Nat.zero_le _, rfl, rfl⟩, ⟨by omega, fun j hj => (Nat.lt_succ_iff_lt_or_eq.1 hj).elim (hp j) (fun e => by subst e; first | assumption | (simp [wordB, *]; done)), rfl⟩, by omega⟩
      | (refine ⟨_, PH.Le.refl _, ?_, rfl⟩; rw [allB_false hi' (p := wordB) (by first | assumption | (simp [wordB, *]; done))]; simp [resV]; done)
  · have hi' : i = b.size := by have : ¬ (i : Int) < b.size := h0; omega
    subst hi'
    conv => whnf
    refine ⟨_, PH.Le.refl _, ?_, rfl⟩
    rw [allB_true (p := wordB) hp]
    (simp [resV, wordT]; omega)

def plainB (c : Int) : Bool := decide (c = 9) || (decide (32 ≤ c) && decide (c ≤ 126))
theorem l2Plain_ret (c : Int) (M : PH) : Ret 230 [Y c] M (B (plainB c)) := by
  refine xcall_of_vc Tryz.func230 rfl _ Tryz.ntmps230 _ rfl (fun _ _ => Tryz.call230 _ _) rfl (fun w0 ρ0 => ?_)
  conv => whnf
  repeat' (first | (refine ⟨⟨[], rfl⟩, _, PH.Le.refl _, PH.Le.refl _, ?_⟩; conv => whnf) | (refine caseB_true ?_; conv => whnf) | (refine caseB_false ?_; conv => whnf) | ((with_reducible refine caseB_dec (fun h => ?_) (fun h => ?_)) <;> conv => whnf) | ((with_reducible refine caseB_ndec (fun h => ?_) (fun h => ?_)) <;> conv => whnf) | ((with_reducible refine caseB_not (fun h => ?_) (fun h => ?_)) <;> conv => whnf) | (with_reducible refine @And.intro (guardVC _ _ _ _ _) _ ?_ ?_) <;> conv => whnf | (refine caseB_intro (fun h => ?_) (fun h => ?_) <;> (try simp only [Bool.not_eq_true', Bool.not_eq_false', decide_eq_true_eq, decide_eq_false_iff_not] at h) <;> conv => whnf))
  all_goals refine ⟨_, PH.Le.refl _, ?_, rfl⟩
  all_goals simp [resV, plainB, *] <;> omega
theorem isPlain_ret (c : Int) (M : PH) : Ret 221 [Y c] M (B (plainB c)) := by
  refine xcall_of_vc Tryz.func221 rfl _ Tryz.ntmps221 _ rfl (fun _ _ => Tryz.call221 _ _) rfl (fun w0 ρ0 => ?_)
  conv => whnf
  repeat' (first | (refine ⟨⟨[], rfl⟩, _, PH.Le.refl _, PH.Le.refl _, ?_⟩; conv => whnf) | (refine caseB_true ?_; conv => whnf) | (refine caseB_false ?_; conv => whnf) | ((with_reducible refine caseB_dec (fun h => ?_) (fun h => ?_)) <;> conv => whnf) | ((with_reducible refine caseB_ndec (fun h => ?_) (fun h => ?_)) <;> conv => whnf) | ((with_reducible refine caseB_not (fun h => ?_) (fun h => ?_)) <;> conv => whnf) | (with_reducible refine @And.intro (guardVC _ _ _ _ _) _ ?_ ?_) <;> conv => whnf | (refine caseB_intro (fun h => ?_) (fun h => ?_) <;> (try simp only [Bool.not_eq_true', Bool.not_eq_false', decide_eq_true_eq, decide_eq_false_iff_not] at h) <;> conv => whnf))
  all_goals refine ⟨_, PH.Le.refl _, ?_, rfl⟩
  all_goals simp [resV, plainB, *] <;> omega
theorem plain_spec (b : ByteArray) (M : PH) (hb : b.size ≤ maxLen) : Ret 211 [Tx b] M (B (allB plainB b)) := by
  have e63 : maxLen = 9223372036854775807 := rfl
  refine xcall_of_vc Tryz.func211 rfl _ Tryz.ntmps211 _ rfl (fun _ _ => Tryz.call211 _ _) rfl (fun w0 ρ0 => ?_)
  conv => whnf
  refine loop_rule (fun i : Nat => ⟨slots 15 [(0, .v (Tx b)), (3, .v (I i))], []⟩) (fun i M' => i ≤ b.size ∧ (∀ j : Nat, j < i → plainB (bt b j) = true) ∧ M' = M) (fun i => b.size - i) 0 ?_ ?_ ?_
  · exact ⟨by simp [slots, leT], ⟨[], rfl⟩, Nat.zero_le _, rfl, rfl⟩
  · exact ⟨Nat.zero_le _, fun j hj => absurd hj (Nat.not_lt_zero _), rfl⟩
  rintro i M' ⟨hi, hp, rfl⟩
  conv => whnf
  refine caseB_dec (fun h0 => ?_) (fun h0 => ?_)
  · have h0 : (i : Int) < b.size := h0
    have hi' : i < b.size := by omega
    have hw : IntKind.i64.wrap ((i : Int) + 1) = (i : Int) + 1 := wr_id (by omega) (by omega)
    have hbt := bt_in b i
    conv => whnf
    repeat' (first | (refine ⟨⟨[], rfl⟩, _, PH.Le.refl _, PH.Le.refl _, ?_⟩; conv => whnf) | (refine ⟨by omega, by omega, ?_⟩; conv => whnf) | (refine caseB_true ?_; conv => whnf) | (refine caseB_false ?_; conv => whnf) | ((with_reducible refine caseB_dec (fun h => ?_) (fun h => ?_)) <;> conv => whnf) | ((with_reducible refine caseB_ndec (fun h => ?_) (fun h => ?_)) <;> conv => whnf) | ((with_reducible refine caseB_not (fun h => ?_) (fun h => ?_)) <;> conv => whnf) | (refine Ret.go (l2Plain_ret _ _) ?_; conv => whnf) | (with_reducible refine @And.intro (guardVC _ _ _ _ _) _ ?_ ?_) <;> conv => whnf | (refine caseB_intro (fun h => ?_) (fun h => ?_) <;> (try simp only [Bool.not_eq_true', Bool.not_eq_false', decide_eq_true_eq, decide_eq_false_iff_not] at h) <;> conv => whnf))
    all_goals first
      | exact ⟨i + 1, ⟨by simp [slots, leT, hw], ⟨_, rfl⟩, Nat.zero_le _, rfl, rfl⟩, ⟨by omega, fun j hj => (Nat.lt_succ_iff_lt_or_eq.1 hj).elim (hp j) (fun e => by subst e; first | assumption | (simp [plainB, *]; done)), rfl⟩, by omega⟩
      | (refine ⟨_, PH.Le.refl _, ?_, rfl⟩; rw [allB_false hi' (p := plainB) (by first | assumption | (simp [plainB, *]; done))]; simp [resV]; done)
  · have hi' : i = b.size := by have : ¬ (i : Int) < b.size := h0; omega
    subst hi'
    conv => whnf
    refine ⟨_, PH.Le.refl _, ?_, rfl⟩
    rw [allB_true (p := plainB) hp]
    simp [resV]

theorem plain_impl (b : ByteArray) (M : PH) (hb : b.size ≤ maxLen) : Ret 208 [Tx b] M (B (allB plainB b)) := by
  refine xcall_of_vc Tryz.func208 rfl _ Tryz.ntmps208 _ rfl (fun _ _ => Tryz.call208 _ _) rfl (fun w0 ρ0 => ?_)
  conv => whnf
  refine XCall.go0 (areBytes_ret _ plainB b 0 b.size _ hb (fun c _ _ => isPlain_ret c _)) rfl ?_
  conv => whnf
  exact ⟨_, PH.Le.refl _, by simp [resV], rfl⟩
def hostB (c : Int) : Bool := letterB c || (digitB c || (decide (c = 46) || decide (c = 45)))
def hostT (b : ByteArray) : Bool := decide (1 ≤ (b.size : Int)) && (decide ((b.size : Int) ≤ 60) && allB hostB b)
def pathS : List UInt8 := [47, 63, 61, 38, 58, 64, 44, 59, 40, 41]
def pathB (c : Int) : Bool := wordB c || setB pathS c
theorem pathS_eq {c : Int} (h0 : 0 ≤ c) (h1 : c ≤ 255) : setB pathS c = (decide (c = 47) || (decide (c = 63) || (decide (c = 61) || (decide (c = 38) || (decide (c = 58) || (decide (c = 64) || (decide (c = 44) || (decide (c = 59) || (decide (c = 40) || (decide (c = 41) || false)))))))))) := by
  unfold pathS
  simp only [setB_cons _ _ h0 h1, setB_nil]
  rfl
def pathT (b : ByteArray) : Bool := decide (1 ≤ (b.size : Int)) && (decide ((b.size : Int) ≤ 100) && (decide (bt b 0 = 47) && allB pathB b))
end Go.Proofs.YtafgnmiflngjhaaGreatDoor
