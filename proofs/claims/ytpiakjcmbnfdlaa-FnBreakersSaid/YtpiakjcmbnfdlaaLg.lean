/-
  CONTRACTS: slices of waiting places: copied, compared.
-/
import Derived.Test.YtpiakjcmbnfdlaaLa
import Derived.Test.YtpiakjcmbnfdlaaXo
namespace Go.Proofs.Ytpiakjcmbnfdlaa
set_option maxRecDepth 100000
set_option linter.unusedSimpArgs false
set_option linter.unusedVariables false
open Go.Xe
structure Wt where
  a : Int
  b : Int
abbrev Wt.cs (x : Wt) : List Value := [I x.a, I x.b]
abbrev Wt.v (x : Wt) : Value := .agg #[I x.a, I x.b]
theorem Wt.len (x : Wt) : x.cs.length = 2 := rfl
theorem toWait_ret (x : Wt) (M : PH) : Ret 117 [x.v] M x.v := by
  refine xcall_of_vc Try.func117 rfl _ Try.ntmps117 _ rfl (fun _ _ => Try.call117 _ _) rfl (fun w0 ρ0 => ?_)
  conv => whnf
  all_goals first | (refine ⟨M, PH.Le.refl _, ?_, rfl⟩; simp [resV, *]; done) | (refine ⟨M, PH.Le.refl _, ?_, rfl, rfl⟩; simp [resV, *]; done) | (exfalso; simp_all; done)
theorem eqWait_ret (x : Wt) (M : PH) : Ret 120 [x.v, x.v] M (B true) := by
  refine xcall_of_vc Try.func120 rfl _ Try.ntmps120 _ rfl (fun _ _ => Try.call120 _ _) rfl (fun w0 ρ0 => ?_)
  conv => whnf
  repeat' (first | (refine ⟨⟨[], rfl⟩, _, PH.Le.refl _, PH.Le.refl _, ?_⟩; conv => whnf) | (refine caseB_true ?_; conv => whnf) | (refine caseB_false ?_; conv => whnf) | ((with_reducible refine caseB_dec (fun h => ?_) (fun h => ?_)) <;> conv => whnf) | ((with_reducible refine caseB_ndec (fun h => ?_) (fun h => ?_)) <;> conv => whnf) | ((with_reducible refine caseB_not (fun h => ?_) (fun h => ?_)) <;> conv => whnf) | (with_reducible refine @And.intro (guardVC _ _ _ _ _) _ ?_ ?_) <;> conv => whnf | (refine caseB_intro (fun h => ?_) (fun h => ?_) <;> (try simp only [Bool.not_eq_true', Bool.not_eq_false', decide_eq_true_eq, decide_eq_false_iff_not] at h) <;> conv => whnf))
  all_goals first | (refine ⟨M, PH.Le.refl _, ?_, rfl⟩; simp [resV, *]; done) | (refine ⟨M, PH.Le.refl _, ?_, rfl, rfl⟩; simp [resV, *]; done) | (exfalso; simp_all; done)
abbrev I0 : List Value := [I 0, I 0]
theorem toWaitS_ret (A : Option Addr) (c : Nat) (ws : List Wt) (M : PH) (hs : Sl M A 2 Wt.cs ws) (hn : ws.length ≤ 1048576) :
    ACall env 76 [.slice A ws.length c] M fun r M' => ∃ g, M g = none ∧ r = .slice (some ⟨g, 0, none⟩) ws.length ws.length ∧ M' = M.set g (.cells (ws.flatMap Wt.cs).toArray 67 (0, 0)) := by
  refine xcall_of_vc Try.func76 rfl _ Try.ntmps76 _ rfl (fun _ _ => Try.call76 _ _) rfl (fun w0 ρ0 => ?_)
  conv => whnf
  refine ⟨rfl, by omega, ?_, by omega, fun g hg => ?_⟩
  · show (16 : Int) * _ ≤ _
    omega
  conv => whnf
  refine loop_rule (fun i : Nat => ⟨slots 23 [(0, .v (.slice A ws.length c)), (2, .v (.slice none 0 0)), (3, .v (.slice (some ⟨g, 0, none⟩) ws.length ws.length)), (4, .v (I i))], []⟩)
    (fun i M' => i ≤ ws.length ∧ M' = M.set g (.cells (rowsL Wt.cs I0 (ws.take i) ws.length).toArray 67 (0, 0))) (fun i => ws.length - i) 0 ?_ ?_ ?_
  · exact ⟨by simp [slots, leT], ⟨[], rfl⟩, Nat.zero_le _, rfl, rfl⟩
  · refine ⟨Nat.zero_le _, ?_⟩
    show M.set g (.cells (madeCells #[I 0, I 0] (Int.toNat ws.length * 2)) 67 (0, 0)) = _
    rw [Int.toNat_natCast]
    exact congrArg (fun x => M.set g (.cells x 67 (0, 0))) (made_rows' Wt.cs #[I 0, I 0] ws.length)
  · rintro i M' ⟨hi, rfl⟩
    conv => whnf
    repeat' (first | (refine ⟨⟨[], rfl⟩, _, PH.Le.refl _, PH.Le.refl _, ?_⟩; conv => whnf) | (refine caseB_true ?_; conv => whnf) | (refine caseB_false ?_; conv => whnf) | ((with_reducible refine caseB_dec (fun h => ?_) (fun h => ?_)) <;> conv => whnf) | ((with_reducible refine caseB_ndec (fun h => ?_) (fun h => ?_)) <;> conv => whnf) | ((with_reducible refine caseB_not (fun h => ?_) (fun h => ?_)) <;> conv => whnf) | (with_reducible refine @And.intro (guardVC _ _ _ _ _) _ ?_ ?_) <;> conv => whnf | (refine caseB_intro (fun h => ?_) (fun h => ?_) <;> (try simp only [Bool.not_eq_true', Bool.not_eq_false', decide_eq_true_eq, decide_eq_false_iff_not] at h) <;> conv => whnf))
    · have hi' : i < ws.length := by omega
      have hw : IntKind.i64.wrap ((i : Int) + 1) = (i : Int) + 1 := wr_id (by omega) (by omega)
      obtain ⟨hA, _, hc⟩ := hs.get hi'
      refine ⟨by omega, by omega, hA, ?_⟩
      conv => whnf
      refine ⟨ws[i].cs, (PH.Le.set _ hg).cells hc, rfl, ?_⟩
      conv => whnf
      refine Ret.go (toWait_ret ws[i] _) ?_
      conv => whnf
      refine ⟨by omega, by omega, rfl, ?_⟩
      conv => whnf
      refine ⟨g, 0, rowsL Wt.cs I0 (ws.take i) ws.length, 67, rfl, PH.set_same _ _ _, ?_, ?_⟩
      · show 0 + i * 2 + 2 ≤ _
        rw [rowsL_length Wt.len rfl _ _ (by simp; omega)]
        omega
      conv => whnf
      refine ⟨i + 1, ⟨by simp [slots, leT, hw], ⟨[], rfl⟩, Nat.zero_le _, rfl, rfl⟩, ⟨by omega, ?_⟩, by omega⟩
      rw [set_set]
      show M.set g (.cells (spl (rowsL Wt.cs I0 (ws.take i) ws.length) (0 + i * 2) ws[i].cs).toArray 67 (0, 0)) = _
      rw [Nat.zero_add, rowsL_take Wt.len rfl ws hi']
    · have hi' : i = ws.length := by omega
      subst hi'
      refine ⟨_, PH.Le.refl _, g, hg, rfl, ?_⟩
      rw [List.take_length, rowsL_full]
theorem eqWaitS_ret (A A' : Option Addr) (c c' : Nat) (ws : List Wt) (M : PH) (hs : Sl M A 2 Wt.cs ws) (hs' : Sl M A' 2 Wt.cs ws) (hn : ws.length ≤ 1048576) :
    Ret 80 [.slice A ws.length c, .slice A' ws.length c'] M (B true) := by
  refine xcall_of_vc Try.func80 rfl _ Try.ntmps80 _ rfl (fun _ _ => Try.call80 _ _) rfl (fun w0 ρ0 => ?_)
  conv => whnf
  repeat' (first | (refine ⟨⟨[], rfl⟩, _, PH.Le.refl _, PH.Le.refl _, ?_⟩; conv => whnf) | (refine caseB_true ?_; conv => whnf) | (refine caseB_false ?_; conv => whnf) | ((with_reducible refine caseB_dec (fun h => ?_) (fun h => ?_)) <;> conv => whnf) | ((with_reducible refine caseB_ndec (fun h => ?_) (fun h => ?_)) <;> conv => whnf) | ((with_reducible refine caseB_not (fun h => ?_) (fun h => ?_)) <;> conv => whnf) | (with_reducible refine @And.intro (guardVC _ _ _ _ _) _ ?_ ?_) <;> conv => whnf | (refine caseB_intro (fun h => ?_) (fun h => ?_) <;> (try simp only [Bool.not_eq_true', Bool.not_eq_false', decide_eq_true_eq, decide_eq_false_iff_not] at h) <;> conv => whnf))
  · exact absurd rfl ‹_›
  refine loop_rule (fun i : Nat => ⟨slots 27 [(0, .v (.slice A ws.length c)), (1, .v (.slice A' ws.length c')), (4, .v (B false)), (5, .v (I i))], []⟩) (fun i M' => i ≤ ws.length ∧ M' = M) (fun i => ws.length - i) 0 ?_ ?_ ?_
  · exact ⟨by simp [slots, leT], ⟨[], rfl⟩, Nat.zero_le _, rfl, rfl⟩
  · exact ⟨Nat.zero_le _, rfl⟩
  · rintro i M' ⟨hi, rfl⟩
    conv => whnf
    repeat' (first | (refine ⟨⟨[], rfl⟩, _, PH.Le.refl _, PH.Le.refl _, ?_⟩; conv => whnf) | (refine caseB_true ?_; conv => whnf) | (refine caseB_false ?_; conv => whnf) | ((with_reducible refine caseB_dec (fun h => ?_) (fun h => ?_)) <;> conv => whnf) | ((with_reducible refine caseB_ndec (fun h => ?_) (fun h => ?_)) <;> conv => whnf) | ((with_reducible refine caseB_not (fun h => ?_) (fun h => ?_)) <;> conv => whnf) | (with_reducible refine @And.intro (guardVC _ _ _ _ _) _ ?_ ?_) <;> conv => whnf | (refine caseB_intro (fun h => ?_) (fun h => ?_) <;> (try simp only [Bool.not_eq_true', Bool.not_eq_false', decide_eq_true_eq, decide_eq_false_iff_not] at h) <;> conv => whnf))
    · have hi' : i < ws.length := by omega
      have hw : IntKind.i64.wrap ((i : Int) + 1) = (i : Int) + 1 := wr_id (by omega) (by omega)
      obtain ⟨hA, _, hc⟩ := hs.get hi'
      obtain ⟨hA', _, hc'⟩ := hs'.get hi'
      repeat' (first | (refine ⟨⟨[], rfl⟩, _, PH.Le.refl _, PH.Le.refl _, ?_⟩; conv => whnf) | (refine ⟨ws[i].cs, hc', rfl, ?_⟩; conv => whnf) | (refine ⟨ws[i].cs, hc, rfl, ?_⟩; conv => whnf) | (refine ⟨by omega, by omega, hA', ?_⟩; conv => whnf) | (refine ⟨by omega, by omega, hA, ?_⟩; conv => whnf) | (refine caseB_true ?_; conv => whnf) | (refine caseB_false ?_; conv => whnf) | ((with_reducible refine caseB_dec (fun h => ?_) (fun h => ?_)) <;> conv => whnf) | ((with_reducible refine caseB_ndec (fun h => ?_) (fun h => ?_)) <;> conv => whnf) | ((with_reducible refine caseB_not (fun h => ?_) (fun h => ?_)) <;> conv => whnf) | (refine draw_rule (.light 0 <| .light 1 <| .light 2 <| .light 3 <| .light 4 <| .light 5 <| .light 6 <| .light 7 <| .alt 8 false (.light 9 <| .done) .nil) (by decide +kernel) ?_; conv => whnf) | (refine Ret.go (eqWait_ret ws[i] _) ?_; conv => whnf) | (with_reducible refine @And.intro (guardVC _ _ _ _ _) _ ?_ ?_) <;> conv => whnf | (refine caseB_intro (fun h => ?_) (fun h => ?_) <;> (try simp only [Bool.not_eq_true', Bool.not_eq_false', decide_eq_true_eq, decide_eq_false_iff_not] at h) <;> conv => whnf))
      exact ⟨i + 1, ⟨by simp [slots, leT, hw], ⟨[], rfl⟩, Nat.zero_le _, rfl, rfl⟩, ⟨by omega, rfl⟩, by omega⟩
    · exact ⟨_, PH.Le.refl _, rfl, rfl⟩
theorem wt_eq (x y : Wt) : (decide (x.a = y.a) && (decide (x.b = y.b) && true)) = true ↔ x = y := by
  cases x; cases y; simp
theorem equalWaits_ret (A A' : Option Addr) (c c' : Nat) (ws us : List Wt) (M : PH) (hs : Sl M A 2 Wt.cs ws) (hs' : Sl M A' 2 Wt.cs us) (hn : ws.length ≤ 1048576) :
    Ret 113 [.slice A ws.length c, .slice A' us.length c'] M (B (sameB ws us)) := by
  refine xcall_of_vc Try.func113 rfl _ Try.ntmps113 _ rfl (fun _ _ => Try.call113 _ _) rfl (fun w0 ρ0 => ?_)
  conv => whnf
  repeat' (first | (refine ⟨⟨[], rfl⟩, _, PH.Le.refl _, PH.Le.refl _, ?_⟩; conv => whnf) | (refine caseB_true ?_; conv => whnf) | (refine caseB_false ?_; conv => whnf) | ((with_reducible refine caseB_dec (fun h => ?_) (fun h => ?_)) <;> conv => whnf) | ((with_reducible refine caseB_ndec (fun h => ?_) (fun h => ?_)) <;> conv => whnf) | ((with_reducible refine caseB_not (fun h => ?_) (fun h => ?_)) <;> conv => whnf) | (with_reducible refine @And.intro (guardVC _ _ _ _ _) _ ?_ ?_) <;> conv => whnf | (refine caseB_intro (fun h => ?_) (fun h => ?_) <;> (try simp only [Bool.not_eq_true', Bool.not_eq_false', decide_eq_true_eq, decide_eq_false_iff_not] at h) <;> conv => whnf))
  · refine ⟨_, PH.Le.refl _, ?_, rfl⟩
    rw [sameB_false (fun e => by subst e; simp_all)]
    rfl
  refine loop_rule (fun i : Nat => ⟨slots 26 [(0, .v (.slice A ws.length c)), (1, .v (.slice A' us.length c')), (4, .v (B false)), (12, .v (I ws.length)), (13, .v (I i))], []⟩) (fun i M' => i ≤ ws.length ∧ ws.take i = us.take i ∧ M' = M) (fun i => ws.length - i) 0 ?_ ?_ ?_
  · exact ⟨by simp [slots, leT], ⟨[], rfl⟩, Nat.zero_le _, rfl, rfl⟩
  · exact ⟨Nat.zero_le _, rfl, rfl⟩
  · rintro i M' ⟨hi, ht, rfl⟩
    conv => whnf
    repeat' (first | (refine ⟨⟨[], rfl⟩, _, PH.Le.refl _, PH.Le.refl _, ?_⟩; conv => whnf) | (refine caseB_true ?_; conv => whnf) | (refine caseB_false ?_; conv => whnf) | ((with_reducible refine caseB_dec (fun h => ?_) (fun h => ?_)) <;> conv => whnf) | ((with_reducible refine caseB_ndec (fun h => ?_) (fun h => ?_)) <;> conv => whnf) | ((with_reducible refine caseB_not (fun h => ?_) (fun h => ?_)) <;> conv => whnf) | (with_reducible refine @And.intro (guardVC _ _ _ _ _) _ ?_ ?_) <;> conv => whnf | (refine caseB_intro (fun h => ?_) (fun h => ?_) <;> (try simp only [Bool.not_eq_true', Bool.not_eq_false', decide_eq_true_eq, decide_eq_false_iff_not] at h) <;> conv => whnf))
    · have hi' : i < ws.length := by omega
      have hi2 : i < us.length := by omega
      have hw : IntKind.i64.wrap ((i : Int) + 1) = (i : Int) + 1 := wr_id (by omega) (by omega)
      obtain ⟨hA, _, hc⟩ := hs.get hi'
      obtain ⟨hA', _, hc'⟩ := hs'.get hi2
      repeat' (first | (refine ⟨⟨[], rfl⟩, _, PH.Le.refl _, PH.Le.refl _, ?_⟩; conv => whnf) | (refine ⟨us[i].cs, hc', rfl, ?_⟩; conv => whnf) | (refine ⟨ws[i].cs, hc, rfl, ?_⟩; conv => whnf) | (refine ⟨by omega, by omega, hA', ?_⟩; conv => whnf) | (refine ⟨by omega, by omega, hA, ?_⟩; conv => whnf) | (refine caseB_true ?_; conv => whnf) | (refine caseB_false ?_; conv => whnf) | ((with_reducible refine caseB_dec (fun h => ?_) (fun h => ?_)) <;> conv => whnf) | ((with_reducible refine caseB_ndec (fun h => ?_) (fun h => ?_)) <;> conv => whnf) | ((with_reducible refine caseB_not (fun h => ?_) (fun h => ?_)) <;> conv => whnf) | (refine draw_rule (.light 0 <| .light 1 <| .light 2 <| .light 3 <| .light 4 <| .light 5 <| .light 6 <| .light 7 <| .light 8 <| .done) (by decide +kernel) ?_; conv => whnf) | (with_reducible refine @And.intro (guardVC _ _ _ _ _) _ ?_ ?_) <;> conv => whnf | (refine caseB_intro (fun h => ?_) (fun h => ?_) <;> (try simp only [Bool.not_eq_true', Bool.not_eq_false', decide_eq_true_eq, decide_eq_false_iff_not] at h) <;> conv => whnf))
      · rename_i h
        refine ⟨_, PH.Le.refl _, ?_, rfl⟩
        rw [sameB_false (fun e => by subst e; simp at h)]
        rfl
      · rename_i h
        rw [wt_eq] at h
        exact ⟨i + 1, ⟨by simp [slots, leT, hw], ⟨[], rfl⟩, Nat.zero_le _, rfl, rfl⟩, ⟨by omega, take_step ht hi' hi2 h, rfl⟩, by omega⟩
    · refine ⟨_, PH.Le.refl _, ?_, rfl⟩
      rw [sameB_true (take_all ht (by omega) (by omega))]
      rfl

/-! ### The whole -/
def sz (n : Int) (l : Nat) : Int := if wr (n - l) < 0 then -1 else wr (n - l)
theorem sz_in {n : Int} {l : Nat} (h0 : 0 ≤ n) (h1 : n ≤ 1048576) (hl : l ≤ maxLen) (h : ¬ sz n l < 0) : sz n l = n - l ∧ (l : Int) ≤ n := by
  have e : maxLen = 9223372036854775807 := rfl
  unfold sz at *
  rw [wr_id (by omega) (by omega)] at *
  split at * <;> omega
theorem szWaitS_ret (A : Option Addr) (c : Nat) (ws : List Wt) (n : Int) (M : PH) : Ret 75 [.slice A ws.length c, I n] M (I (sz n ws.length)) := by
  refine xcall_of_vc Try.func75 rfl _ Try.ntmps75 _ rfl (fun _ _ => Try.call75 _ _) rfl (fun w0 ρ0 => ?_)
  conv => whnf
  repeat' (first | (refine ⟨⟨[], rfl⟩, _, PH.Le.refl _, PH.Le.refl _, ?_⟩; conv => whnf) | (refine caseB_true ?_; conv => whnf) | (refine caseB_false ?_; conv => whnf) | ((with_reducible refine caseB_dec (fun h => ?_) (fun h => ?_)) <;> conv => whnf) | ((with_reducible refine caseB_ndec (fun h => ?_) (fun h => ?_)) <;> conv => whnf) | ((with_reducible refine caseB_not (fun h => ?_) (fun h => ?_)) <;> conv => whnf) | (with_reducible refine @And.intro (guardVC _ _ _ _ _) _ ?_ ?_) <;> conv => whnf | (refine caseB_intro (fun h => ?_) (fun h => ?_) <;> (try simp only [Bool.not_eq_true', Bool.not_eq_false', decide_eq_true_eq, decide_eq_false_iff_not] at h) <;> conv => whnf))
  all_goals first | (refine ⟨M, PH.Le.refl _, ?_, rfl⟩; simp [resV, sz, *]; done) | (refine ⟨M, PH.Le.refl _, ?_, rfl, rfl⟩; simp [resV, sz, *]; done) | (exfalso; simp_all; done)
abbrev bulkV (k : Int) (A : Option Addr) (n c : Nat) : Value := .agg #[I k, .slice A n c]
theorem szBulk_ret (k : Int) (A : Option Addr) (c : Nat) (ws : List Wt) (n : Int) (M : PH) : Ret 19 [bulkV k A ws.length c, I n] M (I (sz n ws.length)) := by
  refine xcall_of_vc Try.func19 rfl _ Try.ntmps19 _ rfl (fun _ _ => Try.call19 _ _) rfl (fun w0 ρ0 => ?_)
  conv => whnf
  repeat' (first | (refine ⟨⟨[], rfl⟩, _, PH.Le.refl _, PH.Le.refl _, ?_⟩; conv => whnf) | (refine caseB_true ?_; conv => whnf) | (refine caseB_false ?_; conv => whnf) | ((with_reducible refine caseB_dec (fun h => ?_) (fun h => ?_)) <;> conv => whnf) | ((with_reducible refine caseB_ndec (fun h => ?_) (fun h => ?_)) <;> conv => whnf) | ((with_reducible refine caseB_not (fun h => ?_) (fun h => ?_)) <;> conv => whnf) | (refine Ret.go (szWaitS_ret A c ws n _) ?_; conv => whnf) | (with_reducible refine @And.intro (guardVC _ _ _ _ _) _ ?_ ?_) <;> conv => whnf | (refine caseB_intro (fun h => ?_) (fun h => ?_) <;> (try simp only [Bool.not_eq_true', Bool.not_eq_false', decide_eq_true_eq, decide_eq_false_iff_not] at h) <;> conv => whnf))
  all_goals refine ⟨M, PH.Le.refl _, ?_, rfl⟩
  all_goals simp only [resV]
  · have : sz n ws.length = -1 := by unfold sz at *; split at * <;> omega
    rw [this]
theorem toBulk_ret (k : Int) (A : Option Addr) (c : Nat) (ws : List Wt) (M : PH) (hs : Sl M A 2 Wt.cs ws) (hn : ws.length ≤ 1048576) :
    ACall env 21 [bulkV k A ws.length c] M fun r M' => ∃ g, M g = none ∧ r = bulkV k (some ⟨g, 0, none⟩) ws.length ws.length ∧ M' = M.set g (.cells (ws.flatMap Wt.cs).toArray 67 (0, 0)) := by
  refine xcall_of_vc Try.func21 rfl _ Try.ntmps21 _ rfl (fun _ _ => Try.call21 _ _) rfl (fun w0 ρ0 => ?_)
  conv => whnf
  refine ACall.step (toWaitS_ret A c ws M hs hn) fun r M' h => ?_
  obtain ⟨g, hg, rfl, rfl⟩ := h
  conv => whnf
  exact ⟨_, PH.Le.refl _, g, hg, rfl, rfl⟩
theorem toBulk_new (k : Int) (A : Option Addr) (c : Nat) (ws : List Wt) (M : PH) (hs : Sl M A 2 Wt.cs ws) (hn : ws.length ≤ 1048576) :
    ACall env 21 [bulkV k A ws.length c] M fun r M' => ∃ g, r = bulkV k (some ⟨g, 0, none⟩) ws.length ws.length ∧ M.Le M' ∧ Sl M' (some ⟨g, 0, none⟩) 2 Wt.cs ws :=
  (toBulk_ret k A c ws M hs hn).mono fun r M' ⟨g, hg, hr, hM⟩ => by
    subst hM
    exact ⟨g, hr, PH.Le.set _ hg, sl_full Wt.len _ g ws 67 (0, 0)⟩
theorem eqBulk_ret (k : Int) (A A' : Option Addr) (c c' : Nat) (ws : List Wt) (M : PH) (hs : Sl M A 2 Wt.cs ws) (hs' : Sl M A' 2 Wt.cs ws) (hn : ws.length ≤ 1048576) :
    Ret 24 [bulkV k A ws.length c, bulkV k A' ws.length c'] M (B true) := by
  refine xcall_of_vc Try.func24 rfl _ Try.ntmps24 _ rfl (fun _ _ => Try.call24 _ _) rfl (fun w0 ρ0 => ?_)
  conv => whnf
  repeat' (first | (refine ⟨⟨[], rfl⟩, _, PH.Le.refl _, PH.Le.refl _, ?_⟩; conv => whnf) | (refine caseB_true ?_; conv => whnf) | (refine caseB_false ?_; conv => whnf) | ((with_reducible refine caseB_dec (fun h => ?_) (fun h => ?_)) <;> conv => whnf) | ((with_reducible refine caseB_ndec (fun h => ?_) (fun h => ?_)) <;> conv => whnf) | ((with_reducible refine caseB_not (fun h => ?_) (fun h => ?_)) <;> conv => whnf) | (refine Ret.go (eqWaitS_ret A A' c c' ws _ hs hs' hn) ?_; conv => whnf) | (with_reducible refine @And.intro (guardVC _ _ _ _ _) _ ?_ ?_) <;> conv => whnf | (refine caseB_intro (fun h => ?_) (fun h => ?_) <;> (try simp only [Bool.not_eq_true', Bool.not_eq_false', decide_eq_true_eq, decide_eq_false_iff_not] at h) <;> conv => whnf))
  all_goals first | (refine ⟨M, PH.Le.refl _, ?_, rfl⟩; simp [resV, *]; done) | (refine ⟨M, PH.Le.refl _, ?_, rfl, rfl⟩; simp [resV, *]; done) | (exfalso; simp_all; done)
theorem sameBulks_impl (k k' : Int) (A A' : Option Addr) (c c' : Nat) (ws us : List Wt) (M : PH) (hs : Sl M A 2 Wt.cs ws) (hs' : Sl M A' 2 Wt.cs us) (hn : ws.length ≤ 1048576) :
    Ret 63 [bulkV k A ws.length c, bulkV k' A' us.length c'] M (B (decide (k = k') && sameB ws us)) := by
  refine xcall_of_vc Try.func63 rfl _ Try.ntmps63 _ rfl (fun _ _ => Try.call63 _ _) rfl (fun w0 ρ0 => ?_)
  conv => whnf
  repeat' (first | (refine ⟨⟨[], rfl⟩, _, PH.Le.refl _, PH.Le.refl _, ?_⟩; conv => whnf) | (refine caseB_true ?_; conv => whnf) | (refine caseB_false ?_; conv => whnf) | ((with_reducible refine caseB_dec (fun h => ?_) (fun h => ?_)) <;> conv => whnf) | ((with_reducible refine caseB_ndec (fun h => ?_) (fun h => ?_)) <;> conv => whnf) | ((with_reducible refine caseB_not (fun h => ?_) (fun h => ?_)) <;> conv => whnf) | (refine Ret.go (equalWaits_ret A A' c c' ws us _ hs hs' hn) ?_; conv => whnf) | (with_reducible refine @And.intro (guardVC _ _ _ _ _) _ ?_ ?_) <;> conv => whnf | (refine caseB_intro (fun h => ?_) (fun h => ?_) <;> (try simp only [Bool.not_eq_true', Bool.not_eq_false', decide_eq_true_eq, decide_eq_false_iff_not] at h) <;> conv => whnf))
  all_goals first | (refine ⟨M, PH.Le.refl _, ?_, rfl⟩; simp [resV, *]; done) | (refine ⟨M, PH.Le.refl _, ?_, rfl, rfl⟩; simp [resV, *]; done) | (exfalso; simp_all; done)
theorem openBulk {H : Type} {enc : TypeId × Value → H} {W : World} {base : Nat} {v : Value} {d : DataW H} {p : List MemPlace} (hv : Value.okWide Try.prog W .any base 35 v)
    (h : DataW.Trod enc Try.prog W 0 (fun _ => true) true 35 v d p) : ∃ (k : Int) (A : Option Addr) (c : Nat) (ws : List Wt), v = bulkV k A ws.length c ∧ Sl (whole W) A 2 Wt.cs ws ∧ ws.length ≤ maxLen := by
  obtain ⟨cs, rfl, hs⟩ := open_arg env 9 (ti := ti35) (by kernel_rfl) (s := .fcons (.int .i64) 1 (.fcons (.slice (.fcons (.int .i64) 1 (.fcons (.int .i64) 1 .fnil)) 2) 1 .fnil)) (by kernel_rfl) hv h
  obtain ⟨_, _, _, ⟨n0, _, rfl⟩, ⟨_, _, _, hsl, rfl, rfl⟩, rfl⟩ := hs
  obtain ⟨A, c, ws, rfl, hS, hl⟩ := open_sl Wt.cs (fun es h => by
    obtain ⟨_, _, _, ⟨a, _, rfl⟩, ⟨_, _, _, ⟨b, _, rfl⟩, rfl, rfl⟩, rfl⟩ := h
    exact ⟨⟨a, b⟩, rfl⟩) hsl
  exact ⟨n0, A, c, ws, rfl, hS, hl⟩
end Go.Proofs.Ytpiakjcmbnfdlaa
