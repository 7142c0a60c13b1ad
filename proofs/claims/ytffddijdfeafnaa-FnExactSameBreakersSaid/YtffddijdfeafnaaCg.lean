/-
  CONTRACTS: slices of waiting places: copied, compared.
-/
import Derived.Test.YtffddijdfeafnaaCa
import Derived.Test.YtffddijdfeafnaaXs
namespace Go.Proofs.Ytffddijdfeafnaa
set_option maxRecDepth 100000
set_option linter.unusedSimpArgs false
open Go.Xe
structure Wt where
  a : Int
  b : Int
abbrev Wt.cs (x : Wt) : List Value := [I x.a, I x.b]
abbrev Wt.v (x : Wt) : Value := .agg #[I x.a, I x.b]
theorem Wt.len (x : Wt) : x.cs.length = 2 := rfl
theorem toWait_ret (x : Wt) (M : PH) : Ret 93 [x.v] M x.v := by
  refine xcall_of_vc Try.func93 rfl _ Try.ntmps93 _ rfl (fun _ _ => Try.call93 _ _) rfl (fun w0 ρ0 => ?_)
  conv => whnf
  all_goals first | (refine ⟨M, PH.Le.refl _, ?_, rfl⟩; simp [resV, *]; done) | (refine ⟨M, PH.Le.refl _, ?_, rfl, rfl⟩; simp [resV, *]; done) | (exfalso; simp_all; done)
theorem eqWait_ret (x : Wt) (M : PH) : Ret 94 [x.v, x.v] M (B true) := by
  refine xcall_of_vc Try.func94 rfl _ Try.ntmps94 _ rfl (fun _ _ => Try.call94 _ _) rfl (fun w0 ρ0 => ?_)
  conv => whnf
  repeat' (first | (refine ⟨⟨[], rfl⟩, PH.Le.refl _, ?_⟩; conv => whnf) | (refine caseB_true ?_; conv => whnf) | (refine caseB_false ?_; conv => whnf) | ((with_reducible refine caseB_dec (fun h => ?_) (fun h => ?_)) <;> conv => whnf) | ((with_reducible refine caseB_ndec (fun h => ?_) (fun h => ?_)) <;> conv => whnf) | ((with_reducible refine caseB_not (fun h => ?_) (fun h => ?_)) <;> conv => whnf) | (refine caseB_intro (fun h => ?_) (fun h => ?_) <;> (try simp only [Bool.not_eq_true', Bool.not_eq_false', decide_eq_true_eq, decide_eq_false_iff_not] at h) <;> conv => whnf))
  all_goals first | (refine ⟨M, PH.Le.refl _, ?_, rfl⟩; simp [resV, *]; done) | (refine ⟨M, PH.Le.refl _, ?_, rfl, rfl⟩; simp [resV, *]; done) | (exfalso; simp_all; done)
abbrev I0 : List Value := [I 0, I 0]
theorem toWaitS_ret (A : Option Addr) (c : Nat) (ws : List Wt) (M : PH) (hs : Sl M A 2 Wt.cs ws) (hn : ws.length ≤ 1048576) :
    ACall env 70 [.slice A ws.length c] M fun r M' => ∃ g, M g = none ∧ r = .slice (some ⟨g, 0, none⟩) ws.length ws.length ∧ M' = M.set g (.cells (ws.flatMap Wt.cs).toArray 104 (0, 0)) := by
  refine xcall_of_vc Try.func70 rfl _ Try.ntmps70 _ rfl (fun _ _ => Try.call70 _ _) rfl (fun w0 ρ0 => ?_)
  conv => whnf
  refine ⟨rfl, by omega, ?_, by omega, fun g hg => ?_⟩
  · show (16 : Int) * _ ≤ _
    omega
  conv => whnf
  refine loop_rule (fun i : Nat => ⟨slots 23 [(0, .v (.slice A ws.length c)), (2, .v (.slice none 0 0)), (3, .v (.slice (some ⟨g, 0, none⟩) ws.length ws.length)), (4, .v (I i))], []⟩)
    (fun i M' => i ≤ ws.length ∧ M' = M.set g (.cells (rowsL Wt.cs I0 (ws.take i) ws.length).toArray 104 (0, 0))) (fun i => ws.length - i) 0 ?_ ?_ ?_
  · exact ⟨by simp [slots, leT], ⟨[], rfl⟩, Nat.zero_le _, rfl, rfl⟩
  · refine ⟨Nat.zero_le _, ?_⟩
    show M.set g (.cells (madeCells #[I 0, I 0] (Int.toNat ws.length * 2)) 104 (0, 0)) = _
    rw [Int.toNat_natCast]
    exact congrArg (fun x => M.set g (.cells x 104 (0, 0))) (made_rows' Wt.cs #[I 0, I 0] ws.length)
  · rintro i M' ⟨hi, rfl⟩
    conv => whnf
    repeat' (first | (refine ⟨⟨[], rfl⟩, PH.Le.refl _, ?_⟩; conv => whnf) | (refine caseB_true ?_; conv => whnf) | (refine caseB_false ?_; conv => whnf) | ((with_reducible refine caseB_dec (fun h => ?_) (fun h => ?_)) <;> conv => whnf) | ((with_reducible refine caseB_ndec (fun h => ?_) (fun h => ?_)) <;> conv => whnf) | ((with_reducible refine caseB_not (fun h => ?_) (fun h => ?_)) <;> conv => whnf) | (refine caseB_intro (fun h => ?_) (fun h => ?_) <;> (try simp only [Bool.not_eq_true', Bool.not_eq_false', decide_eq_true_eq, decide_eq_false_iff_not] at h) <;> conv => whnf))
    · have hi' : i < ws.length := by omega
      have hw : IntKind.i64.wrap ((i : Int) + 1) = (i : Int) + 1 := wr_id (by omega) (by omega)
      obtain ⟨hA, _, hc⟩ := hs.get hi'
      refine ⟨by omega, by omega, hA, ?_⟩
      conv => whnf
      refine ⟨ws[i].cs, (PH.Le.set _ hg).cells hc, rfl, ?_⟩
      conv => whnf
      refine Ret.go (toWait_ret ws[i] _) ?_
      conv => whnf
      refine ⟨by omega, by omega, rfl, ?_⟩
      conv => whnf
      refine ⟨g, 0, rowsL Wt.cs I0 (ws.take i) ws.length, 104, rfl, PH.set_same _ _ _, ?_, ?_⟩
      · show 0 + i * 2 + 2 ≤ _
        rw [rowsL_length Wt.len rfl _ _ (by simp; omega)]
        omega
      conv => whnf
      refine ⟨i + 1, ⟨by simp [slots, leT, hw], ⟨[], rfl⟩, Nat.zero_le _, rfl, rfl⟩, ⟨by omega, ?_⟩, by omega⟩
      rw [set_set]
      show M.set g (.cells (spl (rowsL Wt.cs I0 (ws.take i) ws.length) (0 + i * 2) ws[i].cs).toArray 104 (0, 0)) = _
      rw [Nat.zero_add, rowsL_take Wt.len rfl ws hi']
    · have hi' : i = ws.length := by omega
      subst hi'
      refine ⟨_, PH.Le.refl _, g, hg, rfl, ?_⟩
      rw [List.take_length, rowsL_full]
theorem eqWaitS_ret (A A' : Option Addr) (c c' : Nat) (ws : List Wt) (M : PH) (hs : Sl M A 2 Wt.cs ws) (hs' : Sl M A' 2 Wt.cs ws) (hn : ws.length ≤ 1048576) :
    Ret 72 [.slice A ws.length c, .slice A' ws.length c'] M (B true) := by
  refine xcall_of_vc Try.func72 rfl _ Try.ntmps72 _ rfl (fun _ _ => Try.call72 _ _) rfl (fun w0 ρ0 => ?_)
  conv => whnf
  repeat' (first | (refine ⟨⟨[], rfl⟩, PH.Le.refl _, ?_⟩; conv => whnf) | (refine caseB_true ?_; conv => whnf) | (refine caseB_false ?_; conv => whnf) | ((with_reducible refine caseB_dec (fun h => ?_) (fun h => ?_)) <;> conv => whnf) | ((with_reducible refine caseB_ndec (fun h => ?_) (fun h => ?_)) <;> conv => whnf) | ((with_reducible refine caseB_not (fun h => ?_) (fun h => ?_)) <;> conv => whnf) | (refine caseB_intro (fun h => ?_) (fun h => ?_) <;> (try simp only [Bool.not_eq_true', Bool.not_eq_false', decide_eq_true_eq, decide_eq_false_iff_not] at h) <;> conv => whnf))
  · exact absurd rfl ‹_›
  refine loop_rule (fun i : Nat => ⟨slots 27 [(0, .v (.slice A ws.length c)), (1, .v (.slice A' ws.length c')), (4, .v (B false)), (5, .v (I i))], []⟩) (fun i M' => i ≤ ws.length ∧ M' = M) (fun i => ws.length - i) 0 ?_ ?_ ?_
  · exact ⟨by simp [slots, leT], ⟨[], rfl⟩, Nat.zero_le _, rfl, rfl⟩
  · exact ⟨Nat.zero_le _, rfl⟩
  · rintro i M' ⟨hi, rfl⟩
    conv => whnf
    repeat' (first | (refine ⟨⟨[], rfl⟩, PH.Le.refl _, ?_⟩; conv => whnf) | (refine caseB_true ?_; conv => whnf) | (refine caseB_false ?_; conv => whnf) | ((with_reducible refine caseB_dec (fun h => ?_) (fun h => ?_)) <;> conv => whnf) | ((with_reducible refine caseB_ndec (fun h => ?_) (fun h => ?_)) <;> conv => whnf) | ((with_reducible refine caseB_not (fun h => ?_) (fun h => ?_)) <;> conv => whnf) | (refine caseB_intro (fun h => ?_) (fun h => ?_) <;> (try simp only [Bool.not_eq_true', Bool.not_eq_false', decide_eq_true_eq, decide_eq_false_iff_not] at h) <;> conv => whnf))
    · have hi' : i < ws.length := by omega
      have hw : IntKind.i64.wrap ((i : Int) + 1) = (i : Int) + 1 := wr_id (by omega) (by omega)
      obtain ⟨hA, _, hc⟩ := hs.get hi'
      obtain ⟨hA', _, hc'⟩ := hs'.get hi'
      repeat' (first | (refine ⟨⟨[], rfl⟩, PH.Le.refl _, ?_⟩; conv => whnf) | (refine ⟨ws[i].cs, hc', rfl, ?_⟩; conv => whnf) | (refine ⟨ws[i].cs, hc, rfl, ?_⟩; conv => whnf) | (refine ⟨by omega, by omega, hA', ?_⟩; conv => whnf) | (refine ⟨by omega, by omega, hA, ?_⟩; conv => whnf) | (refine caseB_true ?_; conv => whnf) | (refine caseB_false ?_; conv => whnf) | ((with_reducible refine caseB_dec (fun h => ?_) (fun h => ?_)) <;> conv => whnf) | ((with_reducible refine caseB_ndec (fun h => ?_) (fun h => ?_)) <;> conv => whnf) | ((with_reducible refine caseB_not (fun h => ?_) (fun h => ?_)) <;> conv => whnf) | (refine draw_rule (.light 0 <| .light 1 <| .light 2 <| .light 3 <| .light 4 <| .light 5 <| .light 6 <| .light 7 <| .alt 8 false (.light 9 <| .done) .nil) (by decide +kernel) ?_; conv => whnf) | (refine Ret.go (eqWait_ret ws[i] _) ?_; conv => whnf) | (refine caseB_intro (fun h => ?_) (fun h => ?_) <;> (try simp only [Bool.not_eq_true', Bool.not_eq_false', decide_eq_true_eq, decide_eq_false_iff_not] at h) <;> conv => whnf))
      exact ⟨i + 1, ⟨by simp [slots, leT, hw], ⟨[], rfl⟩, Nat.zero_le _, rfl, rfl⟩, ⟨by omega, rfl⟩, by omega⟩
    · exact ⟨_, PH.Le.refl _, rfl, rfl⟩
theorem wt_eq (x y : Wt) : (decide (x.a = y.a) && (decide (x.b = y.b) && true)) = true ↔ x = y := by
  cases x; cases y; simp
theorem equalWaits_ret (A A' : Option Addr) (c c' : Nat) (ws us : List Wt) (M : PH) (hs : Sl M A 2 Wt.cs ws) (hs' : Sl M A' 2 Wt.cs us) (hn : ws.length ≤ 1048576) :
    Ret 71 [.slice A ws.length c, .slice A' us.length c'] M (B (sameB ws us)) := by
  refine xcall_of_vc Try.func71 rfl _ Try.ntmps71 _ rfl (fun _ _ => Try.call71 _ _) rfl (fun w0 ρ0 => ?_)
  conv => whnf
  repeat' (first | (refine ⟨⟨[], rfl⟩, PH.Le.refl _, ?_⟩; conv => whnf) | (refine caseB_true ?_; conv => whnf) | (refine caseB_false ?_; conv => whnf) | ((with_reducible refine caseB_dec (fun h => ?_) (fun h => ?_)) <;> conv => whnf) | ((with_reducible refine caseB_ndec (fun h => ?_) (fun h => ?_)) <;> conv => whnf) | ((with_reducible refine caseB_not (fun h => ?_) (fun h => ?_)) <;> conv => whnf) | (refine caseB_intro (fun h => ?_) (fun h => ?_) <;> (try simp only [Bool.not_eq_true', Bool.not_eq_false', decide_eq_true_eq, decide_eq_false_iff_not] at h) <;> conv => whnf))
  · refine ⟨_, PH.Le.refl _, ?_, rfl⟩
    rw [sameB_false (fun e => by subst e; simp_all)]
    rfl
  refine loop_rule (fun i : Nat => ⟨slots 26 [(0, .v (.slice A ws.length c)), (1, .v (.slice A' us.length c')), (4, .v (B false)), (12, .v (I ws.length)), (13, .v (I i))], []⟩) (fun i M' => i ≤ ws.length ∧ ws.take i = us.take i ∧ M' = M) (fun i => ws.length - i) 0 ?_ ?_ ?_
  · exact ⟨by simp [slots, leT], ⟨[], rfl⟩, Nat.zero_le _, rfl, rfl⟩
  · exact ⟨Nat.zero_le _, rfl, rfl⟩
  · rintro i M' ⟨hi, ht, rfl⟩
    conv => whnf
    repeat' (first | (refine ⟨⟨[], rfl⟩, PH.Le.refl _, ?_⟩; conv => whnf) | (refine caseB_true ?_; conv => whnf) | (refine caseB_false ?_; conv => whnf) | ((with_reducible refine caseB_dec (fun h => ?_) (fun h => ?_)) <;> conv => whnf) | ((with_reducible refine caseB_ndec (fun h => ?_) (fun h => ?_)) <;> conv => whnf) | ((with_reducible refine caseB_not (fun h => ?_) (fun h => ?_)) <;> conv => whnf) | (refine caseB_intro (fun h => ?_) (fun h => ?_) <;> (try simp only [Bool.not_eq_true', Bool.not_eq_false', decide_eq_true_eq, decide_eq_false_iff_not] at h) <;> conv => whnf))
    · have hi' : i < ws.length := by omega
      have hi2 : i < us.length := by omega
      have hw : IntKind.i64.wrap ((i : Int) + 1) = (i : Int) + 1 := wr_id (by omega) (by omega)
      obtain ⟨hA, _, hc⟩ := hs.get hi'
      obtain ⟨hA', _, hc'⟩ := hs'.get hi2
      repeat' (first | (refine ⟨⟨[], rfl⟩, PH.Le.refl _, ?_⟩; conv => whnf) | (refine ⟨us[i].cs, hc', rfl, ?_⟩; conv => whnf) | (refine ⟨ws[i].cs, hc, rfl, ?_⟩; conv => whnf) | (refine ⟨by omega, by omega, hA', ?_⟩; conv => whnf) | (refine ⟨by omega, by omega, hA, ?_⟩; conv => whnf) | (refine caseB_true ?_; conv => whnf) | (refine caseB_false ?_; conv => whnf) | ((with_reducible refine caseB_dec (fun h => ?_) (fun h => ?_)) <;> conv => whnf) | ((with_reducible refine caseB_ndec (fun h => ?_) (fun h => ?_)) <;> conv => whnf) | ((with_reducible refine caseB_not (fun h => ?_) (fun h => ?_)) <;> conv => whnf) | (refine draw_rule (.light 0 <| .light 1 <| .light 2 <| .light 3 <| .light 4 <| .light 5 <| .light 6 <| .light 7 <| .light 8 <| .done) (by decide +kernel) ?_; conv => whnf) | (refine caseB_intro (fun h => ?_) (fun h => ?_) <;> (try simp only [Bool.not_eq_true', Bool.not_eq_false', decide_eq_true_eq, decide_eq_false_iff_not] at h) <;> conv => whnf))
      · rename_i h
        refine ⟨_, PH.Le.refl _, ?_, rfl⟩
        rw [sameB_false (fun e => by subst e; simp at h)]
        rfl
      · rename_i h
        rw [wt_eq] at h
        exact ⟨i + 1, ⟨by simp [slots, leT, hw], ⟨[], rfl⟩, Nat.zero_le _, rfl, rfl⟩, ⟨by omega, take_step ht hi' hi2 h, rfl⟩, by omega⟩
    · refine ⟨_, PH.Le.refl _, ?_, rfl⟩
      rw [sameB_true (take_all ht (by omega) (by omega))]
      rfl

/-! ### The whole -/
def sz (n : Int) (l : Nat) : Int := if wr (n - l) < 0 then -1 else wr (n - l)
theorem sz_in {n : Int} {l : Nat} (h0 : 0 ≤ n) (h1 : n ≤ 1048576) (hl : l ≤ maxLen) (h : ¬ sz n l < 0) : sz n l = n - l ∧ (l : Int) ≤ n := by
  have e : maxLen = 9223372036854775807 := rfl
  unfold sz at *
  rw [wr_id (by omega) (by omega)] at *
  split at * <;> omega
theorem szWaitS_ret (A : Option Addr) (c : Nat) (ws : List Wt) (n : Int) (M : PH) : Ret 69 [.slice A ws.length c, I n] M (I (sz n ws.length)) := by
  refine xcall_of_vc Try.func69 rfl _ Try.ntmps69 _ rfl (fun _ _ => Try.call69 _ _) rfl (fun w0 ρ0 => ?_)
  conv => whnf
  repeat' (first | (refine ⟨⟨[], rfl⟩, PH.Le.refl _, ?_⟩; conv => whnf) | (refine caseB_true ?_; conv => whnf) | (refine caseB_false ?_; conv => whnf) | ((with_reducible refine caseB_dec (fun h => ?_) (fun h => ?_)) <;> conv => whnf) | ((with_reducible refine caseB_ndec (fun h => ?_) (fun h => ?_)) <;> conv => whnf) | ((with_reducible refine caseB_not (fun h => ?_) (fun h => ?_)) <;> conv => whnf) | (refine caseB_intro (fun h => ?_) (fun h => ?_) <;> (try simp only [Bool.not_eq_true', Bool.not_eq_false', decide_eq_true_eq, decide_eq_false_iff_not] at h) <;> conv => whnf))
  all_goals first | (refine ⟨M, PH.Le.refl _, ?_, rfl⟩; simp [resV, sz, *]; done) | (refine ⟨M, PH.Le.refl _, ?_, rfl, rfl⟩; simp [resV, sz, *]; done) | (exfalso; simp_all; done)
abbrev bulkV (k : Int) (A : Option Addr) (n c : Nat) : Value := .agg #[I k, .slice A n c]
theorem szBulk_ret (k : Int) (A : Option Addr) (c : Nat) (ws : List Wt) (n : Int) (M : PH) : Ret 31 [bulkV k A ws.length c, I n] M (I (sz n ws.length)) := by
  refine xcall_of_vc Try.func31 rfl _ Try.ntmps31 _ rfl (fun _ _ => Try.call31 _ _) rfl (fun w0 ρ0 => ?_)
  conv => whnf
  repeat' (first | (refine ⟨⟨[], rfl⟩, PH.Le.refl _, ?_⟩; conv => whnf) | (refine caseB_true ?_; conv => whnf) | (refine caseB_false ?_; conv => whnf) | ((with_reducible refine caseB_dec (fun h => ?_) (fun h => ?_)) <;> conv => whnf) | ((with_reducible refine caseB_ndec (fun h => ?_) (fun h => ?_)) <;> conv => whnf) | ((with_reducible refine caseB_not (fun h => ?_) (fun h => ?_)) <;> conv => whnf) | (refine Ret.go (szWaitS_ret A c ws n _) ?_; conv => whnf) | (refine caseB_intro (fun h => ?_) (fun h => ?_) <;> (try simp only [Bool.not_eq_true', Bool.not_eq_false', decide_eq_true_eq, decide_eq_false_iff_not] at h) <;> conv => whnf))
  all_goals refine ⟨M, PH.Le.refl _, ?_, rfl⟩
  all_goals simp only [resV]
  · have : sz n ws.length = -1 := by unfold sz at *; split at * <;> omega
    rw [this]
theorem toBulk_ret (k : Int) (A : Option Addr) (c : Nat) (ws : List Wt) (M : PH) (hs : Sl M A 2 Wt.cs ws) (hn : ws.length ≤ 1048576) :
    ACall env 33 [bulkV k A ws.length c] M fun r M' => ∃ g, M g = none ∧ r = bulkV k (some ⟨g, 0, none⟩) ws.length ws.length ∧ M' = M.set g (.cells (ws.flatMap Wt.cs).toArray 104 (0, 0)) := by
  refine xcall_of_vc Try.func33 rfl _ Try.ntmps33 _ rfl (fun _ _ => Try.call33 _ _) rfl (fun w0 ρ0 => ?_)
  conv => whnf
  refine ACall.step (toWaitS_ret A c ws M hs hn) fun r M' h => ?_
  obtain ⟨g, hg, rfl, rfl⟩ := h
  conv => whnf
  exact ⟨_, PH.Le.refl _, g, hg, rfl, rfl⟩
theorem toBulk_new (k : Int) (A : Option Addr) (c : Nat) (ws : List Wt) (M : PH) (hs : Sl M A 2 Wt.cs ws) (hn : ws.length ≤ 1048576) :
    ACall env 33 [bulkV k A ws.length c] M fun r M' => ∃ g, r = bulkV k (some ⟨g, 0, none⟩) ws.length ws.length ∧ M.Le M' ∧ Sl M' (some ⟨g, 0, none⟩) 2 Wt.cs ws :=
  (toBulk_ret k A c ws M hs hn).mono fun r M' ⟨g, hg, hr, hM⟩ => by
    subst hM
    exact ⟨g, hr, PH.Le.set _ hg, sl_full Wt.len _ g ws 104 (0, 0)⟩
theorem eqBulk_ret (k : Int) (A A' : Option Addr) (c c' : Nat) (ws : List Wt) (M : PH) (hs : Sl M A 2 Wt.cs ws) (hs' : Sl M A' 2 Wt.cs ws) (hn : ws.length ≤ 1048576) :
    Ret 35 [bulkV k A ws.length c, bulkV k A' ws.length c'] M (B true) := by
  refine xcall_of_vc Try.func35 rfl _ Try.ntmps35 _ rfl (fun _ _ => Try.call35 _ _) rfl (fun w0 ρ0 => ?_)
  conv => whnf
  repeat' (first | (refine ⟨⟨[], rfl⟩, PH.Le.refl _, ?_⟩; conv => whnf) | (refine caseB_true ?_; conv => whnf) | (refine caseB_false ?_; conv => whnf) | ((with_reducible refine caseB_dec (fun h => ?_) (fun h => ?_)) <;> conv => whnf) | ((with_reducible refine caseB_ndec (fun h => ?_) (fun h => ?_)) <;> conv => whnf) | ((with_reducible refine caseB_not (fun h => ?_) (fun h => ?_)) <;> conv => whnf) | (refine Ret.go (eqWaitS_ret A A' c c' ws _ hs hs' hn) ?_; conv => whnf) | (refine caseB_intro (fun h => ?_) (fun h => ?_) <;> (try simp only [Bool.not_eq_true', Bool.not_eq_false', decide_eq_true_eq, decide_eq_false_iff_not] at h) <;> conv => whnf))
  all_goals first | (refine ⟨M, PH.Le.refl _, ?_, rfl⟩; simp [resV, *]; done) | (refine ⟨M, PH.Le.refl _, ?_, rfl, rfl⟩; simp [resV, *]; done) | (exfalso; simp_all; done)
theorem sameBulks_impl (k k' : Int) (A A' : Option Addr) (c c' : Nat) (ws us : List Wt) (M : PH) (hs : Sl M A 2 Wt.cs ws) (hs' : Sl M A' 2 Wt.cs us) (hn : ws.length ≤ 1048576) :
    Ret 34 [bulkV k A ws.length c, bulkV k' A' us.length c'] M (B (decide (k = k') && sameB ws us)) := by
  refine xcall_of_vc Try.func34 rfl _ Try.ntmps34 _ rfl (fun _ _ => Try.call34 _ _) rfl (fun w0 ρ0 => ?_)
  conv => whnf
  repeat' (first | (refine ⟨⟨[], rfl⟩, PH.Le.refl _, ?_⟩; conv => whnf) | (refine caseB_true ?_; conv => whnf) | (refine caseB_false ?_; conv => whnf) | ((with_reducible refine caseB_dec (fun h => ?_) (fun h => ?_)) <;> conv => whnf) | ((with_reducible refine caseB_ndec (fun h => ?_) (fun h => ?_)) <;> conv => whnf) | ((with_reducible refine caseB_not (fun h => ?_) (fun h => ?_)) <;> conv => whnf) | (refine Ret.go (equalWaits_ret A A' c c' ws us _ hs hs' hn) ?_; conv => whnf) | (refine caseB_intro (fun h => ?_) (fun h => ?_) <;> (try simp only [Bool.not_eq_true', Bool.not_eq_false', decide_eq_true_eq, decide_eq_false_iff_not] at h) <;> conv => whnf))
  all_goals first | (refine ⟨M, PH.Le.refl _, ?_, rfl⟩; simp [resV, *]; done) | (refine ⟨M, PH.Le.refl _, ?_, rfl, rfl⟩; simp [resV, *]; done) | (exfalso; simp_all; done)
theorem sameBulks_spec (k k' : Int) (A A' : Option Addr) (c c' : Nat) (ws us : List Wt) (M : PH) (hs : Sl M A 2 Wt.cs ws) (hs' : Sl M A' 2 Wt.cs us) (hn : ws.length ≤ 1048576) :
    Ret 32 [bulkV k A ws.length c, bulkV k' A' us.length c'] M (B (decide (k = k') && sameB ws us)) := by
  refine xcall_of_vc Try.func32 rfl _ Try.ntmps32 _ rfl (fun _ _ => Try.call32 _ _) rfl (fun w0 ρ0 => ?_)
  conv => whnf
  repeat' (first | (refine ⟨⟨[], rfl⟩, PH.Le.refl _, ?_⟩; conv => whnf) | (refine caseB_true ?_; conv => whnf) | (refine caseB_false ?_; conv => whnf) | ((with_reducible refine caseB_dec (fun h => ?_) (fun h => ?_)) <;> conv => whnf) | ((with_reducible refine caseB_ndec (fun h => ?_) (fun h => ?_)) <;> conv => whnf) | ((with_reducible refine caseB_not (fun h => ?_) (fun h => ?_)) <;> conv => whnf) | (refine caseB_intro (fun h => ?_) (fun h => ?_) <;> (try simp only [Bool.not_eq_true', Bool.not_eq_false', decide_eq_true_eq, decide_eq_false_iff_not] at h) <;> conv => whnf))
  · exact ⟨_, PH.Le.refl _, by simp [resV, *], rfl⟩
  · refine ⟨_, PH.Le.refl _, ?_, rfl⟩
    rw [sameB_false (fun e => by subst e; simp_all)]
    simp [resV]
  refine loop_rule (fun i : Nat => ⟨slots 38 [(2, .bp 0 0), (3, .bp 1 0), (4, .v (B false)), (5, .v (I i))], [⟨58, [.v (I k), .v (.slice A ws.length c)]⟩, ⟨58, [.v (I k'), .v (.slice A' us.length c')]⟩]⟩) (fun i M' => i ≤ ws.length ∧ ws.take i = us.take i ∧ M' = M) (fun i => ws.length - i) 0 ?_ ?_ ?_
  · exact ⟨by simp [slots, leT], ⟨[], rfl⟩, Nat.zero_le _, rfl, rfl⟩
  · exact ⟨Nat.zero_le _, rfl, rfl⟩
  · rintro i M' ⟨hi, ht, rfl⟩
    conv => whnf
    repeat' (first | (refine ⟨⟨[], rfl⟩, PH.Le.refl _, ?_⟩; conv => whnf) | (refine caseB_true ?_; conv => whnf) | (refine caseB_false ?_; conv => whnf) | ((with_reducible refine caseB_dec (fun h => ?_) (fun h => ?_)) <;> conv => whnf) | ((with_reducible refine caseB_ndec (fun h => ?_) (fun h => ?_)) <;> conv => whnf) | ((with_reducible refine caseB_not (fun h => ?_) (fun h => ?_)) <;> conv => whnf) | (refine caseB_intro (fun h => ?_) (fun h => ?_) <;> (try simp only [Bool.not_eq_true', Bool.not_eq_false', decide_eq_true_eq, decide_eq_false_iff_not] at h) <;> conv => whnf))
    · have hi' : i < ws.length := by omega
      have hi2 : i < us.length := by omega
      have hw : IntKind.i64.wrap ((i : Int) + 1) = (i : Int) + 1 := wr_id (by omega) (by omega)
      obtain ⟨hA, _, hc⟩ := hs.get hi'
      obtain ⟨hA', _, hc'⟩ := hs'.get hi2
      repeat' (first | (refine ⟨⟨[], rfl⟩, PH.Le.refl _, ?_⟩; conv => whnf) | (refine ⟨us[i].cs, hc', rfl, ?_⟩; conv => whnf) | (refine ⟨ws[i].cs, hc, rfl, ?_⟩; conv => whnf) | (refine ⟨by omega, by omega, hA', ?_⟩; conv => whnf) | (refine ⟨by omega, by omega, hA, ?_⟩; conv => whnf) | (refine caseB_true ?_; conv => whnf) | (refine caseB_false ?_; conv => whnf) | ((with_reducible refine caseB_dec (fun h => ?_) (fun h => ?_)) <;> conv => whnf) | ((with_reducible refine caseB_ndec (fun h => ?_) (fun h => ?_)) <;> conv => whnf) | ((with_reducible refine caseB_not (fun h => ?_) (fun h => ?_)) <;> conv => whnf) | (refine draw_rule (.light 0 <| .light 1 <| .light 2 <| .light 3 <| .light 4 <| .light 5 <| .light 6 <| .light 7 <| .light 8 <| .light 9 <| .light 10 <| .done) (by decide +kernel) ?_; conv => whnf) | (refine caseB_intro (fun h => ?_) (fun h => ?_) <;> (try simp only [Bool.not_eq_true', Bool.not_eq_false', decide_eq_true_eq, decide_eq_false_iff_not] at h) <;> conv => whnf))
      · rename_i h
        refine ⟨_, PH.Le.refl _, ?_, rfl⟩
        rw [sameB_false (fun e => by subst e; simp at h)]
        simp [resV]
      · rename_i h
        rw [wt_eq] at h
        exact ⟨i + 1, ⟨by simp [slots, leT, hw], ⟨[], rfl⟩, Nat.zero_le _, rfl, rfl⟩, ⟨by omega, take_step ht hi' hi2 h, rfl⟩, by omega⟩
    · refine ⟨_, PH.Le.refl _, ?_, rfl⟩
      rw [sameB_true (take_all ht (by omega) (by omega))]
      simp [resV, *]
theorem sameBulks_law (k k' : Int) (A A' : Option Addr) (c c' : Nat) (ws us : List Wt) (M : PH) (hs : Sl M A 2 Wt.cs ws) (hs' : Sl M A' 2 Wt.cs us) (h63 : ws.length ≤ maxLen) (h63' : us.length ≤ maxLen) :
    ACall env 8 [bulkV k A ws.length c, bulkV k' A' us.length c'] M fun r M' => r = B true ∧ M.Le M' := by
  refine xcall_of_vc Try.func8 rfl _ Try.ntmps8 _ rfl (fun _ _ => Try.call8 _ _) rfl (fun w0 ρ0 => ?_)
  conv => whnf
  repeat' (first | (refine ⟨⟨[], rfl⟩, PH.Le.refl _, ?_⟩; conv => whnf) | (refine caseB_true ?_; conv => whnf) | (refine caseB_false ?_; conv => whnf) | ((with_reducible refine caseB_dec (fun h => ?_) (fun h => ?_)) <;> conv => whnf) | ((with_reducible refine caseB_ndec (fun h => ?_) (fun h => ?_)) <;> conv => whnf) | ((with_reducible refine caseB_not (fun h => ?_) (fun h => ?_)) <;> conv => whnf) | (refine Ret.go (szBulk_ret k A c ws _ _) ?_; conv => whnf) | (refine Ret.go (szBulk_ret k' A' c' us _ _) ?_; conv => whnf) | (refine caseB_intro (fun h => ?_) (fun h => ?_) <;> (try simp only [Bool.not_eq_true', Bool.not_eq_false', decide_eq_true_eq, decide_eq_false_iff_not] at h) <;> conv => whnf))
  · exact ⟨_, PH.Le.refl _, rfl, PH.Le.refl _⟩
  · exact ⟨_, PH.Le.refl _, rfl, PH.Le.refl _⟩
  rename_i h1
  have h2 := h
  obtain ⟨e1, b1⟩ := sz_in (by omega) (by omega) h63 h1
  rw [e1] at h2
  obtain ⟨e2, b2⟩ := sz_in (by omega) (by omega) h63' h2
  have hn : ws.length ≤ 1048576 := by omega
  have hn' : us.length ≤ 1048576 := by omega
  repeat' (first | (refine ⟨⟨[], rfl⟩, PH.Le.refl _, ?_⟩; conv => whnf) | (refine caseB_true ?_; conv => whnf) | (refine caseB_false ?_; conv => whnf) | ((with_reducible refine caseB_dec (fun h => ?_) (fun h => ?_)) <;> conv => whnf) | ((with_reducible refine caseB_ndec (fun h => ?_) (fun h => ?_)) <;> conv => whnf) | ((with_reducible refine caseB_not (fun h => ?_) (fun h => ?_)) <;> conv => whnf) | (refine draw_rule (.light 0 <| .light 2 <| .alt 1 false (.alt 3 false (.alt 4 false (.light 5 <| .done) .nil) .nil) .nil) (by decide +kernel) ?_; conv => whnf) | (refine draw_rule (.light 0 <| .light 1 <| .alt 2 false (.alt 3 false (.light 4 <| .done) .nil) .nil) (by decide +kernel) ?_; conv => whnf) | (refine draw_rule (.light 0 <| .light 1 <| .alt 2 false (.alt 3 false (.light 4 <| .done) .nil) .nil) (by decide +kernel) ?_; conv => whnf) | (refine caseB_intro (fun h => ?_) (fun h => ?_) <;> (try simp only [Bool.not_eq_true', Bool.not_eq_false', decide_eq_true_eq, decide_eq_false_iff_not] at h) <;> conv => whnf))
  refine ACall.step (toBulk_new k A c ws _ hs hn) fun r M1 h => ?_
  obtain ⟨g1, rfl, l1, s1⟩ := h
  refine ⟨⟨[], rfl⟩, l1, ?_⟩
  conv => whnf
  refine ACall.step (toBulk_new k' A' c' us _ (hs'.mono l1) hn') fun r M2 h => ?_
  obtain ⟨g2, rfl, l2, s2⟩ := h
  refine ⟨⟨[], rfl⟩, l2, ?_⟩
  conv => whnf
  repeat' (first | (refine ⟨⟨[], rfl⟩, PH.Le.refl _, ?_⟩; conv => whnf) | (refine caseB_true ?_; conv => whnf) | (refine caseB_false ?_; conv => whnf) | ((with_reducible refine caseB_dec (fun h => ?_) (fun h => ?_)) <;> conv => whnf) | ((with_reducible refine caseB_ndec (fun h => ?_) (fun h => ?_)) <;> conv => whnf) | ((with_reducible refine caseB_not (fun h => ?_) (fun h => ?_)) <;> conv => whnf) | (refine Ret.go (sameBulks_spec k k' _ _ _ _ ws us _ (s1.mono l2) s2 hn) ?_; conv => whnf) | (refine caseB_intro (fun h => ?_) (fun h => ?_) <;> (try simp only [Bool.not_eq_true', Bool.not_eq_false', decide_eq_true_eq, decide_eq_false_iff_not] at h) <;> conv => whnf))
  have l3 := l1.trans l2
  refine ACall.step (toBulk_new k A c ws _ (hs.mono l3) hn) fun r M3 h => ?_
  obtain ⟨g3, rfl, l4, s3⟩ := h
  conv => whnf
  have l5 := l3.trans l4
  refine ACall.step (toBulk_new k' A' c' us _ (hs'.mono l5) hn') fun r M4 h => ?_
  obtain ⟨g4, rfl, l6, s4⟩ := h
  conv => whnf
  have l7 := l5.trans l6
  repeat' (first | (refine ⟨⟨[], rfl⟩, PH.Le.refl _, ?_⟩; conv => whnf) | (refine caseB_true ?_; conv => whnf) | (refine caseB_false ?_; conv => whnf) | ((with_reducible refine caseB_dec (fun h => ?_) (fun h => ?_)) <;> conv => whnf) | ((with_reducible refine caseB_ndec (fun h => ?_) (fun h => ?_)) <;> conv => whnf) | ((with_reducible refine caseB_not (fun h => ?_) (fun h => ?_)) <;> conv => whnf) | (refine Ret.go (sameBulks_impl k k' _ _ _ _ ws us _ (s3.mono l6) s4 hn) ?_; conv => whnf) | (refine draw_rule (.light 0 <| .light 2 <| .alt 1 false (.alt 3 false (.alt 4 false (.light 5 <| .done) .nil) .nil) .nil) (by decide +kernel) ?_; conv => whnf) | (refine draw_rule (.light 0 <| .light 1 <| .alt 2 false (.alt 3 false (.light 4 <| .done) .nil) .nil) (by decide +kernel) ?_; conv => whnf) | (refine draw_rule (.light 0 <| .light 1 <| .alt 2 false (.alt 3 false (.light 4 <| .done) .nil) .nil) (by decide +kernel) ?_; conv => whnf) | (refine caseB_intro (fun h => ?_) (fun h => ?_) <;> (try simp only [Bool.not_eq_true', Bool.not_eq_false', decide_eq_true_eq, decide_eq_false_iff_not] at h) <;> conv => whnf))
  · simp_all
  refine ACall.step (toBulk_new k A c ws _ (hs.mono l7) hn) fun r M5 h => ?_
  obtain ⟨g5, rfl, l8, s5⟩ := h
  refine ⟨⟨[], rfl⟩, l8, ?_⟩
  conv => whnf
  repeat' (first | (refine ⟨⟨[], rfl⟩, PH.Le.refl _, ?_⟩; conv => whnf) | (refine caseB_true ?_; conv => whnf) | (refine caseB_false ?_; conv => whnf) | ((with_reducible refine caseB_dec (fun h => ?_) (fun h => ?_)) <;> conv => whnf) | ((with_reducible refine caseB_ndec (fun h => ?_) (fun h => ?_)) <;> conv => whnf) | ((with_reducible refine caseB_not (fun h => ?_) (fun h => ?_)) <;> conv => whnf) | (refine Ret.go (eqBulk_ret k _ _ _ _ ws _ ((s3.mono l6).mono l8) s5 hn) ?_; conv => whnf) | (refine draw_rule (.light 0 <| .light 2 <| .alt 1 false (.alt 3 false (.alt 4 false (.light 5 <| .done) .nil) .nil) .nil) (by decide +kernel) ?_; conv => whnf) | (refine draw_rule (.light 0 <| .light 1 <| .alt 2 false (.alt 3 false (.light 4 <| .done) .nil) .nil) (by decide +kernel) ?_; conv => whnf) | (refine draw_rule (.light 0 <| .light 1 <| .alt 2 false (.alt 3 false (.light 4 <| .done) .nil) .nil) (by decide +kernel) ?_; conv => whnf) | (refine caseB_intro (fun h => ?_) (fun h => ?_) <;> (try simp only [Bool.not_eq_true', Bool.not_eq_false', decide_eq_true_eq, decide_eq_false_iff_not] at h) <;> conv => whnf))
  have l9 := l7.trans l8
  refine ACall.step (toBulk_new k' A' c' us _ (hs'.mono l9) hn') fun r M6 h => ?_
  obtain ⟨g6, rfl, l10, s6⟩ := h
  refine ⟨⟨[], rfl⟩, l10, ?_⟩
  conv => whnf
  repeat' (first | (refine ⟨⟨[], rfl⟩, PH.Le.refl _, ?_⟩; conv => whnf) | (refine caseB_true ?_; conv => whnf) | (refine caseB_false ?_; conv => whnf) | ((with_reducible refine caseB_dec (fun h => ?_) (fun h => ?_)) <;> conv => whnf) | ((with_reducible refine caseB_ndec (fun h => ?_) (fun h => ?_)) <;> conv => whnf) | ((with_reducible refine caseB_not (fun h => ?_) (fun h => ?_)) <;> conv => whnf) | (refine Ret.go (eqBulk_ret k' _ _ _ _ us _ ((s4.mono l8).mono l10) s6 hn') ?_; conv => whnf) | (refine caseB_intro (fun h => ?_) (fun h => ?_) <;> (try simp only [Bool.not_eq_true', Bool.not_eq_false', decide_eq_true_eq, decide_eq_false_iff_not] at h) <;> conv => whnf))
  exact ⟨_, PH.Le.refl _, rfl, l9.trans l10⟩
theorem openBulk {H : Type} {enc : TypeId × Value → H} {W : World} {base : Nat} {v : Value} {d : DataW H} {p : List MemPlace} (hv : Value.okWide Try.prog W .any base 53 v)
    (h : DataW.Trod enc Try.prog W 0 (fun _ => true) true 53 v d p) : ∃ (k : Int) (A : Option Addr) (c : Nat) (ws : List Wt), v = bulkV k A ws.length c ∧ Sl (whole W) A 2 Wt.cs ws ∧ ws.length ≤ maxLen := by
  obtain ⟨cs, rfl, hs⟩ := open_arg env 9 (ti := ti53) (by kernel_rfl) (s := .fcons (.int .i64) 1 (.fcons (.slice (.fcons (.int .i64) 1 (.fcons (.int .i64) 1 .fnil)) 2) 1 .fnil)) (by kernel_rfl) hv h
  obtain ⟨_, _, _, ⟨n0, _, rfl⟩, ⟨_, _, _, hsl, rfl, rfl⟩, rfl⟩ := hs
  obtain ⟨A, c, ws, rfl, hS, hl⟩ := open_sl Wt.cs (fun es h => by
    obtain ⟨_, _, _, ⟨a, _, rfl⟩, ⟨_, _, _, ⟨b, _, rfl⟩, rfl, rfl⟩, rfl⟩ := h
    exact ⟨⟨a, b⟩, rfl⟩) hsl
  exact ⟨n0, A, c, ws, rfl, hS, hl⟩
end Go.Proofs.Ytffddijdfeafnaa
