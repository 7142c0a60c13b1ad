/-
  CONTRACTS: one leaves a bulkhead: both ways of it, and the law.
-/
import Derived.Test.YtpiakjcmbnfdlaaLq
namespace Go.Proofs.Ytpiakjcmbnfdlaa
set_option maxRecDepth 100000
set_option linter.unusedSimpArgs false
set_option linter.unusedVariables false
open Go.Xe
structure LvR where
  why : Int
  k : Int
  ws : List Wt
  n : Int
abbrev lvV (why k : Int) (A : Option Addr) (m c : Nat) (n : Int) : Value := .agg #[I why, I k, .slice A m c, I n]
noncomputable def leaveOf (k : Int) (ws : List Wt) (l : Ln) : LvR :=
  if bulkFault k ws l ≠ 0 then ⟨bulkFault k ws l, 0, [], 0⟩ else if k = 0 then ⟨4, 0, [], 0⟩ else ⟨0, leaveK k ws, ws.drop 1, nextW ws⟩
theorem leaveBulk_spec (k : Int) (A : Option Addr) (c : Nat) (ws : List Wt) (l : Ln) (M : PH) (hs : Sl M A 2 Wt.cs ws) (hn : ws.length ≤ 1048576) :
    ACall env 28 [bulkV k A ws.length c, l.v] M fun r M' => ∃ A' c', r = lvV (leaveOf k ws l).why (leaveOf k ws l).k A' (leaveOf k ws l).ws.length c' (leaveOf k ws l).n ∧ M.Le M' ∧ Sl M' A' 2 Wt.cs (leaveOf k ws l).ws := by
  refine xcall_of_vc Try.func28 rfl _ Try.ntmps28 _ rfl (fun _ _ => Try.call28 _ _) rfl (fun w0 ρ0 => ?_)
  conv => whnf
  repeat' (first | (refine ⟨⟨[], rfl⟩, _, PH.Le.refl _, PH.Le.refl _, ?_⟩; conv => whnf) | (refine caseB_true ?_; conv => whnf) | (refine caseB_false ?_; conv => whnf) | ((with_reducible refine caseB_dec (fun h => ?_) (fun h => ?_)) <;> conv => whnf) | ((with_reducible refine caseB_ndec (fun h => ?_) (fun h => ?_)) <;> conv => whnf) | ((with_reducible refine caseB_not (fun h => ?_) (fun h => ?_)) <;> conv => whnf) | (refine Ret.go (bulkFault_spec k A c ws l _ hs hn) ?_; conv => whnf) | (with_reducible refine @And.intro (guardVC _ _ _ _ _) _ ?_ ?_) <;> conv => whnf | (refine caseB_intro (fun h => ?_) (fun h => ?_) <;> (try simp only [Bool.not_eq_true', Bool.not_eq_false', decide_eq_true_eq, decide_eq_false_iff_not] at h) <;> conv => whnf))
  · have e : leaveOf k ws l = ⟨bulkFault k ws l, 0, [], 0⟩ := if_pos h
    rw [e]
    exact ⟨_, PH.Le.refl _, none, 0, rfl, PH.Le.refl _, Sl.nil⟩
  · rename_i h0
    have e : leaveOf k ws l = ⟨4, 0, [], 0⟩ := by unfold leaveOf; rw [if_neg (by simpa using h0), if_pos h]
    rw [e]
    exact ⟨_, PH.Le.refl _, none, 0, rfl, PH.Le.refl _, Sl.nil⟩
  · rename_i h0
    have e : leaveOf k ws l = ⟨0, leaveK k ws, ws.drop 1, nextW ws⟩ := by simp [leaveOf, h0, h]
    rw [e]
    refine XCall.lift (l11Copy_ret k A c ws M hs hn) [0] rfl rfl (by simp) rfl ?_
    rintro r b M1 ⟨⟨o, A1, c1, rfl, hN⟩, rfl⟩
    refine ⟨rfl, ?_⟩
    conv => whnf
    refine XCall.lift (l11Leave_ret k A1 c1 ws M1 (hN.ow.sl Wt.len) hn hN.ow.le) [3] rfl rfl (by simp) rfl ?_
    rintro r b M2 ⟨rfl, A2, c2, rfl, l2, s2, hc2⟩
    refine ⟨rfl, ?_⟩
    conv => whnf
    exact ⟨_, PH.Le.refl _, A2, c2, rfl, hN.le.trans l2, s2⟩
theorem leaveBulk_impl (k : Int) (A : Option Addr) (c : Nat) (ws : List Wt) (l : Ln) (M : PH) (hs : Sl M A 2 Wt.cs ws) (hn : ws.length ≤ 1048576) :
    ACall env 29 [bulkV k A ws.length c, l.v] M fun r M' => ∃ o A' c', r = lvV (leaveOf k ws l).why (leaveOf k ws l).k A' (leaveOf k ws l).ws.length c' (leaveOf k ws l).n ∧ New M M' o A' c' 2 Wt.cs (leaveOf k ws l).ws := by
  refine xcall_of_vc Try.func29 rfl _ Try.ntmps29 _ rfl (fun _ _ => Try.call29 _ _) rfl (fun w0 ρ0 => ?_)
  conv => whnf
  repeat' (first | (refine ⟨⟨[], rfl⟩, _, PH.Le.refl _, PH.Le.refl _, ?_⟩; conv => whnf) | (refine caseB_true ?_; conv => whnf) | (refine caseB_false ?_; conv => whnf) | ((with_reducible refine caseB_dec (fun h => ?_) (fun h => ?_)) <;> conv => whnf) | ((with_reducible refine caseB_ndec (fun h => ?_) (fun h => ?_)) <;> conv => whnf) | ((with_reducible refine caseB_not (fun h => ?_) (fun h => ?_)) <;> conv => whnf) | (refine Ret.go (bulkFault_impl k A c ws l _ hs hn) ?_; conv => whnf) | (with_reducible refine @And.intro (guardVC _ _ _ _ _) _ ?_ ?_) <;> conv => whnf | (refine caseB_intro (fun h => ?_) (fun h => ?_) <;> (try simp only [Bool.not_eq_true', Bool.not_eq_false', decide_eq_true_eq, decide_eq_false_iff_not] at h) <;> conv => whnf))
  · have e : leaveOf k ws l = ⟨bulkFault k ws l, 0, [], 0⟩ := if_pos h
    rw [e]
    exact ⟨_, PH.Le.refl _, none, none, 0, rfl, New.nil M none⟩
  · rename_i h0
    have e : leaveOf k ws l = ⟨4, 0, [], 0⟩ := by unfold leaveOf; rw [if_neg (by simpa using h0), if_pos h]
    rw [e]
    exact ⟨_, PH.Le.refl _, none, none, 0, rfl, New.nil M none⟩
  · rename_i h0
    have e : leaveOf k ws l = ⟨0, leaveK k ws, ws.drop 1, nextW ws⟩ := by simp [leaveOf, h0, h]
    rw [e]
    refine ACall.step (copyBulk_ret k A c ws M hs hn) fun r M1 hh => ?_
    obtain ⟨o, A1, c1, rfl, hN⟩ := hh
    conv => whnf
    refine XCall.lift (leave_ret k A1 c1 ws M1 (hN.ow.sl Wt.len) hn hN.ow.le) [3] rfl rfl (by simp) rfl ?_
    rintro r b M2 ⟨rfl, rfl, A2, c2, rfl, hcut⟩
    refine ⟨rfl, ?_⟩
    conv => whnf
    obtain ⟨o', ho', hO⟩ := hcut o hN.ow
    exact ⟨_, PH.Le.refl _, o', A2, c2, rfl, hO, hN.le, fun g e => by
      rcases ho' with rfl | rfl
      · exact hN.fr g e
      · cases e⟩
theorem eqLeave_ret (w k n : Int) (A A' : Option Addr) (c c' : Nat) (ws : List Wt) (M : PH) (hs : Sl M A 2 Wt.cs ws) (hs' : Sl M A' 2 Wt.cs ws) (hn : ws.length ≤ 1048576) :
    Ret 30 [lvV w k A ws.length c n, lvV w k A' ws.length c' n] M (B true) := by
  refine xcall_of_vc Try.func30 rfl _ Try.ntmps30 _ rfl (fun _ _ => Try.call30 _ _) rfl (fun w0 ρ0 => ?_)
  conv => whnf
  repeat' (first | (refine ⟨⟨[], rfl⟩, _, PH.Le.refl _, PH.Le.refl _, ?_⟩; conv => whnf) | (refine caseB_true ?_; conv => whnf) | (refine caseB_false ?_; conv => whnf) | ((with_reducible refine caseB_dec (fun h => ?_) (fun h => ?_)) <;> conv => whnf) | ((with_reducible refine caseB_ndec (fun h => ?_) (fun h => ?_)) <;> conv => whnf) | ((with_reducible refine caseB_not (fun h => ?_) (fun h => ?_)) <;> conv => whnf) | (refine Ret.go (eqBulk_ret k A A' c c' ws _ hs hs' hn) ?_; conv => whnf) | (with_reducible refine @And.intro (guardVC _ _ _ _ _) _ ?_ ?_) <;> conv => whnf | (refine caseB_intro (fun h => ?_) (fun h => ?_) <;> (try simp only [Bool.not_eq_true', Bool.not_eq_false', decide_eq_true_eq, decide_eq_false_iff_not] at h) <;> conv => whnf))
  all_goals first | (refine ⟨M, PH.Le.refl _, ?_, rfl⟩; simp [resV, *]; done) | (refine ⟨M, PH.Le.refl _, ?_, rfl, rfl⟩; simp [resV, *]; done) | (exfalso; simp_all; done)
theorem markBulk_ret (k : Int) (o : Option Nat) (A : Option Addr) (c : Nat) (ws : List Wt) (j : Int) (M : PH) (h : Ow M o A c 2 Wt.cs ws) (hn : ws.length ≤ 1048576) (hj : 0 ≤ j ∧ j ≤ 1000000000) :
    ACall env 31 [bulkV k A ws.length c, I j] M fun r M' => r = I (j + 2 * ws.length) ∧ Ow M' o A c 2 Wt.cs (marksW j ws.length) ∧ Keeps o M M' := by
  refine xcall_of_vc Try.func31 rfl _ Try.ntmps31 _ rfl (fun _ _ => Try.call31 _ _) rfl (fun w0 ρ0 => ?_)
  conv => whnf
  refine ACall.step (markWaitS_ret o A c ws j M h (by omega) (by omega)) fun r M' hh => ?_
  obtain ⟨rfl, h1, h2⟩ := hh
  conv => whnf
  exact ⟨_, PH.Le.refl _, rfl, h1, h2⟩
theorem heldBulk_ret (k : Int) (A : Option Addr) (c n : Nat) (j : Int) (M : PH) (hM : Sl M A 2 Wt.cs (marksW j n)) (hn : n ≤ 1048576) (hj : 0 ≤ j ∧ j ≤ 1000000000) :
    Ret 88 [bulkV k A n c, I j] M (I (j + 2 * n)) := by
  refine xcall_of_vc Try.func88 rfl _ Try.ntmps88 _ rfl (fun _ _ => Try.call88 _ _) rfl (fun w0 ρ0 => ?_)
  conv => whnf
  repeat' (first | (refine ⟨⟨[], rfl⟩, _, PH.Le.refl _, PH.Le.refl _, ?_⟩; conv => whnf) | (refine caseB_true ?_; conv => whnf) | (refine caseB_false ?_; conv => whnf) | ((with_reducible refine caseB_dec (fun h => ?_) (fun h => ?_)) <;> conv => whnf) | ((with_reducible refine caseB_ndec (fun h => ?_) (fun h => ?_)) <;> conv => whnf) | ((with_reducible refine caseB_not (fun h => ?_) (fun h => ?_)) <;> conv => whnf) | (refine Ret.go (heldWaitS_ret A c n j _ hM (by omega) (by omega)) ?_; conv => whnf) | (with_reducible refine @And.intro (guardVC _ _ _ _ _) _ ?_ ?_) <;> conv => whnf | (refine caseB_intro (fun h => ?_) (fun h => ?_) <;> (try simp only [Bool.not_eq_true', Bool.not_eq_false', decide_eq_true_eq, decide_eq_false_iff_not] at h) <;> conv => whnf))
  all_goals first | omega | exact ⟨_, PH.Le.refl _, rfl, rfl⟩
theorem markLeave_ret (w k n : Int) (o : Option Nat) (A : Option Addr) (c : Nat) (ws : List Wt) (j : Int) (M : PH) (h : Ow M o A c 2 Wt.cs ws) (hn : ws.length ≤ 1048576) (hj : 0 ≤ j ∧ j ≤ 1000000000) :
    ACall env 32 [lvV w k A ws.length c n, I j] M fun r M' => r = I (j + 2 * ws.length) ∧ Ow M' o A c 2 Wt.cs (marksW j ws.length) ∧ Keeps o M M' := by
  refine xcall_of_vc Try.func32 rfl _ Try.ntmps32 _ rfl (fun _ _ => Try.call32 _ _) rfl (fun w0 ρ0 => ?_)
  conv => whnf
  refine ACall.step (markBulk_ret k o A c ws j M h (by omega) (by omega)) fun r M' hh => ?_
  obtain ⟨rfl, h1, h2⟩ := hh
  conv => whnf
  exact ⟨_, PH.Le.refl _, rfl, h1, h2⟩
theorem heldLeave_ret (w k m : Int) (A : Option Addr) (c n : Nat) (j : Int) (M : PH) (hM : Sl M A 2 Wt.cs (marksW j n)) (hn : n ≤ 1048576) (hj : 0 ≤ j ∧ j ≤ 1000000000) :
    Ret 33 [lvV w k A n c m, I j] M (I (j + 2 * n)) := by
  refine xcall_of_vc Try.func33 rfl _ Try.ntmps33 _ rfl (fun _ _ => Try.call33 _ _) rfl (fun w0 ρ0 => ?_)
  conv => whnf
  repeat' (first | (refine ⟨⟨[], rfl⟩, _, PH.Le.refl _, PH.Le.refl _, ?_⟩; conv => whnf) | (refine caseB_true ?_; conv => whnf) | (refine caseB_false ?_; conv => whnf) | ((with_reducible refine caseB_dec (fun h => ?_) (fun h => ?_)) <;> conv => whnf) | ((with_reducible refine caseB_ndec (fun h => ?_) (fun h => ?_)) <;> conv => whnf) | ((with_reducible refine caseB_not (fun h => ?_) (fun h => ?_)) <;> conv => whnf) | (refine Ret.go (heldBulk_ret k A c n j _ hM (by omega) (by omega)) ?_; conv => whnf) | (with_reducible refine @And.intro (guardVC _ _ _ _ _) _ ?_ ?_) <;> conv => whnf | (refine caseB_intro (fun h => ?_) (fun h => ?_) <;> (try simp only [Bool.not_eq_true', Bool.not_eq_false', decide_eq_true_eq, decide_eq_false_iff_not] at h) <;> conv => whnf))
  all_goals first | omega | exact ⟨_, PH.Le.refl _, rfl, rfl⟩
theorem leaveOf_len (k : Int) (ws : List Wt) (l : Ln) : (leaveOf k ws l).ws.length ≤ ws.length := by
  unfold leaveOf
  split
  · exact Nat.zero_le _
  · split
    · exact Nat.zero_le _
    · simp
set_option maxHeartbeats 4000000 in
theorem leaveBulk_law (k : Int) (l : Ln)  (A : Option Addr) (c : Nat) (ws : List Wt) (M : PH) (hs : Sl M A 2 Wt.cs ws) (h63 : ws.length ≤ maxLen) :
    ACall env 6 ([bulkV k A ws.length c, l.v] ++ []) M fun r M' => r = B true ∧ M.Le M' := by
  refine xcall_of_vc Try.func6 rfl _ Try.ntmps6 _ rfl (fun _ _ => Try.call6 _ _) rfl (fun w0 ρ0 => ?_)
  conv => whnf
  repeat' (first | (refine ⟨⟨[], rfl⟩, _, PH.Le.refl _, PH.Le.refl _, ?_⟩; conv => whnf) | (refine caseB_true ?_; conv => whnf) | (refine caseB_false ?_; conv => whnf) | ((with_reducible refine caseB_dec (fun h => ?_) (fun h => ?_)) <;> conv => whnf) | ((with_reducible refine caseB_ndec (fun h => ?_) (fun h => ?_)) <;> conv => whnf) | ((with_reducible refine caseB_not (fun h => ?_) (fun h => ?_)) <;> conv => whnf) | (refine Ret.go (szBulk_ret k A c ws _ _) ?_; conv => whnf) | (with_reducible refine @And.intro (guardVC _ _ _ _ _) _ ?_ ?_) <;> conv => whnf | (refine caseB_intro (fun h => ?_) (fun h => ?_) <;> (try simp only [Bool.not_eq_true', Bool.not_eq_false', decide_eq_true_eq, decide_eq_false_iff_not] at h) <;> conv => whnf))
  · exact ⟨_, PH.Le.refl _, rfl, PH.Le.refl _⟩
  obtain ⟨e1, b1⟩ := sz_in (by omega) (by omega) h63 h
  have hn : ws.length ≤ 1048576 := by omega
  clear h e1 b1
  have hn2 : (leaveOf k ws l).ws.length ≤ 1048576 := Nat.le_trans (leaveOf_len k ws l) hn
  refine join_rule (fun z : Option Addr × Nat => ⟨slots 77 [(2, .bp 0 0), (3, .bp 1 0), (4, .v (B false)), (6, .bp 2 0)], [⟨35, [.v (I k), .v (.slice A ws.length c)]⟩, ⟨37, [.v (I l.a), .v (I l.b), .v (I l.c)]⟩, ⟨53, [.v (I (leaveOf k ws l).why), .v (I (leaveOf k ws l).k), .v (.slice z.1 (leaveOf k ws l).ws.length z.2), .v (I (leaveOf k ws l).n)]⟩]⟩) (fun z M' => M.Le M' ∧ Sl M' z.1 2 Wt.cs (leaveOf k ws l).ws) ?_ ?_
  · repeat' (first | (refine ⟨⟨[], rfl⟩, _, PH.Le.refl _, PH.Le.refl _, ?_⟩; conv => whnf) | (refine ⟨⟨_, rfl⟩, _, PH.Le.refl _, PH.Le.refl _, ?_⟩; conv => whnf) | (refine ACall.step (leaveBulk_spec k _ _ ws l _ (by first | assumption | exact Sl.mono (by assumption) (by repeat (first | exact PH.Le.refl _ | assumption | (apply PH.Le.trans; · assumption)))) hn) fun r M2 hh => ?_; obtain ⟨Aw, cw, rfl, lw, sw⟩ := hh; (first | (refine ⟨⟨[], rfl⟩, _, lw, PH.Le.refl _, ?_⟩; conv => whnf) | conv => whnf)) | (refine ACall.step (toBulk_new k A c ws _ (hs.mono (by repeat (first | exact PH.Le.refl _ | assumption | (apply PH.Le.trans; · assumption)))) hn) fun r M1 hh => ?_; obtain ⟨g, rfl, l1, s1⟩ := hh; (first | (refine ⟨⟨[], rfl⟩, _, l1, PH.Le.refl _, ?_⟩; conv => whnf) | (refine ⟨⟨_, rfl⟩, _, l1, PH.Le.refl _, ?_⟩; conv => whnf) | conv => whnf)) | (refine caseB_true ?_; conv => whnf) | (refine caseB_false ?_; conv => whnf) | ((with_reducible refine caseB_dec (fun h => ?_) (fun h => ?_)) <;> conv => whnf) | ((with_reducible refine caseB_ndec (fun h => ?_) (fun h => ?_)) <;> conv => whnf) | ((with_reducible refine caseB_not (fun h => ?_) (fun h => ?_)) <;> conv => whnf) | (refine Ret.go (toLanes_ret l _) ?_; conv => whnf) | (refine draw_rule (.light 0 <| .light 2 <| .alt 1 false (.alt 3 false (.alt 4 false (.alt 5 false (.alt 6 true (.done) .nil) .nil) (.alt 5 false (.alt 4 false (.alt 6 true (.done) .nil) .nil) .nil)) (.alt 5 false (.alt 3 false (.alt 4 false (.alt 6 true (.done) .nil) .nil) .nil) .nil)) (.alt 5 false (.alt 1 false (.alt 3 false (.alt 4 false (.alt 6 true (.done) .nil) .nil) .nil) .nil) .nil)) (by decide +kernel) ?_; conv => whnf) | (refine draw_rule (.light 0 <| .light 1 <| .alt 2 false (.alt 3 false (.alt 4 false (.alt 5 true (.done) .nil) .nil) (.alt 4 false (.alt 3 false (.alt 5 true (.done) .nil) .nil) .nil)) (.alt 4 false (.alt 2 false (.alt 3 false (.alt 5 true (.done) .nil) .nil) .nil) .nil)) (by decide +kernel) ?_; conv => whnf) | (refine draw_rule (.light 0 <| .light 1 <| .alt 2 false (.alt 3 false (.light 4 <| .done) .nil) .nil) (by decide +kernel) ?_; conv => whnf) | (refine draw_rule (.light 0 <| .light 2 <| .alt 1 false (.alt 3 false (.alt 4 false (.alt 5 false (.alt 6 true (.done) .nil) .nil) (.alt 5 false (.alt 4 false (.alt 6 true (.done) .nil) .nil) .nil)) (.alt 5 false (.alt 3 false (.alt 4 false (.alt 6 true (.done) .nil) .nil) .nil) .nil)) (.alt 5 false (.alt 1 false (.alt 3 false (.alt 4 false (.alt 6 true (.done) .nil) .nil) .nil) .nil) .nil)) (by decide +kernel) ?_; conv => whnf) | (with_reducible refine @And.intro (guardVC _ _ _ _ _) _ ?_ ?_) <;> conv => whnf | (refine caseB_intro (fun h => ?_) (fun h => ?_) <;> (try simp only [Bool.not_eq_true', Bool.not_eq_false', decide_eq_true_eq, decide_eq_false_iff_not] at h) <;> conv => whnf))
    all_goals exact ⟨(Aw, cw), ⟨by simp [slots, leT], ⟨[], rfl⟩, by simp, rfl, rfl⟩, (by repeat (first | exact PH.Le.refl _ | assumption | (apply PH.Le.trans; · assumption))), (by first | assumption | exact Sl.mono (by assumption) (by repeat (first | exact PH.Le.refl _ | assumption | (apply PH.Le.trans; · assumption))))⟩
  rintro ⟨Aw, cw⟩ M1 ⟨l1, sw⟩
  conv => whnf
  refine ACall.step (toBulk_own k A c ws _ (hs.mono l1) hn) fun r M2 hh => ?_
  obtain ⟨gx, rfl, Nx⟩ := hh
  conv => whnf
  have l2 := Nx.le
  have sx := Nx.ow.sl Wt.len
  refine join_rule (fun z : Option Nat × Option Addr × Nat => ⟨slots 77 [(2, .bp 0 0), (3, .bp 1 0), (4, .v (B false)), (6, .bp 2 0), (7, .bp (2 + 1) 0), (8, .bp (2 + 2) 0)], [⟨35, [.v (I k), .v (.slice A ws.length c)]⟩, ⟨37, [.v (I l.a), .v (I l.b), .v (I l.c)]⟩, ⟨53, [.v (I (leaveOf k ws l).why), .v (I (leaveOf k ws l).k), .v (.slice Aw (leaveOf k ws l).ws.length cw), .v (I (leaveOf k ws l).n)]⟩, ⟨42, [.v (I k), .v (.slice (some ⟨gx, 0, none⟩) ws.length ws.length)]⟩, ⟨53, [.v (I (leaveOf k ws l).why), .v (I (leaveOf k ws l).k), .v (.slice z.2.1 (leaveOf k ws l).ws.length z.2.2), .v (I (leaveOf k ws l).n)]⟩]⟩) (fun z M' => New M2 M' z.1 z.2.1 z.2.2 2 Wt.cs (leaveOf k ws l).ws) ?_ ?_
  · repeat' (first | (refine ⟨⟨[], rfl⟩, _, PH.Le.refl _, PH.Le.refl _, ?_⟩; conv => whnf) | (refine ⟨⟨_, rfl⟩, _, PH.Le.refl _, PH.Le.refl _, ?_⟩; conv => whnf) | (refine ACall.step (leaveBulk_impl k _ _ ws l _ (by first | assumption | exact Sl.mono (by assumption) (by repeat (first | exact PH.Le.refl _ | assumption | (apply PH.Le.trans; · assumption)))) hn) fun r M3 hh => ?_; obtain ⟨og, Ag, cg, rfl, Ng⟩ := hh; have lg := Ng.le; (first | (refine ⟨⟨[], rfl⟩, _, lg, PH.Le.refl _, ?_⟩; conv => whnf) | conv => whnf)) | (refine caseB_true ?_; conv => whnf) | (refine caseB_false ?_; conv => whnf) | ((with_reducible refine caseB_dec (fun h => ?_) (fun h => ?_)) <;> conv => whnf) | ((with_reducible refine caseB_ndec (fun h => ?_) (fun h => ?_)) <;> conv => whnf) | ((with_reducible refine caseB_not (fun h => ?_) (fun h => ?_)) <;> conv => whnf) | (refine Ret.go (toLanes_ret l _) ?_; conv => whnf) | (refine draw_rule (.light 0 <| .light 2 <| .alt 1 false (.alt 3 false (.alt 4 false (.alt 5 false (.alt 6 true (.done) .nil) .nil) (.alt 5 false (.alt 4 false (.alt 6 true (.done) .nil) .nil) .nil)) (.alt 5 false (.alt 3 false (.alt 4 false (.alt 6 true (.done) .nil) .nil) .nil) .nil)) (.alt 5 false (.alt 1 false (.alt 3 false (.alt 4 false (.alt 6 true (.done) .nil) .nil) .nil) .nil) .nil)) (by decide +kernel) ?_; conv => whnf) | (refine draw_rule (.light 0 <| .light 1 <| .alt 2 false (.alt 3 false (.alt 4 false (.alt 5 true (.done) .nil) .nil) (.alt 4 false (.alt 3 false (.alt 5 true (.done) .nil) .nil) .nil)) (.alt 4 false (.alt 2 false (.alt 3 false (.alt 5 true (.done) .nil) .nil) .nil) .nil)) (by decide +kernel) ?_; conv => whnf) | (refine draw_rule (.light 0 <| .light 1 <| .alt 2 false (.alt 3 false (.light 4 <| .done) .nil) .nil) (by decide +kernel) ?_; conv => whnf) | (refine draw_rule (.light 0 <| .light 2 <| .alt 1 false (.alt 3 false (.alt 4 false (.alt 5 false (.alt 6 true (.done) .nil) .nil) (.alt 5 false (.alt 4 false (.alt 6 true (.done) .nil) .nil) .nil)) (.alt 5 false (.alt 3 false (.alt 4 false (.alt 6 true (.done) .nil) .nil) .nil) .nil)) (.alt 5 false (.alt 1 false (.alt 3 false (.alt 4 false (.alt 6 true (.done) .nil) .nil) .nil) .nil) .nil)) (by decide +kernel) ?_; conv => whnf) | (with_reducible refine @And.intro (guardVC _ _ _ _ _) _ ?_ ?_) <;> conv => whnf | (refine caseB_intro (fun h => ?_) (fun h => ?_) <;> (try simp only [Bool.not_eq_true', Bool.not_eq_false', decide_eq_true_eq, decide_eq_false_iff_not] at h) <;> conv => whnf))
    all_goals exact ⟨(og, Ag, cg), ⟨by simp [slots, leT], ⟨[], rfl⟩, by simp, rfl, rfl⟩, Ng⟩
  rintro ⟨og, Ag, cg⟩ M3 Ng
  conv => whnf
  have l3 := Ng.le
  have sg := Ng.ow.sl Wt.len
  repeat' (first | (refine ⟨⟨[], rfl⟩, _, PH.Le.refl _, PH.Le.refl _, ?_⟩; conv => whnf) | (refine ACall.step (toBulk_new k A c ws _ (hs.mono (by repeat (first | exact PH.Le.refl _ | assumption | (apply PH.Le.trans; · assumption)))) hn) fun r M4 hh => ?_; obtain ⟨g4, rfl, l4, s4⟩ := hh; (first | (refine ⟨⟨[], rfl⟩, _, l4, PH.Le.refl _, ?_⟩; conv => whnf) | conv => whnf)) | (refine caseB_true ?_; conv => whnf) | (refine caseB_false ?_; conv => whnf) | ((with_reducible refine caseB_dec (fun h => ?_) (fun h => ?_)) <;> conv => whnf) | ((with_reducible refine caseB_ndec (fun h => ?_) (fun h => ?_)) <;> conv => whnf) | ((with_reducible refine caseB_not (fun h => ?_) (fun h => ?_)) <;> conv => whnf) | (refine Ret.go (eqLeave_ret _ _ _ _ _ _ _ _ _ (by first | assumption | exact Sl.mono (by assumption) (by repeat (first | exact PH.Le.refl _ | assumption | (apply PH.Le.trans; · assumption)))) (by first | assumption | exact Sl.mono (by assumption) (by repeat (first | exact PH.Le.refl _ | assumption | (apply PH.Le.trans; · assumption)))) hn2) ?_; conv => whnf) | (refine Ret.go (eqBulk_ret k _ _ _ _ ws _ (by first | assumption | exact Sl.mono (by assumption) (by repeat (first | exact PH.Le.refl _ | assumption | (apply PH.Le.trans; · assumption)))) (by first | assumption | exact Sl.mono (by assumption) (by repeat (first | exact PH.Le.refl _ | assumption | (apply PH.Le.trans; · assumption)))) hn) ?_; conv => whnf) | (refine draw_rule (.light 0 <| .light 2 <| .alt 1 false (.alt 3 false (.alt 4 false (.alt 5 false (.alt 6 true (.done) .nil) .nil) (.alt 5 false (.alt 4 false (.alt 6 true (.done) .nil) .nil) .nil)) (.alt 5 false (.alt 3 false (.alt 4 false (.alt 6 true (.done) .nil) .nil) .nil) .nil)) (.alt 5 false (.alt 1 false (.alt 3 false (.alt 4 false (.alt 6 true (.done) .nil) .nil) .nil) .nil) .nil)) (by decide +kernel) ?_; conv => whnf) | (refine draw_rule (.light 0 <| .light 1 <| .alt 2 false (.alt 3 false (.alt 4 false (.alt 5 true (.done) .nil) .nil) (.alt 4 false (.alt 3 false (.alt 5 true (.done) .nil) .nil) .nil)) (.alt 4 false (.alt 2 false (.alt 3 false (.alt 5 true (.done) .nil) .nil) .nil) .nil)) (by decide +kernel) ?_; conv => whnf) | (refine draw_rule (.light 0 <| .light 1 <| .alt 2 false (.alt 3 false (.light 4 <| .done) .nil) .nil) (by decide +kernel) ?_; conv => whnf) | (refine draw_rule (.light 0 <| .light 2 <| .alt 1 false (.alt 3 false (.alt 4 false (.alt 5 false (.alt 6 true (.done) .nil) .nil) (.alt 5 false (.alt 4 false (.alt 6 true (.done) .nil) .nil) .nil)) (.alt 5 false (.alt 3 false (.alt 4 false (.alt 6 true (.done) .nil) .nil) .nil) .nil)) (.alt 5 false (.alt 1 false (.alt 3 false (.alt 4 false (.alt 6 true (.done) .nil) .nil) .nil) .nil) .nil)) (by decide +kernel) ?_; conv => whnf) | (with_reducible refine @And.intro (guardVC _ _ _ _ _) _ ?_ ?_) <;> conv => whnf | (refine caseB_intro (fun h => ?_) (fun h => ?_) <;> (try simp only [Bool.not_eq_true', Bool.not_eq_false', decide_eq_true_eq, decide_eq_false_iff_not] at h) <;> conv => whnf))
  refine ACall.step (markBulk_ret k (some gx) _ _ ws 1 _ (Nx.ow.mono (by repeat (first | exact PH.Le.refl _ | assumption | (apply PH.Le.trans; · assumption)))) hn (by omega)) fun r M5 hh => ?_
  obtain ⟨rfl, hx5, k5⟩ := hh
  have q5 : M1.Le M5 := k5.over ((l2.trans l3).trans l4) (fun k e => by cases e; exact Nx.fr gx rfl)
  have og5 : Ow M5 og Ag cg 2 Wt.cs (leaveOf k ws l).ws := (Ng.ow.mono l4).keeps k5 (fun g e e2 => by
    cases e2
    have h1 := Ng.fr _ e
    obtain ⟨ob, hob⟩ := Nx.ow.known _ rfl
    rw [h1] at hob; cases hob)
  have sw5 := sw.mono q5
  have sg5 := og5.sl Wt.len
  conv => whnf
  repeat' (first | (refine ⟨⟨[], rfl⟩, _, PH.Le.refl _, PH.Le.refl _, ?_⟩; conv => whnf) | (with_reducible refine caseB_dec (fun h => absurd h (by omega)) (fun h => ?_); conv => whnf) | (refine caseB_true ?_; conv => whnf) | (refine caseB_false ?_; conv => whnf) | ((with_reducible refine caseB_dec (fun h => ?_) (fun h => ?_)) <;> conv => whnf) | ((with_reducible refine caseB_ndec (fun h => ?_) (fun h => ?_)) <;> conv => whnf) | ((with_reducible refine caseB_not (fun h => ?_) (fun h => ?_)) <;> conv => whnf) | (refine Ret.go (eqLeave_ret _ _ _ _ _ _ _ _ _ sg5 sw5 hn2) ?_; conv => whnf) | (with_reducible refine @And.intro (guardVC _ _ _ _ _) _ ?_ ?_) <;> conv => whnf | (refine caseB_intro (fun h => ?_) (fun h => ?_) <;> (try simp only [Bool.not_eq_true', Bool.not_eq_false', decide_eq_true_eq, decide_eq_false_iff_not] at h) <;> conv => whnf))
  refine ACall.step (markLeave_ret _ _ _ og Ag cg (leaveOf k ws l).ws 1 _ og5 hn2 (by omega)) fun r M6 hh => ?_
  obtain ⟨rfl, h6, k6⟩ := hh
  have q6 : M1.Le M6 := k6.over q5 (fun k e => none_of_le l2 (Ng.fr k e))
  have s6 := h6.sl Wt.len
  conv => whnf
  repeat' (first | (refine ⟨⟨[], rfl⟩, _, PH.Le.refl _, PH.Le.refl _, ?_⟩; conv => whnf) | (with_reducible refine caseB_dec (fun h => absurd h (by omega)) (fun h => ?_); conv => whnf) | (refine caseB_true ?_; conv => whnf) | (refine caseB_false ?_; conv => whnf) | ((with_reducible refine caseB_dec (fun h => ?_) (fun h => ?_)) <;> conv => whnf) | ((with_reducible refine caseB_ndec (fun h => ?_) (fun h => ?_)) <;> conv => whnf) | ((with_reducible refine caseB_not (fun h => ?_) (fun h => ?_)) <;> conv => whnf) | (refine Ret.go (heldLeave_ret _ _ _ Ag cg (leaveOf k ws l).ws.length 1 _ s6 hn2 (by omega)) ?_; conv => whnf) | (with_reducible refine @And.intro (guardVC _ _ _ _ _) _ ?_ ?_) <;> conv => whnf | (refine caseB_intro (fun h => ?_) (fun h => ?_) <;> (try simp only [Bool.not_eq_true', Bool.not_eq_false', decide_eq_true_eq, decide_eq_false_iff_not] at h) <;> conv => whnf))
  · first | exact absurd trivial h | exact absurd rfl h
  have lA := l1.trans q6
  refine join_rule (fun z : Option Addr × Nat => ⟨slots 77 [(2, .bp 0 0), (3, .bp 1 0), (4, .v (B false)), (6, .bp 2 0), (7, .bp (2 + 1) 0), (8, .bp (2 + 2) 0), (10, .v (I (1 + 2 * (leaveOf k ws l).ws.length))), (12, .bp (2 + 3) 0)], [⟨35, [.v (I k), .v (.slice A ws.length c)]⟩, ⟨37, [.v (I l.a), .v (I l.b), .v (I l.c)]⟩, ⟨53, [.v (I (leaveOf k ws l).why), .v (I (leaveOf k ws l).k), .v (.slice Aw (leaveOf k ws l).ws.length cw), .v (I (leaveOf k ws l).n)]⟩, ⟨42, [.v (I k), .v (.slice (some ⟨gx, 0, none⟩) ws.length ws.length)]⟩, ⟨53, [.v (I (leaveOf k ws l).why), .v (I (leaveOf k ws l).k), .v (.slice Ag (leaveOf k ws l).ws.length cg), .v (I (leaveOf k ws l).n)]⟩, ⟨53, [.v (I (leaveOf k ws l).why), .v (I (leaveOf k ws l).k), .v (.slice z.1 (leaveOf k ws l).ws.length z.2), .v (I (leaveOf k ws l).n)]⟩]⟩) (fun z M' => M6.Le M' ∧ Sl M' z.1 2 Wt.cs (leaveOf k ws l).ws) ?_ ?_
  · repeat' (first | (refine ⟨⟨[], rfl⟩, _, PH.Le.refl _, PH.Le.refl _, ?_⟩; conv => whnf) | (refine ⟨⟨_, rfl⟩, _, PH.Le.refl _, PH.Le.refl _, ?_⟩; conv => whnf) | (refine ACall.step (leaveBulk_impl k _ _ ws l _ (by first | assumption | exact Sl.mono (by assumption) (by repeat (first | exact PH.Le.refl _ | assumption | (apply PH.Le.trans; · assumption)))) hn) fun r M8 hh => ?_; obtain ⟨o8, A8, c8, rfl, N8⟩ := hh; have l8 := N8.le; (first | (refine ⟨⟨[], rfl⟩, _, l8, PH.Le.refl _, ?_⟩; conv => whnf) | conv => whnf)) | (refine ACall.step (toBulk_new k A c ws _ (hs.mono (lA.trans (by repeat (first | exact PH.Le.refl _ | assumption | (apply PH.Le.trans; · assumption))))) hn) fun r M7 hh => ?_; obtain ⟨g7, rfl, l7, s7⟩ := hh; (first | (refine ⟨⟨[], rfl⟩, _, l7, PH.Le.refl _, ?_⟩; conv => whnf) | (refine ⟨⟨_, rfl⟩, _, l7, PH.Le.refl _, ?_⟩; conv => whnf) | conv => whnf)) | (refine caseB_true ?_; conv => whnf) | (refine caseB_false ?_; conv => whnf) | ((with_reducible refine caseB_dec (fun h => ?_) (fun h => ?_)) <;> conv => whnf) | ((with_reducible refine caseB_ndec (fun h => ?_) (fun h => ?_)) <;> conv => whnf) | ((with_reducible refine caseB_not (fun h => ?_) (fun h => ?_)) <;> conv => whnf) | (refine Ret.go (toLanes_ret l _) ?_; conv => whnf) | (refine draw_rule (.light 0 <| .light 2 <| .alt 1 false (.alt 3 false (.alt 4 false (.alt 5 false (.alt 6 true (.done) .nil) .nil) (.alt 5 false (.alt 4 false (.alt 6 true (.done) .nil) .nil) .nil)) (.alt 5 false (.alt 3 false (.alt 4 false (.alt 6 true (.done) .nil) .nil) .nil) .nil)) (.alt 5 false (.alt 1 false (.alt 3 false (.alt 4 false (.alt 6 true (.done) .nil) .nil) .nil) .nil) .nil)) (by decide +kernel) ?_; conv => whnf) | (refine draw_rule (.light 0 <| .light 1 <| .alt 2 false (.alt 3 false (.alt 4 false (.alt 5 true (.done) .nil) .nil) (.alt 4 false (.alt 3 false (.alt 5 true (.done) .nil) .nil) .nil)) (.alt 4 false (.alt 2 false (.alt 3 false (.alt 5 true (.done) .nil) .nil) .nil) .nil)) (by decide +kernel) ?_; conv => whnf) | (refine draw_rule (.light 0 <| .light 1 <| .alt 2 false (.alt 3 false (.light 4 <| .done) .nil) .nil) (by decide +kernel) ?_; conv => whnf) | (refine draw_rule (.light 0 <| .light 2 <| .alt 1 false (.alt 3 false (.alt 4 false (.alt 5 false (.alt 6 true (.done) .nil) .nil) (.alt 5 false (.alt 4 false (.alt 6 true (.done) .nil) .nil) .nil)) (.alt 5 false (.alt 3 false (.alt 4 false (.alt 6 true (.done) .nil) .nil) .nil) .nil)) (.alt 5 false (.alt 1 false (.alt 3 false (.alt 4 false (.alt 6 true (.done) .nil) .nil) .nil) .nil) .nil)) (by decide +kernel) ?_; conv => whnf) | (with_reducible refine @And.intro (guardVC _ _ _ _ _) _ ?_ ?_) <;> conv => whnf | (refine caseB_intro (fun h => ?_) (fun h => ?_) <;> (try simp only [Bool.not_eq_true', Bool.not_eq_false', decide_eq_true_eq, decide_eq_false_iff_not] at h) <;> conv => whnf))
    all_goals exact ⟨(A8, c8), ⟨by simp [slots, leT], ⟨[], rfl⟩, by simp, rfl, rfl⟩, (by repeat (first | exact PH.Le.refl _ | assumption | (apply PH.Le.trans; · assumption))), N8.ow.sl Wt.len⟩
  rintro ⟨A8, c8⟩ M8 ⟨l8, s8⟩
  conv => whnf
  repeat' (first | (refine ⟨⟨[], rfl⟩, _, PH.Le.refl _, PH.Le.refl _, ?_⟩; conv => whnf) | (with_reducible refine caseB_dec (fun h => absurd h (by omega)) (fun h => ?_); conv => whnf) | (refine caseB_true ?_; conv => whnf) | (refine caseB_false ?_; conv => whnf) | ((with_reducible refine caseB_dec (fun h => ?_) (fun h => ?_)) <;> conv => whnf) | ((with_reducible refine caseB_ndec (fun h => ?_) (fun h => ?_)) <;> conv => whnf) | ((with_reducible refine caseB_not (fun h => ?_) (fun h => ?_)) <;> conv => whnf) | (refine Ret.go (eqLeave_ret _ _ _ _ _ _ _ _ _ s8 (sw.mono (q6.trans l8)) hn2) ?_; conv => whnf) | (refine Ret.go (heldLeave_ret _ _ _ Ag cg (leaveOf k ws l).ws.length 1 _ (s6.mono l8) hn2 (by omega)) ?_; conv => whnf) | (with_reducible refine @And.intro (guardVC _ _ _ _ _) _ ?_ ?_) <;> conv => whnf | (refine caseB_intro (fun h => ?_) (fun h => ?_) <;> (try simp only [Bool.not_eq_true', Bool.not_eq_false', decide_eq_true_eq, decide_eq_false_iff_not] at h) <;> conv => whnf))
  all_goals first | exact absurd trivial h | exact absurd rfl h | exact ⟨_, PH.Le.refl _, rfl, lA.trans l8⟩

end Go.Proofs.Ytpiakjcmbnfdlaa
