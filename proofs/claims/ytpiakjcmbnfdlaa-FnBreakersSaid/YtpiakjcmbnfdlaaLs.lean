/-
  CONTRACTS: one enters a bulkhead.
-/
import Derived.Test.YtpiakjcmbnfdlaaLr
namespace Go.Proofs.Ytpiakjcmbnfdlaa
set_option maxRecDepth 100000
set_option linter.unusedSimpArgs false
set_option linter.unusedVariables false
open Go.Xe
theorem l11Find_ret (k : Int) (A : Option Addr) (c : Nat) (ws : List Wt) (x : Int) (M : PH) (hs : Sl M A 2 Wt.cs ws) (hn : ws.length ≤ 1048576) :
    RetP 92 (bulkB k A ws.length c) [I x] M (I (findW ws x)) := by
  refine xcall_of_vc Try.func92 rfl _ Try.ntmps92 _ rfl (fun _ _ => Try.call92 _ _) rfl (fun w0 ρ0 => ?_)
  conv => whnf
  refine loop_rule (fun i : Nat => ⟨slots 26 [(0, .bp 0 0), (1, .v (I x)), (4, .v (I 0)), (5, .v (I i))], [bulkB k A ws.length c]⟩) (fun i M' => i ≤ ws.length ∧ (∀ j, j < i → ∀ h : j < ws.length, decide (ws[j].a = x) = false) ∧ M' = M) (fun i => ws.length - i) 0 ?_ ?_ ?_
  · exact ⟨by simp [slots, leT], ⟨[], rfl⟩, Nat.le_refl _, rfl, rfl⟩
  · exact ⟨Nat.zero_le _, fun j hj => absurd hj (Nat.not_lt_zero _), rfl⟩
  rintro i M' ⟨hi, hp, rfl⟩
  conv => whnf
  repeat' (first | (refine ⟨⟨[], rfl⟩, _, PH.Le.refl _, PH.Le.refl _, ?_⟩; conv => whnf) | (refine caseB_true ?_; conv => whnf) | (refine caseB_false ?_; conv => whnf) | ((with_reducible refine caseB_dec (fun h => ?_) (fun h => ?_)) <;> conv => whnf) | ((with_reducible refine caseB_ndec (fun h => ?_) (fun h => ?_)) <;> conv => whnf) | ((with_reducible refine caseB_not (fun h => ?_) (fun h => ?_)) <;> conv => whnf) | (with_reducible refine @And.intro (guardVC _ _ _ _ _) _ ?_ ?_) <;> conv => whnf | (refine caseB_intro (fun h => ?_) (fun h => ?_) <;> (try simp only [Bool.not_eq_true', Bool.not_eq_false', decide_eq_true_eq, decide_eq_false_iff_not] at h) <;> conv => whnf))
  · have hi' : i < ws.length := by omega
    have hw : IntKind.i64.wrap ((i : Int) + 1) = (i : Int) + 1 := wr_id (by omega) (by omega)
    obtain ⟨hA, _, hc⟩ := hs.get hi'
    refine ⟨by omega, by omega, hA, ?_⟩
    conv => whnf
    refine ⟨_, cells_cut hc 0 rfl, ?_⟩
    conv => whnf
    repeat' (first | (refine ⟨⟨[], rfl⟩, _, PH.Le.refl _, PH.Le.refl _, ?_⟩; conv => whnf) | (refine caseB_true ?_; conv => whnf) | (refine caseB_false ?_; conv => whnf) | ((with_reducible refine caseB_dec (fun h => ?_) (fun h => ?_)) <;> conv => whnf) | ((with_reducible refine caseB_ndec (fun h => ?_) (fun h => ?_)) <;> conv => whnf) | ((with_reducible refine caseB_not (fun h => ?_) (fun h => ?_)) <;> conv => whnf) | (with_reducible refine @And.intro (guardVC _ _ _ _ _) _ ?_ ?_) <;> conv => whnf | (refine caseB_intro (fun h => ?_) (fun h => ?_) <;> (try simp only [Bool.not_eq_true', Bool.not_eq_false', decide_eq_true_eq, decide_eq_false_iff_not] at h) <;> conv => whnf))
    · exact ⟨_, PH.Le.refl _, by unfold findW; rw [idxF_at _ ws i hi' hp (by simpa using h)]; rfl, rfl, rfl⟩
    · exact ⟨i + 1, ⟨by simp [slots, leT, hw], ⟨[], rfl⟩, Nat.le_refl _, rfl, rfl⟩, ⟨by omega, fun j hj h' => by
          rcases Nat.lt_succ_iff_lt_or_eq.1 hj with h1 | h1
          · exact hp j h1 h'
          · subst h1; simpa using h, rfl⟩, by omega⟩
  · exact ⟨_, PH.Le.refl _, by unfold findW; rw [idxF_no _ ws (fun j h => hp j (by omega) h)]; rfl, rfl, rfl⟩
structure EnR where
  why : Int
  k : Int
  ws : List Wt
  b : Bool
abbrev enV (why k : Int) (A : Option Addr) (m c : Nat) (b : Bool) : Value := .agg #[I why, I k, .slice A m c, B b]
/-- What is left of a bulkhead when an id has entered; whether it started; whether there was room. -/
def enterW (k : Int) (ws : List Wt) (l : Ln) (x t : Int) : List Wt := if k < l.a then ws else if l.b ≤ ws.length then ws else ws ++ [⟨x, add' t l.c⟩]
def enterK (k : Int) (l : Ln) : Int := if k < l.a then wr (k + 1) else k
def enterOk (k : Int) (ws : List Wt) (l : Ln) : Bool := decide (k < l.a) || !decide (l.b ≤ ws.length)
noncomputable def enterOf (k : Int) (ws : List Wt) (l : Ln) (x t : Int) : EnR :=
  if bulkFault k ws l ≠ 0 then ⟨bulkFault k ws l, 0, [], false⟩ else if (isT x && isT t) = false then ⟨3, 0, [], false⟩ else if 0 ≤ findW ws x then ⟨6, 0, [], false⟩
  else if enterOk k ws l then ⟨0, enterK k l, enterW k ws l x t, decide (k < l.a)⟩ else ⟨7, 0, [], false⟩
theorem wt_fits1 (ws : List Wt) (w : Wt) (hn : ws.length ≤ 1048576) : (ws.length + [w].length) * ti67.bytes ≤ 140737488355328 := by
  unfold ti67
  simp
  omega
theorem enter_ret (k : Int) (o : Option Nat) (A : Option Addr) (c : Nat) (ws : List Wt) (l : Ln) (x t : Int) (M0 M : PH) (hN : New M0 M o A c 2 Wt.cs ws) (hn : ws.length ≤ 1048576) :
    XCall env 91 [.bp 0 0, .v l.v, .v (I x), .v (I t)] [bulkB k A ws.length c] M fun r b M' => r = .tuple #[B (decide (k < l.a)), B (enterOk k ws l)] ∧ ∃ o' A' c', b = [bulkB (enterK k l) A' (enterW k ws l x t).length c'] ∧ New M0 M' o' A' c' 2 Wt.cs (enterW k ws l x t) := by
  refine xcall_of_vc Try.func91 rfl _ Try.ntmps91 _ rfl (fun _ _ => Try.call91 _ _) rfl (fun w0 ρ0 => ?_)
  conv => whnf
  repeat' (first | (refine ⟨⟨[], rfl⟩, _, PH.Le.refl _, bot_le _, ?_⟩; conv => whnf) | (refine ⟨⟨_, rfl⟩, _, PH.Le.refl _, bot_le _, ?_⟩; conv => whnf) | (refine caseB_true ?_; conv => whnf) | (refine caseB_false ?_; conv => whnf) | ((with_reducible refine caseB_dec (fun h => ?_) (fun h => ?_)) <;> conv => whnf) | ((with_reducible refine caseB_ndec (fun h => ?_) (fun h => ?_)) <;> conv => whnf) | ((with_reducible refine caseB_not (fun h => ?_) (fun h => ?_)) <;> conv => whnf) | (refine Ret.go (addTime_ret _ _ _) ?_; conv => whnf) | (refine draw_ruleJ (none) (.light 0 <| .light 1 <| .light 2 <| .light 3 <| .light 4 <| .light 5 <| .light 6 <| .light 7 <| .done) (by decide +kernel) (bot_le _) ?_; conv => whnf) | (refine draw_ruleJ (none) (.light 0 <| .light 1 <| .light 2 <| .light 3 <| .light 4 <| .light 5 <| .light 6 <| .light 7 <| .light 8 <| .done) (by decide +kernel) (bot_le _) ?_; conv => whnf) | (refine draw_ruleJ (none) (.light 0 <| .light 1 <| .light 2 <| .light 3 <| .light 4 <| .light 5 <| .light 6 <| .light 7 <| .light 8 <| .alt 9 false (.light 10 <| .alt 11 false (.alt 12 false (.light 13 <| .light 14 <| .alt 15 true (.done) .nil) .nil) .nil) .nil) (by decide +kernel) (bot_le _) ?_; conv => whnf) | (with_reducible refine @And.intro (guardVC _ _ _ _ _) _ ?_ ?_) <;> conv => whnf | (refine caseB_intro (fun h => ?_) (fun h => ?_) <;> (try simp only [Bool.not_eq_true', Bool.not_eq_false', decide_eq_true_eq, decide_eq_false_iff_not] at h) <;> conv => whnf))
  · refine ⟨_, PH.Le.refl _, by simp [resV, enterOk, h], o, A, c, ?_, ?_⟩
    · simp [enterK, enterW, h]
    · simpa [enterW, h] using hN
  · rename_i h0
    refine ⟨_, PH.Le.refl _, by simp [resV, enterOk, h0, h], o, A, c, ?_, ?_⟩
    · simp [enterK, enterW, h0, h]
    · simpa [enterW, h0, h] using hN
  · rename_i h0
    intro g0 hg0
    have l0 := PH.Le.set (.cells ([(⟨x, add' t l.c⟩ : Wt)].flatMap Wt.cs).toArray 67 (0, 0)) hg0
    refine ⟨⟨[], rfl⟩, _, PH.Le.refl _, bot_le _, ?_⟩
    conv => whnf
    have hS := sl_full Wt.len M g0 [(⟨x, add' t l.c⟩ : Wt)] 67 (0, 0)
    refine app_sl (te := ti67) (f := Wt.cs) (xs := ws) (ys := [⟨x, add' t l.c⟩]) (o := o) hS (hN.ow.mono l0) Wt.len Wt.one rfl (wt_fits1 ws _ hn) (by simp; omega) fun o' A' c' M' hO hK hF => ?_
    refine ⟨⟨[], rfl⟩, _, PH.Le.refl _, bot_le _, ?_⟩
    conv => whnf
    refine ⟨_, PH.Le.refl _, by simp [resV, enterOk, h0, h], o', A', c', ?_, ?_⟩
    · simp [enterK, enterW, h0, h]
    · simpa [enterW, h0, h] using hN.more l0 hK hO hF
section
variable {k : Int} {ws : List Wt} {l : Ln} {x t : Int}
theorem enterOf_bad (h : ¬ bulkFault k ws l = 0) : enterOf k ws l x t = ⟨bulkFault k ws l, 0, [], false⟩ := if_pos h
theorem enterOf_time (h0 : bulkFault k ws l = 0) (h : (isT x && isT t) = false) : enterOf k ws l x t = ⟨3, 0, [], false⟩ := by unfold enterOf; rw [if_neg (by simpa using h0), if_pos h]
theorem enterOf_taken (h0 : bulkFault k ws l = 0) (h1 : isT x = true) (h2 : isT t = true) (h : 0 ≤ findW ws x) : enterOf k ws l x t = ⟨6, 0, [], false⟩ := by unfold enterOf; rw [if_neg (by simpa using h0), if_neg (by simp [h1, h2]), if_pos h]
theorem enterOf_ok (h0 : bulkFault k ws l = 0) (h1 : isT x = true) (h2 : isT t = true) (h3 : ¬ 0 ≤ findW ws x) (h : enterOk k ws l = true) : enterOf k ws l x t = ⟨0, enterK k l, enterW k ws l x t, decide (k < l.a)⟩ := by unfold enterOf; rw [if_neg (by simpa using h0), if_neg (by simp [h1, h2]), if_neg h3, if_pos h]
theorem enterOf_full (h0 : bulkFault k ws l = 0) (h1 : isT x = true) (h2 : isT t = true) (h3 : ¬ 0 ≤ findW ws x) (h : enterOk k ws l = false) : enterOf k ws l x t = ⟨7, 0, [], false⟩ := by unfold enterOf; rw [if_neg (by simpa using h0), if_neg (by simp [h1, h2]), if_neg h3, if_neg (by simp [h])]
end
theorem enterBulk_impl (k : Int) (A : Option Addr) (c : Nat) (ws : List Wt) (l : Ln) (x t : Int) (M : PH) (hs : Sl M A 2 Wt.cs ws) (hn : ws.length ≤ 1048576) :
    ACall env 36 [bulkV k A ws.length c, l.v, I x, I t] M fun r M' => ∃ o A' c', r = enV (enterOf k ws l x t).why (enterOf k ws l x t).k A' (enterOf k ws l x t).ws.length c' (enterOf k ws l x t).b ∧ New M M' o A' c' 2 Wt.cs (enterOf k ws l x t).ws := by
  refine xcall_of_vc Try.func36 rfl _ Try.ntmps36 _ rfl (fun _ _ => Try.call36 _ _) rfl (fun w0 ρ0 => ?_)
  conv => whnf
  repeat' (first | (refine ⟨⟨[], rfl⟩, _, PH.Le.refl _, PH.Le.refl _, ?_⟩; conv => whnf) | (refine caseB_true ?_; conv => whnf) | (refine caseB_false ?_; conv => whnf) | ((with_reducible refine caseB_dec (fun h => ?_) (fun h => ?_)) <;> conv => whnf) | ((with_reducible refine caseB_ndec (fun h => ?_) (fun h => ?_)) <;> conv => whnf) | ((with_reducible refine caseB_not (fun h => ?_) (fun h => ?_)) <;> conv => whnf) | (refine Ret.go (bulkFault_impl k A c ws l _ hs hn) ?_; conv => whnf) | (refine Ret.go (isTime_ret _ _) ?_; conv => whnf) | (refine Ret.go (waits_ret k A c ws x _ hs hn) ?_; conv => whnf) | (with_reducible refine @And.intro (guardVC _ _ _ _ _) _ ?_ ?_) <;> conv => whnf | (refine caseB_intro (fun h => ?_) (fun h => ?_) <;> (try simp only [Bool.not_eq_true', Bool.not_eq_false', decide_eq_true_eq, decide_eq_false_iff_not] at h) <;> conv => whnf))
  all_goals try (rw [enterOf_bad (by assumption)]; exact ⟨_, PH.Le.refl _, none, none, 0, rfl, New.nil M none⟩)
  all_goals try (rw [enterOf_time (by assumption) (by simp [*])]; exact ⟨_, PH.Le.refl _, none, none, 0, rfl, New.nil M none⟩)
  all_goals try (rw [enterOf_taken (by assumption) (by assumption) (by assumption) (by assumption)]; exact ⟨_, PH.Le.refl _, none, none, 0, rfl, New.nil M none⟩)
  refine ACall.step (copyBulk_ret k A c ws M hs hn) fun r M1 hh => ?_
  obtain ⟨o, A1, c1, rfl, hN⟩ := hh
  conv => whnf
  refine XCall.lift (enter_ret k o A1 c1 ws l x t M M1 hN hn) [3] rfl rfl (by simp) rfl ?_
  rintro r b M2 ⟨rfl, o2, A2, c2, rfl, hN2⟩
  refine ⟨rfl, ?_⟩
  conv => whnf
  repeat' (first | (refine ⟨⟨[], rfl⟩, _, PH.Le.refl _, PH.Le.refl _, ?_⟩; conv => whnf) | (refine caseB_true ?_; conv => whnf) | (refine caseB_false ?_; conv => whnf) | ((with_reducible refine caseB_dec (fun h => ?_) (fun h => ?_)) <;> conv => whnf) | ((with_reducible refine caseB_ndec (fun h => ?_) (fun h => ?_)) <;> conv => whnf) | ((with_reducible refine caseB_not (fun h => ?_) (fun h => ?_)) <;> conv => whnf) | (with_reducible refine @And.intro (guardVC _ _ _ _ _) _ ?_ ?_) <;> conv => whnf | (refine caseB_intro (fun h => ?_) (fun h => ?_) <;> (try simp only [Bool.not_eq_true', Bool.not_eq_false', decide_eq_true_eq, decide_eq_false_iff_not] at h) <;> conv => whnf))
  · rw [enterOf_full (by assumption) (by assumption) (by assumption) (by assumption) (by assumption)]
    exact ⟨_, PH.Le.refl _, none, none, 0, rfl, ⟨Ow.nil, hN2.le, fun g e => nomatch e⟩⟩
  · rw [enterOf_ok (by assumption) (by assumption) (by assumption) (by assumption) (by assumption)]
    exact ⟨_, PH.Le.refl _, o2, A2, c2, rfl, hN2⟩
theorem enterBulk_specN (k : Int) (A : Option Addr) (c : Nat) (ws : List Wt) (l : Ln) (x t : Int) (M : PH) (hs : Sl M A 2 Wt.cs ws) (hn : ws.length ≤ 1048576) :
    ACall env 37 [bulkV k A ws.length c, l.v, I x, I t] M fun r M' => ∃ o A' c', r = enV (enterOf k ws l x t).why (enterOf k ws l x t).k A' (enterOf k ws l x t).ws.length c' (enterOf k ws l x t).b ∧ New M M' o A' c' 2 Wt.cs (enterOf k ws l x t).ws := by
  refine xcall_of_vc Try.func37 rfl _ Try.ntmps37 _ rfl (fun _ _ => Try.call37 _ _) rfl (fun w0 ρ0 => ?_)
  conv => whnf
  repeat' (first | (refine ⟨⟨[], rfl⟩, _, PH.Le.refl _, PH.Le.refl _, ?_⟩; conv => whnf) | (refine RetP.go (l11Find_ret k A c ws x _ hs hn) rfl rfl ?_; conv => whnf) | (refine caseB_true ?_; conv => whnf) | (refine caseB_false ?_; conv => whnf) | ((with_reducible refine caseB_dec (fun h => ?_) (fun h => ?_)) <;> conv => whnf) | ((with_reducible refine caseB_ndec (fun h => ?_) (fun h => ?_)) <;> conv => whnf) | ((with_reducible refine caseB_not (fun h => ?_) (fun h => ?_)) <;> conv => whnf) | (refine Ret.go (bulkFault_spec k A c ws l _ hs hn) ?_; conv => whnf) | (refine Ret.go (l1Time_ret _ _) ?_; conv => whnf) | (with_reducible refine @And.intro (guardVC _ _ _ _ _) _ ?_ ?_) <;> conv => whnf | (refine caseB_intro (fun h => ?_) (fun h => ?_) <;> (try simp only [Bool.not_eq_true', Bool.not_eq_false', decide_eq_true_eq, decide_eq_false_iff_not] at h) <;> conv => whnf))
  all_goals try (rw [enterOf_bad (by assumption)]; exact ⟨_, PH.Le.refl _, none, none, 0, rfl, New.nil M none⟩)
  all_goals try (rw [enterOf_time (by assumption) (by simp [*])]; exact ⟨_, PH.Le.refl _, none, none, 0, rfl, New.nil M none⟩)
  all_goals try (rw [enterOf_taken (by assumption) (by assumption) (by assumption) (by assumption)]; exact ⟨_, PH.Le.refl _, none, none, 0, rfl, New.nil M none⟩)
  refine XCall.lift (l11Copy_ret k A c ws M hs hn) [0] rfl rfl (by simp) rfl ?_
  rintro r b M1 ⟨⟨o, A1, c1, rfl, hN⟩, rfl⟩
  refine ⟨rfl, ?_⟩
  conv => whnf
  repeat' (first | (refine ⟨⟨[], rfl⟩, _, PH.Le.refl _, bot_le _, ?_⟩; conv => whnf) | (refine ⟨⟨_, rfl⟩, _, PH.Le.refl _, bot_le _, ?_⟩; conv => whnf) | (refine caseB_true ?_; conv => whnf) | (refine caseB_false ?_; conv => whnf) | ((with_reducible refine caseB_dec (fun h => ?_) (fun h => ?_)) <;> conv => whnf) | ((with_reducible refine caseB_ndec (fun h => ?_) (fun h => ?_)) <;> conv => whnf) | ((with_reducible refine caseB_not (fun h => ?_) (fun h => ?_)) <;> conv => whnf) | (refine Ret.go (l1Add_ret _ _ _) ?_; conv => whnf) | (refine draw_ruleJ (none) (.light 0 <| .light 1 <| .light 2 <| .light 3 <| .light 4 <| .light 5 <| .alt 6 false (.light 7 <| .alt 8 false (.alt 9 false (.light 10 <| .alt 11 true (.done) .nil) .nil) .nil) .nil) (by decide +kernel) (bot_le _) ?_; conv => whnf) | (with_reducible refine @And.intro (guardVC _ _ _ _ _) _ ?_ ?_) <;> conv => whnf | (refine caseB_intro (fun h => ?_) (fun h => ?_) <;> (try simp only [Bool.not_eq_true', Bool.not_eq_false', decide_eq_true_eq, decide_eq_false_iff_not] at h) <;> conv => whnf))
  · rw [enterOf_ok (by assumption) (by assumption) (by assumption) (by assumption) (by simp [enterOk, *])]
    simp only [enterK, enterW, h, if_true, decide_true]
    exact ⟨_, PH.Le.refl _, o, A1, c1, rfl, hN⟩
  · rename_i h5
    rw [enterOf_full (by assumption) (by assumption) (by assumption) (by assumption) (by simp [enterOk, *])]
    exact ⟨_, PH.Le.refl _, none, none, 0, rfl, ⟨Ow.nil, hN.le, fun g e => nomatch e⟩⟩
  · rename_i h5
    intro g0 hg0
    have l0 := PH.Le.set (.cells ([(⟨x, add' t l.c⟩ : Wt)].flatMap Wt.cs).toArray 67 (0, 0)) hg0
    refine ⟨⟨[], rfl⟩, _, PH.Le.refl _, bot_le _, ?_⟩
    conv => whnf
    have hS := sl_full Wt.len M1 g0 [(⟨x, add' t l.c⟩ : Wt)] 67 (0, 0)
    refine app_sl (te := ti67) (f := Wt.cs) (xs := ws) (ys := [⟨x, add' t l.c⟩]) (o := o) hS (hN.ow.mono l0) Wt.len Wt.one rfl (wt_fits1 ws _ hn) (by simp; omega) fun o' A' c' M' hO hK hF => ?_
    refine ⟨⟨[], rfl⟩, _, PH.Le.refl _, bot_le _, ?_⟩
    conv => whnf
    have hN2 := hN.more l0 hK hO hF
    rw [enterOf_ok (by assumption) (by assumption) (by assumption) (by assumption) (by simp [enterOk, *])]
    simp only [enterK, enterW, h5, h, if_false, decide_false]
    exact ⟨_, PH.Le.refl _, o', A', c', rfl, hN2⟩
theorem enterBulk_spec (k : Int) (A : Option Addr) (c : Nat) (ws : List Wt) (l : Ln) (x t : Int) (M : PH) (hs : Sl M A 2 Wt.cs ws) (hn : ws.length ≤ 1048576) :
    ACall env 37 [bulkV k A ws.length c, l.v, I x, I t] M fun r M' => ∃ A' c', r = enV (enterOf k ws l x t).why (enterOf k ws l x t).k A' (enterOf k ws l x t).ws.length c' (enterOf k ws l x t).b ∧ M.Le M' ∧ Sl M' A' 2 Wt.cs (enterOf k ws l x t).ws :=
  (enterBulk_specN k A c ws l x t M hs hn).mono fun r M' ⟨o, A', c', hr, hN⟩ => ⟨A', c', hr, hN.le, hN.ow.sl Wt.len⟩
theorem eqEnter_ret (w k : Int) (b : Bool) (A A' : Option Addr) (c c' : Nat) (ws : List Wt) (M : PH) (hs : Sl M A 2 Wt.cs ws) (hs' : Sl M A' 2 Wt.cs ws) (hn : ws.length ≤ 1048576) :
    Ret 40 [enV w k A ws.length c b, enV w k A' ws.length c' b] M (B true) := by
  refine xcall_of_vc Try.func40 rfl _ Try.ntmps40 _ rfl (fun _ _ => Try.call40 _ _) rfl (fun w0 ρ0 => ?_)
  conv => whnf
  repeat' (first | (refine ⟨⟨[], rfl⟩, _, PH.Le.refl _, PH.Le.refl _, ?_⟩; conv => whnf) | (refine caseB_true ?_; conv => whnf) | (refine caseB_false ?_; conv => whnf) | ((with_reducible refine caseB_dec (fun h => ?_) (fun h => ?_)) <;> conv => whnf) | ((with_reducible refine caseB_ndec (fun h => ?_) (fun h => ?_)) <;> conv => whnf) | ((with_reducible refine caseB_not (fun h => ?_) (fun h => ?_)) <;> conv => whnf) | (refine Ret.go (eqBulk_ret k A A' c c' ws _ hs hs' hn) ?_; conv => whnf) | (with_reducible refine @And.intro (guardVC _ _ _ _ _) _ ?_ ?_) <;> conv => whnf | (refine caseB_intro (fun h => ?_) (fun h => ?_) <;> (try simp only [Bool.not_eq_true', Bool.not_eq_false', decide_eq_true_eq, decide_eq_false_iff_not] at h) <;> conv => whnf))
  all_goals first | (exfalso; simp at h; done) | exact ⟨_, PH.Le.refl _, rfl, rfl⟩
theorem markEnter_ret (w k : Int) (b : Bool) (o : Option Nat) (A : Option Addr) (c : Nat) (ws : List Wt) (j : Int) (M : PH) (h : Ow M o A c 2 Wt.cs ws) (hn : ws.length ≤ 1048576) (hj : 0 ≤ j ∧ j ≤ 1000000000) :
    ACall env 41 [enV w k A ws.length c b, I j] M fun r M' => r = I (j + 2 * ws.length) ∧ Ow M' o A c 2 Wt.cs (marksW j ws.length) ∧ Keeps o M M' := by
  refine xcall_of_vc Try.func41 rfl _ Try.ntmps41 _ rfl (fun _ _ => Try.call41 _ _) rfl (fun w0 ρ0 => ?_)
  conv => whnf
  refine ACall.step (markBulk_ret k o A c ws j M h (by omega) (by omega)) fun r M' hh => ?_
  obtain ⟨rfl, h1, h2⟩ := hh
  conv => whnf
  exact ⟨_, PH.Le.refl _, rfl, h1, h2⟩
theorem heldEnter_ret (w k : Int) (b : Bool) (A : Option Addr) (c n : Nat) (j : Int) (M : PH) (hM : Sl M A 2 Wt.cs (marksW j n)) (hn : n ≤ 1048576) (hj : 0 ≤ j ∧ j ≤ 1000000000) :
    Ret 42 [enV w k A n c b, I j] M (I (j + 2 * n)) := by
  refine xcall_of_vc Try.func42 rfl _ Try.ntmps42 _ rfl (fun _ _ => Try.call42 _ _) rfl (fun w0 ρ0 => ?_)
  conv => whnf
  repeat' (first | (refine ⟨⟨[], rfl⟩, _, PH.Le.refl _, PH.Le.refl _, ?_⟩; conv => whnf) | (refine caseB_true ?_; conv => whnf) | (refine caseB_false ?_; conv => whnf) | ((with_reducible refine caseB_dec (fun h => ?_) (fun h => ?_)) <;> conv => whnf) | ((with_reducible refine caseB_ndec (fun h => ?_) (fun h => ?_)) <;> conv => whnf) | ((with_reducible refine caseB_not (fun h => ?_) (fun h => ?_)) <;> conv => whnf) | (refine Ret.go (heldBulk_ret k A c n j _ hM (by omega) (by omega)) ?_; conv => whnf) | (with_reducible refine @And.intro (guardVC _ _ _ _ _) _ ?_ ?_) <;> conv => whnf | (refine caseB_intro (fun h => ?_) (fun h => ?_) <;> (try simp only [Bool.not_eq_true', Bool.not_eq_false', decide_eq_true_eq, decide_eq_false_iff_not] at h) <;> conv => whnf))
  all_goals first | omega | exact ⟨_, PH.Le.refl _, rfl, rfl⟩
theorem lanes_le {l : Ln} (h : lanesFault l = 0) : 0 ≤ l.b ∧ l.b ≤ 8 := by
  unfold lanesFault at h
  split at h
  · rename_i e; simp [inB] at e; omega
  · cases h
theorem enterOf_len (k : Int) (ws : List Wt) (l : Ln) (x t : Int) (hn : ws.length ≤ 1048576) : (enterOf k ws l x t).ws.length ≤ 1048576 := by
  unfold enterOf
  split
  · exact Nat.zero_le _
  · rename_i h0
    have h0 : bulkFault k ws l = 0 := by simpa using h0
    have hl : lanesFault l = 0 := by
      unfold bulkFault at h0
      split at h0
      · contradiction
      · rename_i e; simpa using e
    have := lanes_le hl
    split
    · exact Nat.zero_le _
    · split
      · exact Nat.zero_le _
      · split
        · show (enterW k ws l x t).length ≤ _
          unfold enterW
          split
          · exact hn
          · split
            · exact hn
            · simp; omega
        · exact Nat.zero_le _
set_option maxHeartbeats 4000000 in
theorem enterBulk_law (k : Int) (l : Ln) (x t : Int) (A : Option Addr) (c : Nat) (ws : List Wt) (M : PH) (hs : Sl M A 2 Wt.cs ws) (h63 : ws.length ≤ maxLen) :
    ACall env 8 ([bulkV k A ws.length c, l.v] ++ [I x, I t]) M fun r M' => r = B true ∧ M.Le M' := by
  refine xcall_of_vc Try.func8 rfl _ Try.ntmps8 _ rfl (fun _ _ => Try.call8 _ _) rfl (fun w0 ρ0 => ?_)
  conv => whnf
  repeat' (first | (refine ⟨⟨[], rfl⟩, _, PH.Le.refl _, PH.Le.refl _, ?_⟩; conv => whnf) | (refine caseB_true ?_; conv => whnf) | (refine caseB_false ?_; conv => whnf) | ((with_reducible refine caseB_dec (fun h => ?_) (fun h => ?_)) <;> conv => whnf) | ((with_reducible refine caseB_ndec (fun h => ?_) (fun h => ?_)) <;> conv => whnf) | ((with_reducible refine caseB_not (fun h => ?_) (fun h => ?_)) <;> conv => whnf) | (refine Ret.go (szBulk_ret k A c ws _ _) ?_; conv => whnf) | (with_reducible refine @And.intro (guardVC _ _ _ _ _) _ ?_ ?_) <;> conv => whnf | (refine caseB_intro (fun h => ?_) (fun h => ?_) <;> (try simp only [Bool.not_eq_true', Bool.not_eq_false', decide_eq_true_eq, decide_eq_false_iff_not] at h) <;> conv => whnf))
  · exact ⟨_, PH.Le.refl _, rfl, PH.Le.refl _⟩
  obtain ⟨e1, b1⟩ := sz_in (by omega) (by omega) h63 h
  have hn : ws.length ≤ 1048576 := by omega
  clear h e1 b1
  have hn2 : (enterOf k ws l x t).ws.length ≤ 1048576 := enterOf_len k ws l x t hn
  refine join_rule (fun z : Option Addr × Nat => ⟨slots 87 [(2, .v (I x)), (3, .v (I t)), (4, .bp 0 0), (5, .bp 1 0), (8, .v (B false)), (10, .bp 2 0)], [⟨35, [.v (I k), .v (.slice A ws.length c)]⟩, ⟨37, [.v (I l.a), .v (I l.b), .v (I l.c)]⟩, ⟨63, [.v (I (enterOf k ws l x t).why), .v (I (enterOf k ws l x t).k), .v (.slice z.1 (enterOf k ws l x t).ws.length z.2), .v (B (enterOf k ws l x t).b)]⟩]⟩) (fun z M' => M.Le M' ∧ Sl M' z.1 2 Wt.cs (enterOf k ws l x t).ws) ?_ ?_
  · repeat' (first | (refine ⟨⟨[], rfl⟩, _, PH.Le.refl _, PH.Le.refl _, ?_⟩; conv => whnf) | (refine ⟨⟨_, rfl⟩, _, PH.Le.refl _, PH.Le.refl _, ?_⟩; conv => whnf) | (refine ACall.step (enterBulk_spec k _ _ ws l x t _ (by first | assumption | exact Sl.mono (by assumption) (by repeat (first | exact PH.Le.refl _ | assumption | (apply PH.Le.trans; · assumption)))) hn) fun r M2 hh => ?_; obtain ⟨Aw, cw, rfl, lw, sw⟩ := hh; (first | (refine ⟨⟨[], rfl⟩, _, lw, PH.Le.refl _, ?_⟩; conv => whnf) | conv => whnf)) | (refine ACall.step (toBulk_new k A c ws _ (hs.mono (by repeat (first | exact PH.Le.refl _ | assumption | (apply PH.Le.trans; · assumption)))) hn) fun r M1 hh => ?_; obtain ⟨g, rfl, l1, s1⟩ := hh; (first | (refine ⟨⟨[], rfl⟩, _, l1, PH.Le.refl _, ?_⟩; conv => whnf) | (refine ⟨⟨_, rfl⟩, _, l1, PH.Le.refl _, ?_⟩; conv => whnf) | conv => whnf)) | (refine caseB_true ?_; conv => whnf) | (refine caseB_false ?_; conv => whnf) | ((with_reducible refine caseB_dec (fun h => ?_) (fun h => ?_)) <;> conv => whnf) | ((with_reducible refine caseB_ndec (fun h => ?_) (fun h => ?_)) <;> conv => whnf) | ((with_reducible refine caseB_not (fun h => ?_) (fun h => ?_)) <;> conv => whnf) | (refine Ret.go (toLanes_ret l _) ?_; conv => whnf) | (refine draw_rule (.light 0 <| .light 2 <| .light 4 <| .light 5 <| .alt 1 false (.alt 3 false (.alt 6 false (.alt 7 false (.alt 8 true (.done) .nil) .nil) (.alt 7 false (.alt 6 false (.alt 8 true (.done) .nil) .nil) .nil)) (.alt 7 false (.alt 3 false (.alt 6 false (.alt 8 true (.done) .nil) .nil) .nil) .nil)) (.alt 7 false (.alt 1 false (.alt 3 false (.alt 6 false (.alt 8 true (.done) .nil) .nil) .nil) .nil) .nil)) (by decide +kernel) ?_; conv => whnf) | (refine draw_rule (.light 0 <| .light 1 <| .light 3 <| .light 4 <| .alt 2 false (.alt 5 false (.alt 6 false (.alt 7 true (.done) .nil) .nil) (.alt 6 false (.alt 5 false (.alt 7 true (.done) .nil) .nil) .nil)) (.alt 6 false (.alt 2 false (.alt 5 false (.alt 7 true (.done) .nil) .nil) .nil) .nil)) (by decide +kernel) ?_; conv => whnf) | (refine draw_rule (.light 0 <| .light 1 <| .alt 2 false (.alt 3 false (.light 4 <| .done) .nil) .nil) (by decide +kernel) ?_; conv => whnf) | (refine draw_rule (.light 0 <| .light 2 <| .light 4 <| .light 5 <| .alt 1 false (.alt 3 false (.alt 6 false (.alt 7 false (.alt 8 true (.done) .nil) .nil) (.alt 7 false (.alt 6 false (.alt 8 true (.done) .nil) .nil) .nil)) (.alt 7 false (.alt 3 false (.alt 6 false (.alt 8 true (.done) .nil) .nil) .nil) .nil)) (.alt 7 false (.alt 1 false (.alt 3 false (.alt 6 false (.alt 8 true (.done) .nil) .nil) .nil) .nil) .nil)) (by decide +kernel) ?_; conv => whnf) | (with_reducible refine @And.intro (guardVC _ _ _ _ _) _ ?_ ?_) <;> conv => whnf | (refine caseB_intro (fun h => ?_) (fun h => ?_) <;> (try simp only [Bool.not_eq_true', Bool.not_eq_false', decide_eq_true_eq, decide_eq_false_iff_not] at h) <;> conv => whnf))
    all_goals exact ⟨(Aw, cw), ⟨by simp [slots, leT], ⟨[], rfl⟩, by simp, rfl, rfl⟩, (by repeat (first | exact PH.Le.refl _ | assumption | (apply PH.Le.trans; · assumption))), (by first | assumption | exact Sl.mono (by assumption) (by repeat (first | exact PH.Le.refl _ | assumption | (apply PH.Le.trans; · assumption))))⟩
  rintro ⟨Aw, cw⟩ M1 ⟨l1, sw⟩
  conv => whnf
  refine ACall.step (toBulk_own k A c ws _ (hs.mono l1) hn) fun r M2 hh => ?_
  obtain ⟨gx, rfl, Nx⟩ := hh
  conv => whnf
  have l2 := Nx.le
  have sx := Nx.ow.sl Wt.len
  refine join_rule (fun z : Option Nat × Option Addr × Nat => ⟨slots 87 [(2, .v (I x)), (3, .v (I t)), (4, .bp 0 0), (5, .bp 1 0), (8, .v (B false)), (10, .bp 2 0), (11, .bp (2 + 1) 0), (12, .bp (2 + 2) 0)], [⟨35, [.v (I k), .v (.slice A ws.length c)]⟩, ⟨37, [.v (I l.a), .v (I l.b), .v (I l.c)]⟩, ⟨63, [.v (I (enterOf k ws l x t).why), .v (I (enterOf k ws l x t).k), .v (.slice Aw (enterOf k ws l x t).ws.length cw), .v (B (enterOf k ws l x t).b)]⟩, ⟨42, [.v (I k), .v (.slice (some ⟨gx, 0, none⟩) ws.length ws.length)]⟩, ⟨63, [.v (I (enterOf k ws l x t).why), .v (I (enterOf k ws l x t).k), .v (.slice z.2.1 (enterOf k ws l x t).ws.length z.2.2), .v (B (enterOf k ws l x t).b)]⟩]⟩) (fun z M' => New M2 M' z.1 z.2.1 z.2.2 2 Wt.cs (enterOf k ws l x t).ws) ?_ ?_
  · repeat' (first | (refine ⟨⟨[], rfl⟩, _, PH.Le.refl _, PH.Le.refl _, ?_⟩; conv => whnf) | (refine ⟨⟨_, rfl⟩, _, PH.Le.refl _, PH.Le.refl _, ?_⟩; conv => whnf) | (refine ACall.step (enterBulk_impl k _ _ ws l x t _ (by first | assumption | exact Sl.mono (by assumption) (by repeat (first | exact PH.Le.refl _ | assumption | (apply PH.Le.trans; · assumption)))) hn) fun r M3 hh => ?_; obtain ⟨og, Ag, cg, rfl, Ng⟩ := hh; have lg := Ng.le; (first | (refine ⟨⟨[], rfl⟩, _, lg, PH.Le.refl _, ?_⟩; conv => whnf) | conv => whnf)) | (refine caseB_true ?_; conv => whnf) | (refine caseB_false ?_; conv => whnf) | ((with_reducible refine caseB_dec (fun h => ?_) (fun h => ?_)) <;> conv => whnf) | ((with_reducible refine caseB_ndec (fun h => ?_) (fun h => ?_)) <;> conv => whnf) | ((with_reducible refine caseB_not (fun h => ?_) (fun h => ?_)) <;> conv => whnf) | (refine Ret.go (toLanes_ret l _) ?_; conv => whnf) | (refine draw_rule (.light 0 <| .light 2 <| .light 4 <| .light 5 <| .alt 1 false (.alt 3 false (.alt 6 false (.alt 7 false (.alt 8 true (.done) .nil) .nil) (.alt 7 false (.alt 6 false (.alt 8 true (.done) .nil) .nil) .nil)) (.alt 7 false (.alt 3 false (.alt 6 false (.alt 8 true (.done) .nil) .nil) .nil) .nil)) (.alt 7 false (.alt 1 false (.alt 3 false (.alt 6 false (.alt 8 true (.done) .nil) .nil) .nil) .nil) .nil)) (by decide +kernel) ?_; conv => whnf) | (refine draw_rule (.light 0 <| .light 1 <| .light 3 <| .light 4 <| .alt 2 false (.alt 5 false (.alt 6 false (.alt 7 true (.done) .nil) .nil) (.alt 6 false (.alt 5 false (.alt 7 true (.done) .nil) .nil) .nil)) (.alt 6 false (.alt 2 false (.alt 5 false (.alt 7 true (.done) .nil) .nil) .nil) .nil)) (by decide +kernel) ?_; conv => whnf) | (refine draw_rule (.light 0 <| .light 1 <| .alt 2 false (.alt 3 false (.light 4 <| .done) .nil) .nil) (by decide +kernel) ?_; conv => whnf) | (refine draw_rule (.light 0 <| .light 2 <| .light 4 <| .light 5 <| .alt 1 false (.alt 3 false (.alt 6 false (.alt 7 false (.alt 8 true (.done) .nil) .nil) (.alt 7 false (.alt 6 false (.alt 8 true (.done) .nil) .nil) .nil)) (.alt 7 false (.alt 3 false (.alt 6 false (.alt 8 true (.done) .nil) .nil) .nil) .nil)) (.alt 7 false (.alt 1 false (.alt 3 false (.alt 6 false (.alt 8 true (.done) .nil) .nil) .nil) .nil) .nil)) (by decide +kernel) ?_; conv => whnf) | (with_reducible refine @And.intro (guardVC _ _ _ _ _) _ ?_ ?_) <;> conv => whnf | (refine caseB_intro (fun h => ?_) (fun h => ?_) <;> (try simp only [Bool.not_eq_true', Bool.not_eq_false', decide_eq_true_eq, decide_eq_false_iff_not] at h) <;> conv => whnf))
    all_goals exact ⟨(og, Ag, cg), ⟨by simp [slots, leT], ⟨[], rfl⟩, by simp, rfl, rfl⟩, Ng⟩
  rintro ⟨og, Ag, cg⟩ M3 Ng
  conv => whnf
  have l3 := Ng.le
  have sg := Ng.ow.sl Wt.len
  repeat' (first | (refine ⟨⟨[], rfl⟩, _, PH.Le.refl _, PH.Le.refl _, ?_⟩; conv => whnf) | (refine ACall.step (toBulk_new k A c ws _ (hs.mono (by repeat (first | exact PH.Le.refl _ | assumption | (apply PH.Le.trans; · assumption)))) hn) fun r M4 hh => ?_; obtain ⟨g4, rfl, l4, s4⟩ := hh; (first | (refine ⟨⟨[], rfl⟩, _, l4, PH.Le.refl _, ?_⟩; conv => whnf) | conv => whnf)) | (refine caseB_true ?_; conv => whnf) | (refine caseB_false ?_; conv => whnf) | ((with_reducible refine caseB_dec (fun h => ?_) (fun h => ?_)) <;> conv => whnf) | ((with_reducible refine caseB_ndec (fun h => ?_) (fun h => ?_)) <;> conv => whnf) | ((with_reducible refine caseB_not (fun h => ?_) (fun h => ?_)) <;> conv => whnf) | (refine Ret.go (eqEnter_ret _ _ _ _ _ _ _ _ _ (by first | assumption | exact Sl.mono (by assumption) (by repeat (first | exact PH.Le.refl _ | assumption | (apply PH.Le.trans; · assumption)))) (by first | assumption | exact Sl.mono (by assumption) (by repeat (first | exact PH.Le.refl _ | assumption | (apply PH.Le.trans; · assumption)))) hn2) ?_; conv => whnf) | (refine Ret.go (eqBulk_ret k _ _ _ _ ws _ (by first | assumption | exact Sl.mono (by assumption) (by repeat (first | exact PH.Le.refl _ | assumption | (apply PH.Le.trans; · assumption)))) (by first | assumption | exact Sl.mono (by assumption) (by repeat (first | exact PH.Le.refl _ | assumption | (apply PH.Le.trans; · assumption)))) hn) ?_; conv => whnf) | (refine draw_rule (.light 0 <| .light 2 <| .light 4 <| .light 5 <| .alt 1 false (.alt 3 false (.alt 6 false (.alt 7 false (.alt 8 true (.done) .nil) .nil) (.alt 7 false (.alt 6 false (.alt 8 true (.done) .nil) .nil) .nil)) (.alt 7 false (.alt 3 false (.alt 6 false (.alt 8 true (.done) .nil) .nil) .nil) .nil)) (.alt 7 false (.alt 1 false (.alt 3 false (.alt 6 false (.alt 8 true (.done) .nil) .nil) .nil) .nil) .nil)) (by decide +kernel) ?_; conv => whnf) | (refine draw_rule (.light 0 <| .light 1 <| .light 3 <| .light 4 <| .alt 2 false (.alt 5 false (.alt 6 false (.alt 7 true (.done) .nil) .nil) (.alt 6 false (.alt 5 false (.alt 7 true (.done) .nil) .nil) .nil)) (.alt 6 false (.alt 2 false (.alt 5 false (.alt 7 true (.done) .nil) .nil) .nil) .nil)) (by decide +kernel) ?_; conv => whnf) | (refine draw_rule (.light 0 <| .light 1 <| .alt 2 false (.alt 3 false (.light 4 <| .done) .nil) .nil) (by decide +kernel) ?_; conv => whnf) | (refine draw_rule (.light 0 <| .light 2 <| .light 4 <| .light 5 <| .alt 1 false (.alt 3 false (.alt 6 false (.alt 7 false (.alt 8 true (.done) .nil) .nil) (.alt 7 false (.alt 6 false (.alt 8 true (.done) .nil) .nil) .nil)) (.alt 7 false (.alt 3 false (.alt 6 false (.alt 8 true (.done) .nil) .nil) .nil) .nil)) (.alt 7 false (.alt 1 false (.alt 3 false (.alt 6 false (.alt 8 true (.done) .nil) .nil) .nil) .nil) .nil)) (by decide +kernel) ?_; conv => whnf) | (with_reducible refine @And.intro (guardVC _ _ _ _ _) _ ?_ ?_) <;> conv => whnf | (refine caseB_intro (fun h => ?_) (fun h => ?_) <;> (try simp only [Bool.not_eq_true', Bool.not_eq_false', decide_eq_true_eq, decide_eq_false_iff_not] at h) <;> conv => whnf))
  refine ACall.step (markBulk_ret k (some gx) _ _ ws 1 _ (Nx.ow.mono (by repeat (first | exact PH.Le.refl _ | assumption | (apply PH.Le.trans; · assumption)))) hn (by omega)) fun r M5 hh => ?_
  obtain ⟨rfl, hx5, k5⟩ := hh
  have q5 : M1.Le M5 := k5.over ((l2.trans l3).trans l4) (fun k e => by cases e; exact Nx.fr gx rfl)
  have og5 : Ow M5 og Ag cg 2 Wt.cs (enterOf k ws l x t).ws := (Ng.ow.mono l4).keeps k5 (fun g e e2 => by
    cases e2
    have h1 := Ng.fr _ e
    obtain ⟨ob, hob⟩ := Nx.ow.known _ rfl
    rw [h1] at hob; cases hob)
  have sw5 := sw.mono q5
  have sg5 := og5.sl Wt.len
  conv => whnf
  repeat' (first | (refine ⟨⟨[], rfl⟩, _, PH.Le.refl _, PH.Le.refl _, ?_⟩; conv => whnf) | (with_reducible refine caseB_dec (fun h => absurd h (by omega)) (fun h => ?_); conv => whnf) | (refine caseB_true ?_; conv => whnf) | (refine caseB_false ?_; conv => whnf) | ((with_reducible refine caseB_dec (fun h => ?_) (fun h => ?_)) <;> conv => whnf) | ((with_reducible refine caseB_ndec (fun h => ?_) (fun h => ?_)) <;> conv => whnf) | ((with_reducible refine caseB_not (fun h => ?_) (fun h => ?_)) <;> conv => whnf) | (refine Ret.go (eqEnter_ret _ _ _ _ _ _ _ _ _ sg5 sw5 hn2) ?_; conv => whnf) | (with_reducible refine @And.intro (guardVC _ _ _ _ _) _ ?_ ?_) <;> conv => whnf | (refine caseB_intro (fun h => ?_) (fun h => ?_) <;> (try simp only [Bool.not_eq_true', Bool.not_eq_false', decide_eq_true_eq, decide_eq_false_iff_not] at h) <;> conv => whnf))
  refine ACall.step (markEnter_ret _ _ _ og Ag cg (enterOf k ws l x t).ws 1 _ og5 hn2 (by omega)) fun r M6 hh => ?_
  obtain ⟨rfl, h6, k6⟩ := hh
  have q6 : M1.Le M6 := k6.over q5 (fun k e => none_of_le l2 (Ng.fr k e))
  have s6 := h6.sl Wt.len
  conv => whnf
  repeat' (first | (refine ⟨⟨[], rfl⟩, _, PH.Le.refl _, PH.Le.refl _, ?_⟩; conv => whnf) | (with_reducible refine caseB_dec (fun h => absurd h (by omega)) (fun h => ?_); conv => whnf) | (refine caseB_true ?_; conv => whnf) | (refine caseB_false ?_; conv => whnf) | ((with_reducible refine caseB_dec (fun h => ?_) (fun h => ?_)) <;> conv => whnf) | ((with_reducible refine caseB_ndec (fun h => ?_) (fun h => ?_)) <;> conv => whnf) | ((with_reducible refine caseB_not (fun h => ?_) (fun h => ?_)) <;> conv => whnf) | (refine Ret.go (heldEnter_ret _ _ _ Ag cg (enterOf k ws l x t).ws.length 1 _ s6 hn2 (by omega)) ?_; conv => whnf) | (with_reducible refine @And.intro (guardVC _ _ _ _ _) _ ?_ ?_) <;> conv => whnf | (refine caseB_intro (fun h => ?_) (fun h => ?_) <;> (try simp only [Bool.not_eq_true', Bool.not_eq_false', decide_eq_true_eq, decide_eq_false_iff_not] at h) <;> conv => whnf))
  · first | exact absurd trivial h | exact absurd rfl h
  have lA := l1.trans q6
  refine join_rule (fun z : Option Addr × Nat => ⟨slots 87 [(2, .v (I x)), (3, .v (I t)), (4, .bp 0 0), (5, .bp 1 0), (8, .v (B false)), (10, .bp 2 0), (11, .bp (2 + 1) 0), (12, .bp (2 + 2) 0), (14, .v (I (1 + 2 * (enterOf k ws l x t).ws.length))), (16, .bp (2 + 3) 0)], [⟨35, [.v (I k), .v (.slice A ws.length c)]⟩, ⟨37, [.v (I l.a), .v (I l.b), .v (I l.c)]⟩, ⟨63, [.v (I (enterOf k ws l x t).why), .v (I (enterOf k ws l x t).k), .v (.slice Aw (enterOf k ws l x t).ws.length cw), .v (B (enterOf k ws l x t).b)]⟩, ⟨42, [.v (I k), .v (.slice (some ⟨gx, 0, none⟩) ws.length ws.length)]⟩, ⟨63, [.v (I (enterOf k ws l x t).why), .v (I (enterOf k ws l x t).k), .v (.slice Ag (enterOf k ws l x t).ws.length cg), .v (B (enterOf k ws l x t).b)]⟩, ⟨63, [.v (I (enterOf k ws l x t).why), .v (I (enterOf k ws l x t).k), .v (.slice z.1 (enterOf k ws l x t).ws.length z.2), .v (B (enterOf k ws l x t).b)]⟩]⟩) (fun z M' => M6.Le M' ∧ Sl M' z.1 2 Wt.cs (enterOf k ws l x t).ws) ?_ ?_
  · repeat' (first | (refine ⟨⟨[], rfl⟩, _, PH.Le.refl _, PH.Le.refl _, ?_⟩; conv => whnf) | (refine ⟨⟨_, rfl⟩, _, PH.Le.refl _, PH.Le.refl _, ?_⟩; conv => whnf) | (refine ACall.step (enterBulk_impl k _ _ ws l x t _ (by first | assumption | exact Sl.mono (by assumption) (by repeat (first | exact PH.Le.refl _ | assumption | (apply PH.Le.trans; · assumption)))) hn) fun r M8 hh => ?_; obtain ⟨o8, A8, c8, rfl, N8⟩ := hh; have l8 := N8.le; (first | (refine ⟨⟨[], rfl⟩, _, l8, PH.Le.refl _, ?_⟩; conv => whnf) | conv => whnf)) | (refine ACall.step (toBulk_new k A c ws _ (hs.mono (lA.trans (by repeat (first | exact PH.Le.refl _ | assumption | (apply PH.Le.trans; · assumption))))) hn) fun r M7 hh => ?_; obtain ⟨g7, rfl, l7, s7⟩ := hh; (first | (refine ⟨⟨[], rfl⟩, _, l7, PH.Le.refl _, ?_⟩; conv => whnf) | (refine ⟨⟨_, rfl⟩, _, l7, PH.Le.refl _, ?_⟩; conv => whnf) | conv => whnf)) | (refine caseB_true ?_; conv => whnf) | (refine caseB_false ?_; conv => whnf) | ((with_reducible refine caseB_dec (fun h => ?_) (fun h => ?_)) <;> conv => whnf) | ((with_reducible refine caseB_ndec (fun h => ?_) (fun h => ?_)) <;> conv => whnf) | ((with_reducible refine caseB_not (fun h => ?_) (fun h => ?_)) <;> conv => whnf) | (refine Ret.go (toLanes_ret l _) ?_; conv => whnf) | (refine draw_rule (.light 0 <| .light 2 <| .light 4 <| .light 5 <| .alt 1 false (.alt 3 false (.alt 6 false (.alt 7 false (.alt 8 true (.done) .nil) .nil) (.alt 7 false (.alt 6 false (.alt 8 true (.done) .nil) .nil) .nil)) (.alt 7 false (.alt 3 false (.alt 6 false (.alt 8 true (.done) .nil) .nil) .nil) .nil)) (.alt 7 false (.alt 1 false (.alt 3 false (.alt 6 false (.alt 8 true (.done) .nil) .nil) .nil) .nil) .nil)) (by decide +kernel) ?_; conv => whnf) | (refine draw_rule (.light 0 <| .light 1 <| .light 3 <| .light 4 <| .alt 2 false (.alt 5 false (.alt 6 false (.alt 7 true (.done) .nil) .nil) (.alt 6 false (.alt 5 false (.alt 7 true (.done) .nil) .nil) .nil)) (.alt 6 false (.alt 2 false (.alt 5 false (.alt 7 true (.done) .nil) .nil) .nil) .nil)) (by decide +kernel) ?_; conv => whnf) | (refine draw_rule (.light 0 <| .light 1 <| .alt 2 false (.alt 3 false (.light 4 <| .done) .nil) .nil) (by decide +kernel) ?_; conv => whnf) | (refine draw_rule (.light 0 <| .light 2 <| .light 4 <| .light 5 <| .alt 1 false (.alt 3 false (.alt 6 false (.alt 7 false (.alt 8 true (.done) .nil) .nil) (.alt 7 false (.alt 6 false (.alt 8 true (.done) .nil) .nil) .nil)) (.alt 7 false (.alt 3 false (.alt 6 false (.alt 8 true (.done) .nil) .nil) .nil) .nil)) (.alt 7 false (.alt 1 false (.alt 3 false (.alt 6 false (.alt 8 true (.done) .nil) .nil) .nil) .nil) .nil)) (by decide +kernel) ?_; conv => whnf) | (with_reducible refine @And.intro (guardVC _ _ _ _ _) _ ?_ ?_) <;> conv => whnf | (refine caseB_intro (fun h => ?_) (fun h => ?_) <;> (try simp only [Bool.not_eq_true', Bool.not_eq_false', decide_eq_true_eq, decide_eq_false_iff_not] at h) <;> conv => whnf))
    all_goals exact ⟨(A8, c8), ⟨by simp [slots, leT], ⟨[], rfl⟩, by simp, rfl, rfl⟩, (by repeat (first | exact PH.Le.refl _ | assumption | (apply PH.Le.trans; · assumption))), N8.ow.sl Wt.len⟩
  rintro ⟨A8, c8⟩ M8 ⟨l8, s8⟩
  conv => whnf
  repeat' (first | (refine ⟨⟨[], rfl⟩, _, PH.Le.refl _, PH.Le.refl _, ?_⟩; conv => whnf) | (with_reducible refine caseB_dec (fun h => absurd h (by omega)) (fun h => ?_); conv => whnf) | (refine caseB_true ?_; conv => whnf) | (refine caseB_false ?_; conv => whnf) | ((with_reducible refine caseB_dec (fun h => ?_) (fun h => ?_)) <;> conv => whnf) | ((with_reducible refine caseB_ndec (fun h => ?_) (fun h => ?_)) <;> conv => whnf) | ((with_reducible refine caseB_not (fun h => ?_) (fun h => ?_)) <;> conv => whnf) | (refine Ret.go (eqEnter_ret _ _ _ _ _ _ _ _ _ s8 (sw.mono (q6.trans l8)) hn2) ?_; conv => whnf) | (refine Ret.go (heldEnter_ret _ _ _ Ag cg (enterOf k ws l x t).ws.length 1 _ (s6.mono l8) hn2 (by omega)) ?_; conv => whnf) | (with_reducible refine @And.intro (guardVC _ _ _ _ _) _ ?_ ?_) <;> conv => whnf | (refine caseB_intro (fun h => ?_) (fun h => ?_) <;> (try simp only [Bool.not_eq_true', Bool.not_eq_false', decide_eq_true_eq, decide_eq_false_iff_not] at h) <;> conv => whnf))
  all_goals first | exact absurd trivial h | exact absurd rfl h | exact ⟨_, PH.Le.refl _, rfl, lA.trans l8⟩

end Go.Proofs.Ytpiakjcmbnfdlaa
