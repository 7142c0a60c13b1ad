/-
  CONTRACTS: what is wrong with a breaker; how many of its marks are bad.
-/
import Derived.Test.YtpiakjcmbnfdlaaLq
namespace Go.Proofs.Ytpiakjcmbnfdlaa
set_option maxRecDepth 100000
set_option linter.unusedSimpArgs false
set_option linter.unusedVariables false
open Go.Xe
def okM (w : Mk) : Bool := isT w.a
/-- In the order of their times. -/
def Srt (ws : List Mk) : Prop := ∀ i, ∀ h : i + 1 < ws.length, ws[i].a ≤ ws[i + 1].a
theorem Srt.all {ws : List Mk} (h : Srt ws) : ∀ (d i : Nat) (hi : i + d < ws.length), ws[i].a ≤ ws[i + d].a
  | 0, i, hi => Int.le_refl _
  | d + 1, i, hi => by
    have h1 := h.all d i (by omega)
    have h2 := h (i + d) (by omega)
    exact Int.le_trans h1 h2
theorem Srt.last {ws : List Mk} (h : Srt ws) (h0 : 0 < ws.length) {w : Mk} (hw : w ∈ ws) : w.a ≤ ws[ws.length - 1].a := by
  obtain ⟨i, hi, rfl⟩ := List.getElem_of_mem hw
  have := h.all (ws.length - 1 - i) i (by omega)
  have e : i + (ws.length - 1 - i) = ws.length - 1 := by omega
  simpa [e] using this
noncomputable def brFault (k : K3) (ws : List Mk) : Int :=
  if (inB k.p 0 2 && isT k.q && inB k.r 0 5) = false then 3 else if 60 < ws.length then 2 else if ws.any (fun w => !okM w) then 3 else if asB (Srt ws) = false then 1
  else if (!decide (k.p = 0) && decide (0 < ws.length)) || (!decide (k.p = 2) && !decide (k.r = 0)) then 8 else 0
theorem anyM_no {ws : List Mk} (h : ∀ j, ∀ hj : j < ws.length, okM ws[j] = true) : ws.any (fun w => !okM w) = false := by
  rw [List.any_eq_false]
  intro w hw
  obtain ⟨j, hj, rfl⟩ := List.getElem_of_mem hw
  simp [h j hj]
theorem anyM_yes {ws : List Mk} {j : Nat} (hj : j < ws.length) (h : okM ws[j] = false) : ws.any (fun w => !okM w) = true := by
  rw [List.any_eq_true]
  exact ⟨_, List.getElem_mem hj, by simp [h]⟩
abbrev brB (k : K3) (A : Option Addr) (n c : Nat) : Box := ⟨29, [.v (I k.p), .v (I k.q), .v (I k.r), .v (.slice A n c)]⟩
theorem breakerFault_spec (k : K3) (A : Option Addr) (c : Nat) (ws : List Mk) (M : PH) (hs : Sl M A 2 Mk.cs ws) (hn : ws.length ≤ 1048576) : Ret 15 [brV k A ws.length c] M (I (brFault k ws)) := by
  refine xcall_of_vc Try.func15 rfl _ Try.ntmps15 _ rfl (fun _ _ => Try.call15 _ _) rfl (fun w0 ρ0 => ?_)
  conv => whnf
  repeat' (first | (refine ⟨⟨[], rfl⟩, _, PH.Le.refl _, PH.Le.refl _, ?_⟩; conv => whnf) | (refine caseB_true ?_; conv => whnf) | (refine caseB_false ?_; conv => whnf) | ((with_reducible refine caseB_dec (fun h => ?_) (fun h => ?_)) <;> conv => whnf) | ((with_reducible refine caseB_ndec (fun h => ?_) (fun h => ?_)) <;> conv => whnf) | ((with_reducible refine caseB_not (fun h => ?_) (fun h => ?_)) <;> conv => whnf) | (refine Ret.go (l1In_ret _ _ _ _) ?_; conv => whnf) | (refine Ret.go (l1Time_ret _ _) ?_; conv => whnf) | (with_reducible refine @And.intro (guardVC _ _ _ _ _) _ ?_ ?_) <;> conv => whnf | (refine caseB_intro (fun h => ?_) (fun h => ?_) <;> (try simp only [Bool.not_eq_true', Bool.not_eq_false', decide_eq_true_eq, decide_eq_false_iff_not] at h) <;> conv => whnf))
  all_goals try (refine ⟨_, PH.Le.refl _, ?_, rfl⟩; simp [resV, brFault, *]; done)
  · rename_i h0 h1 h2
    have e0 : brFault k ws = if 60 < ws.length then 2 else if ws.any (fun w => !okM w) then 3 else if asB (Srt ws) = false then 1
        else if (!decide (k.p = 0) && decide (0 < ws.length)) || (!decide (k.p = 2) && !decide (k.r = 0)) then 8 else 0 := by simp [brFault, h0, h1, h2]
    refine ⟨_, PH.Le.refl _, ?_, rfl⟩
    rw [e0, if_pos (by omega)]; rfl
  rename_i h0 h1 h2
  have e0 : brFault k ws = if ws.any (fun w => !okM w) then 3 else if asB (Srt ws) = false then 1
        else if (!decide (k.p = 0) && decide (0 < ws.length)) || (!decide (k.p = 2) && !decide (k.r = 0)) then 8 else 0 := by
    unfold brFault
    rw [if_neg (by simp [h0, h1, h2]), if_neg (by omega)]
  refine loop_rule (fun i : Nat => ⟨slots 80 [(1, .bp 0 0), (2, .v (I 0)), (3, .v (I i))], [brB k A ws.length c]⟩) (fun i M' => i ≤ ws.length ∧ (∀ j, j < i → ∀ hj : j < ws.length, okM ws[j] = true) ∧ M' = M) (fun i => ws.length - i) 0 ?_ ?_ ?_
  · exact ⟨by simp [slots, leT], ⟨[], rfl⟩, Nat.zero_le _, rfl, rfl⟩
  · exact ⟨Nat.zero_le _, fun j hj => absurd hj (Nat.not_lt_zero _), rfl⟩
  rintro i M' ⟨hi, hp, rfl⟩
  conv => whnf
  repeat' (first | (refine ⟨⟨[], rfl⟩, _, PH.Le.refl _, PH.Le.refl _, ?_⟩; conv => whnf) | (refine caseB_true ?_; conv => whnf) | (refine caseB_false ?_; conv => whnf) | ((with_reducible refine caseB_dec (fun h => ?_) (fun h => ?_)) <;> conv => whnf) | ((with_reducible refine caseB_ndec (fun h => ?_) (fun h => ?_)) <;> conv => whnf) | ((with_reducible refine caseB_not (fun h => ?_) (fun h => ?_)) <;> conv => whnf) | (with_reducible refine @And.intro (guardVC _ _ _ _ _) _ ?_ ?_) <;> conv => whnf | (refine caseB_intro (fun h => ?_) (fun h => ?_) <;> (try simp only [Bool.not_eq_true', Bool.not_eq_false', decide_eq_true_eq, decide_eq_false_iff_not] at h) <;> conv => whnf))
  · have hi' : i < ws.length := by omega
    have hw : IntKind.i64.wrap ((i : Int) + 1) = (i : Int) + 1 := wr_id (by omega) (by omega)
    obtain ⟨hA, _, hc⟩ := hs.get hi'
    repeat' (first | (refine ⟨⟨[], rfl⟩, _, PH.Le.refl _, PH.Le.refl _, ?_⟩; conv => whnf) | (refine ⟨_, cells_cut hc 0 rfl, ?_⟩; conv => whnf) | (refine ⟨by omega, by omega, hA, ?_⟩; conv => whnf) | (refine caseB_true ?_; conv => whnf) | (refine caseB_false ?_; conv => whnf) | ((with_reducible refine caseB_dec (fun h => ?_) (fun h => ?_)) <;> conv => whnf) | ((with_reducible refine caseB_ndec (fun h => ?_) (fun h => ?_)) <;> conv => whnf) | ((with_reducible refine caseB_not (fun h => ?_) (fun h => ?_)) <;> conv => whnf) | (refine Ret.go (l1Time_ret _ _) ?_; conv => whnf) | (with_reducible refine @And.intro (guardVC _ _ _ _ _) _ ?_ ?_) <;> conv => whnf | (refine caseB_intro (fun h => ?_) (fun h => ?_) <;> (try simp only [Bool.not_eq_true', Bool.not_eq_false', decide_eq_true_eq, decide_eq_false_iff_not] at h) <;> conv => whnf))
    · refine ⟨_, PH.Le.refl _, ?_, rfl⟩; rw [e0, anyM_yes hi' (by simpa [okM] using h)]; rfl
    · exact ⟨i + 1, ⟨by simp [slots, leT, hw], ⟨[], rfl⟩, Nat.zero_le _, rfl, rfl⟩, ⟨by omega, fun j hj h' => by
          rcases Nat.lt_succ_iff_lt_or_eq.1 hj with h1 | h1
          · exact hp j h1 h'
          · subst h1; simpa [okM] using h, rfl⟩, by omega⟩
  rw [anyM_no (fun j hj => hp j (by omega) hj)] at e0
  refine loop_rule (fun i : Nat => ⟨slots 80 [(1, .bp 0 0), (2, .v (I 0)), (4, .v (I ((i : Int) + 1)))], [brB k A ws.length c]⟩) (fun i M1 => i ≤ ws.length ∧ (∀ j, j < i → ∀ hj : j + 1 < ws.length, ws[j].a ≤ ws[j + 1].a) ∧ M1 = M') (fun i => ws.length - i) 0 ?_ ?_ ?_
  · exact ⟨by simp [slots, leT], ⟨[], rfl⟩, Nat.zero_le _, rfl, rfl⟩
  · exact ⟨Nat.zero_le _, fun j hj => absurd hj (Nat.not_lt_zero _), rfl⟩
  rintro i M1 ⟨hi, hq, rfl⟩
  conv => whnf
  repeat' (first | (refine ⟨⟨[], rfl⟩, _, PH.Le.refl _, PH.Le.refl _, ?_⟩; conv => whnf) | (refine caseB_true ?_; conv => whnf) | (refine caseB_false ?_; conv => whnf) | ((with_reducible refine caseB_dec (fun h => ?_) (fun h => ?_)) <;> conv => whnf) | ((with_reducible refine caseB_ndec (fun h => ?_) (fun h => ?_)) <;> conv => whnf) | ((with_reducible refine caseB_not (fun h => ?_) (fun h => ?_)) <;> conv => whnf) | (with_reducible refine @And.intro (guardVC _ _ _ _ _) _ ?_ ?_) <;> conv => whnf | (refine caseB_intro (fun h => ?_) (fun h => ?_) <;> (try simp only [Bool.not_eq_true', Bool.not_eq_false', decide_eq_true_eq, decide_eq_false_iff_not] at h) <;> conv => whnf))
  · have hi' : i + 1 < ws.length := by omega
    have hi2 : i < ws.length := by omega
    have hw : IntKind.i64.wrap ((i : Int) + 1 + 1) = (i : Int) + 1 + 1 := wr_id (by omega) (by omega)
    have hw1 : IntKind.i64.wrap ((i : Int) + 1 - 1) = (i : Int) := by rw [wrap_id (by omega) (by omega)]; omega
    obtain ⟨hA, _, hc⟩ := hs.get hi'
    obtain ⟨_, _, hc2⟩ := hs.get hi2
    have hc2' : M1.cells A ((IntKind.i64.wrap ((i : Int) + 1 - 1)).toNat * 2) ws[i].cs := by rw [hw1]; simpa using hc2
    repeat' (first | (refine ⟨⟨[], rfl⟩, _, PH.Le.refl _, PH.Le.refl _, ?_⟩; conv => whnf) | (refine ⟨_, cells_cut hc2' 0 rfl, ?_⟩; conv => whnf) | (refine ⟨_, cells_cut hc 0 rfl, ?_⟩; conv => whnf) | (refine ⟨by omega, by omega, hA, ?_⟩; conv => whnf) | (refine caseB_true ?_; conv => whnf) | (refine caseB_false ?_; conv => whnf) | ((with_reducible refine caseB_dec (fun h => ?_) (fun h => ?_)) <;> conv => whnf) | ((with_reducible refine caseB_ndec (fun h => ?_) (fun h => ?_)) <;> conv => whnf) | ((with_reducible refine caseB_not (fun h => ?_) (fun h => ?_)) <;> conv => whnf) | (refine draw_rule (.light 0 <| .light 1 <| .light 2 <| .light 3 <| .light 4 <| .light 5 <| .light 6 <| .light 7 <| .light 8 <| .light 9 <| .light 10 <| .light 11 <| .light 12 <| .light 13 <| .done) (by decide +kernel) ?_; conv => whnf) | (with_reducible refine @And.intro (guardVC _ _ _ _ _) _ ?_ ?_) <;> conv => whnf | (refine caseB_intro (fun h => ?_) (fun h => ?_) <;> (try simp only [Bool.not_eq_true', Bool.not_eq_false', decide_eq_true_eq, decide_eq_false_iff_not] at h) <;> conv => whnf))
    · refine ⟨_, PH.Le.refl _, ?_, rfl⟩
      rw [e0, asB_false (fun hp => by have := hp i hi'; omega)]; rfl
    · exact ⟨i + 1, ⟨by simp [slots, leT, hw], ⟨[], rfl⟩, Nat.zero_le _, rfl, rfl⟩, ⟨by omega, fun j hj h' => by
          rcases Nat.lt_succ_iff_lt_or_eq.1 hj with h1 | h1
          · exact hq j h1 h'
          · subst h1; omega, rfl⟩, by omega⟩
  all_goals (have hS : asB (Srt ws) = true := asB_true (show Srt ws from fun j hj => hq j (by omega) hj))
  all_goals rw [hS] at e0
  all_goals refine ⟨_, PH.Le.refl _, ?_, rfl⟩
  all_goals rw [e0]
  all_goals simp_all [resV]
theorem breakerFault1_ret (w : Mk) (M : PH) : Ret 71 [w.v] M (B (!okM w)) := by
  refine xcall_of_vc Try.func71 rfl _ Try.ntmps71 _ rfl (fun _ _ => Try.call71 _ _) rfl (fun w0 ρ0 => ?_)
  conv => whnf
  repeat' (first | (refine ⟨⟨[], rfl⟩, _, PH.Le.refl _, PH.Le.refl _, ?_⟩; conv => whnf) | (refine caseB_true ?_; conv => whnf) | (refine caseB_false ?_; conv => whnf) | ((with_reducible refine caseB_dec (fun h => ?_) (fun h => ?_)) <;> conv => whnf) | ((with_reducible refine caseB_ndec (fun h => ?_) (fun h => ?_)) <;> conv => whnf) | ((with_reducible refine caseB_not (fun h => ?_) (fun h => ?_)) <;> conv => whnf) | (refine Ret.go (isTime_ret _ _) ?_; conv => whnf) | (with_reducible refine @And.intro (guardVC _ _ _ _ _) _ ?_ ?_) <;> conv => whnf | (refine caseB_intro (fun h => ?_) (fun h => ?_) <;> (try simp only [Bool.not_eq_true', Bool.not_eq_false', decide_eq_true_eq, decide_eq_false_iff_not] at h) <;> conv => whnf))
  all_goals exact ⟨_, PH.Le.refl _, by simp_all [resV, okM], rfl⟩
theorem breakerFault2_ret (x y : Mk) (M : PH) : Ret 73 [x.v, y.v] M (I (wr (x.a - y.a))) := by
  refine xcall_of_vc Try.func73 rfl _ Try.ntmps73 _ rfl (fun _ _ => Try.call73 _ _) rfl (fun w0 ρ0 => ?_)
  conv => whnf
  exact ⟨_, PH.Le.refl _, rfl, rfl⟩
theorem isSortedMk (g : FuncId) (d : Mk → Mk → Int) (A : Option Addr) (c : Nat) (ws : List Mk) (M : PH) (hs : Sl M A 2 Mk.cs ws) (hn : ws.length ≤ 4294967296)
    (hg : ∀ x ∈ ws, ∀ y ∈ ws, Ret g [x.v, y.v] M (I (d x y))) :
    XCall env 72 [.v (.slice A ws.length c), .fn g []] [] M fun r b M' => r = B (asB (∀ i, ∀ h : i + 1 < ws.length, 0 ≤ d ws[i + 1] ws[i])) ∧ b = [] ∧ M' = M := by
  refine xcall_of_vc Try.func72 rfl _ Try.ntmps72 _ rfl (fun _ _ => Try.call72 _ _) rfl (fun w0 ρ0 => ?_)
  conv => whnf
  have hw0 : IntKind.i64.wrap ((ws.length : Int) - 1) = (ws.length : Int) - 1 := wr_id (by omega) (by omega)
  refine loop_rule (fun i : Nat => ⟨slots 25 [(0, .v (.slice A ws.length c)), (1, .fn g []), (4, .v (B false)), (5, .v (I ((i : Int) - 1)))], []⟩) (fun i M' => i ≤ ws.length ∧ (∀ j, i ≤ j + 1 → ∀ h : j + 1 < ws.length, 0 ≤ d ws[j + 1] ws[j]) ∧ M' = M) (fun i => i) ws.length ?_ ?_ ?_
  · exact ⟨by simp [slots, leT, hw0], ⟨[], rfl⟩, Nat.zero_le _, rfl, rfl⟩
  · exact ⟨Nat.le_refl _, fun j hj h => by omega, rfl⟩
  rintro i M' ⟨hi, hq, rfl⟩
  conv => whnf
  repeat' (first | (refine ⟨⟨[], rfl⟩, _, PH.Le.refl _, PH.Le.refl _, ?_⟩; conv => whnf) | (refine caseB_true ?_; conv => whnf) | (refine caseB_false ?_; conv => whnf) | ((with_reducible refine caseB_dec (fun h => ?_) (fun h => ?_)) <;> conv => whnf) | ((with_reducible refine caseB_ndec (fun h => ?_) (fun h => ?_)) <;> conv => whnf) | ((with_reducible refine caseB_not (fun h => ?_) (fun h => ?_)) <;> conv => whnf) | (with_reducible refine @And.intro (guardVC _ _ _ _ _) _ ?_ ?_) <;> conv => whnf | (refine caseB_intro (fun h => ?_) (fun h => ?_) <;> (try simp only [Bool.not_eq_true', Bool.not_eq_false', decide_eq_true_eq, decide_eq_false_iff_not] at h) <;> conv => whnf))
  · have hi' : i - 1 < ws.length := by omega
    have hi2 : i - 2 < ws.length := by omega
    have e1 : (i : Int) - 1 = ((i - 1 : Nat) : Int) := by omega
    have hw : IntKind.i64.wrap ((i : Int) - 1 - 1) = ((i - 2 : Nat) : Int) := by rw [wrap_id (by omega) (by omega)]; omega
    have hw2 : IntKind.i64.wrap ((i : Int) - 1 - 1) = ((i - 1 : Nat) : Int) - 1 := by rw [wrap_id (by omega) (by omega)]; omega
    obtain ⟨hA, _, hc⟩ := hs.get hi'
    obtain ⟨_, _, hc2⟩ := hs.get hi2
    have hc1' : M'.cells A (((i : Int) - 1).toNat * 2) ws[i - 1].cs := by rw [e1]; simpa using hc
    have hc2' : M'.cells A ((IntKind.i64.wrap ((i : Int) - 1 - 1)).toNat * 2) ws[i - 2].cs := by rw [hw]; simpa using hc2
    have hx : ∀ h : i - 2 + 1 < ws.length, ws[i - 2 + 1] = ws[i - 1] := fun h => by congr 1; omega
    repeat' (first | (refine ⟨⟨[], rfl⟩, _, PH.Le.refl _, PH.Le.refl _, ?_⟩; conv => whnf) | (refine ⟨_, hc2', rfl, ?_⟩; conv => whnf) | (refine ⟨_, hc1', rfl, ?_⟩; conv => whnf) | (refine ⟨by omega, by omega, hA, ?_⟩; conv => whnf) | (refine caseB_true ?_; conv => whnf) | (refine caseB_false ?_; conv => whnf) | ((with_reducible refine caseB_dec (fun h => ?_) (fun h => ?_)) <;> conv => whnf) | ((with_reducible refine caseB_ndec (fun h => ?_) (fun h => ?_)) <;> conv => whnf) | ((with_reducible refine caseB_not (fun h => ?_) (fun h => ?_)) <;> conv => whnf) | (refine draw_rule (.light 0 <| .light 1 <| .light 2 <| .light 3 <| .light 4 <| .light 5 <| .light 6 <| .light 7 <| .light 8 <| .light 9 <| .alt 10 false (.light 11 <| .done) .nil) (by decide +kernel) ?_; conv => whnf) | (refine Ret.go (hg ws[i - 1] (List.getElem_mem hi') ws[i - 2] (List.getElem_mem hi2)) ?_; conv => whnf) | (with_reducible refine @And.intro (guardVC _ _ _ _ _) _ ?_ ?_) <;> conv => whnf | (refine caseB_intro (fun h => ?_) (fun h => ?_) <;> (try simp only [Bool.not_eq_true', Bool.not_eq_false', decide_eq_true_eq, decide_eq_false_iff_not] at h) <;> conv => whnf))
    · refine ⟨_, PH.Le.refl _, ?_, rfl, rfl⟩
      rw [asB_false (fun hp => by
        have := hp (i - 2) (by omega)
        rw [hx] at this
        omega)]; rfl
    · exact ⟨i - 1, ⟨by simp [slots, leT, hw2], ⟨[], rfl⟩, Nat.zero_le _, rfl, rfl⟩, ⟨by omega, fun j hj h' => by
          by_cases hj2 : i ≤ j + 1
          · exact hq j hj2 h'
          · have : j = i - 2 := by omega
            subst this
            rw [hx]; omega, rfl⟩, by omega⟩
  · refine ⟨_, PH.Le.refl _, ?_, rfl, rfl⟩
    rw [asB_true (fun j hj => hq j (by omega) hj)]; rfl
theorem breakerFault_impl (k : K3) (A : Option Addr) (c : Nat) (ws : List Mk) (M : PH) (hs : Sl M A 2 Mk.cs ws) (hn : ws.length ≤ 1048576) : Ret 17 [brV k A ws.length c] M (I (brFault k ws)) := by
  refine xcall_of_vc Try.func17 rfl _ Try.ntmps17 _ rfl (fun _ _ => Try.call17 _ _) rfl (fun w0 ρ0 => ?_)
  conv => whnf
  repeat' (first | (refine ⟨⟨[], rfl⟩, _, PH.Le.refl _, PH.Le.refl _, ?_⟩; conv => whnf) | (refine caseB_true ?_; conv => whnf) | (refine caseB_false ?_; conv => whnf) | ((with_reducible refine caseB_dec (fun h => ?_) (fun h => ?_)) <;> conv => whnf) | ((with_reducible refine caseB_ndec (fun h => ?_) (fun h => ?_)) <;> conv => whnf) | ((with_reducible refine caseB_not (fun h => ?_) (fun h => ?_)) <;> conv => whnf) | (refine Ret.go (within_ret _ _ _ _) ?_; conv => whnf) | (refine Ret.go (isTime_ret _ _) ?_; conv => whnf) | (with_reducible refine @And.intro (guardVC _ _ _ _ _) _ ?_ ?_) <;> conv => whnf | (refine caseB_intro (fun h => ?_) (fun h => ?_) <;> (try simp only [Bool.not_eq_true', Bool.not_eq_false', decide_eq_true_eq, decide_eq_false_iff_not] at h) <;> conv => whnf))
  all_goals try (refine ⟨_, PH.Le.refl _, ?_, rfl⟩; simp [resV, brFault, *]; done)
  · rename_i h0 h1 h2
    refine ⟨_, PH.Le.refl _, ?_, rfl⟩
    unfold brFault
    rw [if_neg (by simp [h0, h1, h2]), if_pos (by omega)]; rfl
  rename_i h0 h1 h2
  have e0 : brFault k ws = if ws.any (fun w => !okM w) then 3 else if asB (Srt ws) = false then 1
        else if (!decide (k.p = 0) && decide (0 < ws.length)) || (!decide (k.p = 2) && !decide (k.r = 0)) then 8 else 0 := by
    unfold brFault
    rw [if_neg (by simp [h0, h1, h2]), if_neg (by omega)]
  refine XCall.go0 (containsFuncMk0 71 (fun w => !okM w) A c ws M hs (by omega) fun w _ => (breakerFault1_ret w M).x) rfl ?_
  conv => whnf
  repeat' (first | (refine ⟨⟨[], rfl⟩, _, PH.Le.refl _, PH.Le.refl _, ?_⟩; conv => whnf) | (refine caseB_true ?_; conv => whnf) | (refine caseB_false ?_; conv => whnf) | ((with_reducible refine caseB_dec (fun h => ?_) (fun h => ?_)) <;> conv => whnf) | ((with_reducible refine caseB_ndec (fun h => ?_) (fun h => ?_)) <;> conv => whnf) | ((with_reducible refine caseB_not (fun h => ?_) (fun h => ?_)) <;> conv => whnf) | (with_reducible refine @And.intro (guardVC _ _ _ _ _) _ ?_ ?_) <;> conv => whnf | (refine caseB_intro (fun h => ?_) (fun h => ?_) <;> (try simp only [Bool.not_eq_true', Bool.not_eq_false', decide_eq_true_eq, decide_eq_false_iff_not] at h) <;> conv => whnf))
  · refine ⟨_, PH.Le.refl _, ?_, rfl⟩
    rw [e0, ‹ws.any _ = true›]; rfl
  have hok : ∀ w ∈ ws, okM w = true := by
    rw [List.any_eq_false] at h
    intro w hw
    simpa using h w hw
  rw [h] at e0
  refine XCall.go0 (isSortedMk 73 (fun x y => wr (x.a - y.a)) A c ws M hs (by omega) fun x _ y _ => breakerFault2_ret x y M) rfl ?_
  conv => whnf
  have hS : asB (∀ i, ∀ h : i + 1 < ws.length, 0 ≤ wr (ws[i + 1].a - ws[i].a)) = asB (Srt ws) := by
    have : (∀ i, ∀ h : i + 1 < ws.length, 0 ≤ wr (ws[i + 1].a - ws[i].a)) ↔ Srt ws := by
      unfold Srt
      constructor
      · intro hp i hi
        have h1 := hok _ (List.getElem_mem (show i + 1 < ws.length from hi))
        have h2 := hok _ (List.getElem_mem (show i < ws.length by omega))
        simp only [okM, isT_iff] at h1 h2
        have := hp i hi
        rw [wr_id (by omega) (by omega)] at this
        omega
      · intro hp i hi
        have h1 := hok _ (List.getElem_mem (show i + 1 < ws.length from hi))
        have h2 := hok _ (List.getElem_mem (show i < ws.length by omega))
        simp only [okM, isT_iff] at h1 h2
        have := hp i hi
        rw [wr_id (by omega) (by omega)]
        omega
    rw [propext this]
  rw [hS]
  generalize asB (Srt ws) = sb at e0 ⊢
  cases sb with
  | false =>
    conv => whnf
    repeat' (first | (refine ⟨⟨[], rfl⟩, _, PH.Le.refl _, PH.Le.refl _, ?_⟩; conv => whnf) | (refine caseB_true ?_; conv => whnf) | (refine caseB_false ?_; conv => whnf) | ((with_reducible refine caseB_dec (fun h => ?_) (fun h => ?_)) <;> conv => whnf) | ((with_reducible refine caseB_ndec (fun h => ?_) (fun h => ?_)) <;> conv => whnf) | ((with_reducible refine caseB_not (fun h => ?_) (fun h => ?_)) <;> conv => whnf) | (with_reducible refine @And.intro (guardVC _ _ _ _ _) _ ?_ ?_) <;> conv => whnf | (refine caseB_intro (fun h => ?_) (fun h => ?_) <;> (try simp only [Bool.not_eq_true', Bool.not_eq_false', decide_eq_true_eq, decide_eq_false_iff_not] at h) <;> conv => whnf))
    all_goals refine ⟨_, PH.Le.refl _, ?_, rfl⟩
    all_goals rw [e0]; rfl
  | true =>
    conv => whnf
    repeat' (first | (refine ⟨⟨[], rfl⟩, _, PH.Le.refl _, PH.Le.refl _, ?_⟩; conv => whnf) | (refine caseB_true ?_; conv => whnf) | (refine caseB_false ?_; conv => whnf) | ((with_reducible refine caseB_dec (fun h => ?_) (fun h => ?_)) <;> conv => whnf) | ((with_reducible refine caseB_ndec (fun h => ?_) (fun h => ?_)) <;> conv => whnf) | ((with_reducible refine caseB_not (fun h => ?_) (fun h => ?_)) <;> conv => whnf) | (with_reducible refine @And.intro (guardVC _ _ _ _ _) _ ?_ ?_) <;> conv => whnf | (refine caseB_intro (fun h => ?_) (fun h => ?_) <;> (try simp only [Bool.not_eq_true', Bool.not_eq_false', decide_eq_true_eq, decide_eq_false_iff_not] at h) <;> conv => whnf))
    all_goals refine ⟨_, PH.Le.refl _, ?_, rfl⟩
    all_goals rw [e0]
    all_goals simp_all [resV]
def badN (ws : List Mk) : Nat := (ws.filter fun w => !w.b).length
theorem badN_step {ws : List Mk} {i : Nat} (hi : i < ws.length) : badN (ws.take (i + 1)) = badN (ws.take i) + (if ws[i].b then 0 else 1) := by
  unfold badN
  rw [List.take_succ_eq_append_getElem hi, List.filter_append, List.length_append]
  congr 1
  generalize ws[i] = w
  cases h : w.b <;> simp [h]
theorem badN_le (ws : List Mk) : badN ws ≤ ws.length := List.length_filter_le _ _
theorem l10Bad_ret (A : Option Addr) (c : Nat) (ws : List Mk) (M : PH) (hs : Sl M A 2 Mk.cs ws) (hn : ws.length ≤ 1048576) : Ret 81 [.slice A ws.length c] M (I (badN ws)) := by
  refine xcall_of_vc Try.func81 rfl _ Try.ntmps81 _ rfl (fun _ _ => Try.call81 _ _) rfl (fun w0 ρ0 => ?_)
  conv => whnf
  refine loop_rule (fun i : Nat => ⟨slots 20 [(0, .v (.slice A ws.length c)), (3, .v (I (badN (ws.take i)))), (4, .v (I i))], []⟩) (fun i M' => i ≤ ws.length ∧ M' = M) (fun i => ws.length - i) 0 ?_ ?_ ?_
  · exact ⟨by simp [slots, leT, badN], ⟨[], rfl⟩, Nat.zero_le _, rfl, rfl⟩
  · exact ⟨Nat.zero_le _, rfl⟩
  rintro i M' ⟨hi, rfl⟩
  conv => whnf
  repeat' (first | (refine ⟨⟨[], rfl⟩, _, PH.Le.refl _, PH.Le.refl _, ?_⟩; conv => whnf) | (refine caseB_true ?_; conv => whnf) | (refine caseB_false ?_; conv => whnf) | ((with_reducible refine caseB_dec (fun h => ?_) (fun h => ?_)) <;> conv => whnf) | ((with_reducible refine caseB_ndec (fun h => ?_) (fun h => ?_)) <;> conv => whnf) | ((with_reducible refine caseB_not (fun h => ?_) (fun h => ?_)) <;> conv => whnf) | (with_reducible refine @And.intro (guardVC _ _ _ _ _) _ ?_ ?_) <;> conv => whnf | (refine caseB_intro (fun h => ?_) (fun h => ?_) <;> (try simp only [Bool.not_eq_true', Bool.not_eq_false', decide_eq_true_eq, decide_eq_false_iff_not] at h) <;> conv => whnf))
  · have hi' : i < ws.length := by omega
    have hw : IntKind.i64.wrap ((i : Int) + 1) = (i : Int) + 1 := wr_id (by omega) (by omega)
    have hb : badN (ws.take i) ≤ i := Nat.le_trans (badN_le _) (by simp; omega)
    have hw2 : IntKind.i64.wrap ((badN (ws.take i) : Int) + 1) = (badN (ws.take i) : Int) + 1 := wr_id (by omega) (by omega)
    obtain ⟨hA, _, hc⟩ := hs.get hi'
    have hst := badN_step hi'
    repeat' (first | (refine ⟨⟨[], rfl⟩, _, PH.Le.refl _, PH.Le.refl _, ?_⟩; conv => whnf) | (refine ⟨_, cells_cut hc 1 rfl, ?_⟩; conv => whnf) | (refine ⟨by omega, by omega, hA, ?_⟩; conv => whnf) | (refine caseB_true ?_; conv => whnf) | (refine caseB_false ?_; conv => whnf) | ((with_reducible refine caseB_dec (fun h => ?_) (fun h => ?_)) <;> conv => whnf) | ((with_reducible refine caseB_ndec (fun h => ?_) (fun h => ?_)) <;> conv => whnf) | ((with_reducible refine caseB_not (fun h => ?_) (fun h => ?_)) <;> conv => whnf) | (with_reducible refine @And.intro (guardVC _ _ _ _ _) _ ?_ ?_) <;> conv => whnf | (refine caseB_intro (fun h => ?_) (fun h => ?_) <;> (try simp only [Bool.not_eq_true', Bool.not_eq_false', decide_eq_true_eq, decide_eq_false_iff_not] at h) <;> conv => whnf))
    all_goals rw [h] at hst
    all_goals exact ⟨i + 1, ⟨by simp [slots, leT, hw, hw2, hst], ⟨[], rfl⟩, Nat.zero_le _, rfl, rfl⟩, ⟨by omega, rfl⟩, by omega⟩
  · have : i = ws.length := by omega
    subst this
    refine ⟨_, PH.Le.refl _, ?_, rfl⟩
    rw [List.take_length]; rfl
theorem bad_ret (k : K3) (A : Option Addr) (c : Nat) (ws : List Mk) (M : PH) (hs : Sl M A 2 Mk.cs ws) (hn : ws.length ≤ 1048576) : Ret 82 [brV k A ws.length c] M (I (badN ws)) := by
  refine xcall_of_vc Try.func82 rfl _ Try.ntmps82 _ rfl (fun _ _ => Try.call82 _ _) rfl (fun w0 ρ0 => ?_)
  conv => whnf
  refine loop_rule (fun i : Nat => ⟨slots 20 [(1, .bp 0 0), (3, .v (I (badN (ws.take i)))), (7, .v (.slice A ws.length c)), (8, .v (I ws.length)), (9, .v (I i))], [brB k A ws.length c]⟩) (fun i M' => i ≤ ws.length ∧ M' = M) (fun i => ws.length - i) 0 ?_ ?_ ?_
  · exact ⟨by simp [slots, leT, badN], ⟨[], rfl⟩, Nat.zero_le _, rfl, rfl⟩
  · exact ⟨Nat.zero_le _, rfl⟩
  rintro i M' ⟨hi, rfl⟩
  conv => whnf
  repeat' (first | (refine ⟨⟨[], rfl⟩, _, PH.Le.refl _, PH.Le.refl _, ?_⟩; conv => whnf) | (refine caseB_true ?_; conv => whnf) | (refine caseB_false ?_; conv => whnf) | ((with_reducible refine caseB_dec (fun h => ?_) (fun h => ?_)) <;> conv => whnf) | ((with_reducible refine caseB_ndec (fun h => ?_) (fun h => ?_)) <;> conv => whnf) | ((with_reducible refine caseB_not (fun h => ?_) (fun h => ?_)) <;> conv => whnf) | (with_reducible refine @And.intro (guardVC _ _ _ _ _) _ ?_ ?_) <;> conv => whnf | (refine caseB_intro (fun h => ?_) (fun h => ?_) <;> (try simp only [Bool.not_eq_true', Bool.not_eq_false', decide_eq_true_eq, decide_eq_false_iff_not] at h) <;> conv => whnf))
  · have hi' : i < ws.length := by omega
    have hw : IntKind.i64.wrap ((i : Int) + 1) = (i : Int) + 1 := wr_id (by omega) (by omega)
    have hb : badN (ws.take i) ≤ i := Nat.le_trans (badN_le _) (by simp; omega)
    have hw2 : IntKind.i64.wrap ((badN (ws.take i) : Int) + 1) = (badN (ws.take i) : Int) + 1 := wr_id (by omega) (by omega)
    obtain ⟨hA, _, hc⟩ := hs.get hi'
    have hst := badN_step hi'
    repeat' (first | (refine ⟨⟨[], rfl⟩, _, PH.Le.refl _, PH.Le.refl _, ?_⟩; conv => whnf) | (refine ⟨ws[i].cs, hc, rfl, ?_⟩; conv => whnf) | (refine ⟨by omega, by omega, hA, ?_⟩; conv => whnf) | (refine caseB_true ?_; conv => whnf) | (refine caseB_false ?_; conv => whnf) | ((with_reducible refine caseB_dec (fun h => ?_) (fun h => ?_)) <;> conv => whnf) | ((with_reducible refine caseB_ndec (fun h => ?_) (fun h => ?_)) <;> conv => whnf) | ((with_reducible refine caseB_not (fun h => ?_) (fun h => ?_)) <;> conv => whnf) | (with_reducible refine @And.intro (guardVC _ _ _ _ _) _ ?_ ?_) <;> conv => whnf | (refine caseB_intro (fun h => ?_) (fun h => ?_) <;> (try simp only [Bool.not_eq_true', Bool.not_eq_false', decide_eq_true_eq, decide_eq_false_iff_not] at h) <;> conv => whnf))
    all_goals rw [h] at hst
    all_goals exact ⟨i + 1, ⟨by simp [slots, leT, hw, hw2, hst], ⟨_, rfl⟩, Nat.zero_le _, rfl, rfl⟩, ⟨by omega, rfl⟩, by omega⟩
  · have : i = ws.length := by omega
    subst this
    refine ⟨_, PH.Le.refl _, ?_, rfl⟩
    rw [List.take_length]; rfl
noncomputable def badIn (k : K3) (ws : List Mk) : IR := if brFault k ws ≠ 0 then ⟨brFault k ws, 0⟩ else ⟨0, badN ws⟩
theorem badIn_spec (k : K3) (A : Option Addr) (c : Nat) (ws : List Mk) (M : PH) (hs : Sl M A 2 Mk.cs ws) (hn : ws.length ≤ 1048576) : Ret 25 [brV k A ws.length c] M (badIn k ws).v := by
  refine xcall_of_vc Try.func25 rfl _ Try.ntmps25 _ rfl (fun _ _ => Try.call25 _ _) rfl (fun w0 ρ0 => ?_)
  conv => whnf
  repeat' (first | (refine ⟨⟨[], rfl⟩, _, PH.Le.refl _, PH.Le.refl _, ?_⟩; conv => whnf) | (refine caseB_true ?_; conv => whnf) | (refine caseB_false ?_; conv => whnf) | ((with_reducible refine caseB_dec (fun h => ?_) (fun h => ?_)) <;> conv => whnf) | ((with_reducible refine caseB_ndec (fun h => ?_) (fun h => ?_)) <;> conv => whnf) | ((with_reducible refine caseB_not (fun h => ?_) (fun h => ?_)) <;> conv => whnf) | (refine Ret.go (breakerFault_spec k A c ws _ hs hn) ?_; conv => whnf) | (refine Ret.go (l10Bad_ret A c ws _ hs hn) ?_; conv => whnf) | (with_reducible refine @And.intro (guardVC _ _ _ _ _) _ ?_ ?_) <;> conv => whnf | (refine caseB_intro (fun h => ?_) (fun h => ?_) <;> (try simp only [Bool.not_eq_true', Bool.not_eq_false', decide_eq_true_eq, decide_eq_false_iff_not] at h) <;> conv => whnf))
  all_goals exact ⟨_, PH.Le.refl _, by simp [resV, badIn, IR.v, *], rfl⟩
theorem badIn_impl (k : K3) (A : Option Addr) (c : Nat) (ws : List Mk) (M : PH) (hs : Sl M A 2 Mk.cs ws) (hn : ws.length ≤ 1048576) : Ret 26 [brV k A ws.length c] M (badIn k ws).v := by
  refine xcall_of_vc Try.func26 rfl _ Try.ntmps26 _ rfl (fun _ _ => Try.call26 _ _) rfl (fun w0 ρ0 => ?_)
  conv => whnf
  repeat' (first | (refine ⟨⟨[], rfl⟩, _, PH.Le.refl _, PH.Le.refl _, ?_⟩; conv => whnf) | (refine caseB_true ?_; conv => whnf) | (refine caseB_false ?_; conv => whnf) | ((with_reducible refine caseB_dec (fun h => ?_) (fun h => ?_)) <;> conv => whnf) | ((with_reducible refine caseB_ndec (fun h => ?_) (fun h => ?_)) <;> conv => whnf) | ((with_reducible refine caseB_not (fun h => ?_) (fun h => ?_)) <;> conv => whnf) | (refine Ret.go (breakerFault_impl k A c ws _ hs hn) ?_; conv => whnf) | (refine Ret.go (bad_ret k A c ws _ hs hn) ?_; conv => whnf) | (with_reducible refine @And.intro (guardVC _ _ _ _ _) _ ?_ ?_) <;> conv => whnf | (refine caseB_intro (fun h => ?_) (fun h => ?_) <;> (try simp only [Bool.not_eq_true', Bool.not_eq_false', decide_eq_true_eq, decide_eq_false_iff_not] at h) <;> conv => whnf))
  all_goals exact ⟨_, PH.Le.refl _, by simp [resV, badIn, IR.v, *], rfl⟩
end Go.Proofs.Ytpiakjcmbnfdlaa
