/-
  THE LAW over lanes: no more are out than there are slots, and who waits goes in turn.
-/
import Derived.Test.YtpiakjcmbnfdlaaDb
namespace Go.Proofs.Ytpiakjcmbnfdlaa
set_option maxRecDepth 100000
set_option linter.unusedSimpArgs false
set_option linter.unusedVariables false
open Go.Xe
theorem bulkFault_zero {k : Int} {ws : List Wt} {l : Ln} : bulkFault k ws l = 0 ↔ lanesFault l = 0 ∧ inB k 0 l.a = true ∧ (ws.length : Int) ≤ l.b ∧ (∀ w ∈ ws, okW w = true) ∧ Apt ws := by
  unfold bulkFault
  constructor
  · intro h
    split at h
    · contradiction
    · rename_i h1
      split at h
      · cases h
      · rename_i h2
        split at h
        · cases h
        · rename_i h3
          split at h
          · cases h
          · rename_i h4
            split at h
            · rename_i h5
              refine ⟨by simpa using h1, by simpa using h2, by omega, fun w hw => ?_, asB_iff.1 h5⟩
              simp only [List.any_eq_true, not_exists, not_and] at h4
              simpa using h4 w hw
            · cases h
  · rintro ⟨h1, h2, h3, h4, h5⟩
    rw [if_neg (by simp [h1]), if_neg (by simp [h2]), if_neg (by omega), if_neg, asB_true h5]
    · rfl
    · simp only [List.any_eq_true, not_exists, not_and]
      intro w hw
      simp [h4 w hw]
theorem lanes_c {l : Ln} (h : lanesFault l = 0) : (1 ≤ l.a ∧ l.a ≤ 8) ∧ (0 ≤ l.b ∧ l.b ≤ 8) ∧ (0 ≤ l.c ∧ l.c ≤ 1000000) := by
  unfold lanesFault at h
  split at h
  · rename_i e; simp [inB] at e; omega
  · cases h
theorem find_no {ws : List Wt} {x : Int} (h : ¬ 0 ≤ findW ws x) : ∀ w ∈ ws, w.a ≠ x := by
  intro w hw e
  apply h
  have : ws.any (fun w => decide (w.a = x)) = true := by
    rw [List.any_eq_true]
    exact ⟨w, hw, by simpa using e⟩
  rw [idxF_any] at this
  simpa [findW] using this
theorem enter_zero {k : Int} {ws : List Wt} {l : Ln} {x t : Int} (h : (enterOf k ws l x t).why = 0) :
    bulkFault (enterOf k ws l x t).k (enterOf k ws l x t).ws l = 0 ∧ (enterOf k ws l x t).b = decide (k < l.a) ∧ ((enterOf k ws l x t).ws = [] → (enterOf k ws l x t).b = true) := by
  by_cases h0 : bulkFault k ws l = 0
  · by_cases h1 : (isT x && isT t) = true
    · rw [Bool.and_eq_true] at h1
      by_cases h3 : 0 ≤ findW ws x
      · rw [enterOf_taken h0 h1.1 h1.2 h3] at h; simp at h
      · cases h4 : enterOk k ws l with
        | false => rw [enterOf_full h0 h1.1 h1.2 h3 h4] at h; simp at h
        | true =>
          rw [enterOf_ok h0 h1.1 h1.2 h3 h4]
          obtain ⟨e1, e2, e3, e4, e5⟩ := bulkFault_zero.1 h0
          obtain ⟨c1, c2, c3⟩ := lanes_c e1
          simp only [inB, decide_eq_true_eq] at e2
          refine ⟨?_, rfl, fun hw => ?_⟩
          · show bulkFault (enterK k l) (enterW k ws l x t) l = 0
            rw [bulkFault_zero]
            unfold enterK enterW
            by_cases hk : k < l.a
            · rw [if_pos hk, if_pos hk, wr_id (by omega) (by omega)]
              exact ⟨e1, by simp [inB]; omega, e3, e4, e5⟩
            · rw [if_neg hk, if_neg hk]
              have hlt : ¬ l.b ≤ ws.length := by
                simp [enterOk, hk] at h4
                omega
              rw [if_neg hlt]
              refine ⟨e1, by simp [inB]; omega, by simp; omega, fun w hw => ?_, ?_⟩
              · rcases List.mem_append.1 hw with hw | hw
                · exact e4 w hw
                · simp at hw; subst hw
                  have ht := h1.2
                  rw [isT_iff] at ht
                  simp only [okW, Bool.and_eq_true, h1.1, true_and]
                  rw [isT_iff]
                  unfold add' min'
                  rw [wr_id (by omega) (by omega)]
                  split <;> omega
              · unfold Apt
                rw [List.pairwise_append]
                refine ⟨e5, by simp, fun a ha b hb => ?_⟩
                simp at hb; subst hb
                exact find_no h3 a ha
          · show decide (k < l.a) = true
            have hw : enterW k ws l x t = [] := hw
            unfold enterW at hw
            by_cases hk : k < l.a
            · simpa using hk
            · rw [if_neg hk] at hw
              simp [enterOk, hk] at h4
              rw [if_neg (by omega)] at hw
              simp at hw
    · rw [enterOf_time h0 (by simpa using h1)] at h; simp at h
  · rw [enterOf_bad h0] at h; contradiction
theorem leave_zero {k : Int} {ws : List Wt} {l : Ln} (h : (leaveOf k ws l).why = 0) :
    (leaveOf k ws l).k = leaveK k ws ∧ (leaveOf k ws l).ws = ws.drop 1 ∧ (leaveOf k ws l).n = nextW ws := by
  unfold leaveOf at h ⊢
  split at h
  · contradiction
  · rename_i h1
    split at h
    · cases h
    · rename_i h2
      rw [if_neg h1, if_neg h2]
      exact ⟨rfl, rfl, rfl⟩
theorem nextW_head : ∀ {ws : List Wt} (h : 0 < ws.length), nextW ws = ws[0].a
  | _ :: _, _ => rfl
set_option maxHeartbeats 8000000 in
theorem lanes_law (A : Option Addr) (c : Nat) (bs : List Int) (M : PH) (hs : Sl M A 1 byC bs) (hby : ∀ (i : Nat) b, bs[i]? = some b → 0 ≤ b ∧ b ≤ 255) :
    ACall env 7 [.slice A bs.length c] M fun r M' => r = B true ∧ M.Le M' := by
  refine xcall_of_vc Try.func7 rfl _ Try.ntmps7 _ rfl (fun _ _ => Try.call7 _ _) rfl (fun w0 ρ0 => ?_)
  conv => whnf
  repeat' (first | (refine ⟨⟨[], rfl⟩, _, PH.Le.refl _, PH.Le.refl _, ?_⟩; conv => whnf) | (refine caseB_true ?_; conv => whnf) | (refine caseB_false ?_; conv => whnf) | ((with_reducible refine caseB_dec (fun h => ?_) (fun h => ?_)) <;> conv => whnf) | ((with_reducible refine caseB_ndec (fun h => ?_) (fun h => ?_)) <;> conv => whnf) | ((with_reducible refine caseB_not (fun h => ?_) (fun h => ?_)) <;> conv => whnf) | (refine Ret.go (lwBig_ret A c bs _) ?_; conv => whnf) | (with_reducible refine @And.intro (guardVC _ _ _ _ _) _ ?_ ?_) <;> conv => whnf | (refine caseB_intro (fun h => ?_) (fun h => ?_) <;> (try simp only [Bool.not_eq_true', Bool.not_eq_false', decide_eq_true_eq, decide_eq_false_iff_not] at h) <;> conv => whnf))
  · exact ⟨_, PH.Le.refl _, rfl, PH.Le.refl _⟩
  have hb : Byt M A bs := ⟨hs, by omega, hby⟩
  refine ACall.step (drawEnterBulk_ret A c bs M hb (by omega)) fun r M1 hh => ?_
  obtain ⟨k, ws, C, d, l, x, t, rfl, hw, l1, sC⟩ := hh
  clear hb hs
  conv => whnf
  refine ACall.step (enterBulk_impl k C d ws l x t M1 sC (by omega)) fun r M2 hh => ?_
  obtain ⟨o2, C2, d2, rfl, N2⟩ := hh
  conv => whnf
  have l2 := N2.le
  refine ACall.step (enterBulk_spec k C d ws l x t M2 (sC.mono l2) (by omega)) fun r M3 hh => ?_
  obtain ⟨C3, d3, rfl, l3, s3⟩ := hh
  have s2 := (N2.ow.sl Wt.len).mono l3
  have sC3 := (sC.mono l2).mono l3
  have hz := @enter_zero k ws l x t
  have hl := enterOf_len k ws l x t (by omega)
  generalize enterOf k ws l x t = X at hz hl s2 s3 N2 ⊢
  conv => whnf
  repeat' (first | (refine ⟨⟨[], rfl⟩, _, PH.Le.refl _, PH.Le.refl _, ?_⟩; conv => whnf) | (refine caseB_true ?_; conv => whnf) | (refine caseB_false ?_; conv => whnf) | ((with_reducible refine caseB_dec (fun h => ?_) (fun h => ?_)) <;> conv => whnf) | ((with_reducible refine caseB_ndec (fun h => ?_) (fun h => ?_)) <;> conv => whnf) | ((with_reducible refine caseB_not (fun h => ?_) (fun h => ?_)) <;> conv => whnf) | (refine Ret.go (bulkFault_impl k C d ws l _ sC3 (by omega)) ?_; conv => whnf) | (refine Ret.go (bulkFault_spec k C d ws l _ sC3 (by omega)) ?_; conv => whnf) | (refine Ret.go (lanesFault_impl l _) ?_; conv => whnf) | (refine Ret.go (lanesFault_spec l _) ?_; conv => whnf) | (refine Ret.go (bulkFault_impl X.k C2 d2 X.ws l _ s2 hl) ?_; conv => whnf) | (refine draw_rule (.light 0 <| .light 1 <| .light 2 <| .light 3 <| .light 4 <| .light 5 <| .light 6 <| .light 7 <| .light 8 <| .light 9 <| .light 10 <| .light 11 <| .light 12 <| .light 13 <| .light 14 <| .light 16 <| .light 17 <| .alt 15 false (.alt 18 false (.light 19 <| .light 20 <| .light 21 <| .light 22 <| .light 24 <| .alt 23 false (.alt 25 false (.light 26 <| .light 27 <| .done) .nil) .nil) .nil) .nil) (by decide +kernel) ?_; conv => whnf) | (refine draw_rule (.light 0 <| .light 1 <| .light 2 <| .light 3 <| .light 4 <| .alt 5 false (.light 6 <| .light 7 <| .light 8 <| .done) .nil) (by decide +kernel) ?_; conv => whnf) | (refine draw_rule (.light 0 <| .light 1 <| .light 2 <| .light 3 <| .light 4 <| .light 5 <| .light 6 <| .light 7 <| .light 8 <| .light 9 <| .light 10 <| .light 11 <| .light 12 <| .light 13 <| .light 14 <| .light 15 <| .light 16 <| .light 17 <| .light 18 <| .light 19 <| .light 20 <| .light 21 <| .light 22 <| .light 23 <| .light 24 <| .light 25 <| .light 26 <| .light 27 <| .light 28 <| .light 29 <| .light 30 <| .done) (by decide +kernel) ?_; conv => whnf) | (with_reducible refine @And.intro (guardVC _ _ _ _ _) _ ?_ ?_) <;> conv => whnf | (refine caseB_intro (fun h => ?_) (fun h => ?_) <;> (try simp only [Bool.not_eq_true', Bool.not_eq_false', decide_eq_true_eq, decide_eq_false_iff_not] at h) <;> conv => whnf))
  all_goals try first | (exfalso; exact h rfl; done) | (exfalso; simp at h; done) | exact ⟨_, PH.Le.refl _, rfl, (l1.trans l2).trans l3⟩ | (exfalso; exact h (hz ‹_›).1; done) | (exfalso; have z := (hz ‹_›).2.1; rw [z] at h; simp at h; done)
  have hz := hz ‹_›
  have l03 := (l1.trans l2).trans l3
  refine ACall.step (leaveBulk_impl X.k C2 d2 X.ws l M3 s2 hl) fun r M4 hh => ?_
  obtain ⟨o4, C4, d4, rfl, N4⟩ := hh
  have l4 := N4.le
  have s4 := s2.mono l4
  have hy := @leave_zero X.k X.ws l
  have hl2 := leaveOf_len X.k X.ws l
  generalize hY : leaveOf X.k X.ws l = Y at hy hl2 N4 ⊢
  conv => whnf
  repeat' (first | (refine ⟨⟨[], rfl⟩, _, PH.Le.refl _, PH.Le.refl _, ?_⟩; conv => whnf) | (refine ACall.step (leaveBulk_spec X.k C2 d2 X.ws l M4 s4 hl) fun r M5 hh => ?_; obtain ⟨C5, d5, rfl, l5, s5⟩ := hh; rw [hY]; refine ⟨⟨[], rfl⟩, _, l5, PH.Le.refl _, ?_⟩; conv => whnf) | (refine caseB_true ?_; conv => whnf) | (refine caseB_false ?_; conv => whnf) | ((with_reducible refine caseB_dec (fun h => ?_) (fun h => ?_)) <;> conv => whnf) | ((with_reducible refine caseB_ndec (fun h => ?_) (fun h => ?_)) <;> conv => whnf) | ((with_reducible refine caseB_not (fun h => ?_) (fun h => ?_)) <;> conv => whnf) | (refine draw_rule (.light 0 <| .light 1 <| .light 2 <| .light 3 <| .light 4 <| .light 5 <| .light 6 <| .light 7 <| .light 8 <| .light 9 <| .light 10 <| .light 11 <| .light 12 <| .light 13 <| .light 14 <| .light 16 <| .light 17 <| .alt 15 false (.alt 18 false (.light 19 <| .light 20 <| .light 21 <| .light 22 <| .light 24 <| .alt 23 false (.alt 25 false (.light 26 <| .light 27 <| .done) .nil) .nil) .nil) .nil) (by decide +kernel) ?_; conv => whnf) | (refine draw_rule (.light 0 <| .light 1 <| .light 2 <| .light 3 <| .light 4 <| .alt 5 false (.light 6 <| .light 7 <| .light 8 <| .done) .nil) (by decide +kernel) ?_; conv => whnf) | (refine draw_rule (.light 0 <| .light 1 <| .light 2 <| .light 3 <| .light 4 <| .light 5 <| .light 6 <| .light 7 <| .light 8 <| .light 9 <| .light 10 <| .light 11 <| .light 12 <| .light 13 <| .light 14 <| .light 15 <| .light 16 <| .light 17 <| .light 18 <| .light 19 <| .light 20 <| .light 21 <| .light 22 <| .light 23 <| .light 24 <| .light 25 <| .light 26 <| .light 27 <| .light 28 <| .light 29 <| .light 30 <| .done) (by decide +kernel) ?_; conv => whnf) | (with_reducible refine @And.intro (guardVC _ _ _ _ _) _ ?_ ?_) <;> conv => whnf | (refine caseB_intro (fun h => ?_) (fun h => ?_) <;> (try simp only [Bool.not_eq_true', Bool.not_eq_false', decide_eq_true_eq, decide_eq_false_iff_not] at h) <;> conv => whnf))
  · exact ⟨_, PH.Le.refl _, by simp [resV], (l03.trans l4).trans l5⟩
  · have h0 : 0 < X.ws.length := by omega
    obtain ⟨y1, y2, y3⟩ := hy ‹_›
    obtain ⟨hA, _, hr⟩ := s4.get h0
    have yk : Y.k = X.k := by rw [y1]; unfold leaveK; rw [if_neg (by omega)]
    have yl : Y.ws.length = X.ws.length - 1 := by rw [y2]; simp
    have yn : Y.n = X.ws[0].a := by rw [y3]; exact nextW_head h0
    have hw1 : IntKind.i64.wrap ((X.ws.length : Int) - 1) = (X.ws.length : Int) - 1 := wr_id (by omega) (by omega)
    repeat' (first | (refine ⟨⟨[], rfl⟩, _, PH.Le.refl _, PH.Le.refl _, ?_⟩; conv => whnf) | (refine ⟨_, cells_cut hr 0 rfl, ?_⟩; conv => whnf) | (refine ⟨by omega, by omega, hA, ?_⟩; conv => whnf) | (refine caseB_true ?_; conv => whnf) | (refine caseB_false ?_; conv => whnf) | ((with_reducible refine caseB_dec (fun h => ?_) (fun h => ?_)) <;> conv => whnf) | ((with_reducible refine caseB_ndec (fun h => ?_) (fun h => ?_)) <;> conv => whnf) | ((with_reducible refine caseB_not (fun h => ?_) (fun h => ?_)) <;> conv => whnf) | (refine draw_rule (.light 0 <| .light 1 <| .light 2 <| .light 3 <| .light 4 <| .light 5 <| .light 6 <| .light 7 <| .light 8 <| .light 9 <| .light 10 <| .light 11 <| .light 12 <| .light 13 <| .light 14 <| .light 16 <| .light 17 <| .alt 15 false (.alt 18 false (.light 19 <| .light 20 <| .light 21 <| .light 22 <| .light 24 <| .alt 23 false (.alt 25 false (.light 26 <| .light 27 <| .done) .nil) .nil) .nil) .nil) (by decide +kernel) ?_; conv => whnf) | (refine draw_rule (.light 0 <| .light 1 <| .light 2 <| .light 3 <| .light 4 <| .alt 5 false (.light 6 <| .light 7 <| .light 8 <| .done) .nil) (by decide +kernel) ?_; conv => whnf) | (refine draw_rule (.light 0 <| .light 1 <| .light 2 <| .light 3 <| .light 4 <| .light 5 <| .light 6 <| .light 7 <| .light 8 <| .light 9 <| .light 10 <| .light 11 <| .light 12 <| .light 13 <| .light 14 <| .light 15 <| .light 16 <| .light 17 <| .light 18 <| .light 19 <| .light 20 <| .light 21 <| .light 22 <| .light 23 <| .light 24 <| .light 25 <| .light 26 <| .light 27 <| .light 28 <| .light 29 <| .light 30 <| .done) (by decide +kernel) ?_; conv => whnf) | (with_reducible refine @And.intro (guardVC _ _ _ _ _) _ ?_ ?_) <;> conv => whnf | (refine caseB_intro (fun h => ?_) (fun h => ?_) <;> (try simp only [Bool.not_eq_true', Bool.not_eq_false', decide_eq_true_eq, decide_eq_false_iff_not] at h) <;> conv => whnf))
    all_goals first | (exfalso; exact h yk) | (exfalso; exact h yn) | exact ⟨_, PH.Le.refl _, by simp only [resV]; rw [hw1, yl]; exact congrArg Value.bool (decide_eq_true (by omega)), l03.trans l4⟩
  all_goals obtain ⟨y1, y2, y3⟩ := hy ‹_›
  all_goals have hx : X.ws = [] := List.eq_nil_of_length_eq_zero (by omega)
  all_goals have yn : Y.n = -1 := by rw [y3, hx]; rfl
  all_goals have yk : Y.k = IntKind.i64.wrap (X.k - 1) := by rw [y1, hx]; rfl
  all_goals first | (exfalso; exact h yk) | (exfalso; exact h yn) | exact ⟨_, PH.Le.refl _, by simp only [resV]; rw [hz.2.2 hx], l03.trans l4⟩
end Go.Proofs.Ytpiakjcmbnfdlaa
