/-
  THE LAW over breakers: an open one lets nothing through, a half open one no more than its quota.
-/
import Derived.Test.YtpiakjcmbnfdlaaDe
namespace Go.Proofs.Ytpiakjcmbnfdlaa
set_option maxRecDepth 100000
set_option linter.unusedSimpArgs false
set_option linter.unusedVariables false
open Go.Xe
theorem brFault_of {k : K3} {ws : List Mk} (h : Srt ws ∧ (k.p = 0 ∨ k.p = 1 ∨ k.p = 2) ∧ ws.length ≤ 60 ∧ (∀ w ∈ ws, okM w = true) ∧ isT k.q = true ∧ inB k.r 0 5 = true ∧ (k.p ≠ 0 → ws = []) ∧ (k.p ≠ 2 → k.r = 0)) : brFault k ws = 0 := by
  obtain ⟨h1, h2, h3, h4, h5, h6, h7, h8⟩ := h
  unfold brFault
  have hp : inB k.p 0 2 = true := by simp [inB]; omega
  have hn : ws.any (fun w => !okM w) = false := by
    rw [List.any_eq_false]
    intro w hw
    simp [h4 w hw]
  rw [if_neg (by simp [hp, h5, h6]), if_neg (by omega), if_neg (by simp [hn]), if_neg (by simp [asB_true h1]), if_neg]
  simp only [Bool.or_eq_true, Bool.and_eq_true, Bool.not_eq_true', decide_eq_false_iff_not, decide_eq_true_eq, not_or, not_and]
  refine ⟨fun h => ?_, fun h => ?_⟩
  · rw [h7 h]; simp
  · simp [h8 h]
theorem askOf_zero {k : K3} {ws : List Mk} {r : Rl} {t : Int} (h : askOf k ws r t = 0) : brFault k ws = 0 ∧ rulesFault r = 0 ∧ (isT t && decide (k.q ≤ t)) = true ∧ ws.any (fun w => decide (t < w.a)) = false := by
  unfold askOf at h
  split at h
  · contradiction
  · rename_i h1
    split at h
    · contradiction
    · rename_i h2
      split at h
      · cases h
      · rename_i h3
        split at h
        · cases h
        · rename_i h4
          exact ⟨by simpa using h1, by simpa using h2, by simpa using h3, by simpa using h4⟩
theorem rules_e {r : Rl} (h : rulesFault r = 0) : 1 ≤ r.e ∧ r.e ≤ 5 := by
  unfold rulesFault at h
  split at h
  · rename_i e; simp [inB] at e; omega
  · cases h
theorem ask_allow {k : K3} {ws : List Mk} {r : Rl} {t : Int} (h : askOf k ws r t = 0) : askOf (allowK k r t) ws r t = 0 := by
  obtain ⟨h1, h2, h3, h4⟩ := askOf_zero h
  obtain ⟨b1, b2, b3, b4, b5, b6, b7, b8⟩ := brFault_srt h1
  have he := rules_e h2
  unfold allowK
  split
  · exact h
  · rename_i hp
    have hw := b7 hp
    split
    · exact askOf_ok (brFault_of ⟨b1, .inr (.inr rfl), b3, b4, b5, rfl, fun _ => hw, fun h => absurd rfl h⟩) h2 h3 h4
    · split
      · rename_i h5
        simp only [inB, decide_eq_true_eq] at b6
        refine askOf_ok (brFault_of ⟨b1, b2, b3, b4, b5, ?_, fun _ => hw, fun h => absurd h5.1 h⟩) h2 h3 h4
        show inB (wr (k.r + 1)) 0 5 = true
        rw [wr_id (by omega) (by omega)]
        simp [inB]; omega
      · exact h
theorem allow_one {k : K3} {r : Rl} {t : Int} (h : (allowK k r t).p = 1) : ¬ r.d ≤ wr (t - (allowK k r t).q) := by
  unfold allowK at h ⊢
  split at h
  · rename_i e; rw [e] at h; cases h
  · rename_i e
    rw [if_neg e]
    split at h
    · cases h
    · rename_i e2
      rw [if_neg e2]
      split at h
      · rename_i e3; rw [e3.1] at h; cases h
      · rename_i e3
        rw [if_neg e3]
        exact fun hc => e2 ⟨h, hc⟩
structure BrI (x0 : K3) (r : Rl) (i : Nat) (n : Int) (x : K3) : Prop where
  nn : 0 ≤ n ∧ n ≤ i
  z0 : x0.p = 0 → x = x0 ∧ n = i
  z1 : x0.p = 1 → x = x0 ∧ n = 0
  z2 : x0.p = 2 → x.p = 2 ∧ (n = 0 ∨ n ≤ x.r ∧ x.r ≤ r.e)
theorem BrI.step {x0 x : K3} {r : Rl} {t n : Int} {ws : List Mk} {i : Nat} (h : BrI x0 r i n x) (ha : askOf x ws r t = 0) (h1 : x0.p = 1 → ¬ r.d ≤ wr (t - x0.q)) (hi : i < 8) :
    BrI x0 r (i + 1) (if allowB x r t then n + 1 else n) (allowK x r t) := by
  obtain ⟨⟨n0, ni⟩, z0, z1, z2⟩ := h
  obtain ⟨a1, a2, a3, a4⟩ := askOf_zero ha
  obtain ⟨b1, b2, b3, b4, b5, b6, b7, b8⟩ := brFault_srt a1
  have he := rules_e a2
  simp only [inB, decide_eq_true_eq] at b6
  refine ⟨by split <;> omega, fun e => ?_, fun e => ?_, fun e => ?_⟩
  · obtain ⟨rfl, hn⟩ := z0 e
    have : allowB x r t = true := by simp [allowB, e]
    refine ⟨by simp [allowK, e], by rw [if_pos this]; omega⟩
  · obtain ⟨rfl, hn⟩ := z1 e
    have : allowB x r t = false := by simp [allowB, e, h1 e]
    refine ⟨?_, by rw [if_neg (by simp [this])]; exact hn⟩
    unfold allowK
    rw [if_neg (by omega), if_neg (fun hc => h1 e hc.2), if_neg (by omega)]
  · obtain ⟨hp, h2⟩ := z2 e
    by_cases hlt : x.r < r.e
    · have : allowB x r t = true := by simp [allowB, hp, hlt]
      have hk : allowK x r t = ⟨2, x.q, x.r + 1⟩ := by
        unfold allowK
        rw [if_neg (by omega), if_neg (by omega), if_pos ⟨hp, hlt⟩, wr_id (by omega) (by omega), hp]
      rw [hk, if_pos this]
      exact ⟨rfl, .inr ⟨by show n + 1 ≤ x.r + 1; omega, by show x.r + 1 ≤ r.e; omega⟩⟩
    · have : allowB x r t = false := by simp [allowB, hp]; omega
      have hk : allowK x r t = x := by
        unfold allowK
        rw [if_neg (by omega), if_neg (by omega), if_neg (by omega)]
      rw [hk, if_neg (by simp [this])]
      exact ⟨hp, h2⟩
abbrev J5 := Nat × Int × K3 × Option Addr × Nat
theorem allow_zero {k : K3} {ws : List Mk} {r : Rl} {t : Int} (h : (allowOf k ws r t).why = 0) : askOf k ws r t = 0 ∧ (allowOf k ws r t).k = allowK k r t ∧ (allowOf k ws r t).ws = ws ∧ (allowOf k ws r t).b = allowB k r t := by
  by_cases h0 : askOf k ws r t = 0
  · rw [allowOf_ok h0]
    exact ⟨h0, rfl, rfl, rfl⟩
  · rw [allowOf_bad h0] at h
    contradiction
set_option maxHeartbeats 8000000 in
theorem breakers_law (A : Option Addr) (c : Nat) (bs : List Int) (M : PH) (hs : Sl M A 1 byC bs) (hby : ∀ (i : Nat) b, bs[i]? = some b → 0 ≤ b ∧ b ≤ 255) :
    ACall env 11 [.slice A bs.length c] M fun r M' => r = B true ∧ M.Le M' := by
  refine xcall_of_vc Try.func11 rfl _ Try.ntmps11 _ rfl (fun _ _ => Try.call11 _ _) rfl (fun w0 ρ0 => ?_)
  conv => whnf
  repeat' (first | (refine ⟨⟨[], rfl⟩, _, PH.Le.refl _, PH.Le.refl _, ?_⟩; conv => whnf) | (refine caseB_true ?_; conv => whnf) | (refine caseB_false ?_; conv => whnf) | ((with_reducible refine caseB_dec (fun h => ?_) (fun h => ?_)) <;> conv => whnf) | ((with_reducible refine caseB_ndec (fun h => ?_) (fun h => ?_)) <;> conv => whnf) | ((with_reducible refine caseB_not (fun h => ?_) (fun h => ?_)) <;> conv => whnf) | (refine Ret.go (lwBig_ret A c bs _) ?_; conv => whnf) | (with_reducible refine @And.intro (guardVC _ _ _ _ _) _ ?_ ?_) <;> conv => whnf | (refine caseB_intro (fun h => ?_) (fun h => ?_) <;> (try simp only [Bool.not_eq_true', Bool.not_eq_false', decide_eq_true_eq, decide_eq_false_iff_not] at h) <;> conv => whnf))
  · exact ⟨_, PH.Le.refl _, rfl, PH.Le.refl _⟩
  have hb : Byt M A bs := ⟨hs, by omega, hby⟩
  refine ACall.step (drawAllowFetch_ret A c bs M hb (by omega)) fun r M1 hh => ?_
  obtain ⟨k, ws, C, d, r, t, rfl, hw, l1, sC⟩ := hh
  conv => whnf
  refine ACall.step (allowFetch_impl k C d ws r t M1 sC (by omega)) fun r' M2 hh => ?_
  obtain ⟨o2, C2, d2, rfl, N2⟩ := hh
  clear hb hs
  conv => whnf
  have l2 := N2.le
  have lA := l1.trans l2
  have sC := sC.mono l2
  have s2 := N2.ow.sl Mk.len
  have hz := @allow_zero k ws r t
  have hl := allowOf_len k ws r t (by omega)
  clear N2
  generalize hE : allowOf k ws r t = X at hz hl s2 ⊢
  conv => whnf
  repeat' (first | (refine ⟨⟨[], rfl⟩, _, PH.Le.refl _, PH.Le.refl _, ?_⟩; conv => whnf) | (refine ACall.step (allowFetch_spec k C d ws r t _ (sC.mono (by repeat (first | exact PH.Le.refl _ | assumption | (apply PH.Le.trans; · assumption)))) (by omega)) fun r M7 hh => ?_; obtain ⟨C7, d7, rfl, l7, s7⟩ := hh; rw [hE] at s7 ⊢; (first | (refine ⟨⟨[], rfl⟩, _, l7, PH.Le.refl _, ?_⟩; conv => whnf) | conv => whnf)) | (refine caseB_true ?_; conv => whnf) | (refine caseB_false ?_; conv => whnf) | ((with_reducible refine caseB_dec (fun h => ?_) (fun h => ?_)) <;> conv => whnf) | ((with_reducible refine caseB_ndec (fun h => ?_) (fun h => ?_)) <;> conv => whnf) | ((with_reducible refine caseB_not (fun h => ?_) (fun h => ?_)) <;> conv => whnf) | (refine Ret.go (breakerFault_impl k C d ws _ (sC.mono (by repeat (first | exact PH.Le.refl _ | assumption | (apply PH.Le.trans; · assumption)))) (by omega)) ?_; conv => whnf) | (refine Ret.go (breakerFault_spec k C d ws _ (sC.mono (by repeat (first | exact PH.Le.refl _ | assumption | (apply PH.Le.trans; · assumption)))) (by omega)) ?_; conv => whnf) | (refine Ret.go (rulesFault_impl r _) ?_; conv => whnf) | (refine Ret.go (rulesFault_spec r _) ?_; conv => whnf) | (refine draw_rule (.light 0 <| .light 1 <| .light 2 <| .light 3 <| .light 4 <| .alt 5 false (.light 6 <| .light 7 <| .light 8 <| .light 9 <| .light 10 <| .light 11 <| .light 12 <| .light 13 <| .alt 14 false (.light 15 <| .light 16 <| .light 17 <| .light 18 <| .light 19 <| .light 21 <| .alt 20 false (.alt 22 false (.light 23 <| .light 24 <| .light 25 <| .light 26 <| .light 28 <| .alt 27 false (.alt 29 false (.light 30 <| .light 31 <| .done) .nil) .nil) .nil) .nil) .nil) .nil) (by decide +kernel) ?_; conv => whnf) | (with_reducible refine @And.intro (guardVC _ _ _ _ _) _ ?_ ?_) <;> conv => whnf | (refine caseB_intro (fun h => ?_) (fun h => ?_) <;> (try simp only [Bool.not_eq_true', Bool.not_eq_false', decide_eq_true_eq, decide_eq_false_iff_not] at h) <;> conv => whnf))
  all_goals try first | (exfalso; exact h rfl; done) | (exfalso; simp at h; done) | exact ⟨_, PH.Le.refl _, rfl, by repeat (first | exact PH.Le.refl _ | assumption | (apply PH.Le.trans; · assumption))⟩
  obtain ⟨ha, hk, hws, hbb⟩ := hz ‹_›
  clear hz hE
  obtain ⟨why, kx, wsx, bx⟩ := X
  simp only at hk hws hbb s2
  subst hws
  have hx := ask_allow ha
  rw [← hk] at hx
  obtain ⟨x1, x2, x3, x4⟩ := askOf_zero hx
  obtain ⟨a1, -, a3, a4⟩ := askOf_zero ha
  obtain ⟨b1, b2, b3, b4, b5, b6, b7, b8⟩ := brFault_srt a1
  obtain ⟨-, y2, -, -, -, y6, -, y8⟩ := brFault_srt x1
  have h1 : kx.p = 1 → ¬ r.d ≤ wr (t - kx.q) := by rw [hk]; exact allow_one
  have he := rules_e x2
  simp only [inB, decide_eq_true_eq] at y6
  have c0 : k.p = 0 → bx = true := fun e => by rw [hbb]; simp [allowB, e]
  have c1 : k.p = 1 → (bx == decide (r.d ≤ IntKind.i64.wrap (t - k.q))) = true := fun e => by rw [hbb]; simp [allowB, e]
  have c2 : k.p = 2 → (bx == decide (k.r < r.e)) = true := fun e => by rw [hbb]; simp [allowB, e]
  repeat' (first | (refine ⟨⟨[], rfl⟩, _, PH.Le.refl _, PH.Le.refl _, ?_⟩; conv => whnf) | (refine caseB_true ?_; conv => whnf) | (refine caseB_false ?_; conv => whnf) | ((with_reducible refine caseB_dec (fun h => ?_) (fun h => ?_)) <;> conv => whnf) | ((with_reducible refine caseB_ndec (fun h => ?_) (fun h => ?_)) <;> conv => whnf) | ((with_reducible refine caseB_not (fun h => ?_) (fun h => ?_)) <;> conv => whnf) | (refine Ret.go (breakerFault_impl kx C2 d2 wsx _ (s2.mono (by repeat (first | exact PH.Le.refl _ | assumption | (apply PH.Le.trans; · assumption)))) (by omega)) ?_; conv => whnf) | (with_reducible refine @And.intro (guardVC _ _ _ _ _) _ ?_ ?_) <;> conv => whnf | (refine caseB_intro (fun h => ?_) (fun h => ?_) <;> (try simp only [Bool.not_eq_true', Bool.not_eq_false', decide_eq_true_eq, decide_eq_false_iff_not] at h) <;> conv => whnf))
  all_goals try (exfalso; first | exact h x1 | omega | exact Bool.noConfusion ((c0 ‹_›).symm.trans h) | exact Bool.noConfusion ((c1 ‹_›).symm.trans h) | exact Bool.noConfusion ((c2 ‹_›).symm.trans h))
  all_goals
    clear h
    refine loop_rule (fun z : J5 => ⟨slots 153 [(2, .v (B false)), (3, .bp 0 0), (4, .bp 1 0), (5, .v (I t)), (6, .bp 2 0), (7, .bp 3 0), (8, .v (I z.2.1)), (9, .v (I z.1))], [brB k C wsx.length d, r.box, ⟨83, [.v (I why), .v (I kx.p), .v (I kx.q), .v (I kx.r), .v (.slice C2 wsx.length d2), .v (B bx)]⟩, brB z.2.2.1 z.2.2.2.1 wsx.length z.2.2.2.2]⟩)
      (fun z M' => z.1 ≤ 8 ∧ BrI kx r z.1 z.2.1 z.2.2.1 ∧ askOf z.2.2.1 wsx r t = 0 ∧ M.Le M' ∧ Sl M' z.2.2.2.1 2 Mk.cs wsx) (fun z => 8 - z.1) (0, 0, kx, C2, d2) ?_ ?_ ?_
    · exact ⟨by simp [slots, leT], ⟨_, rfl⟩, Nat.zero_le _, rfl, rfl⟩
    · exact ⟨by simp, ⟨⟨Int.le_refl _, Int.le_refl _⟩, fun e => ⟨rfl, rfl⟩, fun e => ⟨rfl, rfl⟩, fun e => ⟨e, .inl rfl⟩⟩, hx, (by repeat (first | exact PH.Le.refl _ | assumption | (apply PH.Le.trans; · assumption))), s2.mono (by repeat (first | exact PH.Le.refl _ | assumption | (apply PH.Le.trans; · assumption)))⟩
    rintro ⟨i, n, x, C', d'⟩ M5 ⟨hi, hI, hax, lm, sm⟩
    have hi : i ≤ 8 := hi
    have hI : BrI kx r i n x := hI
    have hax : askOf x wsx r t = 0 := hax
    have sm : Sl M5 C' 2 Mk.cs wsx := sm
    conv => whnf
    refine caseB_dec (fun h0 => ?_) (fun h0 => ?_)
    · have h0 : (i : Int) < 8 := h0
      have hw8 : IntKind.i64.wrap ((i : Int) + 1) = (i : Int) + 1 := wr_id (by omega) (by omega)
      conv => whnf
      refine ACall.step (allowFetch_impl x C' d' wsx r t M5 sm (by omega)) fun r' M6 hh => ?_
      obtain ⟨o6, C6, d6, hr, N6⟩ := hh
      rw [allowOf_ok hax] at hr N6
      subst hr
      have hs := hI.step hax h1 (by omega)
      have hwn : IntKind.i64.wrap (n + 1) = n + 1 := by have := hI.nn; exact wr_id (by omega) (by omega)
      have hax2 := ask_allow hax
      conv => whnf
      refine caseB_false ?_
      conv => whnf
      refine caseB_intro (fun hb => ?_) (fun hb => ?_)
      · have hb : allowB x r t = true := hb
        rw [if_pos hb] at hs
        conv => whnf
        exact ⟨(i + 1, n + 1, allowK x r t, C6, d6), ⟨by simp [slots, leT, hw8, hwn], ⟨_, rfl⟩, Nat.zero_le _, rfl, rfl⟩, ⟨by show i + 1 ≤ 8; omega, hs, hax2, lm.trans N6.le, N6.ow.sl Mk.len⟩, by show 8 - (i + 1) < 8 - i; omega⟩
      · have hb : allowB x r t = false := hb
        rw [if_neg (by simp [hb])] at hs
        conv => whnf
        exact ⟨(i + 1, n, allowK x r t, C6, d6), ⟨by simp [slots, leT, hw8], ⟨_, rfl⟩, Nat.zero_le _, rfl, rfl⟩, ⟨by show i + 1 ≤ 8; omega, hs, hax2, lm.trans N6.le, N6.ow.sl Mk.len⟩, by show 8 - (i + 1) < 8 - i; omega⟩
    · have hi8 : i = 8 := by have h0 : ¬ (i : Int) < 8 := h0; omega
      subst hi8
      obtain ⟨i0, i1, i2, i3⟩ := hI
      conv => whnf
      have h8 : ((8, n, x, C', d') : J5).2.1 = n := rfl
      repeat' (first | (refine ⟨⟨[], rfl⟩, _, PH.Le.refl _, PH.Le.refl _, ?_⟩; conv => whnf) | (refine caseB_true ?_; conv => whnf) | (refine caseB_false ?_; conv => whnf) | ((with_reducible refine caseB_dec (fun h => ?_) (fun h => ?_)) <;> conv => whnf) | ((with_reducible refine caseB_ndec (fun h => ?_) (fun h => ?_)) <;> conv => whnf) | ((with_reducible refine caseB_not (fun h => ?_) (fun h => ?_)) <;> conv => whnf) | (with_reducible refine @And.intro (guardVC _ _ _ _ _) _ ?_ ?_) <;> conv => whnf | (refine caseB_intro (fun h => ?_) (fun h => ?_) <;> (try simp only [Bool.not_eq_true', Bool.not_eq_false', decide_eq_true_eq, decide_eq_false_iff_not] at h) <;> conv => whnf))
      all_goals first | (exfalso; omega) | exact ⟨_, PH.Le.refl _, rfl, lm⟩ | exact ⟨_, PH.Le.refl _, by simp only [resV]; exact congrArg Value.bool (decide_eq_true (by omega)), lm⟩
end Go.Proofs.Ytpiakjcmbnfdlaa
