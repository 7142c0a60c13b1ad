/-
  THE LAW: what heads allow is told in times; who must not keep does not.
-/
import Derived.Test.YtdgipmlkkmmliaaGreatDoorRo
namespace Go.Proofs.YtdgipmlkkmmliaaGreatDoor
set_option maxRecDepth 100000
set_option linter.unusedSimpArgs false
set_option linter.unusedVariables false
open Go.Xe
theorem polFault_iff {p : Pol} : polFault p = 0 ↔ ((isT p.life = true ∨ p.life = -1) ∧ isT p.swr = true ∧ isT p.sie = true ∧ isT p.age = true) := by
  unfold polFault
  split
  · rename_i h
    constructor
    · intro e; cases e
    · rintro ⟨h1, h2, h3, h4⟩
      rcases h with ⟨a, b⟩ | a | a | a
      · rcases h1 with h1 | h1
        · rw [h1] at a; cases a
        · exact absurd h1 b
      · rw [h2] at a; cases a
      · rw [h3] at a; cases a
      · rw [h4] at a; cases a
  · rename_i h
    refine ⟨fun _ => ⟨?_, ?_, ?_, ?_⟩, fun _ => rfl⟩
    · by_cases e : p.life = -1
      · exact .inr e
      · cases hi : isT p.life with
        | true => exact .inl rfl
        | false => exact absurd (.inl ⟨hi, e⟩) h
    · cases hi : isT p.swr with
      | true => rfl
      | false => exact absurd (.inr (.inl hi)) h
    · cases hi : isT p.sie with
      | true => rfl
      | false => exact absurd (.inr (.inr (.inl hi))) h
    · cases hi : isT p.age with
      | true => rfl
      | false => exact absurd (.inr (.inr (.inr hi))) h
theorem isT_of {v : Int} (h : 0 ≤ v ∧ v ≤ 2147483648000) : isT v = true := (isT_iff v).2 ⟨h.1, by omega⟩
theorem polV_ok (ws : List Hd) : polFault (polV ws) = 0 ∧ ((polV ws).mu = true → (polV ws).swr = 0 ∧ (polV ws).sie = 0) := by
  have e0 : polV ws = polK (parC (jn (vals ws ccL))) (parR (jn (vals ws ccL))) (lifeE ws) (1000 * max0 (deltaV (firstV (vals ws ageL)))) := rfl
  rw [e0]
  have hl := lifeE_in ws
  have hm0 := max0_in (deltaV (firstV (vals ws ageL))) (deltaV_in _).2
  generalize lifeE ws = lf at *
  generalize firstV (vals ws ageL) = ag at *
  generalize parR (jn (vals ws ccL)) = xs at *
  generalize parC (jn (vals ws ccL)) = k at *
  refine ⟨polFault_iff.2 ⟨?_, ?_, ?_, ?_⟩, fun h => ?_⟩
  · show isT (if k = 0 then (if hasI xs smB = true then spanV xs smB else if hasI xs maB = true then spanV xs maB else lf) else 0) = true ∨ (if k = 0 then (if hasI xs smB = true then spanV xs smB else if hasI xs maB = true then spanV xs maB else lf) else 0) = -1
    split
    · split
      · exact .inl (isT_of (spanV_in xs _))
      · split
        · exact .inl (isT_of (spanV_in xs _))
        · by_cases e : lf = -1
          · exact .inr e
          · exact .inl ((isT_iff _).2 ⟨by omega, by omega⟩)
    · exact .inl (by decide)
  · show isT (if mustI xs = true then 0 else spanV xs swB) = true
    split
    · decide
    · exact isT_of (spanV_in xs _)
  · show isT (if mustI xs = true then 0 else spanV xs seB) = true
    split
    · decide
    · exact isT_of (spanV_in xs _)
  · exact isT_of (by show 0 ≤ 1000 * max0 (deltaV ag) ∧ 1000 * max0 (deltaV ag) ≤ 2147483648000; omega)
  · have h : mustI xs = true := h
    exact ⟨if_pos h, if_pos h⟩
theorem lf_good {p : Pol} {st neg : Int} (h : lfC p st neg = 0) : p.ns = false ∧ ¬ lfV p st neg < 0 ∧ ¬ 1000000000000000 < lfV p st neg ∧ (¬ p.life = -1 → lfV p st neg = p.life) := by
  have hv : lfV p st neg = slV p st neg := if_pos h
  rw [hv]
  unfold lfC at h
  split at h
  · omega
  rename_i h1
  split at h
  · omega
  split at h
  · omega
  rename_i h3
  split at h
  · omega
  rename_i h4
  have h1 : polFault p = 0 := by omega
  obtain ⟨a, _⟩ := polFault_iff.1 h1
  have h3 : isT neg = true := by simpa using h3
  have hn := (isT_iff neg).1 h3
  have hb : ¬ badS p st := fun e => by
    unfold slOk at h4
    rw [if_pos e] at h4
    exact h4 rfl
  have hns : p.ns = false := by
    cases e : p.ns with
    | false => rfl
    | true => exact absurd (.inl e) hb
  have e : slV p st neg = if p.life = -1 then neg else p.life := if_neg hb
  rw [e]
  split
  · rename_i hl
    exact ⟨hns, by omega, by omega, fun h => absurd hl h⟩
  · rename_i hl
    have ht : isT p.life = true := by
      rcases a with a | a
      · exact a
      · exact absurd a hl
    have := (isT_iff _).1 ht
    exact ⟨hns, by omega, by omega, fun _ => rfl⟩
theorem lf_none {p : Pol} (h : polFault p = 0) (hn : p.ns = true) : lfC p 200 0 = 4 := by
  unfold lfC
  rw [if_neg (by omega), if_neg (by decide), if_neg (by decide), if_pos]
  unfold slOk
  rw [if_pos (.inl hn)]
abbrev plrB (k : Int) (p : Pol) : Box := ⟨27, [.v (I k), .v (B p.ns), .v (B p.nc), .v (B p.mu), .v (I p.life), .v (I p.swr), .v (I p.sie), .v (I p.age)]⟩
set_option maxHeartbeats 16000000 in
theorem policies_law (A : Option Addr) (c : Nat) (bs : List Int) (M : PH) (hL : Lw M) (hs : Sl M A 1 byC bs) (hby : ∀ (i : Nat) b, bs[i]? = some b → 0 ≤ b ∧ b ≤ 255) :
    ACall env 4 [.slice A bs.length c] M fun r M' => r = B true ∧ M.Le M' := by
  refine xcall_of_vc Tryz.func4 rfl _ Tryz.ntmps4 _ rfl (fun _ _ => Tryz.call4 _ _) rfl (fun w0 ρ0 => ?_)
  conv => whnf
  repeat' (first | (refine ⟨⟨[], rfl⟩, _, PH.Le.refl _, PH.Le.refl _, ?_⟩; conv => whnf) | (refine caseB_true ?_; conv => whnf) | (refine caseB_false ?_; conv => whnf) | ((with_reducible refine caseB_dec (fun h => ?_) (fun h => ?_)) <;> conv => whnf) | ((with_reducible refine caseB_ndec (fun h => ?_) (fun h => ?_)) <;> conv => whnf) | ((with_reducible refine caseB_not (fun h => ?_) (fun h => ?_)) <;> conv => whnf) | (refine Ret.go (lwBig_ret A c bs _) ?_; conv => whnf) | (with_reducible refine @And.intro (guardVC _ _ _ _ _) _ ?_ ?_) <;> conv => whnf | (refine caseB_intro (fun h => ?_) (fun h => ?_) <;> (try simp only [Bool.not_eq_true', Bool.not_eq_false', decide_eq_true_eq, decide_eq_false_iff_not] at h) <;> conv => whnf))
  · exact ⟨_, PH.Le.refl _, rfl, PH.Le.refl _⟩
  have hb : Byt M A bs := ⟨hs, by omega, hby⟩
  refine ACall.step (drawPolicyOf_ret A c bs M hb) fun r M1 hh => ?_
  obtain ⟨A1, c1, ws, rfl, sw, hw, hwz, l1⟩ := hh
  have hwc : costL Hd.cost ws ≤ 1048576 := by have := costHdB ws hwz; omega
  have pI := policy_impl A1 c1 ws M1 (hL.mono l1) sw hwc
  have pS := policy_spec A1 c1 ws M1 sw hwc
  have hP : hdsFault ws = 0 → polFault (polR ws) = 0 ∧ ((polR ws).mu = true → (polR ws).swr = 0 ∧ (polR ws).sie = 0) := fun e => by
    have : polR ws = polV ws := if_pos e
    rw [this]
    exact polV_ok ws
  generalize polR ws = p at *
  generalize hdsFault ws = k at *
  conv => whnf
  refine Ret.go pI ?_
  have lr := PH.Le.refl M1
  conv => whnf
  repeat' (first | (refine ⟨⟨[], rfl⟩, _, PH.Le.refl _, bot_le _, ?_⟩; conv => whnf) | (refine ⟨⟨_, rfl⟩, _, PH.Le.refl _, bot_le _, ?_⟩; conv => whnf) | (refine ⟨⟨_, rfl⟩, _, PH.Le.refl _, lr, ?_⟩; conv => whnf) | (refine caseB_true ?_; conv => whnf) | (refine caseB_false ?_; conv => whnf) | ((with_reducible refine caseB_dec (fun h => ?_) (fun h => ?_)) <;> conv => whnf) | ((with_reducible refine caseB_ndec (fun h => ?_) (fun h => ?_)) <;> conv => whnf) | ((with_reducible refine caseB_not (fun h => ?_) (fun h => ?_)) <;> conv => whnf) | (refine draw_ruleJ (none) (.light 0 <| .light 1 <| .alt 2 false (.light 3 <| .done) .nil) (by decide +kernel) (lr) ?_; conv => whnf) | (refine draw_ruleJ (none) (.light 0 <| .light 1 <| .light 2 <| .light 3 <| .alt 4 false (.light 5 <| .light 6 <| .light 7 <| .light 9 <| .alt 8 false (.alt 10 false (.light 11 <| .light 12 <| .done) .nil) .nil) .nil) (by decide +kernel) (lr) ?_; conv => whnf) | (refine Ret.go (pS) ?_; conv => whnf) | (with_reducible refine @And.intro (guardVC _ _ _ _ _) _ ?_ ?_) <;> conv => whnf | (refine caseB_intro (fun h => ?_) (fun h => ?_) <;> (try simp only [Bool.not_eq_true', Bool.not_eq_false', decide_eq_true_eq, decide_eq_false_iff_not] at h) <;> conv => whnf))
  · exfalso
    simp at h
  clear h pI pS
  refine ACall.step (drawStoreLife_ret A c bs M1 (hb.mono l1)) fun r M2 hh => ?_
  obtain ⟨q, st, neg, rfl, l2⟩ := hh
  have sI := storeLife_impl q st neg M2
  have sS := storeLife_spec q st neg M2
  have fI := policyFault_impl q M2
  have fS := policyFault_spec q M2
  have gI := policyFault_impl p M2
  have tI := storeLife_impl p 200 0 M2
  have hg := lf_good (p := q) (st := st) (neg := neg)
  have hn := lf_none (p := p)
  generalize lfV q st neg = v at *
  generalize lfC q st neg = kc at *
  generalize polFault q = qf at *
  generalize polFault p = pf at *
  generalize lfV p 200 0 = v2 at *
  generalize lfC p 200 0 = k2 at *
  have L2 := l1.trans l2
  clear hs hby hb hL sw lr
  have lr := PH.Le.refl M2
  conv => whnf
  refine Ret.go sI ?_
  conv => whnf
  repeat' (first | (refine ⟨⟨[], rfl⟩, _, PH.Le.refl _, bot_le _, ?_⟩; conv => whnf) | (refine ⟨⟨_, rfl⟩, _, PH.Le.refl _, bot_le _, ?_⟩; conv => whnf) | (refine ⟨⟨_, rfl⟩, _, PH.Le.refl _, lr, ?_⟩; conv => whnf) | (refine caseB_true ?_; conv => whnf) | (refine caseB_false ?_; conv => whnf) | ((with_reducible refine caseB_dec (fun h => ?_) (fun h => ?_)) <;> conv => whnf) | ((with_reducible refine caseB_ndec (fun h => ?_) (fun h => ?_)) <;> conv => whnf) | ((with_reducible refine caseB_not (fun h => ?_) (fun h => ?_)) <;> conv => whnf) | (refine draw_ruleJ (none) (.light 0 <| .light 1 <| .alt 2 false (.light 3 <| .done) .nil) (by decide +kernel) (lr) ?_; conv => whnf) | (refine draw_ruleJ (none) (.light 0 <| .light 1 <| .light 2 <| .light 3 <| .alt 4 false (.light 5 <| .light 6 <| .light 7 <| .light 9 <| .alt 8 false (.alt 10 false (.light 11 <| .light 12 <| .done) .nil) .nil) .nil) (by decide +kernel) (lr) ?_; conv => whnf) | (refine Ret.go (sS) ?_; conv => whnf) | (refine Ret.go (fI) ?_; conv => whnf) | (refine Ret.go (fS) ?_; conv => whnf) | (refine Ret.go (gI) ?_; conv => whnf) | (refine Ret.go (tI) ?_; conv => whnf) | (with_reducible refine @And.intro (guardVC _ _ _ _ _) _ ?_ ?_) <;> conv => whnf | (refine caseB_intro (fun h => ?_) (fun h => ?_) <;> (try simp only [Bool.not_eq_true', Bool.not_eq_false', decide_eq_true_eq, decide_eq_false_iff_not] at h) <;> conv => whnf))
  all_goals first
    | exact ⟨_, PH.Le.refl _, rfl, L2⟩
    | (exfalso; simp at h; done)
    | (exfalso; exact h rfl; done)
    | (exfalso
       have hk : kc = 0 := by assumption
       obtain ⟨a, b, c, d⟩ := hg hk
       first | exact b (by assumption) | exact c (by assumption) | (rw [a] at h; cases h; done) | exact absurd (d (by assumption)) (by assumption))
    | (exfalso
       have hk : k = 0 := by assumption
       obtain ⟨a, b⟩ := hP hk
       first | exact absurd a (by assumption) | exact absurd (b (by assumption)).1 (by assumption) | exact absurd (b (by assumption)).2 (by assumption) | exact absurd (hn a (by assumption)) (by assumption))
    | exact ⟨_, PH.Le.refl _, by rw [decide_eq_true (hn (by assumption) (by assumption))]; rfl, L2⟩
end Go.Proofs.YtdgipmlkkmmliaaGreatDoor
