/-
  CONTRACTS: a date read, by both.
-/
import Derived.Test.YtdgipmlkkmmliaaGreatDoorRg
namespace Go.Proofs.YtdgipmlkkmmliaaGreatDoor
set_option maxRecDepth 100000
set_option linter.unusedSimpArgs false
set_option linter.unusedVariables false
open Go.Xe
theorem dateV_bad {t : ByteArray} (h : ¬ (t.size = 29 ∧ goodP deltaV t (mIdx t) = true)) : dateV t = -1 := if_neg h
set_option maxHeartbeats 4000000 in
theorem parseDate_ret (t : ByteArray) (ht : t.size ≤ 1048576) (M : PH) (hL : Lw M) : Ret 157 [Tx t] M (.agg #[I (if dateV t < 0 then 5 else 0), I (max0 (dateV t))]) := by
  have bad : dateV t = -1 → Value.agg #[I 5, I 0] = .agg #[I (if dateV t < 0 then 5 else 0), I (max0 (dateV t))] := fun e => by rw [e]; rfl
  have hmi := mIdx_in t
  have hix : IntKind.i64.wrap (idxF (fun s => seq (t.extract 8 11) s) monL + 1) = mIdx t := wi (by have e : mIdx t = idxF (fun s => seq (t.extract 8 11) s) monL + 1 := rfl; omega) (by have e : mIdx t = idxF (fun s => seq (t.extract 8 11) s) monL + 1 := rfl; omega)
  refine Ret.of ?_
  refine xcall_of_vc Tryz.func157 rfl _ Tryz.ntmps157 _ rfl (fun _ _ => Tryz.call157 _ _) rfl (fun w0 ρ0 => ?_)
  conv => whnf
  refine caseB_ndec (fun h => ?_) (fun h => ?_)
  · conv => whnf
    have h : ¬ (t.size : Int) = 29 := h
    exact ⟨_, PH.Le.refl _, bad (dateV_bad (by rintro ⟨e, _⟩; omega)), PH.Le.refl _⟩
  have h : (t.size : Int) = 29 := h
  have h29 : t.size = 29 := by omega
  have lr := PH.Le.refl M
  conv => whnf
  repeat' (first | (refine ⟨⟨[], rfl⟩, _, PH.Le.refl _, bot_le _, ?_⟩; conv => whnf) | (refine ⟨⟨_, rfl⟩, _, PH.Le.refl _, bot_le _, ?_⟩; conv => whnf) | (refine ⟨⟨_, rfl⟩, _, PH.Le.refl _, lr, ?_⟩; conv => whnf) | (refine ⟨⟨_, rfl⟩, _, PH.Le.refl _, PH.Le.refl _, ?_⟩; conv => whnf) | (refine ACall.step (monthNames_new _) fun r M1 hh => ?_; obtain ⟨g, rfl, sM, lM⟩ := hh; refine ⟨⟨_, rfl⟩, _, lM, PH.Le.refl _, ?_⟩; conv => whnf) | (refine And.intro ⟨by decide, by decide, by omega⟩ ?_; conv => whnf) | (refine caseB_true ?_; conv => whnf) | (refine caseB_false ?_; conv => whnf) | ((with_reducible refine caseB_dec (fun h => ?_) (fun h => ?_)) <;> conv => whnf) | ((with_reducible refine caseB_ndec (fun h => ?_) (fun h => ?_)) <;> conv => whnf) | ((with_reducible refine caseB_not (fun h => ?_) (fun h => ?_)) <;> conv => whnf) | (refine draw_ruleJ (none) (.light 1 <| .light 2 <| .alt 0 false (.alt 3 false (.light 4 <| .light 5 <| .done) .nil) .nil) (by decide +kernel) (lr) ?_; conv => whnf) | (refine Ret.go (indexM_ret (some ⟨_, 0, none⟩) 12 monL (t.extract 8 11) _ (by assumption) (by decide)) ?_; conv => whnf) | (with_reducible refine @And.intro (guardVC _ _ _ _ _) _ ?_ ?_) <;> conv => whnf | (refine caseB_intro (fun h => ?_) (fun h => ?_) <;> (try simp only [Bool.not_eq_true', Bool.not_eq_false', decide_eq_true_eq, decide_eq_false_iff_not] at h) <;> conv => whnf))
  have hL1 := hL.mono lM
  have hda : ∀ a b : Nat, a ≤ b → b ≤ 29 → Ret 178 [Tx t, I a, I b] M1 (I (dgI (t.extract a b))) := fun a b h1 h2 => digitsAt_ret t a b h1 (by omega) (by omega) M1 hL1
  rw [hix]
  refine Ret.go (hda 12 16 (by omega) (by omega)) ?_
  conv => whnf
  refine Ret.go (hda 5 7 (by omega) (by omega)) ?_
  conv => whnf
  refine Ret.go (hda 17 19 (by omega) (by omega)) ?_
  conv => whnf
  refine Ret.go (hda 20 22 (by omega) (by omega)) ?_
  conv => whnf
  refine Ret.go (hda 23 25 (by omega) (by omega)) ?_
  conv => whnf
  have hg : goodP dgI t (mIdx t) = (dtOk (flds dgI t (mIdx t)) && seq (fmtS (secsF (flds dgI t (mIdx t)))) t) := rfl
  have hge := good_eq t (mIdx t)
  refine Ret.go (dateFault_impl (flds dgI t (mIdx t)) _) ?_
  by_cases hok : dtOk (flds dgI t (mIdx t)) = true
  · have e0 : dtC (flds dgI t (mIdx t)) = 0 := if_pos hok
    have hsb := secs_bound hok
    rw [e0]
    conv => whnf
    refine caseB_ndec (fun hx => absurd rfl hx) (fun _ => ?_)
    conv => whnf
    refine Ret.go (secondsOf_ret (flds dgI t (mIdx t)) hok _) ?_
    conv => whnf
    refine Ret.go (fmtS_impl _ hsb.1 hsb.2 _ hL1) ?_
    conv => whnf
    refine caseB_not (fun hs => ?_) (fun hs => ?_)
    · have hs : seq (fmtS (secsF (flds dgI t (mIdx t)))) t = false := hs
      conv => whnf
      exact ⟨_, PH.Le.refl _, bad (dateV_bad (by rintro ⟨_, e⟩; rw [← hge, hg, hs, Bool.and_false] at e; cases e)), lM⟩
    · have hs : seq (fmtS (secsF (flds dgI t (mIdx t)))) t = true := hs
      have hgt : goodP dgI t (mIdx t) = true := by rw [hg, hok, hs]; rfl
      have hfe := good_flds hgt
      have hv : dateV t = secsF (flds dgI t (mIdx t)) := by
        unfold dateV
        rw [if_pos ⟨h29, by rw [← hge]; exact hgt⟩, hfe]
      conv => whnf
      refine ⟨_, PH.Le.refl _, ?_, lM⟩
      rw [hv, if_neg (by omega)]
      have hm0 : max0 (secsF (flds dgI t (mIdx t))) = secsF (flds dgI t (mIdx t)) := by unfold max0; split <;> omega
      rw [hm0]
      rfl
  · have e0 : dtC (flds dgI t (mIdx t)) = 3 := if_neg hok
    rw [e0]
    conv => whnf
    refine caseB_ndec (fun _ => ?_) (fun hx => absurd hx (by decide))
    conv => whnf
    exact ⟨_, PH.Le.refl _, bad (dateV_bad (by rintro ⟨_, e⟩; rw [← hge, hg] at e; rw [Bool.and_eq_true] at e; exact hok e.1)), lM⟩
theorem l3Number_ret (t : ByteArray) (a n : Nat) (h : a + n ≤ t.size) (ht : t.size ≤ 1048576) (M : PH) : Ret 151 [Tx t, I a, I n] M (I (deltaV (t.extract a (a + n)))) := by
  have w : IntKind.i64.wrap ((a : Int) + (n : Int)) = ((a + n : Nat) : Int) := by rw [wi (by omega) (by omega)]; omega
  have hz : (t.extract a (a + n)).size ≤ maxLen := by rw [ByteArray.size_extract]; unfold maxLen; omega
  refine xcall_of_vc Tryz.func151 rfl _ Tryz.ntmps151 _ rfl (fun _ _ => Tryz.call151 _ _) rfl (fun w0 ρ0 => ?_)
  conv => whnf
  rw [w]
  refine And.intro ⟨by omega, by omega, by omega⟩ ?_
  conv => whnf
  refine Ret.go (l1Delta_ret (t.extract a (a + n)) hz _) ?_
  conv => whnf
  exact ⟨_, PH.Le.refl _, rfl, rfl⟩
abbrev dtB (x : Dt) : Box := ⟨170, [.v (I x.y), .v (I x.m), .v (I x.d), .v (I x.h), .v (I x.mi), .v (I x.s)]⟩
set_option maxHeartbeats 4000000 in
theorem l3Parse_ret (t : ByteArray) (ht : t.size ≤ 1048576) (M : PH) : Ret 119 [Tx t] M (I (dateV t)) := by
  have hmi := mIdx_in t
  refine xcall_of_vc Tryz.func119 rfl _ Tryz.ntmps119 _ rfl (fun _ _ => Tryz.call119 _ _) rfl (fun w0 ρ0 => ?_)
  conv => whnf
  refine caseB_ndec (fun h => ?_) (fun h => ?_)
  · conv => whnf
    have h : ¬ (t.size : Int) = 29 := h
    exact ⟨_, PH.Le.refl _, by rw [dateV_bad (by rintro ⟨e, _⟩; omega)]; rfl, rfl⟩
  have h : (t.size : Int) = 29 := h
  have h29 : t.size = 29 := by omega
  have a2 : monA12.size = 36 := rfl
  have hnum : ∀ a n : Nat, a + n ≤ 29 → Ret 151 [Tx t, I a, I n] M (I (deltaV (t.extract a (a + n)))) := fun a n h1 => l3Number_ret t a n (by omega) (by omega) M
  conv => whnf
  refine loop_rule (fun m : Int => ⟨slots 47 [(0, .v (Tx t)), (2, .v (I 0)), (3, .v (Tx monA12)), (4, .v (I m))], []⟩) (fun m M1 => (1 ≤ m ∧ m ≤ 13) ∧ (∀ k : Int, 1 ≤ k → k < m → seq (t.extract 8 11) (monT k) = true → goodP deltaV t k = false) ∧ M1 = M) (fun m => (13 - m).toNat) 1 ?_ ?_ ?_
  · exact ⟨by simp [slots, leT, monA12], ⟨[], rfl⟩, Nat.zero_le _, rfl, rfl⟩
  · exact ⟨⟨by omega, by omega⟩, fun k h1 h2 => absurd h2 (by omega), rfl⟩
  rintro m M1 ⟨hm, hq, rfl⟩
  conv => whnf
  refine caseB_dec (fun hb => ?_) (fun hb => ?_)
  · have hb : m ≤ 12 := hb
    have w1 : IntKind.i64.wrap (3 * m) = 3 * m := wi (by omega) (by omega)
    have w2 : IntKind.i64.wrap (3 * m - 3) = 3 * m - 3 := wi (by omega) (by omega)
    have w3 : IntKind.i64.wrap (m + 1) = m + 1 := wi (by omega) (by omega)
    have hE : monA12.extract (IntKind.i64.wrap (IntKind.i64.wrap (3 * m) - 3)).toNat (IntKind.i64.wrap (3 * m)).toNat = monT m := by rw [w1, w2]; exact monA_ext ⟨hm.1, hb⟩
    have next : ∀ (hq2 : seq (t.extract 8 11) (monT m) = true → goodP deltaV t m = false), ∀ k : Int, 1 ≤ k → k < m + 1 → seq (t.extract 8 11) (monT k) = true → goodP deltaV t k = false := fun hq2 k h1 h2 h3 => by
      by_cases e : k = m
      · subst e; exact hq2 h3
      · exact hq k h1 (by omega) h3
    have lr := PH.Le.refl M1
    conv => whnf
    repeat' (first | (refine ⟨⟨[], rfl⟩, _, PH.Le.refl _, bot_le _, ?_⟩; conv => whnf) | (refine ⟨⟨_, rfl⟩, _, PH.Le.refl _, bot_le _, ?_⟩; conv => whnf) | (refine ⟨⟨_, rfl⟩, _, PH.Le.refl _, lr, ?_⟩; conv => whnf) | (refine And.intro ⟨by rw [w1, w2]; omega, by rw [w1, w2]; omega, by rw [w1]; rw [a2]; omega⟩ ?_; conv => whnf) | (refine And.intro ⟨by decide, by decide, by omega⟩ ?_; conv => whnf) | (refine caseB_true ?_; conv => whnf) | (refine caseB_false ?_; conv => whnf) | ((with_reducible refine caseB_dec (fun h => ?_) (fun h => ?_)) <;> conv => whnf) | ((with_reducible refine caseB_ndec (fun h => ?_) (fun h => ?_)) <;> conv => whnf) | ((with_reducible refine caseB_not (fun h => ?_) (fun h => ?_)) <;> conv => whnf) | (refine draw_ruleJ (none) (.light 0 <| .light 1 <| .light 2 <| .light 3 <| .light 4 <| .light 5 <| .light 6 <| .light 7 <| .light 8 <| .light 9 <| .done) (by decide +kernel) (lr) ?_; conv => whnf) | (with_reducible refine @And.intro (guardVC _ _ _ _ _) _ ?_ ?_) <;> conv => whnf | (refine caseB_intro (fun h => ?_) (fun h => ?_) <;> (try simp only [Bool.not_eq_true', Bool.not_eq_false', decide_eq_true_eq, decide_eq_false_iff_not] at h) <;> conv => whnf))
    · rw [hE] at h
      have h : seq (t.extract 8 11) (monT m) = false := h
      exact ⟨m + 1, ⟨by simp only [slots, leT]; rw [w3]; simp [leT], ⟨[], rfl⟩, Nat.zero_le _, rfl, rfl⟩, ⟨⟨by omega, by omega⟩, next (fun e => by rw [h] at e; cases e), rfl⟩, by omega⟩
    rw [hE] at h
    have h : seq (t.extract 8 11) (monT m) = true := h
    have hmx := mIdx_of ⟨hm.1, hb⟩ h
    refine Ret.go (hnum 12 4 (by omega)) ?_
    conv => whnf
    refine Ret.go (hnum 5 2 (by omega)) ?_
    conv => whnf
    refine Ret.go (hnum 17 2 (by omega)) ?_
    conv => whnf
    refine Ret.go (hnum 20 2 (by omega)) ?_
    conv => whnf
    refine Ret.go (hnum 23 2 (by omega)) ?_
    conv => whnf
    have hg : goodP deltaV t m = (dtOk (flds deltaV t m) && seq (fmtS (secsF (flds deltaV t m))) t) := rfl
    refine Ret.go (dateFault_spec (flds deltaV t m) _) ?_
    by_cases hok : dtOk (flds deltaV t m) = true
    · have e0 : dtC (flds deltaV t m) = 0 := if_pos hok
      have hsb := secs_bound hok
      rw [e0]
      have hsec := l3Seconds_ret (flds deltaV t m) hok M1
      have hfm := fmtS_spec (secsF (flds deltaV t m)) hsb.1 hsb.2 M1
      conv => whnf
      refine caseB_dec (fun _ => ?_) (fun hx => absurd rfl hx)
      conv => whnf
      repeat' (first | (refine ⟨⟨[], rfl⟩, _, PH.Le.refl _, PH.Le.refl _, ?_⟩; conv => whnf) | (refine caseB_true ?_; conv => whnf) | (refine caseB_false ?_; conv => whnf) | ((with_reducible refine caseB_dec (fun h => ?_) (fun h => ?_)) <;> conv => whnf) | ((with_reducible refine caseB_ndec (fun h => ?_) (fun h => ?_)) <;> conv => whnf) | ((with_reducible refine caseB_not (fun h => ?_) (fun h => ?_)) <;> conv => whnf) | (refine Ret.go (hsec) ?_; conv => whnf) | (refine Ret.go (hfm) ?_; conv => whnf) | (with_reducible refine @And.intro (guardVC _ _ _ _ _) _ ?_ ?_) <;> conv => whnf | (refine caseB_intro (fun h => ?_) (fun h => ?_) <;> (try simp only [Bool.not_eq_true', Bool.not_eq_false', decide_eq_true_eq, decide_eq_false_iff_not] at h) <;> conv => whnf))
      · have hgt : goodP deltaV t m = true := by rw [hg, hok, h]; rfl
        refine ⟨_, PH.Le.refl _, ?_, rfl⟩
        unfold dateV
        rw [hmx, if_pos ⟨h29, hgt⟩]
        rfl
      · have hgf : goodP deltaV t m = false := by rw [hg, h, Bool.and_false]
        exact ⟨m + 1, ⟨by simp only [slots, leT]; rw [w3]; simp [leT], ⟨[_], rfl⟩, Nat.zero_le _, rfl, rfl⟩, ⟨⟨by omega, by omega⟩, next (fun _ => hgf), rfl⟩, by omega⟩
    · have e0 : dtC (flds deltaV t m) = 3 := if_neg hok
      rw [e0]
      conv => whnf
      refine caseB_dec (fun hx => absurd hx (by decide)) (fun _ => ?_)
      conv => whnf
      repeat' (first | (refine ⟨⟨[], rfl⟩, _, PH.Le.refl _, PH.Le.refl _, ?_⟩; conv => whnf) | (refine caseB_true ?_; conv => whnf) | (refine caseB_false ?_; conv => whnf) | ((with_reducible refine caseB_dec (fun h => ?_) (fun h => ?_)) <;> conv => whnf) | ((with_reducible refine caseB_ndec (fun h => ?_) (fun h => ?_)) <;> conv => whnf) | ((with_reducible refine caseB_not (fun h => ?_) (fun h => ?_)) <;> conv => whnf) | (with_reducible refine @And.intro (guardVC _ _ _ _ _) _ ?_ ?_) <;> conv => whnf | (refine caseB_intro (fun h => ?_) (fun h => ?_) <;> (try simp only [Bool.not_eq_true', Bool.not_eq_false', decide_eq_true_eq, decide_eq_false_iff_not] at h) <;> conv => whnf))
      have hgf : goodP deltaV t m = false := by
        rw [hg, show dtOk (flds deltaV t m) = false by simpa using hok]
        rfl
      exact ⟨m + 1, ⟨by simp only [slots, leT]; rw [w3]; simp [leT], ⟨[_], rfl⟩, Nat.zero_le _, rfl, rfl⟩, ⟨⟨by omega, by omega⟩, next (fun _ => hgf), rfl⟩, by omega⟩
  · have hb : ¬ m ≤ 12 := hb
    have e13 : m = 13 := by omega
    subst e13
    conv => whnf
    refine ⟨_, PH.Le.refl _, ?_, rfl⟩
    rw [dateV_bad]
    · rfl
    rintro ⟨_, hg⟩
    have h1 : 1 ≤ mIdx t := by
      unfold goodP at hg
      rw [Bool.and_eq_true] at hg
      exact (day_in (dt_in hg.1).1).2.1.1
    rw [hq (mIdx t) h1 (by omega) (mIdx_at h1)] at hg
    cases hg
end Go.Proofs.YtdgipmlkkmmliaaGreatDoor
