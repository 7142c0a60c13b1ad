/-
  THE POLICY of head lines, by both.
-/
import Derived.Test.YtdgipmlkkmmliaaGreatDoorRi
import Derived.Test.YtdgipmlkkmmliaaGreatDoorRj
namespace Go.Proofs.YtdgipmlkkmmliaaGreatDoor
set_option maxRecDepth 100000
set_option linter.unusedSimpArgs false
set_option linter.unusedVariables false
open Go.Xe
abbrev ccU : ByteArray := ⟨#[67, 97, 99, 104, 101, 45, 67, 111, 110, 116, 114, 111, 108]⟩
abbrev ccL : ByteArray := ⟨#[99, 97, 99, 104, 101, 45, 99, 111, 110, 116, 114, 111, 108]⟩
abbrev ageU : ByteArray := ⟨#[65, 103, 101]⟩
abbrev ageL : ByteArray := ⟨#[97, 103, 101]⟩
abbrev nsB : ByteArray := ⟨#[110, 111, 45, 115, 116, 111, 114, 101]⟩
abbrev prB : ByteArray := ⟨#[112, 114, 105, 118, 97, 116, 101]⟩
abbrev ncB : ByteArray := ⟨#[110, 111, 45, 99, 97, 99, 104, 101]⟩
abbrev mrB : ByteArray := ⟨#[109, 117, 115, 116, 45, 114, 101, 118, 97, 108, 105, 100, 97, 116, 101]⟩
abbrev pvB : ByteArray := ⟨#[112, 114, 111, 120, 121, 45, 114, 101, 118, 97, 108, 105, 100, 97, 116, 101]⟩
abbrev smB : ByteArray := ⟨#[115, 45, 109, 97, 120, 97, 103, 101]⟩
abbrev maB : ByteArray := ⟨#[109, 97, 120, 45, 97, 103, 101]⟩
abbrev swB : ByteArray := ⟨#[115, 116, 97, 108, 101, 45, 119, 104, 105, 108, 101, 45, 114, 101, 118, 97, 108, 105, 100, 97, 116, 101]⟩
abbrev seB : ByteArray := ⟨#[115, 116, 97, 108, 101, 45, 105, 102, 45, 101, 114, 114, 111, 114]⟩
theorem cc_eq (ws : List Hd) : vals ws ccU = vals ws ccL := by
  have : lowerB ccU = lowerB ccL := by decide +kernel
  unfold vals alikeT
  rw [this]
theorem age_eq (ws : List Hd) : vals ws ageU = vals ws ageL := by
  have : lowerB ageU = lowerB ageL := by decide +kernel
  unfold vals alikeT
  rw [this]
/-- Texts are laid down. -/
theorem layW {M : PH} {g' : Nat} {t : TypeId} {cs : List Value} (xs : List ByteArray) (hcs : cs = xs.flatMap stC) (hg' : M g' = none) :
    ∃ M', M' = M.set g' (.cells cs.toArray t (0, 0)) ∧ M.Le M' ∧ Sl M' (some ⟨g', 0, none⟩) 1 stC xs := by
  subst hcs
  exact ⟨_, rfl, PH.Le.set _ hg', sl_full (f := stC) (fun _ => rfl) M g' xs t (0, 0)⟩
structure Pol where
  ns : Bool
  nc : Bool
  mu : Bool
  life : Int
  swr : Int
  sie : Int
  age : Int
abbrev Pol.val (p : Pol) : Value := .agg #[B p.ns, B p.nc, B p.mu, I p.life, I p.swr, I p.sie, I p.age]
abbrev Pol.box (p : Pol) : Box := ⟨25, [.v (B p.ns), .v (B p.nc), .v (B p.mu), .v (I p.life), .v (I p.swr), .v (I p.sie), .v (I p.age)]⟩
def mustI (xs : List It) : Bool := hasI xs mrB || (hasI xs pvB || hasI xs smB)
def polK (k : Int) (xs : List It) (lf age : Int) : Pol :=
  ⟨decide (¬ k = 0) || (hasI xs nsB || hasI xs prB), hasI xs ncB, mustI xs, if k = 0 then (if hasI xs smB = true then spanV xs smB else if hasI xs maB = true then spanV xs maB else lf) else 0,
    if mustI xs = true then 0 else spanV xs swB, if mustI xs = true then 0 else spanV xs seB, age⟩
noncomputable def polV (ws : List Hd) : Pol := polK (parC (jn (vals ws ccL))) (parR (jn (vals ws ccL))) (lifeE ws) (1000 * max0 (deltaV (firstV (vals ws ageL))))
theorem polK_at {xs : List It} (lf age : Int) (mu : Bool) (h1 : mustI xs = mu) (sm : Bool) (h2 : hasI xs smB = sm) (ma : Bool) (h3 : hasI xs maB = ma) : (polK 0 xs lf age).val = .agg #[B (hasI xs nsB || hasI xs prB), B (hasI xs ncB), B mu, I (if sm = true then spanV xs smB else if ma = true then spanV xs maB else lf), I (if mu = true then 0 else spanV xs swB), I (if mu = true then 0 else spanV xs seB), I age] := by
  subst h1; subst h2; subst h3
  rfl
theorem hasI_nil (n : ByteArray) : hasI [] n = false := rfl
theorem spanV_nil (n : ByteArray) : spanV [] n = 0 := rfl
theorem parR_bad {t : ByteArray} (h : ¬ parC t = 0) : parR t = [] := if_neg h
theorem polK_bad {k : Int} (lf age : Int) (h : ¬ k = 0) : (polK k [] lf age).val = .agg #[B true, B false, B false, I 0, I 0, I 0, I age] := by
  unfold polK
  rw [decide_eq_true h, if_neg h]
  rfl
theorem age_none {ws : List Hd} {nm : ByteArray} (h : (vals ws nm).isEmpty = true) : 1000 * max0 (deltaV (firstV (vals ws nm))) = 0 := by
  have e : vals ws nm = [] := by simpa using h
  rw [e]
  decide +kernel
set_option maxHeartbeats 16000000 in
theorem policyOf_ret (A : Option Addr) (c : Nat) (ws : List Hd) (M : PH) (hL : Lw M) (hs : Sl M A 2 Hd.cs ws) (hco : costL Hd.cost ws ≤ 1048576) : Ret 35 [.slice A ws.length c] M (polV ws).val := by
  have hn := Nat.le_trans (costL_len Hd.cost ws) hco
  have ho := hd_okl hco
  have hj := joinHeader_ret A c ws ccU M hs hco ho (by decide +kernel)
  rw [cc_eq] at hj
  have hp := parseItems_impl (jn (vals ws ccL)) M
  have hit := parR_its (jn (vals ws ccL))
  have hbad := parR_bad (t := jn (vals ws ccL))
  have hfv : ∀ N, M.Le N → Ret 52 [.slice A ws.length c, Tx ageU] N (.tuple #[Tx (firstV (vals ws ageL)), B (!(vals ws ageL).isEmpty)]) := fun N l => by
    have := firstValue_ret A c ws ageU N (hs.mono l) hn ho (by decide +kernel)
    rw [age_eq] at this
    exact this
  have hag := firstV_le ws ageL hco
  have hex : ∀ N, M.Le N → Ret 84 [.slice A ws.length c] N (I (lifeE ws)) := fun N l => expiryOf_ret A c ws N (hL.mono l) (hs.mono l) hco
  have hm0 := max0_in (deltaV (firstV (vals ws ageL))) (deltaV_in _).2
  have hdo := fun N => deltaOf_ret (firstV (vals ws ageL)) (by unfold maxLen; omega) N
  have wage : IntKind.i64.wrap (1000 * max0 (deltaV (firstV (vals ws ageL)))) = 1000 * max0 (deltaV (firstV (vals ws ageL))) := wi (by omega) (by omega)
  have e0 : polV ws = polK (parC (jn (vals ws ccL))) (parR (jn (vals ws ccL))) (lifeE ws) (1000 * max0 (deltaV (firstV (vals ws ageL)))) := rfl
  rw [e0]
  clear e0
  generalize lifeE ws = lf at *
  generalize firstV (vals ws ageL) = ag at *
  generalize (vals ws ageL).isEmpty = em at *
  generalize parR (jn (vals ws ccL)) = xs at *
  generalize parC (jn (vals ws ccL)) = k at *
  generalize jn (vals ws ccL) = jt at *
  refine Ret.of ?_
  refine xcall_of_vc Tryz.func35 rfl _ Tryz.ntmps35 _ rfl (fun _ _ => Tryz.call35 _ _) rfl (fun w0 ρ0 => ?_)
  conv => whnf
  refine Ret.go hj ?_
  conv => whnf
  refine ACall.step hp fun r M1 hh => ?_
  obtain ⟨o1, A1, c1, rfl, N1⟩ := hh
  have l1 := N1.le
  have S1 := N1.ow.sl It.len
  have hx := hit
  clear hp N1 hj
  have hsp : ∀ N nm, M1.Le N → nm.size ≤ maxLen → Ret 83 [.slice A1 xs.length c1, Tx nm] N (I (spanV xs nm)) := fun N nm l hz => spanOf_ret A1 c1 xs nm N (S1.mono l) hx hz
  have hH : ∀ N ns A' c', M1.Le N → Sl N A' 1 stC ns → ns.length ≤ 100 → (∀ n ∈ ns, n.size ≤ maxLen) → Ret 82 [.slice A1 xs.length c1, .slice A' ns.length c'] N (B (ns.any (hasI xs))) := fun N ns A' c' l h1 h2 h3 => hasItem_ret A1 A' c1 c' xs ns N (S1.mono l) hx h1 h2 h3
  conv => whnf
  by_cases hk : k = 0
  · subst hk
    repeat' (first | (refine ⟨⟨[], rfl⟩, _, PH.Le.refl _, PH.Le.refl _, ?_⟩; conv => whnf) | (intro g' hg'; obtain ⟨M', hM, l', s'⟩ := layW (cs := [Tx maB]) (t := 9) [maB] rfl hg'; rw [← hM]; clear hM; conv => whnf) | (intro g' hg'; obtain ⟨M', hM, l', s'⟩ := layW (cs := [Tx smB]) (t := 9) [smB] rfl hg'; rw [← hM]; clear hM; conv => whnf) | (intro g' hg'; obtain ⟨M', hM, l', s'⟩ := layW (cs := [Tx mrB, Tx pvB, Tx smB]) (t := 9) [mrB, pvB, smB] rfl hg'; rw [← hM]; clear hM; conv => whnf) | (intro g' hg'; obtain ⟨M', hM, l', s'⟩ := layW (cs := [Tx ncB]) (t := 9) [ncB] rfl hg'; rw [← hM]; clear hM; conv => whnf) | (intro g' hg'; obtain ⟨M', hM, l', s'⟩ := layW (cs := [Tx nsB, Tx prB]) (t := 9) [nsB, prB] rfl hg'; rw [← hM]; clear hM; conv => whnf) | (refine caseB_true ?_; conv => whnf) | (refine caseB_false ?_; conv => whnf) | ((with_reducible refine caseB_dec (fun h => ?_) (fun h => ?_)) <;> conv => whnf) | ((with_reducible refine caseB_ndec (fun h => ?_) (fun h => ?_)) <;> conv => whnf) | ((with_reducible refine caseB_not (fun h => ?_) (fun h => ?_)) <;> conv => whnf) | (refine Ret.go (hsp _ _ (by repeat (first | exact PH.Le.refl _ | assumption | (apply PH.Le.trans; · assumption))) (by decide)) ?_; conv => whnf) | (refine Ret.go (hfv _ (by repeat (first | exact PH.Le.refl _ | assumption | (apply PH.Le.trans; · assumption)))) ?_; conv => whnf) | (refine Ret.go (hex _ (by repeat (first | exact PH.Le.refl _ | assumption | (apply PH.Le.trans; · assumption)))) ?_; conv => whnf) | (refine Ret.go (hdo _) ?_; conv => whnf) | (refine Ret.go (hH _ [nsB, prB] _ _ (by repeat (first | exact PH.Le.refl _ | assumption | (apply PH.Le.trans; · assumption))) (by assumption) (by decide) (by decide +kernel)) ?_; conv => whnf) | (refine Ret.go (hH _ [ncB] _ _ (by repeat (first | exact PH.Le.refl _ | assumption | (apply PH.Le.trans; · assumption))) (by assumption) (by decide) (by decide +kernel)) ?_; conv => whnf) | (refine Ret.go (hH _ [mrB, pvB, smB] _ _ (by repeat (first | exact PH.Le.refl _ | assumption | (apply PH.Le.trans; · assumption))) (by assumption) (by decide) (by decide +kernel)) ?_; conv => whnf) | (refine Ret.go (hH _ [smB] _ _ (by repeat (first | exact PH.Le.refl _ | assumption | (apply PH.Le.trans; · assumption))) (by assumption) (by decide) (by decide +kernel)) ?_; conv => whnf) | (refine Ret.go (hH _ [maB] _ _ (by repeat (first | exact PH.Le.refl _ | assumption | (apply PH.Le.trans; · assumption))) (by assumption) (by decide) (by decide +kernel)) ?_; conv => whnf) | (with_reducible refine @And.intro (guardVC _ _ _ _ _) _ ?_ ?_) <;> conv => whnf | (refine caseB_intro (fun h => ?_) (fun h => ?_) <;> (try simp only [Bool.not_eq_true', Bool.not_eq_false', decide_eq_true_eq, decide_eq_false_iff_not] at h) <;> conv => whnf))
    all_goals refine ⟨_, PH.Le.refl _, ?_, l1.trans (by repeat (first | exact PH.Le.refl _ | assumption | (apply PH.Le.trans; · assumption)))⟩
    all_goals clear hsp hH hex hdo hfv hs hL ho S1 hx hit hbad
    all_goals simp only [List.any_cons, List.any_nil, Bool.or_false] at *
    all_goals first
      | (exfalso; simp_all; done)
      | skip
    all_goals rw [wage, h]
    all_goals first
      | exact (polK_at lf _ true h true (by assumption) _ rfl).symm
      | exact (polK_at lf _ true h false (by assumption) true (by assumption)).symm
      | exact (polK_at lf _ true h false (by assumption) false (by assumption)).symm
      | exact (polK_at lf _ false h false (by assumption) true (by assumption)).symm
      | exact (polK_at lf _ false h false (by assumption) false (by assumption)).symm
  · obtain rfl := hbad hk
    repeat' (first | (refine ⟨⟨[], rfl⟩, _, PH.Le.refl _, PH.Le.refl _, ?_⟩; conv => whnf) | (intro g' hg'; obtain ⟨M', hM, l', s'⟩ := layW (cs := [Tx maB]) (t := 9) [maB] rfl hg'; rw [← hM]; clear hM; conv => whnf) | (intro g' hg'; obtain ⟨M', hM, l', s'⟩ := layW (cs := [Tx smB]) (t := 9) [smB] rfl hg'; rw [← hM]; clear hM; conv => whnf) | (intro g' hg'; obtain ⟨M', hM, l', s'⟩ := layW (cs := [Tx mrB, Tx pvB, Tx smB]) (t := 9) [mrB, pvB, smB] rfl hg'; rw [← hM]; clear hM; conv => whnf) | (intro g' hg'; obtain ⟨M', hM, l', s'⟩ := layW (cs := [Tx ncB]) (t := 9) [ncB] rfl hg'; rw [← hM]; clear hM; conv => whnf) | (intro g' hg'; obtain ⟨M', hM, l', s'⟩ := layW (cs := [Tx nsB, Tx prB]) (t := 9) [nsB, prB] rfl hg'; rw [← hM]; clear hM; conv => whnf) | (refine caseB_true ?_; conv => whnf) | (refine caseB_false ?_; conv => whnf) | ((with_reducible refine caseB_dec (fun h => ?_) (fun h => ?_)) <;> conv => whnf) | ((with_reducible refine caseB_ndec (fun h => ?_) (fun h => ?_)) <;> conv => whnf) | ((with_reducible refine caseB_not (fun h => ?_) (fun h => ?_)) <;> conv => whnf) | (refine Ret.go (hsp _ _ (by repeat (first | exact PH.Le.refl _ | assumption | (apply PH.Le.trans; · assumption))) (by decide)) ?_; conv => whnf) | (refine Ret.go (hfv _ (by repeat (first | exact PH.Le.refl _ | assumption | (apply PH.Le.trans; · assumption)))) ?_; conv => whnf) | (refine Ret.go (hex _ (by repeat (first | exact PH.Le.refl _ | assumption | (apply PH.Le.trans; · assumption)))) ?_; conv => whnf) | (refine Ret.go (hdo _) ?_; conv => whnf) | (refine Ret.go (hH _ [nsB, prB] _ _ (by repeat (first | exact PH.Le.refl _ | assumption | (apply PH.Le.trans; · assumption))) (by assumption) (by decide) (by decide +kernel)) ?_; conv => whnf) | (refine Ret.go (hH _ [ncB] _ _ (by repeat (first | exact PH.Le.refl _ | assumption | (apply PH.Le.trans; · assumption))) (by assumption) (by decide) (by decide +kernel)) ?_; conv => whnf) | (refine Ret.go (hH _ [mrB, pvB, smB] _ _ (by repeat (first | exact PH.Le.refl _ | assumption | (apply PH.Le.trans; · assumption))) (by assumption) (by decide) (by decide +kernel)) ?_; conv => whnf) | (refine Ret.go (hH _ [smB] _ _ (by repeat (first | exact PH.Le.refl _ | assumption | (apply PH.Le.trans; · assumption))) (by assumption) (by decide) (by decide +kernel)) ?_; conv => whnf) | (refine Ret.go (hH _ [maB] _ _ (by repeat (first | exact PH.Le.refl _ | assumption | (apply PH.Le.trans; · assumption))) (by assumption) (by decide) (by decide +kernel)) ?_; conv => whnf) | (with_reducible refine @And.intro (guardVC _ _ _ _ _) _ ?_ ?_) <;> conv => whnf | (refine caseB_intro (fun h => ?_) (fun h => ?_) <;> (try simp only [Bool.not_eq_true', Bool.not_eq_false', decide_eq_true_eq, decide_eq_false_iff_not] at h) <;> conv => whnf))
    all_goals first
      | (exfalso; contradiction)
      | skip
    all_goals refine ⟨_, PH.Le.refl _, ?_, l1.trans (by repeat (first | exact PH.Le.refl _ | assumption | (apply PH.Le.trans; · assumption)))⟩
    all_goals rw [wage, polK_bad lf _ hk]
    all_goals rfl
set_option maxHeartbeats 16000000 in
theorem l6Policy_ret (A : Option Addr) (c : Nat) (ws : List Hd) (M : PH) (hs : Sl M A 2 Hd.cs ws) (hco : costL Hd.cost ws ≤ 1048576) : Ret 32 [.slice A ws.length c] M (polV ws).val := by
  have hn := Nat.le_trans (costL_len Hd.cost ws) hco
  have ho := hd_okl hco
  have hp := l6Items_ret A c ws ccL M hs hco ho (by decide +kernel)
  have hit := parR_its (jn (vals ws ccL))
  have hbad := parR_bad (t := jn (vals ws ccL))
  have hfv := l6First_ret A c ws ageL M hs hn ho (by decide +kernel)
  have hag := firstV_le ws ageL hco
  have hex : ∀ N, M.Le N → Ret 80 [.slice A ws.length c] N (I (lifeE ws)) := fun N l => l6Expires_ret A c ws N (hs.mono l) hco
  have hm0 := max0_in (deltaV (firstV (vals ws ageL))) (deltaV_in _).2
  have hdo := fun N => l1Delta_ret (firstV (vals ws ageL)) (by unfold maxLen; omega) N
  have hmx := fun N => l1Max_ret (deltaV (firstV (vals ws ageL))) N
  have wage : IntKind.i64.wrap (max0 (deltaV (firstV (vals ws ageL))) * 1000) = 1000 * max0 (deltaV (firstV (vals ws ageL))) := by rw [wi (by omega) (by omega)]; omega
  have hem := age_none (ws := ws) (nm := ageL)
  have e0 : polV ws = polK (parC (jn (vals ws ccL))) (parR (jn (vals ws ccL))) (lifeE ws) (1000 * max0 (deltaV (firstV (vals ws ageL)))) := rfl
  rw [e0]
  clear e0
  generalize lifeE ws = lf at *
  generalize firstV (vals ws ageL) = ag at *
  generalize (vals ws ageL).isEmpty = em at *
  generalize parR (jn (vals ws ccL)) = xs at *
  generalize parC (jn (vals ws ccL)) = k at *
  generalize hv : 1000 * max0 (deltaV ag) = av at *
  refine Ret.of ?_
  refine xcall_of_vc Tryz.func32 rfl _ Tryz.ntmps32 _ rfl (fun _ _ => Tryz.call32 _ _) rfl (fun w0 ρ0 => ?_)
  conv => whnf
  cases em with
  | true =>
    have hem := hem rfl
    subst hem
    repeat' (first | (refine ⟨⟨[], rfl⟩, _, PH.Le.refl _, PH.Le.refl _, ?_⟩; conv => whnf) | (refine caseB_true ?_; conv => whnf) | (refine caseB_false ?_; conv => whnf) | ((with_reducible refine caseB_dec (fun h => ?_) (fun h => ?_)) <;> conv => whnf) | ((with_reducible refine caseB_ndec (fun h => ?_) (fun h => ?_)) <;> conv => whnf) | ((with_reducible refine caseB_not (fun h => ?_) (fun h => ?_)) <;> conv => whnf) | (refine Ret.go (hfv) ?_; conv => whnf) | (with_reducible refine @And.intro (guardVC _ _ _ _ _) _ ?_ ?_) <;> conv => whnf | (refine caseB_intro (fun h => ?_) (fun h => ?_) <;> (try simp only [Bool.not_eq_true', Bool.not_eq_false', decide_eq_true_eq, decide_eq_false_iff_not] at h) <;> conv => whnf))
    refine ACall.step hp fun r M1 hh => ?_
    obtain ⟨A1, c1, rfl, S1, l1⟩ := hh
    have hx := hit
    clear hp
    have hsp : ∀ N nm, M1.Le N → nm.size ≤ maxLen → Ret 79 [.slice A1 xs.length c1, Tx nm] N (I (spanV xs nm)) := fun N nm l hz => l6Seconds_ret A1 c1 xs nm N (S1.mono l) hx hz
    have hH : ∀ N nm, M1.Le N → nm.size ≤ maxLen → Ret 78 [.slice A1 xs.length c1, Tx nm] N (B (hasI xs nm)) := fun N nm l hz => l6Has_ret A1 c1 xs nm N (S1.mono l) hx hz
    conv => whnf
    by_cases hk : k = 0
    · subst hk
      repeat' (first | (refine ⟨⟨[], rfl⟩, _, PH.Le.refl _, PH.Le.refl _, ?_⟩; conv => whnf) | (refine caseB_true ?_; conv => whnf) | (refine caseB_false ?_; conv => whnf) | ((with_reducible refine caseB_dec (fun h => ?_) (fun h => ?_)) <;> conv => whnf) | ((with_reducible refine caseB_ndec (fun h => ?_) (fun h => ?_)) <;> conv => whnf) | ((with_reducible refine caseB_not (fun h => ?_) (fun h => ?_)) <;> conv => whnf) | (refine Ret.go (hsp _ _ (by repeat (first | exact PH.Le.refl _ | assumption | (apply PH.Le.trans; · assumption))) (by decide)) ?_; conv => whnf) | (refine Ret.go (hH _ _ (by repeat (first | exact PH.Le.refl _ | assumption | (apply PH.Le.trans; · assumption))) (by decide)) ?_; conv => whnf) | (refine Ret.go (hex _ (by repeat (first | exact PH.Le.refl _ | assumption | (apply PH.Le.trans; · assumption)))) ?_; conv => whnf) | (with_reducible refine @And.intro (guardVC _ _ _ _ _) _ ?_ ?_) <;> conv => whnf | (refine caseB_intro (fun h => ?_) (fun h => ?_) <;> (try simp only [Bool.not_eq_true', Bool.not_eq_false', decide_eq_true_eq, decide_eq_false_iff_not] at h) <;> conv => whnf))
      all_goals refine ⟨_, PH.Le.refl _, ?_, l1⟩
      all_goals clear hsp hH hex hdo hfv hs ho S1 hx hit hbad hmx
      all_goals clear hm0 wage hag hco hn l1
      all_goals first
        | (simp [resV, polK, mustI, nsB, prB, ncB, mrB, pvB, smB, maB, swB, seB, *]; done)
        | (exfalso; simp_all; done)
    · obtain rfl := hbad hk
      repeat' (first | (refine ⟨⟨[], rfl⟩, _, PH.Le.refl _, PH.Le.refl _, ?_⟩; conv => whnf) | (refine caseB_true ?_; conv => whnf) | (refine caseB_false ?_; conv => whnf) | ((with_reducible refine caseB_dec (fun h => ?_) (fun h => ?_)) <;> conv => whnf) | ((with_reducible refine caseB_ndec (fun h => ?_) (fun h => ?_)) <;> conv => whnf) | ((with_reducible refine caseB_not (fun h => ?_) (fun h => ?_)) <;> conv => whnf) | (with_reducible refine @And.intro (guardVC _ _ _ _ _) _ ?_ ?_) <;> conv => whnf | (refine caseB_intro (fun h => ?_) (fun h => ?_) <;> (try simp only [Bool.not_eq_true', Bool.not_eq_false', decide_eq_true_eq, decide_eq_false_iff_not] at h) <;> conv => whnf))
      all_goals first
        | (exfalso; contradiction)
        | skip
      all_goals exact ⟨_, PH.Le.refl _, by rw [polK_bad lf _ hk]; rfl, l1⟩
  | false =>
    repeat' (first | (refine ⟨⟨[], rfl⟩, _, PH.Le.refl _, PH.Le.refl _, ?_⟩; conv => whnf) | (refine caseB_true ?_; conv => whnf) | (refine caseB_false ?_; conv => whnf) | ((with_reducible refine caseB_dec (fun h => ?_) (fun h => ?_)) <;> conv => whnf) | ((with_reducible refine caseB_ndec (fun h => ?_) (fun h => ?_)) <;> conv => whnf) | ((with_reducible refine caseB_not (fun h => ?_) (fun h => ?_)) <;> conv => whnf) | (refine Ret.go (hfv) ?_; conv => whnf) | (refine Ret.go (hdo _) ?_; conv => whnf) | (refine Ret.go (hmx _) ?_; conv => whnf) | (with_reducible refine @And.intro (guardVC _ _ _ _ _) _ ?_ ?_) <;> conv => whnf | (refine caseB_intro (fun h => ?_) (fun h => ?_) <;> (try simp only [Bool.not_eq_true', Bool.not_eq_false', decide_eq_true_eq, decide_eq_false_iff_not] at h) <;> conv => whnf))
    rw [wage]
    refine ACall.step hp fun r M1 hh => ?_
    obtain ⟨A1, c1, rfl, S1, l1⟩ := hh
    have hx := hit
    clear hp
    have hsp : ∀ N nm, M1.Le N → nm.size ≤ maxLen → Ret 79 [.slice A1 xs.length c1, Tx nm] N (I (spanV xs nm)) := fun N nm l hz => l6Seconds_ret A1 c1 xs nm N (S1.mono l) hx hz
    have hH : ∀ N nm, M1.Le N → nm.size ≤ maxLen → Ret 78 [.slice A1 xs.length c1, Tx nm] N (B (hasI xs nm)) := fun N nm l hz => l6Has_ret A1 c1 xs nm N (S1.mono l) hx hz
    conv => whnf
    by_cases hk : k = 0
    · subst hk
      repeat' (first | (refine ⟨⟨[], rfl⟩, _, PH.Le.refl _, PH.Le.refl _, ?_⟩; conv => whnf) | (refine caseB_true ?_; conv => whnf) | (refine caseB_false ?_; conv => whnf) | ((with_reducible refine caseB_dec (fun h => ?_) (fun h => ?_)) <;> conv => whnf) | ((with_reducible refine caseB_ndec (fun h => ?_) (fun h => ?_)) <;> conv => whnf) | ((with_reducible refine caseB_not (fun h => ?_) (fun h => ?_)) <;> conv => whnf) | (refine Ret.go (hsp _ _ (by repeat (first | exact PH.Le.refl _ | assumption | (apply PH.Le.trans; · assumption))) (by decide)) ?_; conv => whnf) | (refine Ret.go (hH _ _ (by repeat (first | exact PH.Le.refl _ | assumption | (apply PH.Le.trans; · assumption))) (by decide)) ?_; conv => whnf) | (refine Ret.go (hex _ (by repeat (first | exact PH.Le.refl _ | assumption | (apply PH.Le.trans; · assumption)))) ?_; conv => whnf) | (with_reducible refine @And.intro (guardVC _ _ _ _ _) _ ?_ ?_) <;> conv => whnf | (refine caseB_intro (fun h => ?_) (fun h => ?_) <;> (try simp only [Bool.not_eq_true', Bool.not_eq_false', decide_eq_true_eq, decide_eq_false_iff_not] at h) <;> conv => whnf))
      all_goals refine ⟨_, PH.Le.refl _, ?_, l1⟩
      all_goals clear hsp hH hex hdo hfv hs ho S1 hx hit hbad hmx
      all_goals clear hm0 wage hag hco hn l1
      all_goals first
        | (simp [resV, polK, mustI, nsB, prB, ncB, mrB, pvB, smB, maB, swB, seB, *]; done)
        | (exfalso; simp_all; done)
    · obtain rfl := hbad hk
      repeat' (first | (refine ⟨⟨[], rfl⟩, _, PH.Le.refl _, PH.Le.refl _, ?_⟩; conv => whnf) | (refine caseB_true ?_; conv => whnf) | (refine caseB_false ?_; conv => whnf) | ((with_reducible refine caseB_dec (fun h => ?_) (fun h => ?_)) <;> conv => whnf) | ((with_reducible refine caseB_ndec (fun h => ?_) (fun h => ?_)) <;> conv => whnf) | ((with_reducible refine caseB_not (fun h => ?_) (fun h => ?_)) <;> conv => whnf) | (with_reducible refine @And.intro (guardVC _ _ _ _ _) _ ?_ ?_) <;> conv => whnf | (refine caseB_intro (fun h => ?_) (fun h => ?_) <;> (try simp only [Bool.not_eq_true', Bool.not_eq_false', decide_eq_true_eq, decide_eq_false_iff_not] at h) <;> conv => whnf))
      all_goals first
        | (exfalso; contradiction)
        | skip
      all_goals exact ⟨_, PH.Le.refl _, by rw [polK_bad lf _ hk]; rfl, l1⟩
end Go.Proofs.YtdgipmlkkmmliaaGreatDoor
