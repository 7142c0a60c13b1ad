/-
  CONTRACTS: for how long an answer lives by its lines Expires and Date.
-/
import Derived.Test.YtdgipmlkkmmliaaGreatDoorRh
import Derived.Test.YtdgipmlkkmmliaaGreatDoorUa
namespace Go.Proofs.YtdgipmlkkmmliaaGreatDoor
set_option maxRecDepth 100000
set_option linter.unusedSimpArgs false
set_option linter.unusedVariables false
open Go.Xe
def expU : ByteArray := ⟨#[69, 120, 112, 105, 114, 101, 115]⟩
def expL : ByteArray := ⟨#[101, 120, 112, 105, 114, 101, 115]⟩
def datU : ByteArray := ⟨#[68, 97, 116, 101]⟩
def datL : ByteArray := ⟨#[100, 97, 116, 101]⟩
theorem exp_eq (ws : List Hd) : vals ws expU = vals ws expL := by
  have : lowerB expU = lowerB expL := by decide +kernel
  unfold vals alikeT
  rw [this]
theorem dat_eq (ws : List Hd) : vals ws datU = vals ws datL := by
  have : lowerB datU = lowerB datL := by decide +kernel
  unfold vals alikeT
  rw [this]
theorem firstV_le (ws : List Hd) (nm : ByteArray) (hco : costL Hd.cost ws ≤ 1048576) : (firstV (vals ws nm)).size ≤ 1048576 := by
  unfold vals
  cases h : ws.filter fun x => alikeT x.n nm with
  | nil => show (0 : Nat) ≤ _; omega
  | cons x r =>
    show x.v.size ≤ _
    have hx : x ∈ ws := (List.mem_filter.1 (h ▸ List.mem_cons_self : x ∈ ws.filter fun x => alikeT x.n nm)).1
    have h1 : Hd.cost x ≤ costL Hd.cost ws := costL_le hx
    have e : Hd.cost x = x.n.size + x.v.size := rfl
    omega
theorem dateOf_ret (A : Option Addr) (c : Nat) (ws : List Hd) (nm : ByteArray) (M : PH) (hL : Lw M) (hs : Sl M A 2 Hd.cs ws) (hco : costL Hd.cost ws ≤ 1048576) (hnm : nm.size ≤ maxLen) :
    Ret 123 [.slice A ws.length c, Tx nm] M (.tuple #[I (max0 (dateV (firstV (vals ws nm)))), B (!(vals ws nm).isEmpty && decide (0 ≤ dateV (firstV (vals ws nm))))]) := by
  have hn := Nat.le_trans (costL_len Hd.cost ws) hco
  have ho := hd_okl hco
  have hpd := parseDate_ret (firstV (vals ws nm)) (firstV_le ws nm hco) M hL
  have hfv := firstValue_ret A c ws nm M hs hn ho hnm
  have hin := dateV_in (firstV (vals ws nm))
  generalize firstV (vals ws nm) = v at *
  generalize (vals ws nm).isEmpty = em at *
  have hc : ∀ b : Bool, (!em && decide ((if dateV v < 0 then (5 : Int) else 0) = 0)) = (!em && decide (0 ≤ dateV v)) := fun _ => by
    by_cases h : dateV v < 0
    · rw [if_pos h, decide_eq_false (p := 0 ≤ dateV v) (by omega)]; rfl
    · rw [if_neg h, decide_eq_true (p := 0 ≤ dateV v) (by omega)]; rfl
  rw [← hc true]
  generalize (if dateV v < 0 then (5 : Int) else 0) = k at *
  have lr := PH.Le.refl M
  refine xcall_of_vc Tryz.func123 rfl _ Tryz.ntmps123 _ rfl (fun _ _ => Tryz.call123 _ _) rfl (fun w0 ρ0 => ?_)
  conv => whnf
  repeat' (first | (refine ⟨⟨[], rfl⟩, _, PH.Le.refl _, bot_le _, ?_⟩; conv => whnf) | (refine ⟨⟨_, rfl⟩, _, PH.Le.refl _, bot_le _, ?_⟩; conv => whnf) | (refine ⟨⟨_, rfl⟩, _, PH.Le.refl _, lr, ?_⟩; conv => whnf) | (refine caseB_true ?_; conv => whnf) | (refine caseB_false ?_; conv => whnf) | ((with_reducible refine caseB_dec (fun h => ?_) (fun h => ?_)) <;> conv => whnf) | ((with_reducible refine caseB_ndec (fun h => ?_) (fun h => ?_)) <;> conv => whnf) | ((with_reducible refine caseB_not (fun h => ?_) (fun h => ?_)) <;> conv => whnf) | (refine Ret.go (hfv) ?_; conv => whnf) | (refine Ret.go (hpd) ?_; conv => whnf) | (refine draw_ruleJ (none) (.light 0 <| .light 1 <| .light 2 <| .light 3 <| .light 4 <| .light 5 <| .light 6 <| .light 7 <| .light 8 <| .light 9 <| .done) (by decide +kernel) (lr) ?_; conv => whnf) | (with_reducible refine @And.intro (guardVC _ _ _ _ _) _ ?_ ?_) <;> conv => whnf | (refine caseB_intro (fun h => ?_) (fun h => ?_) <;> (try simp only [Bool.not_eq_true', Bool.not_eq_false', decide_eq_true_eq, decide_eq_false_iff_not] at h) <;> conv => whnf))
  all_goals refine ⟨_, PH.Le.refl _, ?_, rfl⟩
  all_goals simp [resV, *]
def expV (ws : List Hd) : Int → Int → Int := fun e d => if (vals ws expL).isEmpty = true then -1 else if (vals ws datL).isEmpty = true ∨ e < 0 ∨ d < 0 then 0 else 1000 * max0 (e - d)
noncomputable def lifeE (ws : List Hd) : Int := expV ws (dateV (firstV (vals ws expL))) (dateV (firstV (vals ws datL)))
theorem expV_in (ws : List Hd) {e d : Int} (he : -1 ≤ e ∧ e ≤ 253402300799) (hd : -1 ≤ d ∧ d ≤ 253402300799) : -1 ≤ expV ws e d ∧ expV ws e d ≤ 253402300799000 := by
  unfold expV max0
  split
  · omega
  split
  · omega
  rename_i h
  split <;> omega
theorem lifeE_in (ws : List Hd) : -1 ≤ lifeE ws ∧ lifeE ws ≤ 253402300799000 := expV_in ws (dateV_in _) (dateV_in _)
theorem expiryOf_ret (A : Option Addr) (c : Nat) (ws : List Hd) (M : PH) (hL : Lw M) (hs : Sl M A 2 Hd.cs ws) (hco : costL Hd.cost ws ≤ 1048576) : Ret 84 [.slice A ws.length c] M (I (lifeE ws)) := by
  have hn := Nat.le_trans (costL_len Hd.cost ws) hco
  have ho := hd_okl hco
  have f1 := firstValue_ret A c ws expU M hs hn ho (by decide +kernel)
  have d1 := dateOf_ret A c ws expU M hL hs hco (by decide +kernel)
  have d2 := dateOf_ret A c ws datU M hL hs hco (by decide +kernel)
  rw [exp_eq] at f1 d1
  rw [dat_eq] at d2
  have e0 : lifeE ws = expV ws (dateV (firstV (vals ws expL))) (dateV (firstV (vals ws datL))) := rfl
  rw [e0]
  have i1 := dateV_in (firstV (vals ws expL))
  have i2 := dateV_in (firstV (vals ws datL))
  unfold expV
  generalize dateV (firstV (vals ws expL)) = e at *
  generalize dateV (firstV (vals ws datL)) = d at *
  generalize (vals ws expL).isEmpty = b1 at *
  generalize (vals ws datL).isEmpty = b2 at *
  refine xcall_of_vc Tryz.func84 rfl _ Tryz.ntmps84 _ rfl (fun _ _ => Tryz.call84 _ _) rfl (fun w0 ρ0 => ?_)
  conv => whnf
  cases b1 with
  | true =>
    repeat' (first | (refine ⟨⟨[], rfl⟩, _, PH.Le.refl _, PH.Le.refl _, ?_⟩; conv => whnf) | (refine caseB_true ?_; conv => whnf) | (refine caseB_false ?_; conv => whnf) | ((with_reducible refine caseB_dec (fun h => ?_) (fun h => ?_)) <;> conv => whnf) | ((with_reducible refine caseB_ndec (fun h => ?_) (fun h => ?_)) <;> conv => whnf) | ((with_reducible refine caseB_not (fun h => ?_) (fun h => ?_)) <;> conv => whnf) | (refine Ret.go (f1) ?_; conv => whnf) | (with_reducible refine @And.intro (guardVC _ _ _ _ _) _ ?_ ?_) <;> conv => whnf | (refine caseB_intro (fun h => ?_) (fun h => ?_) <;> (try simp only [Bool.not_eq_true', Bool.not_eq_false', decide_eq_true_eq, decide_eq_false_iff_not] at h) <;> conv => whnf))
    exact ⟨_, PH.Le.refl _, rfl, rfl⟩
  | false =>
    rw [if_neg (by decide)]
    cases b2 with
    | true =>
      rw [if_pos (.inl rfl)]
      repeat' (first | (refine ⟨⟨[], rfl⟩, _, PH.Le.refl _, PH.Le.refl _, ?_⟩; conv => whnf) | (refine caseB_true ?_; conv => whnf) | (refine caseB_false ?_; conv => whnf) | ((with_reducible refine caseB_dec (fun h => ?_) (fun h => ?_)) <;> conv => whnf) | ((with_reducible refine caseB_ndec (fun h => ?_) (fun h => ?_)) <;> conv => whnf) | ((with_reducible refine caseB_not (fun h => ?_) (fun h => ?_)) <;> conv => whnf) | (refine Ret.go (f1) ?_; conv => whnf) | (refine Ret.go (d1) ?_; conv => whnf) | (refine Ret.go (d2) ?_; conv => whnf) | (with_reducible refine @And.intro (guardVC _ _ _ _ _) _ ?_ ?_) <;> conv => whnf | (refine caseB_intro (fun h => ?_) (fun h => ?_) <;> (try simp only [Bool.not_eq_true', Bool.not_eq_false', decide_eq_true_eq, decide_eq_false_iff_not] at h) <;> conv => whnf))
      all_goals first
        | exact ⟨_, PH.Le.refl _, rfl, rfl⟩
    | false =>
      by_cases he : e < 0
      · rw [if_pos (.inr (.inl he))]
        rw [decide_eq_false (p := 0 ≤ e) (by omega)] at d1
        repeat' (first | (refine ⟨⟨[], rfl⟩, _, PH.Le.refl _, PH.Le.refl _, ?_⟩; conv => whnf) | (refine caseB_true ?_; conv => whnf) | (refine caseB_false ?_; conv => whnf) | ((with_reducible refine caseB_dec (fun h => ?_) (fun h => ?_)) <;> conv => whnf) | ((with_reducible refine caseB_ndec (fun h => ?_) (fun h => ?_)) <;> conv => whnf) | ((with_reducible refine caseB_not (fun h => ?_) (fun h => ?_)) <;> conv => whnf) | (refine Ret.go (f1) ?_; conv => whnf) | (refine Ret.go (d1) ?_; conv => whnf) | (refine Ret.go (d2) ?_; conv => whnf) | (with_reducible refine @And.intro (guardVC _ _ _ _ _) _ ?_ ?_) <;> conv => whnf | (refine caseB_intro (fun h => ?_) (fun h => ?_) <;> (try simp only [Bool.not_eq_true', Bool.not_eq_false', decide_eq_true_eq, decide_eq_false_iff_not] at h) <;> conv => whnf))
        all_goals first
          | exact ⟨_, PH.Le.refl _, rfl, rfl⟩
      rw [decide_eq_true (p := 0 ≤ e) (by omega)] at d1
      by_cases hd : d < 0
      · rw [if_pos (.inr (.inr hd))]
        rw [decide_eq_false (p := 0 ≤ d) (by omega)] at d2
        repeat' (first | (refine ⟨⟨[], rfl⟩, _, PH.Le.refl _, PH.Le.refl _, ?_⟩; conv => whnf) | (refine caseB_true ?_; conv => whnf) | (refine caseB_false ?_; conv => whnf) | ((with_reducible refine caseB_dec (fun h => ?_) (fun h => ?_)) <;> conv => whnf) | ((with_reducible refine caseB_ndec (fun h => ?_) (fun h => ?_)) <;> conv => whnf) | ((with_reducible refine caseB_not (fun h => ?_) (fun h => ?_)) <;> conv => whnf) | (refine Ret.go (f1) ?_; conv => whnf) | (refine Ret.go (d1) ?_; conv => whnf) | (refine Ret.go (d2) ?_; conv => whnf) | (with_reducible refine @And.intro (guardVC _ _ _ _ _) _ ?_ ?_) <;> conv => whnf | (refine caseB_intro (fun h => ?_) (fun h => ?_) <;> (try simp only [Bool.not_eq_true', Bool.not_eq_false', decide_eq_true_eq, decide_eq_false_iff_not] at h) <;> conv => whnf))
        all_goals first
          | exact ⟨_, PH.Le.refl _, rfl, rfl⟩
      rw [decide_eq_true (p := 0 ≤ d) (by omega)] at d2
      rw [if_neg (by rintro (h1 | h1 | h1) <;> first | contradiction | cases h1)]
      have m1 : max0 e = e := by unfold max0; split <;> omega
      have m2 : max0 d = d := by unfold max0; split <;> omega
      rw [m1] at d1
      rw [m2] at d2
      have w1 : IntKind.i64.wrap (e - d) = e - d := wi (by omega) (by omega)
      have w2 : IntKind.i64.wrap (1000 * (e - d)) = 1000 * (e - d) := wi (by omega) (by omega)
      repeat' (first | (refine ⟨⟨[], rfl⟩, _, PH.Le.refl _, PH.Le.refl _, ?_⟩; conv => whnf) | (refine caseB_true ?_; conv => whnf) | (refine caseB_false ?_; conv => whnf) | ((with_reducible refine caseB_dec (fun h => ?_) (fun h => ?_)) <;> conv => whnf) | ((with_reducible refine caseB_ndec (fun h => ?_) (fun h => ?_)) <;> conv => whnf) | ((with_reducible refine caseB_not (fun h => ?_) (fun h => ?_)) <;> conv => whnf) | (refine Ret.go (f1) ?_; conv => whnf) | (refine Ret.go (d1) ?_; conv => whnf) | (refine Ret.go (d2) ?_; conv => whnf) | (with_reducible refine @And.intro (guardVC _ _ _ _ _) _ ?_ ?_) <;> conv => whnf | (refine caseB_intro (fun h => ?_) (fun h => ?_) <;> (try simp only [Bool.not_eq_true', Bool.not_eq_false', decide_eq_true_eq, decide_eq_false_iff_not] at h) <;> conv => whnf))
      all_goals refine ⟨_, PH.Le.refl _, ?_, rfl⟩
      · have h : e ≤ d := h
        have : max0 (e - d) = 0 := by unfold max0; split <;> omega
        rw [this]; rfl
      · have h : ¬ e ≤ d := h
        have : max0 (e - d) = e - d := by unfold max0; split <;> omega
        show I _ = I _
        rw [this, w1, w2]
theorem l6Expires_ret (A : Option Addr) (c : Nat) (ws : List Hd) (M : PH) (hs : Sl M A 2 Hd.cs ws) (hco : costL Hd.cost ws ≤ 1048576) : Ret 80 [.slice A ws.length c] M (I (lifeE ws)) := by
  have hn := Nat.le_trans (costL_len Hd.cost ws) hco
  have ho := hd_okl hco
  have f1 := l6First_ret A c ws expL M hs hn ho (by decide +kernel)
  have f2 := l6First_ret A c ws datL M hs hn ho (by decide +kernel)
  have p1 := l3Parse_ret (firstV (vals ws expL)) (firstV_le ws expL hco) M
  have p2 := l3Parse_ret (firstV (vals ws datL)) (firstV_le ws datL hco) M
  have e0 : lifeE ws = expV ws (dateV (firstV (vals ws expL))) (dateV (firstV (vals ws datL))) := rfl
  rw [e0]
  have i1 := dateV_in (firstV (vals ws expL))
  have i2 := dateV_in (firstV (vals ws datL))
  unfold expV
  generalize dateV (firstV (vals ws expL)) = e at *
  generalize dateV (firstV (vals ws datL)) = d at *
  generalize (vals ws expL).isEmpty = b1 at *
  generalize (vals ws datL).isEmpty = b2 at *
  have w1 : IntKind.i64.wrap (e - d) = e - d := wi (by omega) (by omega)
  have hmx := l1Max_ret (e - d) M
  have hm0 : 0 ≤ max0 (e - d) ∧ max0 (e - d) ≤ 253402300800 := by unfold max0; split <;> omega
  have w2 : IntKind.i64.wrap (max0 (e - d) * 1000) = 1000 * max0 (e - d) := by rw [wi (by omega) (by omega)]; omega
  rw [← w1] at hmx
  refine xcall_of_vc Tryz.func80 rfl _ Tryz.ntmps80 _ rfl (fun _ _ => Tryz.call80 _ _) rfl (fun w0 ρ0 => ?_)
  conv => whnf
  cases b1 with
  | true =>
    repeat' (first | (refine ⟨⟨[], rfl⟩, _, PH.Le.refl _, PH.Le.refl _, ?_⟩; conv => whnf) | (refine caseB_true ?_; conv => whnf) | (refine caseB_false ?_; conv => whnf) | ((with_reducible refine caseB_dec (fun h => ?_) (fun h => ?_)) <;> conv => whnf) | ((with_reducible refine caseB_ndec (fun h => ?_) (fun h => ?_)) <;> conv => whnf) | ((with_reducible refine caseB_not (fun h => ?_) (fun h => ?_)) <;> conv => whnf) | (refine Ret.go (f1) ?_; conv => whnf) | (with_reducible refine @And.intro (guardVC _ _ _ _ _) _ ?_ ?_) <;> conv => whnf | (refine caseB_intro (fun h => ?_) (fun h => ?_) <;> (try simp only [Bool.not_eq_true', Bool.not_eq_false', decide_eq_true_eq, decide_eq_false_iff_not] at h) <;> conv => whnf))
    exact ⟨_, PH.Le.refl _, rfl, rfl⟩
  | false =>
    rw [if_neg (by decide)]
    cases b2 with
    | true =>
      rw [if_pos (.inl rfl)]
      repeat' (first | (refine ⟨⟨[], rfl⟩, _, PH.Le.refl _, PH.Le.refl _, ?_⟩; conv => whnf) | (refine caseB_true ?_; conv => whnf) | (refine caseB_false ?_; conv => whnf) | ((with_reducible refine caseB_dec (fun h => ?_) (fun h => ?_)) <;> conv => whnf) | ((with_reducible refine caseB_ndec (fun h => ?_) (fun h => ?_)) <;> conv => whnf) | ((with_reducible refine caseB_not (fun h => ?_) (fun h => ?_)) <;> conv => whnf) | (refine Ret.go (f1) ?_; conv => whnf) | (refine Ret.go (f2) ?_; conv => whnf) | (refine Ret.go (p1) ?_; conv => whnf) | (refine Ret.go (p2) ?_; conv => whnf) | (with_reducible refine @And.intro (guardVC _ _ _ _ _) _ ?_ ?_) <;> conv => whnf | (refine caseB_intro (fun h => ?_) (fun h => ?_) <;> (try simp only [Bool.not_eq_true', Bool.not_eq_false', decide_eq_true_eq, decide_eq_false_iff_not] at h) <;> conv => whnf))
      all_goals first
        | exact ⟨_, PH.Le.refl _, rfl, rfl⟩
    | false =>
      repeat' (first | (refine ⟨⟨[], rfl⟩, _, PH.Le.refl _, PH.Le.refl _, ?_⟩; conv => whnf) | (refine caseB_true ?_; conv => whnf) | (refine caseB_false ?_; conv => whnf) | ((with_reducible refine caseB_dec (fun h => ?_) (fun h => ?_)) <;> conv => whnf) | ((with_reducible refine caseB_ndec (fun h => ?_) (fun h => ?_)) <;> conv => whnf) | ((with_reducible refine caseB_not (fun h => ?_) (fun h => ?_)) <;> conv => whnf) | (refine Ret.go (f1) ?_; conv => whnf) | (refine Ret.go (f2) ?_; conv => whnf) | (refine Ret.go (p1) ?_; conv => whnf) | (refine Ret.go (p2) ?_; conv => whnf) | (refine Ret.go (hmx) ?_; conv => whnf) | (with_reducible refine @And.intro (guardVC _ _ _ _ _) _ ?_ ?_) <;> conv => whnf | (refine caseB_intro (fun h => ?_) (fun h => ?_) <;> (try simp only [Bool.not_eq_true', Bool.not_eq_false', decide_eq_true_eq, decide_eq_false_iff_not] at h) <;> conv => whnf))
      all_goals refine ⟨_, PH.Le.refl _, ?_, rfl⟩
      all_goals first
        | (rw [if_pos (.inr (.inl (by assumption)))]; rfl)
        | (rw [if_pos (.inr (.inr (by assumption)))]; rfl)
        | (rw [if_neg (by rintro (h1 | h1 | h1) <;> first | contradiction | cases h1)]; show I _ = I _; rw [w1, w2])
end Go.Proofs.YtdgipmlkkmmliaaGreatDoor
