/-
  AN ITEM of a piece of a list.
-/
import Derived.Test.YtdgipmlkkmmliaaGreatDoorIb
namespace Go.Proofs.YtdgipmlkkmmliaaGreatDoor
set_option maxRecDepth 100000
set_option linter.unusedSimpArgs false
set_option linter.unusedVariables false
open Go.Xe Go.Shelf Go.RowKit
theorem index1_ret (s : ByteArray) (c : UInt8) (M : PH) : Ret 163 [Tx s, Tx ⟨#[c]⟩] M (I (Lib.indexByte s.data.toList c)) :=
  ret_of_calls (fun _ _ => Tryz.call163 _ _) fun w _ => (Any.stringslite_Index_one { sh146 with } s c w).mono fun e w' ⟨h1, h2⟩ => ⟨h1, h2 ▸ Below.refl _ _⟩
structure It where
  n : ByteArray
  h : Bool
  v : ByteArray
abbrev It.cs (x : It) : List Value := [Tx x.n, B x.h, Tx x.v]
abbrev It.val (x : It) : Value := .agg #[Tx x.n, B x.h, Tx x.v]
theorem It.len (x : It) : x.cs.length = 3 := rfl
theorem It.one (x : It) : ∀ v ∈ x.cs, v.oneCell' = true := by intro v hv; simp at hv; rcases hv with rfl | rfl | rfl <;> rfl
theorem idx_le : ∀ (l : List UInt8) (c : UInt8), Lib.indexByte l c = -1 ∨ ∃ i : Nat, Lib.indexByte l c = i ∧ ∃ h : i < l.length, l[i] = c ∧ ∀ j, ∀ hj : j < i, l[j]'(by omega) ≠ c
  | [], _ => .inl rfl
  | x :: r, c => by
    by_cases hx : (x == c) = true
    · refine .inr ⟨0, by rw [Lib.indexByte, if_pos hx]; rfl, by simp, by simpa using hx, fun j hj => absurd hj (Nat.not_lt_zero _)⟩
    · have hne : x ≠ c := fun e => hx (beq_iff_eq.2 e)
      rcases idx_le r c with h | ⟨i, h1, h2, h3, h4⟩
      · refine .inl ?_
        rw [Lib.indexByte, if_neg hx, h]; rfl
      · refine .inr ⟨i + 1, ?_, by simpa using h2, by simpa using h3, fun j hj => ?_⟩
        · rw [Lib.indexByte, if_neg hx, h1, if_neg (by intro e; have := beq_iff_eq.1 e; omega)]; rfl
        · cases j with
          | zero => exact hne
          | succ j => exact h4 j (Nat.lt_of_succ_lt_succ hj)
def eqK (p : ByteArray) : Int := Lib.indexByte p.data.toList 61
def itemF (p : ByteArray) : Option It :=
  if eqK p < 0 then (if wordT p = true then some ⟨p, false, ByteArray.empty⟩ else none)
  else if wordT (p.extract 0 (eqK p).toNat) = false then none
  else if wordT (p.extract ((eqK p).toNat + 1) p.size) = true then some ⟨p.extract 0 (eqK p).toNat, true, p.extract ((eqK p).toNat + 1) p.size⟩
  else (unqF (p.extract ((eqK p).toNat + 1) p.size)).map fun y => ⟨p.extract 0 (eqK p).toNat, true, y⟩
theorem eqK_bd (p : ByteArray) : eqK p = -1 ∨ (0 ≤ eqK p ∧ (eqK p).toNat < p.size) := by
  have hl := size_list p
  rcases idx_le p.data.toList 61 with h | ⟨i, h1, h2, _⟩
  · exact .inl h
  · have h1 : eqK p = i := h1
    exact .inr ⟨by omega, by omega⟩
theorem cut_ret (p : ByteArray) (M : PH) (hp : p.size ≤ 1048576) :
    Ret 142 [Tx p, Tx ⟨#[61]⟩] M (if eqK p < 0 then .tuple #[Tx p, Tx ⟨#[]⟩, B false] else .tuple #[Tx (p.extract 0 (eqK p).toNat), Tx (p.extract ((eqK p).toNat + 1) p.size), B true]) := by
  have hbd := eqK_bd p
  have hi := index1_ret p 61 M
  have hi : Ret 163 [Tx p, Tx ⟨#[61]⟩] M (I (eqK p)) := hi
  have hw : 0 ≤ eqK p → IntKind.i64.wrap (eqK p + 1) = eqK p + 1 := fun h => wr_id (by omega) (by omega)
  have hc : Ret 169 [Tx p, Tx ⟨#[61]⟩] M (if eqK p < 0 then .tuple #[Tx p, Tx ⟨#[]⟩, B false] else .tuple #[Tx (p.extract 0 (eqK p).toNat), Tx (p.extract ((eqK p).toNat + 1) p.size), B true]) := by
    generalize eqK p = k at *
    refine xcall_of_vc Tryz.func169 rfl _ Tryz.ntmps169 _ rfl (fun _ _ => Tryz.call169 _ _) rfl (fun w0 ρ0 => ?_)
    conv => whnf
    repeat' (first | (refine ⟨⟨[], rfl⟩, _, PH.Le.refl _, PH.Le.refl _, ?_⟩; conv => whnf) | (refine ⟨⟨by omega, by omega, by omega⟩, ?_⟩; conv => whnf) | (refine ⟨⟨by show 0 ≤ IntKind.i64.wrap (k + 1); rw [hw h]; omega, by show IntKind.i64.wrap (k + 1) ≤ (p.size : Int); rw [hw h]; omega⟩, ?_⟩; conv => whnf) | (refine ⟨⟨by omega, by omega⟩, ?_⟩; conv => whnf) | (refine caseB_true ?_; conv => whnf) | (refine caseB_false ?_; conv => whnf) | ((with_reducible refine caseB_dec (fun h => ?_) (fun h => ?_)) <;> conv => whnf) | ((with_reducible refine caseB_ndec (fun h => ?_) (fun h => ?_)) <;> conv => whnf) | ((with_reducible refine caseB_not (fun h => ?_) (fun h => ?_)) <;> conv => whnf) | (refine Ret.go (hi) ?_; conv => whnf) | (refine draw_rule (.light 0 <| .light 1 <| .light 2 <| .light 3 <| .light 4 <| .light 5 <| .light 6 <| .light 7 <| .light 8 <| .light 9 <| .light 10 <| .light 11 <| .done) (by decide +kernel) ?_; conv => whnf) | (with_reducible refine @And.intro (guardVC _ _ _ _ _) _ ?_ ?_) <;> conv => whnf | (refine caseB_intro (fun h => ?_) (fun h => ?_) <;> (try simp only [Bool.not_eq_true', Bool.not_eq_false', decide_eq_true_eq, decide_eq_false_iff_not] at h) <;> conv => whnf))
    · refine ⟨_, PH.Le.refl _, ?_, rfl⟩
      have e : (IntKind.i64.wrap (k + 1)).toNat = k.toNat + 1 := by rw [hw h]; omega
      rw [if_neg (by omega), ← e]
      rfl
    · refine ⟨_, PH.Le.refl _, ?_, rfl⟩
      rw [if_pos (by omega)]
      rfl
  by_cases hk : eqK p < 0
  · rw [if_pos hk] at hc ⊢
    refine xcall_of_vc Tryz.func142 rfl _ Tryz.ntmps142 _ rfl (fun _ _ => Tryz.call142 _ _) rfl (fun w0 ρ0 => ?_)
    conv => whnf
    repeat' (first | (refine ⟨⟨[], rfl⟩, _, PH.Le.refl _, PH.Le.refl _, ?_⟩; conv => whnf) | (refine caseB_true ?_; conv => whnf) | (refine caseB_false ?_; conv => whnf) | ((with_reducible refine caseB_dec (fun h => ?_) (fun h => ?_)) <;> conv => whnf) | ((with_reducible refine caseB_ndec (fun h => ?_) (fun h => ?_)) <;> conv => whnf) | ((with_reducible refine caseB_not (fun h => ?_) (fun h => ?_)) <;> conv => whnf) | (refine Ret.go (hc) ?_; conv => whnf) | (with_reducible refine @And.intro (guardVC _ _ _ _ _) _ ?_ ?_) <;> conv => whnf | (refine caseB_intro (fun h => ?_) (fun h => ?_) <;> (try simp only [Bool.not_eq_true', Bool.not_eq_false', decide_eq_true_eq, decide_eq_false_iff_not] at h) <;> conv => whnf))
    exact ⟨_, PH.Le.refl _, rfl, rfl⟩
  · rw [if_neg hk] at hc ⊢
    refine xcall_of_vc Tryz.func142 rfl _ Tryz.ntmps142 _ rfl (fun _ _ => Tryz.call142 _ _) rfl (fun w0 ρ0 => ?_)
    conv => whnf
    repeat' (first | (refine ⟨⟨[], rfl⟩, _, PH.Le.refl _, PH.Le.refl _, ?_⟩; conv => whnf) | (refine caseB_true ?_; conv => whnf) | (refine caseB_false ?_; conv => whnf) | ((with_reducible refine caseB_dec (fun h => ?_) (fun h => ?_)) <;> conv => whnf) | ((with_reducible refine caseB_ndec (fun h => ?_) (fun h => ?_)) <;> conv => whnf) | ((with_reducible refine caseB_not (fun h => ?_) (fun h => ?_)) <;> conv => whnf) | (refine Ret.go (hc) ?_; conv => whnf) | (with_reducible refine @And.intro (guardVC _ _ _ _ _) _ ?_ ?_) <;> conv => whnf | (refine caseB_intro (fun h => ?_) (fun h => ?_) <;> (try simp only [Bool.not_eq_true', Bool.not_eq_false', decide_eq_true_eq, decide_eq_false_iff_not] at h) <;> conv => whnf))
    exact ⟨_, PH.Le.refl _, rfl, rfl⟩
theorem itemOf_ret (p : ByteArray) (M : PH) (hp : p.size ≤ 1000) :
    ACall env 101 [Tx p] M fun r M' => ∃ x : It, r = .tuple #[x.val, B (itemF p).isSome] ∧ (∀ y, itemF p = some y → x = y) ∧ M.Le M' := by
  have hbd := eqK_bd p
  have hc := cut_ret p M (by omega)
  have wmax : maxLen = 9223372036854775807 := rfl
  have wp := isWord_impl p M (by omega)
  have hsz1 : (p.extract 0 (eqK p).toNat).size ≤ 1000 := by rw [ByteArray.size_extract]; omega
  have hsz2 : (p.extract ((eqK p).toNat + 1) p.size).size ≤ 1000 := by rw [ByteArray.size_extract]; omega
  have w1 := isWord_impl (p.extract 0 (eqK p).toNat) M (by omega)
  have w2 := isWord_impl (p.extract ((eqK p).toNat + 1) p.size) M (by omega)
  by_cases hk : eqK p < 0
  · rw [if_pos hk] at hc
    have e : itemF p = if wordT p = true then some ⟨p, false, ByteArray.empty⟩ else none := if_pos hk
    clear w1 w2 hsz1 hsz2
    refine xcall_of_vc Tryz.func101 rfl _ Tryz.ntmps101 _ rfl (fun _ _ => Tryz.call101 _ _) rfl (fun w0 ρ0 => ?_)
    conv => whnf
    repeat' (first | (refine ⟨⟨[], rfl⟩, _, PH.Le.refl _, PH.Le.refl _, ?_⟩; conv => whnf) | (refine caseB_true ?_; conv => whnf) | (refine caseB_false ?_; conv => whnf) | ((with_reducible refine caseB_dec (fun h => ?_) (fun h => ?_)) <;> conv => whnf) | ((with_reducible refine caseB_ndec (fun h => ?_) (fun h => ?_)) <;> conv => whnf) | ((with_reducible refine caseB_not (fun h => ?_) (fun h => ?_)) <;> conv => whnf) | (refine Ret.go (hc) ?_; conv => whnf) | (refine Ret.go (wp) ?_; conv => whnf) | (with_reducible refine @And.intro (guardVC _ _ _ _ _) _ ?_ ?_) <;> conv => whnf | (refine caseB_intro (fun h => ?_) (fun h => ?_) <;> (try simp only [Bool.not_eq_true', Bool.not_eq_false', decide_eq_true_eq, decide_eq_false_iff_not] at h) <;> conv => whnf))
    refine ⟨_, PH.Le.refl _, ⟨p, false, ByteArray.empty⟩, ?_, ?_, PH.Le.refl _⟩
    · rw [e]
      cases wordT p <;> rfl
    · intro y hy
      rw [e] at hy
      split at hy
      · exact Option.some.inj hy
      · cases hy
  · rw [if_neg hk] at hc
    have e : itemF p = if wordT (p.extract 0 (eqK p).toNat) = false then none else if wordT (p.extract ((eqK p).toNat + 1) p.size) = true then some ⟨p.extract 0 (eqK p).toNat, true, p.extract ((eqK p).toNat + 1) p.size⟩ else (unqF (p.extract ((eqK p).toNat + 1) p.size)).map fun y => ⟨p.extract 0 (eqK p).toNat, true, y⟩ := if_neg hk
    have hu := unquote_ret (p.extract ((eqK p).toNat + 1) p.size) M (by omega)
    generalize p.extract 0 (eqK p).toNat = nm at *
    generalize p.extract ((eqK p).toNat + 1) p.size = rs at *
    refine xcall_of_vc Tryz.func101 rfl _ Tryz.ntmps101 _ rfl (fun _ _ => Tryz.call101 _ _) rfl (fun w0 ρ0 => ?_)
    conv => whnf
    repeat' (first | (refine ⟨⟨[], rfl⟩, _, PH.Le.refl _, PH.Le.refl _, ?_⟩; conv => whnf) | (refine caseB_true ?_; conv => whnf) | (refine caseB_false ?_; conv => whnf) | ((with_reducible refine caseB_dec (fun h => ?_) (fun h => ?_)) <;> conv => whnf) | ((with_reducible refine caseB_ndec (fun h => ?_) (fun h => ?_)) <;> conv => whnf) | ((with_reducible refine caseB_not (fun h => ?_) (fun h => ?_)) <;> conv => whnf) | (refine Ret.go (hc) ?_; conv => whnf) | (refine Ret.go (w1) ?_; conv => whnf) | (refine Ret.go (w2) ?_; conv => whnf) | (with_reducible refine @And.intro (guardVC _ _ _ _ _) _ ?_ ?_) <;> conv => whnf | (refine caseB_intro (fun h => ?_) (fun h => ?_) <;> (try simp only [Bool.not_eq_true', Bool.not_eq_false', decide_eq_true_eq, decide_eq_false_iff_not] at h) <;> conv => whnf))
    · refine ⟨_, PH.Le.refl _, ⟨nm, true, rs⟩, ?_, ?_, PH.Le.refl _⟩
      · rw [e, if_pos h]
        show Value.tuple #[_, B (wordT nm)] = _
        rw [h]; rfl
      · intro y hy
        rw [e, if_pos h] at hy
        cases hy
    · have h1 : wordT nm = true := by assumption
      refine ⟨_, PH.Le.refl _, ⟨nm, true, rs⟩, ?_, ?_, PH.Le.refl _⟩
      · rw [e, if_neg (by rw [h1]; decide), if_pos h]
        show Value.tuple #[_, B (wordT nm)] = _
        rw [h1]; rfl
      · intro y hy
        rw [e, if_neg (by rw [h1]; decide), if_pos h] at hy
        exact Option.some.inj hy
    · have h1 : wordT nm = true := by assumption
      rw [if_neg (by rw [h1]; decide), if_neg (by rw [h]; decide)] at e
      refine ACall.step hu fun r M1 hh => ?_
      obtain ⟨x, rfl, hx, l1⟩ := hh
      conv => whnf
      cases hq : unqF rs with
      | none =>
        try rw [hq] at e
        conv => whnf
        repeat' (first | (refine ⟨⟨[], rfl⟩, _, PH.Le.refl _, bot_le _, ?_⟩; conv => whnf) | (refine ⟨⟨_, rfl⟩, _, PH.Le.refl _, bot_le _, ?_⟩; conv => whnf) | (refine caseB_true ?_; conv => whnf) | (refine caseB_false ?_; conv => whnf) | ((with_reducible refine caseB_dec (fun h => ?_) (fun h => ?_)) <;> conv => whnf) | ((with_reducible refine caseB_ndec (fun h => ?_) (fun h => ?_)) <;> conv => whnf) | ((with_reducible refine caseB_not (fun h => ?_) (fun h => ?_)) <;> conv => whnf) | (refine draw_ruleJ (some [1]) (.light 0 <| .light 1 <| .light 2 <| .light 3 <| .light 4 <| .light 5 <| .light 6 <| .alt 7 false (.light 8 <| .done) .nil) (by decide +kernel) (bot_le _) ?_; conv => whnf) | (with_reducible refine @And.intro (guardVC _ _ _ _ _) _ ?_ ?_) <;> conv => whnf | (refine caseB_intro (fun h => ?_) (fun h => ?_) <;> (try simp only [Bool.not_eq_true', Bool.not_eq_false', decide_eq_true_eq, decide_eq_false_iff_not] at h) <;> conv => whnf))
        all_goals exact ⟨_, PH.Le.refl _, ⟨nm, true, x⟩, by rw [e]; rfl, (fun y hy => by rw [e] at hy; cases hy), l1⟩
      | some z =>
        try rw [hq] at e
        have hz := hx z hq
        conv => whnf
        repeat' (first | (refine ⟨⟨[], rfl⟩, _, PH.Le.refl _, bot_le _, ?_⟩; conv => whnf) | (refine ⟨⟨_, rfl⟩, _, PH.Le.refl _, bot_le _, ?_⟩; conv => whnf) | (refine caseB_true ?_; conv => whnf) | (refine caseB_false ?_; conv => whnf) | ((with_reducible refine caseB_dec (fun h => ?_) (fun h => ?_)) <;> conv => whnf) | ((with_reducible refine caseB_ndec (fun h => ?_) (fun h => ?_)) <;> conv => whnf) | ((with_reducible refine caseB_not (fun h => ?_) (fun h => ?_)) <;> conv => whnf) | (refine draw_ruleJ (some [1]) (.light 0 <| .light 1 <| .light 2 <| .light 3 <| .light 4 <| .light 5 <| .light 6 <| .alt 7 false (.light 8 <| .done) .nil) (by decide +kernel) (bot_le _) ?_; conv => whnf) | (with_reducible refine @And.intro (guardVC _ _ _ _ _) _ ?_ ?_) <;> conv => whnf | (refine caseB_intro (fun h => ?_) (fun h => ?_) <;> (try simp only [Bool.not_eq_true', Bool.not_eq_false', decide_eq_true_eq, decide_eq_false_iff_not] at h) <;> conv => whnf))
        all_goals exact ⟨_, PH.Le.refl _, ⟨nm, true, x⟩, by rw [e]; rfl, (fun y hy => by rw [e] at hy; rw [hz]; exact Option.some.inj hy), l1⟩
theorem l2Item_ret (p : ByteArray) (M : PH) (hp : p.size ≤ 1000) :
    ACall env 172 [Tx p] M fun r M' => ∃ x : It, r = .tuple #[x.val, B (itemF p).isSome] ∧ (∀ y, itemF p = some y → x = y) ∧ M.Le M' := by
  have hbd := eqK_bd p
  have hl := size_list p
  have wmax : maxLen = 9223372036854775807 := rfl
  refine xcall_of_vc Tryz.func172 rfl _ Tryz.ntmps172 _ rfl (fun _ _ => Tryz.call172 _ _) rfl (fun w0 ρ0 => ?_)
  conv => whnf
  refine loop_rule (fun i : Nat => ⟨slots 54 [(0, .v (Tx p)), (2, .bp 0 0), (3, .v (B false)), (4, .v (I i))], [⟨97, [.v (Tx ByteArray.empty), .v (B false), .v (Tx ByteArray.empty)]⟩]⟩)
    (fun i M' => i ≤ p.size ∧ (∀ j : Nat, j < i → bt p j ≠ 61) ∧ M' = M) (fun i => p.size - i) 0 ?_ ?_ ?_
  · exact ⟨by simp [slots, leT], ⟨[], rfl⟩, by simp, rfl, rfl⟩
  · exact ⟨Nat.zero_le _, fun j hj => absurd hj (Nat.not_lt_zero _), rfl⟩
  rintro i M1 ⟨hi, hno, rfl⟩
  have hw : i < p.size → IntKind.i64.wrap ((i : Int) + 1) = (i : Int) + 1 := fun h => wr_id (by omega) (by omega)
  conv => whnf
  repeat' (first | (refine ⟨⟨[], rfl⟩, _, PH.Le.refl _, PH.Le.refl _, ?_⟩; conv => whnf) | (refine ⟨by omega, by omega, ?_⟩; conv => whnf) | (refine caseB_true ?_; conv => whnf) | (refine caseB_false ?_; conv => whnf) | ((with_reducible refine caseB_dec (fun h => ?_) (fun h => ?_)) <;> conv => whnf) | ((with_reducible refine caseB_ndec (fun h => ?_) (fun h => ?_)) <;> conv => whnf) | ((with_reducible refine caseB_not (fun h => ?_) (fun h => ?_)) <;> conv => whnf) | (with_reducible refine @And.intro (guardVC _ _ _ _ _) _ ?_ ?_) <;> conv => whnf | (refine caseB_intro (fun h => ?_) (fun h => ?_) <;> (try simp only [Bool.not_eq_true', Bool.not_eq_false', decide_eq_true_eq, decide_eq_false_iff_not] at h) <;> conv => whnf))
  · have hx : ¬ bt p i = 61 := h
    have hil : (i : Int) < p.size := by assumption
    exact ⟨i + 1, ⟨by simp [slots, leT, hw (by omega)], ⟨[], rfl⟩, by simp, rfl, rfl⟩, ⟨by omega, fun j hj => (Nat.lt_succ_iff_lt_or_eq.1 hj).elim (hno j) (fun e => by rw [e]; exact hx), rfl⟩, by omega⟩
  · have hx : bt p i = 61 := h
    have hil : (i : Int) < p.size := by assumption
    have E : eqK p = (i : Int) := indexByte_at p.data.toList 61 i (by omega) (bt_eq' (by omega) hx) (fun j hj => bt_ne (by omega) (hno j hj))
    have hw1 := hw (by omega)
    have e : itemF p = if wordT (p.extract 0 i) = false then none else if wordT (p.extract (i + 1) p.size) = true then some ⟨p.extract 0 i, true, p.extract (i + 1) p.size⟩ else (unqF (p.extract (i + 1) p.size)).map fun y => ⟨p.extract 0 i, true, y⟩ := by
      unfold itemF
      rw [E, if_neg (by omega)]
      rfl
    have s1 : (p.extract 0 i).size ≤ 1000 := by rw [ByteArray.size_extract]; omega
    have s2 : (p.extract (i + 1) p.size).size ≤ 1000 := by rw [ByteArray.size_extract]; omega
    have w1 := isWord_spec (p.extract 0 i) M1 (by omega)
    have w2 := isWord_spec (p.extract (i + 1) p.size) M1 (by omega)
    have hu := l2Unquote_ret (p.extract (i + 1) p.size) M1 (by omega)
    repeat' (first | (refine ⟨⟨[], rfl⟩, _, PH.Le.refl _, PH.Le.refl _, ?_⟩; conv => whnf) | (refine ⟨⟨by omega, by omega, by omega⟩, ?_⟩; conv => whnf) | (refine caseB_true ?_; conv => whnf) | (refine caseB_false ?_; conv => whnf) | ((with_reducible refine caseB_dec (fun h => ?_) (fun h => ?_)) <;> conv => whnf) | ((with_reducible refine caseB_ndec (fun h => ?_) (fun h => ?_)) <;> conv => whnf) | ((with_reducible refine caseB_not (fun h => ?_) (fun h => ?_)) <;> conv => whnf) | (refine Ret.go (w1) ?_; conv => whnf) | (with_reducible refine @And.intro (guardVC _ _ _ _ _) _ ?_ ?_) <;> conv => whnf | (refine caseB_intro (fun h => ?_) (fun h => ?_) <;> (try simp only [Bool.not_eq_true', Bool.not_eq_false', decide_eq_true_eq, decide_eq_false_iff_not] at h) <;> conv => whnf))
    · rw [if_pos h] at e
      exact ⟨_, PH.Le.refl _, ⟨ByteArray.empty, false, ByteArray.empty⟩, by rw [e]; rfl, (fun y hy => by rw [e] at hy; cases hy), PH.Le.refl _⟩
    · exfalso
      have h : (i : Int) = p.size := h
      omega
    have h1 : wordT (p.extract 0 i) = true := by assumption
    rw [if_neg (by rw [h1]; decide)] at e
    refine ⟨⟨by show 0 ≤ IntKind.i64.wrap ((i : Int) + 1); rw [hw1]; omega, by show IntKind.i64.wrap ((i : Int) + 1) ≤ (p.size : Int); rw [hw1]; omega⟩, ?_⟩
    have ei : (IntKind.i64.wrap ((i : Int) + 1)).toNat = i + 1 := by rw [hw1]; omega
    have ee : p.extract (IntKind.i64.wrap ((i : Int) + 1)).toNat p.size = p.extract (i + 1) p.size := by rw [ei]
    rw [← ee] at e w2 hu
    conv => whnf
    repeat' (first | (refine ⟨⟨[], rfl⟩, _, PH.Le.refl _, PH.Le.refl _, ?_⟩; conv => whnf) | (refine ⟨⟨by omega, by omega, by omega⟩, ?_⟩; conv => whnf) | (refine caseB_true ?_; conv => whnf) | (refine caseB_false ?_; conv => whnf) | ((with_reducible refine caseB_dec (fun h => ?_) (fun h => ?_)) <;> conv => whnf) | ((with_reducible refine caseB_ndec (fun h => ?_) (fun h => ?_)) <;> conv => whnf) | ((with_reducible refine caseB_not (fun h => ?_) (fun h => ?_)) <;> conv => whnf) | (refine Ret.go (w2) ?_; conv => whnf) | (with_reducible refine @And.intro (guardVC _ _ _ _ _) _ ?_ ?_) <;> conv => whnf | (refine caseB_intro (fun h => ?_) (fun h => ?_) <;> (try simp only [Bool.not_eq_true', Bool.not_eq_false', decide_eq_true_eq, decide_eq_false_iff_not] at h) <;> conv => whnf))
    · rw [if_pos h] at e
      exact ⟨_, PH.Le.refl _, ⟨p.extract 0 i, true, p.extract (IntKind.i64.wrap ((i : Int) + 1)).toNat p.size⟩, by rw [e]; rfl, (fun y hy => by rw [e] at hy; exact Option.some.inj hy), PH.Le.refl _⟩
    · rw [if_neg (by rw [h]; decide)] at e
      refine ACall.step hu fun r M2 hh => ?_
      obtain ⟨x, rfl, hx2, l2⟩ := hh
      conv => whnf
      cases hq : unqF (p.extract (IntKind.i64.wrap ((i : Int) + 1)).toNat p.size) with
      | none =>
        try rw [hq] at e
        exact ⟨_, PH.Le.refl _, ⟨p.extract 0 i, true, x⟩, by rw [e]; rfl, (fun y hy => by rw [e] at hy; cases hy), l2⟩
      | some z =>
        try rw [hq] at e
        have hz := hx2 z hq
        exact ⟨_, PH.Le.refl _, ⟨p.extract 0 i, true, x⟩, by rw [e]; rfl, (fun y hy => by rw [e] at hy; rw [hz]; exact Option.some.inj hy), l2⟩
  · have hie : i = p.size := by have : ¬ (i : Int) < p.size := by assumption
                                omega
    have E : eqK p = -1 := indexByte_no p.data.toList 61 fun y hy => by
      obtain ⟨j, hj, rfl⟩ := List.getElem_of_mem hy
      exact bt_ne hj (hno j (by omega))
    have ex : p.extract 0 i = p := by rw [hie]; exact ext_all p
    have wp := isWord_spec (p.extract 0 i) M1 (by rw [ex]; omega)
    have e : itemF p = if wordT (p.extract 0 i) = true then some ⟨p, false, ByteArray.empty⟩ else none := by rw [ex]; exact if_pos (by rw [E]; decide)
    repeat' (first | (refine ⟨⟨[], rfl⟩, _, PH.Le.refl _, PH.Le.refl _, ?_⟩; conv => whnf) | (refine ⟨⟨by omega, by omega, by omega⟩, ?_⟩; conv => whnf) | (refine caseB_true ?_; conv => whnf) | (refine caseB_false ?_; conv => whnf) | ((with_reducible refine caseB_dec (fun h => ?_) (fun h => ?_)) <;> conv => whnf) | ((with_reducible refine caseB_ndec (fun h => ?_) (fun h => ?_)) <;> conv => whnf) | ((with_reducible refine caseB_not (fun h => ?_) (fun h => ?_)) <;> conv => whnf) | (refine Ret.go (wp) ?_; conv => whnf) | (with_reducible refine @And.intro (guardVC _ _ _ _ _) _ ?_ ?_) <;> conv => whnf | (refine caseB_intro (fun h => ?_) (fun h => ?_) <;> (try simp only [Bool.not_eq_true', Bool.not_eq_false', decide_eq_true_eq, decide_eq_false_iff_not] at h) <;> conv => whnf))
    · rw [if_neg (by rw [h]; decide)] at e
      exact ⟨_, PH.Le.refl _, ⟨ByteArray.empty, false, ByteArray.empty⟩, by rw [e]; rfl, (fun y hy => by rw [e] at hy; cases hy), PH.Le.refl _⟩
    · have h1 : wordT (p.extract 0 i) = true := by assumption
      rw [if_pos h1] at e
      exact ⟨_, PH.Le.refl _, ⟨p, false, ByteArray.empty⟩, by rw [e]; rfl, (fun y hy => by rw [e] at hy; exact Option.some.inj hy), PH.Le.refl _⟩
    · exfalso
      exact h (by show (i : Int) = p.size; omega)
end Go.Proofs.YtdgipmlkkmmliaaGreatDoor
