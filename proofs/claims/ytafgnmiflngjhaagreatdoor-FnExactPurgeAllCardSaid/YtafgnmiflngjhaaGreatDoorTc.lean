/-
  TEXTS: small letters; blanks at both ends.
-/
import Derived.Test.YtafgnmiflngjhaaGreatDoorTb
namespace Go.Proofs.YtafgnmiflngjhaaGreatDoor
set_option maxRecDepth 100000
set_option linter.unusedSimpArgs false
set_option linter.unusedVariables false
open Go.Xe
def byI (b : ByteArray) : List Int := b.data.toList.map fun x => (x.toNat : Int)
theorem byI_length (b : ByteArray) : (byI b).length = b.size := by rw [byI, List.length_map, size_list]
def lowI (c : Int) : Int := if 65 ≤ c ∧ c ≤ 90 then c + 32 else c
def lowerB (b : ByteArray) : ByteArray := strOfNums ((byI b).map lowI)
/-- The first i bytes are small, the others as they were; behind them the room. -/
def lowC (b : ByteArray) (i z : Nat) : List Value := (((byI b).take i).map lowI ++ (byI b).drop i).map Y ++ List.replicate z (Y 0)
theorem lowC_zero (b : ByteArray) (z : Nat) : lowC b 0 z = b.data.toList.map (fun (x : UInt8) => Value.int .u8 (x.toNat : Int)) ++ List.replicate z (Y 0) := by
  simp [lowC, byI]
theorem lowC_length (b : ByteArray) (i z : Nat) (h : i ≤ b.size) : (lowC b i z).length = b.size + z := by
  have := byI_length b
  simp [lowC]; omega
theorem byI_get {b : ByteArray} {i : Nat} (h : i < b.size) : (byI b)[i]? = some (bt b i) := by
  rw [size_list] at h
  rw [byI, List.getElem?_map, List.getElem?_eq_getElem h, bt_get h]
  rfl
theorem lowC_get (b : ByteArray) (i z : Nat) (h : i < b.size) : (lowC b i z)[i]? = some (Y (bt b i)) := by
  have hl := byI_length b
  unfold lowC
  rw [List.getElem?_append_left (by simp; omega), List.getElem?_map, List.getElem?_append_right (by simp; omega), List.getElem?_drop]
  simp only [List.length_map, List.length_take]
  rw [show i + (i - min i (byI b).length) = i by omega, byI_get h]
  rfl
theorem lowC_next {b : ByteArray} {i : Nat} (h : i < b.size) : ((byI b).take (i + 1)).map lowI ++ (byI b).drop (i + 1) = (((byI b).take i).map lowI ++ (byI b).drop i).set i (lowI (bt b i)) := by
  have hl := byI_length b
  have hi : i < (byI b).length := by omega
  have he : (byI b)[i] = bt b i := by
    have := byI_get h
    rw [List.getElem?_eq_getElem hi] at this
    simpa using this
  rw [List.take_succ_eq_append_getElem hi, List.map_append, he, List.set_append_right _ _ (by simp; omega)]
  rw [List.drop_eq_getElem_cons hi]
  simp only [List.length_map, List.length_take]
  rw [show i - min i (byI b).length = 0 by omega, List.set_cons_zero]
  simp
theorem lowC_same {b : ByteArray} {i z : Nat} (h : i < b.size) (e : lowI (bt b i) = bt b i) : lowC b i z = lowC b (i + 1) z := by
  unfold lowC
  rw [lowC_next h, e]
  congr 2
  refine (List.ext_getElem? fun j => ?_)
  rw [List.getElem?_set]
  split
  · rename_i hj
    subst hj
    have hl := byI_length b
    rw [List.getElem?_append_right (by simp; omega), List.getElem?_drop]
    simp only [List.length_map, List.length_take]
    rw [show i + (i - min i (byI b).length) = i by omega, byI_get h]
    rw [if_pos (by simp; omega)]
  · rfl
theorem lowC_step {b : ByteArray} {i z : Nat} (h : i < b.size) {v : Int} (e : v = lowI (bt b i)) : spl (lowC b i z) (0 + i * 1) [Y v] = lowC b (i + 1) z := by
  have hl := byI_length b
  rw [Nat.zero_add, Nat.mul_one, e]
  unfold lowC
  rw [lowC_next h]
  generalize hxs : ((byI b).take i).map lowI ++ (byI b).drop i = xs
  have hx : xs.length = b.size := by rw [← hxs]; simp; omega
  unfold spl
  rw [List.set_eq_take_append_cons_drop, if_pos (by omega)]
  rw [List.take_append_of_le_length (by simp; omega), List.drop_append_of_le_length (by simp; omega)]
  simp [List.map_take, List.map_drop]
theorem low_sum {c : Int} (h0 : 65 ≤ c) (h1 : c ≤ 90) : IntKind.u8.wrap (IntKind.u8.wrap (c + 97) - 65) = lowI c := by
  unfold lowI
  rw [if_pos ⟨h0, h1⟩]
  simp only [IntKind.wrap, IntKind.bits, IntKind.signed, Bool.false_and, Bool.false_eq_true, if_false]
  omega
theorem low_sum' {c : Int} (h0 : 65 ≤ c) (h1 : c ≤ 90) : IntKind.u8.wrap (c + 32) = lowI c := by
  unfold lowI
  rw [if_pos ⟨h0, h1⟩]
  simp only [IntKind.wrap, IntKind.bits, IntKind.signed, Bool.false_and, Bool.false_eq_true, if_false]
  omega
theorem cells1 {M : PH} {g : Nat} {c : List Value} {ty : TypeId} {fz : Nat × Nat} (h : M g = some (.cells c.toArray ty fz)) {o : Nat} {x : Value} (hx : c[o]? = some x) : M.cells (some ⟨g, 0, none⟩) o [x] := by
  refine ⟨_, rfl, fun j y hy => ?_⟩
  match j, hy with
  | 0, hy =>
    simp at hy; subst hy
    rw [add_at]
    simp [PH.cell, h, hx]
theorem lowC_all {M : PH} {g z : Nat} {ty : TypeId} {fz : Nat × Nat} (b : ByteArray) (h : M g = some (.cells (lowC b b.size z).toArray ty fz)) : M.cells (some ⟨g, 0, none⟩) 0 (((byI b).map lowI).map Y) := by
  have hl := byI_length b
  refine ⟨_, rfl, fun j y hy => ?_⟩
  rw [add_at]
  simp only [PH.cell, h, Option.isSome_none, Bool.false_eq_true, if_false, List.getElem?_toArray]
  have hj := (List.getElem?_eq_some_iff.1 hy).1
  unfold lowC
  rw [List.drop_of_length_le (by omega), List.take_of_length_le (by omega), List.append_nil, Nat.zero_add, Nat.zero_add, List.getElem?_append_left hj]
  exact hy
def alikeT (a b : ByteArray) : Bool := seq (lowerB a) (lowerB b)
/-! ### Blanks at both ends -/
def blankB (c : Int) : Bool := decide (c = 32) || decide (c = 9)
theorem l1Blank_ret (c : Int) (M : PH) : Ret 231 [Y c] M (B (blankB c)) := by
  refine xcall_of_vc Tryz.func231 rfl _ Tryz.ntmps231 _ rfl (fun _ _ => Tryz.call231 _ _) rfl (fun w0 ρ0 => ?_)
  conv => whnf
  repeat' (first | (refine ⟨⟨[], rfl⟩, _, PH.Le.refl _, PH.Le.refl _, ?_⟩; conv => whnf) | (refine caseB_true ?_; conv => whnf) | (refine caseB_false ?_; conv => whnf) | ((with_reducible refine caseB_dec (fun h => ?_) (fun h => ?_)) <;> conv => whnf) | ((with_reducible refine caseB_ndec (fun h => ?_) (fun h => ?_)) <;> conv => whnf) | ((with_reducible refine caseB_not (fun h => ?_) (fun h => ?_)) <;> conv => whnf) | (with_reducible refine @And.intro (guardVC _ _ _ _ _) _ ?_ ?_) <;> conv => whnf | (refine caseB_intro (fun h => ?_) (fun h => ?_) <;> (try simp only [Bool.not_eq_true', Bool.not_eq_false', decide_eq_true_eq, decide_eq_false_iff_not] at h) <;> conv => whnf))
  all_goals refine ⟨_, PH.Le.refl _, ?_, rfl⟩
  all_goals simp [resV, blankB, *]
theorem blank_iff {b : ByteArray} {j : Nat} {x : UInt8} (h : b.data.toList[j]? = some x) : ([32, 9] : List UInt8).contains x = blankB (bt b j) := by
  obtain ⟨hj, e⟩ := List.getElem?_eq_some_iff.1 h
  rw [bt_get hj, e]
  have hx := UInt8.toNat_lt x
  unfold blankB
  rw [Bool.eq_iff_iff]
  simp only [List.contains_cons, List.contains_nil, Bool.or_false, Bool.or_eq_true, beq_iff_eq, decide_eq_true_eq, ← UInt8.toNat_inj]
  show x.toNat = 32 ∨ x.toNat = 9 ↔ _
  omega
theorem extract_list (b : ByteArray) (l h : Nat) : (b.extract l h).data.toList = (b.data.toList.take h).drop l := by
  simp [List.drop_take]
theorem trim_of {b : ByteArray} {l h : Nat} (h0 : l ≤ h) (h1 : h ≤ b.size) (hl : ∀ j : Nat, j < l → blankB (bt b j) = true) (hr : ∀ j : Nat, h ≤ j → j < b.size → blankB (bt b j) = true)
    (el : l < h → blankB (bt b l) = false) (er : l < h → blankB (bt b (h - 1 : Nat)) = false) : b.extract l h = trimB b := by
  have hs := size_list b
  have hlt : ∀ {j : Nat} {x : UInt8}, b.data.toList[j]? = some x → j < b.size := fun hx => by rw [hs]; exact (List.getElem?_eq_some_iff.1 hx).1
  have key : Lib.trimS b.data.toList [32, 9] = (b.data.toList.take h).drop l := by
    unfold Lib.trimS
    by_cases hlh : l < h
    · rw [Lib.trimRightS_take _ _ h (by omega) (fun j x hj hx => by rw [blank_iff hx]; exact hr j hj (hlt hx)) (fun x hp hx => by rw [blank_iff hx]; exact er hlh)]
      refine Lib.trimLeftS_drop _ _ l (by simp; omega) (fun j x hj hx => ?_) (fun x hx => ?_)
      · rw [List.getElem?_take_of_lt (by omega)] at hx
        rw [blank_iff hx]; exact hl j hj
      · rw [List.getElem?_take_of_lt (by omega)] at hx
        rw [blank_iff hx]; exact el hlh
    · have : l = h := by omega
      subst this
      have ha : ∀ (j : Nat) x, b.data.toList[j]? = some x → ([32, 9] : List UInt8).contains x = true := fun j x hx => by
        rw [blank_iff hx]
        by_cases hj : j < l
        · exact hl j hj
        · exact hr j (by omega) (hlt hx)
      rw [Lib.trimRightS_take _ _ 0 (Nat.zero_le _) (fun j x _ hx => ha j x hx) (fun x hp hx => absurd hp (by omega))]
      rw [List.take_zero, Lib.trimLeftS_nil, List.drop_of_length_le (by simp; omega)]
  unfold trimB
  rw [key, ← extract_list]
theorem l1Trim_ret (b : ByteArray) (M : PH) (hb : b.size ≤ maxLen) : Ret 212 [Tx b] M (Tx (trimB b)) := by
  have e63 : maxLen = 9223372036854775807 := rfl
  refine xcall_of_vc Tryz.func212 rfl _ Tryz.ntmps212 _ rfl (fun _ _ => Tryz.call212 _ _) rfl (fun w0 ρ0 => ?_)
  conv => whnf
  refine loop_rule (fun i : Nat => ⟨slots 34 [(0, .v (Tx b)), (3, .v (I i)), (4, .v (I b.size))], []⟩) (fun i M' => i ≤ b.size ∧ (∀ j : Nat, j < i → blankB (bt b j) = true) ∧ M' = M) (fun i => b.size - i) 0 ?_ ?_ ?_
  · exact ⟨by simp [slots, leT], ⟨[], rfl⟩, Nat.zero_le _, rfl, rfl⟩
  · exact ⟨Nat.zero_le _, fun j hj => absurd hj (Nat.not_lt_zero _), rfl⟩
  rintro i M' ⟨hi, hp, rfl⟩
  have hw : i < b.size → IntKind.i64.wrap ((i : Int) + 1) = (i : Int) + 1 := fun h => wr_id (by omega) (by omega)
  conv => whnf
  repeat' (first | (refine ⟨⟨[], rfl⟩, _, PH.Le.refl _, PH.Le.refl _, ?_⟩; conv => whnf) | (refine ⟨by omega, by omega, ?_⟩; conv => whnf) | (refine caseB_true ?_; conv => whnf) | (refine caseB_false ?_; conv => whnf) | ((with_reducible refine caseB_dec (fun h => ?_) (fun h => ?_)) <;> conv => whnf) | ((with_reducible refine caseB_ndec (fun h => ?_) (fun h => ?_)) <;> conv => whnf) | ((with_reducible refine caseB_not (fun h => ?_) (fun h => ?_)) <;> conv => whnf) | (refine Ret.go (l1Blank_ret _ _) ?_; conv => whnf) | (with_reducible refine @And.intro (guardVC _ _ _ _ _) _ ?_ ?_) <;> conv => whnf | (refine caseB_intro (fun h => ?_) (fun h => ?_) <;> (try simp only [Bool.not_eq_true', Bool.not_eq_false', decide_eq_true_eq, decide_eq_false_iff_not] at h) <;> conv => whnf))
  · exact ⟨i + 1, ⟨by simp [slots, leT, hw (by omega)], ⟨_, rfl⟩, Nat.zero_le _, rfl, rfl⟩, ⟨by omega, fun j hj => (Nat.lt_succ_iff_lt_or_eq.1 hj).elim (hp j) (fun e => by subst e; exact h), rfl⟩, by omega⟩
  all_goals have hx : i < b.size → blankB (bt b i) = false := (by first | (intro _; assumption) | (intro _; omega))
  all_goals clear hw
  all_goals refine loop_rule (fun h : Nat => ⟨slots 34 [(0, .v (Tx b)), (3, .v (I i)), (4, .v (I h))], []⟩) (fun h M'' => i ≤ h ∧ h ≤ b.size ∧ (∀ j : Nat, h ≤ j → j < b.size → blankB (bt b j) = true) ∧ M'' = M') (fun h => h) b.size ?_ ?_ ?_
  all_goals first
    | exact ⟨by simp [slots, leT], ⟨[], rfl⟩, Nat.zero_le _, rfl, rfl⟩
    | exact ⟨hi, Nat.le_refl _, fun j hj hj2 => absurd hj2 (by omega), rfl⟩
    | skip
  all_goals rintro k M'' ⟨hk1, hk2, hq, rfl⟩
  all_goals have hw : i < k → IntKind.i64.wrap ((k : Int) - 1) = ((k - 1 : Nat) : Int) := (fun h => by rw [wrap_id (by omega) (by omega)]; omega)
  all_goals conv => whnf
  all_goals (repeat' (first | (refine ⟨⟨[], rfl⟩, _, PH.Le.refl _, PH.Le.refl _, ?_⟩; conv => whnf) | (refine ⟨⟨by omega, by omega, by omega⟩, ?_⟩; conv => whnf) | (refine ⟨by rw [hw (by omega)]; omega, by rw [hw (by omega)]; omega, ?_⟩; conv => whnf) | (refine caseB_true ?_; conv => whnf) | (refine caseB_false ?_; conv => whnf) | ((with_reducible refine caseB_dec (fun h => ?_) (fun h => ?_)) <;> conv => whnf) | ((with_reducible refine caseB_ndec (fun h => ?_) (fun h => ?_)) <;> conv => whnf) | ((with_reducible refine caseB_not (fun h => ?_) (fun h => ?_)) <;> conv => whnf) | (refine Ret.go (l1Blank_ret _ _) ?_; conv => whnf) | (with_reducible refine @And.intro (guardVC _ _ _ _ _) _ ?_ ?_) <;> conv => whnf | (refine caseB_intro (fun h => ?_) (fun h => ?_) <;> (try simp only [Bool.not_eq_true', Bool.not_eq_false', decide_eq_true_eq, decide_eq_false_iff_not] at h) <;> conv => whnf)))
  all_goals first
    | (have hw1 := hw (by omega); exact ⟨k - 1, ⟨by simp [slots, leT, hw1], ⟨_, rfl⟩, Nat.zero_le _, rfl, rfl⟩, ⟨by omega, by omega, fun j hj hj2 => if e : j = k - 1 then (by subst e; rw [← hw1]; assumption) else hq j (by omega) hj2, rfl⟩, by omega⟩)
    | (refine ⟨_, PH.Le.refl _, ?_, rfl⟩; exact congrArg Tx (trim_of (l := i) (h := k) hk1 hk2 hp hq (fun _ => hx (by omega)) (fun h => by first | (rw [← hw h]; assumption) | omega)))
end Go.Proofs.YtafgnmiflngjhaaGreatDoor
