/-
  CONTRACTS: the values of a name among head lines; texts joined.
-/
import Derived.Test.YtgjaiabenjafeaaGreatDoorTd
import Derived.Test.YtgjaiabenjafeaaGreatDoorOa
import Derived.Lib.Join
namespace Go.Proofs.YtgjaiabenjafeaaGreatDoor
set_option maxRecDepth 100000
set_option linter.unusedSimpArgs false
set_option linter.unusedVariables false
open Go.Xe
theorem st_one (x : ByteArray) : ∀ v ∈ stC x, v.oneCell' = true := by intro v hv; simp at hv; subst hv; rfl
theorem st_fits (n m : Nat) (h : n + m ≤ 4194304) : (n + m) * ti9.bytes ≤ 140737488355328 := by
  unfold ti9
  show (n + m) * 16 ≤ _
  omega
def vals (ws : List Hd) (nm : ByteArray) : List ByteArray := (ws.filter fun h => alikeT h.n nm).map (·.v)
theorem vals_le (ws : List Hd) (nm : ByteArray) : (vals ws nm).length ≤ ws.length := by unfold vals; rw [List.length_map]; exact List.length_filter_le _ _
theorem vals_yes {ws : List Hd} {nm : ByteArray} {i : Nat} (hi : i < ws.length) (h : alikeT ws[i].n nm = true) : vals (ws.take (i + 1)) nm = vals (ws.take i) nm ++ [ws[i].v] := by
  unfold vals
  rw [List.take_succ_eq_append_getElem hi, List.filter_append, List.map_append]
  simp [h]
theorem vals_no {ws : List Hd} {nm : ByteArray} {i : Nat} (hi : i < ws.length) (h : alikeT ws[i].n nm = false) : vals (ws.take (i + 1)) nm = vals (ws.take i) nm := by
  unfold vals
  rw [List.take_succ_eq_append_getElem hi, List.filter_append, List.map_append]
  simp [h]
abbrev G1 := Nat × Option Nat × Option Addr × Nat
/-! ### Joined -/
def sepB : ByteArray := ⟨#[44, 32]⟩
def jn (xs : List ByteArray) : ByteArray := ⟨(Lib.join (xs.map (·.data.toList)) [44, 32]).toArray⟩
theorem ba_ext {a b : ByteArray} (h : a.data.toList = b.data.toList) : a = b := by
  cases a; cases b
  congr 1
  exact Array.ext' h
theorem jn_nil : jn [] = ByteArray.empty := rfl
theorem jn_one (x : ByteArray) : jn [x] = x := ba_ext (by simp [jn, Lib.join_one])
theorem jn_snoc {xs : List ByteArray} (h : xs ≠ []) (y : ByteArray) : jn (xs ++ [y]) = jn xs ++ sepB ++ y := by
  obtain ⟨x, r, rfl⟩ := List.exists_cons_of_ne_nil h
  apply ba_ext
  simp [jn, Lib.join_cons, Lib.joinTail, sepB]
theorem jn_size {xs : List ByteArray} (n : Nat) (h : (xs.map fun x => x.size + 2).sum ≤ n) : (jn xs).size ≤ n := by
  rw [size_list]
  cases xs with
  | nil => simp [jn, Lib.join_nil]
  | cons x r =>
    simp only [jn, List.map_cons, Lib.join_cons, Lib.joinTail, List.length_append, List.length_flatten, List.map_map, List.sum_cons] at h ⊢
    have e : (List.map (List.length ∘ ((fun x => ([44, 32] : List UInt8) ++ x) ∘ fun x : ByteArray => x.data.toList)) r) = r.map fun x => x.size + 2 := by
      apply List.map_congr_left
      intro y _
      show (([44, 32] : List UInt8) ++ y.data.toList).length = y.size + 2
      rw [size_list y, List.length_append]
      show 2 + _ = _
      omega
    rw [e, ← size_list]
    omega
theorem costL_take {α : Type} (f : α → Nat) (ws : List α) (i : Nat) : costL f (ws.take i) ≤ costL f ws := by
  have h := List.take_append_drop i ws
  have : costL f ws = costL f (ws.take i) + costL f (ws.drop i) := by
    conv => lhs; rw [← h]
    simp only [costL, List.length_append, List.map_append, List.sum_append]
    omega
  omega
theorem cat_fits {a b : ByteArray} (h : a.size + b.size ≤ 9223372036854775807) : ((a.size + b.size : Nat) : Int) ≤ IntKind.i64.max := by
  have : IntKind.i64.max = 9223372036854775807 := by decide
  omega
theorem vals_sum (ws : List Hd) (nm : ByteArray) : ((vals ws nm).map fun x => x.size + 2).sum ≤ 2 * costL Hd.cost ws := by
  unfold vals costL
  induction ws with
  | nil => simp
  | cons x r ih =>
    simp only [List.filter_cons]
    split
    · simp only [List.map_cons, List.sum_cons, List.length_cons, Hd.cost] at ih ⊢
      omega
    · simp only [List.map_cons, List.sum_cons, List.length_cons] at ih ⊢
      omega
end Go.Proofs.YtgjaiabenjafeaaGreatDoor
