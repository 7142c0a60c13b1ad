/-
  CONTRACTS: the values of a name among head lines; texts joined.
-/
import Derived.Test.YtdgipmlkkmmliaaGreatDoorTd
import Derived.Test.YtdgipmlkkmmliaaGreatDoorOa
import Derived.Lib.Join
namespace Go.Proofs.YtdgipmlkkmmliaaGreatDoor
set_option maxRecDepth 100000
set_option linter.unusedSimpArgs false
set_option linter.unusedVariables false
open Go.Xe
theorem st_one (x : ByteArray) : ∀ v ∈ stC x, v.oneCell' = true := by intro v hv; simp at hv; subst hv; rfl
theorem st_fits (n m : Nat) (h : n + m ≤ 4194304) : (n + m) * ti9.bytes ≤ 140737488355328 := by
  unfold ti9
  show (n + m) * 16 ≤ _
  omega
def vals (ws : List Hd) (nm : ByteArray) : List ByteArray := (ws.filter fun h => alikeT h.n nm).map (·.v)
theorem vals_le (ws : List Hd) (nm : ByteArray) : (vals ws nm).length ≤ ws.length := by unfold vals; rw [List.length_map]; exact List.length_filter_le _ _
theorem vals_yes {ws : List Hd} {nm : ByteArray} {i : Nat} (hi : i < ws.length) (h : alikeT ws[i].n nm = true) : vals (ws.take (i + 1)) nm = vals (ws.take i) nm ++ [ws[i].v] := by
  unfold vals
  rw [List.take_succ_eq_append_getElem hi, List.filter_append, List.map_append]
  simp [h]
theorem vals_no {ws : List Hd} {nm : ByteArray} {i : Nat} (hi : i < ws.length) (h : alikeT ws[i].n nm = false) : vals (ws.take (i + 1)) nm = vals (ws.take i) nm := by
  unfold vals
  rw [List.take_succ_eq_append_getElem hi, List.filter_append, List.map_append]
  simp [h]
abbrev G1 := Nat × Option Nat × Option Addr × Nat
theorem valuesOf_ret (A : Option Addr) (c : Nat) (ws : List Hd) (nm : ByteArray) (M : PH) (hs : Sl M A 2 Hd.cs ws) (hn : ws.length ≤ 1048576) (ho : ∀ x ∈ ws, x.okl) (hnm : nm.size ≤ maxLen) :
    ACall env 93 [.slice A ws.length c, Tx nm] M fun r M' => ∃ o A' c', r = .slice A' (vals ws nm).length c' ∧ A'.isSome = true ∧ New M M' o A' c' 1 stC (vals ws nm) := by
  refine xcall_of_vc Tryz.func93 rfl _ Tryz.ntmps93 _ rfl (fun _ _ => Tryz.call93 _ _) rfl (fun w0 ρ0 => ?_)
  conv => whnf
  intro g1 hg1
  conv => whnf
  have l0 := PH.Le.set (.cells (#[] : Array Value) 9 (0, 0)) hg1
  refine loop_rule (fun z : G1 => ⟨slots 26 [(0, .v (.slice A ws.length c)), (1, .v (Tx nm)), (5, .v (.slice z.2.2.1 (vals (ws.take z.1) nm).length z.2.2.2)), (9, .v (.slice A ws.length c)), (10, .v (I ws.length)), (11, .v (I z.1))], []⟩)
    (fun z M' => z.1 ≤ ws.length ∧ z.2.2.1.isSome = true ∧ New M M' z.2.1 z.2.2.1 z.2.2.2 1 stC (vals (ws.take z.1) nm)) (fun z => ws.length - z.1) (0, none, some ⟨g1, 0, none⟩, 0) ?_ ?_ ?_
  · exact ⟨by simp [slots, leT, vals], ⟨[], rfl⟩, Nat.zero_le _, rfl, rfl⟩
  · exact ⟨Nat.zero_le _, rfl, Ow.nil, l0, fun g e => nomatch e⟩
  rintro ⟨i, o, B, d⟩ M1 ⟨hi, hB, hN⟩
  have hi : i ≤ ws.length := hi
  have hB : B.isSome = true := hB
  have hN : New M M1 o B d 1 stC (vals (ws.take i) nm) := hN
  have hlt := Nat.le_trans (vals_le (ws.take i) nm) (by simp; omega : (ws.take i).length ≤ ws.length)
  conv => whnf
  refine caseB_dec (fun h0 => ?_) (fun h0 => ?_)
  · have h0 : (i : Int) < ws.length := h0
    have hi' : i < ws.length := by omega
    have hw : IntKind.i64.wrap ((i : Int) + 1) = (i : Int) + 1 := wr_id (by omega) (by omega)
    obtain ⟨hA, _, hc⟩ := (hs.mono hN.le).get hi'
    have hx := ho ws[i] (List.getElem_mem hi')
    conv => whnf
    refine ⟨by omega, by omega, hA, ?_⟩
    conv => whnf
    refine ⟨ws[i].cs, hc, rfl, ?_⟩
    conv => whnf
    refine Ret.go (alike_ret _ _ _ hx.1 hnm) ?_
    conv => whnf
    refine caseB_intro (fun h => ?_) (fun h => ?_)
    · have e1 := vals_yes hi' h
      conv => whnf
      intro g0 hg0
      conv => whnf
      have l1 := PH.Le.set (.cells ([ws[i].v].flatMap stC).toArray 9 (0, 0)) hg0
      have hS := sl_full st_len M1 g0 [ws[i].v] 9 (0, 0)
      refine app_sl (te := ti9) (f := stC) (xs := vals (ws.take i) nm) (ys := [ws[i].v]) (o := o) hS (hN.ow.mono l1) st_len st_one rfl (st_fits _ _ (by show _ + 1 ≤ _; omega)) (by show _ + 1 ≤ _; omega) fun o' A' c' M' hO hK hF => ?_
      conv => whnf
      refine ⟨(i + 1, o', A', c'), ⟨by simp [slots, leT, hw, e1], ⟨_, rfl⟩, Nat.zero_le _, rfl, rfl⟩, ⟨hi', ?_, by show New _ _ _ _ _ _ _ _; rw [e1]; exact hN.more l1 hK hO hF⟩, by show _ - (i + 1) < _ - i; omega⟩
      exact (hO.sl st_len).ne (by simp)
    · have e1 := vals_no hi' h
      conv => whnf
      exact ⟨(i + 1, o, B, d), ⟨by simp [slots, leT, hw, e1], ⟨_, rfl⟩, Nat.zero_le _, rfl, rfl⟩, ⟨hi', hB, by show New _ _ _ _ _ _ _ _; rw [e1]; exact hN⟩, by show _ - (i + 1) < _ - i; omega⟩
  · have hi' : i = ws.length := by have : ¬ (i : Int) < ws.length := h0; omega
    subst hi'
    rw [List.take_length] at hN
    conv => whnf
    exact ⟨_, PH.Le.refl _, o, B, d, by rw [List.take_length]; rfl, hB, hN⟩
/-! ### Joined -/
def sepB : ByteArray := ⟨#[44, 32]⟩
def jn (xs : List ByteArray) : ByteArray := ⟨(Lib.join (xs.map (·.data.toList)) [44, 32]).toArray⟩
theorem ba_ext {a b : ByteArray} (h : a.data.toList = b.data.toList) : a = b := by
  cases a; cases b
  congr 1
  exact Array.ext' h
theorem jn_nil : jn [] = ByteArray.empty := rfl
theorem jn_one (x : ByteArray) : jn [x] = x := ba_ext (by simp [jn, Lib.join_one])
theorem jn_snoc {xs : List ByteArray} (h : xs ≠ []) (y : ByteArray) : jn (xs ++ [y]) = jn xs ++ sepB ++ y := by
  obtain ⟨x, r, rfl⟩ := List.exists_cons_of_ne_nil h
  apply ba_ext
  simp [jn, Lib.join_cons, Lib.joinTail, sepB]
theorem jn_size {xs : List ByteArray} (n : Nat) (h : (xs.map fun x => x.size + 2).sum ≤ n) : (jn xs).size ≤ n := by
  rw [size_list]
  cases xs with
  | nil => simp [jn, Lib.join_nil]
  | cons x r =>
    simp only [jn, List.map_cons, Lib.join_cons, Lib.joinTail, List.length_append, List.length_flatten, List.map_map, List.sum_cons] at h ⊢
    have e : (List.map (List.length ∘ ((fun x => ([44, 32] : List UInt8) ++ x) ∘ fun x : ByteArray => x.data.toList)) r) = r.map fun x => x.size + 2 := by
      apply List.map_congr_left
      intro y _
      show (([44, 32] : List UInt8) ++ y.data.toList).length = y.size + 2
      rw [size_list y, List.length_append]
      show 2 + _ = _
      omega
    rw [e, ← size_list]
    omega
theorem costL_take {α : Type} (f : α → Nat) (ws : List α) (i : Nat) : costL f (ws.take i) ≤ costL f ws := by
  have h := List.take_append_drop i ws
  have : costL f ws = costL f (ws.take i) + costL f (ws.drop i) := by
    conv => lhs; rw [← h]
    simp only [costL, List.length_append, List.map_append, List.sum_append]
    omega
  omega
theorem cat_fits {a b : ByteArray} (h : a.size + b.size ≤ 9223372036854775807) : ((a.size + b.size : Nat) : Int) ≤ IntKind.i64.max := by
  have : IntKind.i64.max = 9223372036854775807 := by decide
  omega
theorem vals_sum (ws : List Hd) (nm : ByteArray) : ((vals ws nm).map fun x => x.size + 2).sum ≤ 2 * costL Hd.cost ws := by
  unfold vals costL
  induction ws with
  | nil => simp
  | cons x r ih =>
    simp only [List.filter_cons]
    split
    · simp only [List.map_cons, List.sum_cons, List.length_cons, Hd.cost] at ih ⊢
      omega
    · simp only [List.map_cons, List.sum_cons, List.length_cons] at ih ⊢
      omega
theorem l4Join_ret (A : Option Addr) (c : Nat) (ws : List Hd) (nm : ByteArray) (M : PH) (hs : Sl M A 2 Hd.cs ws) (hco : costL Hd.cost ws ≤ 2097152) (ho : ∀ x ∈ ws, x.okl) (hnm : nm.size ≤ maxLen) :
    Ret 106 [.slice A ws.length c, Tx nm] M (.tuple #[Tx (jn (vals ws nm)), B (!(vals ws nm).isEmpty)]) := by
  have hn := Nat.le_trans (costL_len Hd.cost ws) hco
  have hcoT : ∀ i, costL Hd.cost (ws.take i) ≤ 2097152 := fun i => Nat.le_trans (costL_take _ _ _) hco
  refine xcall_of_vc Tryz.func106 rfl _ Tryz.ntmps106 _ rfl (fun _ _ => Tryz.call106 _ _) rfl (fun w0 ρ0 => ?_)
  conv => whnf
  refine loop_rule (fun i : Nat => ⟨slots 35 [(0, .v (.slice A ws.length c)), (1, .v (Tx nm)), (6, .v (Tx (jn (vals (ws.take i) nm)))), (7, .v (B (!(vals (ws.take i) nm).isEmpty))), (8, .v (I i))], []⟩) (fun i M' => i ≤ ws.length ∧ M' = M) (fun i => ws.length - i) 0 ?_ ?_ ?_
  · exact ⟨by simp [slots, leT, vals, jn_nil]; rfl, ⟨[], rfl⟩, Nat.zero_le _, rfl, rfl⟩
  · exact ⟨Nat.zero_le _, rfl⟩
  rintro i M' ⟨hi, rfl⟩
  conv => whnf
  refine caseB_dec (fun h0 => ?_) (fun h0 => ?_)
  · have h0 : (i : Int) < ws.length := h0
    have hi' : i < ws.length := by omega
    have hw : IntKind.i64.wrap ((i : Int) + 1) = (i : Int) + 1 := wr_id (by omega) (by omega)
    obtain ⟨hA, _, hc⟩ := hs.get hi'
    have hx := ho ws[i] (List.getElem_mem hi')
    have hz := jn_size _ (vals_sum (ws.take i) nm)
    have hc1 := hcoT i
    have hv : ws[i].v.size ≤ 2097152 := by
      have := costL_le (f := Hd.cost) (List.getElem_mem hi')
      have e : Hd.cost ws[i] = ws[i].n.size + ws[i].v.size := rfl
      omega
    have ey : alikeT ws[i].n nm = true → vals (ws.take (i + 1)) nm = vals (ws.take i) nm ++ [ws[i].v] := vals_yes hi'
    have en : alikeT ws[i].n nm = false → vals (ws.take (i + 1)) nm = vals (ws.take i) nm := vals_no hi'
    generalize vals (ws.take i) nm = us at *
    generalize ws[i] = x at *
    conv => whnf
    repeat' (first | (refine ⟨⟨[], rfl⟩, _, PH.Le.refl _, PH.Le.refl _, ?_⟩; conv => whnf) | (refine ⟨cat_fits (by (try rw [ByteArray.size_append]); (try show _ + 2 + _ ≤ _); (try show _ + 2 ≤ _); omega), ?_⟩; conv => whnf) | (refine ⟨_, cells_cut hc 1 rfl, ?_⟩; conv => whnf) | (refine ⟨_, cells_cut hc 0 rfl, ?_⟩; conv => whnf) | (refine ⟨by omega, by omega, hA, ?_⟩; conv => whnf) | (refine caseB_true ?_; conv => whnf) | (refine caseB_false ?_; conv => whnf) | ((with_reducible refine caseB_dec (fun h => ?_) (fun h => ?_)) <;> conv => whnf) | ((with_reducible refine caseB_ndec (fun h => ?_) (fun h => ?_)) <;> conv => whnf) | ((with_reducible refine caseB_not (fun h => ?_) (fun h => ?_)) <;> conv => whnf) | (refine Ret.go (l4Alike_ret _ _ _ hx.1 hnm) ?_; conv => whnf) | (with_reducible refine @And.intro (guardVC _ _ _ _ _) _ ?_ ?_) <;> conv => whnf | (refine caseB_intro (fun h => ?_) (fun h => ?_) <;> (try simp only [Bool.not_eq_true', Bool.not_eq_false', decide_eq_true_eq, decide_eq_false_iff_not] at h) <;> conv => whnf))
    · exact ⟨i + 1, ⟨by simp [slots, leT, hw, en h], ⟨_, rfl⟩, Nat.zero_le _, rfl, rfl⟩, ⟨by omega, rfl⟩, by omega⟩
    · have e1 := ey (by assumption)
      have hne : us ≠ [] := by rintro rfl; cases h
      exact ⟨i + 1, ⟨by simp [slots, leT, hw, e1, jn_snoc hne, sepB], ⟨_, rfl⟩, Nat.zero_le _, rfl, rfl⟩, ⟨by omega, rfl⟩, by omega⟩
    · have e1 := ey (by assumption)
      have hus : us = [] := by simpa using h
      subst hus
      exact ⟨i + 1, ⟨by simp [slots, leT, hw, e1, jn_nil, jn_one], ⟨_, rfl⟩, Nat.zero_le _, rfl, rfl⟩, ⟨by omega, rfl⟩, by omega⟩
  · have hi' : i = ws.length := by have : ¬ (i : Int) < ws.length := h0; omega
    subst hi'
    conv => whnf
    exact ⟨_, PH.Le.refl _, by rw [List.take_length]; rfl, rfl⟩
end Go.Proofs.YtdgipmlkkmmliaaGreatDoor
