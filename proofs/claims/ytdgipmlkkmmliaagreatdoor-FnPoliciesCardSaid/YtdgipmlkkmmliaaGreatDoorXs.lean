/-
  SLICES: what is known of the rows of a slice; how a slice that was made is filled; what a slice that came in holds.
-/
import Derived.Test.YtdgipmlkkmmliaaGreatDoorXe
import Derived.Test.YtdgipmlkkmmliaaGreatDoorXr
set_option linter.unusedVariables false
namespace Go.Xe
/-- The slice at A holds the rows xs, each of sz cells, as far as M tells. -/
structure Sl {α : Type} (M : PH) (A : Option Addr) (sz : Nat) (f : α → List Value) (xs : List α) : Prop where
  ne : xs ≠ [] → A.isSome = true
  at_ : ∀ (i : Nat) x, xs[i]? = some x → (f x).length = sz ∧ M.cells A (i * sz) (f x)
theorem PH.Le.cell {M M' : PH} (h : M.Le M') {p : Addr} {x : Value} (hp : M.cell p = some x) : M'.cell p = some x := by
  unfold PH.cell at *
  cases hm : M p.block with
  | none => rw [hm] at hp; cases hp
  | some o => rw [hm] at hp; rw [h _ _ hm]; exact hp
theorem PH.Le.cells {M M' : PH} (h : M.Le M') {A : Option Addr} {o : Nat} {cs : List Value} (hp : M.cells A o cs) : M'.cells A o cs := by
  obtain ⟨a, ha, hc⟩ := hp
  exact ⟨a, ha, fun j x hx => h.cell (hc j x hx)⟩
section
variable {α : Type} {M M' : PH} {A : Option Addr} {sz : Nat} {f : α → List Value} {xs : List α}
theorem Sl.mono (h : Sl M A sz f xs) (hM : M.Le M') : Sl M' A sz f xs := ⟨h.ne, fun i x hx => ⟨(h.at_ i x hx).1, hM.cells (h.at_ i x hx).2⟩⟩
theorem Sl.get (h : Sl M A sz f xs) {i : Nat} (hi : i < xs.length) : A.isSome = true ∧ (f xs[i]).length = sz ∧ M.cells A (i * sz) (f xs[i]) :=
  ⟨h.ne (by intro e; rw [e] at hi; cases hi), h.at_ i _ (List.getElem?_eq_getElem hi)⟩
end

theorem set_set (M : PH) (g : Nat) (o o' : Obj) : (M.set g o).set g o' = M.set g o' := by
  funext k
  unfold PH.set
  split <;> rfl
/-- A row half filled. -/
def rowsL {α : Type} (f : α → List Value) (z : List Value) (xs : List α) (n : Nat) : List Value := xs.flatMap f ++ (List.replicate (n - xs.length) z).flatten
section
variable {α : Type} {f : α → List Value} {z : List Value} {sz : Nat}
theorem flatMap_length (hf : ∀ x, (f x).length = sz) : ∀ xs : List α, (xs.flatMap f).length = xs.length * sz
  | [] => by simp
  | x :: xs => by simp [List.flatMap_cons, hf, flatMap_length hf xs, Nat.succ_mul, Nat.add_comm]
theorem repl_length (hz : z.length = sz) (n : Nat) : ((List.replicate n z).flatten).length = n * sz := by
  induction n with
  | zero => simp
  | succ n ih => simp [List.replicate_succ, ih, hz, Nat.succ_mul, Nat.add_comm]
theorem rowsL_length (hf : ∀ x, (f x).length = sz) (hz : z.length = sz) (xs : List α) (n : Nat) (h : xs.length ≤ n) : (rowsL f z xs n).length = n * sz := by
  rw [rowsL, List.length_append, flatMap_length hf, repl_length hz, ← Nat.add_mul]
  congr 1; omega
theorem rowsL_step (hf : ∀ x, (f x).length = sz) (hz : z.length = sz) (xs : List α) (x : α) (n : Nat) (h : xs.length < n) : spl (rowsL f z xs n) (xs.length * sz) (f x) = rowsL f z (xs ++ [x]) n := by
  obtain ⟨m, hm⟩ : ∃ m, n - xs.length = m + 1 := ⟨n - xs.length - 1, by omega⟩
  have hm' : n - (xs ++ [x]).length = m := by simp; omega
  have hl := flatMap_length hf xs
  unfold spl rowsL
  rw [hm, hm', List.replicate_succ, List.flatten_cons, List.flatMap_append]
  rw [← hl, List.take_left, hf, ← hz, ← List.append_assoc, ← List.length_append, List.drop_left]
  simp
theorem rowsL_take (hf : ∀ x, (f x).length = sz) (hz : z.length = sz) (xs : List α) {i : Nat} (h : i < xs.length) : spl (rowsL f z (xs.take i) xs.length) (i * sz) (f xs[i]) = rowsL f z (xs.take (i + 1)) xs.length := by
  have hl : (xs.take i).length = i := by simp; omega
  have := rowsL_step hf hz (xs.take i) xs[i] xs.length (by omega)
  rw [hl] at this
  rw [this, List.take_succ_eq_append_getElem h]
theorem rowsL_full (xs : List α) : rowsL f z xs xs.length = xs.flatMap f := by simp [rowsL]
theorem flatMap_get (hf : ∀ x, (f x).length = sz) : ∀ (xs : List α) (i : Nat) (x : α), xs[i]? = some x → ∀ (j : Nat) v, (f x)[j]? = some v → (xs.flatMap f)[i * sz + j]? = some v
  | [], i, x, h, _, _, _ => by simp at h
  | y :: xs, 0, x, h, j, v, hv => by
    simp at h; subst h
    have hj : j < (f y).length := (List.getElem?_eq_some_iff.1 hv).1
    rw [List.flatMap_cons, Nat.zero_mul, Nat.zero_add, List.getElem?_append_left hj]; exact hv
  | y :: xs, i + 1, x, h, j, v, hv => by
    rw [List.flatMap_cons, List.getElem?_append_right (by rw [hf, Nat.succ_mul]; omega), hf]
    rw [show (i + 1) * sz + j - sz = i * sz + j by rw [Nat.succ_mul]; omega]
    exact flatMap_get hf xs i x (by simpa using h) j v hv
theorem sl_full (hf : ∀ x, (f x).length = sz) (M : PH) (g : Nat) (xs : List α) (ty : TypeId) (fz : Nat × Nat) : Sl (M.set g (.cells (xs.flatMap f).toArray ty fz)) (some ⟨g, 0, none⟩) sz f xs := by
  refine ⟨fun _ => rfl, fun i x hx => ⟨hf x, ⟨g, 0, none⟩, rfl, fun j v hv => ?_⟩⟩
  rw [add_at, Nat.zero_add]
  simp only [PH.cell, PH.set_same, Option.isSome_none, Bool.false_eq_true, if_false, List.getElem?_toArray]
  exact flatMap_get hf xs i x hx j v hv
theorem made_rows (z : Array Value) (n : Nat) : (madeCells z (n * z.size)) = (rowsL (α := Unit) (fun _ => []) z.toList [] n).toArray := by
  apply Array.ext'
  simp only [rowsL, List.flatMap_nil, List.nil_append, List.length_nil, Nat.sub_zero]
  unfold madeCells
  rw [Array.toList_map, Array.toList_range]
  induction n with
  | zero => simp
  | succ n ih =>
    rw [List.replicate_succ', List.flatten_append, ← ih, Nat.succ_mul, List.range_add, List.map_append]
    congr 1
    simp only [List.flatten_cons, List.flatten_nil, List.append_nil, List.map_map]
    apply List.ext_getElem?
    intro i
    by_cases hi : i < z.size
    · simp [hi, Nat.mod_eq_of_lt hi]
    · simp [hi]
theorem made_rows' (f : α → List Value) (z : Array Value) (n : Nat) : (madeCells z (n * z.size)) = (rowsL f z.toList [] n).toArray := made_rows z n
end

theorem cell_whole (W : World) (p : Addr) : (whole W).cell p = W.cell? p := by
  unfold PH.cell World.cell? whole
  rfl
theorem exists_list {α : Type} {P : Nat → α → Prop} : ∀ n : Nat, (∀ i, i < n → ∃ x, P i x) → ∃ xs : List α, xs.length = n ∧ ∀ (i : Nat) x, xs[i]? = some x → P i x
  | 0, _ => ⟨[], rfl, by simp⟩
  | n + 1, h => by
    obtain ⟨xs, hl, hx⟩ := exists_list n fun i hi => h i (by omega)
    obtain ⟨x, hn⟩ := h n (by omega)
    refine ⟨xs ++ [x], by simp [hl], fun i y hy => ?_⟩
    rw [List.getElem?_append] at hy
    split at hy
    · exact hx i y hy
    · rename_i hi
      have : i = n := by
        have := (List.getElem?_eq_some_iff.1 hy).1
        simp at this; omega
      subst this
      simp [hl] at hy; subst hy; exact hn
/-- A slice that came in. -/
theorem open_sl {α : Type} {W : World} {e : Sh} {sz : Nat} {cs : List Value} (f : α → List Value) (hd : ∀ es, e.ok W es → ∃ x, es = f x) (h : (Sh.slice e sz).ok W cs) :
    ∃ (A : Option Addr) (c : Nat) (xs : List α), cs = [.slice A xs.length c] ∧ Sl (whole W) A sz f xs ∧ xs.length ≤ maxLen := by
  rcases h with h | ⟨a, len, cap, h, hl, hc, hi⟩
  · exact ⟨none, 0, [], h, ⟨fun h => absurd rfl h, by simp⟩, Nat.zero_le _⟩
  · obtain ⟨xs, hlen, hx⟩ := exists_list (P := fun i x => (f x).length = sz ∧ ∀ (j : Nat) v, (f x)[j]? = some v → W.cell? (a.add (i * sz + j)) = some v) len fun i hil => by
      obtain ⟨es, h1, h2, h3⟩ := hi i hil
      obtain ⟨x, rfl⟩ := hd es h2
      exact ⟨x, h1, h3⟩
    refine ⟨some a, cap, xs, by rw [hlen]; exact h, ⟨fun _ => rfl, fun i x hix => ⟨(hx i x hix).1, a, rfl, fun j v hv => ?_⟩⟩, by omega⟩
    rw [cell_whole]
    exact (hx i x hix).2 j v hv

/-- The slots of a walk, but for these unknown. -/
def slots (n : Nat) (l : List (Nat × AV)) : List AV := l.foldl (fun t p => t.set p.1 p.2) (List.replicate n .junk)
noncomputable def sameB {α : Type} (x y : α) : Bool := @decide (x = y) (Classical.propDecidable _)
theorem sameB_true {α : Type} {x y : α} (h : x = y) : sameB x y = true := @decide_eq_true _ (Classical.propDecidable _) h
theorem sameB_false {α : Type} {x y : α} (h : x ≠ y) : sameB x y = false := @decide_eq_false _ (Classical.propDecidable _) h
theorem sameB_iff {α : Type} {x y : α} : sameB x y = true ↔ x = y := @decide_eq_true_iff _ (Classical.propDecidable _)
theorem take_step {α : Type} {xs ys : List α} {i : Nat} (h : xs.take i = ys.take i) (hx : i < xs.length) (hy : i < ys.length) (e : xs[i] = ys[i]) : xs.take (i + 1) = ys.take (i + 1) := by
  rw [List.take_succ_eq_append_getElem hx, List.take_succ_eq_append_getElem hy, h, e]
theorem take_all {α : Type} {xs ys : List α} {i : Nat} (h : xs.take i = ys.take i) (hx : xs.length ≤ i) (hy : ys.length ≤ i) : xs = ys := by
  rw [List.take_of_length_le hx, List.take_of_length_le hy] at h; exact h
end Go.Xe
