/-
  PLAIN WORDS: slices made since; the first of a list; a proposition as a Bool; the first fault of a list.
-/
import Derived.Test.YtdgipmlkkmmliaaGreatDoorLa
import Derived.Test.YtdgipmlkkmmliaaGreatDoorXo
namespace Go.Proofs.YtdgipmlkkmmliaaGreatDoor
set_option maxRecDepth 100000
set_option linter.unusedSimpArgs false
set_option linter.unusedVariables false
open Go.Xe
/-- A slice of one's own, made since M. -/
structure New {α : Type} (M M' : PH) (o : Option Nat) (A : Option Addr) (c sz : Nat) (f : α → List Value) (ws : List α) : Prop where
  ow : Ow M' o A c sz f ws
  le : M.Le M'
  fr : ∀ g, o = some g → M g = none
theorem New.nil {α : Type} {sz : Nat} {f : α → List Value} (M : PH) (A : Option Addr) : New M M none A 0 sz f ([] : List α) := ⟨Ow.nil, PH.Le.refl M, fun g h => nomatch h⟩
theorem none_of_le {M M' : PH} (h : M.Le M') {g : Nat} (hg : M' g = none) : M g = none := by
  cases hm : M g with
  | none => rfl
  | some o => rw [h _ _ hm] at hg; cases hg
theorem New.from {α : Type} {M₀ M M' : PH} {o : Option Nat} {A : Option Addr} {c sz : Nat} {f : α → List Value} {ws : List α} (h : New M M' o A c sz f ws) (l : M₀.Le M) : New M₀ M' o A c sz f ws := ⟨h.ow, l.trans h.le, fun g e => none_of_le l (h.fr g e)⟩
theorem New.to {α : Type} {M M' M'' : PH} {o : Option Nat} {A : Option Addr} {c sz : Nat} {f : α → List Value} {ws : List α} (h : New M M' o A c sz f ws) (l : M'.Le M'') : New M M'' o A c sz f ws := ⟨h.ow.mono l, h.le.trans l, h.fr⟩
theorem set_none {M : PH} {g k : Nat} {o : Obj} (h : (M.set g o) k = none) : M k = none := by
  unfold PH.set at h
  split at h
  · cases h
  · exact h
/-- One more is put to a slice of one's own: the row of one that is laid down for it, the append. -/
theorem New.more {α : Type} {f : α → List Value} {sz : Nat} {M M1 M2 M3 : PH} {o o' : Option Nat} {A A' : Option Addr} {c c' : Nat} {ws us : List α} (h : New M M1 o A c sz f ws) (l : M1.Le M2) (k : Keeps o M2 M3) (hO : Ow M3 o' A' c' sz f us) (hF : o' = o ∨ ∃ g, o' = some g ∧ M2 g = none) : New M M3 o' A' c' sz f us :=
  ⟨hO, k.over (h.le.trans l) h.fr, fun g e => by
    rcases hF with h1 | ⟨g', h1, h2⟩
    · exact h.fr g (h1 ▸ e)
    · rw [h1] at e; cases e; exact none_of_le (h.le.trans l) h2⟩
/-- Two slices of one's own, made since M, in memory apart. -/
structure Two {α β : Type} (M M' : PH) (o1 : Option Nat) (A1 : Option Addr) (c1 s1 : Nat) (f1 : α → List Value) (xs : List α) (o2 : Option Nat) (A2 : Option Addr) (c2 s2 : Nat) (f2 : β → List Value) (ys : List β) : Prop where
  a : New M M' o1 A1 c1 s1 f1 xs
  b : New M M' o2 A2 c2 s2 f2 ys
  ne : ∀ g, o1 = some g → o2 ≠ some g
section
variable {α β : Type} {M M1 M2 M3 : PH} {o1 o2 o' : Option Nat} {A1 A2 A' : Option Addr} {c1 c2 c' s1 s2 : Nat} {f1 : α → List Value} {f2 : β → List Value} {xs us : List α} {ys vs : List β}
theorem Two.symm (h : Two M M1 o1 A1 c1 s1 f1 xs o2 A2 c2 s2 f2 ys) : Two M M1 o2 A2 c2 s2 f2 ys o1 A1 c1 s1 f1 xs := ⟨h.b, h.a, fun g e e' => h.ne g e' e⟩
theorem Two.more (h : Two M M1 o1 A1 c1 s1 f1 xs o2 A2 c2 s2 f2 ys) (l : M1.Le M2) (k : Keeps o1 M2 M3) (hO : Ow M3 o' A' c' s1 f1 us) (hF : o' = o1 ∨ ∃ g, o' = some g ∧ M2 g = none) : Two M M3 o' A' c' s1 f1 us o2 A2 c2 s2 f2 ys := by
  have ho := (h.b.ow.mono l)
  refine ⟨h.a.more l k hO hF, ⟨ho.keeps k (fun g e e' => h.ne g e' e), k.over (h.a.le.trans l) h.a.fr, h.b.fr⟩, fun g e e' => ?_⟩
  rcases hF with h1 | ⟨g', h1, h2⟩
  · exact h.ne g (h1 ▸ e) e'
  · rw [h1] at e; cases e
    obtain ⟨ob, hob⟩ := ho.known _ e'
    rw [h2] at hob; cases hob
theorem Two.from {M0 : PH} (h : Two M M1 o1 A1 c1 s1 f1 xs o2 A2 c2 s2 f2 ys) (l : M0.Le M) : Two M0 M1 o1 A1 c1 s1 f1 xs o2 A2 c2 s2 f2 ys := ⟨h.a.from l, h.b.from l, h.ne⟩
theorem Two.to (h : Two M M1 o1 A1 c1 s1 f1 xs o2 A2 c2 s2 f2 ys) (l : M1.Le M2) : Two M M2 o1 A1 c1 s1 f1 xs o2 A2 c2 s2 f2 ys := ⟨h.a.to l, h.b.to l, h.ne⟩
theorem Two.nil (l : M.Le M1) : Two M M1 none A1 0 s1 f1 ([] : List α) none A2 0 s2 f2 ([] : List β) := ⟨⟨Ow.nil, l, fun g e => nomatch e⟩, ⟨Ow.nil, l, fun g e => nomatch e⟩, fun g e => nomatch e⟩
end
def idxF {α : Type} (p : α → Bool) (ws : List α) : Int := match ws.findIdx? p with | some i => i | none => -1
theorem idxF_at {α : Type} (p : α → Bool) (ws : List α) (i : Nat) (hi : i < ws.length) (hp : ∀ j, j < i → ∀ h : j < ws.length, p ws[j] = false) (hx : p ws[i] = true) : idxF p ws = i := by
  have : ws.findIdx? p = some i := by
    rw [List.findIdx?_eq_some_iff_getElem]
    exact ⟨hi, hx, fun j hj => by simp [hp j hj (by omega)]⟩
  simp [idxF, this]
theorem idxF_no {α : Type} (p : α → Bool) (ws : List α) (hp : ∀ j, ∀ h : j < ws.length, p ws[j] = false) : idxF p ws = -1 := by
  have : ws.findIdx? p = none := by
    rw [List.findIdx?_eq_none_iff]
    intro x hx
    obtain ⟨j, hj, rfl⟩ := List.getElem_of_mem hx
    simp [hp j hj]
  simp [idxF, this]
theorem idxF_any {α : Type} (p : α → Bool) (ws : List α) : ws.any p = decide (0 ≤ idxF p ws) := by
  unfold idxF
  cases h : ws.findIdx? p with
  | none =>
    rw [List.findIdx?_eq_none_iff] at h
    simp
    exact h
  | some i =>
    rw [List.findIdx?_eq_some_iff_getElem] at h
    obtain ⟨hi, hx, _⟩ := h
    simp
    exact ⟨_, List.getElem_mem hi, hx⟩
/-- A proposition as a Bool. -/
noncomputable def asB (p : Prop) : Bool := @decide p (Classical.propDecidable _)
theorem asB_true {p : Prop} (h : p) : asB p = true := @decide_eq_true _ (Classical.propDecidable _) h
theorem asB_false {p : Prop} (h : ¬ p) : asB p = false := @decide_eq_false _ (Classical.propDecidable _) h
theorem asB_iff {p : Prop} : asB p = true ↔ p := @decide_eq_true_iff p (Classical.propDecidable _)
theorem cells_cut {M : PH} {A : Option Addr} {o : Nat} {cs : List Value} (h : M.cells A o cs) (j : Nat) {v : Value} (hv : cs[j]? = some v) : M.cells A (o + j) [v] := by
  obtain ⟨a, ha, hx⟩ := h
  refine ⟨a, ha, fun n x hn => ?_⟩
  match n, hn with
  | 0, hn =>
    simp at hn; subst hn
    rw [Nat.add_zero]
    exact hx j _ hv
/-- The first that is not 0; 0 if there is none. -/
def firstF {α : Type} (f : α → Int) : List α → Int
  | [] => 0
  | x :: r => if f x = 0 then firstF f r else f x
theorem firstF_no {α : Type} {f : α → Int} : ∀ {ws : List α}, (∀ j, ∀ h : j < ws.length, f ws[j] = 0) → firstF f ws = 0
  | [], _ => rfl
  | x :: r, h => by
    have h0 := h 0 (by simp)
    simp only [List.getElem_cons_zero] at h0
    rw [firstF, if_pos h0]
    exact firstF_no fun j hj => by have := h (j + 1) (by simpa using hj); simpa using this
theorem firstF_at {α : Type} {f : α → Int} : ∀ {ws : List α} {i : Nat} (hi : i < ws.length), (∀ j, j < i → ∀ h : j < ws.length, f ws[j] = 0) → f ws[i] ≠ 0 → firstF f ws = f ws[i]
  | x :: r, 0, _, _, h => by
    simp only [List.getElem_cons_zero] at h ⊢
    rw [firstF, if_neg h]
  | x :: r, i + 1, hi, hp, h => by
    have h0 := hp 0 (by omega) (by simp)
    simp only [List.getElem_cons_zero] at h0
    simp only [List.getElem_cons_succ] at h ⊢
    rw [firstF, if_pos h0]
    exact firstF_at (by simpa using hi) (fun j hj hjl => by have := hp (j + 1) (by omega) (by simpa using hjl); simpa using this) h
/-- Apart, as to a key. -/
def AptG {α β : Type} (key : α → β) (ws : List α) : Prop := ws.Pairwise fun x y => key x ≠ key y
theorem aptG_yes {α β : Type} {key : α → β} {ws : List α} (h : ∀ i, ∀ hi : i < ws.length, ∀ j, ∀ hj : j < i, key ws[i] ≠ key ws[j]) : AptG key ws := by
  unfold AptG
  rw [List.pairwise_iff_getElem]
  exact fun i j hi hj hij e => h j hj i hij e.symm
theorem aptG_no {α β : Type} {key : α → β} {ws : List α} {i j : Nat} (hi : i < ws.length) (hj : j < i) (h : key ws[i] = key ws[j]) : ¬ AptG key ws := by
  unfold AptG
  rw [List.pairwise_iff_getElem]
  exact fun hp => hp j i (by omega) hi hj h.symm
theorem anyG_no {α : Type} {p : α → Bool} {ws : List α} (h : ∀ j, ∀ hj : j < ws.length, p ws[j] = false) : ws.any p = false := by
  rw [List.any_eq_false]
  intro w hw
  obtain ⟨j, hj, rfl⟩ := List.getElem_of_mem hw
  simp [h j hj]
theorem anyG_yes {α : Type} {p : α → Bool} {ws : List α} {j : Nat} (hj : j < ws.length) (h : p ws[j] = true) : ws.any p = true := by
  rw [List.any_eq_true]
  exact ⟨_, List.getElem_mem hj, h⟩
end Go.Proofs.YtdgipmlkkmmliaaGreatDoor
