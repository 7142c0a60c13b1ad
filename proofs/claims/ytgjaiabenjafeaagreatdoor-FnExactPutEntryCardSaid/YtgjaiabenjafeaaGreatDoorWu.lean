/-
  PLAIN LAWS: an entry put.
-/
import Derived.Test.YtgjaiabenjafeaaGreatDoorWr
namespace Go.Proofs.YtgjaiabenjafeaaGreatDoor
set_option maxRecDepth 100000
set_option linter.unusedSimpArgs false
set_option linter.unusedVariables false
open Go.Xe
/-- The last of a list that has a property, with its place. -/
def lastE (p : En → Bool) : List En → Option (Nat × En)
  | [] => none
  | x :: r => match lastE p r with
    | some q => some (q.1 + 1, q.2)
    | none => if p x then some (0, x) else none
theorem lastE_no {p : En → Bool} : ∀ {es : List En}, (∀ e ∈ es, p e = false) → lastE p es = none
  | [], _ => rfl
  | x :: r, h => by
    rw [lastE, lastE_no fun e he => h e (List.mem_cons_of_mem _ he)]
    simp [h x List.mem_cons_self]
theorem lastE_at {p : En → Bool} : ∀ {es : List En} {i : Nat} (hi : i < es.length), p es[i] = true → (∀ j, i < j → ∀ h : j < es.length, p es[j] = false) → lastE p es = some (i, es[i])
  | [], i, hi, _, _ => by cases hi
  | x :: r, 0, hi, h, h2 => by
    have e : lastE p r = none := lastE_no fun y hy => by
      obtain ⟨j, hj, rfl⟩ := List.getElem_of_mem hy
      exact h2 (j + 1) (by omega) (by simp; omega)
    rw [lastE, e]
    have h : p x = true := h
    simp [h]
  | x :: r, i + 1, hi, h, h2 => by
    have hi' : i < r.length := by simpa using hi
    have e : lastE p r = some (i, r[i]) := lastE_at hi' h fun j hj hl => h2 (j + 1) (by omega) (by simp; omega)
    rw [lastE, e]
    rfl
theorem lastE_some {p : En → Bool} : ∀ {es : List En} {q : Nat × En}, lastE p es = some q → ∃ h : q.1 < es.length, es[q.1] = q.2 ∧ p q.2 = true
  | [], q, h => by cases h
  | x :: r, q, h => by
    rw [lastE] at h
    cases hr : lastE p r with
    | some z =>
      rw [hr] at h
      cases h
      obtain ⟨h1, h2, h3⟩ := lastE_some hr
      exact ⟨by simpa using h1, by simpa using h2, h3⟩
    | none =>
      rw [hr] at h
      have h : (if p x then some (0, x) else none) = some q := h
      split at h
      · rename_i hx
        cases h
        exact ⟨by simp, rfl, hx⟩
      · cases h
def canGo (k : ByteArray) (e : En) : Bool := !seq e.key k && decide (e.pins = 0)
structure Ev where
  tr : List En
  kp : List En
  gone : List ByteArray
def full (bud : Int) (tr kp : List En) : Prop := bud < (eCosts (tr ++ kp) : Int) ∨ 40 < ((tr.length : Int) + kp.length)
instance (bud : Int) (tr kp : List En) : Decidable (full bud tr kp) := by unfold full; infer_instance
/-- The last that may go goes, as long as there is too much. -/
def evict (bud : Int) (k : ByteArray) : Nat → Ev → Option Ev
  | 0, _ => none
  | n + 1, s => if full bud s.tr s.kp then match lastE (canGo k) s.tr with
      | some q => evict bud k n ⟨s.tr.eraseIdx q.1, s.kp, s.gone ++ [q.2.key]⟩
      | none => match lastE (canGo k) s.kp with
        | some q => evict bud k n ⟨s.tr, s.kp.eraseIdx q.1, s.gone ++ [q.2.key]⟩
        | none => none
    else some s
theorem dropK_no {es : List En} {k : ByteArray} (h : ∀ e ∈ es, e.key ≠ k) : dropK es k = es := by
  unfold dropK
  rw [List.filter_eq_self]
  intro e he
  simp [seq_ne.2 (h e he)]
theorem dropK_erase : ∀ {es : List En} {i : Nat} (hi : i < es.length), AptG En.key es → dropK es es[i].key = es.eraseIdx i
  | [], i, hi, _ => by cases hi
  | x :: r, 0, hi, h => by
    have hp := List.pairwise_cons.1 h
    have e : dropK (x :: r) x.key = dropK r x.key := by unfold dropK; rw [List.filter_cons, seq_self]; rfl
    show dropK (x :: r) x.key = r
    rw [e]
    exact dropK_no fun y hy => (hp.1 y hy).symm
  | x :: r, i + 1, hi, h => by
    have hp := List.pairwise_cons.1 h
    have hi' : i < r.length := by simpa using hi
    have hx : seq x.key r[i].key = false := seq_ne.2 (hp.1 _ (List.getElem_mem hi'))
    show dropK (x :: r) r[i].key = x :: r.eraseIdx i
    rw [← dropK_erase hi' hp.2]
    unfold dropK
    rw [List.filter_cons, hx]
    rfl
theorem erase_left {tr kp : List En} {i : Nat} (hi : i < tr.length) (h : AptG En.key (tr ++ kp)) : dropK tr tr[i].key = tr.eraseIdx i ∧ dropK kp tr[i].key = kp ∧ AptG En.key (tr.eraseIdx i ++ kp) := by
  obtain ⟨h1, h2, h3⟩ := List.pairwise_append.1 h
  exact ⟨dropK_erase hi h1, dropK_no fun y hy e => h3 _ (List.getElem_mem hi) y hy e.symm, h.sublist (List.Sublist.append (List.eraseIdx_sublist _ _) (List.Sublist.refl _))⟩
theorem erase_right {tr kp : List En} {i : Nat} (hi : i < kp.length) (h : AptG En.key (tr ++ kp)) : dropK tr kp[i].key = tr ∧ dropK kp kp[i].key = kp.eraseIdx i ∧ AptG En.key (tr ++ kp.eraseIdx i) := by
  obtain ⟨h1, h2, h3⟩ := List.pairwise_append.1 h
  exact ⟨dropK_no fun y hy e => h3 y hy _ (List.getElem_mem hi) e, dropK_erase hi h2, h.sublist (List.Sublist.append (List.Sublist.refl _) (List.eraseIdx_sublist _ _))⟩
def keysOk (es : List En) : Prop := ∀ e ∈ es, e.key ≠ ByteArray.empty
theorem keysOk.sub {a b : List En} (h : keysOk b) (hs : a.Sublist b) : keysOk a := fun e he => h e (hs.subset he)
def evSize (s : Ev) : Nat := s.tr.length + s.kp.length
theorem evict_no {bud : Int} {k : ByteArray} {s : Ev} (h : ¬ full bud s.tr s.kp) (n : Nat) : evict bud k (n + 1) s = some s := by rw [evict, if_neg h]
theorem evict_left {bud : Int} {k : ByteArray} {s : Ev} (h : full bud s.tr s.kp) (n : Nat) {q : Nat × En} (hq : lastE (canGo k) s.tr = some q) : evict bud k (n + 1) s = evict bud k n ⟨s.tr.eraseIdx q.1, s.kp, s.gone ++ [q.2.key]⟩ := by rw [evict, if_pos h, hq]
theorem evict_right {bud : Int} {k : ByteArray} {s : Ev} (h : full bud s.tr s.kp) (n : Nat) (h0 : lastE (canGo k) s.tr = none) {q : Nat × En} (hq : lastE (canGo k) s.kp = some q) : evict bud k (n + 1) s = evict bud k n ⟨s.tr, s.kp.eraseIdx q.1, s.gone ++ [q.2.key]⟩ := by rw [evict, if_pos h, h0, hq]
theorem evict_out {bud : Int} {k : ByteArray} {s : Ev} (h : full bud s.tr s.kp) (n : Nat) (h0 : lastE (canGo k) s.tr = none) (h1 : lastE (canGo k) s.kp = none) : evict bud k (n + 1) s = none := by rw [evict, if_pos h, h0, h1]
theorem evict_le {bud : Int} {k : ByteArray} : ∀ (n : Nat) (s r : Ev), evict bud k n s = some r → r.tr.Sublist s.tr ∧ r.kp.Sublist s.kp ∧ r.gone.length + evSize r = s.gone.length + evSize s
  | 0, s, r, h => by cases h
  | n + 1, s, r, h => by
    by_cases hf : full bud s.tr s.kp
    · cases h1 : lastE (canGo k) s.tr with
      | some q =>
        rw [evict_left hf n h1] at h
        obtain ⟨a, b, c⟩ := evict_le n _ r h
        obtain ⟨hq, _⟩ := lastE_some h1
        refine ⟨a.trans (List.eraseIdx_sublist _ _), b, ?_⟩
        unfold evSize at *
        simp only [List.length_append, List.length_cons, List.length_nil, List.length_eraseIdx] at c
        rw [if_pos hq] at c
        omega
      | none =>
        cases h2 : lastE (canGo k) s.kp with
        | some q =>
          rw [evict_right hf n h1 h2] at h
          obtain ⟨a, b, c⟩ := evict_le n _ r h
          obtain ⟨hq, _⟩ := lastE_some h2
          refine ⟨a, b.trans (List.eraseIdx_sublist _ _), ?_⟩
          unfold evSize at *
          simp only [List.length_append, List.length_cons, List.length_nil, List.length_eraseIdx] at c
          rw [if_pos hq] at c
          omega
        | none => rw [evict_out hf n h1 h2] at h; cases h
    · rw [evict_no hf] at h
      cases h
      exact ⟨List.Sublist.refl _, List.Sublist.refl _, rfl⟩
def putE (s : Sc) (e : En) : Option Ev := evict s.bud e.key ((dropK s.tr e.key).length + 1 + (dropK s.kp e.key).length + 1) ⟨e :: dropK s.tr e.key, dropK s.kp e.key, []⟩
noncomputable def putC (s : Sc) (e : En) : Int := if stFault s ≠ 0 then stFault s else if enFault e ≠ 0 then enFault e else if (putE s e).isSome then 0 else 7
def evS (s : Sc) (r : Ev) : Sc := ⟨s.bud, s.gd, r.tr, r.kp⟩
noncomputable def putR (s : Sc) (e : En) : Sc := if stFault s ≠ 0 then zSc else if enFault e ≠ 0 then zSc else match putE s e with | some r => evS s r | none => zSc
noncomputable def putG (s : Sc) (e : En) : List ByteArray := if stFault s ≠ 0 then [] else if enFault e ≠ 0 then [] else match putE s e with | some r => r.gone | none => []
end Go.Proofs.YtgjaiabenjafeaaGreatDoor
