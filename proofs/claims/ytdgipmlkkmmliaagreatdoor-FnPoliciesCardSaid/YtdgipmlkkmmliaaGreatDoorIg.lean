/-
  WHAT VARIES, by the reference.
-/
import Derived.Test.YtdgipmlkkmmliaaGreatDoorIf
namespace Go.Proofs.YtdgipmlkkmmliaaGreatDoor
set_option maxRecDepth 100000
set_option linter.unusedSimpArgs false
set_option linter.unusedVariables false
open Go.Xe
def varyU : ByteArray := ⟨#[86, 97, 114, 121]⟩
def varyL : ByteArray := ⟨#[118, 97, 114, 121]⟩
theorem vary_eq (ws : List Hd) : vals ws varyU = vals ws varyL := by
  have : lowerB varyU = lowerB varyL := by decide +kernel
  unfold vals alikeT
  rw [this]
def starB : ByteArray := ⟨#[42]⟩
/-- An item names one of the names. -/
def fitsN (ns : List ByteArray) (x : It) : Bool := ns.any fun n => alikeT n x.n
def badI (ns : List ByteArray) (x : It) : Bool := x.h || (seq x.n starB || !fitsN ns x)
def varyT (ws : List Hd) (ns : List ByteArray) : Bool := decide (parC (jn (vals ws varyL)) = 0) && !(parR (jn (vals ws varyL))).any (badI ns)
theorem itemF_n {p : ByteArray} {x : It} (h : itemF p = some x) : x.n.size ≤ p.size := by
  unfold itemF at h
  split at h
  · split at h
    · cases h; exact Nat.le_refl _
    · cases h
  · split at h
    · cases h
    · split at h
      · cases h
        show (p.extract 0 _).size ≤ _
        rw [ByteArray.size_extract]; omega
      · obtain ⟨y, _, rfl⟩ := Option.map_eq_some_iff.1 h
        show (p.extract 0 _).size ≤ _
        rw [ByteArray.size_extract]; omega
theorem itsG_n {N : Nat} : ∀ {l : List ByteArray} {xs : List It}, itsG l = some xs → (∀ p ∈ l, p.size ≤ N) → ∀ x ∈ xs, x.n.size ≤ N
  | [], xs, h, _, x, hx => by cases h; cases hx
  | p :: r, xs, h, hl, x, hx => by
    rw [itsG] at h
    split at h
    · exact itsG_n h (fun q hq => hl q (List.mem_cons_of_mem _ hq)) x hx
    · split at h
      · cases h
      · rename_i y hy
        obtain ⟨zs, hz, rfl⟩ := Option.map_eq_some_iff.1 h
        rcases List.mem_cons.1 hx with h1 | h1
        · rw [h1]
          exact Nat.le_trans (itemF_n hy) (Nat.le_trans (trimB_le p) (hl p List.mem_cons_self))
        · exact itsG_n hz (fun q hq => hl q (List.mem_cons_of_mem _ hq)) x h1
theorem parR_n {t : ByteArray} : ∀ x ∈ parR t, x.n.size ≤ 1000 := fun x hx => by
  unfold parR at hx
  split at hx
  · rename_i h0
    have ht : t.size ≤ 1000 := by
      unfold parC at h0
      split at h0
      · cases h0
      · omega
    cases hp : parL t with
    | none => rw [hp] at hx; cases hx
    | some xs =>
      rw [hp] at hx
      have hb := (pcs_bd t.size t 0 0 false (by omega)).1
      exact Nat.le_trans (itsG_n (N := t.size) (l := pcs t 0 0 false) hp hb x hx) ht
  · cases hx
theorem parR_len (t : ByteArray) : (parR t).length ≤ 20 := by
  unfold parR
  split
  · rename_i h0
    unfold parC at h0
    split at h0
    · cases h0
    · cases hp : parL t with
      | none => exact Nat.zero_le _
      | some xs =>
        rw [hp] at h0
        have h0 : (if 20 < (xs.length : Int) then (2 : Int) else 0) = 0 := h0
        split at h0
        · cases h0
        · show xs.length ≤ 20
          omega
  · exact Nat.zero_le _
theorem lower_star {t : ByteArray} : lowerB t = starB ↔ t = starB := by
  constructor
  · intro h
    have hd := congrArg (fun b : ByteArray => b.data.toList) h
    have hd : (((t.data.toList.map fun x => (x.toNat : Int)).map lowI).map fun n => UInt8.ofNat n.toNat) = [42] := hd
    refine ba_ext ?_
    cases hl : t.data.toList with
    | nil => rw [hl] at hd; cases hd
    | cons x r =>
      rw [hl] at hd
      cases r with
      | cons y r => exact absurd (congrArg List.length hd) (by simp)
      | nil =>
        show [x] = [42]
        have h1 : UInt8.ofNat (lowI (x.toNat : Int)).toNat = 42 := (List.cons.inj hd).1
        have hx := UInt8.toNat_lt x
        have h2 : (lowI (x.toNat : Int)).toNat % 256 = 42 := by
          have := congrArg UInt8.toNat h1
          simpa using this
        have h3 : x.toNat = 42 := by
          unfold lowI at h2
          split at h2 <;> omega
        have : x = 42 := UInt8.toNat_inj.1 (by show _ = 42; exact h3)
        rw [this]
  · intro h
    rw [h]
    decide +kernel
theorem alike_symm (a b : ByteArray) : alikeT a b = alikeT b a := by
  unfold alikeT
  rw [Bool.eq_iff_iff, seq_iff, seq_iff]
  exact ⟨Eq.symm, Eq.symm⟩
/-- What the reference asks is what the program asks. -/
theorem found_eq (x : It) (ns : List ByteArray) : (ns.any fun n => alikeT x.n n && !seq n starB) = (!seq x.n starB && fitsN ns x) := by
  have key : ∀ n, alikeT x.n n = true → seq n starB = seq x.n starB := fun n h => by
    unfold alikeT at h
    have h := seq_iff.1 h
    rw [Bool.eq_iff_iff, seq_iff, seq_iff]
    exact ⟨fun e => lower_star.1 (h.trans (lower_star.2 e)), fun e => lower_star.1 (h.symm.trans (lower_star.2 e))⟩
  unfold fitsN
  induction ns with
  | nil => simp
  | cons n r ih =>
    rw [List.any_cons, List.any_cons, ih, alike_symm n x.n]
    cases h : alikeT x.n n with
    | false => simp
    | true =>
      rw [key n h]
      cases seq x.n starB <;> simp
end Go.Proofs.YtdgipmlkkmmliaaGreatDoor
