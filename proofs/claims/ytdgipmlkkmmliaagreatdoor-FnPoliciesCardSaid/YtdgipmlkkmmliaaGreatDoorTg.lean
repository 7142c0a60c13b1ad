/-
  CONTRACTS: what is wrong with a flight, with flights.
-/
import Derived.Test.YtdgipmlkkmmliaaGreatDoorTf
namespace Go.Proofs.YtdgipmlkkmmliaaGreatDoor
set_option maxRecDepth 100000
set_option linter.unusedSimpArgs false
set_option linter.unusedVariables false
open Go.Xe
def flOf (ws : List Wr) (A : Option Addr) (c : Nat) : FlA := ⟨⟨0, ByteArray.empty, false, false, 0, false, ⟨ByteArray.empty, ByteArray.empty, ByteArray.empty, []⟩, ws⟩, none, 0, A, c⟩
theorem waitsT_yes {ws : List Wr} {i : Nat} (hi : i < ws.length) (h : waitsT (ws.take i) ws[i].a = true) : ¬ AptG Wr.a ws := by
  unfold waitsT at h
  rw [List.any_eq_true] at h
  obtain ⟨w, hw, e⟩ := h
  obtain ⟨j, hj, rfl⟩ := List.getElem_of_mem hw
  simp at hj e
  exact aptG_no hi (by omega) e.symm
theorem waitsT_no {ws : List Wr} {i : Nat} (hi : i < ws.length) (h : waitsT (ws.take i) ws[i].a = false) : ∀ b, ∀ hb : b < i, ws[i].a ≠ ws[b].a := by
  unfold waitsT at h
  rw [List.any_eq_false] at h
  intro b hb e
  have := h ws[b] (by rw [List.mem_take_iff_getElem]; exact ⟨b, by omega, rfl⟩)
  simp [e] at this
theorem isT0 : isT 0 = true := by decide
def okR (w : Wr) : Bool := isT w.a && isT w.d
def keyT (b : ByteArray) : Bool := decide (1 ≤ (b.size : Int)) && decide ((b.size : Int) ≤ 500)
noncomputable def flFault (f : Fc) : Int :=
  if (isT f.id && isT f.due) = false then 3 else if keyT f.key = false then 2 else if rqFault f.get ≠ 0 then rqFault f.get else if f.out = false ∧ f.due ≠ 0 then 8 else if 10 < (f.ws.length : Int) then 2 else
  if f.ws.any (fun w => !okR w) then 3 else if asB (AptG Wr.a f.ws) then 0 else 6
theorem any_req {ws : List Wr} {i : Nat} (hi : i < ws.length) (h : okR ws[i] = false) : (ws.any fun w => !okR w) = true := anyG_yes hi (by simp [h])
end Go.Proofs.YtdgipmlkkmmliaaGreatDoor
