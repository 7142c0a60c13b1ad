/-
  CONTRACTS: head lines and waiters, copied, compared, measured.
-/
import Derived.Test.YteokagamfdcjgaaGreatDoorLa
import Derived.Test.YteokagamfdcjgaaGreatDoorXo
namespace Go.Proofs.YteokagamfdcjgaaGreatDoor
set_option maxRecDepth 100000
set_option linter.unusedSimpArgs false
set_option linter.unusedVariables false
open Go.Xe
theorem ACall.beside {f : FuncId} {args : List Value} {M : PH} {g : Nat} {o : Obj} {R : Value → PH → Prop} (hc : ACall env f args (rm M g) R) (hg : M g = some o) :
    ACall env f args M fun r M' => ∃ M1, R r M1 ∧ M1.Le (rm M' g) ∧ M' g = some o := by
  refine (XCall.frame hc (rm_le M g)).mono fun r b M' hh => ?_
  obtain ⟨M1, hr, l1, hk⟩ := hh
  obtain ⟨h1, h2⟩ := hk g o hg (rm_at M g)
  exact ⟨M1, hr, rm_up l1 h1, h2⟩
structure Hd where
  n : ByteArray
  v : ByteArray
abbrev Hd.cs (x : Hd) : List Value := [Tx x.n, Tx x.v]
abbrev Hd.val (x : Hd) : Value := .agg #[Tx x.n, Tx x.v]
theorem Hd.len (x : Hd) : x.cs.length = 2 := rfl
def Hd.cost (x : Hd) : Nat := x.n.size + x.v.size
def Hd.okl (x : Hd) : Prop := x.n.size ≤ maxLen ∧ x.v.size ≤ maxLen
theorem hd_eq (x y : Hd) : (seq x.n y.n && (seq x.v y.v && true)) = true ↔ x = y := by
  cases x; cases y; simp [seq_iff]
abbrev TT : List Value := [Tx ByteArray.empty, Tx ByteArray.empty]
structure Wr where
  a : Int
  h : Bool
  d : Int
  l : Bool
abbrev Wr.cs (x : Wr) : List Value := [I x.a, B x.h, I x.d, B x.l]
abbrev Wr.val (x : Wr) : Value := .agg #[I x.a, B x.h, I x.d, B x.l]
theorem Wr.len (x : Wr) : x.cs.length = 4 := rfl
theorem wr_eq (x y : Wr) : (decide (x.a = y.a) && ((x.h == y.h) && (decide (x.d = y.d) && ((x.l == y.l) && true)))) = true ↔ x = y := by
  cases x; cases y; simp
abbrev W0 : List Value := [I 0, B false, I 0, B false]
end Go.Proofs.YteokagamfdcjgaaGreatDoor
