/-
  CONTRACTS: requests and flights, copied, compared, measured.
-/
import Derived.Test.YtdgipmlkkmmliaaGreatDoorNa
namespace Go.Proofs.YtdgipmlkkmmliaaGreatDoor
set_option maxRecDepth 100000
set_option linter.unusedSimpArgs false
set_option linter.unusedVariables false
open Go.Xe
structure Rq where
  m : ByteArray
  h : ByteArray
  p : ByteArray
  hs : List Hd
def Rq.cost (r : Rq) : Nat := r.m.size + r.h.size + r.p.size + costL Hd.cost r.hs
def Rq.okl (r : Rq) : Prop := r.m.size ≤ maxLen ∧ r.h.size ≤ maxLen ∧ r.p.size ≤ maxLen ∧ r.hs.length ≤ maxLen ∧ ∀ x ∈ r.hs, x.okl
theorem Rq.hn {r : Rq} (h : r.cost ≤ 1048576) : r.hs.length ≤ 1048576 := by
  have := costL_len Hd.cost r.hs
  unfold Rq.cost at h; omega
abbrev rqV (r : Rq) (A : Option Addr) (c : Nat) : Value := .agg #[Tx r.m, Tx r.h, Tx r.p, .slice A r.hs.length c]
structure Fc where
  id : Int
  key : ByteArray
  back : Bool
  out : Bool
  due : Int
  doomed : Bool
  get : Rq
  ws : List Wr
def Fc.cost (f : Fc) : Nat := f.key.size + f.get.cost + f.ws.length
def Fc.okl (f : Fc) : Prop := f.key.size ≤ maxLen ∧ f.get.okl ∧ f.ws.length ≤ maxLen
structure FlA where
  c : Fc
  hA : Option Addr
  hc : Nat
  wA : Option Addr
  wc : Nat
abbrev FlA.cs (x : FlA) : List Value := [I x.c.id, Tx x.c.key, B x.c.back, B x.c.out, I x.c.due, B x.c.doomed, Tx x.c.get.m, Tx x.c.get.h, Tx x.c.get.p, .slice x.hA x.c.get.hs.length x.hc, .slice x.wA x.c.ws.length x.wc]
abbrev FlA.val (x : FlA) : Value := .agg #[I x.c.id, Tx x.c.key, B x.c.back, B x.c.out, I x.c.due, B x.c.doomed, Tx x.c.get.m, Tx x.c.get.h, Tx x.c.get.p, .slice x.hA x.c.get.hs.length x.hc, .slice x.wA x.c.ws.length x.wc]
theorem FlA.len (x : FlA) : x.cs.length = 11 := rfl
structure FlA.inn (M : PH) (x : FlA) : Prop where
  h : Sl M x.hA 2 Hd.cs x.c.get.hs
  w : Sl M x.wA 4 Wr.cs x.c.ws
/-- There is room for what is there. -/
def FlA.cap (x : FlA) : Prop := x.c.ws.length ≤ x.wc
theorem FlA.inn.mono {M M' : PH} {x : FlA} (h : x.inn M) (l : M.Le M') : x.inn M' := ⟨h.h.mono l, h.w.mono l⟩
theorem Fc.hn {f : Fc} (h : f.cost ≤ 1048576) : f.get.cost ≤ 1048576 ∧ f.get.hs.length ≤ 1048576 ∧ f.ws.length ≤ 1048576 := by
  unfold Fc.cost at h
  exact ⟨by omega, Rq.hn (by omega), by omega⟩
abbrev F0 : List Value := [I 0, Tx ByteArray.empty, B false, B false, I 0, B false, Tx ByteArray.empty, Tx ByteArray.empty, Tx ByteArray.empty, .slice none 0 0, .slice none 0 0]
theorem costF {ws : List FlA} {n : Nat} (h : costL (fun x : FlA => x.c.cost) ws ≤ n) : ws.length ≤ n ∧ ∀ x ∈ ws, x.c.cost ≤ n := by
  have := costL_len (fun x : FlA => x.c.cost) ws
  exact ⟨by omega, fun x hx => by have := costL_le (f := fun x : FlA => x.c.cost) hx; omega⟩
theorem inns {M M' : PH} {ws : List FlA} (h : ∀ x ∈ ws, x.inn M ∧ x.c.cost ≤ 1048576) (l : M.Le M') : ∀ x ∈ ws, x.inn M' ∧ x.c.cost ≤ 1048576 := fun x hx => ⟨(h x hx).1.mono l, (h x hx).2⟩
theorem costs_of {ws us : List FlA} {M : PH} (h : ∀ x ∈ ws, x.c.cost ≤ 1048576) (hi : ∀ x ∈ us, x.inn M) (hc : us.map (·.c) = ws.map (·.c)) : ∀ x ∈ us, x.inn M ∧ x.c.cost ≤ 1048576 := fun x hx => ⟨hi x hx, by
  have : x.c ∈ us.map (·.c) := List.mem_map.2 ⟨x, hx, rfl⟩
  rw [hc] at this
  obtain ⟨y, hy, e⟩ := List.mem_map.1 this
  rw [← e]; exact h y hy⟩
end Go.Proofs.YtdgipmlkkmmliaaGreatDoor
