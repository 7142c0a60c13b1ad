/-
  CONTRACTS: entries, stores: copied, compared, measured; what is wrong with the times of an entry.
-/
import Derived.Test.YtdgipmlkkmmliaaGreatDoorOa
namespace Go.Proofs.YtdgipmlkkmmliaaGreatDoor
set_option maxRecDepth 100000
set_option linter.unusedSimpArgs false
set_option linter.unusedVariables false
open Go.Xe
structure Mt where
  at_ : Int
  age : Int
  life : Int
  swr : Int
  sie : Int
  soft : Bool
  noc : Bool
abbrev Mt.v (m : Mt) : Value := .agg #[I m.at_, I m.age, I m.life, I m.swr, I m.sie, B m.soft, B m.noc]
def metaOk (m : Mt) : Bool := isT m.at_ && isT m.age && isT m.life && isT m.swr && isT m.sie
def metaFault (m : Mt) : Int := if metaOk m then 0 else 3
structure En where
  key : ByteArray
  st : Int
  hs : List Hd
  body : List Int
  mt : Mt
  tags : List ByteArray
  pins : Int
def En.cost (e : En) : Nat := e.key.size + costL Hd.cost e.hs + e.body.length + costL stSz e.tags
def bytesOk (bs : List Int) : Prop := ∀ b ∈ bs, 0 ≤ b ∧ b ≤ 255
def En.okl (e : En) : Prop := e.key.size ≤ maxLen ∧ e.hs.length ≤ maxLen ∧ (∀ x ∈ e.hs, x.okl) ∧ e.body.length ≤ maxLen ∧ e.tags.length ≤ maxLen ∧ (∀ x ∈ e.tags, x.size ≤ maxLen) ∧ bytesOk e.body
structure EnA where
  c : En
  hA : Option Addr
  hc : Nat
  bA : Option Addr
  bc : Nat
  tA : Option Addr
  tc : Nat
abbrev EnA.cs (x : EnA) : List Value := [Tx x.c.key, I x.c.st, .slice x.hA x.c.hs.length x.hc, .slice x.bA x.c.body.length x.bc, I x.c.mt.at_, I x.c.mt.age, I x.c.mt.life, I x.c.mt.swr, I x.c.mt.sie, B x.c.mt.soft, B x.c.mt.noc, .slice x.tA x.c.tags.length x.tc, I x.c.pins]
abbrev EnA.val (x : EnA) : Value := .agg #[Tx x.c.key, I x.c.st, .slice x.hA x.c.hs.length x.hc, .slice x.bA x.c.body.length x.bc, I x.c.mt.at_, I x.c.mt.age, I x.c.mt.life, I x.c.mt.swr, I x.c.mt.sie, B x.c.mt.soft, B x.c.mt.noc, .slice x.tA x.c.tags.length x.tc, I x.c.pins]
theorem EnA.len (x : EnA) : x.cs.length = 13 := rfl
theorem EnA.one (x : EnA) : ∀ v ∈ x.cs, v.oneCell' = true := by intro v hv; simp at hv; rcases hv with rfl | rfl | rfl | rfl | rfl | rfl | rfl | rfl | rfl | rfl | rfl | rfl | rfl <;> rfl
structure EnA.inn (M : PH) (x : EnA) : Prop where
  h : Sl M x.hA 2 Hd.cs x.c.hs
  b : Sl M x.bA 1 byC x.c.body
  t : Sl M x.tA 1 stC x.c.tags
def EnA.cap (x : EnA) : Prop := x.c = x.c
theorem EnA.inn.mono {M M' : PH} {x : EnA} (h : x.inn M) (l : M.Le M') : x.inn M' := ⟨h.h.mono l, h.b.mono l, h.t.mono l⟩
theorem En.hn {e : En} (h : e.cost ≤ 1048576) : e.key.size ≤ 1048576 ∧ costL Hd.cost e.hs ≤ 1048576 ∧ e.hs.length ≤ 1048576 ∧ e.body.length ≤ 1048576 ∧ e.tags.length ≤ 1048576 := by
  unfold En.cost at h
  have := costL_len Hd.cost e.hs
  have := costL_len stSz e.tags
  exact ⟨by omega, by omega, by omega, by omega, by omega⟩
abbrev E0 : List Value := [Tx ByteArray.empty, I 0, .slice none 0 0, .slice none 0 0, I 0, I 0, I 0, I 0, I 0, B false, B false, .slice none 0 0, I 0]
end Go.Proofs.YtdgipmlkkmmliaaGreatDoor
