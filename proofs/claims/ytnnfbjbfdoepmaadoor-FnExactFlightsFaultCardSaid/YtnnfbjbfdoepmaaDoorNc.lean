/-
  OPENERS: what came in: head lines, requests, waiters, flights.
-/
import Derived.Test.YtnnfbjbfdoepmaaDoorNb
namespace Go.Proofs.YtnnfbjbfdoepmaaDoor
set_option maxRecDepth 100000
set_option linter.unusedSimpArgs false
set_option linter.unusedVariables false
open Go.Xe
abbrev shHd : Sh := .fcons .str 1 (.fcons .str 1 .fnil)
abbrev shWr : Sh := .fcons (.int .i64) 1 (.fcons .bool 1 (.fcons (.int .i64) 1 (.fcons .bool 1 .fnil)))
abbrev shRq : Sh := .fcons .str 1 (.fcons .str 1 (.fcons .str 1 (.fcons (.slice shHd 2) 1 .fnil)))
abbrev shFl : Sh := .fcons (.int .i64) 1 (.fcons .str 1 (.fcons .bool 1 (.fcons .bool 1 (.fcons (.int .i64) 1 (.fcons .bool 1 (.fcons shRq 4 (.fcons (.slice shWr 4) 1 .fnil)))))))
section
variable {W : World} {es : List Value}
theorem open_hd (h : shHd.ok W es) : ∃ x : Hd, es = x.cs ∧ x.okl := by
  obtain ⟨_, _, _, ⟨a, ha, rfl⟩, ⟨_, _, _, ⟨b, hb, rfl⟩, rfl, rfl⟩, rfl⟩ := h
  exact ⟨⟨a, b⟩, rfl, ha, hb⟩
theorem open_wr (h : shWr.ok W es) : ∃ x : Wr, es = x.cs := by
  obtain ⟨_, _, _, ⟨a, _, rfl⟩, ⟨_, _, _, ⟨b, rfl⟩, ⟨_, _, _, ⟨c, _, rfl⟩, ⟨_, _, _, ⟨d, rfl⟩, rfl, rfl⟩, rfl⟩, rfl⟩, rfl⟩ := h
  exact ⟨⟨a, b, c, d⟩, rfl⟩
theorem open_hds {cs : List Value} (h : (Sh.slice shHd 2).ok W cs) : ∃ (A : Option Addr) (c : Nat) (xs : List Hd), cs = [.slice A xs.length c] ∧ Sl (whole W) A 2 Hd.cs xs ∧ xs.length ≤ maxLen ∧ ∀ x ∈ xs, x.okl :=
  open_sld Hd.cs Hd.okl (fun es h => open_hd h) h
theorem open_rq (h : shRq.ok W es) : ∃ (r : Rq) (A : Option Addr) (c : Nat), es = [Tx r.m, Tx r.h, Tx r.p, .slice A r.hs.length c] ∧ Sl (whole W) A 2 Hd.cs r.hs ∧ r.okl := by
  obtain ⟨_, _, _, ⟨a, ha, rfl⟩, ⟨_, _, _, ⟨b, hb, rfl⟩, ⟨_, _, _, ⟨c, hc, rfl⟩, ⟨_, _, _, hsl, rfl, rfl⟩, rfl⟩, rfl⟩, rfl⟩ := h
  obtain ⟨A, cc, xs, rfl, hS, hl, hx⟩ := open_hds hsl
  exact ⟨⟨a, b, c, xs⟩, A, cc, rfl, hS, ha, hb, hc, hl, hx⟩
theorem open_fl (h : shFl.ok W es) : ∃ x : FlA, es = x.cs ∧ x.inn (whole W) ∧ x.c.okl := by
  obtain ⟨_, _, _, ⟨a, _, rfl⟩, ⟨_, _, _, ⟨k, hk, rfl⟩, ⟨_, _, _, ⟨b, rfl⟩, ⟨_, _, _, ⟨o, rfl⟩, ⟨_, _, _, ⟨d, _, rfl⟩, ⟨_, _, _, ⟨m, rfl⟩, ⟨_, _, _, hrq, ⟨_, _, _, hws, rfl, rfl⟩, rfl⟩, rfl⟩, rfl⟩, rfl⟩, rfl⟩, rfl⟩, rfl⟩ := h
  obtain ⟨r, A, c, rfl, hS, hro⟩ := open_rq hrq
  obtain ⟨A2, c2, ws, rfl, hS2, hl2⟩ := open_sl Wr.cs (fun es h => open_wr h) hws
  exact ⟨⟨⟨a, k, b, o, d, m, r, ws⟩, A, c, A2, c2⟩, rfl, ⟨hS, hS2⟩, hk, hro, hl2⟩
end
theorem openFlights {H : Type} {enc : TypeId × Value → H} {W : World} {base : Nat} {v : Value} {d : DataW H} {p : List MemPlace} (hv : Value.okWide Tryd.prog W .any base 39 v)
    (h : DataW.Trod enc Tryd.prog W 0 (fun _ => true) true 39 v d p) : ∃ (A : Option Addr) (c : Nat) (ws : List FlA), v = .slice A ws.length c ∧ Sl (whole W) A 11 FlA.cs ws ∧ ws.length ≤ maxLen ∧ (∀ x ∈ ws, x.inn (whole W) ∧ x.c.okl) := by
  obtain ⟨cs, rfl, hs⟩ := open_arg env 9 (ti := ti39) (by kernel_rfl) (s := .slice shFl 11) (by kernel_rfl) hv h
  obtain ⟨A, c, ws, rfl, hS, hl, hx⟩ := open_sld FlA.cs (fun x => x.inn (whole W) ∧ x.c.okl) (fun es h => open_fl h) hs
  exact ⟨A, c, ws, rfl, hS, hl, hx⟩
end Go.Proofs.YtnnfbjbfdoepmaaDoor
