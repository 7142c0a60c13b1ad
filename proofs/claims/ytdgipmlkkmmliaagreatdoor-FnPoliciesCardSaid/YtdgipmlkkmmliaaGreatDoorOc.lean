/-
  CONTRACTS: stores, copied, compared, measured; what came in: entries, stores.
-/
import Derived.Test.YtdgipmlkkmmliaaGreatDoorOb
namespace Go.Proofs.YtdgipmlkkmmliaaGreatDoor
set_option maxRecDepth 100000
set_option linter.unusedSimpArgs false
set_option linter.unusedVariables false
open Go.Xe
/-- Entries in a row. -/
structure Ens (M : PH) (A : Option Addr) (ws : List EnA) : Prop where
  sl : Sl M A 13 EnA.cs ws
  inn : ∀ x ∈ ws, x.inn M
theorem Ens.mono {M M' : PH} {A : Option Addr} {ws : List EnA} (h : Ens M A ws) (l : M.Le M') : Ens M' A ws := ⟨h.sl.mono l, fun x hx => (h.inn x hx).mono l⟩
structure Sc where
  bud : Int
  gd : Int
  tr : List En
  kp : List En
def Sc.cost (s : Sc) : Nat := costL En.cost s.tr + costL En.cost s.kp
def Sc.okl (s : Sc) : Prop := s.tr.length ≤ maxLen ∧ s.kp.length ≤ maxLen ∧ (∀ e ∈ s.tr, e.okl) ∧ (∀ e ∈ s.kp, e.okl)
structure StA where
  b : Int
  g : Int
  tr : List EnA
  kp : List EnA
  tA : Option Addr
  tc : Nat
  kA : Option Addr
  kc : Nat
abbrev conts (ws : List EnA) : List En := ws.map (·.c)
abbrev StA.val (x : StA) : Value := .agg #[I x.b, I x.g, .slice x.tA x.tr.length x.tc, .slice x.kA x.kp.length x.kc]
def StA.c (x : StA) : Sc := ⟨x.b, x.g, conts x.tr, conts x.kp⟩
structure StA.inn (M : PH) (x : StA) : Prop where
  t : Ens M x.tA x.tr
  k : Ens M x.kA x.kp
  tl : x.tr.length ≤ x.tc
  kl : x.kp.length ≤ x.kc
theorem StA.inn.mono {M M' : PH} {x : StA} (h : x.inn M) (l : M.Le M') : x.inn M' := ⟨h.t.mono l, h.k.mono l, h.tl, h.kl⟩
theorem costL_map {α β : Type} (g : α → β) (f : β → Nat) (ws : List α) : costL f (ws.map g) = costL (fun x => f (g x)) ws := by
  unfold costL
  rw [List.length_map, List.map_map]
  rfl
theorem costE {ws : List EnA} {n : Nat} (h : costL En.cost (conts ws) ≤ n) : ws.length ≤ n ∧ ∀ x ∈ ws, x.c.cost ≤ n := by
  rw [costL_map] at h
  have := costL_len (fun x : EnA => x.c.cost) ws
  exact ⟨by omega, fun x hx => by have := costL_le (f := fun x : EnA => x.c.cost) hx; omega⟩
theorem ens_cost {ws : List EnA} {M : PH} {A : Option Addr} (h : Ens M A ws) {n : Nat} (hc : costL En.cost (conts ws) ≤ 1048576) : ∀ x ∈ ws, x.inn M ∧ x.c.cost ≤ 1048576 := fun x hx => ⟨h.inn x hx, (costE hc).2 x hx⟩
/-! ### What came in -/
abbrev shHd : Sh := .fcons .str 1 (.fcons .str 1 .fnil)
abbrev shMt : Sh := .fcons (.int .i64) 1 (.fcons (.int .i64) 1 (.fcons (.int .i64) 1 (.fcons (.int .i64) 1 (.fcons (.int .i64) 1 (.fcons .bool 1 (.fcons .bool 1 .fnil))))))
abbrev shEn : Sh := .fcons .str 1 (.fcons (.int .i64) 1 (.fcons (.slice shHd 2) 1 (.fcons (.slice (.int .u8) 1) 1 (.fcons shMt 7 (.fcons (.slice .str 1) 1 (.fcons (.int .i64) 1 .fnil))))))
abbrev shSt : Sh := .fcons (.int .i64) 1 (.fcons (.int .i64) 1 (.fcons (.slice shEn 13) 1 (.fcons (.slice shEn 13) 1 .fnil)))
theorem open_slc {α : Type} {W : World} {e : Sh} {sz : Nat} {cs : List Value} (f : α → List Value) (P : α → Prop) (hd : ∀ es, e.ok W es → ∃ x, es = f x ∧ P x) (h : (Sh.slice e sz).ok W cs) :
    ∃ (A : Option Addr) (c : Nat) (xs : List α), cs = [.slice A xs.length c] ∧ Sl (whole W) A sz f xs ∧ xs.length ≤ maxLen ∧ (∀ x ∈ xs, P x) ∧ xs.length ≤ c := by
  rcases h with h | ⟨a, len, cap, h, hl, hc, hi⟩
  · exact ⟨none, 0, [], h, ⟨fun h => absurd rfl h, by simp⟩, Nat.zero_le _, by simp, Nat.zero_le _⟩
  · obtain ⟨A, c, xs, e1, h1, h2, h3⟩ := open_sld f P hd (.inr ⟨a, len, cap, h, hl, hc, hi⟩)
    rw [h] at e1
    simp only [List.cons.injEq, Value.slice.injEq, and_true] at e1
    obtain ⟨e2, e3, e4⟩ := e1
    exact ⟨A, c, xs, by rw [h, e2, e3, e4], h1, h2, h3, by omega⟩
section
variable {W : World} {es : List Value}
theorem open_hd (h : shHd.ok W es) : ∃ x : Hd, es = x.cs ∧ x.okl := by
  obtain ⟨_, _, _, ⟨a, ha, rfl⟩, ⟨_, _, _, ⟨b, hb, rfl⟩, rfl, rfl⟩, rfl⟩ := h
  exact ⟨⟨a, b⟩, rfl, ha, hb⟩
theorem open_mt (h : shMt.ok W es) : ∃ m : Mt, es = [I m.at_, I m.age, I m.life, I m.swr, I m.sie, B m.soft, B m.noc] := by
  obtain ⟨_, _, _, ⟨a, _, rfl⟩, ⟨_, _, _, ⟨b, _, rfl⟩, ⟨_, _, _, ⟨c, _, rfl⟩, ⟨_, _, _, ⟨d, _, rfl⟩, ⟨_, _, _, ⟨e, _, rfl⟩, ⟨_, _, _, ⟨f, rfl⟩, ⟨_, _, _, ⟨g, rfl⟩, rfl, rfl⟩, rfl⟩, rfl⟩, rfl⟩, rfl⟩, rfl⟩, rfl⟩ := h
  exact ⟨⟨a, b, c, d, e, f, g⟩, rfl⟩
theorem open_by (h : (Sh.int .u8).ok W es) : ∃ b : Int, es = byC b ∧ 0 ≤ b ∧ b ≤ 255 := by
  obtain ⟨n, hw, rfl⟩ := h
  have h2 : 0 ≤ n ∧ n ≤ 255 := by
    simp [Lit.wf] at hw
    have e1 : IntKind.u8.min = 0 := by decide
    have e2 : IntKind.u8.max = 255 := by decide
    rw [e1, e2] at hw
    exact hw
  exact ⟨n, rfl, h2⟩
theorem open_en (h : shEn.ok W es) : ∃ x : EnA, es = x.cs ∧ x.inn (whole W) ∧ x.c.okl := by
  obtain ⟨_, _, _, ⟨k, hk, rfl⟩, ⟨_, _, _, ⟨st, _, rfl⟩, ⟨_, _, _, hh, ⟨_, _, _, hb, ⟨_, _, _, hm, ⟨_, _, _, ht, ⟨_, _, _, ⟨p, _, rfl⟩, rfl, rfl⟩, rfl⟩, rfl⟩, rfl⟩, rfl⟩, rfl⟩, rfl⟩ := h
  obtain ⟨hA, hc, hs, rfl, h1, h2, h3⟩ := open_sld Hd.cs Hd.okl (fun es h => open_hd h) hh
  obtain ⟨bA, bc, bs, rfl, b1, b2, b3⟩ := open_sld byC (fun b => 0 ≤ b ∧ b ≤ 255) (fun es h => open_by h) hb
  obtain ⟨m, rfl⟩ := open_mt hm
  obtain ⟨tA, tc, ts, rfl, t1, t2, t3⟩ := open_sld stC (fun b => b.size ≤ maxLen) (fun es h => by obtain ⟨s, h1, rfl⟩ := h; exact ⟨s, rfl, h1⟩) ht
  exact ⟨⟨⟨k, st, hs, bs, m, ts, p⟩, hA, hc, bA, bc, tA, tc⟩, rfl, ⟨h1, b1, t1⟩, hk, h2, h3, b2, t2, t3, b3⟩
theorem open_st (h : shSt.ok W es) : ∃ x : StA, es = [I x.b, I x.g, .slice x.tA x.tr.length x.tc, .slice x.kA x.kp.length x.kc] ∧ x.inn (whole W) ∧ x.c.okl := by
  obtain ⟨_, _, _, ⟨b, _, rfl⟩, ⟨_, _, _, ⟨g, _, rfl⟩, ⟨_, _, _, ht, ⟨_, _, _, hk, rfl, rfl⟩, rfl⟩, rfl⟩, rfl⟩ := h
  obtain ⟨tA, tc, tr, rfl, t1, t2, t3, t4⟩ := open_slc EnA.cs (fun x => x.inn (whole W) ∧ x.c.okl) (fun es h => open_en h) ht
  obtain ⟨kA, kc, kp, rfl, k1, k2, k3, k4⟩ := open_slc EnA.cs (fun x => x.inn (whole W) ∧ x.c.okl) (fun es h => open_en h) hk
  refine ⟨⟨b, g, tr, kp, tA, tc, kA, kc⟩, rfl, ⟨⟨t1, fun x hx => (t3 x hx).1⟩, ⟨k1, fun x hx => (k3 x hx).1⟩, t4, k4⟩, by simpa [StA.c] using t2, by simpa [StA.c] using k2, fun e he => ?_, fun e he => ?_⟩
  · obtain ⟨x, hx, rfl⟩ := List.mem_map.1 he
    exact (t3 x hx).2
  · obtain ⟨x, hx, rfl⟩ := List.mem_map.1 he
    exact (k3 x hx).2
end
end Go.Proofs.YtdgipmlkkmmliaaGreatDoor
