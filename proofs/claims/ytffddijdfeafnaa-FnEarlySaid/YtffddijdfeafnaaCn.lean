/-
  THE OPENING of an argument that is a slice of bytes.
-/
import Derived.Test.YtffddijdfeafnaaCm
namespace Go.Proofs.Ytffddijdfeafnaa
set_option maxRecDepth 100000
open Go.ChangeShapes Go.WideShapes Go.RowKit Go.Xe
theorem openBytes {H : Type} {enc : TypeId × Value → H} {W : World} {base : Nat} {v : Value} {d : DataW H} {p : List MemPlace} (hv : Value.okWide Try.prog W .any base 80 v)
    (h : DataW.Trod enc Try.prog W 0 (fun _ => true) true 80 v d p) : ∃ (A : Option Addr) (c : Nat) (bs : List Int), v = .slice A bs.length c ∧ Sl (whole W) A 1 byC bs ∧ (∀ (i : Nat) b, bs[i]? = some b → 0 ≤ b ∧ b ≤ 255) := by
  obtain ⟨cs, rfl, hs⟩ := open_arg env 9 (ti := ti80) (by kernel_rfl) (s := .slice (.int .u8) 1) (by kernel_rfl) hv h
  obtain ⟨A, c, ws, rfl, hS, hl⟩ := open_sl (fun b : {b : Int // 0 ≤ b ∧ b ≤ 255} => byC b.1) (fun es h => by
    obtain ⟨n, hw, rfl⟩ := h
    have h2 : 0 ≤ n ∧ n ≤ 255 := by
      simp [Lit.wf] at hw
      have e1 : IntKind.u8.min = 0 := by decide
      have e2 : IntKind.u8.max = 255 := by decide
      rw [e1, e2] at hw
      exact hw
    exact ⟨⟨n, h2⟩, rfl⟩) hs
  refine ⟨A, c, ws.map (·.1), by rw [List.length_map]; rfl, ⟨fun hne => hS.ne (by intro e; apply hne; rw [e]; rfl), fun i x hx => ?_⟩, fun i b hb => ?_⟩
  · rw [List.getElem?_map] at hx
    cases hw : ws[i]? with
    | none => rw [hw] at hx; cases hx
    | some y => rw [hw] at hx; cases hx; exact hS.at_ i y hw
  · rw [List.getElem?_map] at hb
    cases hw : ws[i]? with
    | none => rw [hw] at hb; cases hb
    | some y => rw [hw] at hb; cases hb; exact y.2
end Go.Proofs.Ytffddijdfeafnaa
