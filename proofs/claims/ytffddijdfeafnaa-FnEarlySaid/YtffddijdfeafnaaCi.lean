/-
  CONTRACTS: the source that the drawing laws draw from: a counter over the bytes that came in.
-/
import Derived.Test.YtffddijdfeafnaaCf
import Derived.Test.YtffddijdfeafnaaXs
namespace Go.Proofs.Ytffddijdfeafnaa
set_option maxRecDepth 100000
set_option linter.unusedSimpArgs false
open Go.Xe
abbrev byC (b : Int) : List Value := [.int .u8 b]
/-- The bytes that came in. -/
structure Byt (M : PH) (A : Option Addr) (bs : List Int) : Prop where
  sl : Sl M A 1 byC bs
  le : bs.length ≤ 1048576
  by_ : ∀ (i : Nat) b, bs[i]? = some b → 0 ≤ b ∧ b ≤ 255
theorem Byt.get {M : PH} {A : Option Addr} {bs : List Int} (h : Byt M A bs) {j : Int} (h0 : 0 ≤ j) (h1 : j < bs.length) : ∃ b, 0 ≤ b ∧ b ≤ 255 ∧ A.isSome = true ∧ M.cells A (j.toNat * 1) [.int .u8 b] := by
  have hi : j.toNat < bs.length := by omega
  obtain ⟨h2, _, h3⟩ := h.sl.get hi
  obtain ⟨h4, h5⟩ := h.by_ _ _ (List.getElem?_eq_getElem hi)
  exact ⟨_, h4, h5, h2, h3⟩
theorem Byt.mono {M M' : PH} {A : Option Addr} {bs : List Int} (h : Byt M A bs) (l : M.Le M') : Byt M' A bs := ⟨h.sl.mono l, h.le, h.by_⟩
theorem cells1 {M : PH} {g : Nat} {c : List Value} {ty : TypeId} {fz : Nat × Nat} (h : M g = some (.cells c.toArray ty fz)) {o : Nat} {x : Value} (hx : c[o]? = some x) : M.cells (some ⟨g, 0, none⟩) o [x] := by
  refine ⟨_, rfl, fun j y hy => ?_⟩
  match j, hy with
  | 0, hy =>
    simp at hy; subst hy
    rw [add_at]
    simp [PH.cell, h, hx]
theorem wrap_id {n : Int} (h1 : -9223372036854775808 ≤ n) (h2 : n ≤ 9223372036854775807) : IntKind.i64.wrap n = n := wr_id h1 h2
theorem tmod_in {a n : Int} (h0 : 0 ≤ a) (h1 : 1 ≤ n) : 0 ≤ Int.tmod a n ∧ Int.tmod a n < n := ⟨Int.tmod_nonneg n h0, Int.tmod_lt_of_pos a (by omega)⟩
/-- The source at g: its bytes and how often it was asked. -/
abbrev srcO (A : Option Addr) (n c : Nat) (k : Int) : Obj := .cells [Value.slice A n c, I k].toArray 136 (0, 0)
abbrev P0 (g : Nat) : Value := .pointer (some ⟨g, 0, none⟩)
theorem l1Next_ret (g : Nat) (A : Option Addr) (c : Nat) (k n : Int) (bs : List Int) (M : PH) (hg : M g = some (srcO A bs.length c k)) (hb : Byt M A bs) (hb' : ∀ o, Byt (M.set g o) A bs) (h0 : 0 ≤ k) (hk : k ≤ 4294967296) :
    ACall env 90 [P0 g, I n] M fun r M' => ∃ x, r = I x ∧ (1 ≤ n → 0 ≤ x ∧ x < n) ∧ M' = M.set g (srcO A bs.length c (k + 1)) := by
  have e1 : IntKind.i64.wrap (k + 1) = k + 1 := wr_id (by omega) (by omega)
  have e2 : IntKind.i64.wrap (k + 1 - 1) = k := by rw [show k + 1 - 1 = k by omega]; exact wr_id (by omega) (by omega)
  have hle := hb.le
  refine xcall_of_vc Try.func90 rfl _ Try.ntmps90 _ rfl (fun _ _ => Try.call90 _ _) rfl (fun w0 ρ0 => ?_)
  conv => whnf
  refine ⟨_, cells1 hg rfl, ?_⟩
  conv => whnf
  refine ⟨g, 0, [Value.slice A bs.length c, I k], 136, rfl, hg, by simp, ?_⟩
  conv => whnf
  repeat' (first | (refine ⟨⟨[], rfl⟩, _, PH.Le.refl _, PH.Le.refl _, ?_⟩; conv => whnf) | (refine caseB_true ?_; conv => whnf) | (refine caseB_false ?_; conv => whnf) | ((with_reducible refine caseB_dec (fun h => ?_) (fun h => ?_)) <;> conv => whnf) | ((with_reducible refine caseB_ndec (fun h => ?_) (fun h => ?_)) <;> conv => whnf) | ((with_reducible refine caseB_not (fun h => ?_) (fun h => ?_)) <;> conv => whnf) | (refine caseB_intro (fun h => ?_) (fun h => ?_) <;> (try simp only [Bool.not_eq_true', Bool.not_eq_false', decide_eq_true_eq, decide_eq_false_iff_not] at h) <;> conv => whnf))
  · exact ⟨_, PH.Le.refl _, _, rfl, fun h => by omega, by rw [e1]; rfl⟩
  refine ⟨_, cells1 (PH.set_same _ _ _) rfl, ?_⟩
  conv => whnf
  refine ⟨_, cells1 (PH.set_same _ _ _) rfl, ?_⟩
  conv => whnf
  repeat' (first | (refine ⟨⟨[], rfl⟩, _, PH.Le.refl _, PH.Le.refl _, ?_⟩; conv => whnf) | (refine caseB_true ?_; conv => whnf) | (refine caseB_false ?_; conv => whnf) | ((with_reducible refine caseB_dec (fun h => ?_) (fun h => ?_)) <;> conv => whnf) | ((with_reducible refine caseB_ndec (fun h => ?_) (fun h => ?_)) <;> conv => whnf) | ((with_reducible refine caseB_not (fun h => ?_) (fun h => ?_)) <;> conv => whnf) | (refine caseB_intro (fun h => ?_) (fun h => ?_) <;> (try simp only [Bool.not_eq_true', Bool.not_eq_false', decide_eq_true_eq, decide_eq_false_iff_not] at h) <;> conv => whnf))
  · refine ⟨by omega, ?_⟩
    conv => whnf
    refine ⟨_, PH.Le.refl _, _, rfl, fun h => ?_, by rw [e1]; rfl⟩
    rw [e1, e2, wrap_id (n := k * 7) (by omega) (by omega)]
    exact tmod_in (by omega) (by omega)
  have hL : (1 : Int) ≤ bs.length := by omega
  have w1 : IntKind.i64.wrap (k + 1) = k + 1 := e1
  have w2 : IntKind.i64.wrap (k + 2) = k + 2 := wr_id (by omega) (by omega)
  have i0 : 0 ≤ Int.tmod (IntKind.i64.wrap (IntKind.i64.wrap (k + 1) - 1)) bs.length ∧ Int.tmod (IntKind.i64.wrap (IntKind.i64.wrap (k + 1) - 1)) bs.length < bs.length := by rw [e1, e2]; exact tmod_in h0 hL
  have i1 : 0 ≤ Int.tmod (IntKind.i64.wrap (IntKind.i64.wrap (IntKind.i64.wrap (k + 1) - 1) + 1)) bs.length ∧ Int.tmod (IntKind.i64.wrap (IntKind.i64.wrap (IntKind.i64.wrap (k + 1) - 1) + 1)) bs.length < bs.length := by rw [e1, e2, e1]; exact tmod_in (by omega) hL
  have i2 : 0 ≤ Int.tmod (IntKind.i64.wrap (IntKind.i64.wrap (IntKind.i64.wrap (k + 1) - 1) + 2)) bs.length ∧ Int.tmod (IntKind.i64.wrap (IntKind.i64.wrap (IntKind.i64.wrap (k + 1) - 1) + 2)) bs.length < bs.length := by rw [e1, e2, w2]; exact tmod_in (by omega) hL
  obtain ⟨b0, l0, u0, hA, c0⟩ := (hb' (srcO A bs.length c (IntKind.i64.wrap (k + 1)))).get i0.1 i0.2
  obtain ⟨b1, l1, u1, _, c1⟩ := (hb' (srcO A bs.length c (IntKind.i64.wrap (k + 1)))).get i1.1 i1.2
  obtain ⟨b2, l2, u2, _, c2⟩ := (hb' (srcO A bs.length c (IntKind.i64.wrap (k + 1)))).get i2.1 i2.2
  have q0 : 0 ≤ Int.tdiv k bs.length ∧ Int.tdiv k bs.length ≤ k := ⟨Int.tdiv_nonneg h0 (by omega), Int.tdiv_le_self _ h0⟩
  repeat' (first | (refine ⟨⟨[], rfl⟩, _, PH.Le.refl _, PH.Le.refl _, ?_⟩; conv => whnf) | (refine ⟨.int .u8 b2, c2, ?_⟩; conv => whnf) | (refine ⟨.int .u8 b1, c1, ?_⟩; conv => whnf) | (refine ⟨.int .u8 b0, c0, ?_⟩; conv => whnf) | (refine ⟨i2.1, i2.2, hA, ?_⟩; conv => whnf) | (refine ⟨i1.1, i1.2, hA, ?_⟩; conv => whnf) | (refine ⟨i0.1, i0.2, hA, ?_⟩; conv => whnf) | (refine And.intro (by omega) ?_; conv => whnf) | (refine ⟨_, cells1 (PH.set_same _ _ _) rfl, ?_⟩; conv => whnf) | (refine caseB_true ?_; conv => whnf) | (refine caseB_false ?_; conv => whnf) | ((with_reducible refine caseB_dec (fun h => ?_) (fun h => ?_)) <;> conv => whnf) | ((with_reducible refine caseB_ndec (fun h => ?_) (fun h => ?_)) <;> conv => whnf) | ((with_reducible refine caseB_not (fun h => ?_) (fun h => ?_)) <;> conv => whnf) | (refine draw_rule (.light 0 <| .light 1 <| .light 2 <| .light 3 <| .light 4 <| .light 5 <| .light 6 <| .light 7 <| .light 8 <| .light 9 <| .light 10 <| .light 11 <| .light 12 <| .light 13 <| .light 14 <| .light 15 <| .done) (by decide +kernel) ?_; conv => whnf) | (refine draw_rule (.light 0 <| .light 1 <| .light 2 <| .light 3 <| .light 4 <| .light 5 <| .light 6 <| .light 7 <| .light 8 <| .light 9 <| .light 10 <| .light 11 <| .light 12 <| .light 13 <| .light 14 <| .light 15 <| .light 16 <| .light 17 <| .done) (by decide +kernel) ?_; conv => whnf) | (refine draw_rule (.light 0 <| .light 1 <| .light 2 <| .light 3 <| .light 4 <| .light 5 <| .light 6 <| .light 7 <| .light 8 <| .light 9 <| .light 10 <| .light 11 <| .light 12 <| .light 13 <| .light 14 <| .done) (by decide +kernel) ?_; conv => whnf) | (refine caseB_intro (fun h => ?_) (fun h => ?_) <;> (try simp only [Bool.not_eq_true', Bool.not_eq_false', decide_eq_true_eq, decide_eq_false_iff_not] at h) <;> conv => whnf))
  all_goals refine ⟨_, PH.Le.refl _, _, rfl, fun h => ?_, by rw [e1]; rfl⟩
  all_goals simp (disch := omega) only [e1, e2, w2, wrap_id]
  all_goals exact tmod_in (by omega) h
theorem l1Source_ret (A : Option Addr) (c : Nat) (bs : List Int) (M : PH) : ACall env 100 [.slice A bs.length c] M fun r M' => ∃ g, M g = none ∧ r = P0 g ∧ M' = M.set g (srcO A bs.length c 0) := by
  refine xcall_of_vc Try.func100 rfl _ Try.ntmps100 _ rfl (fun _ _ => Try.call100 _ _) rfl (fun w0 ρ0 => ?_)
  conv => whnf
  intro g hg
  exact ⟨_, PH.Le.refl _, g, hg, rfl, rfl⟩
theorem l1Later_ret (A : Option Addr) (c : Nat) (bs : List Int) (j : Int) (M : PH) : ACall env 88 [.slice A bs.length c, I j] M fun r M' => ∃ g, M g = none ∧ r = P0 g ∧ M' = M.set g (srcO A bs.length c (wr (5 + wr (7 * j)))) := by
  refine xcall_of_vc Try.func88 rfl _ Try.ntmps88 _ rfl (fun _ _ => Try.call88 _ _) rfl (fun w0 ρ0 => ?_)
  conv => whnf
  intro g hg
  exact ⟨_, PH.Le.refl _, g, hg, rfl, rfl⟩
end Go.Proofs.Ytffddijdfeafnaa
