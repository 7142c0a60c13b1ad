/-
  TEXTS: the text of head lines by the given program's builder.
-/
import Derived.Test.YtafgnmiflngjhaaGreatDoorBb
namespace Go.Proofs.YtafgnmiflngjhaaGreatDoor
set_option maxRecDepth 100000
set_option linter.unusedSimpArgs false
set_option linter.unusedVariables false
open Go.Shelf Go.RowKit Go.Xe
theorem hidB {p : Prop} (h : p) : Hid p := h
theorem lineText_calls (x : Hd) (w : World) (hx : x.cost ≤ 4194304) :
    Calls Tryz.prog 214 #[.agg #[.string x.n, .string x.v]] w fun e w' => e = .returned (.string (lineB x)) ∧ Below w.heap.size w w' :=
  (calls_of_acall (E := env) (args := #[x.val]) (R := fun r => r = Tx (lineB x)) ((lineText_ret x (whole w) hx).mono fun r M' ⟨h1, h2⟩ => ⟨h1, h2 ▸ PH.Le.refl _⟩)).mono fun e w' ⟨r, h1, h2, h3⟩ => ⟨by rw [h1, h2], h3⟩
theorem ownsRow_down {B : Nat} {e : TypeId} {k : Nat} {v : Value} {n : Nat} {xs : List Value} {w w' : World} (h : w.ownsRow B e k v n xs) (hb : Below w.heap.size w w') : w'.ownsRow B e k v n xs :=
  h.kept (row := none) ⟨hb.os, hb.tape, hb.output, hb.size, fun k hk _ => hb.block k hk⟩ (by cases v.ownBlock with | none => exact .inl rfl | some k => exact .inr (by simp))
theorem bld_below {b : Nat} {bs : List Value} {B0 : Nat} {w w' : World} (h : Bld B0 b bs w) (hb : Below w.heap.size w w') : Bld B0 b bs w' := by
  have key : ∀ p, Lib.BuilderAt 202 5 B0 b p bs w → Lib.BuilderAt 202 5 B0 b p bs w' := fun p h => by
    have hlt := h.lt
    obtain ⟨h1, v, h2, h3, h4⟩ := h
    exact ⟨h1, v, by rw [hb.block b hlt]; exact h2, ownsRow_down h3 hb, h4⟩
  exact h.elim (fun h => .inl (key _ h)) (fun h => .inr (key _ h))
set_option maxHeartbeats 2000000 in
theorem headersText_calls (a : Option Addr) (c : Nat) (ws : List Hd) (w : World) (hne : ws ≠ [] → ∃ pb po, a = some ⟨pb, po, none⟩ ∧ pb < w.heap.size)
    (hcells : ∀ (pb po k : Nat) x, a = some ⟨pb, po, none⟩ → ws[k]? = some x → w.cell? ⟨pb, po + k * 2, none⟩ = some (.string x.n) ∧ w.cell? ⟨pb, po + k * 2 + 1, none⟩ = some (.string x.v))
    (hco : costL Hd.cost ws ≤ 4194304) :
    Calls Tryz.prog 184 #[.slice a ws.length c] w fun e w' => e = .returned (.string (pack ws)) ∧ Below w.heap.size w w' := by
  have HC := hidB hcells
  have HN := hidB hne
  have hn := Nat.le_trans (costL_len Hd.cost ws) hco
  have hcoT : ∀ i, costL Hd.cost (ws.take i) ≤ 4194304 := fun i => Nat.le_trans (costL_take _ _ _) hco
  have HT := hidB hcoT
  have Hco := hidB hco
  clear hcells hne hcoT hco
  go_enter Tryz.func184, Tryz.ntmps184
  go_wp2_with fail
  go_loopw [9] (fun i wr => ∃ k : Nat, k ≤ ws.length ∧ i = .int .i64 k ∧ Hid (Bld w.heap.size w.heap.size (Lib.byteCells (packL (ws.take k))) wr) ∧ Hid (Below w.heap.size w wr)) (fun i _ => ws.length - (intOf i).toNat)
  case atStart => exact ⟨0, Nat.zero_le _, rfl, Lib.fresh_isBuilder 202 5 w, (Below.refl w.heap.size w).alloc (Nat.le_refl _) _⟩
  case round =>
    obtain ⟨k, hk, rfl, HB, HW⟩ := hrel
    by_cases hkl : k < ws.length
    · obtain ⟨pb, po, rfl, hp⟩ := HN.out (fun e => by rw [e] at hkl; simp at hkl)
      obtain ⟨c0, c1⟩ := HC.out pb po k ws[k] rfl (List.getElem?_eq_getElem hkl)
      rw [← HW.out.cell (p := ⟨pb, po + k * 2, none⟩) hp] at c0
      rw [← HW.out.cell (p := ⟨pb, po + k * 2 + 1, none⟩) hp] at c1
      have hx : ws[k].cost ≤ 4194304 := Nat.le_trans (costL_le (f := Hd.cost) (List.getElem_mem hkl)) Hco.out
      have hl0 : (Lib.byteCells (packL (ws.take k))).length ≤ 4 * 4194304 := by
        rw [Lib.byteCells_length]
        have := packL_len (ws.take k)
        have := HT.out k
        omega
      have hls : (lineB ws[k]).size ≤ 4194304 + 4 := by
        rw [line_size]
        have e : Hd.cost ws[k] = ws[k].n.size + ws[k].v.size := rfl
        omega
      have hnext : Lib.byteCells (packL (ws.take k)) ++ Lib.strCells (lineB ws[k]) = Lib.byteCells (packL (ws.take (k + 1))) := by
        rw [packL_snoc hkl, Lib.byteCells_append, Lib.strCells_eq]
      have Hn := hidB hnext
      generalize ws[k] = x at *
      clear hnext
      go_wp2_with fail
      refine (lineText_calls x _ hx).mono ?_
      rintro e w3 ⟨rfl, hb3⟩
      have hba : Below wr.heap.size wr w3 := ((Below.refl wr.heap.size wr).alloc (Nat.le_refl _) _).trans (hb3.mono ((Below.refl wr.heap.size wr).alloc (Nat.le_refl _) _).size)
      have H3 := hidB (bld_below HB.out hba)
      have HW3 := hidB (HW.out.trans (hba.mono HW.out.size))
      clear hba hb3
      go_wp2_with fail
      refine (writeString_calls w.heap.size w.heap.size _ (lineB x) w3 H3.out (by omega) HW3.out.size).mono ?_
      rintro e w4 ⟨rfl, h4, hb4⟩
      rw [Hn.out] at h4
      have H4 := hidB h4
      have HW4 := hidB (HW3.out.trans hb4)
      clear h4 hb4
      go_wp2
      exact ⟨⟨k + 1, by omega, by go_num, H4, HW4⟩, by simp [intOf]; omega⟩
    · have hke : k = ws.length := by omega
      subst hke
      go_wp2_with fail
      have hk2 : ws.take ws.length = ws := List.take_length
      rw [hk2] at HB
      refine (string_calls w.heap.size w.heap.size (packL ws) wr HB.out HW.out.size).mono ?_
      rintro e w2 ⟨rfl, hb2⟩
      go_wp2
      go_ret
      exact ⟨rfl, HW.out.trans hb2⟩
theorem headersText_ret (A : Option Addr) (c : Nat) (ws : List Hd) (M : PH) (hs : Sl M A 2 Hd.cs ws) (hco : costL Hd.cost ws ≤ 4194304) :
    Ret 184 [.slice A ws.length c] M (Tx (pack ws)) :=
  ret_of_calls (fun _ _ => Tryz.call184 _ _) fun w hM => headersText_calls A c ws w
    (fun hne => by
      cases ws with
      | nil => exact absurd rfl hne
      | cons x r =>
        obtain ⟨_, a, rfl, hc⟩ := hs.at_ 0 x rfl
        have h0 := hc 0 (Tx x.n) rfl
        have e : a.add (0 * 2 + 0) = a := rfl
        rw [e] at h0
        have hw := hM.cell h0
        unfold PH.cell at h0
        obtain ⟨pb, po, ps⟩ := a
        cases ps with
        | some s => split at h0 <;> simp at h0
        | none =>
          refine ⟨pb, po, rfl, ?_⟩
          cases hm : M pb with
          | none => simp only [hm] at h0; cases h0
          | some o => exact hM.lt hm)
    (fun pb po k x ha hx => by
      obtain ⟨_, a, ha', hc⟩ := hs.at_ k x hx
      rw [ha] at ha'
      cases ha'
      have h0 := hM.cell (hc 0 (Tx x.n) rfl)
      have h1 := hM.cell (hc 1 (Tx x.v) rfl)
      rw [add_at] at h0 h1
      exact ⟨h0, h1⟩) hco
end Go.Proofs.YtafgnmiflngjhaaGreatDoor
