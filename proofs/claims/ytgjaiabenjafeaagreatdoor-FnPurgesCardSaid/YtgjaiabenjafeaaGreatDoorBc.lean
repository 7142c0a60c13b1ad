/-
  TEXTS: a Builder of the call's own, written to and read; the text of head lines. TEXTS: the text of head lines. TEXTS: the text of head lines by the given program's builder.
-/
import Derived.Test.YtgjaiabenjafeaaGreatDoorTe
import Derived.Shelf.Strings.Builder1
import Derived.Lib.Walk
import Derived.WalkKit
import Derived.ProofKit
namespace Go.Proofs.YtgjaiabenjafeaaGreatDoor
set_option maxRecDepth 100000
set_option linter.unusedSimpArgs false
set_option linter.unusedVariables false
open Go.Shelf Go.RowKit
theorem sizeBuilder : (Tryz.prog.info? 192).map (·.size) = some 2 := by kernel_rfl
theorem liesBuilder : liesAt Tryz.prog Tryz.prog.depth 192 (2 / Tryz.prog.cellsOf 192) 0 192 1 = true := by kernel_rfl
theorem infoByte : (Tryz.prog.info? 5).map (fun i => (i.zero, i.size, i.bytes)) = some (some (.int .u8 0), 1, 1) := by kernel_rfl
set_option maxHeartbeats 1000000 in
theorem copyCheck_used (b : Nat) (w : World) (h0 : w.cell? ⟨b, 0, none⟩ = some (.pointer (some ⟨b, 0, none⟩))) :
    Calls Tryz.prog 209 #[.pointer (some ⟨b, 0, none⟩)] w fun e w' => e = .returned (.tuple #[]) ∧ w' = w := by
  obtain ⟨j, hj, _⟩ := Option.map_eq_some_iff.1 sizeBuilder
  go_enter Tryz.func209, Tryz.ntmps209
  go_wp2
  rw [Lib.run_neq_ptr_same w _ Tryz.underlying190 hj]
  go_wp2
  go_end0
  exact ⟨rfl, rfl⟩
set_option maxHeartbeats 1000000 in
theorem copyCheck_fresh (b : Nat) (w : World) (h0 : w.cell? ⟨b, 0, none⟩ = some (.pointer none)) (hsh : w.shape? b = some (192, 2)) (hfz : w.frozen? ⟨b, 0, none⟩ = false) :
    Calls Tryz.prog 209 #[.pointer (some ⟨b, 0, none⟩)] w fun e w' => e = .returned (.tuple #[]) ∧ w' = w.setCell ⟨b, 0, none⟩ (.pointer (some ⟨b, 0, none⟩)) := by
  obtain ⟨j, hj, hjs⟩ := Option.map_eq_some_iff.1 sizeBuilder
  go_enter Tryz.func209, Tryz.ntmps209
  go_wp2
  rw [Lib.run_to_unsafe w ⟨b, 0, none⟩ Tryz.underlying190 Tryz.underlying216 hj (by rw [hjs]; decide) hsh (Nat.zero_lt_succ 1)]
  simp only [Result.andThen]
  rw [Oper.upon_value]
  go_wp2
  rw [run_callFunc_extern Tryz.func220 (by kernel_rfl) (by kernel_rfl) (by kernel_rfl) (e := Extern.AbiNoEscape.same) (by kernel_rfl)]
  rw [Lib.run_noEscape]
  simp only [Result.andThen]
  rw [Oper.upon_value]
  go_wp2
  rw [Lib.run_from_unsafe w ⟨b, 0, none⟩ Tryz.underlying216 Tryz.underlying190 hj hsh liesBuilder]
  simp only [Result.andThen]
  rw [Oper.upon_value]
  go_wp2
  go_end0
  exact ⟨rfl, rfl⟩
abbrev Bld (B b : Nat) (bs : List Value) (w : World) : Prop := Lib.IsBuilder 192 5 B b bs w
theorem copyCheck_calls (B b : Nat) (bs : List Value) (w : World) (h : Bld B b bs w) :
    Calls Tryz.prog 209 #[.pointer (some ⟨b, 0, none⟩)] w fun e w' => e = .returned (.tuple #[]) ∧ (Lib.BuilderAt 192 5 B b (.pointer (some ⟨b, 0, none⟩)) bs w' ∧ Below B w w') := by
  rcases h with h | h
  · refine (copyCheck_fresh b w h.cell0 h.shape h.frozen0).mono ?_
    rintro e w' ⟨rfl, rfl⟩
    exact ⟨rfl, h.used _, (Below.refl B w).setCell (p := ⟨b, 0, none⟩) h.1 _⟩
  · refine (copyCheck_used b w h.cell0).mono ?_
    rintro e w' ⟨rfl, rfl⟩
    exact ⟨rfl, h, Below.refl B _⟩
set_option maxHeartbeats 2000000 in
theorem writeString_calls (B b : Nat) (bs : List Value) (s : ByteArray) (w : World) (h : Bld B b bs w) (hlen : bs.length + s.size ≤ 140737488355328) (hBw : B ≤ w.heap.size) :
    Calls Tryz.prog 190 #[.pointer (some ⟨b, 0, none⟩), .string s] w fun e w' => e = .returned (.tuple #[.int .i64 s.size, .nilIface]) ∧ (Bld B b (bs ++ Lib.strCells s) w' ∧ Below B w w') := by
  obtain ⟨i0, hi, hz0, hz1, hz2⟩ := info_parts infoByte
  go_enter Tryz.func190, Tryz.ntmps190
  go_wp2_with (go_at_call 209; refine (copyCheck_calls B b bs _ h).mono ?_)
  rintro e w1 ⟨rfl, h1, hb1⟩
  obtain ⟨hB, v, hbk, hown, hne⟩ := h1
  have c0 : w1.cell? ⟨b, 0, none⟩ = some (.pointer (some ⟨b, 0, none⟩)) := by rw [Lib.cell_of_heap hbk]; rfl
  have c1 : w1.cell? ⟨b, 1, none⟩ = some v := by rw [Lib.cell_of_heap hbk]; rfl
  go_wp2_with (at_builtin; refine Lib.wpList_append_own_string _ rfl _ _ 26 9 rfl B 5 i0 Tryz.underlying26 Tryz.underlying9 hi hz0 hz1 hz2 _ _ _ rfl hown s rfl ?c3 ?c4 ?c5 ?_)
  case c3 => unfold maxLen; omega
  case c4 => omega
  case c5 => have := hb1.size; omega
  intro v' w2 hown' hgrow _
  have hlt : b < w1.heap.size := (Array.getElem?_eq_some_iff.1 hbk).1
  have hb2 : w2.heap[b]? = some (.cells #[.pointer (some ⟨b, 0, none⟩), v] 192 (0, 0)) := by
    rw [hgrow.block b hlt (fun e => hne e.symm)]
    exact hbk
  have d0 : w2.cell? ⟨b, 0, none⟩ = some (.pointer (some ⟨b, 0, none⟩)) := by rw [Lib.cell_of_heap hb2]; rfl
  have d1 : w2.cell? ⟨b, 1, none⟩ = some v := by rw [Lib.cell_of_heap hb2]; rfl
  have f1 : w2.frozen? ⟨b, 1, none⟩ = false := Lib.frozen_of_heap hb2 1
  obtain ⟨ao, n', cap, rfl⟩ : ∃ ao n' cap, v' = .slice ao n' cap := by
    rcases hown'.2 with ⟨hv, _⟩ | ⟨g, cap, cur, hv, _⟩
    · exact ⟨_, _, _, hv⟩
    · exact ⟨_, _, _, hv⟩
  go_wp2
  go_ret2
  refine ⟨rfl, .inr ?_, ?_⟩
  · exact Lib.BuilderAt.put (T := 192) (e := 5) hB hb2 (bs' := bs ++ Lib.strCells s) (by simpa [Lib.strCells_length] using hown') (by decide)
  · exact (hb1.grown hgrow (by have := hb1.size; omega) (fun k hk => (hown.lt k hk).1)).setCell (p := ⟨b, 1, none⟩) hB _
theorem string_calls (B b : Nat) (l : List UInt8) (w : World) (h : Bld B b (Lib.byteCells l) w) (hBw : B ≤ w.heap.size) :
    Calls Tryz.prog 192 #[.pointer (some ⟨b, 0, none⟩)] w fun e w' => e = .returned (.string ⟨l.toArray⟩) ∧ Below B w w' :=
  Any.Builder_String_any sh169 sh169X B b l w h hBw
open Go.Xe
def lineB (x : Hd) : ByteArray := x.n ++ ⟨#[58, 32]⟩ ++ x.v ++ ⟨#[13, 10]⟩
def packL (ws : List Hd) : List UInt8 := ws.flatMap fun x => (lineB x).data.toList
def pack (ws : List Hd) : ByteArray := ⟨(packL ws).toArray⟩
theorem line_size (x : Hd) : (lineB x).size = x.n.size + x.v.size + 4 := by
  unfold lineB
  rw [ByteArray.size_append, ByteArray.size_append, ByteArray.size_append]
  show x.n.size + 2 + x.v.size + 2 = _
  omega
theorem packL_len (ws : List Hd) : (packL ws).length ≤ 4 * costL Hd.cost ws := by
  unfold packL costL
  induction ws with
  | nil => simp
  | cons x r ih =>
    rw [List.flatMap_cons, List.length_append, ← size_list, line_size]
    simp only [List.map_cons, List.sum_cons, List.length_cons, Hd.cost] at ih ⊢
    omega
theorem packL_snoc {ws : List Hd} {i : Nat} (h : i < ws.length) : packL (ws.take (i + 1)) = packL (ws.take i) ++ (lineB ws[i]).data.toList := by
  unfold packL
  rw [List.take_succ_eq_append_getElem h, List.flatMap_append]
  simp
theorem lineText_ret (x : Hd) (M : PH) (hx : x.cost ≤ 4194304) : Ret 191 [x.val] M (Tx (lineB x)) := by
  have h1 : x.n.size + x.v.size ≤ 4194304 := hx
  refine xcall_of_vc Tryz.func191 rfl _ Tryz.ntmps191 _ rfl (fun _ _ => Tryz.call191 _ _) rfl (fun w0 ρ0 => ?_)
  conv => whnf
  repeat' (first | (refine ⟨⟨[], rfl⟩, _, PH.Le.refl _, PH.Le.refl _, ?_⟩; conv => whnf) | (refine ⟨cat_fits (by (try rw [ByteArray.size_append]); (try rw [ByteArray.size_append]); (try show _ + 2 + _ + 2 ≤ _); (try show _ + 2 + _ ≤ _); (try show _ + 2 ≤ _); omega), ?_⟩; conv => whnf) | (refine caseB_true ?_; conv => whnf) | (refine caseB_false ?_; conv => whnf) | ((with_reducible refine caseB_dec (fun h => ?_) (fun h => ?_)) <;> conv => whnf) | ((with_reducible refine caseB_ndec (fun h => ?_) (fun h => ?_)) <;> conv => whnf) | ((with_reducible refine caseB_not (fun h => ?_) (fun h => ?_)) <;> conv => whnf) | (with_reducible refine @And.intro (guardVC _ _ _ _ _) _ ?_ ?_) <;> conv => whnf | (refine caseB_intro (fun h => ?_) (fun h => ?_) <;> (try simp only [Bool.not_eq_true', Bool.not_eq_false', decide_eq_true_eq, decide_eq_false_iff_not] at h) <;> conv => whnf))
  exact ⟨_, PH.Le.refl _, rfl, rfl⟩
theorem l4Pack_ret (A : Option Addr) (c : Nat) (ws : List Hd) (M : PH) (hs : Sl M A 2 Hd.cs ws) (hco : costL Hd.cost ws ≤ 4194304) :
    Ret 183 [.slice A ws.length c] M (Tx (pack ws)) := by
  have hn := Nat.le_trans (costL_len Hd.cost ws) hco
  have hcoT : ∀ i, costL Hd.cost (ws.take i) ≤ 4194304 := fun i => Nat.le_trans (costL_take _ _ _) hco
  refine xcall_of_vc Tryz.func183 rfl _ Tryz.ntmps183 _ rfl (fun _ _ => Tryz.call183 _ _) rfl (fun w0 ρ0 => ?_)
  conv => whnf
  refine loop_rule (fun i : Nat => ⟨slots 27 [(0, .v (.slice A ws.length c)), (3, .v (Tx (pack (ws.take i)))), (4, .v (I i))], []⟩) (fun i M' => i ≤ ws.length ∧ M' = M) (fun i => ws.length - i) 0 ?_ ?_ ?_
  · exact ⟨by simp [slots, leT, pack, packL], ⟨[], rfl⟩, Nat.zero_le _, rfl, rfl⟩
  · exact ⟨Nat.zero_le _, rfl⟩
  rintro i M' ⟨hi, rfl⟩
  conv => whnf
  refine caseB_dec (fun h0 => ?_) (fun h0 => ?_)
  · have h0 : (i : Int) < ws.length := h0
    have hi' : i < ws.length := by omega
    have hw : IntKind.i64.wrap ((i : Int) + 1) = (i : Int) + 1 := wr_id (by omega) (by omega)
    obtain ⟨hA, _, hc⟩ := hs.get hi'
    have hz : (pack (ws.take i)).size ≤ 4 * 4194304 := by
      have h2 := packL_len (ws.take i)
      have h3 := hcoT i
      rw [size_list]
      show (packL _).length ≤ _
      omega
    have hv : ws[i].n.size + ws[i].v.size ≤ 4194304 := by
      have := costL_le (f := Hd.cost) (List.getElem_mem hi')
      have e : Hd.cost ws[i] = ws[i].n.size + ws[i].v.size := rfl
      omega
    have ey : pack (ws.take (i + 1)) = pack (ws.take i) ++ ws[i].n ++ ⟨#[58, 32]⟩ ++ ws[i].v ++ ⟨#[13, 10]⟩ := ba_ext (by
      show (packL _) = _
      rw [packL_snoc hi']
      simp [pack, lineB])
    generalize pack (ws.take i) = us at *
    generalize ws[i] = x at *
    conv => whnf
    repeat' (first | (refine ⟨⟨[], rfl⟩, _, PH.Le.refl _, PH.Le.refl _, ?_⟩; conv => whnf) | (refine ⟨cat_fits (by (try rw [ByteArray.size_append]); (try rw [ByteArray.size_append]); (try rw [ByteArray.size_append]); (try show _ + _ + 2 + _ + 2 ≤ _); (try show _ + _ + 2 + _ ≤ _); (try show _ + _ + 2 ≤ _); omega), ?_⟩; conv => whnf) | (refine ⟨_, cells_cut hc 1 rfl, ?_⟩; conv => whnf) | (refine ⟨_, cells_cut hc 0 rfl, ?_⟩; conv => whnf) | (refine ⟨by omega, by omega, hA, ?_⟩; conv => whnf) | (refine caseB_true ?_; conv => whnf) | (refine caseB_false ?_; conv => whnf) | ((with_reducible refine caseB_dec (fun h => ?_) (fun h => ?_)) <;> conv => whnf) | ((with_reducible refine caseB_ndec (fun h => ?_) (fun h => ?_)) <;> conv => whnf) | ((with_reducible refine caseB_not (fun h => ?_) (fun h => ?_)) <;> conv => whnf) | (refine draw_rule (.light 0 <| .light 1 <| .light 2 <| .light 3 <| .light 4 <| .light 5 <| .light 6 <| .light 7 <| .light 8 <| .light 9 <| .light 10 <| .light 11 <| .light 12 <| .light 13 <| .light 14 <| .light 15 <| .done) (by decide +kernel) ?_; conv => whnf) | (with_reducible refine @And.intro (guardVC _ _ _ _ _) _ ?_ ?_) <;> conv => whnf | (refine caseB_intro (fun h => ?_) (fun h => ?_) <;> (try simp only [Bool.not_eq_true', Bool.not_eq_false', decide_eq_true_eq, decide_eq_false_iff_not] at h) <;> conv => whnf))
    exact ⟨i + 1, ⟨by simp [slots, leT, hw, ey], ⟨_, rfl⟩, Nat.zero_le _, rfl, rfl⟩, ⟨by omega, rfl⟩, by omega⟩
  · have hi' : i = ws.length := by have : ¬ (i : Int) < ws.length := h0; omega
    subst hi'
    conv => whnf
    exact ⟨_, PH.Le.refl _, by rw [List.take_length]; rfl, rfl⟩
set_option maxRecDepth 100000
set_option linter.unusedSimpArgs false
set_option linter.unusedVariables false
open Go.Shelf Go.RowKit Go.Xe
theorem hidB {p : Prop} (h : p) : Hid p := h
theorem lineText_calls (x : Hd) (w : World) (hx : x.cost ≤ 4194304) :
    Calls Tryz.prog 191 #[.agg #[.string x.n, .string x.v]] w fun e w' => e = .returned (.string (lineB x)) ∧ Below w.heap.size w w' :=
  (calls_of_acall (E := env) (args := #[x.val]) (R := fun r => r = Tx (lineB x)) (Tryz.call191 _ _) ((lineText_ret x (whole w) hx).mono fun r M' ⟨h1, h2⟩ => ⟨h1, h2 ▸ PH.Le.refl _⟩)).mono fun e w' ⟨r, h1, h2, h3⟩ => ⟨by rw [h1, h2], h3⟩
theorem ownsRow_down {B : Nat} {e : TypeId} {k : Nat} {v : Value} {n : Nat} {xs : List Value} {w w' : World} (h : w.ownsRow B e k v n xs) (hb : Below w.heap.size w w') : w'.ownsRow B e k v n xs :=
  h.kept (row := none) ⟨hb.os, hb.tape, hb.output, hb.size, fun k hk _ => hb.block k hk⟩ (by cases v.ownBlock with | none => exact .inl rfl | some k => exact .inr (by simp))
theorem bld_below {b : Nat} {bs : List Value} {B0 : Nat} {w w' : World} (h : Bld B0 b bs w) (hb : Below w.heap.size w w') : Bld B0 b bs w' := by
  have key : ∀ p, Lib.BuilderAt 192 5 B0 b p bs w → Lib.BuilderAt 192 5 B0 b p bs w' := fun p h => by
    have hlt := h.lt
    obtain ⟨h1, v, h2, h3, h4⟩ := h
    exact ⟨h1, v, by rw [hb.block b hlt]; exact h2, ownsRow_down h3 hb, h4⟩
  exact h.elim (fun h => .inl (key _ h)) (fun h => .inr (key _ h))
set_option maxHeartbeats 2000000 in
theorem headersText_calls (a : Option Addr) (c : Nat) (ws : List Hd) (w : World) (hne : ws ≠ [] → ∃ pb po, a = some ⟨pb, po, none⟩ ∧ pb < w.heap.size)
    (hcells : ∀ (pb po k : Nat) x, a = some ⟨pb, po, none⟩ → ws[k]? = some x → w.cell? ⟨pb, po + k * 2, none⟩ = some (.string x.n) ∧ w.cell? ⟨pb, po + k * 2 + 1, none⟩ = some (.string x.v))
    (hco : costL Hd.cost ws ≤ 4194304) :
    Calls Tryz.prog 158 #[.slice a ws.length c] w fun e w' => e = .returned (.string (pack ws)) ∧ Below w.heap.size w w' := by
  have HC := hidB hcells
  have HN := hidB hne
  have hn := Nat.le_trans (costL_len Hd.cost ws) hco
  have hcoT : ∀ i, costL Hd.cost (ws.take i) ≤ 4194304 := fun i => Nat.le_trans (costL_take _ _ _) hco
  have HT := hidB hcoT
  have Hco := hidB hco
  clear hcells hne hcoT hco
  go_enter Tryz.func158, Tryz.ntmps158
  go_wp2_with fail
  go_loopw [9] (fun i wr => ∃ k : Nat, k ≤ ws.length ∧ i = .int .i64 k ∧ Hid (Bld w.heap.size w.heap.size (Lib.byteCells (packL (ws.take k))) wr) ∧ Hid (Below w.heap.size w wr)) (fun i _ => ws.length - (intOf i).toNat)
  case atStart => exact ⟨0, Nat.zero_le _, rfl, Lib.fresh_isBuilder 192 5 w, (Below.refl w.heap.size w).alloc (Nat.le_refl _) _⟩
  case round =>
    obtain ⟨k, hk, rfl, HB, HW⟩ := hrel
    by_cases hkl : k < ws.length
    · obtain ⟨pb, po, rfl, hp⟩ := HN.out (fun e => by rw [e] at hkl; simp at hkl)
      obtain ⟨c0, c1⟩ := HC.out pb po k ws[k] rfl (List.getElem?_eq_getElem hkl)
      rw [← HW.out.cell (p := ⟨pb, po + k * 2, none⟩) hp] at c0
      rw [← HW.out.cell (p := ⟨pb, po + k * 2 + 1, none⟩) hp] at c1
      have hx : ws[k].cost ≤ 4194304 := Nat.le_trans (costL_le (f := Hd.cost) (List.getElem_mem hkl)) Hco.out
      have hl0 : (Lib.byteCells (packL (ws.take k))).length ≤ 4 * 4194304 := by
        rw [Lib.byteCells_length]
        have := packL_len (ws.take k)
        have := HT.out k
        omega
      have hls : (lineB ws[k]).size ≤ 4194304 + 4 := by
        rw [line_size]
        have e : Hd.cost ws[k] = ws[k].n.size + ws[k].v.size := rfl
        omega
      have hnext : Lib.byteCells (packL (ws.take k)) ++ Lib.strCells (lineB ws[k]) = Lib.byteCells (packL (ws.take (k + 1))) := by
        rw [packL_snoc hkl, Lib.byteCells_append, Lib.strCells_eq]
      have Hn := hidB hnext
      generalize ws[k] = x at *
      clear hnext
      go_wp2_with fail
      refine (lineText_calls x _ hx).mono ?_
      rintro e w3 ⟨rfl, hb3⟩
      have hba : Below wr.heap.size wr w3 := ((Below.refl wr.heap.size wr).alloc (Nat.le_refl _) _).trans (hb3.mono ((Below.refl wr.heap.size wr).alloc (Nat.le_refl _) _).size)
      have H3 := hidB (bld_below HB.out hba)
      have HW3 := hidB (HW.out.trans (hba.mono HW.out.size))
      clear hba hb3
      go_wp2_with fail
      refine (writeString_calls w.heap.size w.heap.size _ (lineB x) w3 H3.out (by omega) HW3.out.size).mono ?_
      rintro e w4 ⟨rfl, h4, hb4⟩
      rw [Hn.out] at h4
      have H4 := hidB h4
      have HW4 := hidB (HW3.out.trans hb4)
      clear h4 hb4
      go_wp2
      exact ⟨⟨k + 1, by omega, by go_num, H4, HW4⟩, by simp [intOf]; omega⟩
    · have hke : k = ws.length := by omega
      subst hke
      go_wp2_with fail
      have hk2 : ws.take ws.length = ws := List.take_length
      rw [hk2] at HB
      refine (string_calls w.heap.size w.heap.size (packL ws) wr HB.out HW.out.size).mono ?_
      rintro e w2 ⟨rfl, hb2⟩
      go_wp2
      go_ret
      exact ⟨rfl, HW.out.trans hb2⟩
theorem headersText_ret (A : Option Addr) (c : Nat) (ws : List Hd) (M : PH) (hs : Sl M A 2 Hd.cs ws) (hco : costL Hd.cost ws ≤ 4194304) :
    Ret 158 [.slice A ws.length c] M (Tx (pack ws)) :=
  ret_of_calls (fun _ _ => Tryz.call158 _ _) fun w hM => headersText_calls A c ws w
    (fun hne => by
      cases ws with
      | nil => exact absurd rfl hne
      | cons x r =>
        obtain ⟨_, a, rfl, hc⟩ := hs.at_ 0 x rfl
        have h0 := hc 0 (Tx x.n) rfl
        have e : a.add (0 * 2 + 0) = a := rfl
        rw [e] at h0
        have hw := hM.cell h0
        unfold PH.cell at h0
        obtain ⟨pb, po, ps⟩ := a
        cases ps with
        | some s => split at h0 <;> simp at h0
        | none =>
          refine ⟨pb, po, rfl, ?_⟩
          cases hm : M pb with
          | none => simp only [hm] at h0; cases h0
          | some o => exact hM.lt hm)
    (fun pb po k x ha hx => by
      obtain ⟨_, a, ha', hc⟩ := hs.at_ k x hx
      rw [ha] at ha'
      cases ha'
      have h0 := hM.cell (hc 0 (Tx x.n) rfl)
      have h1 := hM.cell (hc 1 (Tx x.v) rfl)
      rw [add_at] at h0 h1
      exact ⟨h0, h1⟩) hco
end Go.Proofs.YtgjaiabenjafeaaGreatDoor
