/-
  THE LIBRARY'S NUMBERS: digits read, a year written.
-/
import Derived.Test.YtdgipmlkkmmliaaGreatDoorRb
import Derived.Test.YtdgipmlkkmmliaaGreatDoorSi
import Derived.WalkKit
import Derived.BigCall
import Derived.Lib.AppendIntMem
import Derived.Lib.AtoiErrMem
namespace Go.Proofs.YtdgipmlkkmmliaaGreatDoor
set_option maxRecDepth 100000
set_option linter.unusedSimpArgs false
set_option linter.unusedVariables false
open Go.Shelf Go.RowKit Go.Xe
/-- What the library's variables hold. -/
structure Lw (M : PH) : Prop where
  syn : ∃ tp p t fz, M 3 = some (.cells #[.iface tp p] t fz)
  rng : ∃ tp p t fz, M 4 = some (.cells #[.iface tp p] t fz)
  tab : ∃ t fz, M 5 = some (.cells (Lib.pow10Tab.map fun z => Value.int .u64 z).toArray t fz)
theorem Lw.mono {M M' : PH} (h : Lw M) (l : M.Le M') : Lw M' := by
  obtain ⟨a, b, c, d, e⟩ := h.syn
  obtain ⟨a', b', c', d', e'⟩ := h.rng
  obtain ⟨c2, d2, e2⟩ := h.tab
  exact ⟨⟨a, b, c, d, l _ _ e⟩, ⟨a', b', c', d', l _ _ e'⟩, ⟨c2, d2, l _ _ e2⟩⟩
theorem Lw.synAt {M : PH} (h : Lw M) {w : World} (hw : M.In w) : ∃ tp p, w.cell? ⟨3, 0, none⟩ = some (.iface tp p) := by
  obtain ⟨a, b, c, d, e⟩ := h.syn
  exact ⟨a, b, by simp [World.cell?, hw _ _ e]⟩
theorem Lw.rngAt {M : PH} (h : Lw M) {w : World} (hw : M.In w) : ∃ tp p, w.cell? ⟨4, 0, none⟩ = some (.iface tp p) := by
  obtain ⟨a, b, c, d, e⟩ := h.rng
  exact ⟨a, b, by simp [World.cell?, hw _ _ e]⟩
theorem gTab : Tryz.prog.globalNamed "internal/strconv.uint64pow10" = some 5 := by kernel_rfl
theorem Lw.tabAt {M : PH} (h : Lw M) {w : World} (hw : M.In w) : Lib.TabIs Tryz.prog w "internal/strconv.uint64pow10" .u64 Lib.pow10Tab := by
  obtain ⟨c, d, e⟩ := h.tab
  unfold Lib.TabIs World.var?
  rw [gTab]
  simp only [Option.bind_some, hw _ _ e]
def dgI (s : ByteArray) : Int := match Lib.parseIntB 64 s.data.toList with | .ok v => v | _ => -1
theorem digitsAt_calls (s : ByteArray) (a b : Nat) (hab : a ≤ b) (hb : b ≤ s.size) (hz : s.size ≤ 1000) (t0 t1 : TypeId) (p0 p1 : Value) (w : World) (hv0 : w.cell? ⟨3, 0, none⟩ = some (.iface t0 p0)) (hv1 : w.cell? ⟨4, 0, none⟩ = some (.iface t1 p1)) :
    Calls Tryz.prog 178 #[.string s, .int .i64 a, .int .i64 b] w fun e w' => e = .returned (.int .i64 (dgI (s.extract a b))) ∧ Below w.heap.size w w' := by
  have hs : (s.extract a b).size ≤ 1000 := by rw [ByteArray.size_extract]; omega
  rcases h : Lib.parseIntB 64 (s.extract a b).data.toList with v | _ | _
  · have hr : dgI (s.extract a b) = v := by simp only [dgI, h]
    rw [hr]
    go_enter Tryz.func178, Tryz.ntmps178
    go_wp2_with (go_at_call 195; refine (Any.strconv_ParseInt_10_at64_ok sh174 (s.extract a b) (by omega) v h _).mono ?_; rintro e w' ⟨rfl, hw⟩)
    go_ret
    refine ⟨rfl, ?_⟩
    rcases hw with rfl | ⟨t, rfl⟩
    · exact Below.refl _ _
    · exact Lib.bytesWorld_below _ _ _
  · have hr : dgI (s.extract a b) = -1 := by simp only [dgI, h]
    rw [hr]
    go_enter Tryz.func178, Tryz.ntmps178
    go_wp2_with (go_at_call 195; refine (Any.strconv_ParseInt_10_at64_syntax sh174 (s.extract a b) (by omega) h (.iface t0 p0) _ ?_ (.inr ⟨_, _, rfl⟩)).mono ?_)
    · exact hv0
    rintro e W1 ⟨N, rfl, -, -, hb⟩
    go_wp2
    go_ret
    exact ⟨rfl, hb⟩
  · have hr : dgI (s.extract a b) = -1 := by simp only [dgI, h]
    rw [hr]
    go_enter Tryz.func178, Tryz.ntmps178
    go_wp2_with (go_at_call 195; refine (Any.strconv_ParseInt_10_at64_range sh174 (s.extract a b) (by omega) h (.iface t1 p1) _ ?_ (.inr ⟨_, _, rfl⟩)).mono ?_)
    · exact hv1
    rintro e W1 ⟨N, rfl, -, -, hb⟩
    go_wp2
    go_ret
    exact ⟨rfl, hb⟩
theorem digitsAt_ret (s : ByteArray) (a b : Nat) (hab : a ≤ b) (hb : b ≤ s.size) (hz : s.size ≤ 1000) (M : PH) (hL : Lw M) : Ret 178 [Tx s, I a, I b] M (I (dgI (s.extract a b))) :=
  ret_of_calls (fun _ _ => Tryz.call178 _ _) fun w hw => by
    obtain ⟨t0, p0, h0⟩ := hL.synAt hw
    obtain ⟨t1, p1, h1⟩ := hL.rngAt hw
    exact digitsAt_calls s a b hab hb hz t0 t1 p0 p1 w h0 h1
theorem formatInt_ret (n : Int) (h0 : -9223372036854775808 ≤ n) (h1 : n ≤ 9223372036854775807) (M : PH) (hL : Lw M) : Ret 210 [I n, I 10] M (Tx ⟨(Lib.itoa n).toArray⟩) :=
  ret_of_calls (fun _ _ => Tryz.call210 _ _) fun w hw =>
    (Any.strconv_FormatInt_10 sh173 n h0 h1 w (hL.tabAt hw)).mono fun e w' ⟨he, k, os, hg⟩ => ⟨he, by rw [hg]; exact Lib.below_grow _ _ (Nat.le_refl _) _ _⟩
theorem decimal_ret (n : Int) (h0 : -9223372036854775808 ≤ n) (h1 : n ≤ 9223372036854775807) (M : PH) (hL : Lw M) : Ret 201 [I n] M (Tx ⟨(Lib.itoa n).toArray⟩) := by
  refine xcall_of_vc Tryz.func201 rfl _ Tryz.ntmps201 _ rfl (fun _ _ => Tryz.call201 _ _) rfl (fun w0 ρ0 => ?_)
  conv => whnf
  repeat' (first | (refine ⟨⟨[], rfl⟩, _, PH.Le.refl _, PH.Le.refl _, ?_⟩; conv => whnf) | (refine caseB_true ?_; conv => whnf) | (refine caseB_false ?_; conv => whnf) | ((with_reducible refine caseB_dec (fun h => ?_) (fun h => ?_)) <;> conv => whnf) | ((with_reducible refine caseB_ndec (fun h => ?_) (fun h => ?_)) <;> conv => whnf) | ((with_reducible refine caseB_not (fun h => ?_) (fun h => ?_)) <;> conv => whnf) | (refine Ret.go (formatInt_ret n h0 h1 _ hL) ?_; conv => whnf) | (with_reducible refine @And.intro (guardVC _ _ _ _ _) _ ?_ ?_) <;> conv => whnf | (refine caseB_intro (fun h => ?_) (fun h => ?_) <;> (try simp only [Bool.not_eq_true', Bool.not_eq_false', decide_eq_true_eq, decide_eq_false_iff_not] at h) <;> conv => whnf))
  exact ⟨_, PH.Le.refl _, rfl, rfl⟩
end Go.Proofs.YtdgipmlkkmmliaaGreatDoor
