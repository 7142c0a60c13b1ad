/-
  DRAWS of texts, head lines, times of entries, entries: whatever they are. DRAWS of bent head lines and entries: whatever they are.
-/
import Derived.Test.YtdgipmlkkmmliaaGreatDoorDa
import Derived.Test.YtdgipmlkkmmliaaGreatDoorTg
namespace Go.Proofs.YtdgipmlkkmmliaaGreatDoor
set_option maxRecDepth 100000
set_option linter.unusedSimpArgs false
set_option linter.unusedVariables false
open Go.Xe
theorem hd_fitsE (n m : Nat) (h : n + m ≤ 4194304) : (n + m) * ti65.bytes ≤ 140737488355328 := by
  unfold ti65
  show (n + m) * 32 ≤ _
  omega
theorem Hd_oneE (x : Hd) : ∀ v ∈ x.cs, v.oneCell' = true := by intro v hv; simp at hv; rcases hv with rfl | rfl <;> rfl
theorem cat_fitsE {a b : ByteArray} (h : a.size + b.size ≤ 9223372036854775807) : ((a.size + b.size : Nat) : Int) ≤ IntKind.i64.max := by
  have : IntKind.i64.max = 9223372036854775807 := by decide
  omega
section
variable {B : Int} {g g' : Nat} {M0 M : PH} {A : Option Addr} {c : Nat} {bs : List Int}
theorem wordX {D : Option Addr} {d : Nat} (xs : List ByteArray) (S : Sx B M0 M g A c bs) (hB : B ≤ 4294967296) (hs : Sl (rm M g) D 1 stC xs) (hx : 1 ≤ xs.length) :
    ACall env 41 [P0 g, .slice D xs.length d] M fun r M' => ∃ x, r = Tx x ∧ x ∈ xs ∧ Sx (B + 1) M0 M' g A c bs ∧ (rm M g).Le (rm M' g) := by
  refine xcall_of_vc Tryz.func41 rfl _ Tryz.ntmps41 _ rfl (fun _ _ => Tryz.call41 _ _) rfl (fun w0 ρ0 => ?_)
  conv => whnf
  refine ACall.step (nextX xs.length S hB) fun r M' h1 => ?_
  obtain ⟨x, rfl, hx1, hS, hK⟩ := h1
  conv => whnf
  obtain ⟨l0, u0⟩ := hx1 (by omega)
  have hi : x.toNat < xs.length := by omega
  obtain ⟨hA, _, hc⟩ := (hs.mono (hK.trans (rm_le M' g))).get hi
  refine ⟨l0, u0, hA, ?_⟩
  conv => whnf
  refine ⟨Tx xs[x.toNat], hc, ?_⟩
  conv => whnf
  exact ⟨_, PH.Le.refl _, _, rfl, List.getElem_mem hi, hS, hK⟩
theorem wordD {D : Option Addr} {n d : Nat} (xs : List ByteArray) (hl : n = xs.length) (S : Sx B M0 M g A c bs) (hs : Sl (rm M g) D 1 stC xs) (hx : 1 ≤ xs.length) (hp : (xs.all fun b => decide (b.size ≤ 80)) = true) (hB : B ≤ 4294967296) {bx : List Box} {K : Value → List Box → PH → Prop}
    (h : ∀ x M', x.size ≤ 80 → Sx (B + 1) M0 M' g A c bs → (rm M g).Le (rm M' g) → K (Tx x) bx M') : XCall env 41 [.v (P0 g), .v (.slice D n d)] bx M K := by
  subst hl
  refine ACall.step (wordX xs S hB hs hx) fun r M' hh => ?_
  obtain ⟨x, rfl, hm, hS, hK⟩ := hh
  exact h x M' (by simpa using List.all_eq_true.1 hp x hm) hS hK
theorem wordK {D : Option Addr} {n d : Nat} (xs : List ByteArray) (hl : n = xs.length) (S : Sx B M0 M g A c bs) (hs : Sl (rm M g) D 1 stC xs) (hx : 1 ≤ xs.length) (hp : (xs.all fun b => decide (1 ≤ b.size ∧ b.size ≤ 80)) = true) (hB : B ≤ 4294967296) {bx : List Box} {K : Value → List Box → PH → Prop}
    (h : ∀ x M', 1 ≤ x.size ∧ x.size ≤ 80 → Sx (B + 1) M0 M' g A c bs → (rm M g).Le (rm M' g) → K (Tx x) bx M') : XCall env 41 [.v (P0 g), .v (.slice D n d)] bx M K := by
  subst hl
  refine ACall.step (wordX xs S hB hs hx) fun r M' hh => ?_
  obtain ⟨x, rfl, hm, hS, hK⟩ := hh
  exact h x M' (by simpa using List.all_eq_true.1 hp x hm) hS hK
/-- Texts are laid down. -/
theorem buildW {t : TypeId} {cs : List Value} (xs : List ByteArray) (hcs : cs = xs.flatMap stC) (S : Sx B M0 M g A c bs) (hg' : M g' = none) :
    ∃ M', M' = M.set g' (.cells cs.toArray t (0, 0)) ∧ Sx B M0 M' g A c bs ∧ (rm M g).Le (rm M' g) ∧ Sl (rm M' g) (some ⟨g', 0, none⟩) 1 stC xs := by
  subst hcs
  obtain ⟨o, ho⟩ := S.has
  have hne : g' ≠ g := by rintro rfl; rw [hg'] at ho; cases ho
  have l := PH.Le.set (.cells (xs.flatMap stC).toArray t (0, 0)) hg'
  exact ⟨_, rfl, S.to (PH.set_other _ _ (Ne.symm hne)) (rm_mono l), rm_mono l, Go.Xe.Sl.rm (sl_full (f := stC) (fun _ => rfl) M g' xs t (0, 0)) hne⟩
/-- The source, from what stands now on. -/
theorem Sx.now (S : Sx B M0 M g A c bs) : Sx B (rm M g) M g A c bs := ⟨S.at_, PH.Le.refl _, S.by_.mono S.le⟩
theorem Sx.back {M1 M2 : PH} {B' : Int} (S : Sx B M0 M1 g A c bs) (T : Sx B' (rm M1 g) M2 g A c bs) : Sx B' M0 M2 g A c bs := ⟨T.at_, S.le.trans T.le, S.by_⟩
set_option maxHeartbeats 4000000 in
theorem l4DrawLine_ret (S : Sx B M0 M g A c bs) (hB : B ≤ 4294960000) :
    ACall env 89 [P0 g] M fun r M' => ∃ x : Hd, r = x.val ∧ (x.n.size ≤ 80 ∧ x.v.size ≤ 80) ∧ Sx (B + 3) M0 M' g A c bs ∧ (rm M g).Le (rm M' g) := by
  refine xcall_of_vc Tryz.func89 rfl _ Tryz.ntmps89 _ rfl (fun _ _ => Tryz.call89 _ _) rfl (fun w0 ρ0 => ?_)
  conv => whnf
  repeat' (first | (refine ⟨⟨[], rfl⟩, _, PH.Le.refl _, PH.Le.refl _, ?_⟩; conv => whnf) | (intro g' hg'; obtain ⟨M', hM, S', l', s'⟩ := buildW (cs := [Tx ⟨#[120]⟩, Tx ⟨#[121]⟩, Tx ⟨#[]⟩, Tx ⟨#[116, 101, 120, 116, 47, 104, 116, 109, 108]⟩]) (t := 9) [⟨#[120]⟩, ⟨#[121]⟩, ⟨#[]⟩, ⟨#[116, 101, 120, 116, 47, 104, 116, 109, 108]⟩] rfl (by assumption) hg'; rw [← hM]; clear hM; (first | (refine ⟨⟨[], rfl⟩, _, PH.Le.refl _, bot_le _, ?_⟩; conv => whnf) | (refine ⟨⟨[], rfl⟩, _, l', rm_le _ _, ?_⟩; conv => whnf) | conv => whnf)) | (refine wordD [⟨#[120]⟩, ⟨#[121]⟩, ⟨#[]⟩, ⟨#[116, 101, 120, 116, 47, 104, 116, 109, 108]⟩] rfl (by assumption) (by first | assumption | exact Sl.mono (by assumption) (by repeat (first | exact PH.Le.refl _ | assumption | (apply PH.Le.trans; · assumption)))) (by decide) (by decide) (by omega) fun x M' hx S' l' => ?_; (first | (refine ⟨⟨[], rfl⟩, _, PH.Le.refl _, bot_le _, ?_⟩; conv => whnf) | (refine ⟨⟨[], rfl⟩, _, l', rm_le _ _, ?_⟩; conv => whnf) | conv => whnf)) | (intro g' hg'; obtain ⟨M', hM, S', l', s'⟩ := buildW (cs := [Tx ⟨#[65, 99, 99, 101, 112, 116]⟩, Tx ⟨#[88, 45, 65]⟩, Tx ⟨#[65, 99, 99, 101, 112, 116, 45, 76, 97, 110, 103, 117, 97, 103, 101]⟩, Tx ⟨#[83, 101, 114, 118, 101, 114]⟩]) (t := 9) [⟨#[65, 99, 99, 101, 112, 116]⟩, ⟨#[88, 45, 65]⟩, ⟨#[65, 99, 99, 101, 112, 116, 45, 76, 97, 110, 103, 117, 97, 103, 101]⟩, ⟨#[83, 101, 114, 118, 101, 114]⟩] rfl (by assumption) hg'; rw [← hM]; clear hM; (first | (refine ⟨⟨[], rfl⟩, _, PH.Le.refl _, bot_le _, ?_⟩; conv => whnf) | (refine ⟨⟨[], rfl⟩, _, l', rm_le _ _, ?_⟩; conv => whnf) | conv => whnf)) | (refine wordD [⟨#[65, 99, 99, 101, 112, 116]⟩, ⟨#[88, 45, 65]⟩, ⟨#[65, 99, 99, 101, 112, 116, 45, 76, 97, 110, 103, 117, 97, 103, 101]⟩, ⟨#[83, 101, 114, 118, 101, 114]⟩] rfl (by assumption) (by first | assumption | exact Sl.mono (by assumption) (by repeat (first | exact PH.Le.refl _ | assumption | (apply PH.Le.trans; · assumption)))) (by decide) (by decide) (by omega) fun x M' hx S' l' => ?_; (first | (refine ⟨⟨[], rfl⟩, _, PH.Le.refl _, bot_le _, ?_⟩; conv => whnf) | (refine ⟨⟨[], rfl⟩, _, l', rm_le _ _, ?_⟩; conv => whnf) | conv => whnf)) | (intro g' hg'; obtain ⟨M', hM, S', l', s'⟩ := buildW (cs := [Tx ⟨#[97, 32, 98]⟩, Tx ⟨#[97]⟩, Tx ⟨#[98, 32, 99]⟩]) (t := 9) [⟨#[97, 32, 98]⟩, ⟨#[97]⟩, ⟨#[98, 32, 99]⟩] rfl (by assumption) hg'; rw [← hM]; clear hM; (first | (refine ⟨⟨[], rfl⟩, _, PH.Le.refl _, bot_le _, ?_⟩; conv => whnf) | (refine ⟨⟨[], rfl⟩, _, l', rm_le _ _, ?_⟩; conv => whnf) | conv => whnf)) | (refine wordD [⟨#[97, 32, 98]⟩, ⟨#[97]⟩, ⟨#[98, 32, 99]⟩] rfl (by assumption) (by first | assumption | exact Sl.mono (by assumption) (by repeat (first | exact PH.Le.refl _ | assumption | (apply PH.Le.trans; · assumption)))) (by decide) (by decide) (by omega) fun x M' hx S' l' => ?_; (first | (refine ⟨⟨[], rfl⟩, _, PH.Le.refl _, bot_le _, ?_⟩; conv => whnf) | (refine ⟨⟨[], rfl⟩, _, l', rm_le _ _, ?_⟩; conv => whnf) | conv => whnf)) | (intro g' hg'; obtain ⟨M', hM, S', l', s'⟩ := buildW (cs := [Tx ⟨#[84, 104, 117, 44, 32, 48, 49, 32, 74, 97, 110, 32, 49, 57, 55, 48, 32, 48, 48, 58, 48, 48, 58, 48, 53, 32, 71, 77, 84]⟩, Tx ⟨#[84, 104, 117, 44, 32, 48, 49, 32, 74, 97, 110, 32, 49, 57, 55, 48, 32, 48, 48, 58, 48, 48, 58, 48, 57, 32, 71, 77, 84]⟩, Tx ⟨#[48]⟩]) (t := 9) [⟨#[84, 104, 117, 44, 32, 48, 49, 32, 74, 97, 110, 32, 49, 57, 55, 48, 32, 48, 48, 58, 48, 48, 58, 48, 53, 32, 71, 77, 84]⟩, ⟨#[84, 104, 117, 44, 32, 48, 49, 32, 74, 97, 110, 32, 49, 57, 55, 48, 32, 48, 48, 58, 48, 48, 58, 48, 57, 32, 71, 77, 84]⟩, ⟨#[48]⟩] rfl (by assumption) hg'; rw [← hM]; clear hM; (first | (refine ⟨⟨[], rfl⟩, _, PH.Le.refl _, bot_le _, ?_⟩; conv => whnf) | (refine ⟨⟨[], rfl⟩, _, l', rm_le _ _, ?_⟩; conv => whnf) | conv => whnf)) | (refine wordD [⟨#[84, 104, 117, 44, 32, 48, 49, 32, 74, 97, 110, 32, 49, 57, 55, 48, 32, 48, 48, 58, 48, 48, 58, 48, 53, 32, 71, 77, 84]⟩, ⟨#[84, 104, 117, 44, 32, 48, 49, 32, 74, 97, 110, 32, 49, 57, 55, 48, 32, 48, 48, 58, 48, 48, 58, 48, 57, 32, 71, 77, 84]⟩, ⟨#[48]⟩] rfl (by assumption) (by first | assumption | exact Sl.mono (by assumption) (by repeat (first | exact PH.Le.refl _ | assumption | (apply PH.Le.trans; · assumption)))) (by decide) (by decide) (by omega) fun x M' hx S' l' => ?_; (first | (refine ⟨⟨[], rfl⟩, _, PH.Le.refl _, bot_le _, ?_⟩; conv => whnf) | (refine ⟨⟨[], rfl⟩, _, l', rm_le _ _, ?_⟩; conv => whnf) | conv => whnf)) | (intro g' hg'; obtain ⟨M', hM, S', l', s'⟩ := buildW (cs := [Tx ⟨#[69, 120, 112, 105, 114, 101, 115]⟩, Tx ⟨#[68, 97, 116, 101]⟩]) (t := 9) [⟨#[69, 120, 112, 105, 114, 101, 115]⟩, ⟨#[68, 97, 116, 101]⟩] rfl (by assumption) hg'; rw [← hM]; clear hM; (first | (refine ⟨⟨[], rfl⟩, _, PH.Le.refl _, bot_le _, ?_⟩; conv => whnf) | (refine ⟨⟨[], rfl⟩, _, l', rm_le _ _, ?_⟩; conv => whnf) | conv => whnf)) | (refine wordD [⟨#[69, 120, 112, 105, 114, 101, 115]⟩, ⟨#[68, 97, 116, 101]⟩] rfl (by assumption) (by first | assumption | exact Sl.mono (by assumption) (by repeat (first | exact PH.Le.refl _ | assumption | (apply PH.Le.trans; · assumption)))) (by decide) (by decide) (by omega) fun x M' hx S' l' => ?_; (first | (refine ⟨⟨[], rfl⟩, _, PH.Le.refl _, bot_le _, ?_⟩; conv => whnf) | (refine ⟨⟨[], rfl⟩, _, l', rm_le _ _, ?_⟩; conv => whnf) | conv => whnf)) | (intro g' hg'; obtain ⟨M', hM, S', l', s'⟩ := buildW (cs := [Tx ⟨#[48]⟩, Tx ⟨#[49]⟩, Tx ⟨#[51]⟩, Tx ⟨#[120]⟩]) (t := 9) [⟨#[48]⟩, ⟨#[49]⟩, ⟨#[51]⟩, ⟨#[120]⟩] rfl (by assumption) hg'; rw [← hM]; clear hM; (first | (refine ⟨⟨[], rfl⟩, _, PH.Le.refl _, bot_le _, ?_⟩; conv => whnf) | (refine ⟨⟨[], rfl⟩, _, l', rm_le _ _, ?_⟩; conv => whnf) | conv => whnf)) | (refine wordD [⟨#[48]⟩, ⟨#[49]⟩, ⟨#[51]⟩, ⟨#[120]⟩] rfl (by assumption) (by first | assumption | exact Sl.mono (by assumption) (by repeat (first | exact PH.Le.refl _ | assumption | (apply PH.Le.trans; · assumption)))) (by decide) (by decide) (by omega) fun x M' hx S' l' => ?_; (first | (refine ⟨⟨[], rfl⟩, _, PH.Le.refl _, bot_le _, ?_⟩; conv => whnf) | (refine ⟨⟨[], rfl⟩, _, l', rm_le _ _, ?_⟩; conv => whnf) | conv => whnf)) | (intro g' hg'; obtain ⟨M', hM, S', l', s'⟩ := buildW (cs := [Tx ⟨#[65, 99, 99, 101, 112, 116]⟩, Tx ⟨#[97, 99, 99, 101, 112, 116, 45, 108, 97, 110, 103, 117, 97, 103, 101]⟩, Tx ⟨#[42]⟩, Tx ⟨#[65, 99, 99, 101, 112, 116, 44, 32, 88, 45, 65]⟩]) (t := 9) [⟨#[65, 99, 99, 101, 112, 116]⟩, ⟨#[97, 99, 99, 101, 112, 116, 45, 108, 97, 110, 103, 117, 97, 103, 101]⟩, ⟨#[42]⟩, ⟨#[65, 99, 99, 101, 112, 116, 44, 32, 88, 45, 65]⟩] rfl (by assumption) hg'; rw [← hM]; clear hM; (first | (refine ⟨⟨[], rfl⟩, _, PH.Le.refl _, bot_le _, ?_⟩; conv => whnf) | (refine ⟨⟨[], rfl⟩, _, l', rm_le _ _, ?_⟩; conv => whnf) | conv => whnf)) | (refine wordD [⟨#[65, 99, 99, 101, 112, 116]⟩, ⟨#[97, 99, 99, 101, 112, 116, 45, 108, 97, 110, 103, 117, 97, 103, 101]⟩, ⟨#[42]⟩, ⟨#[65, 99, 99, 101, 112, 116, 44, 32, 88, 45, 65]⟩] rfl (by assumption) (by first | assumption | exact Sl.mono (by assumption) (by repeat (first | exact PH.Le.refl _ | assumption | (apply PH.Le.trans; · assumption)))) (by decide) (by decide) (by omega) fun x M' hx S' l' => ?_; (first | (refine ⟨⟨[], rfl⟩, _, PH.Le.refl _, bot_le _, ?_⟩; conv => whnf) | (refine ⟨⟨[], rfl⟩, _, l', rm_le _ _, ?_⟩; conv => whnf) | conv => whnf)) | (intro g' hg'; obtain ⟨M', hM, S', l', s'⟩ := buildW (cs := [Tx ⟨#[34, 118, 49, 34]⟩, Tx ⟨#[34, 118, 50, 34]⟩, Tx ⟨#[87, 47, 34, 118, 49, 34]⟩]) (t := 9) [⟨#[34, 118, 49, 34]⟩, ⟨#[34, 118, 50, 34]⟩, ⟨#[87, 47, 34, 118, 49, 34]⟩] rfl (by assumption) hg'; rw [← hM]; clear hM; (first | (refine ⟨⟨[], rfl⟩, _, PH.Le.refl _, bot_le _, ?_⟩; conv => whnf) | (refine ⟨⟨[], rfl⟩, _, l', rm_le _ _, ?_⟩; conv => whnf) | conv => whnf)) | (refine wordD [⟨#[34, 118, 49, 34]⟩, ⟨#[34, 118, 50, 34]⟩, ⟨#[87, 47, 34, 118, 49, 34]⟩] rfl (by assumption) (by first | assumption | exact Sl.mono (by assumption) (by repeat (first | exact PH.Le.refl _ | assumption | (apply PH.Le.trans; · assumption)))) (by decide) (by decide) (by omega) fun x M' hx S' l' => ?_; (first | (refine ⟨⟨[], rfl⟩, _, PH.Le.refl _, bot_le _, ?_⟩; conv => whnf) | (refine ⟨⟨[], rfl⟩, _, l', rm_le _ _, ?_⟩; conv => whnf) | conv => whnf)) | (intro g' hg'; obtain ⟨M', hM, S', l', s'⟩ := buildW (cs := [Tx ⟨#[109, 97, 120, 45, 97, 103, 101, 61, 53]⟩, Tx ⟨#[109, 97, 120, 45, 97, 103, 101, 61, 50, 44, 32, 115, 116, 97, 108, 101, 45, 119, 104, 105, 108, 101, 45, 114, 101, 118, 97, 108, 105, 100, 97, 116, 101, 61, 51]⟩, Tx ⟨#[115, 45, 109, 97, 120, 97, 103, 101, 61, 49, 44, 32, 115, 116, 97, 108, 101, 45, 105, 102, 45, 101, 114, 114, 111, 114, 61, 57]⟩, Tx ⟨#[110, 111, 45, 115, 116, 111, 114, 101]⟩, Tx ⟨#[110, 111, 45, 99, 97, 99, 104, 101]⟩, Tx ⟨#[112, 114, 105, 118, 97, 116, 101]⟩, Tx ⟨#[109, 97, 120, 45, 97, 103, 101, 61, 48, 44, 32, 109, 117, 115, 116, 45, 114, 101, 118, 97, 108, 105, 100, 97, 116, 101]⟩, Tx ⟨#[109, 97, 120, 45, 97, 103, 101, 61, 120]⟩, Tx ⟨#[112, 117, 98, 108, 105, 99]⟩, Tx ⟨#[109, 97, 120, 45, 97, 103, 101, 61, 54, 48, 44, 32, 115, 116, 97, 108, 101, 45, 119, 104, 105, 108, 101, 45, 114, 101, 118, 97, 108, 105, 100, 97, 116, 101, 61, 54, 48, 44, 32, 115, 116, 97, 108, 101, 45, 105, 102, 45, 101, 114, 114, 111, 114, 61, 54, 48]⟩]) (t := 9) [⟨#[109, 97, 120, 45, 97, 103, 101, 61, 53]⟩, ⟨#[109, 97, 120, 45, 97, 103, 101, 61, 50, 44, 32, 115, 116, 97, 108, 101, 45, 119, 104, 105, 108, 101, 45, 114, 101, 118, 97, 108, 105, 100, 97, 116, 101, 61, 51]⟩, ⟨#[115, 45, 109, 97, 120, 97, 103, 101, 61, 49, 44, 32, 115, 116, 97, 108, 101, 45, 105, 102, 45, 101, 114, 114, 111, 114, 61, 57]⟩, ⟨#[110, 111, 45, 115, 116, 111, 114, 101]⟩, ⟨#[110, 111, 45, 99, 97, 99, 104, 101]⟩, ⟨#[112, 114, 105, 118, 97, 116, 101]⟩, ⟨#[109, 97, 120, 45, 97, 103, 101, 61, 48, 44, 32, 109, 117, 115, 116, 45, 114, 101, 118, 97, 108, 105, 100, 97, 116, 101]⟩, ⟨#[109, 97, 120, 45, 97, 103, 101, 61, 120]⟩, ⟨#[112, 117, 98, 108, 105, 99]⟩, ⟨#[109, 97, 120, 45, 97, 103, 101, 61, 54, 48, 44, 32, 115, 116, 97, 108, 101, 45, 119, 104, 105, 108, 101, 45, 114, 101, 118, 97, 108, 105, 100, 97, 116, 101, 61, 54, 48, 44, 32, 115, 116, 97, 108, 101, 45, 105, 102, 45, 101, 114, 114, 111, 114, 61, 54, 48]⟩] rfl (by assumption) hg'; rw [← hM]; clear hM; (first | (refine ⟨⟨[], rfl⟩, _, PH.Le.refl _, bot_le _, ?_⟩; conv => whnf) | (refine ⟨⟨[], rfl⟩, _, l', rm_le _ _, ?_⟩; conv => whnf) | conv => whnf)) | (refine wordD [⟨#[109, 97, 120, 45, 97, 103, 101, 61, 53]⟩, ⟨#[109, 97, 120, 45, 97, 103, 101, 61, 50, 44, 32, 115, 116, 97, 108, 101, 45, 119, 104, 105, 108, 101, 45, 114, 101, 118, 97, 108, 105, 100, 97, 116, 101, 61, 51]⟩, ⟨#[115, 45, 109, 97, 120, 97, 103, 101, 61, 49, 44, 32, 115, 116, 97, 108, 101, 45, 105, 102, 45, 101, 114, 114, 111, 114, 61, 57]⟩, ⟨#[110, 111, 45, 115, 116, 111, 114, 101]⟩, ⟨#[110, 111, 45, 99, 97, 99, 104, 101]⟩, ⟨#[112, 114, 105, 118, 97, 116, 101]⟩, ⟨#[109, 97, 120, 45, 97, 103, 101, 61, 48, 44, 32, 109, 117, 115, 116, 45, 114, 101, 118, 97, 108, 105, 100, 97, 116, 101]⟩, ⟨#[109, 97, 120, 45, 97, 103, 101, 61, 120]⟩, ⟨#[112, 117, 98, 108, 105, 99]⟩, ⟨#[109, 97, 120, 45, 97, 103, 101, 61, 54, 48, 44, 32, 115, 116, 97, 108, 101, 45, 119, 104, 105, 108, 101, 45, 114, 101, 118, 97, 108, 105, 100, 97, 116, 101, 61, 54, 48, 44, 32, 115, 116, 97, 108, 101, 45, 105, 102, 45, 101, 114, 114, 111, 114, 61, 54, 48]⟩] rfl (by assumption) (by first | assumption | exact Sl.mono (by assumption) (by repeat (first | exact PH.Le.refl _ | assumption | (apply PH.Le.trans; · assumption)))) (by decide) (by decide) (by omega) fun x M' hx S' l' => ?_; (first | (refine ⟨⟨[], rfl⟩, _, PH.Le.refl _, bot_le _, ?_⟩; conv => whnf) | (refine ⟨⟨[], rfl⟩, _, l', rm_le _ _, ?_⟩; conv => whnf) | conv => whnf)) | (intro g' hg'; obtain ⟨M', hM, S', l', s'⟩ := buildW (cs := [Tx ⟨#[67, 97, 99, 104, 101, 45, 67, 111, 110, 116, 114, 111, 108]⟩, Tx ⟨#[99, 97, 99, 104, 101, 45, 99, 111, 110, 116, 114, 111, 108]⟩]) (t := 9) [⟨#[67, 97, 99, 104, 101, 45, 67, 111, 110, 116, 114, 111, 108]⟩, ⟨#[99, 97, 99, 104, 101, 45, 99, 111, 110, 116, 114, 111, 108]⟩] rfl (by assumption) hg'; rw [← hM]; clear hM; (first | (refine ⟨⟨[], rfl⟩, _, PH.Le.refl _, bot_le _, ?_⟩; conv => whnf) | (refine ⟨⟨[], rfl⟩, _, l', rm_le _ _, ?_⟩; conv => whnf) | conv => whnf)) | (refine wordD [⟨#[67, 97, 99, 104, 101, 45, 67, 111, 110, 116, 114, 111, 108]⟩, ⟨#[99, 97, 99, 104, 101, 45, 99, 111, 110, 116, 114, 111, 108]⟩] rfl (by assumption) (by first | assumption | exact Sl.mono (by assumption) (by repeat (first | exact PH.Le.refl _ | assumption | (apply PH.Le.trans; · assumption)))) (by decide) (by decide) (by omega) fun x M' hx S' l' => ?_; (first | (refine ⟨⟨[], rfl⟩, _, PH.Le.refl _, bot_le _, ?_⟩; conv => whnf) | (refine ⟨⟨[], rfl⟩, _, l', rm_le _ _, ?_⟩; conv => whnf) | conv => whnf)) | (refine nextD (9) (by assumption) (by omega) fun x M' hx S' l' => ?_; (first | (refine ⟨⟨[], rfl⟩, _, PH.Le.refl _, bot_le _, ?_⟩; conv => whnf) | (refine ⟨⟨[], rfl⟩, _, l', rm_le _ _, ?_⟩; conv => whnf) | conv => whnf)) | (refine caseB_true ?_; conv => whnf) | (refine caseB_false ?_; conv => whnf) | ((with_reducible refine caseB_dec (fun h => ?_) (fun h => ?_)) <;> conv => whnf) | ((with_reducible refine caseB_ndec (fun h => ?_) (fun h => ?_)) <;> conv => whnf) | ((with_reducible refine caseB_not (fun h => ?_) (fun h => ?_)) <;> conv => whnf) | (with_reducible refine @And.intro (guardVC _ _ _ _ _) _ ?_ ?_) <;> conv => whnf | (refine caseB_intro (fun h => ?_) (fun h => ?_) <;> (try simp only [Bool.not_eq_true', Bool.not_eq_false', decide_eq_true_eq, decide_eq_false_iff_not] at h) <;> conv => whnf))
  all_goals exact ⟨_, PH.Le.refl _, ⟨_, _⟩, rfl, ⟨by first | assumption | (dsimp only; decide), by first | assumption | (dsimp only; decide)⟩, Sx.below (by assumption) (by omega), (by repeat (first | exact PH.Le.refl _ | assumption | (apply PH.Le.trans; · assumption)))⟩
theorem hd_fits1 (xs : List Hd) (x : Hd) (hn : xs.length ≤ 1048576) : (xs.length + [x].length) * ti65.bytes ≤ 140737488355328 := hd_fitsE _ _ (by show _ + 1 ≤ _; omega)
abbrev HdS (ws : List Hd) : Prop := ∀ x ∈ ws, x.n.size ≤ 80 ∧ x.v.size ≤ 80
abbrev E4 := Nat × Option Nat × Option Addr × Nat × List Hd × Int
theorem l4Draw_ret (n : Int) (h0 : 0 ≤ n) (h1 : n ≤ 20) (S : Sx B M0 M g A c bs) (hB : B ≤ 4294950000) :
    ACall env 86 [P0 g, I n] M fun r M' => ∃ o A' c' ws, r = .slice A' ws.length c' ∧ New (rm M g) (rm M' g) o A' c' 2 Hd.cs ws ∧ (ws.length : Int) ≤ n ∧ HdS ws ∧ Sx (B + 60) M0 M' g A c bs ∧ (rm M g).Le (rm M' g) := by
  refine xcall_of_vc Tryz.func86 rfl _ Tryz.ntmps86 _ rfl (fun _ _ => Tryz.call86 _ _) rfl (fun w0 ρ0 => ?_)
  conv => whnf
  intro g1 hg1
  conv => whnf
  obtain ⟨M1, hM, S1, l1, s1⟩ := buildW (cs := []) (t := 65) [] rfl S.now hg1
  rw [← hM]
  clear hM
  refine loop_rule (fun z : E4 => ⟨slots 17 [(0, .v (P0 g)), (1, .v (I (n - z.1))), (4, .v (.slice none 0 0)), (5, .v (.slice z.2.2.1 z.2.2.2.2.1.length z.2.2.2.1))], []⟩)
    (fun z M' => (z.1 : Int) ≤ n ∧ New (rm M g) (rm M' g) z.2.1 z.2.2.1 z.2.2.2.1 2 Hd.cs z.2.2.2.2.1 ∧ (z.2.2.2.2.1.length : Int) ≤ z.1 ∧ HdS z.2.2.2.2.1 ∧ z.2.2.2.2.2 = B + 3 * z.1 ∧ Sx z.2.2.2.2.2 (rm M g) M' g A c bs) (fun z => (n - z.1).toNat) (0, none, some ⟨g1, 0, none⟩, 0, [], B) ?_ ?_ ?_
  · exact ⟨by simp [slots, leT], ⟨[], rfl⟩, Nat.zero_le _, rfl, rfl⟩
  · exact ⟨h0, ⟨Ow.nil, S1.le, fun g e => nomatch e⟩, by simp, (fun x hx => by simp at hx), by simp, S1⟩
  rintro ⟨i, o, C, d, ws, B'⟩ M2 ⟨hi, hN, hl, hz, hB', S2⟩
  have hi : (i : Int) ≤ n := hi
  have hN : New (rm M g) (rm M2 g) o C d 2 Hd.cs ws := hN
  have hl : (ws.length : Int) ≤ i := hl
  have hz : HdS ws := hz
  have hB' : B' = B + 3 * i := hB'
  have S2 : Sx B' (rm M g) M2 g A c bs := S2
  conv => whnf
  refine caseB_dec (fun hb => ?_) (fun hb => ?_)
  · have hb : (0 : Int) < n - i := hb
    conv => whnf
    refine ACall.step (l4DrawLine_ret S2 (by omega)) fun r M3 hh => ?_
    obtain ⟨x, rfl, hx, S3, l3⟩ := hh
    conv => whnf
    intro g2 hg2
    obtain ⟨M4, hM, S4, l4, n4⟩ := rowF (cs := [Tx x.n, Tx x.v]) (t := 65) x Hd.len rfl S3 hg2
    rw [← hM]
    clear hM
    conv => whnf
    refine appendD (te := ti65) (f := Hd.cs) (xs := ws) (ys := [x]) S4 (n4.ow.sl Hd.len) (hN.to (l3.trans l4)) Hd.len Hd_oneE rfl (hd_fits1 _ _ (by omega)) (by show _ + 1 ≤ _; omega) fun o5 C5 d5 M5 N5 S5 k5 => ?_
    conv => whnf
    have hw : IntKind.i64.wrap (n - (i : Int) - 1) = n - ((i + 1 : Nat) : Int) := by rw [wrap_id (by omega) (by omega)]; omega
    refine ⟨(i + 1, o5, C5, d5, ws ++ [x], B + 3 * ((i + 1 : Nat) : Int)), ⟨by simp [slots, leT, hw], ⟨[], rfl⟩, Nat.zero_le _, rfl, rfl⟩, ⟨by show ((i + 1 : Nat) : Int) ≤ n; omega, N5, ?_, ?_, rfl, show Sx (B + 3 * ((i + 1 : Nat) : Int)) (rm M g) M5 g A c bs from S5.below (by omega)⟩, by show (n - ((i + 1 : Nat) : Int)).toNat < (n - i).toNat; omega⟩
    · show (((ws ++ [x]).length : Nat) : Int) ≤ ((i + 1 : Nat) : Int)
      rw [List.length_append]
      show ((ws.length + 1 : Nat) : Int) ≤ _
      omega
    · intro y hy
      rcases List.mem_append.1 hy with hy | hy
      · exact hz y hy
      · have : y = x := by simpa using hy
        subst this; exact hx
  · have hb : ¬ (0 : Int) < n - i := hb
    conv => whnf
    exact ⟨_, PH.Le.refl _, o, C, d, ws, rfl, hN, by omega, hz, S.back (S2.below (by omega)), hN.le⟩
end
/-- What stands in M' and did not stand in M. -/
def since (M M' : PH) : PH := fun k => match M k with | none => M' k | some _ => none
theorem since_le (M M' : PH) : (since M M').Le M' := fun k o h => by
  unfold since at h
  split at h
  · exact h
  · cases h
theorem since_mono {M M' M'' : PH} (l : M'.Le M'') : (since M M').Le (since M M'') := fun k o h => by
  unfold since at h ⊢
  split at h
  · rename_i e; exact l k o h
  · cases h
theorem since_from {M0 M M' : PH} (l : M0.Le M) : (since M M').Le (since M0 M') := fun k o h => by
  unfold since at h ⊢
  split at h
  · rename_i e; rw [none_of_le l e]; exact h
  · cases h
theorem since_at {M M' : PH} {k : Nat} (h : M k = none) : since M M' k = M' k := by unfold since; rw [h]
theorem New.since {α : Type} {M M' : PH} {o : Option Nat} {A : Option Addr} {c sz : Nat} {f : α → List Value} {ws : List α} (h : New M M' o A c sz f ws) (hf : ∀ x, (f x).length = sz) : Sl (since M M') A sz f ws :=
  (h.ow.keep (M' := Go.Proofs.YtdgipmlkkmmliaaGreatDoor.since M M') fun k ob e hk => by rw [since_at (h.fr k e)]; exact hk).sl hf
/-- Bytes made of a text: their block has room that is not to be written. -/
theorem costHd (ws : List Hd) (h : HdS ws) : costL Hd.cost ws ≤ ws.length * 161 := by
  unfold costL
  induction ws with
  | nil => simp
  | cons x r ih =>
    have h1 := h x List.mem_cons_self
    have h2 := ih fun y hy => h y (List.mem_cons_of_mem _ hy)
    simp only [List.map_cons, List.sum_cons, List.length_cons]
    have : Hd.cost x = x.n.size + x.v.size := rfl
    omega
section
variable {B : Int} {g g' : Nat} {M0 M : PH} {A : Option Addr} {c : Nat} {bs : List Int}
theorem l1Long_ret (t : ByteArray) (S : Sx B M0 M g A c bs) (hB : B ≤ 4294940000) (ht : t.size ≤ 80) :
    ACall env 88 [P0 g, Tx t] M fun r M' => ∃ x, r = Tx x ∧ (1000 ≤ x.size ∧ x.size ≤ 1001) ∧ Sx (B + 1100) M0 M' g A c bs ∧ (rm M g).Le (rm M' g) := by
  refine xcall_of_vc Tryz.func88 rfl _ Tryz.ntmps88 _ rfl (fun _ _ => Tryz.call88 _ _) rfl (fun w0 ρ0 => ?_)
  conv => whnf
  refine loop_rule (fun z : ByteArray × Int => ⟨slots 14 [(0, .v (P0 g)), (1, .v (Tx z.1))], []⟩) (fun z M' => z.1.size ≤ 1001 ∧ 0 ≤ z.2 ∧ z.2 ≤ z.1.size ∧ Sx (B + z.2) M0 M' g A c bs ∧ (rm M g).Le (rm M' g)) (fun z => 1002 - z.1.size) (t, 0) ?_ ?_ ?_
  · exact ⟨by simp [slots, leT], ⟨[], rfl⟩, Nat.zero_le _, rfl, rfl⟩
  · exact ⟨by show t.size ≤ 1001; omega, Int.le_refl _, by show (0 : Int) ≤ t.size; omega, S.below (by show B ≤ B + 0; omega), PH.Le.refl _⟩
  rintro ⟨u, b⟩ M1 ⟨h1, h2, h3, S1, l1⟩
  have h1 : u.size ≤ 1001 := h1
  have h2 : 0 ≤ b := h2
  have h3 : b ≤ u.size := h3
  have S1 : Sx (B + b) M0 M1 g A c bs := S1
  have l1 : (rm M g).Le (rm M1 g) := l1
  conv => whnf
  intro g2 hg2
  obtain ⟨M2, hM, S2, l2, s2⟩ := buildF (cs := [I 1000, I 1001]) (t := 2) [1000, 1001] rfl S1 hg2
  rw [← hM]; clear hM
  conv => whnf
  refine pickD [1000, 1001] rfl S2 s2 (by simp) (by omega) fun x M3 hx S3 l3 => ?_
  have hx2 : 1000 ≤ x ∧ x ≤ 1001 := by
    simp only [List.mem_cons, List.not_mem_nil, or_false] at hx
    omega
  conv => whnf
  refine caseB_dec (fun h => ?_) (fun h => ?_)
  · have h : (u.size : Int) < x := h
    conv => whnf
    refine ⟨cat_fitsE (by show u.size + 1 ≤ _; omega), ?_⟩
    conv => whnf
    have hs : (u ++ (⟨#[32]⟩ : ByteArray)).size = u.size + 1 := by rw [ByteArray.size_append]; rfl
    refine ⟨(u ++ ⟨#[32]⟩, b + 1), ⟨by simp [slots, leT], ⟨[], rfl⟩, Nat.zero_le _, rfl, rfl⟩, ⟨by show (u ++ (⟨#[32]⟩ : ByteArray)).size ≤ 1001; omega, by show 0 ≤ b + 1; omega, by show b + 1 ≤ ((u ++ (⟨#[32]⟩ : ByteArray)).size : Nat); omega, S3.below (by show B + b + 1 ≤ B + (b + 1); omega), (l1.trans l2).trans l3⟩, by show 1002 - (u ++ (⟨#[32]⟩ : ByteArray)).size < 1002 - u.size; omega⟩
  · have h : ¬ (u.size : Int) < x := h
    conv => whnf
    exact ⟨_, PH.Le.refl _, u, rfl, ⟨by omega, h1⟩, S3.below (by omega), (l1.trans l2).trans l3⟩
abbrev HdB (ws : List Hd) : Prop := ∀ x ∈ ws, x.n.size ≤ 300 ∧ x.v.size ≤ 300
theorem HdS.big {ws : List Hd} (h : HdS ws) : HdB ws := fun x hx => ⟨by have := (h x hx).1; omega, by have := (h x hx).2; omega⟩
theorem HdB.snoc {ws : List Hd} {x : Hd} (h : HdB ws) (hn : x.n.size ≤ 300) (hv : x.v.size ≤ 300) : HdB (ws ++ [x]) := fun y hy => by
  rcases List.mem_append.1 hy with hy | hy
  · exact h y hy
  · have : y = x := by simpa using hy
    subst this; exact ⟨hn, hv⟩
/-- A head line more, beside the source. -/
theorem hdApp {K : AV → PH → Prop} {R : PH} {o : Option Nat} {C : Option Addr} {d : Nat} {ws : List Hd} {e : TypeId} {g2 : Nat} {t : TypeId} (x : Hd) (S : Sx B R M g A c bs) (N : New R (rm M g) o C d 2 Hd.cs ws) (hl : ws.length ≤ 1000) (hg2 : M g2 = none)
    (hk : ∀ o' C' d' M', New R (rm M' g) o' C' d' 2 Hd.cs (ws ++ [x]) → Sx B R M' g A c bs → K (.v (.slice C' (ws ++ [x]).length d')) M') :
    ∃ news : List Value, news.length = 1 * ti65.size ∧ ((1 : Nat) = 0 ∨ (M.set g2 (.cells #[Tx x.n, Tx x.v] t (0, 0))).cells (some ⟨g2, 0, none⟩) 0 news) ∧ appVC ti65 e C ws.length d 1 news (M.set g2 (.cells #[Tx x.n, Tx x.v] t (0, 0))) K := by
  obtain ⟨M4, hM, S4, l4, n4⟩ := rowF (cs := [Tx x.n, Tx x.v]) (t := t) x Hd.len rfl S hg2
  have hM : M4 = M.set g2 (.cells #[Tx x.n, Tx x.v] t (0, 0)) := hM
  rw [← hM]
  exact appendD (te := ti65) (f := Hd.cs) (xs := ws) (ys := [x]) S4 (n4.ow.sl Hd.len) (N.to l4) Hd.len Hd_oneE rfl (hd_fits1 _ _ (by omega)) (by show _ + 1 ≤ _; omega) fun o' C' d' M' N' S' _ => hk o' C' d' M' N' S'
set_option maxHeartbeats 8000000 in
theorem l4Bent_ret (S : Sx B M0 M g A c bs) (hB : B ≤ 4294930000) :
    ACall env 39 [P0 g] M fun r M' => ∃ o A' c' ws, r = .slice A' ws.length c' ∧ New (rm M g) (rm M' g) o A' c' 2 Hd.cs ws ∧ ws.length ≤ 30 ∧ HdB ws ∧ Sx (B + 2000) M0 M' g A c bs ∧ (rm M g).Le (rm M' g) := by
  refine xcall_of_vc Tryz.func39 rfl _ Tryz.ntmps39 _ rfl (fun _ _ => Tryz.call39 _ _) rfl (fun w0 ρ0 => ?_)
  conv => whnf
  have T := S.now
  intro g1 hg1
  obtain ⟨M1, hM, S1, l1, s1⟩ := buildF (cs := [I 0, I 1, I 2, I 3, I 5]) (t := 2) [0, 1, 2, 3, 5] rfl T hg1
  rw [← hM]; clear hM
  conv => whnf
  refine pickD [0, 1, 2, 3, 5] rfl S1 s1 (by simp) (by omega) fun n M2 hn S2 l2 => ?_
  have hn2 : 0 ≤ n ∧ n ≤ 5 := by
    simp only [List.mem_cons, List.not_mem_nil, or_false] at hn
    omega
  conv => whnf
  refine ACall.step (l4Draw_ret n hn2.1 (by omega) S2 (by omega)) fun r M3 hh => ?_
  obtain ⟨o, C, d, ws, rfl, N3, hl, hz, S3, l3⟩ := hh
  have N3 := N3.from (l1.trans l2)
  have hz := hz.big
  have hl : ws.length ≤ 5 := by omega
  clear T S1 S2 s1
  conv => whnf
  refine nextD 20 S3 (by omega) fun x M4 _ S4 l4 => ?_
  have N4 := N3.to l4
  clear S3 N3
  conv => whnf
  repeat' (first | (refine ⟨⟨[], rfl⟩, _, PH.Le.refl _, PH.Le.refl _, ?_⟩; conv => whnf) | (refine caseB_true ?_; conv => whnf) | (refine caseB_false ?_; conv => whnf) | ((with_reducible refine caseB_dec (fun h => ?_) (fun h => ?_)) <;> conv => whnf) | ((with_reducible refine caseB_ndec (fun h => ?_) (fun h => ?_)) <;> conv => whnf) | ((with_reducible refine caseB_not (fun h => ?_) (fun h => ?_)) <;> conv => whnf) | (with_reducible refine @And.intro (guardVC _ _ _ _ _) _ ?_ ?_) <;> conv => whnf | (refine caseB_intro (fun h => ?_) (fun h => ?_) <;> (try simp only [Bool.not_eq_true', Bool.not_eq_false', decide_eq_true_eq, decide_eq_false_iff_not] at h) <;> conv => whnf))
  · intro g2 hg2
    obtain ⟨M5, hM, S5, l5, s5⟩ := buildW (cs := [Tx ⟨#[]⟩, Tx ⟨#[97, 32, 98]⟩, Tx ⟨#[120, 58]⟩]) (t := 9) [⟨#[]⟩, ⟨#[97, 32, 98]⟩, ⟨#[120, 58]⟩] rfl S4 hg2
    rw [← hM]; clear hM
    conv => whnf
    refine wordD [⟨#[]⟩, ⟨#[97, 32, 98]⟩, ⟨#[120, 58]⟩] rfl S5 s5 (by decide) (by decide) (by omega) fun t M6 ht S6 l6 => ?_
    conv => whnf
    intro g3 hg3
    refine hdApp ⟨t, ⟨#[118]⟩⟩ S6 (N4.to (l5.trans l6)) (by omega) hg3 fun o7 C7 d7 M7 N7 S7 => ?_
    conv => whnf
    exact ⟨_, PH.Le.refl _, o7, C7, d7, _, rfl, N7, by simp; omega, hz.snoc (Nat.le_trans ht (by decide)) (by dsimp only; decide), S.back (S7.below (by omega)), N7.le⟩
  · intro g2 hg2
    obtain ⟨M5, hM, S5, l5, s5⟩ := buildW (cs := [Tx ⟨#[32, 118]⟩, Tx ⟨#[118, 9]⟩, Tx ⟨#[1]⟩, Tx ⟨#[10]⟩]) (t := 9) [⟨#[32, 118]⟩, ⟨#[118, 9]⟩, ⟨#[1]⟩, ⟨#[10]⟩] rfl S4 hg2
    rw [← hM]; clear hM
    conv => whnf
    refine wordD [⟨#[32, 118]⟩, ⟨#[118, 9]⟩, ⟨#[1]⟩, ⟨#[10]⟩] rfl S5 s5 (by decide) (by decide) (by omega) fun t M6 ht S6 l6 => ?_
    conv => whnf
    intro g3 hg3
    refine hdApp ⟨⟨#[120]⟩, t⟩ S6 (N4.to (l5.trans l6)) (by omega) hg3 fun o7 C7 d7 M7 N7 S7 => ?_
    conv => whnf
    exact ⟨_, PH.Le.refl _, o7, C7, d7, _, rfl, N7, by simp; omega, hz.snoc (by dsimp only; decide) (Nat.le_trans ht (by decide)), S.back (S7.below (by omega)), N7.le⟩
  · refine ACall.step (l1Long_ret ⟨#[118]⟩ S4 (by omega) (by decide)) fun r M5 hh => ?_
    obtain ⟨t, rfl, ht, S5, l5⟩ := hh
    conv => whnf
    intro g2 hg2
    obtain ⟨M6, hM, S6, l6, s6⟩ := buildF (cs := [I 200, I 201]) (t := 2) [200, 201] rfl S5 hg2
    rw [← hM]; clear hM
    conv => whnf
    refine pickD [200, 201] rfl S6 s6 (by simp) (by omega) fun y M7 hy S7 l7 => ?_
    have hy2 : 0 ≤ y ∧ y ≤ 201 := by
      simp only [List.mem_cons, List.not_mem_nil, or_false] at hy
      omega
    conv => whnf
    refine ⟨⟨by omega, by omega, by omega⟩, ?_⟩
    conv => whnf
    refine ⟨?_, ?_⟩
    · have : IntKind.i64.max = 9223372036854775807 := by decide
      rw [this]
      show (((ByteArray.extract _ _ _).size + 1 : Nat) : Int) ≤ _
      rw [ByteArray.size_extract]
      omega
    conv => whnf
    intro g3 hg3
    refine hdApp ⟨⟨#[120]⟩, _⟩ S7 (N4.to ((l5.trans l6).trans l7)) (by omega) hg3 fun o8 C8 d8 M8 N8 S8 => ?_
    conv => whnf
    refine ⟨_, PH.Le.refl _, o8, C8, d8, _, rfl, N8, by simp; omega, hz.snoc (by dsimp only; decide) ?_, S.back (S8.below (by omega)), N8.le⟩
    dsimp only
    rw [ByteArray.size_append, ByteArray.size_extract]
    show _ + 1 ≤ 300
    omega
  · intro g2 hg2
    obtain ⟨M5, hM, S5, l5, s5⟩ := buildF (cs := [I 20, I 21]) (t := 2) [20, 21] rfl S4 hg2
    rw [← hM]; clear hM
    conv => whnf
    refine pickD [20, 21] rfl S5 s5 (by simp) (by omega) fun y M6 hy S6 l6 => ?_
    have hy2 : 0 ≤ y ∧ y ≤ 21 := by
      simp only [List.mem_cons, List.not_mem_nil, or_false] at hy
      omega
    conv => whnf
    refine loop_rule (fun z : E4 => ⟨slots 76 [(0, .v (P0 g)), (2, .v (.slice none 0 0)), (3, .v (.slice z.2.2.1 z.2.2.2.2.1.length z.2.2.2.1)), (4, .v (I y))], []⟩)
      (fun z M' => z.1 = z.2.2.2.2.1.length ∧ z.1 ≤ 21 ∧ New (rm M g) (rm M' g) z.2.1 z.2.2.1 z.2.2.2.1 2 Hd.cs z.2.2.2.2.1 ∧ HdB z.2.2.2.2.1 ∧ z.2.2.2.2.2 ≤ B + 300 + 3 * z.1 ∧ Sx z.2.2.2.2.2 (rm M g) M' g A c bs) (fun z => 30 - z.1) (ws.length, o, C, d, ws, B + 300) ?_ ?_ ?_
    · exact ⟨by simp [slots, leT], ⟨[], rfl⟩, Nat.zero_le _, rfl, rfl⟩
    · exact ⟨rfl, by show ws.length ≤ 21; omega, N4.to (l5.trans l6), hz, by show B + 300 ≤ B + 300 + 3 * _; omega, S6.below (by show _ ≤ B + 300; omega)⟩
    rintro ⟨i, o7, C7, d7, us, B7⟩ M7 ⟨hi, hi2, N7, hz7, hB7, S7⟩
    have hi : i = us.length := hi
    have hi2 : i ≤ 21 := hi2
    have N7 : New (rm M g) (rm M7 g) o7 C7 d7 2 Hd.cs us := N7
    have hz7 : HdB us := hz7
    have hB7 : B7 ≤ B + 300 + 3 * i := hB7
    have S7 : Sx B7 (rm M g) M7 g A c bs := S7
    conv => whnf
    refine caseB_dec (fun hb => ?_) (fun hb => ?_)
    · have hb : (us.length : Int) < y := hb
      conv => whnf
      refine ACall.step (l4DrawLine_ret S7 (by omega)) fun r M8 hh => ?_
      obtain ⟨x, rfl, hx, S8, l8⟩ := hh
      conv => whnf
      intro g3 hg3
      refine hdApp x S8 (N7.to l8) (by omega) hg3 fun o9 C9 d9 M9 N9 S9 => ?_
      conv => whnf
      exact ⟨(i + 1, o9, C9, d9, us ++ [x], B7 + 3), ⟨by simp [slots, leT], ⟨[], rfl⟩, Nat.zero_le _, rfl, rfl⟩, ⟨by show i + 1 = (us ++ [x]).length; simp; omega, by show i + 1 ≤ 21; omega, N9, hz7.snoc (by omega) (by omega), by show B7 + 3 ≤ B + 300 + 3 * ((i + 1 : Nat) : Int); omega, S9⟩, by show 30 - (i + 1) < 30 - i; omega⟩
    · conv => whnf
      exact ⟨_, PH.Le.refl _, o7, C7, d7, us, rfl, N7, by omega, hz7, S.back (S7.below (by omega)), N7.le⟩
  · intro g2 hg2
    obtain ⟨M5, hM, S5, l5, s5⟩ := buildF (cs := [I 200, I 201]) (t := 2) [200, 201] rfl S4 hg2
    rw [← hM]; clear hM
    conv => whnf
    refine pickD [200, 201] rfl S5 s5 (by simp) (by omega) fun y M6 hy S6 l6 => ?_
    have hy2 : 0 ≤ y ∧ y ≤ 201 := by
      simp only [List.mem_cons, List.not_mem_nil, or_false] at hy
      omega
    conv => whnf
    refine loop_rule (fun z : ByteArray => ⟨slots 76 [(0, .v (P0 g)), (2, .v (.slice none 0 0)), (3, .v (.slice C ws.length d)), (5, .v (Tx z)), (6, .v (I y))], []⟩)
      (fun z M' => z.size ≤ 201 ∧ M' = M6) (fun z => 300 - z.size) ByteArray.empty ?_ ?_ ?_
    · exact ⟨by simp [slots, leT]; rfl, ⟨[], rfl⟩, Nat.zero_le _, rfl, rfl⟩
    · exact ⟨Nat.zero_le _, rfl⟩
    rintro t M7 ⟨ht, rfl⟩
    conv => whnf
    refine caseB_dec (fun hb => ?_) (fun hb => ?_)
    · have hb : (t.size : Int) < y := hb
      conv => whnf
      refine ⟨cat_fitsE (by show t.size + 1 ≤ _; omega), ?_⟩
      conv => whnf
      have hs : (t ++ (⟨#[119]⟩ : ByteArray)).size = t.size + 1 := by rw [ByteArray.size_append]; rfl
      exact ⟨t ++ ⟨#[119]⟩, ⟨by simp [slots, leT], ⟨[], rfl⟩, Nat.zero_le _, rfl, rfl⟩, ⟨by omega, rfl⟩, by omega⟩
    · conv => whnf
      intro g3 hg3
      refine hdApp ⟨⟨#[120]⟩, t⟩ S6 (N4.to (l5.trans l6)) (by omega) hg3 fun o8 C8 d8 M8 N8 S8 => ?_
      conv => whnf
      exact ⟨_, PH.Le.refl _, o8, C8, d8, _, rfl, N8, by simp; omega, hz.snoc (by dsimp only; decide) (by dsimp only; omega), S.back (S8.below (by omega)), N8.le⟩
  · exact ⟨_, PH.Le.refl _, o, C, d, ws, rfl, N4, by omega, hz, S.back (S4.below (by omega)), N4.le⟩
theorem costHdB (ws : List Hd) (h : HdB ws) : costL Hd.cost ws ≤ ws.length * 601 := by
  unfold costL
  induction ws with
  | nil => simp
  | cons x r ih =>
    have h1 := h x List.mem_cons_self
    have h2 := ih fun y hy => h y (List.mem_cons_of_mem _ hy)
    simp only [List.map_cons, List.sum_cons, List.length_cons]
    have : Hd.cost x = x.n.size + x.v.size := rfl
    omega
end
end Go.Proofs.YtdgipmlkkmmliaaGreatDoor
