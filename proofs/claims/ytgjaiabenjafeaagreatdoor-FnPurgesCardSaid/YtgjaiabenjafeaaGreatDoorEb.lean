/-
  DRAWS of texts, head lines, times of entries, entries: whatever they are. DRAWS of bent head lines and entries: whatever they are.
-/
import Derived.Test.YtgjaiabenjafeaaGreatDoorDa
import Derived.Test.YtgjaiabenjafeaaGreatDoorWw
namespace Go.Proofs.YtgjaiabenjafeaaGreatDoor
set_option maxRecDepth 100000
set_option linter.unusedSimpArgs false
set_option linter.unusedVariables false
open Go.Xe
section
variable {B : Int} {g g' : Nat} {M0 M : PH} {A : Option Addr} {c : Nat} {bs : List Int}
theorem wordX {D : Option Addr} {d : Nat} (xs : List ByteArray) (S : Sx B M0 M g A c bs) (hB : B ≤ 4294967296) (hs : Sl (rm M g) D 1 stC xs) (hx : 1 ≤ xs.length) :
    ACall env 131 [P0 g, .slice D xs.length d] M fun r M' => ∃ x, r = Tx x ∧ x ∈ xs ∧ Sx (B + 1) M0 M' g A c bs ∧ (rm M g).Le (rm M' g) := by
  refine xcall_of_vc Tryz.func131 rfl _ Tryz.ntmps131 _ rfl (fun _ _ => Tryz.call131 _ _) rfl (fun w0 ρ0 => ?_)
  conv => whnf
  refine ACall.step (nextX xs.length S hB) fun r M' h1 => ?_
  obtain ⟨x, rfl, hx1, hS, hK⟩ := h1
  conv => whnf
  obtain ⟨l0, u0⟩ := hx1 (by omega)
  have hi : x.toNat < xs.length := by omega
  obtain ⟨hA, _, hc⟩ := (hs.mono (hK.trans (rm_le M' g))).get hi
  refine ⟨l0, u0, hA, ?_⟩
  conv => whnf
  refine ⟨Tx xs[x.toNat], hc, ?_⟩
  conv => whnf
  exact ⟨_, PH.Le.refl _, _, rfl, List.getElem_mem hi, hS, hK⟩
theorem wordD {D : Option Addr} {n d : Nat} (xs : List ByteArray) (hl : n = xs.length) (S : Sx B M0 M g A c bs) (hs : Sl (rm M g) D 1 stC xs) (hx : 1 ≤ xs.length) (hp : (xs.all fun b => decide (b.size ≤ 80)) = true) (hB : B ≤ 4294967296) {bx : List Box} {K : Value → List Box → PH → Prop}
    (h : ∀ x M', x.size ≤ 80 → Sx (B + 1) M0 M' g A c bs → (rm M g).Le (rm M' g) → K (Tx x) bx M') : XCall env 131 [.v (P0 g), .v (.slice D n d)] bx M K := by
  subst hl
  refine ACall.step (wordX xs S hB hs hx) fun r M' hh => ?_
  obtain ⟨x, rfl, hm, hS, hK⟩ := hh
  exact h x M' (by simpa using List.all_eq_true.1 hp x hm) hS hK
theorem wordK {D : Option Addr} {n d : Nat} (xs : List ByteArray) (hl : n = xs.length) (S : Sx B M0 M g A c bs) (hs : Sl (rm M g) D 1 stC xs) (hx : 1 ≤ xs.length) (hp : (xs.all fun b => decide (1 ≤ b.size ∧ b.size ≤ 80)) = true) (hB : B ≤ 4294967296) {bx : List Box} {K : Value → List Box → PH → Prop}
    (h : ∀ x M', 1 ≤ x.size ∧ x.size ≤ 80 → Sx (B + 1) M0 M' g A c bs → (rm M g).Le (rm M' g) → K (Tx x) bx M') : XCall env 131 [.v (P0 g), .v (.slice D n d)] bx M K := by
  subst hl
  refine ACall.step (wordX xs S hB hs hx) fun r M' hh => ?_
  obtain ⟨x, rfl, hm, hS, hK⟩ := hh
  exact h x M' (by simpa using List.all_eq_true.1 hp x hm) hS hK
/-- Texts are laid down. -/
theorem buildW {t : TypeId} {cs : List Value} (xs : List ByteArray) (hcs : cs = xs.flatMap stC) (S : Sx B M0 M g A c bs) (hg' : M g' = none) :
    ∃ M', M' = M.set g' (.cells cs.toArray t (0, 0)) ∧ Sx B M0 M' g A c bs ∧ (rm M g).Le (rm M' g) ∧ Sl (rm M' g) (some ⟨g', 0, none⟩) 1 stC xs := by
  subst hcs
  obtain ⟨o, ho⟩ := S.has
  have hne : g' ≠ g := by rintro rfl; rw [hg'] at ho; cases ho
  have l := PH.Le.set (.cells (xs.flatMap stC).toArray t (0, 0)) hg'
  exact ⟨_, rfl, S.to (PH.set_other _ _ (Ne.symm hne)) (rm_mono l), rm_mono l, Go.Xe.Sl.rm (sl_full (f := stC) (fun _ => rfl) M g' xs t (0, 0)) hne⟩
/-- The source, from what stands now on. -/
theorem Sx.now (S : Sx B M0 M g A c bs) : Sx B (rm M g) M g A c bs := ⟨S.at_, PH.Le.refl _, S.by_.mono S.le⟩
theorem Sx.back {M1 M2 : PH} {B' : Int} (S : Sx B M0 M1 g A c bs) (T : Sx B' (rm M1 g) M2 g A c bs) : Sx B' M0 M2 g A c bs := ⟨T.at_, S.le.trans T.le, S.by_⟩
theorem l8Key_ret (S : Sx B M0 M g A c bs) (hB : B ≤ 4294960000) :
    ACall env 177 [P0 g] M fun r M' => ∃ x, r = Tx x ∧ (1 ≤ x.size ∧ x.size ≤ 80) ∧ Sx (B + 1) M0 M' g A c bs ∧ (rm M g).Le (rm M' g) := by
  refine xcall_of_vc Tryz.func177 rfl _ Tryz.ntmps177 _ rfl (fun _ _ => Tryz.call177 _ _) rfl (fun w0 ρ0 => ?_)
  conv => whnf
  repeat' (first | (refine ⟨⟨[], rfl⟩, _, PH.Le.refl _, PH.Le.refl _, ?_⟩; conv => whnf) | (intro g' hg'; obtain ⟨M', hM, S', l', s'⟩ := buildW (cs := [Tx ⟨#[97, 46, 99, 111, 109, 47]⟩, Tx ⟨#[97, 46, 99, 111, 109, 47, 120]⟩, Tx ⟨#[98, 46, 111, 114, 103, 47, 120]⟩, Tx ⟨#[97, 46, 99, 111, 109, 47, 121, 63, 97, 61, 49, 38, 98, 61, 50]⟩, Tx ⟨#[107, 49]⟩, Tx ⟨#[107, 50]⟩, Tx ⟨#[107, 51]⟩, Tx ⟨#[107, 52]⟩, Tx ⟨#[107, 53]⟩]) (t := 9) [⟨#[97, 46, 99, 111, 109, 47]⟩, ⟨#[97, 46, 99, 111, 109, 47, 120]⟩, ⟨#[98, 46, 111, 114, 103, 47, 120]⟩, ⟨#[97, 46, 99, 111, 109, 47, 121, 63, 97, 61, 49, 38, 98, 61, 50]⟩, ⟨#[107, 49]⟩, ⟨#[107, 50]⟩, ⟨#[107, 51]⟩, ⟨#[107, 52]⟩, ⟨#[107, 53]⟩] rfl (by assumption) hg'; rw [← hM]; clear hM; (first | (refine ⟨⟨[], rfl⟩, _, PH.Le.refl _, bot_le _, ?_⟩; conv => whnf) | (refine ⟨⟨[], rfl⟩, _, l', rm_le _ _, ?_⟩; conv => whnf) | conv => whnf)) | (refine wordK [⟨#[97, 46, 99, 111, 109, 47]⟩, ⟨#[97, 46, 99, 111, 109, 47, 120]⟩, ⟨#[98, 46, 111, 114, 103, 47, 120]⟩, ⟨#[97, 46, 99, 111, 109, 47, 121, 63, 97, 61, 49, 38, 98, 61, 50]⟩, ⟨#[107, 49]⟩, ⟨#[107, 50]⟩, ⟨#[107, 51]⟩, ⟨#[107, 52]⟩, ⟨#[107, 53]⟩] rfl (by assumption) (by first | assumption | exact Sl.mono (by assumption) (by repeat (first | exact PH.Le.refl _ | assumption | (apply PH.Le.trans; · assumption)))) (by decide) (by decide) (by omega) fun x M' hx S' l' => ?_; (first | (refine ⟨⟨[], rfl⟩, _, PH.Le.refl _, bot_le _, ?_⟩; conv => whnf) | (refine ⟨⟨[], rfl⟩, _, l', rm_le _ _, ?_⟩; conv => whnf) | conv => whnf)) | (refine caseB_true ?_; conv => whnf) | (refine caseB_false ?_; conv => whnf) | ((with_reducible refine caseB_dec (fun h => ?_) (fun h => ?_)) <;> conv => whnf) | ((with_reducible refine caseB_ndec (fun h => ?_) (fun h => ?_)) <;> conv => whnf) | ((with_reducible refine caseB_not (fun h => ?_) (fun h => ?_)) <;> conv => whnf) | (with_reducible refine @And.intro (guardVC _ _ _ _ _) _ ?_ ?_) <;> conv => whnf | (refine caseB_intro (fun h => ?_) (fun h => ?_) <;> (try simp only [Bool.not_eq_true', Bool.not_eq_false', decide_eq_true_eq, decide_eq_false_iff_not] at h) <;> conv => whnf))
  exact ⟨_, PH.Le.refl _, _, rfl, by assumption, Sx.below (by assumption) (by omega), (by repeat (first | exact PH.Le.refl _ | assumption | (apply PH.Le.trans; · assumption)))⟩
set_option maxHeartbeats 4000000 in
theorem l4DrawLine_ret (S : Sx B M0 M g A c bs) (hB : B ≤ 4294960000) :
    ACall env 182 [P0 g] M fun r M' => ∃ x : Hd, r = x.val ∧ (x.n.size ≤ 80 ∧ x.v.size ≤ 80) ∧ Sx (B + 3) M0 M' g A c bs ∧ (rm M g).Le (rm M' g) := by
  refine xcall_of_vc Tryz.func182 rfl _ Tryz.ntmps182 _ rfl (fun _ _ => Tryz.call182 _ _) rfl (fun w0 ρ0 => ?_)
  conv => whnf
  repeat' (first | (refine ⟨⟨[], rfl⟩, _, PH.Le.refl _, PH.Le.refl _, ?_⟩; conv => whnf) | (intro g' hg'; obtain ⟨M', hM, S', l', s'⟩ := buildW (cs := [Tx ⟨#[120]⟩, Tx ⟨#[121]⟩, Tx ⟨#[]⟩, Tx ⟨#[116, 101, 120, 116, 47, 104, 116, 109, 108]⟩]) (t := 9) [⟨#[120]⟩, ⟨#[121]⟩, ⟨#[]⟩, ⟨#[116, 101, 120, 116, 47, 104, 116, 109, 108]⟩] rfl (by assumption) hg'; rw [← hM]; clear hM; (first | (refine ⟨⟨[], rfl⟩, _, PH.Le.refl _, bot_le _, ?_⟩; conv => whnf) | (refine ⟨⟨[], rfl⟩, _, l', rm_le _ _, ?_⟩; conv => whnf) | conv => whnf)) | (refine wordD [⟨#[120]⟩, ⟨#[121]⟩, ⟨#[]⟩, ⟨#[116, 101, 120, 116, 47, 104, 116, 109, 108]⟩] rfl (by assumption) (by first | assumption | exact Sl.mono (by assumption) (by repeat (first | exact PH.Le.refl _ | assumption | (apply PH.Le.trans; · assumption)))) (by decide) (by decide) (by omega) fun x M' hx S' l' => ?_; (first | (refine ⟨⟨[], rfl⟩, _, PH.Le.refl _, bot_le _, ?_⟩; conv => whnf) | (refine ⟨⟨[], rfl⟩, _, l', rm_le _ _, ?_⟩; conv => whnf) | conv => whnf)) | (intro g' hg'; obtain ⟨M', hM, S', l', s'⟩ := buildW (cs := [Tx ⟨#[65, 99, 99, 101, 112, 116]⟩, Tx ⟨#[88, 45, 65]⟩, Tx ⟨#[65, 99, 99, 101, 112, 116, 45, 76, 97, 110, 103, 117, 97, 103, 101]⟩, Tx ⟨#[83, 101, 114, 118, 101, 114]⟩]) (t := 9) [⟨#[65, 99, 99, 101, 112, 116]⟩, ⟨#[88, 45, 65]⟩, ⟨#[65, 99, 99, 101, 112, 116, 45, 76, 97, 110, 103, 117, 97, 103, 101]⟩, ⟨#[83, 101, 114, 118, 101, 114]⟩] rfl (by assumption) hg'; rw [← hM]; clear hM; (first | (refine ⟨⟨[], rfl⟩, _, PH.Le.refl _, bot_le _, ?_⟩; conv => whnf) | (refine ⟨⟨[], rfl⟩, _, l', rm_le _ _, ?_⟩; conv => whnf) | conv => whnf)) | (refine wordD [⟨#[65, 99, 99, 101, 112, 116]⟩, ⟨#[88, 45, 65]⟩, ⟨#[65, 99, 99, 101, 112, 116, 45, 76, 97, 110, 103, 117, 97, 103, 101]⟩, ⟨#[83, 101, 114, 118, 101, 114]⟩] rfl (by assumption) (by first | assumption | exact Sl.mono (by assumption) (by repeat (first | exact PH.Le.refl _ | assumption | (apply PH.Le.trans; · assumption)))) (by decide) (by decide) (by omega) fun x M' hx S' l' => ?_; (first | (refine ⟨⟨[], rfl⟩, _, PH.Le.refl _, bot_le _, ?_⟩; conv => whnf) | (refine ⟨⟨[], rfl⟩, _, l', rm_le _ _, ?_⟩; conv => whnf) | conv => whnf)) | (intro g' hg'; obtain ⟨M', hM, S', l', s'⟩ := buildW (cs := [Tx ⟨#[97, 32, 98]⟩, Tx ⟨#[97]⟩, Tx ⟨#[98, 32, 99]⟩]) (t := 9) [⟨#[97, 32, 98]⟩, ⟨#[97]⟩, ⟨#[98, 32, 99]⟩] rfl (by assumption) hg'; rw [← hM]; clear hM; (first | (refine ⟨⟨[], rfl⟩, _, PH.Le.refl _, bot_le _, ?_⟩; conv => whnf) | (refine ⟨⟨[], rfl⟩, _, l', rm_le _ _, ?_⟩; conv => whnf) | conv => whnf)) | (refine wordD [⟨#[97, 32, 98]⟩, ⟨#[97]⟩, ⟨#[98, 32, 99]⟩] rfl (by assumption) (by first | assumption | exact Sl.mono (by assumption) (by repeat (first | exact PH.Le.refl _ | assumption | (apply PH.Le.trans; · assumption)))) (by decide) (by decide) (by omega) fun x M' hx S' l' => ?_; (first | (refine ⟨⟨[], rfl⟩, _, PH.Le.refl _, bot_le _, ?_⟩; conv => whnf) | (refine ⟨⟨[], rfl⟩, _, l', rm_le _ _, ?_⟩; conv => whnf) | conv => whnf)) | (intro g' hg'; obtain ⟨M', hM, S', l', s'⟩ := buildW (cs := [Tx ⟨#[84, 104, 117, 44, 32, 48, 49, 32, 74, 97, 110, 32, 49, 57, 55, 48, 32, 48, 48, 58, 48, 48, 58, 48, 53, 32, 71, 77, 84]⟩, Tx ⟨#[84, 104, 117, 44, 32, 48, 49, 32, 74, 97, 110, 32, 49, 57, 55, 48, 32, 48, 48, 58, 48, 48, 58, 48, 57, 32, 71, 77, 84]⟩, Tx ⟨#[48]⟩]) (t := 9) [⟨#[84, 104, 117, 44, 32, 48, 49, 32, 74, 97, 110, 32, 49, 57, 55, 48, 32, 48, 48, 58, 48, 48, 58, 48, 53, 32, 71, 77, 84]⟩, ⟨#[84, 104, 117, 44, 32, 48, 49, 32, 74, 97, 110, 32, 49, 57, 55, 48, 32, 48, 48, 58, 48, 48, 58, 48, 57, 32, 71, 77, 84]⟩, ⟨#[48]⟩] rfl (by assumption) hg'; rw [← hM]; clear hM; (first | (refine ⟨⟨[], rfl⟩, _, PH.Le.refl _, bot_le _, ?_⟩; conv => whnf) | (refine ⟨⟨[], rfl⟩, _, l', rm_le _ _, ?_⟩; conv => whnf) | conv => whnf)) | (refine wordD [⟨#[84, 104, 117, 44, 32, 48, 49, 32, 74, 97, 110, 32, 49, 57, 55, 48, 32, 48, 48, 58, 48, 48, 58, 48, 53, 32, 71, 77, 84]⟩, ⟨#[84, 104, 117, 44, 32, 48, 49, 32, 74, 97, 110, 32, 49, 57, 55, 48, 32, 48, 48, 58, 48, 48, 58, 48, 57, 32, 71, 77, 84]⟩, ⟨#[48]⟩] rfl (by assumption) (by first | assumption | exact Sl.mono (by assumption) (by repeat (first | exact PH.Le.refl _ | assumption | (apply PH.Le.trans; · assumption)))) (by decide) (by decide) (by omega) fun x M' hx S' l' => ?_; (first | (refine ⟨⟨[], rfl⟩, _, PH.Le.refl _, bot_le _, ?_⟩; conv => whnf) | (refine ⟨⟨[], rfl⟩, _, l', rm_le _ _, ?_⟩; conv => whnf) | conv => whnf)) | (intro g' hg'; obtain ⟨M', hM, S', l', s'⟩ := buildW (cs := [Tx ⟨#[69, 120, 112, 105, 114, 101, 115]⟩, Tx ⟨#[68, 97, 116, 101]⟩]) (t := 9) [⟨#[69, 120, 112, 105, 114, 101, 115]⟩, ⟨#[68, 97, 116, 101]⟩] rfl (by assumption) hg'; rw [← hM]; clear hM; (first | (refine ⟨⟨[], rfl⟩, _, PH.Le.refl _, bot_le _, ?_⟩; conv => whnf) | (refine ⟨⟨[], rfl⟩, _, l', rm_le _ _, ?_⟩; conv => whnf) | conv => whnf)) | (refine wordD [⟨#[69, 120, 112, 105, 114, 101, 115]⟩, ⟨#[68, 97, 116, 101]⟩] rfl (by assumption) (by first | assumption | exact Sl.mono (by assumption) (by repeat (first | exact PH.Le.refl _ | assumption | (apply PH.Le.trans; · assumption)))) (by decide) (by decide) (by omega) fun x M' hx S' l' => ?_; (first | (refine ⟨⟨[], rfl⟩, _, PH.Le.refl _, bot_le _, ?_⟩; conv => whnf) | (refine ⟨⟨[], rfl⟩, _, l', rm_le _ _, ?_⟩; conv => whnf) | conv => whnf)) | (intro g' hg'; obtain ⟨M', hM, S', l', s'⟩ := buildW (cs := [Tx ⟨#[48]⟩, Tx ⟨#[49]⟩, Tx ⟨#[51]⟩, Tx ⟨#[120]⟩]) (t := 9) [⟨#[48]⟩, ⟨#[49]⟩, ⟨#[51]⟩, ⟨#[120]⟩] rfl (by assumption) hg'; rw [← hM]; clear hM; (first | (refine ⟨⟨[], rfl⟩, _, PH.Le.refl _, bot_le _, ?_⟩; conv => whnf) | (refine ⟨⟨[], rfl⟩, _, l', rm_le _ _, ?_⟩; conv => whnf) | conv => whnf)) | (refine wordD [⟨#[48]⟩, ⟨#[49]⟩, ⟨#[51]⟩, ⟨#[120]⟩] rfl (by assumption) (by first | assumption | exact Sl.mono (by assumption) (by repeat (first | exact PH.Le.refl _ | assumption | (apply PH.Le.trans; · assumption)))) (by decide) (by decide) (by omega) fun x M' hx S' l' => ?_; (first | (refine ⟨⟨[], rfl⟩, _, PH.Le.refl _, bot_le _, ?_⟩; conv => whnf) | (refine ⟨⟨[], rfl⟩, _, l', rm_le _ _, ?_⟩; conv => whnf) | conv => whnf)) | (intro g' hg'; obtain ⟨M', hM, S', l', s'⟩ := buildW (cs := [Tx ⟨#[65, 99, 99, 101, 112, 116]⟩, Tx ⟨#[97, 99, 99, 101, 112, 116, 45, 108, 97, 110, 103, 117, 97, 103, 101]⟩, Tx ⟨#[42]⟩, Tx ⟨#[65, 99, 99, 101, 112, 116, 44, 32, 88, 45, 65]⟩]) (t := 9) [⟨#[65, 99, 99, 101, 112, 116]⟩, ⟨#[97, 99, 99, 101, 112, 116, 45, 108, 97, 110, 103, 117, 97, 103, 101]⟩, ⟨#[42]⟩, ⟨#[65, 99, 99, 101, 112, 116, 44, 32, 88, 45, 65]⟩] rfl (by assumption) hg'; rw [← hM]; clear hM; (first | (refine ⟨⟨[], rfl⟩, _, PH.Le.refl _, bot_le _, ?_⟩; conv => whnf) | (refine ⟨⟨[], rfl⟩, _, l', rm_le _ _, ?_⟩; conv => whnf) | conv => whnf)) | (refine wordD [⟨#[65, 99, 99, 101, 112, 116]⟩, ⟨#[97, 99, 99, 101, 112, 116, 45, 108, 97, 110, 103, 117, 97, 103, 101]⟩, ⟨#[42]⟩, ⟨#[65, 99, 99, 101, 112, 116, 44, 32, 88, 45, 65]⟩] rfl (by assumption) (by first | assumption | exact Sl.mono (by assumption) (by repeat (first | exact PH.Le.refl _ | assumption | (apply PH.Le.trans; · assumption)))) (by decide) (by decide) (by omega) fun x M' hx S' l' => ?_; (first | (refine ⟨⟨[], rfl⟩, _, PH.Le.refl _, bot_le _, ?_⟩; conv => whnf) | (refine ⟨⟨[], rfl⟩, _, l', rm_le _ _, ?_⟩; conv => whnf) | conv => whnf)) | (intro g' hg'; obtain ⟨M', hM, S', l', s'⟩ := buildW (cs := [Tx ⟨#[34, 118, 49, 34]⟩, Tx ⟨#[34, 118, 50, 34]⟩, Tx ⟨#[87, 47, 34, 118, 49, 34]⟩]) (t := 9) [⟨#[34, 118, 49, 34]⟩, ⟨#[34, 118, 50, 34]⟩, ⟨#[87, 47, 34, 118, 49, 34]⟩] rfl (by assumption) hg'; rw [← hM]; clear hM; (first | (refine ⟨⟨[], rfl⟩, _, PH.Le.refl _, bot_le _, ?_⟩; conv => whnf) | (refine ⟨⟨[], rfl⟩, _, l', rm_le _ _, ?_⟩; conv => whnf) | conv => whnf)) | (refine wordD [⟨#[34, 118, 49, 34]⟩, ⟨#[34, 118, 50, 34]⟩, ⟨#[87, 47, 34, 118, 49, 34]⟩] rfl (by assumption) (by first | assumption | exact Sl.mono (by assumption) (by repeat (first | exact PH.Le.refl _ | assumption | (apply PH.Le.trans; · assumption)))) (by decide) (by decide) (by omega) fun x M' hx S' l' => ?_; (first | (refine ⟨⟨[], rfl⟩, _, PH.Le.refl _, bot_le _, ?_⟩; conv => whnf) | (refine ⟨⟨[], rfl⟩, _, l', rm_le _ _, ?_⟩; conv => whnf) | conv => whnf)) | (intro g' hg'; obtain ⟨M', hM, S', l', s'⟩ := buildW (cs := [Tx ⟨#[109, 97, 120, 45, 97, 103, 101, 61, 53]⟩, Tx ⟨#[109, 97, 120, 45, 97, 103, 101, 61, 50, 44, 32, 115, 116, 97, 108, 101, 45, 119, 104, 105, 108, 101, 45, 114, 101, 118, 97, 108, 105, 100, 97, 116, 101, 61, 51]⟩, Tx ⟨#[115, 45, 109, 97, 120, 97, 103, 101, 61, 49, 44, 32, 115, 116, 97, 108, 101, 45, 105, 102, 45, 101, 114, 114, 111, 114, 61, 57]⟩, Tx ⟨#[110, 111, 45, 115, 116, 111, 114, 101]⟩, Tx ⟨#[110, 111, 45, 99, 97, 99, 104, 101]⟩, Tx ⟨#[112, 114, 105, 118, 97, 116, 101]⟩, Tx ⟨#[109, 97, 120, 45, 97, 103, 101, 61, 48, 44, 32, 109, 117, 115, 116, 45, 114, 101, 118, 97, 108, 105, 100, 97, 116, 101]⟩, Tx ⟨#[109, 97, 120, 45, 97, 103, 101, 61, 120]⟩, Tx ⟨#[112, 117, 98, 108, 105, 99]⟩, Tx ⟨#[109, 97, 120, 45, 97, 103, 101, 61, 54, 48, 44, 32, 115, 116, 97, 108, 101, 45, 119, 104, 105, 108, 101, 45, 114, 101, 118, 97, 108, 105, 100, 97, 116, 101, 61, 54, 48, 44, 32, 115, 116, 97, 108, 101, 45, 105, 102, 45, 101, 114, 114, 111, 114, 61, 54, 48]⟩]) (t := 9) [⟨#[109, 97, 120, 45, 97, 103, 101, 61, 53]⟩, ⟨#[109, 97, 120, 45, 97, 103, 101, 61, 50, 44, 32, 115, 116, 97, 108, 101, 45, 119, 104, 105, 108, 101, 45, 114, 101, 118, 97, 108, 105, 100, 97, 116, 101, 61, 51]⟩, ⟨#[115, 45, 109, 97, 120, 97, 103, 101, 61, 49, 44, 32, 115, 116, 97, 108, 101, 45, 105, 102, 45, 101, 114, 114, 111, 114, 61, 57]⟩, ⟨#[110, 111, 45, 115, 116, 111, 114, 101]⟩, ⟨#[110, 111, 45, 99, 97, 99, 104, 101]⟩, ⟨#[112, 114, 105, 118, 97, 116, 101]⟩, ⟨#[109, 97, 120, 45, 97, 103, 101, 61, 48, 44, 32, 109, 117, 115, 116, 45, 114, 101, 118, 97, 108, 105, 100, 97, 116, 101]⟩, ⟨#[109, 97, 120, 45, 97, 103, 101, 61, 120]⟩, ⟨#[112, 117, 98, 108, 105, 99]⟩, ⟨#[109, 97, 120, 45, 97, 103, 101, 61, 54, 48, 44, 32, 115, 116, 97, 108, 101, 45, 119, 104, 105, 108, 101, 45, 114, 101, 118, 97, 108, 105, 100, 97, 116, 101, 61, 54, 48, 44, 32, 115, 116, 97, 108, 101, 45, 105, 102, 45, 101, 114, 114, 111, 114, 61, 54, 48]⟩] rfl (by assumption) hg'; rw [← hM]; clear hM; (first | (refine ⟨⟨[], rfl⟩, _, PH.Le.refl _, bot_le _, ?_⟩; conv => whnf) | (refine ⟨⟨[], rfl⟩, _, l', rm_le _ _, ?_⟩; conv => whnf) | conv => whnf)) | (refine wordD [⟨#[109, 97, 120, 45, 97, 103, 101, 61, 53]⟩, ⟨#[109, 97, 120, 45, 97, 103, 101, 61, 50, 44, 32, 115, 116, 97, 108, 101, 45, 119, 104, 105, 108, 101, 45, 114, 101, 118, 97, 108, 105, 100, 97, 116, 101, 61, 51]⟩, ⟨#[115, 45, 109, 97, 120, 97, 103, 101, 61, 49, 44, 32, 115, 116, 97, 108, 101, 45, 105, 102, 45, 101, 114, 114, 111, 114, 61, 57]⟩, ⟨#[110, 111, 45, 115, 116, 111, 114, 101]⟩, ⟨#[110, 111, 45, 99, 97, 99, 104, 101]⟩, ⟨#[112, 114, 105, 118, 97, 116, 101]⟩, ⟨#[109, 97, 120, 45, 97, 103, 101, 61, 48, 44, 32, 109, 117, 115, 116, 45, 114, 101, 118, 97, 108, 105, 100, 97, 116, 101]⟩, ⟨#[109, 97, 120, 45, 97, 103, 101, 61, 120]⟩, ⟨#[112, 117, 98, 108, 105, 99]⟩, ⟨#[109, 97, 120, 45, 97, 103, 101, 61, 54, 48, 44, 32, 115, 116, 97, 108, 101, 45, 119, 104, 105, 108, 101, 45, 114, 101, 118, 97, 108, 105, 100, 97, 116, 101, 61, 54, 48, 44, 32, 115, 116, 97, 108, 101, 45, 105, 102, 45, 101, 114, 114, 111, 114, 61, 54, 48]⟩] rfl (by assumption) (by first | assumption | exact Sl.mono (by assumption) (by repeat (first | exact PH.Le.refl _ | assumption | (apply PH.Le.trans; · assumption)))) (by decide) (by decide) (by omega) fun x M' hx S' l' => ?_; (first | (refine ⟨⟨[], rfl⟩, _, PH.Le.refl _, bot_le _, ?_⟩; conv => whnf) | (refine ⟨⟨[], rfl⟩, _, l', rm_le _ _, ?_⟩; conv => whnf) | conv => whnf)) | (intro g' hg'; obtain ⟨M', hM, S', l', s'⟩ := buildW (cs := [Tx ⟨#[67, 97, 99, 104, 101, 45, 67, 111, 110, 116, 114, 111, 108]⟩, Tx ⟨#[99, 97, 99, 104, 101, 45, 99, 111, 110, 116, 114, 111, 108]⟩]) (t := 9) [⟨#[67, 97, 99, 104, 101, 45, 67, 111, 110, 116, 114, 111, 108]⟩, ⟨#[99, 97, 99, 104, 101, 45, 99, 111, 110, 116, 114, 111, 108]⟩] rfl (by assumption) hg'; rw [← hM]; clear hM; (first | (refine ⟨⟨[], rfl⟩, _, PH.Le.refl _, bot_le _, ?_⟩; conv => whnf) | (refine ⟨⟨[], rfl⟩, _, l', rm_le _ _, ?_⟩; conv => whnf) | conv => whnf)) | (refine wordD [⟨#[67, 97, 99, 104, 101, 45, 67, 111, 110, 116, 114, 111, 108]⟩, ⟨#[99, 97, 99, 104, 101, 45, 99, 111, 110, 116, 114, 111, 108]⟩] rfl (by assumption) (by first | assumption | exact Sl.mono (by assumption) (by repeat (first | exact PH.Le.refl _ | assumption | (apply PH.Le.trans; · assumption)))) (by decide) (by decide) (by omega) fun x M' hx S' l' => ?_; (first | (refine ⟨⟨[], rfl⟩, _, PH.Le.refl _, bot_le _, ?_⟩; conv => whnf) | (refine ⟨⟨[], rfl⟩, _, l', rm_le _ _, ?_⟩; conv => whnf) | conv => whnf)) | (refine nextD (9) (by assumption) (by omega) fun x M' hx S' l' => ?_; (first | (refine ⟨⟨[], rfl⟩, _, PH.Le.refl _, bot_le _, ?_⟩; conv => whnf) | (refine ⟨⟨[], rfl⟩, _, l', rm_le _ _, ?_⟩; conv => whnf) | conv => whnf)) | (refine caseB_true ?_; conv => whnf) | (refine caseB_false ?_; conv => whnf) | ((with_reducible refine caseB_dec (fun h => ?_) (fun h => ?_)) <;> conv => whnf) | ((with_reducible refine caseB_ndec (fun h => ?_) (fun h => ?_)) <;> conv => whnf) | ((with_reducible refine caseB_not (fun h => ?_) (fun h => ?_)) <;> conv => whnf) | (with_reducible refine @And.intro (guardVC _ _ _ _ _) _ ?_ ?_) <;> conv => whnf | (refine caseB_intro (fun h => ?_) (fun h => ?_) <;> (try simp only [Bool.not_eq_true', Bool.not_eq_false', decide_eq_true_eq, decide_eq_false_iff_not] at h) <;> conv => whnf))
  all_goals exact ⟨_, PH.Le.refl _, ⟨_, _⟩, rfl, ⟨by first | assumption | (dsimp only; decide), by first | assumption | (dsimp only; decide)⟩, Sx.below (by assumption) (by omega), (by repeat (first | exact PH.Le.refl _ | assumption | (apply PH.Le.trans; · assumption)))⟩
theorem hd_fits1 (xs : List Hd) (x : Hd) (hn : xs.length ≤ 1048576) : (xs.length + [x].length) * ti148.bytes ≤ 140737488355328 := hd_fits _ _ (by show _ + 1 ≤ _; omega)
abbrev HdS (ws : List Hd) : Prop := ∀ x ∈ ws, x.n.size ≤ 80 ∧ x.v.size ≤ 80
abbrev E4 := Nat × Option Nat × Option Addr × Nat × List Hd × Int
theorem l4Draw_ret (n : Int) (h0 : 0 ≤ n) (h1 : n ≤ 20) (S : Sx B M0 M g A c bs) (hB : B ≤ 4294950000) :
    ACall env 178 [P0 g, I n] M fun r M' => ∃ o A' c' ws, r = .slice A' ws.length c' ∧ New (rm M g) (rm M' g) o A' c' 2 Hd.cs ws ∧ (ws.length : Int) ≤ n ∧ HdS ws ∧ Sx (B + 60) M0 M' g A c bs ∧ (rm M g).Le (rm M' g) := by
  refine xcall_of_vc Tryz.func178 rfl _ Tryz.ntmps178 _ rfl (fun _ _ => Tryz.call178 _ _) rfl (fun w0 ρ0 => ?_)
  conv => whnf
  intro g1 hg1
  conv => whnf
  obtain ⟨M1, hM, S1, l1, s1⟩ := buildW (cs := []) (t := 148) [] rfl S.now hg1
  rw [← hM]
  clear hM
  refine loop_rule (fun z : E4 => ⟨slots 17 [(0, .v (P0 g)), (1, .v (I (n - z.1))), (4, .v (.slice none 0 0)), (5, .v (.slice z.2.2.1 z.2.2.2.2.1.length z.2.2.2.1))], []⟩)
    (fun z M' => (z.1 : Int) ≤ n ∧ New (rm M g) (rm M' g) z.2.1 z.2.2.1 z.2.2.2.1 2 Hd.cs z.2.2.2.2.1 ∧ (z.2.2.2.2.1.length : Int) ≤ z.1 ∧ HdS z.2.2.2.2.1 ∧ z.2.2.2.2.2 = B + 3 * z.1 ∧ Sx z.2.2.2.2.2 (rm M g) M' g A c bs) (fun z => (n - z.1).toNat) (0, none, some ⟨g1, 0, none⟩, 0, [], B) ?_ ?_ ?_
  · exact ⟨by simp [slots, leT], ⟨[], rfl⟩, Nat.zero_le _, rfl, rfl⟩
  · exact ⟨h0, ⟨Ow.nil, S1.le, fun g e => nomatch e⟩, by simp, (fun x hx => by simp at hx), by simp, S1⟩
  rintro ⟨i, o, C, d, ws, B'⟩ M2 ⟨hi, hN, hl, hz, hB', S2⟩
  have hi : (i : Int) ≤ n := hi
  have hN : New (rm M g) (rm M2 g) o C d 2 Hd.cs ws := hN
  have hl : (ws.length : Int) ≤ i := hl
  have hz : HdS ws := hz
  have hB' : B' = B + 3 * i := hB'
  have S2 : Sx B' (rm M g) M2 g A c bs := S2
  conv => whnf
  refine caseB_dec (fun hb => ?_) (fun hb => ?_)
  · have hb : (0 : Int) < n - i := hb
    conv => whnf
    refine ACall.step (l4DrawLine_ret S2 (by omega)) fun r M3 hh => ?_
    obtain ⟨x, rfl, hx, S3, l3⟩ := hh
    conv => whnf
    intro g2 hg2
    obtain ⟨M4, hM, S4, l4, n4⟩ := rowF (cs := [Tx x.n, Tx x.v]) (t := 148) x Hd.len rfl S3 hg2
    rw [← hM]
    clear hM
    conv => whnf
    refine appendD (te := ti148) (f := Hd.cs) (xs := ws) (ys := [x]) S4 (n4.ow.sl Hd.len) (hN.to (l3.trans l4)) Hd.len Hd_one rfl (hd_fits1 _ _ (by omega)) (by show _ + 1 ≤ _; omega) fun o5 C5 d5 M5 N5 S5 k5 => ?_
    conv => whnf
    have hw : IntKind.i64.wrap (n - (i : Int) - 1) = n - ((i + 1 : Nat) : Int) := by rw [wrap_id (by omega) (by omega)]; omega
    refine ⟨(i + 1, o5, C5, d5, ws ++ [x], B + 3 * ((i + 1 : Nat) : Int)), ⟨by simp [slots, leT, hw], ⟨[], rfl⟩, Nat.zero_le _, rfl, rfl⟩, ⟨by show ((i + 1 : Nat) : Int) ≤ n; omega, N5, ?_, ?_, rfl, show Sx (B + 3 * ((i + 1 : Nat) : Int)) (rm M g) M5 g A c bs from S5.below (by omega)⟩, by show (n - ((i + 1 : Nat) : Int)).toNat < (n - i).toNat; omega⟩
    · show (((ws ++ [x]).length : Nat) : Int) ≤ ((i + 1 : Nat) : Int)
      rw [List.length_append]
      show ((ws.length + 1 : Nat) : Int) ≤ _
      omega
    · intro y hy
      rcases List.mem_append.1 hy with hy | hy
      · exact hz y hy
      · have : y = x := by simpa using hy
        subst this; exact hx
  · have hb : ¬ (0 : Int) < n - i := hb
    conv => whnf
    exact ⟨_, PH.Le.refl _, o, C, d, ws, rfl, hN, by omega, hz, S.back (S2.below (by omega)), hN.le⟩
theorem l1DrawTime_any (S : Sx B M0 M g A c bs) (hB : B ≤ 4294960000) :
    ACall env 195 [P0 g] M fun r M' => ∃ x, r = I x ∧ Sx (B + 3) M0 M' g A c bs ∧ (rm M g).Le (rm M' g) := by
  refine xcall_of_vc Tryz.func195 rfl _ Tryz.ntmps195 _ rfl (fun _ _ => Tryz.call195 _ _) rfl (fun w0 ρ0 => ?_)
  conv => whnf
  refine nextD _ S (by omega) fun x1 M1 _ S1 l1 => ?_
  conv => whnf
  refine nextD _ S1 (by omega) fun x2 M2 _ S2 l2 => ?_
  clear S S1
  conv => whnf
  repeat' (first | (refine ⟨⟨[], rfl⟩, _, PH.Le.refl _, PH.Le.refl _, ?_⟩; conv => whnf) | (intro g' hg'; obtain ⟨M', hM, S', l', s'⟩ := buildF (cs := [I 0, I 1, I 1000, I x1, I x2, I 1000000000000000, I 999999999999999, I 500000000000000, I 500000000000001]) (t := 2) [0, 1, 1000, x1, x2, 1000000000000000, 999999999999999, 500000000000000, 500000000000001] rfl (by assumption) hg'; rw [← hM]; clear hM; (first | (refine ⟨⟨[], rfl⟩, _, PH.Le.refl _, bot_le _, ?_⟩; conv => whnf) | (refine ⟨⟨[], rfl⟩, _, l', rm_le _ _, ?_⟩; conv => whnf) | conv => whnf)) | (refine pickD [0, 1, 1000, x1, x2, 1000000000000000, 999999999999999, 500000000000000, 500000000000001] rfl (by assumption) (by first | assumption | exact Sl.mono (by assumption) (by repeat (first | exact PH.Le.refl _ | assumption | (apply PH.Le.trans; · assumption)))) (by simp) (by omega) fun x M' hx S' l' => ?_; (first | (refine ⟨⟨[], rfl⟩, _, PH.Le.refl _, bot_le _, ?_⟩; conv => whnf) | (refine ⟨⟨[], rfl⟩, _, l', rm_le _ _, ?_⟩; conv => whnf) | conv => whnf)) | (refine caseB_true ?_; conv => whnf) | (refine caseB_false ?_; conv => whnf) | ((with_reducible refine caseB_dec (fun h => ?_) (fun h => ?_)) <;> conv => whnf) | ((with_reducible refine caseB_ndec (fun h => ?_) (fun h => ?_)) <;> conv => whnf) | ((with_reducible refine caseB_not (fun h => ?_) (fun h => ?_)) <;> conv => whnf) | (with_reducible refine @And.intro (guardVC _ _ _ _ _) _ ?_ ?_) <;> conv => whnf | (refine caseB_intro (fun h => ?_) (fun h => ?_) <;> (try simp only [Bool.not_eq_true', Bool.not_eq_false', decide_eq_true_eq, decide_eq_false_iff_not] at h) <;> conv => whnf))
  exact ⟨_, PH.Le.refl _, _, rfl, Sx.below (by assumption) (by omega), (by repeat (first | exact PH.Le.refl _ | assumption | (apply PH.Le.trans; · assumption)))⟩
end
/-- What stands in M' and did not stand in M. -/
def since (M M' : PH) : PH := fun k => match M k with | none => M' k | some _ => none
theorem since_le (M M' : PH) : (since M M').Le M' := fun k o h => by
  unfold since at h
  split at h
  · exact h
  · cases h
theorem since_mono {M M' M'' : PH} (l : M'.Le M'') : (since M M').Le (since M M'') := fun k o h => by
  unfold since at h ⊢
  split at h
  · rename_i e; exact l k o h
  · cases h
theorem since_from {M0 M M' : PH} (l : M0.Le M) : (since M M').Le (since M0 M') := fun k o h => by
  unfold since at h ⊢
  split at h
  · rename_i e; rw [none_of_le l e]; exact h
  · cases h
theorem since_at {M M' : PH} {k : Nat} (h : M k = none) : since M M' k = M' k := by unfold since; rw [h]
theorem New.since {α : Type} {M M' : PH} {o : Option Nat} {A : Option Addr} {c sz : Nat} {f : α → List Value} {ws : List α} (h : New M M' o A c sz f ws) (hf : ∀ x, (f x).length = sz) : Sl (since M M') A sz f ws :=
  (h.ow.keep (M' := Go.Proofs.YtgjaiabenjafeaaGreatDoor.since M M') fun k ob e hk => by rw [since_at (h.fr k e)]; exact hk).sl hf
/-- Bytes made of a text: their block has room that is not to be written. -/
structure Bod (M : PH) (g1 : Nat) (c1 : Nat) (bs' : List Int) : Prop where
  at_ : ∃ cells : List Value, M g1 = some (.cells cells.toArray 5 (c1, c1 + 1)) ∧ cells.length = c1 ∧ ∀ (i : Nat) b, bs'[i]? = some b → cells[i]? = some (Y b)
  le : bs'.length ≤ c1
section
variable {B : Int} {g g' : Nat} {M0 M : PH} {A : Option Addr} {c : Nat} {bs : List Int}
theorem l5Body_ret (S : Sx B M0 M g A c bs) (hB : B ≤ 4294960000) :
    ACall env 179 [P0 g] M fun r M' => ∃ g1 c1 bs', r = .slice (some ⟨g1, 0, none⟩) bs'.length c1 ∧ Bod (rm M' g) g1 c1 bs' ∧ (rm M g) g1 = none ∧ bs'.length ≤ 80 ∧ bytesOk bs' ∧ Sx (B + 1) M0 M' g A c bs ∧ (rm M g).Le (rm M' g) := by
  refine xcall_of_vc Tryz.func179 rfl _ Tryz.ntmps179 _ rfl (fun _ _ => Tryz.call179 _ _) rfl (fun w0 ρ0 => ?_)
  conv => whnf
  repeat' (first | (refine ⟨⟨[], rfl⟩, _, PH.Le.refl _, PH.Le.refl _, ?_⟩; conv => whnf) | (intro g' hg'; obtain ⟨M', hM, S', l', s'⟩ := buildW (cs := [Tx ⟨#[111, 110, 101]⟩, Tx ⟨#[116, 119, 111]⟩, Tx ⟨#[]⟩, Tx ⟨#[116, 104, 114, 101, 101, 32, 116, 104, 114, 101, 101]⟩, Tx ⟨#[13, 10, 13, 10]⟩, Tx ⟨#[120]⟩]) (t := 9) [⟨#[111, 110, 101]⟩, ⟨#[116, 119, 111]⟩, ⟨#[]⟩, ⟨#[116, 104, 114, 101, 101, 32, 116, 104, 114, 101, 101]⟩, ⟨#[13, 10, 13, 10]⟩, ⟨#[120]⟩] rfl (by assumption) hg'; rw [← hM]; clear hM; (first | (refine ⟨⟨[], rfl⟩, _, PH.Le.refl _, bot_le _, ?_⟩; conv => whnf) | (refine ⟨⟨[], rfl⟩, _, l', rm_le _ _, ?_⟩; conv => whnf) | conv => whnf)) | (refine wordD [⟨#[111, 110, 101]⟩, ⟨#[116, 119, 111]⟩, ⟨#[]⟩, ⟨#[116, 104, 114, 101, 101, 32, 116, 104, 114, 101, 101]⟩, ⟨#[13, 10, 13, 10]⟩, ⟨#[120]⟩] rfl (by assumption) (by first | assumption | exact Sl.mono (by assumption) (by repeat (first | exact PH.Le.refl _ | assumption | (apply PH.Le.trans; · assumption)))) (by decide) (by decide) (by omega) fun x M' hx S' l' => ?_; (first | (refine ⟨⟨[], rfl⟩, _, PH.Le.refl _, bot_le _, ?_⟩; conv => whnf) | (refine ⟨⟨[], rfl⟩, _, l', rm_le _ _, ?_⟩; conv => whnf) | conv => whnf)) | (refine caseB_true ?_; conv => whnf) | (refine caseB_false ?_; conv => whnf) | ((with_reducible refine caseB_dec (fun h => ?_) (fun h => ?_)) <;> conv => whnf) | ((with_reducible refine caseB_ndec (fun h => ?_) (fun h => ?_)) <;> conv => whnf) | ((with_reducible refine caseB_not (fun h => ?_) (fun h => ?_)) <;> conv => whnf) | (with_reducible refine @And.intro (guardVC _ _ _ _ _) _ ?_ ?_) <;> conv => whnf | (refine caseB_intro (fun h => ?_) (fun h => ?_) <;> (try simp only [Bool.not_eq_true', Bool.not_eq_false', decide_eq_true_eq, decide_eq_false_iff_not] at h) <;> conv => whnf))
  intro g1 c1 hg1 hc1
  conv => whnf
  have L : (rm M g).Le (rm M' g) := (by repeat (first | exact PH.Le.refl _ | assumption | (apply PH.Le.trans; · assumption)))
  obtain ⟨o, ho⟩ := S'.has
  have hne : g1 ≠ g := fun e => by rw [e, ho] at hg1; cases hg1
  have l2 := PH.Le.set (.cells (x.data.toList.map (fun (b : UInt8) => Value.int .u8 (b.toNat : Int)) ++ List.replicate (c1 - x.size) (Value.int .u8 0)).toArray 5 (c1, c1 + 1)) hg1
  have hxl : (x.data.toList.map (fun (b : UInt8) => (b.toNat : Int))).length = x.size := by simp
  refine ⟨_, PH.Le.refl _, g1, c1, x.data.toList.map (fun (b : UInt8) => (b.toNat : Int)), by rw [hxl]; rfl, ⟨⟨x.data.toList.map (fun (b : UInt8) => Value.int .u8 (b.toNat : Int)) ++ List.replicate (c1 - x.size) (Value.int .u8 0), ?_, ?_, fun i b hb => ?_⟩, by rw [hxl]; exact hc1⟩, ?_, by rw [hxl]; exact hx, (fun b hb => by obtain ⟨u, _, rfl⟩ := List.mem_map.1 hb; have := u.toNat_lt; omega), S'.to (PH.set_other _ _ (Ne.symm hne)) (rm_mono l2), ?_⟩
  · rw [rm_other hne, PH.set_same]
  · have hs : x.data.toList.length = x.size := by simp
    rw [List.length_append, List.length_map, List.length_replicate, hs]; omega
  · rw [List.getElem?_map] at hb
    rw [List.getElem?_append_left (by rw [List.length_map]; have := (List.getElem?_eq_some_iff.1 (Option.map_eq_some_iff.1 hb).choose_spec.1).1; exact this), List.getElem?_map]
    obtain ⟨u, hu, rfl⟩ := Option.map_eq_some_iff.1 hb
    rw [hu]; rfl
  · exact none_of_le L (by rw [rm_other hne]; exact hg1)
  · exact L.trans (rm_mono l2)
theorem zerosY (n : Nat) : zerosL ti5 n = (List.replicate n (0 : Int)).flatMap byC := by
  show (List.replicate n [Y 0]).flatten = _
  rw [List.flatMap_def, List.map_replicate]
theorem byC_flat (bs' : List Int) : bs'.flatMap byC = bs'.map fun b => (Y b : Value) := by
  induction bs' with
  | nil => rfl
  | cons b r ih => rw [List.flatMap_cons, ih]; rfl
theorem sl_since {R N : PH} {g2 : Nat} {cells : List Value} {ty : TypeId} {fz : Nat × Nat} {bs' : List Int} (hR : R g2 = none) (hN : N g2 = some (.cells cells.toArray ty fz)) (hx : ∀ (i : Nat) b, bs'[i]? = some b → cells[i]? = some (Y b)) : Sl (since R N) (some ⟨g2, 0, none⟩) 1 byC bs' := by
  refine ⟨fun _ => rfl, fun i b hb => ⟨rfl, ⟨g2, 0, none⟩, rfl, fun j v hv => ?_⟩⟩
  have hj : j = 0 := by
    have := (List.getElem?_eq_some_iff.1 hv).1
    simp at this; exact this
  subst hj
  have hv : Y b = v := by simpa using hv
  subst hv
  rw [add_at]
  simp only [PH.cell, since_at hR, hN, Option.isSome_none, Bool.false_eq_true, if_false, List.getElem?_toArray]
  rw [show 0 + (i * 1 + 0) = i by omega]
  exact hx i b hb
/-- Zeros behind the bytes of a text. -/
theorem bodyApp {K : AV → PH → Prop} {R : PH} {g1 c1 : Nat} {bs' : List Int} {e : TypeId} (S : Sx B R M g A c bs) (hb : Bod (rm M g) g1 c1 bs') (hf : R g1 = none) (hl : bs'.length ≤ 80) (n : Nat) (hn : n ≤ 90)
    (hk : ∀ A' c' M', Sl (since R (rm M' g)) A' 1 byC (bs' ++ List.replicate n 0) → Sx B R M' g A c bs → K (.v (.slice A' (bs'.length + n) c')) M') : appVC ti5 e (some ⟨g1, 0, none⟩) bs'.length c1 n (zerosL ti5 n) M K := by
  obtain ⟨cells, hc, hcl, hx⟩ := hb.at_
  have hle := hb.le
  have hne : g1 ≠ g := fun e => by rw [e, rm_none] at hc; cases hc
  have hM : M g1 = some (.cells cells.toArray 5 (c1, c1 + 1)) := by rw [rm_other hne] at hc; exact hc
  have hz := zerosY n
  have hzl : (zerosL ti5 n).length = n := by rw [hz, byC_flat]; simp
  obtain ⟨ko, hko, hk0, hkB⟩ := S.at_
  refine ⟨bs'.map fun b => (Y b : Value), by rw [List.length_map]; exact (Nat.mul_one _).symm, .inr ⟨_, rfl, fun j v hv => ?_⟩, by show _ * 1 ≤ _; omega, by omega, fun hlt g2 c2 hg2 h2 => ?_, fun hfit => ?_⟩
  · rw [List.getElem?_map] at hv
    obtain ⟨b, hb', rfl⟩ := Option.map_eq_some_iff.1 hv
    rw [add_at]
    simp only [PH.cell, hM, Option.isSome_none, Bool.false_eq_true, if_false, List.getElem?_toArray]
    rw [show 0 + (0 + j) = j by omega]
    exact hx j b hb'
  · have hne2 : g2 ≠ g := fun e => by rw [e, hko] at hg2; cases hg2
    have hR2 : R g2 = none := none_of_le S.le (by rw [rm_other hne2]; exact hg2)
    have l2 := PH.Le.set (.cells ((bs'.map fun b => (Y b : Value)) ++ zerosL ti5 n ++ zerosL ti5 (c2 - (bs'.length + n))).toArray e (0, 0)) hg2
    refine hk _ _ _ (sl_since hR2 (by rw [rm_other hne2, PH.set_same]) fun i b hb' => ?_) (S.to (PH.set_other _ _ (Ne.symm hne2)) (rm_mono l2))
    have hlen := (List.getElem?_eq_some_iff.1 hb').1
    rw [hz, ← byC_flat, ← List.flatMap_append, List.getElem?_append_left (by rw [byC_flat, List.length_map]; exact hlen), byC_flat, List.getElem?_map, hb']
    rfl
  · by_cases h0 : n = 0
    · subst h0
      refine .inl ⟨rfl, ?_⟩
      have := hk (some ⟨g1, 0, none⟩) c1 M (by rw [List.replicate_zero, List.append_nil]; exact sl_since hf hc hx) S
      exact this
    · have hsp : bs'.length + (zerosL ti5 n).length ≤ cells.length := by omega
      refine .inr ⟨g1, 0, cells, _, _, rfl, hM, ⟨by show 0 + (_ + n) * 1 ≤ _; omega, .inr (by show 0 + (_ + n) * 1 ≤ _; omega)⟩, List.all_eq_true.2 fun v hv => ?_, hk _ _ _ (sl_since hf (by rw [rm_other hne, PH.set_same]) fun i b hb' => ?_) ⟨⟨ko, by rw [PH.set_other _ _ (Ne.symm hne)]; exact hko, hk0, hkB⟩, fun k o hk' => ?_, S.by_⟩⟩
      · rw [hz] at hv
        obtain ⟨b, _, hv⟩ := List.mem_flatMap.1 hv
        have : v = Y b := by simpa using hv
        subst this; rfl
      · rw [show 0 + bs'.length * ti5.size = bs'.length from by show 0 + bs'.length * 1 = _; omega]
        rw [List.getElem?_append] at hb'
        split at hb'
        · rename_i hlt
          rw [spl_lt (by omega) hlt]
          exact hx i b hb'
        · rename_i hge
          have hi := (List.getElem?_eq_some_iff.1 hb').1
          rw [List.length_replicate] at hi
          have hb0 : b = 0 := by
            rw [List.getElem?_replicate, if_pos hi] at hb'
            exact (Option.some.inj hb').symm
          subst hb0
          rw [show i = bs'.length + (i - bs'.length) by omega, spl_mid (by omega) (by rw [hzl]; omega), hz, byC_flat, List.map_replicate, List.getElem?_replicate, if_pos hi]
      · have hk1 : k ≠ g1 := fun e => by rw [e, hf] at hk'; cases hk'
        have h2 := S.le k o hk'
        have hkg : k ≠ g := fun e => by rw [e, rm_none] at h2; cases h2
        rw [rm_other hkg] at h2 ⊢
        rw [PH.set_other _ _ hk1]; exact h2
set_option maxHeartbeats 4000000 in
theorem l7Draw_ret (S : Sx B M0 M g A c bs) (hB : B ≤ 4294955000) :
    ACall env 180 [P0 g] M fun r M' => ∃ m : Mt, r = m.v ∧ Sx (B + 20) M0 M' g A c bs ∧ (rm M g).Le (rm M' g) := by
  refine xcall_of_vc Tryz.func180 rfl _ Tryz.ntmps180 _ rfl (fun _ _ => Tryz.call180 _ _) rfl (fun w0 ρ0 => ?_)
  conv => whnf
  refine chanceD S (by omega) fun x M1 S1 l1 => ?_
  conv => whnf
  cases x with
  | true =>
    refine caseB_true ?_
    conv => whnf
    refine ACall.step (l1DrawTime_any S1 (by omega)) fun r M2 hh => ?_
    obtain ⟨a1, rfl, S2, l2⟩ := hh
    conv => whnf
    refine ACall.step (l1DrawTime_any S2 (by omega)) fun r M3 hh => ?_
    obtain ⟨a2, rfl, S3, l3⟩ := hh
    conv => whnf
    refine ACall.step (l1DrawTime_any S3 (by omega)) fun r M4 hh => ?_
    obtain ⟨a3, rfl, S4, l4⟩ := hh
    conv => whnf
    refine ACall.step (l1DrawTime_any S4 (by omega)) fun r M5 hh => ?_
    obtain ⟨a4, rfl, S5, l5⟩ := hh
    conv => whnf
    refine ACall.step (l1DrawTime_any S5 (by omega)) fun r M6 hh => ?_
    obtain ⟨a5, rfl, S6, l6⟩ := hh
    conv => whnf
    refine chanceD S6 (by omega) fun x M7 S7 l7 => ?_
    conv => whnf
    exact ⟨_, PH.Le.refl _, ⟨_, _, _, _, _, _, _⟩, rfl, S7.below (by omega), ((((((l1.trans l2).trans l3).trans l4).trans l5).trans l6).trans l7)⟩
  | false =>
    refine caseB_false ?_
    clear S
    conv => whnf
    repeat' (first | (refine ⟨⟨[], rfl⟩, _, PH.Le.refl _, PH.Le.refl _, ?_⟩; conv => whnf) | (intro g' hg'; obtain ⟨M', hM, S', l', s'⟩ := buildF (cs := [I (0), I (2000), I (4000)]) (t := 2) [0, 2000, 4000] rfl (by assumption) hg'; rw [← hM]; clear hM; (first | (refine ⟨⟨[], rfl⟩, _, PH.Le.refl _, bot_le _, ?_⟩; conv => whnf) | (refine ⟨⟨[], rfl⟩, _, l', rm_le _ _, ?_⟩; conv => whnf) | conv => whnf)) | (refine pickD [0, 2000, 4000] rfl (by assumption) (by first | assumption | exact Sl.mono (by assumption) (by repeat (first | exact PH.Le.refl _ | assumption | (apply PH.Le.trans; · assumption)))) (by simp) (by omega) fun x M' hx S' l' => ?_; (first | (refine ⟨⟨[], rfl⟩, _, PH.Le.refl _, bot_le _, ?_⟩; conv => whnf) | (refine ⟨⟨[], rfl⟩, _, l', rm_le _ _, ?_⟩; conv => whnf) | conv => whnf)) | (intro g' hg'; obtain ⟨M', hM, S', l', s'⟩ := buildF (cs := [I (0), I (1000), I (3000)]) (t := 2) [0, 1000, 3000] rfl (by assumption) hg'; rw [← hM]; clear hM; (first | (refine ⟨⟨[], rfl⟩, _, PH.Le.refl _, bot_le _, ?_⟩; conv => whnf) | (refine ⟨⟨[], rfl⟩, _, l', rm_le _ _, ?_⟩; conv => whnf) | conv => whnf)) | (refine pickD [0, 1000, 3000] rfl (by assumption) (by first | assumption | exact Sl.mono (by assumption) (by repeat (first | exact PH.Le.refl _ | assumption | (apply PH.Le.trans; · assumption)))) (by simp) (by omega) fun x M' hx S' l' => ?_; (first | (refine ⟨⟨[], rfl⟩, _, PH.Le.refl _, bot_le _, ?_⟩; conv => whnf) | (refine ⟨⟨[], rfl⟩, _, l', rm_le _ _, ?_⟩; conv => whnf) | conv => whnf)) | (intro g' hg'; obtain ⟨M', hM, S', l', s'⟩ := buildF (cs := [I (0), I (1000), I (2000), I (5000)]) (t := 2) [0, 1000, 2000, 5000] rfl (by assumption) hg'; rw [← hM]; clear hM; (first | (refine ⟨⟨[], rfl⟩, _, PH.Le.refl _, bot_le _, ?_⟩; conv => whnf) | (refine ⟨⟨[], rfl⟩, _, l', rm_le _ _, ?_⟩; conv => whnf) | conv => whnf)) | (refine pickD [0, 1000, 2000, 5000] rfl (by assumption) (by first | assumption | exact Sl.mono (by assumption) (by repeat (first | exact PH.Le.refl _ | assumption | (apply PH.Le.trans; · assumption)))) (by simp) (by omega) fun x M' hx S' l' => ?_; (first | (refine ⟨⟨[], rfl⟩, _, PH.Le.refl _, bot_le _, ?_⟩; conv => whnf) | (refine ⟨⟨[], rfl⟩, _, l', rm_le _ _, ?_⟩; conv => whnf) | conv => whnf)) | (intro g' hg'; obtain ⟨M', hM, S', l', s'⟩ := buildF (cs := [I (0), I (0), I (500), I (1000)]) (t := 2) [0, 0, 500, 1000] rfl (by assumption) hg'; rw [← hM]; clear hM; (first | (refine ⟨⟨[], rfl⟩, _, PH.Le.refl _, bot_le _, ?_⟩; conv => whnf) | (refine ⟨⟨[], rfl⟩, _, l', rm_le _ _, ?_⟩; conv => whnf) | conv => whnf)) | (refine pickD [0, 0, 500, 1000] rfl (by assumption) (by first | assumption | exact Sl.mono (by assumption) (by repeat (first | exact PH.Le.refl _ | assumption | (apply PH.Le.trans; · assumption)))) (by simp) (by omega) fun x M' hx S' l' => ?_; (first | (refine ⟨⟨[], rfl⟩, _, PH.Le.refl _, bot_le _, ?_⟩; conv => whnf) | (refine ⟨⟨[], rfl⟩, _, l', rm_le _ _, ?_⟩; conv => whnf) | conv => whnf)) | (refine chanceD (by assumption) (by omega) fun x M' S' l' => ?_; (first | (refine ⟨⟨[], rfl⟩, _, PH.Le.refl _, bot_le _, ?_⟩; conv => whnf) | (refine ⟨⟨[], rfl⟩, _, l', rm_le _ _, ?_⟩; conv => whnf) | conv => whnf)) | (refine nextD (900) (by assumption) (by omega) fun x M' hx S' l' => ?_; (first | (refine ⟨⟨[], rfl⟩, _, PH.Le.refl _, bot_le _, ?_⟩; conv => whnf) | (refine ⟨⟨[], rfl⟩, _, l', rm_le _ _, ?_⟩; conv => whnf) | conv => whnf)) | (refine caseB_true ?_; conv => whnf) | (refine caseB_false ?_; conv => whnf) | ((with_reducible refine caseB_dec (fun h => ?_) (fun h => ?_)) <;> conv => whnf) | ((with_reducible refine caseB_ndec (fun h => ?_) (fun h => ?_)) <;> conv => whnf) | ((with_reducible refine caseB_not (fun h => ?_) (fun h => ?_)) <;> conv => whnf) | (with_reducible refine @And.intro (guardVC _ _ _ _ _) _ ?_ ?_) <;> conv => whnf | (refine caseB_intro (fun h => ?_) (fun h => ?_) <;> (try simp only [Bool.not_eq_true', Bool.not_eq_false', decide_eq_true_eq, decide_eq_false_iff_not] at h) <;> conv => whnf))
    exact ⟨_, PH.Le.refl _, ⟨_, _, _, _, _, _, _⟩, rfl, Sx.below (by assumption) (by omega), (by repeat (first | exact PH.Le.refl _ | assumption | (apply PH.Le.trans; · assumption)))⟩
set_option maxHeartbeats 4000000 in
theorem l7Bent_ret (S : Sx B M0 M g A c bs) (hB : B ≤ 4294950000) :
    ACall env 152 [P0 g] M fun r M' => ∃ m : Mt, r = m.v ∧ Sx (B + 30) M0 M' g A c bs ∧ (rm M g).Le (rm M' g) := by
  refine xcall_of_vc Tryz.func152 rfl _ Tryz.ntmps152 _ rfl (fun _ _ => Tryz.call152 _ _) rfl (fun w0 ρ0 => ?_)
  conv => whnf
  refine ACall.step (l7Draw_ret S (by omega)) fun r M1 hh => ?_
  obtain ⟨m, rfl, S1, l1⟩ := hh
  clear S
  conv => whnf
  refine nextD 20 S1 (by omega) fun x M2 _ S2 l2 => ?_
  clear S1
  conv => whnf
  repeat' (first | (refine ⟨⟨[], rfl⟩, _, PH.Le.refl _, PH.Le.refl _, ?_⟩; conv => whnf) | (refine caseB_true ?_; conv => whnf) | (refine caseB_false ?_; conv => whnf) | ((with_reducible refine caseB_dec (fun h => ?_) (fun h => ?_)) <;> conv => whnf) | ((with_reducible refine caseB_ndec (fun h => ?_) (fun h => ?_)) <;> conv => whnf) | ((with_reducible refine caseB_not (fun h => ?_) (fun h => ?_)) <;> conv => whnf) | (with_reducible refine @And.intro (guardVC _ _ _ _ _) _ ?_ ?_) <;> conv => whnf | (refine caseB_intro (fun h => ?_) (fun h => ?_) <;> (try simp only [Bool.not_eq_true', Bool.not_eq_false', decide_eq_true_eq, decide_eq_false_iff_not] at h) <;> conv => whnf))
  · exact ⟨_, PH.Le.refl _, ⟨-1, m.age, m.life, m.swr, m.sie, m.soft, m.noc⟩, rfl, S2.below (by omega), l1.trans l2⟩
  · exact ⟨_, PH.Le.refl _, ⟨m.at_, 1000000000000001, m.life, m.swr, m.sie, m.soft, m.noc⟩, rfl, S2.below (by omega), l1.trans l2⟩
  · exact ⟨_, PH.Le.refl _, ⟨m.at_, m.age, m.life, m.swr, -1, m.soft, m.noc⟩, rfl, S2.below (by omega), l1.trans l2⟩
  · exact ⟨_, PH.Le.refl _, m, rfl, S2.below (by omega), l1.trans l2⟩
theorem bytesOk_zeros {l : List Int} (h : bytesOk l) (n : Nat) : bytesOk (l ++ List.replicate n 0) := fun b hb => by
  rcases List.mem_append.1 hb with hb | hb
  · exact h b hb
  · rw [List.eq_of_mem_replicate hb]; decide
theorem costHd (ws : List Hd) (h : HdS ws) : costL Hd.cost ws ≤ ws.length * 161 := by
  unfold costL
  induction ws with
  | nil => simp
  | cons x r ih =>
    have h1 := h x List.mem_cons_self
    have h2 := ih fun y hy => h y (List.mem_cons_of_mem _ hy)
    simp only [List.map_cons, List.sum_cons, List.length_cons]
    have : Hd.cost x = x.n.size + x.v.size := rfl
    omega
set_option maxHeartbeats 4000000 in
theorem l8Entry_ret (S : Sx B M0 M g A c bs) (hB : B ≤ 4294940000) :
    ACall env 150 [P0 g] M fun r M' => ∃ y : EnA, r = y.val ∧ y.inn (since (rm M g) (rm M' g)) ∧ y.c.cost ≤ 1200 ∧ y.c.key ≠ ByteArray.empty ∧ bytesOk y.c.body ∧ Sx (B + 120) M0 M' g A c bs ∧ (rm M g).Le (rm M' g) := by
  refine xcall_of_vc Tryz.func150 rfl _ Tryz.ntmps150 _ rfl (fun _ _ => Tryz.call150 _ _) rfl (fun w0 ρ0 => ?_)
  conv => whnf
  refine ACall.step (l8Key_ret S (by omega)) fun r M1 hh => ?_
  obtain ⟨k, rfl, hk, S1, l1⟩ := hh
  conv => whnf
  intro g2 hg2
  obtain ⟨M2, hM, S2, l2, s2⟩ := buildF (cs := [I 200, I 200, I 404, I 410]) (t := 2) [200, 200, 404, 410] rfl S1 hg2
  rw [← hM]; clear hM
  conv => whnf
  refine pickD [200, 200, 404, 410] rfl S2 s2 (by simp) (by omega) fun st M3 _ S3 l3 => ?_
  conv => whnf
  refine nextD 3 S3 (by omega) fun n M4 hn S4 l4 => ?_
  have hn := hn (by omega)
  conv => whnf
  refine ACall.step (l4Draw_ret n hn.1 (by omega) S4 (by omega)) fun r M5 hh => ?_
  obtain ⟨o5, A5, c5, hs, rfl, N5, hl5, hz5, S5, l5⟩ := hh
  have L5 := (((l1.trans l2).trans l3).trans l4).trans l5
  have L4 := ((l1.trans l2).trans l3).trans l4
  have T5 := S5.now
  conv => whnf
  refine ACall.step (l5Body_ret T5 (by omega)) fun r M6 hh => ?_
  obtain ⟨g6, c6, bd, rfl, B6, f6, hb6, hbo6, S6, l6⟩ := hh
  conv => whnf
  intro g7 hg7
  obtain ⟨M7, hM, S7, l7, s7⟩ := buildF (cs := [I 0, I 0, I 40, I 90]) (t := 2) [0, 0, 40, 90] rfl S6 hg7
  rw [← hM]; clear hM
  conv => whnf
  refine pickD [0, 0, 40, 90] rfl S7 s7 (by simp) (by omega) fun z M8 hz S8 l8 => ?_
  have hz2 : 0 ≤ z ∧ z ≤ 90 := by
    simp only [List.mem_cons, List.not_mem_nil, or_false] at hz
    omega
  conv => whnf
  refine ⟨⟨by omega, by omega⟩, ?_⟩
  have B8 : Bod (rm M8 g) g6 c6 bd := ⟨by
    obtain ⟨cells, h1, h2⟩ := B6.at_
    exact ⟨cells, (l7.trans l8) _ _ h1, h2⟩, B6.le⟩
  refine bodyApp S8 B8 f6 hb6 z.toNat (by omega) fun A9 c9 M9 s9 S9 => ?_
  conv => whnf
  have U9 := S5.back S9
  have L9 := S9.le
  refine ACall.step (l7Draw_ret U9 (by omega)) fun r M10 hh => ?_
  obtain ⟨m, rfl, S10, l10⟩ := hh
  conv => whnf
  intro g11 hg11
  obtain ⟨M11, hM, S11, l11, s11⟩ := buildW (cs := [Tx ⟨#[97]⟩, Tx ⟨#[98]⟩, Tx ⟨#[99]⟩]) (t := 9) [⟨#[97]⟩, ⟨#[98]⟩, ⟨#[99]⟩] rfl S10 hg11
  rw [← hM]; clear hM
  conv => whnf
  refine wordD [⟨#[97]⟩, ⟨#[98]⟩, ⟨#[99]⟩] rfl S11 s11 (by decide) (by decide) (by omega) fun tg M12 htg S12 l12 => ?_
  conv => whnf
  have R11 := ((L5.trans L9).trans l10).trans l11
  intro g13 hg13
  obtain ⟨M13, hM, S13, l13, n13⟩ := rowF (cs := [Tx tg]) (t := 9) tg st_len rfl S12.now hg13
  rw [← hM]; clear hM
  conv => whnf
  have V13 := S12.back S13
  intro g14 hg14
  obtain ⟨M14, hM, S14, l14, s14⟩ := buildF (cs := [I 0, I 0, I 0, I 1]) (t := 2) [0, 0, 0, 1] rfl V13 hg14
  rw [← hM]; clear hM
  conv => whnf
  refine pickD [0, 0, 0, 1] rfl S14 s14 (by simp) (by omega) fun p M15 _ S15 l15 => ?_
  conv => whnf
  have lA : (rm M5 g).Le (rm M15 g) := (((((L9.trans l10).trans l11).trans l12).trans l13).trans l14).trans l15
  have lB : (rm M9 g).Le (rm M15 g) := ((((l10.trans l11).trans l12).trans l13).trans l14).trans l15
  have L12 := R11.trans l12
  refine ⟨_, PH.Le.refl _, ⟨⟨k, st, hs, bd ++ List.replicate z.toNat 0, m, [tg], p⟩, A5, c5, A9, c9, some ⟨g13, 0, none⟩, 1⟩, ?_, ⟨?_, ?_, ?_⟩, ?_, ?_, bytesOk_zeros hbo6 _, S15.below (by omega), L5.trans lA⟩
  · simp [resV]
  · exact ((N5.since Hd.len).mono (since_from L4)).mono (since_mono lA)
  · exact (s9.mono (since_from L5)).mono (since_mono lB)
  · exact ((n13.since st_len).mono (since_from L12)).mono (since_mono (l14.trans l15))
  · have hc := costHd hs hz5
    have hl : hs.length ≤ 3 := by omega
    have ht : tg.size ≤ 80 := htg
    show k.size + costL Hd.cost hs + (bd ++ List.replicate z.toNat 0).length + costL stSz [tg] ≤ 1200
    have e1 : costL stSz [tg] = 1 + tg.size := by simp [costL, stSz]
    have e2 : (bd ++ List.replicate z.toNat 0).length = bd.length + z.toNat := by simp
    have hk2 := hk.2
    omega
  · intro e
    have : k.size = 0 := by rw [show k = ByteArray.empty from e]; rfl
    omega
end
section
variable {B : Int} {g g' : Nat} {M0 M : PH} {A : Option Addr} {c : Nat} {bs : List Int}
theorem l1Long_ret (t : ByteArray) (S : Sx B M0 M g A c bs) (hB : B ≤ 4294940000) (ht : t.size ≤ 80) :
    ACall env 181 [P0 g, Tx t] M fun r M' => ∃ x, r = Tx x ∧ (1000 ≤ x.size ∧ x.size ≤ 1001) ∧ Sx (B + 1100) M0 M' g A c bs ∧ (rm M g).Le (rm M' g) := by
  refine xcall_of_vc Tryz.func181 rfl _ Tryz.ntmps181 _ rfl (fun _ _ => Tryz.call181 _ _) rfl (fun w0 ρ0 => ?_)
  conv => whnf
  refine loop_rule (fun z : ByteArray × Int => ⟨slots 14 [(0, .v (P0 g)), (1, .v (Tx z.1))], []⟩) (fun z M' => z.1.size ≤ 1001 ∧ 0 ≤ z.2 ∧ z.2 ≤ z.1.size ∧ Sx (B + z.2) M0 M' g A c bs ∧ (rm M g).Le (rm M' g)) (fun z => 1002 - z.1.size) (t, 0) ?_ ?_ ?_
  · exact ⟨by simp [slots, leT], ⟨[], rfl⟩, Nat.zero_le _, rfl, rfl⟩
  · exact ⟨by show t.size ≤ 1001; omega, Int.le_refl _, by show (0 : Int) ≤ t.size; omega, S.below (by show B ≤ B + 0; omega), PH.Le.refl _⟩
  rintro ⟨u, b⟩ M1 ⟨h1, h2, h3, S1, l1⟩
  have h1 : u.size ≤ 1001 := h1
  have h2 : 0 ≤ b := h2
  have h3 : b ≤ u.size := h3
  have S1 : Sx (B + b) M0 M1 g A c bs := S1
  have l1 : (rm M g).Le (rm M1 g) := l1
  conv => whnf
  intro g2 hg2
  obtain ⟨M2, hM, S2, l2, s2⟩ := buildF (cs := [I 1000, I 1001]) (t := 2) [1000, 1001] rfl S1 hg2
  rw [← hM]; clear hM
  conv => whnf
  refine pickD [1000, 1001] rfl S2 s2 (by simp) (by omega) fun x M3 hx S3 l3 => ?_
  have hx2 : 1000 ≤ x ∧ x ≤ 1001 := by
    simp only [List.mem_cons, List.not_mem_nil, or_false] at hx
    omega
  conv => whnf
  refine caseB_dec (fun h => ?_) (fun h => ?_)
  · have h : (u.size : Int) < x := h
    conv => whnf
    refine ⟨cat_fits' (by show u.size + 1 ≤ _; omega), ?_⟩
    conv => whnf
    have hs : (u ++ (⟨#[32]⟩ : ByteArray)).size = u.size + 1 := by rw [ByteArray.size_append]; rfl
    refine ⟨(u ++ ⟨#[32]⟩, b + 1), ⟨by simp [slots, leT], ⟨[], rfl⟩, Nat.zero_le _, rfl, rfl⟩, ⟨by show (u ++ (⟨#[32]⟩ : ByteArray)).size ≤ 1001; omega, by show 0 ≤ b + 1; omega, by show b + 1 ≤ ((u ++ (⟨#[32]⟩ : ByteArray)).size : Nat); omega, S3.below (by show B + b + 1 ≤ B + (b + 1); omega), (l1.trans l2).trans l3⟩, by show 1002 - (u ++ (⟨#[32]⟩ : ByteArray)).size < 1002 - u.size; omega⟩
  · have h : ¬ (u.size : Int) < x := h
    conv => whnf
    exact ⟨_, PH.Le.refl _, u, rfl, ⟨by omega, h1⟩, S3.below (by omega), (l1.trans l2).trans l3⟩
abbrev HdB (ws : List Hd) : Prop := ∀ x ∈ ws, x.n.size ≤ 300 ∧ x.v.size ≤ 300
theorem HdS.big {ws : List Hd} (h : HdS ws) : HdB ws := fun x hx => ⟨by have := (h x hx).1; omega, by have := (h x hx).2; omega⟩
theorem HdB.snoc {ws : List Hd} {x : Hd} (h : HdB ws) (hn : x.n.size ≤ 300) (hv : x.v.size ≤ 300) : HdB (ws ++ [x]) := fun y hy => by
  rcases List.mem_append.1 hy with hy | hy
  · exact h y hy
  · have : y = x := by simpa using hy
    subst this; exact ⟨hn, hv⟩
/-- A head line more, beside the source. -/
theorem hdApp {K : AV → PH → Prop} {R : PH} {o : Option Nat} {C : Option Addr} {d : Nat} {ws : List Hd} {e : TypeId} {g2 : Nat} {t : TypeId} (x : Hd) (S : Sx B R M g A c bs) (N : New R (rm M g) o C d 2 Hd.cs ws) (hl : ws.length ≤ 1000) (hg2 : M g2 = none)
    (hk : ∀ o' C' d' M', New R (rm M' g) o' C' d' 2 Hd.cs (ws ++ [x]) → Sx B R M' g A c bs → K (.v (.slice C' (ws ++ [x]).length d')) M') :
    ∃ news : List Value, news.length = 1 * ti148.size ∧ ((1 : Nat) = 0 ∨ (M.set g2 (.cells #[Tx x.n, Tx x.v] t (0, 0))).cells (some ⟨g2, 0, none⟩) 0 news) ∧ appVC ti148 e C ws.length d 1 news (M.set g2 (.cells #[Tx x.n, Tx x.v] t (0, 0))) K := by
  obtain ⟨M4, hM, S4, l4, n4⟩ := rowF (cs := [Tx x.n, Tx x.v]) (t := t) x Hd.len rfl S hg2
  have hM : M4 = M.set g2 (.cells #[Tx x.n, Tx x.v] t (0, 0)) := hM
  rw [← hM]
  exact appendD (te := ti148) (f := Hd.cs) (xs := ws) (ys := [x]) S4 (n4.ow.sl Hd.len) (N.to l4) Hd.len Hd_one rfl (hd_fits1 _ _ (by omega)) (by show _ + 1 ≤ _; omega) fun o' C' d' M' N' S' _ => hk o' C' d' M' N' S'
set_option maxHeartbeats 8000000 in
theorem l4Bent_ret (S : Sx B M0 M g A c bs) (hB : B ≤ 4294930000) :
    ACall env 151 [P0 g] M fun r M' => ∃ o A' c' ws, r = .slice A' ws.length c' ∧ New (rm M g) (rm M' g) o A' c' 2 Hd.cs ws ∧ ws.length ≤ 30 ∧ HdB ws ∧ Sx (B + 2000) M0 M' g A c bs ∧ (rm M g).Le (rm M' g) := by
  refine xcall_of_vc Tryz.func151 rfl _ Tryz.ntmps151 _ rfl (fun _ _ => Tryz.call151 _ _) rfl (fun w0 ρ0 => ?_)
  conv => whnf
  have T := S.now
  intro g1 hg1
  obtain ⟨M1, hM, S1, l1, s1⟩ := buildF (cs := [I 0, I 1, I 2, I 3, I 5]) (t := 2) [0, 1, 2, 3, 5] rfl T hg1
  rw [← hM]; clear hM
  conv => whnf
  refine pickD [0, 1, 2, 3, 5] rfl S1 s1 (by simp) (by omega) fun n M2 hn S2 l2 => ?_
  have hn2 : 0 ≤ n ∧ n ≤ 5 := by
    simp only [List.mem_cons, List.not_mem_nil, or_false] at hn
    omega
  conv => whnf
  refine ACall.step (l4Draw_ret n hn2.1 (by omega) S2 (by omega)) fun r M3 hh => ?_
  obtain ⟨o, C, d, ws, rfl, N3, hl, hz, S3, l3⟩ := hh
  have N3 := N3.from (l1.trans l2)
  have hz := hz.big
  have hl : ws.length ≤ 5 := by omega
  clear T S1 S2 s1
  conv => whnf
  refine nextD 20 S3 (by omega) fun x M4 _ S4 l4 => ?_
  have N4 := N3.to l4
  clear S3 N3
  conv => whnf
  repeat' (first | (refine ⟨⟨[], rfl⟩, _, PH.Le.refl _, PH.Le.refl _, ?_⟩; conv => whnf) | (refine caseB_true ?_; conv => whnf) | (refine caseB_false ?_; conv => whnf) | ((with_reducible refine caseB_dec (fun h => ?_) (fun h => ?_)) <;> conv => whnf) | ((with_reducible refine caseB_ndec (fun h => ?_) (fun h => ?_)) <;> conv => whnf) | ((with_reducible refine caseB_not (fun h => ?_) (fun h => ?_)) <;> conv => whnf) | (with_reducible refine @And.intro (guardVC _ _ _ _ _) _ ?_ ?_) <;> conv => whnf | (refine caseB_intro (fun h => ?_) (fun h => ?_) <;> (try simp only [Bool.not_eq_true', Bool.not_eq_false', decide_eq_true_eq, decide_eq_false_iff_not] at h) <;> conv => whnf))
  · intro g2 hg2
    obtain ⟨M5, hM, S5, l5, s5⟩ := buildW (cs := [Tx ⟨#[]⟩, Tx ⟨#[97, 32, 98]⟩, Tx ⟨#[120, 58]⟩]) (t := 9) [⟨#[]⟩, ⟨#[97, 32, 98]⟩, ⟨#[120, 58]⟩] rfl S4 hg2
    rw [← hM]; clear hM
    conv => whnf
    refine wordD [⟨#[]⟩, ⟨#[97, 32, 98]⟩, ⟨#[120, 58]⟩] rfl S5 s5 (by decide) (by decide) (by omega) fun t M6 ht S6 l6 => ?_
    conv => whnf
    intro g3 hg3
    refine hdApp ⟨t, ⟨#[118]⟩⟩ S6 (N4.to (l5.trans l6)) (by omega) hg3 fun o7 C7 d7 M7 N7 S7 => ?_
    conv => whnf
    exact ⟨_, PH.Le.refl _, o7, C7, d7, _, rfl, N7, by simp; omega, hz.snoc (Nat.le_trans ht (by decide)) (by dsimp only; decide), S.back (S7.below (by omega)), N7.le⟩
  · intro g2 hg2
    obtain ⟨M5, hM, S5, l5, s5⟩ := buildW (cs := [Tx ⟨#[32, 118]⟩, Tx ⟨#[118, 9]⟩, Tx ⟨#[1]⟩, Tx ⟨#[10]⟩]) (t := 9) [⟨#[32, 118]⟩, ⟨#[118, 9]⟩, ⟨#[1]⟩, ⟨#[10]⟩] rfl S4 hg2
    rw [← hM]; clear hM
    conv => whnf
    refine wordD [⟨#[32, 118]⟩, ⟨#[118, 9]⟩, ⟨#[1]⟩, ⟨#[10]⟩] rfl S5 s5 (by decide) (by decide) (by omega) fun t M6 ht S6 l6 => ?_
    conv => whnf
    intro g3 hg3
    refine hdApp ⟨⟨#[120]⟩, t⟩ S6 (N4.to (l5.trans l6)) (by omega) hg3 fun o7 C7 d7 M7 N7 S7 => ?_
    conv => whnf
    exact ⟨_, PH.Le.refl _, o7, C7, d7, _, rfl, N7, by simp; omega, hz.snoc (by dsimp only; decide) (Nat.le_trans ht (by decide)), S.back (S7.below (by omega)), N7.le⟩
  · refine ACall.step (l1Long_ret ⟨#[118]⟩ S4 (by omega) (by decide)) fun r M5 hh => ?_
    obtain ⟨t, rfl, ht, S5, l5⟩ := hh
    conv => whnf
    intro g2 hg2
    obtain ⟨M6, hM, S6, l6, s6⟩ := buildF (cs := [I 200, I 201]) (t := 2) [200, 201] rfl S5 hg2
    rw [← hM]; clear hM
    conv => whnf
    refine pickD [200, 201] rfl S6 s6 (by simp) (by omega) fun y M7 hy S7 l7 => ?_
    have hy2 : 0 ≤ y ∧ y ≤ 201 := by
      simp only [List.mem_cons, List.not_mem_nil, or_false] at hy
      omega
    conv => whnf
    refine ⟨⟨by omega, by omega, by omega⟩, ?_⟩
    conv => whnf
    refine ⟨?_, ?_⟩
    · have : IntKind.i64.max = 9223372036854775807 := by decide
      rw [this]
      show (((ByteArray.extract _ _ _).size + 1 : Nat) : Int) ≤ _
      rw [ByteArray.size_extract]
      omega
    conv => whnf
    intro g3 hg3
    refine hdApp ⟨⟨#[120]⟩, _⟩ S7 (N4.to ((l5.trans l6).trans l7)) (by omega) hg3 fun o8 C8 d8 M8 N8 S8 => ?_
    conv => whnf
    refine ⟨_, PH.Le.refl _, o8, C8, d8, _, rfl, N8, by simp; omega, hz.snoc (by dsimp only; decide) ?_, S.back (S8.below (by omega)), N8.le⟩
    dsimp only
    rw [ByteArray.size_append, ByteArray.size_extract]
    show _ + 1 ≤ 300
    omega
  · intro g2 hg2
    obtain ⟨M5, hM, S5, l5, s5⟩ := buildF (cs := [I 20, I 21]) (t := 2) [20, 21] rfl S4 hg2
    rw [← hM]; clear hM
    conv => whnf
    refine pickD [20, 21] rfl S5 s5 (by simp) (by omega) fun y M6 hy S6 l6 => ?_
    have hy2 : 0 ≤ y ∧ y ≤ 21 := by
      simp only [List.mem_cons, List.not_mem_nil, or_false] at hy
      omega
    conv => whnf
    refine loop_rule (fun z : E4 => ⟨slots 76 [(0, .v (P0 g)), (2, .v (.slice none 0 0)), (3, .v (.slice z.2.2.1 z.2.2.2.2.1.length z.2.2.2.1)), (4, .v (I y))], []⟩)
      (fun z M' => z.1 = z.2.2.2.2.1.length ∧ z.1 ≤ 21 ∧ New (rm M g) (rm M' g) z.2.1 z.2.2.1 z.2.2.2.1 2 Hd.cs z.2.2.2.2.1 ∧ HdB z.2.2.2.2.1 ∧ z.2.2.2.2.2 ≤ B + 300 + 3 * z.1 ∧ Sx z.2.2.2.2.2 (rm M g) M' g A c bs) (fun z => 30 - z.1) (ws.length, o, C, d, ws, B + 300) ?_ ?_ ?_
    · exact ⟨by simp [slots, leT], ⟨[], rfl⟩, Nat.zero_le _, rfl, rfl⟩
    · exact ⟨rfl, by show ws.length ≤ 21; omega, N4.to (l5.trans l6), hz, by show B + 300 ≤ B + 300 + 3 * _; omega, S6.below (by show _ ≤ B + 300; omega)⟩
    rintro ⟨i, o7, C7, d7, us, B7⟩ M7 ⟨hi, hi2, N7, hz7, hB7, S7⟩
    have hi : i = us.length := hi
    have hi2 : i ≤ 21 := hi2
    have N7 : New (rm M g) (rm M7 g) o7 C7 d7 2 Hd.cs us := N7
    have hz7 : HdB us := hz7
    have hB7 : B7 ≤ B + 300 + 3 * i := hB7
    have S7 : Sx B7 (rm M g) M7 g A c bs := S7
    conv => whnf
    refine caseB_dec (fun hb => ?_) (fun hb => ?_)
    · have hb : (us.length : Int) < y := hb
      conv => whnf
      refine ACall.step (l4DrawLine_ret S7 (by omega)) fun r M8 hh => ?_
      obtain ⟨x, rfl, hx, S8, l8⟩ := hh
      conv => whnf
      intro g3 hg3
      refine hdApp x S8 (N7.to l8) (by omega) hg3 fun o9 C9 d9 M9 N9 S9 => ?_
      conv => whnf
      exact ⟨(i + 1, o9, C9, d9, us ++ [x], B7 + 3), ⟨by simp [slots, leT], ⟨[], rfl⟩, Nat.zero_le _, rfl, rfl⟩, ⟨by show i + 1 = (us ++ [x]).length; simp; omega, by show i + 1 ≤ 21; omega, N9, hz7.snoc (by omega) (by omega), by show B7 + 3 ≤ B + 300 + 3 * ((i + 1 : Nat) : Int); omega, S9⟩, by show 30 - (i + 1) < 30 - i; omega⟩
    · conv => whnf
      exact ⟨_, PH.Le.refl _, o7, C7, d7, us, rfl, N7, by omega, hz7, S.back (S7.below (by omega)), N7.le⟩
  · intro g2 hg2
    obtain ⟨M5, hM, S5, l5, s5⟩ := buildF (cs := [I 200, I 201]) (t := 2) [200, 201] rfl S4 hg2
    rw [← hM]; clear hM
    conv => whnf
    refine pickD [200, 201] rfl S5 s5 (by simp) (by omega) fun y M6 hy S6 l6 => ?_
    have hy2 : 0 ≤ y ∧ y ≤ 201 := by
      simp only [List.mem_cons, List.not_mem_nil, or_false] at hy
      omega
    conv => whnf
    refine loop_rule (fun z : ByteArray => ⟨slots 76 [(0, .v (P0 g)), (2, .v (.slice none 0 0)), (3, .v (.slice C ws.length d)), (5, .v (Tx z)), (6, .v (I y))], []⟩)
      (fun z M' => z.size ≤ 201 ∧ M' = M6) (fun z => 300 - z.size) ByteArray.empty ?_ ?_ ?_
    · exact ⟨by simp [slots, leT]; rfl, ⟨[], rfl⟩, Nat.zero_le _, rfl, rfl⟩
    · exact ⟨Nat.zero_le _, rfl⟩
    rintro t M7 ⟨ht, rfl⟩
    conv => whnf
    refine caseB_dec (fun hb => ?_) (fun hb => ?_)
    · have hb : (t.size : Int) < y := hb
      conv => whnf
      refine ⟨cat_fits' (by show t.size + 1 ≤ _; omega), ?_⟩
      conv => whnf
      have hs : (t ++ (⟨#[119]⟩ : ByteArray)).size = t.size + 1 := by rw [ByteArray.size_append]; rfl
      exact ⟨t ++ ⟨#[119]⟩, ⟨by simp [slots, leT], ⟨[], rfl⟩, Nat.zero_le _, rfl, rfl⟩, ⟨by omega, rfl⟩, by omega⟩
    · conv => whnf
      intro g3 hg3
      refine hdApp ⟨⟨#[120]⟩, t⟩ S6 (N4.to (l5.trans l6)) (by omega) hg3 fun o8 C8 d8 M8 N8 S8 => ?_
      conv => whnf
      exact ⟨_, PH.Le.refl _, o8, C8, d8, _, rfl, N8, by simp; omega, hz.snoc (by dsimp only; decide) (by dsimp only; omega), S.back (S8.below (by omega)), N8.le⟩
  · exact ⟨_, PH.Le.refl _, o, C, d, ws, rfl, N4, by omega, hz, S.back (S4.below (by omega)), N4.le⟩
theorem costHdB (ws : List Hd) (h : HdB ws) : costL Hd.cost ws ≤ ws.length * 601 := by
  unfold costL
  induction ws with
  | nil => simp
  | cons x r ih =>
    have h1 := h x List.mem_cons_self
    have h2 := ih fun y hy => h y (List.mem_cons_of_mem _ hy)
    simp only [List.map_cons, List.sum_cons, List.length_cons]
    have : Hd.cost x = x.n.size + x.v.size := rfl
    omega
theorem En.cost_eq (e : En) : e.cost = e.key.size + costL Hd.cost e.hs + e.body.length + costL stSz e.tags := rfl
theorem inn_since {R N N' : PH} {y : EnA} (h : y.inn (since R N)) (l : N.Le N') : y.inn (since R N') := h.mono (since_mono l)
set_option maxHeartbeats 8000000 in
theorem l8BentEntry_ret (S : Sx B M0 M g A c bs) (hB : B ≤ 4294920000) :
    ACall env 100 [P0 g] M fun r M' => ∃ y : EnA, r = y.val ∧ y.inn (since (rm M g) (rm M' g)) ∧ y.c.cost ≤ 30000 ∧ bytesOk y.c.body ∧ Sx (B + 3000) M0 M' g A c bs ∧ (rm M g).Le (rm M' g) := by
  refine xcall_of_vc Tryz.func100 rfl _ Tryz.ntmps100 _ rfl (fun _ _ => Tryz.call100 _ _) rfl (fun w0 ρ0 => ?_)
  conv => whnf
  refine ACall.step (l8Entry_ret S (by omega)) fun r M1 hh => ?_
  obtain ⟨y, rfl, hy, hc, hk, hyb, S1, l1⟩ := hh
  have hce := En.cost_eq y.c
  clear S
  conv => whnf
  refine nextD 18 S1 (by omega) fun x M2 _ S2 l2 => ?_
  clear S1
  have hy2 := inn_since hy l2
  have L2 := l1.trans l2
  conv => whnf
  repeat' (first | (refine ⟨⟨[], rfl⟩, _, PH.Le.refl _, PH.Le.refl _, ?_⟩; conv => whnf) | (refine caseB_true ?_; conv => whnf) | (refine caseB_false ?_; conv => whnf) | ((with_reducible refine caseB_dec (fun h => ?_) (fun h => ?_)) <;> conv => whnf) | ((with_reducible refine caseB_ndec (fun h => ?_) (fun h => ?_)) <;> conv => whnf) | ((with_reducible refine caseB_not (fun h => ?_) (fun h => ?_)) <;> conv => whnf) | (with_reducible refine @And.intro (guardVC _ _ _ _ _) _ ?_ ?_) <;> conv => whnf | (refine caseB_intro (fun h => ?_) (fun h => ?_) <;> (try simp only [Bool.not_eq_true', Bool.not_eq_false', decide_eq_true_eq, decide_eq_false_iff_not] at h) <;> conv => whnf))
  · refine ⟨_, PH.Le.refl _, ⟨⟨ByteArray.empty, y.c.st, y.c.hs, y.c.body, y.c.mt, y.c.tags, y.c.pins⟩, y.hA, y.hc, y.bA, y.bc, y.tA, y.tc⟩, rfl, ⟨hy2.h, hy2.b, hy2.t⟩, ?_, hyb, S2.below (by omega), L2⟩
    rw [En.cost_eq]
    show 0 + costL Hd.cost y.c.hs + y.c.body.length + costL stSz y.c.tags ≤ _
    omega
  · intro g3 hg3
    obtain ⟨M3, hM, S3, l3, s3⟩ := buildF (cs := [I 304, I 500, I 0]) (t := 2) [304, 500, 0] rfl S2 hg3
    rw [← hM]; clear hM
    conv => whnf
    refine pickD [304, 500, 0] rfl S3 s3 (by simp) (by omega) fun z M4 _ S4 l4 => ?_
    conv => whnf
    have hy4 := inn_since hy2 (l3.trans l4)
    exact ⟨_, PH.Le.refl _, ⟨⟨y.c.key, z, y.c.hs, y.c.body, y.c.mt, y.c.tags, y.c.pins⟩, y.hA, y.hc, y.bA, y.bc, y.tA, y.tc⟩, rfl, ⟨hy4.h, hy4.b, hy4.t⟩, by rw [En.cost_eq]; show y.c.key.size + costL Hd.cost y.c.hs + y.c.body.length + costL stSz y.c.tags ≤ _; omega, hyb, S4.below (by omega), L2.trans (l3.trans l4)⟩
  · intro g3 hg3
    obtain ⟨M3, hM, S3, l3, s3⟩ := buildF (cs := [I (-1), I 20, I 21]) (t := 2) [-1, 20, 21] rfl S2 hg3
    rw [← hM]; clear hM
    conv => whnf
    refine pickD [-1, 20, 21] rfl S3 s3 (by simp) (by omega) fun z M4 _ S4 l4 => ?_
    conv => whnf
    have hy4 := inn_since hy2 (l3.trans l4)
    exact ⟨_, PH.Le.refl _, ⟨⟨y.c.key, y.c.st, y.c.hs, y.c.body, y.c.mt, y.c.tags, z⟩, y.hA, y.hc, y.bA, y.bc, y.tA, y.tc⟩, rfl, ⟨hy4.h, hy4.b, hy4.t⟩, by rw [En.cost_eq]; show y.c.key.size + costL Hd.cost y.c.hs + y.c.body.length + costL stSz y.c.tags ≤ _; omega, hyb, S4.below (by omega), L2.trans (l3.trans l4)⟩
  · refine ACall.step (l4Bent_ret S2 (by omega)) fun r M3 hh => ?_
    obtain ⟨o3, C3, d3, ws, rfl, N3, hl3, hz3, S3, l3⟩ := hh
    conv => whnf
    have hy3 := inn_since hy2 l3
    have hcw := costHdB ws hz3
    exact ⟨_, PH.Le.refl _, ⟨⟨y.c.key, y.c.st, ws, y.c.body, y.c.mt, y.c.tags, y.c.pins⟩, C3, d3, y.bA, y.bc, y.tA, y.tc⟩, rfl, ⟨(N3.since Hd.len).mono (since_from L2), hy3.b, hy3.t⟩, by rw [En.cost_eq]; show y.c.key.size + costL Hd.cost ws + y.c.body.length + costL stSz y.c.tags ≤ _; omega, hyb, S3.below (by omega), L2.trans l3⟩
  · intro g3 hg3
    obtain ⟨M3, hM, S3, l3, s3⟩ := buildF (cs := [I 2000, I 2001]) (t := 2) [2000, 2001] rfl S2 hg3
    rw [← hM]; clear hM
    conv => whnf
    refine pickD [2000, 2001] rfl S3 s3 (by simp) (by omega) fun z M4 hz S4 l4 => ?_
    have hz2 : 0 ≤ z ∧ z ≤ 2001 := by
      simp only [List.mem_cons, List.not_mem_nil, or_false] at hz
      omega
    conv => whnf
    refine ⟨rfl, by omega, ?_, by omega, fun g5 hg5 => ?_⟩
    · show (1 : Int) * _ ≤ _
      omega
    conv => whnf
    obtain ⟨o, ho⟩ := S4.has
    have hne : g5 ≠ g := fun e => by rw [e, ho] at hg5; cases hg5
    have l5 := PH.Le.set (.cells (madeCells (#[Y 0] : Array Value) (z.toNat * 1)) 5 (0, 0)) hg5
    have hy4 := inn_since (inn_since hy2 (l3.trans l4)) (rm_mono l5)
    have hR5 : rm M g g5 = none := none_of_le (L2.trans (l3.trans l4)) (by rw [rm_other hne]; exact hg5)
    have hcells : madeCells (#[Y 0] : Array Value) (z.toNat * 1) = (List.replicate z.toNat (Y 0)).toArray := by
      have := made_rows (#[Y 0] : Array Value) z.toNat
      rw [show z.toNat * 1 = z.toNat * (#[Y 0] : Array Value).size from rfl, this]
      simp [rowsL]
    refine ⟨_, PH.Le.refl _, ⟨⟨y.c.key, y.c.st, y.c.hs, List.replicate z.toNat 0, y.c.mt, y.c.tags, y.c.pins⟩, y.hA, y.hc, some ⟨g5, 0, none⟩, z.toNat, y.tA, y.tc⟩, ?_, ⟨hy4.h, ?_, hy4.t⟩, ?_, bytesOk_zeros (l := []) (fun b hb => by cases hb) _, (S4.to (PH.set_other _ _ (Ne.symm hne)) (rm_mono l5)).below (by omega), (L2.trans (l3.trans l4)).trans (rm_mono l5)⟩
    · simp [resV]
    · refine sl_since (cells := List.replicate z.toNat (Y 0)) (ty := 5) (fz := (0, 0)) hR5 (by rw [rm_other hne, PH.set_same]; exact congrArg (fun q => some (Obj.cells q 5 (0, 0))) hcells) fun i b hb => ?_
      rw [List.getElem?_replicate] at hb ⊢
      split at hb
      · rename_i hi
        rw [if_pos hi]
        cases hb; rfl
      · cases hb
    · rw [En.cost_eq]
      show y.c.key.size + costL Hd.cost y.c.hs + (List.replicate z.toNat (0 : Int)).length + costL stSz y.c.tags ≤ _
      rw [List.length_replicate]
      omega
  · refine ACall.step (l7Bent_ret S2 (by omega)) fun r M3 hh => ?_
    obtain ⟨m, rfl, S3, l3⟩ := hh
    conv => whnf
    have hy3 := inn_since hy2 l3
    exact ⟨_, PH.Le.refl _, ⟨⟨y.c.key, y.c.st, y.c.hs, y.c.body, m, y.c.tags, y.c.pins⟩, y.hA, y.hc, y.bA, y.bc, y.tA, y.tc⟩, rfl, ⟨hy3.h, hy3.b, hy3.t⟩, by rw [En.cost_eq]; show y.c.key.size + costL Hd.cost y.c.hs + y.c.body.length + costL stSz y.c.tags ≤ _; omega, hyb, S3.below (by omega), L2.trans l3⟩
  · intro g3 hg3
    obtain ⟨M3, hM, S3, l3, s3⟩ := buildF (cs := [I 500, I 501]) (t := 2) [500, 501] rfl S2 hg3
    rw [← hM]; clear hM
    conv => whnf
    refine pickD [500, 501] rfl S3 s3 (by simp) (by omega) fun z M4 hz S4 l4 => ?_
    have hz2 : 0 ≤ z ∧ z ≤ 501 := by
      simp only [List.mem_cons, List.not_mem_nil, or_false] at hz
      omega
    have hy4 := inn_since hy2 (l3.trans l4)
    conv => whnf
    refine loop_rule (fun k : ByteArray => ⟨slots 56 [(0, .v (P0 g)), (2, .bp 0 0), (3, .bp 1 0), (4, .v (I z))], [⟨44, E0.map .v⟩, ⟨44, (EnA.cs ⟨⟨k, y.c.st, y.c.hs, y.c.body, y.c.mt, y.c.tags, y.c.pins⟩, y.hA, y.hc, y.bA, y.bc, y.tA, y.tc⟩).map .v⟩]⟩)
      (fun k M' => k.size ≤ 1700 ∧ M' = M4) (fun k => 2000 - k.size) y.c.key ?_ ?_ ?_
    · exact ⟨by simp [slots, leT], ⟨[], rfl⟩, Nat.zero_le _, rfl, rfl⟩
    · exact ⟨by omega, rfl⟩
    rintro k M5 ⟨hk5, rfl⟩
    conv => whnf
    refine caseB_dec (fun hb => ?_) (fun hb => ?_)
    · have hb : (k.size : Int) < z := hb
      conv => whnf
      refine ⟨cat_fits' (by show k.size + 1 ≤ _; omega), ?_⟩
      conv => whnf
      have hs : (k ++ (⟨#[107]⟩ : ByteArray)).size = k.size + 1 := by rw [ByteArray.size_append]; rfl
      exact ⟨k ++ ⟨#[107]⟩, ⟨by simp [slots, leT], ⟨[], rfl⟩, Nat.zero_le _, rfl, rfl⟩, ⟨by omega, rfl⟩, by omega⟩
    · conv => whnf
      exact ⟨_, PH.Le.refl _, ⟨⟨k, y.c.st, y.c.hs, y.c.body, y.c.mt, y.c.tags, y.c.pins⟩, y.hA, y.hc, y.bA, y.bc, y.tA, y.tc⟩, rfl, ⟨hy4.h, hy4.b, hy4.t⟩, by rw [En.cost_eq]; show k.size + costL Hd.cost y.c.hs + y.c.body.length + costL stSz y.c.tags ≤ _; omega, hyb, S4.below (by omega), L2.trans (l3.trans l4)⟩
  · exact ⟨_, PH.Le.refl _, y, rfl, hy2, by omega, hyb, S2.below (by omega), L2⟩
end
end Go.Proofs.YtgjaiabenjafeaaGreatDoor
