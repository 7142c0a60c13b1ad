/-
  DRAWS of policies: whatever they are.
-/
import Derived.Test.YtdgipmlkkmmliaaGreatDoorRn
import Derived.Test.YtdgipmlkkmmliaaGreatDoorEf
namespace Go.Proofs.YtdgipmlkkmmliaaGreatDoor
set_option maxRecDepth 100000
set_option linter.unusedSimpArgs false
set_option linter.unusedVariables false
open Go.Xe
section
variable {B : Int} {g g' : Nat} {M0 M : PH} {A : Option Addr} {c : Nat} {bs : List Int}
theorem l1DrawTime_anyR (S : Sx B M0 M g A c bs) (hB : B ≤ 4294960000) :
    ACall env 126 [P0 g] M fun r M' => ∃ x, r = I x ∧ Sx (B + 3) M0 M' g A c bs ∧ (rm M g).Le (rm M' g) := by
  refine xcall_of_vc Tryz.func126 rfl _ Tryz.ntmps126 _ rfl (fun _ _ => Tryz.call126 _ _) rfl (fun w0 ρ0 => ?_)
  conv => whnf
  refine nextD _ S (by omega) fun x1 M1 _ S1 l1 => ?_
  conv => whnf
  refine nextD _ S1 (by omega) fun x2 M2 _ S2 l2 => ?_
  clear S S1
  conv => whnf
  repeat' (first | (refine ⟨⟨[], rfl⟩, _, PH.Le.refl _, PH.Le.refl _, ?_⟩; conv => whnf) | (intro g' hg'; obtain ⟨M', hM, S', l', s'⟩ := buildF (cs := [I 0, I 1, I 1000, I x1, I x2, I 1000000000000000, I 999999999999999, I 500000000000000, I 500000000000001]) (t := 2) [0, 1, 1000, x1, x2, 1000000000000000, 999999999999999, 500000000000000, 500000000000001] rfl (by assumption) hg'; rw [← hM]; clear hM; (first | (refine ⟨⟨[], rfl⟩, _, PH.Le.refl _, bot_le _, ?_⟩; conv => whnf) | (refine ⟨⟨[], rfl⟩, _, l', rm_le _ _, ?_⟩; conv => whnf) | conv => whnf)) | (refine pickD [0, 1, 1000, x1, x2, 1000000000000000, 999999999999999, 500000000000000, 500000000000001] rfl (by assumption) (by first | assumption | exact Sl.mono (by assumption) (by repeat (first | exact PH.Le.refl _ | assumption | (apply PH.Le.trans; · assumption)))) (by simp) (by omega) fun x M' hx S' l' => ?_; (first | (refine ⟨⟨[], rfl⟩, _, PH.Le.refl _, bot_le _, ?_⟩; conv => whnf) | (refine ⟨⟨[], rfl⟩, _, l', rm_le _ _, ?_⟩; conv => whnf) | conv => whnf)) | (refine caseB_true ?_; conv => whnf) | (refine caseB_false ?_; conv => whnf) | ((with_reducible refine caseB_dec (fun h => ?_) (fun h => ?_)) <;> conv => whnf) | ((with_reducible refine caseB_ndec (fun h => ?_) (fun h => ?_)) <;> conv => whnf) | ((with_reducible refine caseB_not (fun h => ?_) (fun h => ?_)) <;> conv => whnf) | (with_reducible refine @And.intro (guardVC _ _ _ _ _) _ ?_ ?_) <;> conv => whnf | (refine caseB_intro (fun h => ?_) (fun h => ?_) <;> (try simp only [Bool.not_eq_true', Bool.not_eq_false', decide_eq_true_eq, decide_eq_false_iff_not] at h) <;> conv => whnf))
  exact ⟨_, PH.Le.refl _, _, rfl, Sx.below (by assumption) (by omega), (by repeat (first | exact PH.Le.refl _ | assumption | (apply PH.Le.trans; · assumption)))⟩
theorem laterR {j k : Int} (c : Nat) (hk : wr (5 + wr (7 * j)) = k) (h0 : 0 ≤ k) (hb : Byt M A bs) {bx : List Box} {K : Value → List Box → PH → Prop} (h : ∀ g M', M g = none → Sx k M M' g A c bs → K (P0 g) bx M') : XCall env 42 [.v (.slice A bs.length c), .v (I j)] bx M K :=
  ACall.step (l1Later_ret A c bs j M) fun r M' ⟨g, hg, hr, hM⟩ => by
    subst hr; subst hM
    rw [hk]
    exact h g _ hg ⟨⟨k, PH.set_same _ _ _, h0, Int.le_refl _⟩, rm_in (PH.Le.set _ hg) hg, hb⟩
set_option maxHeartbeats 4000000 in
theorem l6Draw_ret (S : Sx B M0 M g A c bs) (hB : B ≤ 4294950000) :
    ACall env 90 [P0 g] M fun r M' => ∃ p : Pol, r = p.val ∧ Sx (B + 20) M0 M' g A c bs ∧ (rm M g).Le (rm M' g) := by
  refine xcall_of_vc Tryz.func90 rfl _ Tryz.ntmps90 _ rfl (fun _ _ => Tryz.call90 _ _) rfl (fun w0 ρ0 => ?_)
  conv => whnf
  refine chanceD S (by omega) fun b1 M1 S1 l1 => ?_
  conv => whnf
  refine chanceD S1 (by omega) fun b2 M2 S2 l2 => ?_
  conv => whnf
  refine chanceD S2 (by omega) fun b3 M3 S3 l3 => ?_
  conv => whnf
  refine ACall.step (l1DrawTime_anyR S3 (by omega)) fun r M4 hh => ?_
  obtain ⟨t1, rfl, S4, l4⟩ := hh
  have L4 := ((l1.trans l2).trans l3).trans l4
  clear S S1 S2 S3 l1 l2 l3 l4
  conv => whnf
  intro g5 hg5
  obtain ⟨M5, hM, S5, l5, s5⟩ := buildF (cs := [I 0, I 1000, I 5000, I (-1), I t1]) (t := 2) [0, 1000, 5000, -1, t1] rfl S4 hg5
  rw [← hM]; clear hM
  conv => whnf
  refine pickD [0, 1000, 5000, -1, t1] rfl S5 s5 (by simp) (by omega) fun u1 M6 _ S6 l6 => ?_
  conv => whnf
  refine ACall.step (l1DrawTime_anyR S6 (by omega)) fun r M7 hh => ?_
  obtain ⟨t2, rfl, S7, l7⟩ := hh
  have L7 := ((L4.trans l5).trans l6).trans l7
  clear S4 S5 S6 l5 l6 l7 s5
  conv => whnf
  intro g8 hg8
  obtain ⟨M8, hM, S8, l8, s8⟩ := buildF (cs := [I 0, I 2000, I t2]) (t := 2) [0, 2000, t2] rfl S7 hg8
  rw [← hM]; clear hM
  conv => whnf
  refine pickD [0, 2000, t2] rfl S8 s8 (by simp) (by omega) fun u2 M9 _ S9 l9 => ?_
  conv => whnf
  refine ACall.step (l1DrawTime_anyR S9 (by omega)) fun r M10 hh => ?_
  obtain ⟨t3, rfl, S10, l10⟩ := hh
  have L10 := ((L7.trans l8).trans l9).trans l10
  clear S7 S8 S9 l8 l9 l10 s8
  conv => whnf
  intro g11 hg11
  obtain ⟨M11, hM, S11, l11, s11⟩ := buildF (cs := [I 0, I 3000, I t3]) (t := 2) [0, 3000, t3] rfl S10 hg11
  rw [← hM]; clear hM
  conv => whnf
  refine pickD [0, 3000, t3] rfl S11 s11 (by simp) (by omega) fun u3 M12 _ S12 l12 => ?_
  conv => whnf
  refine ACall.step (l1DrawTime_anyR S12 (by omega)) fun r M13 hh => ?_
  obtain ⟨t4, rfl, S13, l13⟩ := hh
  have L13 := ((L10.trans l11).trans l12).trans l13
  clear S10 S11 S12 l11 l12 l13 s11
  conv => whnf
  intro g14 hg14
  obtain ⟨M14, hM, S14, l14, s14⟩ := buildF (cs := [I 0, I 0, I 1000, I t4]) (t := 2) [0, 0, 1000, t4] rfl S13 hg14
  rw [← hM]; clear hM
  conv => whnf
  refine pickD [0, 0, 1000, t4] rfl S14 s14 (by simp) (by omega) fun u4 M15 _ S15 l15 => ?_
  conv => whnf
  exact ⟨_, PH.Le.refl _, ⟨b1, b2, b3, u1, u2, u3, u4⟩, rfl, S15.below (by omega), (L13.trans l14).trans l15⟩
end
set_option maxHeartbeats 4000000 in
theorem drawPolicyFault_ret (A : Option Addr) (c : Nat) (bs : List Int) (M : PH) (hb : Byt M A bs) :
    ACall env 43 [.slice A bs.length c] M fun r M' => ∃ p : Pol, r = p.val ∧ M.Le M' := by
  refine xcall_of_vc Tryz.func43 rfl _ Tryz.ntmps43 _ rfl (fun _ _ => Tryz.call43 _ _) rfl (fun w0 ρ0 => ?_)
  conv => whnf
  refine sourceD c hb fun g M1 hg S1 => ?_
  conv => whnf
  refine ACall.step (l6Draw_ret S1 (by omega)) fun r M2 hh => ?_
  obtain ⟨p, rfl, S2, l2⟩ := hh
  conv => whnf
  repeat' (first | (refine ⟨⟨[], rfl⟩, _, PH.Le.refl _, PH.Le.refl _, ?_⟩; conv => whnf) | (intro g' hg'; obtain ⟨M', hM, S', l', s'⟩ := buildF (cs := [I (-2), I 1000000000000001]) (t := 2) [-2, 1000000000000001] rfl (by assumption) hg'; rw [← hM]; clear hM; (first | (refine ⟨⟨[], rfl⟩, _, PH.Le.refl _, bot_le _, ?_⟩; conv => whnf) | (refine ⟨⟨[], rfl⟩, _, l', rm_le _ _, ?_⟩; conv => whnf) | conv => whnf)) | (refine pickD [-2, 1000000000000001] rfl (by assumption) (by first | assumption | exact Sl.mono (by assumption) (by repeat (first | exact PH.Le.refl _ | assumption | (apply PH.Le.trans; · assumption)))) (by simp) (by omega) fun u M' hx S' l' => ?_; (first | (refine ⟨⟨[], rfl⟩, _, PH.Le.refl _, bot_le _, ?_⟩; conv => whnf) | (refine ⟨⟨[], rfl⟩, _, l', rm_le _ _, ?_⟩; conv => whnf) | conv => whnf)) | (refine nextD (9) (by assumption) (by omega) fun x M' hx S' l' => ?_; (first | (refine ⟨⟨[], rfl⟩, _, PH.Le.refl _, bot_le _, ?_⟩; conv => whnf) | (refine ⟨⟨[], rfl⟩, _, l', rm_le _ _, ?_⟩; conv => whnf) | conv => whnf)) | (refine caseB_true ?_; conv => whnf) | (refine caseB_false ?_; conv => whnf) | ((with_reducible refine caseB_dec (fun h => ?_) (fun h => ?_)) <;> conv => whnf) | ((with_reducible refine caseB_ndec (fun h => ?_) (fun h => ?_)) <;> conv => whnf) | ((with_reducible refine caseB_not (fun h => ?_) (fun h => ?_)) <;> conv => whnf) | (with_reducible refine @And.intro (guardVC _ _ _ _ _) _ ?_ ?_) <;> conv => whnf | (refine caseB_intro (fun h => ?_) (fun h => ?_) <;> (try simp only [Bool.not_eq_true', Bool.not_eq_false', decide_eq_true_eq, decide_eq_false_iff_not] at h) <;> conv => whnf))
  · exact ⟨_, PH.Le.refl _, ⟨p.ns, p.nc, p.mu, u, p.swr, p.sie, p.age⟩, rfl, S'.le.trans (rm_le _ g)⟩
  · exact ⟨_, PH.Le.refl _, ⟨p.ns, p.nc, p.mu, p.life, -1, p.sie, p.age⟩, rfl, S'.le.trans (rm_le _ g)⟩
  · exact ⟨_, PH.Le.refl _, ⟨p.ns, p.nc, p.mu, p.life, p.swr, p.sie, 1000000000000001⟩, rfl, S'.le.trans (rm_le _ g)⟩
  · exact ⟨_, PH.Le.refl _, p, rfl, S'.le.trans (rm_le _ g)⟩
set_option maxHeartbeats 4000000 in
theorem drawStoreLife_ret (A : Option Addr) (c : Nat) (bs : List Int) (M : PH) (hb : Byt M A bs) :
    ACall env 14 [.slice A bs.length c] M fun r M' => ∃ (p : Pol) (st neg : Int), r = .tuple #[p.val, I st, I neg] ∧ M.Le M' := by
  refine xcall_of_vc Tryz.func14 rfl _ Tryz.ntmps14 _ rfl (fun _ _ => Tryz.call14 _ _) rfl (fun w0 ρ0 => ?_)
  conv => whnf
  refine laterR (k := 12) c (by decide) (by decide) hb fun g M1 hg S1 => ?_
  conv => whnf
  refine besideA S1 (drawPolicyFault_ret A c bs _ (S1.by_.mono S1.le)) (fun r M1 hh => by obtain ⟨p, _, l⟩ := hh; exact S1.le.trans l) fun r N M2 hh lN S2 => ?_
  obtain ⟨p, rfl, lM⟩ := hh
  clear S1
  conv => whnf
  repeat' (first | (refine ⟨⟨[], rfl⟩, _, PH.Le.refl _, PH.Le.refl _, ?_⟩; conv => whnf) | (intro g' hg'; obtain ⟨M', hM, S', l', s'⟩ := buildF (cs := [I 0, I 1000, I 1000, I 1000000000000000, I (-1)]) (t := 2) [0, 1000, 1000, 1000000000000000, -1] rfl (by assumption) hg'; rw [← hM]; clear hM; (first | (refine ⟨⟨[], rfl⟩, _, PH.Le.refl _, bot_le _, ?_⟩; conv => whnf) | (refine ⟨⟨[], rfl⟩, _, l', rm_le _ _, ?_⟩; conv => whnf) | conv => whnf)) | (refine pickD [0, 1000, 1000, 1000000000000000, -1] rfl (by assumption) (by first | assumption | exact Sl.mono (by assumption) (by repeat (first | exact PH.Le.refl _ | assumption | (apply PH.Le.trans; · assumption)))) (by simp) (by omega) fun neg M' hx S' l' => ?_; (first | (refine ⟨⟨[], rfl⟩, _, PH.Le.refl _, bot_le _, ?_⟩; conv => whnf) | (refine ⟨⟨[], rfl⟩, _, l', rm_le _ _, ?_⟩; conv => whnf) | conv => whnf)) | (intro g' hg'; obtain ⟨M', hM, S', l', s'⟩ := buildF (cs := [I 200, I 200, I 404, I 410, I 500, I 304, I 199, I 600]) (t := 2) [200, 200, 404, 410, 500, 304, 199, 600] rfl (by assumption) hg'; rw [← hM]; clear hM; (first | (refine ⟨⟨[], rfl⟩, _, PH.Le.refl _, bot_le _, ?_⟩; conv => whnf) | (refine ⟨⟨[], rfl⟩, _, l', rm_le _ _, ?_⟩; conv => whnf) | conv => whnf)) | (refine pickD [200, 200, 404, 410, 500, 304, 199, 600] rfl (by assumption) (by first | assumption | exact Sl.mono (by assumption) (by repeat (first | exact PH.Le.refl _ | assumption | (apply PH.Le.trans; · assumption)))) (by simp) (by omega) fun st M' hx S' l' => ?_; (first | (refine ⟨⟨[], rfl⟩, _, PH.Le.refl _, bot_le _, ?_⟩; conv => whnf) | (refine ⟨⟨[], rfl⟩, _, l', rm_le _ _, ?_⟩; conv => whnf) | conv => whnf)) | (refine caseB_true ?_; conv => whnf) | (refine caseB_false ?_; conv => whnf) | ((with_reducible refine caseB_dec (fun h => ?_) (fun h => ?_)) <;> conv => whnf) | ((with_reducible refine caseB_ndec (fun h => ?_) (fun h => ?_)) <;> conv => whnf) | ((with_reducible refine caseB_not (fun h => ?_) (fun h => ?_)) <;> conv => whnf) | (with_reducible refine @And.intro (guardVC _ _ _ _ _) _ ?_ ?_) <;> conv => whnf | (refine caseB_intro (fun h => ?_) (fun h => ?_) <;> (try simp only [Bool.not_eq_true', Bool.not_eq_false', decide_eq_true_eq, decide_eq_false_iff_not] at h) <;> conv => whnf))
  exact ⟨_, PH.Le.refl _, p, st, neg, rfl, S'.le.trans (rm_le _ g)⟩
set_option maxHeartbeats 4000000 in
theorem drawPolicyOf_ret (A : Option Addr) (c : Nat) (bs : List Int) (M : PH) (hb : Byt M A bs) :
    ACall env 13 [.slice A bs.length c] M fun r M' => ∃ (A1 : Option Addr) (c1 : Nat) (ws : List Hd), r = .slice A1 ws.length c1 ∧ Sl M' A1 2 Hd.cs ws ∧ ws.length ≤ 31 ∧ HdB ws ∧ M.Le M' := by
  refine xcall_of_vc Tryz.func13 rfl _ Tryz.ntmps13 _ rfl (fun _ _ => Tryz.call13 _ _) rfl (fun w0 ρ0 => ?_)
  conv => whnf
  refine sourceD c hb fun g M1 hg S1 => ?_
  conv => whnf
  have T := S1.now
  have lT := S1.le
  refine ACall.step (l4Bent_ret T (by omega)) fun r M3 hh => ?_
  obtain ⟨o, C, d, ws, rfl, N3, hl3, hz3, S3, l3⟩ := hh
  have s3 := N3.ow.sl Hd.len
  clear S1 T
  conv => whnf
  repeat' (first | (refine ⟨⟨[], rfl⟩, _, PH.Le.refl _, PH.Le.refl _, ?_⟩; conv => whnf) | (intro g' hg'; obtain ⟨M', hM, S', l', s'⟩ := buildW (cs := [Tx ⟨#[109, 97, 120, 45, 97, 103, 101, 61, 53]⟩, Tx ⟨#[115, 45, 109, 97, 120, 97, 103, 101, 61, 55, 44, 32, 109, 97, 120, 45, 97, 103, 101, 61, 53]⟩, Tx ⟨#[110, 111, 45, 99, 97, 99, 104, 101, 61, 34, 120, 34]⟩, Tx ⟨#[115, 116, 97, 108, 101, 45, 119, 104, 105, 108, 101, 45, 114, 101, 118, 97, 108, 105, 100, 97, 116, 101, 61, 52, 44, 32, 115, 116, 97, 108, 101, 45, 105, 102, 45, 101, 114, 114, 111, 114, 61, 54]⟩, Tx ⟨#[109, 97, 120, 45, 97, 103, 101]⟩, Tx ⟨#[109, 97, 120, 45, 97, 103, 101, 61, 34, 57, 34]⟩, Tx ⟨#[97, 32, 98]⟩, Tx ⟨#[112, 114, 111, 120, 121, 45, 114, 101, 118, 97, 108, 105, 100, 97, 116, 101, 44, 32, 115, 116, 97, 108, 101, 45, 105, 102, 45, 101, 114, 114, 111, 114, 61, 53]⟩, Tx ⟨#[109, 97, 120, 45, 97, 103, 101, 61, 57, 57, 57, 57, 57, 57, 57, 57, 57, 57, 57]⟩]) (t := 9) [⟨#[109, 97, 120, 45, 97, 103, 101, 61, 53]⟩, ⟨#[115, 45, 109, 97, 120, 97, 103, 101, 61, 55, 44, 32, 109, 97, 120, 45, 97, 103, 101, 61, 53]⟩, ⟨#[110, 111, 45, 99, 97, 99, 104, 101, 61, 34, 120, 34]⟩, ⟨#[115, 116, 97, 108, 101, 45, 119, 104, 105, 108, 101, 45, 114, 101, 118, 97, 108, 105, 100, 97, 116, 101, 61, 52, 44, 32, 115, 116, 97, 108, 101, 45, 105, 102, 45, 101, 114, 114, 111, 114, 61, 54]⟩, ⟨#[109, 97, 120, 45, 97, 103, 101]⟩, ⟨#[109, 97, 120, 45, 97, 103, 101, 61, 34, 57, 34]⟩, ⟨#[97, 32, 98]⟩, ⟨#[112, 114, 111, 120, 121, 45, 114, 101, 118, 97, 108, 105, 100, 97, 116, 101, 44, 32, 115, 116, 97, 108, 101, 45, 105, 102, 45, 101, 114, 114, 111, 114, 61, 53]⟩, ⟨#[109, 97, 120, 45, 97, 103, 101, 61, 57, 57, 57, 57, 57, 57, 57, 57, 57, 57, 57]⟩] rfl (by assumption) hg'; rw [← hM]; clear hM; (first | (refine ⟨⟨[], rfl⟩, _, PH.Le.refl _, bot_le _, ?_⟩; conv => whnf) | (refine ⟨⟨[], rfl⟩, _, l', rm_le _ _, ?_⟩; conv => whnf) | conv => whnf)) | (refine wordD [⟨#[109, 97, 120, 45, 97, 103, 101, 61, 53]⟩, ⟨#[115, 45, 109, 97, 120, 97, 103, 101, 61, 55, 44, 32, 109, 97, 120, 45, 97, 103, 101, 61, 53]⟩, ⟨#[110, 111, 45, 99, 97, 99, 104, 101, 61, 34, 120, 34]⟩, ⟨#[115, 116, 97, 108, 101, 45, 119, 104, 105, 108, 101, 45, 114, 101, 118, 97, 108, 105, 100, 97, 116, 101, 61, 52, 44, 32, 115, 116, 97, 108, 101, 45, 105, 102, 45, 101, 114, 114, 111, 114, 61, 54]⟩, ⟨#[109, 97, 120, 45, 97, 103, 101]⟩, ⟨#[109, 97, 120, 45, 97, 103, 101, 61, 34, 57, 34]⟩, ⟨#[97, 32, 98]⟩, ⟨#[112, 114, 111, 120, 121, 45, 114, 101, 118, 97, 108, 105, 100, 97, 116, 101, 44, 32, 115, 116, 97, 108, 101, 45, 105, 102, 45, 101, 114, 114, 111, 114, 61, 53]⟩, ⟨#[109, 97, 120, 45, 97, 103, 101, 61, 57, 57, 57, 57, 57, 57, 57, 57, 57, 57, 57]⟩] rfl (by assumption) (by first | assumption | exact Sl.mono (by assumption) (by repeat (first | exact PH.Le.refl _ | assumption | (apply PH.Le.trans; · assumption)))) (by decide) (by decide) (by omega) fun x M' hx S' l' => ?_; (first | (refine ⟨⟨[], rfl⟩, _, PH.Le.refl _, bot_le _, ?_⟩; conv => whnf) | (refine ⟨⟨[], rfl⟩, _, l', rm_le _ _, ?_⟩; conv => whnf) | conv => whnf)) | (refine chanceD (by assumption) (by omega) fun x M' S' l' => ?_; (first | (refine ⟨⟨[], rfl⟩, _, PH.Le.refl _, bot_le _, ?_⟩; conv => whnf) | (refine ⟨⟨[], rfl⟩, _, l', rm_le _ _, ?_⟩; conv => whnf) | conv => whnf)) | (refine caseB_true ?_; conv => whnf) | (refine caseB_false ?_; conv => whnf) | ((with_reducible refine caseB_dec (fun h => ?_) (fun h => ?_)) <;> conv => whnf) | ((with_reducible refine caseB_ndec (fun h => ?_) (fun h => ?_)) <;> conv => whnf) | ((with_reducible refine caseB_not (fun h => ?_) (fun h => ?_)) <;> conv => whnf) | (with_reducible refine @And.intro (guardVC _ _ _ _ _) _ ?_ ?_) <;> conv => whnf | (refine caseB_intro (fun h => ?_) (fun h => ?_) <;> (try simp only [Bool.not_eq_true', Bool.not_eq_false', decide_eq_true_eq, decide_eq_false_iff_not] at h) <;> conv => whnf))
  · intro g3 hg3
    obtain ⟨M4, hM, S4, l4, n4⟩ := rowF (cs := [Tx ccU, Tx x]) (t := 65) (⟨ccU, x⟩ : Hd) Hd.len rfl S' hg3
    rw [← hM]
    clear hM
    conv => whnf
    refine appendD (te := ti65) (f := Hd.cs) (xs := [(⟨ccU, x⟩ : Hd)]) (ys := ws) S4 (s3.mono (PH.Le.trans (by repeat (first | exact PH.Le.refl _ | assumption | (apply PH.Le.trans; · assumption))) l4)) n4 Hd.len Hd_oneE rfl (hd_fitsE _ _ (by show 1 + _ ≤ _; omega)) (by show 1 + _ ≤ _; omega) fun o5 C5 d5 M5 N5 S5 k5 => ?_
    conv => whnf
    refine ⟨_, PH.Le.refl _, C5, d5, _, rfl, (N5.ow.sl Hd.len).mono (rm_le _ g), by simp; omega, fun y hy => ?_, (lT.trans N5.le).trans (rm_le _ g)⟩
    rcases List.mem_append.1 hy with hy | hy
    · have : y = ⟨ccU, x⟩ := by simpa using hy
      subst this
      exact ⟨by dsimp only; decide, by dsimp only; omega⟩
    · exact hz3 y hy
  · exact ⟨_, PH.Le.refl _, C, d, ws, rfl, (s3.mono (by repeat (first | exact PH.Le.refl _ | assumption | (apply PH.Le.trans; · assumption)))).mono (rm_le _ g), by omega, hz3, ((lT.trans l3).trans (by repeat (first | exact PH.Le.refl _ | assumption | (apply PH.Le.trans; · assumption)))).trans (rm_le _ g)⟩
end Go.Proofs.YtdgipmlkkmmliaaGreatDoor
