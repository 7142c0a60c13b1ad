/-
  DRAWS of requests: whatever they are.
-/
import Derived.Test.YtdgipmlkkmmliaaGreatDoorEf
namespace Go.Proofs.YtdgipmlkkmmliaaGreatDoor
set_option maxRecDepth 100000
set_option linter.unusedSimpArgs false
set_option linter.unusedVariables false
open Go.Xe
abbrev rqB (q : Rq) (A' : Option Addr) (c' : Nat) : Box := ⟨59, [.v (Tx q.m), .v (Tx q.h), .v (Tx q.p), .v (.slice A' q.hs.length c')]⟩
theorem rq_cost {q : Rq} (h1 : q.m.size ≤ 300) (h2 : q.h.size ≤ 300) (h3 : q.p.size ≤ 300) (h4 : q.hs.length ≤ 30) (h5 : HdB q.hs) : q.cost ≤ 20000 := by
  have := costHdB q.hs h5
  unfold Rq.cost
  omega
section
variable {B : Int} {g g' : Nat} {M0 M : PH} {A : Option Addr} {c : Nat} {bs : List Int}
set_option maxHeartbeats 4000000 in
theorem l5Draw_ret (S : Sx B M0 M g A c bs) (hB : B ≤ 4294920000) :
    ACall env 127 [P0 g] M fun r M' => ∃ (q : Rq) (o : Option Nat) (A' : Option Addr) (c' : Nat), r = rqV q A' c' ∧ New (rm M g) (rm M' g) o A' c' 2 Hd.cs q.hs ∧ q.hs.length ≤ 2 ∧ HdS q.hs ∧ (q.m.size ≤ 80 ∧ q.h.size ≤ 80 ∧ q.p.size ≤ 80) ∧ Sx (B + 100) M0 M' g A c bs ∧ (rm M g).Le (rm M' g) := by
  refine xcall_of_vc Tryz.func127 rfl _ Tryz.ntmps127 _ rfl (fun _ _ => Tryz.call127 _ _) rfl (fun w0 ρ0 => ?_)
  conv => whnf
  repeat' (first | (refine ⟨⟨[], rfl⟩, _, PH.Le.refl _, PH.Le.refl _, ?_⟩; conv => whnf) | (intro g' hg'; obtain ⟨M', hM, S', l', s'⟩ := buildF (cs := [I (0), I (0), I (1), I (2)]) (t := 2) [0, 0, 1, 2] rfl (by assumption) hg'; rw [← hM]; clear hM; (first | (refine ⟨⟨[], rfl⟩, _, PH.Le.refl _, bot_le _, ?_⟩; conv => whnf) | (refine ⟨⟨[], rfl⟩, _, l', rm_le _ _, ?_⟩; conv => whnf) | conv => whnf)) | (refine pickD [0, 0, 1, 2] rfl (by assumption) (by first | assumption | exact Sl.mono (by assumption) (by repeat (first | exact PH.Le.refl _ | assumption | (apply PH.Le.trans; · assumption)))) (by simp) (by omega) fun x M' hx S' l' => ?_; (first | (refine ⟨⟨[], rfl⟩, _, PH.Le.refl _, bot_le _, ?_⟩; conv => whnf) | (refine ⟨⟨[], rfl⟩, _, l', rm_le _ _, ?_⟩; conv => whnf) | conv => whnf)) | (intro g' hg'; obtain ⟨M', hM, S', l', s'⟩ := buildW (cs := [Tx ⟨#[47]⟩, Tx ⟨#[47, 120]⟩, Tx ⟨#[47, 121, 63, 98, 61, 50, 38, 97, 61, 49]⟩, Tx ⟨#[47, 121, 63, 97, 61, 49, 38, 98, 61, 50]⟩, Tx ⟨#[47, 121, 63, 97, 61, 49, 38, 38, 98, 61, 50]⟩, Tx ⟨#[47, 122, 63]⟩, Tx ⟨#[47, 120]⟩]) (t := 9) [⟨#[47]⟩, ⟨#[47, 120]⟩, ⟨#[47, 121, 63, 98, 61, 50, 38, 97, 61, 49]⟩, ⟨#[47, 121, 63, 97, 61, 49, 38, 98, 61, 50]⟩, ⟨#[47, 121, 63, 97, 61, 49, 38, 38, 98, 61, 50]⟩, ⟨#[47, 122, 63]⟩, ⟨#[47, 120]⟩] rfl (by assumption) hg'; rw [← hM]; clear hM; (first | (refine ⟨⟨[], rfl⟩, _, PH.Le.refl _, bot_le _, ?_⟩; conv => whnf) | (refine ⟨⟨[], rfl⟩, _, l', rm_le _ _, ?_⟩; conv => whnf) | conv => whnf)) | (refine wordD [⟨#[47]⟩, ⟨#[47, 120]⟩, ⟨#[47, 121, 63, 98, 61, 50, 38, 97, 61, 49]⟩, ⟨#[47, 121, 63, 97, 61, 49, 38, 98, 61, 50]⟩, ⟨#[47, 121, 63, 97, 61, 49, 38, 38, 98, 61, 50]⟩, ⟨#[47, 122, 63]⟩, ⟨#[47, 120]⟩] rfl (by assumption) (by first | assumption | exact Sl.mono (by assumption) (by repeat (first | exact PH.Le.refl _ | assumption | (apply PH.Le.trans; · assumption)))) (by decide) (by decide) (by omega) fun x M' hx S' l' => ?_; (first | (refine ⟨⟨[], rfl⟩, _, PH.Le.refl _, bot_le _, ?_⟩; conv => whnf) | (refine ⟨⟨[], rfl⟩, _, l', rm_le _ _, ?_⟩; conv => whnf) | conv => whnf)) | (intro g' hg'; obtain ⟨M', hM, S', l', s'⟩ := buildW (cs := [Tx ⟨#[97, 46, 99, 111, 109]⟩, Tx ⟨#[65, 46, 99, 111, 109]⟩, Tx ⟨#[98, 46, 111, 114, 103]⟩]) (t := 9) [⟨#[97, 46, 99, 111, 109]⟩, ⟨#[65, 46, 99, 111, 109]⟩, ⟨#[98, 46, 111, 114, 103]⟩] rfl (by assumption) hg'; rw [← hM]; clear hM; (first | (refine ⟨⟨[], rfl⟩, _, PH.Le.refl _, bot_le _, ?_⟩; conv => whnf) | (refine ⟨⟨[], rfl⟩, _, l', rm_le _ _, ?_⟩; conv => whnf) | conv => whnf)) | (refine wordD [⟨#[97, 46, 99, 111, 109]⟩, ⟨#[65, 46, 99, 111, 109]⟩, ⟨#[98, 46, 111, 114, 103]⟩] rfl (by assumption) (by first | assumption | exact Sl.mono (by assumption) (by repeat (first | exact PH.Le.refl _ | assumption | (apply PH.Le.trans; · assumption)))) (by decide) (by decide) (by omega) fun x M' hx S' l' => ?_; (first | (refine ⟨⟨[], rfl⟩, _, PH.Le.refl _, bot_le _, ?_⟩; conv => whnf) | (refine ⟨⟨[], rfl⟩, _, l', rm_le _ _, ?_⟩; conv => whnf) | conv => whnf)) | (intro g' hg'; obtain ⟨M', hM, S', l', s'⟩ := buildW (cs := [Tx ⟨#[71, 69, 84]⟩, Tx ⟨#[71, 69, 84]⟩, Tx ⟨#[71, 69, 84]⟩, Tx ⟨#[72, 69, 65, 68]⟩]) (t := 9) [⟨#[71, 69, 84]⟩, ⟨#[71, 69, 84]⟩, ⟨#[71, 69, 84]⟩, ⟨#[72, 69, 65, 68]⟩] rfl (by assumption) hg'; rw [← hM]; clear hM; (first | (refine ⟨⟨[], rfl⟩, _, PH.Le.refl _, bot_le _, ?_⟩; conv => whnf) | (refine ⟨⟨[], rfl⟩, _, l', rm_le _ _, ?_⟩; conv => whnf) | conv => whnf)) | (refine wordD [⟨#[71, 69, 84]⟩, ⟨#[71, 69, 84]⟩, ⟨#[71, 69, 84]⟩, ⟨#[72, 69, 65, 68]⟩] rfl (by assumption) (by first | assumption | exact Sl.mono (by assumption) (by repeat (first | exact PH.Le.refl _ | assumption | (apply PH.Le.trans; · assumption)))) (by decide) (by decide) (by omega) fun x M' hx S' l' => ?_; (first | (refine ⟨⟨[], rfl⟩, _, PH.Le.refl _, bot_le _, ?_⟩; conv => whnf) | (refine ⟨⟨[], rfl⟩, _, l', rm_le _ _, ?_⟩; conv => whnf) | conv => whnf)) | (refine caseB_true ?_; conv => whnf) | (refine caseB_false ?_; conv => whnf) | ((with_reducible refine caseB_dec (fun h => ?_) (fun h => ?_)) <;> conv => whnf) | ((with_reducible refine caseB_ndec (fun h => ?_) (fun h => ?_)) <;> conv => whnf) | ((with_reducible refine caseB_not (fun h => ?_) (fun h => ?_)) <;> conv => whnf) | (with_reducible refine @And.intro (guardVC _ _ _ _ _) _ ?_ ?_) <;> conv => whnf | (refine caseB_intro (fun h => ?_) (fun h => ?_) <;> (try simp only [Bool.not_eq_true', Bool.not_eq_false', decide_eq_true_eq, decide_eq_false_iff_not] at h) <;> conv => whnf))
  have hx2 : 0 ≤ x ∧ x ≤ 2 := by
    simp only [List.mem_cons, List.not_mem_nil, or_false] at hx
    omega
  have lL : (rm M g).Le (rm M' g) := (by repeat (first | exact PH.Le.refl _ | assumption | (apply PH.Le.trans; · assumption)))
  refine ACall.step (l4Draw_ret x hx2.1 (by omega) S' (by omega)) fun r M7 hh => ?_
  obtain ⟨o, C, d, ws, rfl, N, hl, hz, S7, l7⟩ := hh
  conv => whnf
  exact ⟨_, PH.Le.refl _, ⟨_, _, _, ws⟩, o, C, d, rfl, N.from lL, by show ws.length ≤ 2; omega, hz, ⟨by assumption, by assumption, by assumption⟩, S7.below (by omega), lL.trans l7⟩
set_option maxHeartbeats 8000000 in
theorem l5Bent_ret (S : Sx B M0 M g A c bs) (hB : B ≤ 4294910000) :
    ACall env 92 [P0 g] M fun r M' => ∃ (q : Rq) (A' : Option Addr) (c' : Nat), r = rqV q A' c' ∧ Sl (rm M' g) A' 2 Hd.cs q.hs ∧ q.cost ≤ 20000 ∧ Sx (B + 3000) M0 M' g A c bs ∧ (rm M g).Le (rm M' g) := by
  refine xcall_of_vc Tryz.func92 rfl _ Tryz.ntmps92 _ rfl (fun _ _ => Tryz.call92 _ _) rfl (fun w0 ρ0 => ?_)
  conv => whnf
  have T := S.now
  refine ACall.step (l5Draw_ret T (by omega)) fun r M1 hh => ?_
  obtain ⟨⟨m, ho, p, hs⟩, o, C, d, rfl, N, hl, hz, hq, S1, l1⟩ := hh
  have hl : hs.length ≤ 2 := hl
  have hz : HdB hs := HdS.big hz
  have hq : m.size ≤ 80 ∧ ho.size ≤ 80 ∧ p.size ≤ 80 := hq
  obtain ⟨hm, hho, hp⟩ := hq
  have N : New (rm M g) (rm M1 g) o C d 2 Hd.cs hs := N
  have sC := N.ow.sl Hd.len
  clear T
  conv => whnf
  refine nextD 14 S1 (by omega) fun x M2 _ S2 l2 => ?_
  have N2 := N.to l2
  have sC2 := sC.mono l2
  clear S1
  conv => whnf
  repeat' (first | (refine ⟨⟨[], rfl⟩, _, PH.Le.refl _, PH.Le.refl _, ?_⟩; conv => whnf) | (intro g' hg'; obtain ⟨M', hM, S', l', s'⟩ := buildF (cs := [I (100), I (101)]) (t := 2) [100, 101] rfl (by assumption) hg'; rw [← hM]; clear hM; (first | (refine ⟨⟨[], rfl⟩, _, PH.Le.refl _, bot_le _, ?_⟩; conv => whnf) | (refine ⟨⟨[], rfl⟩, _, l', rm_le _ _, ?_⟩; conv => whnf) | conv => whnf)) | (refine pickD [100, 101] rfl (by assumption) (by first | assumption | exact Sl.mono (by assumption) (by repeat (first | exact PH.Le.refl _ | assumption | (apply PH.Le.trans; · assumption)))) (by simp) (by omega) fun x M' hx S' l' => ?_; (first | (refine ⟨⟨[], rfl⟩, _, PH.Le.refl _, bot_le _, ?_⟩; conv => whnf) | (refine ⟨⟨[], rfl⟩, _, l', rm_le _ _, ?_⟩; conv => whnf) | conv => whnf)) | (intro g' hg'; obtain ⟨M', hM, S', l', s'⟩ := buildW (cs := [Tx ⟨#[]⟩, Tx ⟨#[120]⟩, Tx ⟨#[47, 97, 32, 98]⟩, Tx ⟨#[47, 1]⟩, Tx ⟨#[47, 97, 34, 98]⟩]) (t := 9) [⟨#[]⟩, ⟨#[120]⟩, ⟨#[47, 97, 32, 98]⟩, ⟨#[47, 1]⟩, ⟨#[47, 97, 34, 98]⟩] rfl (by assumption) hg'; rw [← hM]; clear hM; (first | (refine ⟨⟨[], rfl⟩, _, PH.Le.refl _, bot_le _, ?_⟩; conv => whnf) | (refine ⟨⟨[], rfl⟩, _, l', rm_le _ _, ?_⟩; conv => whnf) | conv => whnf)) | (refine wordD [⟨#[]⟩, ⟨#[120]⟩, ⟨#[47, 97, 32, 98]⟩, ⟨#[47, 1]⟩, ⟨#[47, 97, 34, 98]⟩] rfl (by assumption) (by first | assumption | exact Sl.mono (by assumption) (by repeat (first | exact PH.Le.refl _ | assumption | (apply PH.Le.trans; · assumption)))) (by decide) (by decide) (by omega) fun x M' hx S' l' => ?_; (first | (refine ⟨⟨[], rfl⟩, _, PH.Le.refl _, bot_le _, ?_⟩; conv => whnf) | (refine ⟨⟨[], rfl⟩, _, l', rm_le _ _, ?_⟩; conv => whnf) | conv => whnf)) | (intro g' hg'; obtain ⟨M', hM, S', l', s'⟩ := buildW (cs := [Tx ⟨#[]⟩, Tx ⟨#[97, 32, 98]⟩, Tx ⟨#[97, 47, 98]⟩, Tx ⟨#[97, 46, 99, 111, 109, 58, 56, 48]⟩]) (t := 9) [⟨#[]⟩, ⟨#[97, 32, 98]⟩, ⟨#[97, 47, 98]⟩, ⟨#[97, 46, 99, 111, 109, 58, 56, 48]⟩] rfl (by assumption) hg'; rw [← hM]; clear hM; (first | (refine ⟨⟨[], rfl⟩, _, PH.Le.refl _, bot_le _, ?_⟩; conv => whnf) | (refine ⟨⟨[], rfl⟩, _, l', rm_le _ _, ?_⟩; conv => whnf) | conv => whnf)) | (refine wordD [⟨#[]⟩, ⟨#[97, 32, 98]⟩, ⟨#[97, 47, 98]⟩, ⟨#[97, 46, 99, 111, 109, 58, 56, 48]⟩] rfl (by assumption) (by first | assumption | exact Sl.mono (by assumption) (by repeat (first | exact PH.Le.refl _ | assumption | (apply PH.Le.trans; · assumption)))) (by decide) (by decide) (by omega) fun x M' hx S' l' => ?_; (first | (refine ⟨⟨[], rfl⟩, _, PH.Le.refl _, bot_le _, ?_⟩; conv => whnf) | (refine ⟨⟨[], rfl⟩, _, l', rm_le _ _, ?_⟩; conv => whnf) | conv => whnf)) | (intro g' hg'; obtain ⟨M', hM, S', l', s'⟩ := buildW (cs := [Tx ⟨#[80, 79, 83, 84]⟩, Tx ⟨#[103, 101, 116]⟩, Tx ⟨#[]⟩]) (t := 9) [⟨#[80, 79, 83, 84]⟩, ⟨#[103, 101, 116]⟩, ⟨#[]⟩] rfl (by assumption) hg'; rw [← hM]; clear hM; (first | (refine ⟨⟨[], rfl⟩, _, PH.Le.refl _, bot_le _, ?_⟩; conv => whnf) | (refine ⟨⟨[], rfl⟩, _, l', rm_le _ _, ?_⟩; conv => whnf) | conv => whnf)) | (refine wordD [⟨#[80, 79, 83, 84]⟩, ⟨#[103, 101, 116]⟩, ⟨#[]⟩] rfl (by assumption) (by first | assumption | exact Sl.mono (by assumption) (by repeat (first | exact PH.Le.refl _ | assumption | (apply PH.Le.trans; · assumption)))) (by decide) (by decide) (by omega) fun x M' hx S' l' => ?_; (first | (refine ⟨⟨[], rfl⟩, _, PH.Le.refl _, bot_le _, ?_⟩; conv => whnf) | (refine ⟨⟨[], rfl⟩, _, l', rm_le _ _, ?_⟩; conv => whnf) | conv => whnf)) | (refine caseB_true ?_; conv => whnf) | (refine caseB_false ?_; conv => whnf) | ((with_reducible refine caseB_dec (fun h => ?_) (fun h => ?_)) <;> conv => whnf) | ((with_reducible refine caseB_ndec (fun h => ?_) (fun h => ?_)) <;> conv => whnf) | ((with_reducible refine caseB_not (fun h => ?_) (fun h => ?_)) <;> conv => whnf) | (with_reducible refine @And.intro (guardVC _ _ _ _ _) _ ?_ ?_) <;> conv => whnf | (refine caseB_intro (fun h => ?_) (fun h => ?_) <;> (try simp only [Bool.not_eq_true', Bool.not_eq_false', decide_eq_true_eq, decide_eq_false_iff_not] at h) <;> conv => whnf))
  all_goals try first
    | exact ⟨_, PH.Le.refl _, ⟨x, ho, p, hs⟩, C, d, rfl, sC2.mono (by repeat (first | exact PH.Le.refl _ | assumption | (apply PH.Le.trans; · assumption))), rq_cost (by dsimp only; omega) (by dsimp only; omega) (by dsimp only; omega) (by show hs.length ≤ 30; omega) hz, S.back (Sx.below (by assumption) (by omega)), (by repeat (first | exact PH.Le.refl _ | assumption | (apply PH.Le.trans; · assumption)))⟩
    | exact ⟨_, PH.Le.refl _, ⟨m, x, p, hs⟩, C, d, rfl, sC2.mono (by repeat (first | exact PH.Le.refl _ | assumption | (apply PH.Le.trans; · assumption))), rq_cost (by dsimp only; omega) (by dsimp only; omega) (by dsimp only; omega) (by show hs.length ≤ 30; omega) hz, S.back (Sx.below (by assumption) (by omega)), (by repeat (first | exact PH.Le.refl _ | assumption | (apply PH.Le.trans; · assumption)))⟩
    | exact ⟨_, PH.Le.refl _, ⟨m, ho, x, hs⟩, C, d, rfl, sC2.mono (by repeat (first | exact PH.Le.refl _ | assumption | (apply PH.Le.trans; · assumption))), rq_cost (by dsimp only; omega) (by dsimp only; omega) (by dsimp only; omega) (by show hs.length ≤ 30; omega) hz, S.back (Sx.below (by assumption) (by omega)), (by repeat (first | exact PH.Le.refl _ | assumption | (apply PH.Le.trans; · assumption)))⟩
    | exact ⟨_, PH.Le.refl _, ⟨m, ho, p, hs⟩, C, d, rfl, sC2.mono (by repeat (first | exact PH.Le.refl _ | assumption | (apply PH.Le.trans; · assumption))), rq_cost (by dsimp only; omega) (by dsimp only; omega) (by dsimp only; omega) (by show hs.length ≤ 30; omega) hz, S.back (Sx.below (by assumption) (by omega)), (by repeat (first | exact PH.Le.refl _ | assumption | (apply PH.Le.trans; · assumption)))⟩
  · intro g3 hg3
    refine hdApp ⟨⟨#[104, 79, 83, 84]⟩, ⟨#[113]⟩⟩ S2 N2 (by omega) hg3 fun o7 C7 d7 M7 N7 S7 => ?_
    conv => whnf
    have l7 := N7.le
    exact ⟨_, PH.Le.refl _, ⟨m, ho, p, hs ++ [⟨⟨#[104, 79, 83, 84]⟩, ⟨#[113]⟩⟩]⟩, C7, d7, rfl, N7.ow.sl Hd.len, rq_cost (by dsimp only; omega) (by dsimp only; omega) (by dsimp only; omega) (by show (hs ++ [_]).length ≤ 30; simp; omega) (hz.snoc (by dsimp only; decide) (by dsimp only; decide)), S.back (S7.below (by omega)), l7⟩
  · refine ACall.step (l4Bent_ret S2 (by omega)) fun r M3 hh => ?_
    obtain ⟨o7, C7, d7, ws, rfl, N7, hl7, hz7, S7, l7⟩ := hh
    conv => whnf
    exact ⟨_, PH.Le.refl _, ⟨m, ho, p, ws⟩, C7, d7, rfl, N7.ow.sl Hd.len, rq_cost (by dsimp only; omega) (by dsimp only; omega) (by dsimp only; omega) hl7 hz7, S.back (S7.below (by omega)), (l1.trans l2).trans l7⟩
  · have hx2 : 0 ≤ x ∧ x ≤ 101 := by
      simp only [List.mem_cons, List.not_mem_nil, or_false] at hx
      omega
    have lL : (rm M g).Le (rm M' g) := (by repeat (first | exact PH.Le.refl _ | assumption | (apply PH.Le.trans; · assumption)))
    have sL : Sl (rm M' g) C 2 Hd.cs hs := sC2.mono (by repeat (first | exact PH.Le.refl _ | assumption | (apply PH.Le.trans; · assumption)))
    refine loop_rule (fun z : ByteArray => ⟨slots 55 [(0, .v (P0 g)), (2, .bp 0 0), (3, .bp 1 0), (4, .v (I x))], [rqB ⟨ByteArray.empty, ByteArray.empty, ByteArray.empty, []⟩ none 0, rqB ⟨m, ho, z, hs⟩ C d]⟩)
      (fun z M1 => z.size ≤ 101 ∧ M1 = M') (fun z => 300 - z.size) p ?_ ?_ ?_
    · exact ⟨by simp [slots, leT], ⟨[], rfl⟩, by simp, rfl, rfl⟩
    · exact ⟨by omega, rfl⟩
    rintro t M7 ⟨ht, rfl⟩
    conv => whnf
    refine caseB_dec (fun hb => ?_) (fun hb => ?_)
    · have hb : (t.size : Int) < x := hb
      conv => whnf
      refine ⟨cat_fitsE (by show t.size + 1 ≤ _; omega), ?_⟩
      conv => whnf
      have hs7 : (t ++ (⟨#[112]⟩ : ByteArray)).size = t.size + 1 := by rw [ByteArray.size_append]; rfl
      exact ⟨t ++ ⟨#[112]⟩, ⟨by simp [slots, leT], ⟨[], rfl⟩, by simp, rfl, rfl⟩, ⟨by omega, rfl⟩, by omega⟩
    · conv => whnf
      exact ⟨_, PH.Le.refl _, ⟨m, ho, t, hs⟩, C, d, rfl, sL, rq_cost (by dsimp only; omega) (by dsimp only; omega) (by dsimp only; omega) (by show hs.length ≤ 30; omega) hz, S.back (S'.below (by omega)), lL⟩
end
end Go.Proofs.YtdgipmlkkmmliaaGreatDoor
