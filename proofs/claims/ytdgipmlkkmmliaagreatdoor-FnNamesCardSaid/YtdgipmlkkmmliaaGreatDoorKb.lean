/-
  DRAWS of head lines and names: whatever they are.
-/
import Derived.Test.YtdgipmlkkmmliaaGreatDoorKa
namespace Go.Proofs.YtdgipmlkkmmliaaGreatDoor
set_option maxRecDepth 100000
set_option linter.unusedSimpArgs false
set_option linter.unusedVariables false
open Go.Xe
abbrev StS (ns : List ByteArray) : Prop := ∀ x ∈ ns, x.size ≤ 80
abbrev E7 := Nat × Option Nat × Option Addr × Nat × List ByteArray × Int
theorem drawFullKey_ret (A : Option Addr) (c : Nat) (bs : List Int) (M : PH) (hb : Byt M A bs) :
    ACall env 51 [.slice A bs.length c] M fun r M' => ∃ (q : Rq) (A1 : Option Addr) (c1 : Nat) (A2 : Option Addr) (c2 : Nat) (ns : List ByteArray), r = .tuple #[rqV q A1 c1, .slice A2 ns.length c2] ∧ Sl M' A2 1 stC ns ∧ ns.length ≤ 5 ∧ StS ns ∧ M.Le M' := by
  refine xcall_of_vc Tryz.func51 rfl _ Tryz.ntmps51 _ rfl (fun _ _ => Tryz.call51 _ _) rfl (fun w0 ρ0 => ?_)
  conv => whnf
  refine sourceD c hb fun g M1 hg S1 => ?_
  conv => whnf
  intro g1 hg1
  conv => whnf
  obtain ⟨M2, hM, S2, l2, s2⟩ := buildW (cs := []) (t := 9) [] rfl S1 hg1
  rw [← hM]
  clear hM
  repeat' (first | (refine ⟨⟨[], rfl⟩, _, PH.Le.refl _, PH.Le.refl _, ?_⟩; conv => whnf) | (intro g' hg'; obtain ⟨M', hM, S', l', s'⟩ := buildF (cs := [I 0, I 1, I 2, I 2, I 4, I 5]) (t := 2) [0, 1, 2, 2, 4, 5] rfl (by assumption) hg'; rw [← hM]; clear hM; (first | (refine ⟨⟨[], rfl⟩, _, PH.Le.refl _, bot_le _, ?_⟩; conv => whnf) | (refine ⟨⟨[], rfl⟩, _, l', rm_le _ _, ?_⟩; conv => whnf) | conv => whnf)) | (refine pickD [0, 1, 2, 2, 4, 5] rfl (by assumption) (by first | assumption | exact Sl.mono (by assumption) (by repeat (first | exact PH.Le.refl _ | assumption | (apply PH.Le.trans; · assumption)))) (by simp) (by omega) fun n M' hx S' l' => ?_; (first | (refine ⟨⟨[], rfl⟩, _, PH.Le.refl _, bot_le _, ?_⟩; conv => whnf) | (refine ⟨⟨[], rfl⟩, _, l', rm_le _ _, ?_⟩; conv => whnf) | conv => whnf)) | (refine caseB_true ?_; conv => whnf) | (refine caseB_false ?_; conv => whnf) | ((with_reducible refine caseB_dec (fun h => ?_) (fun h => ?_)) <;> conv => whnf) | ((with_reducible refine caseB_ndec (fun h => ?_) (fun h => ?_)) <;> conv => whnf) | ((with_reducible refine caseB_not (fun h => ?_) (fun h => ?_)) <;> conv => whnf) | (with_reducible refine @And.intro (guardVC _ _ _ _ _) _ ?_ ?_) <;> conv => whnf | (refine caseB_intro (fun h => ?_) (fun h => ?_) <;> (try simp only [Bool.not_eq_true', Bool.not_eq_false', decide_eq_true_eq, decide_eq_false_iff_not] at h) <;> conv => whnf))
  have hn2 : 0 ≤ n ∧ n ≤ 5 := by
    simp only [List.mem_cons, List.not_mem_nil, or_false] at hx
    omega
  have lL : (rm M1 g).Le (rm M' g) := (by repeat (first | exact PH.Le.refl _ | assumption | (apply PH.Le.trans; · assumption)))
  refine loop_rule (fun z : E7 => ⟨slots 26 [(2, .bp 0 0), (3, .v (.slice none 0 0)), (4, .v (P0 g)), (5, .v (.slice z.2.2.1 z.2.2.2.2.1.length z.2.2.2.1)), (6, .v (I (n - z.1)))], [rqB ⟨ByteArray.empty, ByteArray.empty, ByteArray.empty, []⟩ none 0]⟩)
    (fun z M' => (z.1 : Int) ≤ n ∧ New M (rm M' g) z.2.1 z.2.2.1 z.2.2.2.1 1 stC z.2.2.2.2.1 ∧ (z.2.2.2.2.1.length : Int) ≤ z.1 ∧ StS z.2.2.2.2.1 ∧ z.2.2.2.2.2 = 1 + z.1 ∧ Sx z.2.2.2.2.2 M M' g A c bs) (fun z => (n - z.1).toNat) (0, none, some ⟨g1, 0, none⟩, 0, [], 1) ?_ ?_ ?_
  · exact ⟨by simp [slots, leT], ⟨[], rfl⟩, by simp, rfl, rfl⟩
  · exact ⟨hn2.1, ⟨Ow.nil, S'.le, fun g e => nomatch e⟩, by simp, (fun x hx => by simp at hx), by simp, S'⟩
  rintro ⟨i, o, C, d, ws, B'⟩ M3 ⟨hi, hN, hl, hz, hB', S3⟩
  have hi : (i : Int) ≤ n := hi
  have hN : New M (rm M3 g) o C d 1 stC ws := hN
  have hl : (ws.length : Int) ≤ i := hl
  have hz : StS ws := hz
  have hB' : B' = 1 + i := hB'
  have S3 : Sx B' M M3 g A c bs := S3
  clear s2 S2 S' S1
  conv => whnf
  refine caseB_dec (fun hb => ?_) (fun hb => ?_)
  · have hb : (0 : Int) < n - i := hb
    conv => whnf
    repeat' (first | (refine ⟨⟨[], rfl⟩, _, PH.Le.refl _, PH.Le.refl _, ?_⟩; conv => whnf) | (intro g' hg'; obtain ⟨M', hM, S', l', s'⟩ := buildW (cs := [Tx ⟨#[65, 99, 99, 101, 112, 116]⟩, Tx ⟨#[120, 45, 97]⟩, Tx ⟨#[65, 99, 99, 101, 112, 116, 45, 76, 97, 110, 103, 117, 97, 103, 101]⟩, Tx ⟨#[65, 99, 99, 101, 112, 116]⟩, Tx ⟨#[120, 45, 97]⟩, Tx ⟨#[86, 97, 114, 121]⟩, Tx ⟨#[97, 32, 98]⟩]) (t := 9) [⟨#[65, 99, 99, 101, 112, 116]⟩, ⟨#[120, 45, 97]⟩, ⟨#[65, 99, 99, 101, 112, 116, 45, 76, 97, 110, 103, 117, 97, 103, 101]⟩, ⟨#[65, 99, 99, 101, 112, 116]⟩, ⟨#[120, 45, 97]⟩, ⟨#[86, 97, 114, 121]⟩, ⟨#[97, 32, 98]⟩] rfl (by assumption) hg'; rw [← hM]; clear hM; (first | (refine ⟨⟨[], rfl⟩, _, PH.Le.refl _, bot_le _, ?_⟩; conv => whnf) | (refine ⟨⟨[], rfl⟩, _, l', rm_le _ _, ?_⟩; conv => whnf) | conv => whnf)) | (refine wordD [⟨#[65, 99, 99, 101, 112, 116]⟩, ⟨#[120, 45, 97]⟩, ⟨#[65, 99, 99, 101, 112, 116, 45, 76, 97, 110, 103, 117, 97, 103, 101]⟩, ⟨#[65, 99, 99, 101, 112, 116]⟩, ⟨#[120, 45, 97]⟩, ⟨#[86, 97, 114, 121]⟩, ⟨#[97, 32, 98]⟩] rfl (by assumption) (by first | assumption | exact Sl.mono (by assumption) (by repeat (first | exact PH.Le.refl _ | assumption | (apply PH.Le.trans; · assumption)))) (by decide) (by decide) (by omega) fun x M' hx S' l' => ?_; (first | (refine ⟨⟨[], rfl⟩, _, PH.Le.refl _, bot_le _, ?_⟩; conv => whnf) | (refine ⟨⟨[], rfl⟩, _, l', rm_le _ _, ?_⟩; conv => whnf) | conv => whnf)) | (intro g' hg'; obtain ⟨M', hM, S', l', s'⟩ := buildF (cs := [I (0), I (1), I (2), I (2), I (4), I (5)]) (t := 2) [0, 1, 2, 2, 4, 5] rfl (by assumption) hg'; rw [← hM]; clear hM; (first | (refine ⟨⟨[], rfl⟩, _, PH.Le.refl _, bot_le _, ?_⟩; conv => whnf) | (refine ⟨⟨[], rfl⟩, _, l', rm_le _ _, ?_⟩; conv => whnf) | conv => whnf)) | (refine pickD [0, 1, 2, 2, 4, 5] rfl (by assumption) (by first | assumption | exact Sl.mono (by assumption) (by repeat (first | exact PH.Le.refl _ | assumption | (apply PH.Le.trans; · assumption)))) (by simp) (by omega) fun x M' hx S' l' => ?_; (first | (refine ⟨⟨[], rfl⟩, _, PH.Le.refl _, bot_le _, ?_⟩; conv => whnf) | (refine ⟨⟨[], rfl⟩, _, l', rm_le _ _, ?_⟩; conv => whnf) | conv => whnf)) | (refine caseB_true ?_; conv => whnf) | (refine caseB_false ?_; conv => whnf) | ((with_reducible refine caseB_dec (fun h => ?_) (fun h => ?_)) <;> conv => whnf) | ((with_reducible refine caseB_ndec (fun h => ?_) (fun h => ?_)) <;> conv => whnf) | ((with_reducible refine caseB_not (fun h => ?_) (fun h => ?_)) <;> conv => whnf) | (with_reducible refine @And.intro (guardVC _ _ _ _ _) _ ?_ ?_) <;> conv => whnf | (refine caseB_intro (fun h => ?_) (fun h => ?_) <;> (try simp only [Bool.not_eq_true', Bool.not_eq_false', decide_eq_true_eq, decide_eq_false_iff_not] at h) <;> conv => whnf))
    intro g2 hg2
    obtain ⟨M4, hM, S4, l4, n4⟩ := rowF (cs := [Tx x]) (t := 9) x st_len rfl S' hg2
    rw [← hM]
    clear hM
    conv => whnf
    refine appendD (te := ti9) (f := stC) (xs := ws) (ys := [x]) S4 (n4.ow.sl st_len) (hN.to (PH.Le.trans (by repeat (first | exact PH.Le.refl _ | assumption | (apply PH.Le.trans; · assumption))) l4)) st_len st_one rfl (st_fits _ _ (by show _ + 1 ≤ _; omega)) (by show _ + 1 ≤ _; omega) fun o5 C5 d5 M5 N5 S5 k5 => ?_
    conv => whnf
    have hw : IntKind.i64.wrap (n - (i : Int) - 1) = n - ((i + 1 : Nat) : Int) := by rw [wrap_id (by omega) (by omega)]; omega
    refine ⟨(i + 1, o5, C5, d5, ws ++ [x], 1 + ((i + 1 : Nat) : Int)), ⟨by simp [slots, leT, hw], ⟨[], rfl⟩, by simp, rfl, rfl⟩, ⟨by show ((i + 1 : Nat) : Int) ≤ n; omega, N5, ?_, ?_, rfl, show Sx (1 + ((i + 1 : Nat) : Int)) M M5 g A c bs from S5.below (by omega)⟩, by show (n - ((i + 1 : Nat) : Int)).toNat < (n - i).toNat; omega⟩
    · show (((ws ++ [x]).length : Nat) : Int) ≤ ((i + 1 : Nat) : Int)
      rw [List.length_append]
      show ((ws.length + 1 : Nat) : Int) ≤ _
      omega
    · intro y hy
      rcases List.mem_append.1 hy with hy | hy
      · exact hz y hy
      · have : y = x := by simpa using hy
        subst this; assumption
  · have hb : ¬ (0 : Int) < n - i := hb
    conv => whnf
    refine ACall.step (l5Bent_ret S3 (by omega)) fun r M4 hh => ?_
    obtain ⟨q, A1, c1, rfl, _, _, S4, l4⟩ := hh
    have sN := (hN.ow.sl st_len).mono l4
    conv => whnf
    exact ⟨_, PH.Le.refl _, q, A1, c1, C, d, ws, rfl, sN.mono (rm_le _ g), by omega, hz, S4.le.trans (rm_le _ g)⟩
set_option maxHeartbeats 4000000 in
theorem drawVaryFits_ret (A : Option Addr) (c : Nat) (bs : List Int) (M : PH) (hb : Byt M A bs) :
    ACall env 19 [.slice A bs.length c] M fun r M' => ∃ (A1 : Option Addr) (c1 : Nat) (ws : List Hd) (A2 : Option Addr) (c2 : Nat) (ns : List ByteArray), r = .tuple #[.slice A1 ws.length c1, .slice A2 ns.length c2] ∧ Sl M' A1 2 Hd.cs ws ∧ ws.length ≤ 31 ∧ HdB ws ∧ Sl M' A2 1 stC ns ∧ ns.length ≤ 5 ∧ StS ns ∧ M.Le M' := by
  refine xcall_of_vc Tryz.func19 rfl _ Tryz.ntmps19 _ rfl (fun _ _ => Tryz.call19 _ _) rfl (fun w0 ρ0 => ?_)
  conv => whnf
  refine sourceD c hb fun g M1 hg S1 => ?_
  conv => whnf
  refine besideA S1 (drawFullKey_ret A c bs _ (S1.by_.mono S1.le)) (fun r M1 hh => by obtain ⟨q, A1, c1, A2, c2, ns, _, _, _, _, l⟩ := hh; exact S1.le.trans l) fun r N M2 hh lN S2 => ?_
  obtain ⟨q, Aq, cq, A2, c2, ns, rfl, sn, hn, hz, lM⟩ := hh
  have sn := sn.mono lN
  clear S1
  conv => whnf
  have T := S2.now
  have lT := S2.le
  refine ACall.step (l4Bent_ret T (by omega)) fun r M3 hh => ?_
  obtain ⟨o, C, d, ws, rfl, N3, hl3, hz3, S3, l3⟩ := hh
  have sn3 := sn.mono l3
  clear S2 T
  conv => whnf
  repeat' (first | (refine ⟨⟨[], rfl⟩, _, PH.Le.refl _, PH.Le.refl _, ?_⟩; conv => whnf) | (intro g' hg'; obtain ⟨M', hM, S', l', s'⟩ := buildW (cs := [Tx ⟨#[97, 99, 99, 101, 112, 116]⟩, Tx ⟨#[88, 45, 65]⟩, Tx ⟨#[97, 99, 99, 101, 112, 116, 44, 32, 120, 45, 97]⟩, Tx ⟨#[42]⟩, Tx ⟨#[]⟩, Tx ⟨#[97, 61, 98]⟩, Tx ⟨#[97, 32, 98]⟩, Tx ⟨#[44]⟩]) (t := 9) [⟨#[97, 99, 99, 101, 112, 116]⟩, ⟨#[88, 45, 65]⟩, ⟨#[97, 99, 99, 101, 112, 116, 44, 32, 120, 45, 97]⟩, ⟨#[42]⟩, ⟨#[]⟩, ⟨#[97, 61, 98]⟩, ⟨#[97, 32, 98]⟩, ⟨#[44]⟩] rfl (by assumption) hg'; rw [← hM]; clear hM; (first | (refine ⟨⟨[], rfl⟩, _, PH.Le.refl _, bot_le _, ?_⟩; conv => whnf) | (refine ⟨⟨[], rfl⟩, _, l', rm_le _ _, ?_⟩; conv => whnf) | conv => whnf)) | (refine wordD [⟨#[97, 99, 99, 101, 112, 116]⟩, ⟨#[88, 45, 65]⟩, ⟨#[97, 99, 99, 101, 112, 116, 44, 32, 120, 45, 97]⟩, ⟨#[42]⟩, ⟨#[]⟩, ⟨#[97, 61, 98]⟩, ⟨#[97, 32, 98]⟩, ⟨#[44]⟩] rfl (by assumption) (by first | assumption | exact Sl.mono (by assumption) (by repeat (first | exact PH.Le.refl _ | assumption | (apply PH.Le.trans; · assumption)))) (by decide) (by decide) (by omega) fun x M' hx S' l' => ?_; (first | (refine ⟨⟨[], rfl⟩, _, PH.Le.refl _, bot_le _, ?_⟩; conv => whnf) | (refine ⟨⟨[], rfl⟩, _, l', rm_le _ _, ?_⟩; conv => whnf) | conv => whnf)) | (refine chanceD (by assumption) (by omega) fun x M' S' l' => ?_; (first | (refine ⟨⟨[], rfl⟩, _, PH.Le.refl _, bot_le _, ?_⟩; conv => whnf) | (refine ⟨⟨[], rfl⟩, _, l', rm_le _ _, ?_⟩; conv => whnf) | conv => whnf)) | (refine caseB_true ?_; conv => whnf) | (refine caseB_false ?_; conv => whnf) | ((with_reducible refine caseB_dec (fun h => ?_) (fun h => ?_)) <;> conv => whnf) | ((with_reducible refine caseB_ndec (fun h => ?_) (fun h => ?_)) <;> conv => whnf) | ((with_reducible refine caseB_not (fun h => ?_) (fun h => ?_)) <;> conv => whnf) | (with_reducible refine @And.intro (guardVC _ _ _ _ _) _ ?_ ?_) <;> conv => whnf | (refine caseB_intro (fun h => ?_) (fun h => ?_) <;> (try simp only [Bool.not_eq_true', Bool.not_eq_false', decide_eq_true_eq, decide_eq_false_iff_not] at h) <;> conv => whnf))
  · intro g3 hg3
    refine hdApp ⟨⟨#[118, 97, 114, 121]⟩, x⟩ S' (N3.to (by repeat (first | exact PH.Le.refl _ | assumption | (apply PH.Le.trans; · assumption)))) (by omega) hg3 fun o7 C7 d7 M7 N7 S7 => ?_
    conv => whnf
    exact ⟨_, PH.Le.refl _, C7, d7, _, A2, c2, ns, rfl, (N7.ow.sl Hd.len).mono (rm_le _ g), by simp; omega, hz3.snoc (by dsimp only; decide) (by dsimp only; omega), (sn.mono N7.le).mono (rm_le _ g), hn, hz, (lT.trans N7.le).trans (rm_le _ g)⟩
  · exact ⟨_, PH.Le.refl _, C, d, ws, A2, c2, ns, rfl, ((N3.ow.sl Hd.len).mono (by repeat (first | exact PH.Le.refl _ | assumption | (apply PH.Le.trans; · assumption)))).mono (rm_le _ g), by omega, hz3, (sn3.mono (by repeat (first | exact PH.Le.refl _ | assumption | (apply PH.Le.trans; · assumption)))).mono (rm_le _ g), hn, hz, ((lT.trans l3).trans (by repeat (first | exact PH.Le.refl _ | assumption | (apply PH.Le.trans; · assumption)))).trans (rm_le _ g)⟩
set_option maxHeartbeats 4000000 in
theorem drawTagsOf_ret (A : Option Addr) (c : Nat) (bs : List Int) (M : PH) (hb : Byt M A bs) :
    ACall env 21 [.slice A bs.length c] M fun r M' => ∃ (A1 : Option Addr) (c1 : Nat) (ws : List Hd), r = .slice A1 ws.length c1 ∧ Sl M' A1 2 Hd.cs ws ∧ ws.length ≤ 31 ∧ HdB ws ∧ M.Le M' := by
  refine xcall_of_vc Tryz.func21 rfl _ Tryz.ntmps21 _ rfl (fun _ _ => Tryz.call21 _ _) rfl (fun w0 ρ0 => ?_)
  conv => whnf
  refine sourceD c hb fun g M1 hg S1 => ?_
  conv => whnf
  have T := S1.now
  have lT := S1.le
  refine ACall.step (l4Bent_ret T (by omega)) fun r M3 hh => ?_
  obtain ⟨o, C, d, ws, rfl, N3, hl3, hz3, S3, l3⟩ := hh
  clear S1 T
  conv => whnf
  repeat' (first | (refine ⟨⟨[], rfl⟩, _, PH.Le.refl _, PH.Le.refl _, ?_⟩; conv => whnf) | (intro g' hg'; obtain ⟨M', hM, S', l', s'⟩ := buildW (cs := [Tx ⟨#[97, 32, 32, 98]⟩, Tx ⟨#[]⟩, Tx ⟨#[97, 32, 98, 32, 99, 32, 100, 32, 101, 32, 102, 32, 103, 32, 104, 32, 105, 32, 106]⟩, Tx ⟨#[97, 32, 98, 32, 99, 32, 100, 32, 101, 32, 102, 32, 103, 32, 104, 32, 105, 32, 106, 32, 107]⟩, Tx ⟨#[97, 44, 98]⟩]) (t := 9) [⟨#[97, 32, 32, 98]⟩, ⟨#[]⟩, ⟨#[97, 32, 98, 32, 99, 32, 100, 32, 101, 32, 102, 32, 103, 32, 104, 32, 105, 32, 106]⟩, ⟨#[97, 32, 98, 32, 99, 32, 100, 32, 101, 32, 102, 32, 103, 32, 104, 32, 105, 32, 106, 32, 107]⟩, ⟨#[97, 44, 98]⟩] rfl (by assumption) hg'; rw [← hM]; clear hM; (first | (refine ⟨⟨[], rfl⟩, _, PH.Le.refl _, bot_le _, ?_⟩; conv => whnf) | (refine ⟨⟨[], rfl⟩, _, l', rm_le _ _, ?_⟩; conv => whnf) | conv => whnf)) | (refine wordD [⟨#[97, 32, 32, 98]⟩, ⟨#[]⟩, ⟨#[97, 32, 98, 32, 99, 32, 100, 32, 101, 32, 102, 32, 103, 32, 104, 32, 105, 32, 106]⟩, ⟨#[97, 32, 98, 32, 99, 32, 100, 32, 101, 32, 102, 32, 103, 32, 104, 32, 105, 32, 106, 32, 107]⟩, ⟨#[97, 44, 98]⟩] rfl (by assumption) (by first | assumption | exact Sl.mono (by assumption) (by repeat (first | exact PH.Le.refl _ | assumption | (apply PH.Le.trans; · assumption)))) (by decide) (by decide) (by omega) fun x M' hx S' l' => ?_; (first | (refine ⟨⟨[], rfl⟩, _, PH.Le.refl _, bot_le _, ?_⟩; conv => whnf) | (refine ⟨⟨[], rfl⟩, _, l', rm_le _ _, ?_⟩; conv => whnf) | conv => whnf)) | (refine chanceD (by assumption) (by omega) fun x M' S' l' => ?_; (first | (refine ⟨⟨[], rfl⟩, _, PH.Le.refl _, bot_le _, ?_⟩; conv => whnf) | (refine ⟨⟨[], rfl⟩, _, l', rm_le _ _, ?_⟩; conv => whnf) | conv => whnf)) | (refine caseB_true ?_; conv => whnf) | (refine caseB_false ?_; conv => whnf) | ((with_reducible refine caseB_dec (fun h => ?_) (fun h => ?_)) <;> conv => whnf) | ((with_reducible refine caseB_ndec (fun h => ?_) (fun h => ?_)) <;> conv => whnf) | ((with_reducible refine caseB_not (fun h => ?_) (fun h => ?_)) <;> conv => whnf) | (with_reducible refine @And.intro (guardVC _ _ _ _ _) _ ?_ ?_) <;> conv => whnf | (refine caseB_intro (fun h => ?_) (fun h => ?_) <;> (try simp only [Bool.not_eq_true', Bool.not_eq_false', decide_eq_true_eq, decide_eq_false_iff_not] at h) <;> conv => whnf))
  · intro g3 hg3
    refine hdApp ⟨⟨#[83, 117, 114, 114, 111, 103, 97, 116, 101, 45, 75, 101, 121]⟩, x⟩ S' (N3.to (by repeat (first | exact PH.Le.refl _ | assumption | (apply PH.Le.trans; · assumption)))) (by omega) hg3 fun o7 C7 d7 M7 N7 S7 => ?_
    conv => whnf
    exact ⟨_, PH.Le.refl _, C7, d7, _, rfl, (N7.ow.sl Hd.len).mono (rm_le _ g), by simp; omega, hz3.snoc (by dsimp only; decide) (by dsimp only; omega), (lT.trans N7.le).trans (rm_le _ g)⟩
  · exact ⟨_, PH.Le.refl _, C, d, ws, rfl, ((N3.ow.sl Hd.len).mono (by repeat (first | exact PH.Le.refl _ | assumption | (apply PH.Le.trans; · assumption)))).mono (rm_le _ g), by omega, hz3, ((lT.trans l3).trans (by repeat (first | exact PH.Le.refl _ | assumption | (apply PH.Le.trans; · assumption)))).trans (rm_le _ g)⟩
end Go.Proofs.YtdgipmlkkmmliaaGreatDoor
