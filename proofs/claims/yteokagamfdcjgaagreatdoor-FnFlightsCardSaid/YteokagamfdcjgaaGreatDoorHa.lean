/-
  DRAWS of requests and flights: whatever they are.
-/
import Derived.Test.YteokagamfdcjgaaGreatDoorEf
namespace Go.Proofs.YteokagamfdcjgaaGreatDoor
set_option maxRecDepth 100000
set_option linter.unusedSimpArgs false
set_option linter.unusedVariables false
open Go.Xe
theorem l12Waits_ret (C : Option Addr) (d : Nat) (ws : List Wr) (x : Int) (M : PH) (hs : Sl M C 4 Wr.cs ws) (hn : ws.length ≤ 1048576) : Ret 26 [.slice C ws.length d, I x] M (B (waitsT ws x)) := by
  refine xcall_of_vc Tryz.func26 rfl _ Tryz.ntmps26 _ rfl (fun _ _ => Tryz.call26 _ _) rfl (fun w0 ρ0 => ?_)
  conv => whnf
  refine loop_rule (fun i : Nat => ⟨slots 19 [(0, .v (.slice C ws.length d)), (1, .v (I x)), (4, .v (B false)), (5, .v (I i))], []⟩) (fun i M1 => i ≤ ws.length ∧ (∀ j, j < i → ∀ hj : j < ws.length, decide (ws[j].a = x) = false) ∧ M1 = M) (fun i => ws.length - i) 0 ?_ ?_ ?_
  · exact ⟨by simp [slots, leT], ⟨[], rfl⟩, Nat.zero_le _, rfl, rfl⟩
  · exact ⟨Nat.zero_le _, fun j hj => absurd hj (Nat.not_lt_zero _), rfl⟩
  rintro i M1 ⟨hi, hq, rfl⟩
  conv => whnf
  refine caseB_dec (fun h0 => ?_) (fun h0 => ?_)
  · have h0 : (i : Int) < ws.length := h0
    have hi' : i < ws.length := by omega
    have hw : IntKind.i64.wrap ((i : Int) + 1) = (i : Int) + 1 := wr_id (by omega) (by omega)
    obtain ⟨hA, _, hc⟩ := hs.get hi'
    have c0 : M1.cells C (i * 4) [I ws[i].a] := cells_cut hc 0 rfl
    conv => whnf
    refine ⟨by omega, by omega, hA, ?_⟩
    conv => whnf
    refine ⟨_, c0, ?_⟩
    conv => whnf
    refine caseB_dec (fun h1 => ?_) (fun h1 => ?_)
    · conv => whnf
      refine ⟨_, PH.Le.refl _, ?_, rfl⟩
      have : waitsT ws x = true := anyG_yes hi' (decide_eq_true h1)
      rw [this]; rfl
    · conv => whnf
      exact ⟨i + 1, ⟨by simp [slots, leT, hw], ⟨[], rfl⟩, Nat.zero_le _, rfl, rfl⟩, ⟨by omega, fun j hj hj2 => by
        rcases Nat.lt_succ_iff_lt_or_eq.1 hj with h2 | h2
        · exact hq j h2 hj2
        · subst h2; exact decide_eq_false h1, rfl⟩, by omega⟩
  · have hi' : i = ws.length := by have : ¬ (i : Int) < ws.length := h0; omega
    subst hi'
    conv => whnf
    refine ⟨_, PH.Le.refl _, ?_, rfl⟩
    have : waitsT ws x = false := anyG_no fun j hj => hq j hj hj
    rw [this]; rfl
abbrev rqB (q : Rq) (A' : Option Addr) (c' : Nat) : Box := ⟨26, [.v (Tx q.m), .v (Tx q.h), .v (Tx q.p), .v (.slice A' q.hs.length c')]⟩
theorem rq_cost {q : Rq} (h1 : q.m.size ≤ 300) (h2 : q.h.size ≤ 300) (h3 : q.p.size ≤ 300) (h4 : q.hs.length ≤ 30) (h5 : HdB q.hs) : q.cost ≤ 20000 := by
  have := costHdB q.hs h5
  unfold Rq.cost
  omega
theorem wr_fitsE (n m : Nat) (h : n + m ≤ 4194304) : (n + m) * ti31.bytes ≤ 140737488355328 := by
  unfold ti31
  show (n + m) * 32 ≤ _
  omega
abbrev flB (x : FlA) : Box := ⟨29, [.v (I x.c.id), .v (Tx x.c.key), .v (B x.c.back), .v (B x.c.out), .v (I x.c.due), .v (B x.c.doomed), .v (Tx x.c.get.m), .v (Tx x.c.get.h), .v (Tx x.c.get.p), .v (.slice x.hA x.c.get.hs.length x.hc), .v (.slice x.wA x.c.ws.length x.wc)]⟩
abbrev fl0 : FlA := ⟨⟨0, ByteArray.empty, false, false, 0, false, ⟨ByteArray.empty, ByteArray.empty, ByteArray.empty, []⟩, []⟩, none, 0, none, 0⟩
abbrev E6 := Nat × Option Nat × Option Addr × Nat × List Wr
section
variable {B : Int} {g g' : Nat} {M0 M : PH} {A : Option Addr} {c : Nat} {bs : List Int}
set_option maxHeartbeats 4000000 in
theorem l5Draw_ret (S : Sx B M0 M g A c bs) (hB : B ≤ 4294920000) :
    ACall env 54 [P0 g] M fun r M' => ∃ (q : Rq) (o : Option Nat) (A' : Option Addr) (c' : Nat), r = rqV q A' c' ∧ New (rm M g) (rm M' g) o A' c' 2 Hd.cs q.hs ∧ q.hs.length ≤ 2 ∧ HdS q.hs ∧ (q.m.size ≤ 80 ∧ q.h.size ≤ 80 ∧ q.p.size ≤ 80) ∧ Sx (B + 100) M0 M' g A c bs ∧ (rm M g).Le (rm M' g) := by
  refine xcall_of_vc Tryz.func54 rfl _ Tryz.ntmps54 _ rfl (fun _ _ => Tryz.call54 _ _) rfl (fun w0 ρ0 => ?_)
  conv => whnf
  repeat' (first | (refine ⟨⟨[], rfl⟩, _, PH.Le.refl _, PH.Le.refl _, ?_⟩; conv => whnf) | (intro g' hg'; obtain ⟨M', hM, S', l', s'⟩ := buildF (cs := [I (0), I (0), I (1), I (2)]) (t := 2) [0, 0, 1, 2] rfl (by assumption) hg'; rw [← hM]; clear hM; (first | (refine ⟨⟨[], rfl⟩, _, PH.Le.refl _, bot_le _, ?_⟩; conv => whnf) | (refine ⟨⟨[], rfl⟩, _, l', rm_le _ _, ?_⟩; conv => whnf) | conv => whnf)) | (refine pickD [0, 0, 1, 2] rfl (by assumption) (by first | assumption | exact Sl.mono (by assumption) (by repeat (first | exact PH.Le.refl _ | assumption | (apply PH.Le.trans; · assumption)))) (by simp) (by omega) fun x M' hx S' l' => ?_; (first | (refine ⟨⟨[], rfl⟩, _, PH.Le.refl _, bot_le _, ?_⟩; conv => whnf) | (refine ⟨⟨[], rfl⟩, _, l', rm_le _ _, ?_⟩; conv => whnf) | conv => whnf)) | (intro g' hg'; obtain ⟨M', hM, S', l', s'⟩ := buildW (cs := [Tx ⟨#[47]⟩, Tx ⟨#[47, 120]⟩, Tx ⟨#[47, 121, 63, 98, 61, 50, 38, 97, 61, 49]⟩, Tx ⟨#[47, 121, 63, 97, 61, 49, 38, 98, 61, 50]⟩, Tx ⟨#[47, 121, 63, 97, 61, 49, 38, 38, 98, 61, 50]⟩, Tx ⟨#[47, 122, 63]⟩, Tx ⟨#[47, 120]⟩]) (t := 9) [⟨#[47]⟩, ⟨#[47, 120]⟩, ⟨#[47, 121, 63, 98, 61, 50, 38, 97, 61, 49]⟩, ⟨#[47, 121, 63, 97, 61, 49, 38, 98, 61, 50]⟩, ⟨#[47, 121, 63, 97, 61, 49, 38, 38, 98, 61, 50]⟩, ⟨#[47, 122, 63]⟩, ⟨#[47, 120]⟩] rfl (by assumption) hg'; rw [← hM]; clear hM; (first | (refine ⟨⟨[], rfl⟩, _, PH.Le.refl _, bot_le _, ?_⟩; conv => whnf) | (refine ⟨⟨[], rfl⟩, _, l', rm_le _ _, ?_⟩; conv => whnf) | conv => whnf)) | (refine wordD [⟨#[47]⟩, ⟨#[47, 120]⟩, ⟨#[47, 121, 63, 98, 61, 50, 38, 97, 61, 49]⟩, ⟨#[47, 121, 63, 97, 61, 49, 38, 98, 61, 50]⟩, ⟨#[47, 121, 63, 97, 61, 49, 38, 38, 98, 61, 50]⟩, ⟨#[47, 122, 63]⟩, ⟨#[47, 120]⟩] rfl (by assumption) (by first | assumption | exact Sl.mono (by assumption) (by repeat (first | exact PH.Le.refl _ | assumption | (apply PH.Le.trans; · assumption)))) (by decide) (by decide) (by omega) fun x M' hx S' l' => ?_; (first | (refine ⟨⟨[], rfl⟩, _, PH.Le.refl _, bot_le _, ?_⟩; conv => whnf) | (refine ⟨⟨[], rfl⟩, _, l', rm_le _ _, ?_⟩; conv => whnf) | conv => whnf)) | (intro g' hg'; obtain ⟨M', hM, S', l', s'⟩ := buildW (cs := [Tx ⟨#[97, 46, 99, 111, 109]⟩, Tx ⟨#[65, 46, 99, 111, 109]⟩, Tx ⟨#[98, 46, 111, 114, 103]⟩]) (t := 9) [⟨#[97, 46, 99, 111, 109]⟩, ⟨#[65, 46, 99, 111, 109]⟩, ⟨#[98, 46, 111, 114, 103]⟩] rfl (by assumption) hg'; rw [← hM]; clear hM; (first | (refine ⟨⟨[], rfl⟩, _, PH.Le.refl _, bot_le _, ?_⟩; conv => whnf) | (refine ⟨⟨[], rfl⟩, _, l', rm_le _ _, ?_⟩; conv => whnf) | conv => whnf)) | (refine wordD [⟨#[97, 46, 99, 111, 109]⟩, ⟨#[65, 46, 99, 111, 109]⟩, ⟨#[98, 46, 111, 114, 103]⟩] rfl (by assumption) (by first | assumption | exact Sl.mono (by assumption) (by repeat (first | exact PH.Le.refl _ | assumption | (apply PH.Le.trans; · assumption)))) (by decide) (by decide) (by omega) fun x M' hx S' l' => ?_; (first | (refine ⟨⟨[], rfl⟩, _, PH.Le.refl _, bot_le _, ?_⟩; conv => whnf) | (refine ⟨⟨[], rfl⟩, _, l', rm_le _ _, ?_⟩; conv => whnf) | conv => whnf)) | (intro g' hg'; obtain ⟨M', hM, S', l', s'⟩ := buildW (cs := [Tx ⟨#[71, 69, 84]⟩, Tx ⟨#[71, 69, 84]⟩, Tx ⟨#[71, 69, 84]⟩, Tx ⟨#[72, 69, 65, 68]⟩]) (t := 9) [⟨#[71, 69, 84]⟩, ⟨#[71, 69, 84]⟩, ⟨#[71, 69, 84]⟩, ⟨#[72, 69, 65, 68]⟩] rfl (by assumption) hg'; rw [← hM]; clear hM; (first | (refine ⟨⟨[], rfl⟩, _, PH.Le.refl _, bot_le _, ?_⟩; conv => whnf) | (refine ⟨⟨[], rfl⟩, _, l', rm_le _ _, ?_⟩; conv => whnf) | conv => whnf)) | (refine wordD [⟨#[71, 69, 84]⟩, ⟨#[71, 69, 84]⟩, ⟨#[71, 69, 84]⟩, ⟨#[72, 69, 65, 68]⟩] rfl (by assumption) (by first | assumption | exact Sl.mono (by assumption) (by repeat (first | exact PH.Le.refl _ | assumption | (apply PH.Le.trans; · assumption)))) (by decide) (by decide) (by omega) fun x M' hx S' l' => ?_; (first | (refine ⟨⟨[], rfl⟩, _, PH.Le.refl _, bot_le _, ?_⟩; conv => whnf) | (refine ⟨⟨[], rfl⟩, _, l', rm_le _ _, ?_⟩; conv => whnf) | conv => whnf)) | (refine caseB_true ?_; conv => whnf) | (refine caseB_false ?_; conv => whnf) | ((with_reducible refine caseB_dec (fun h => ?_) (fun h => ?_)) <;> conv => whnf) | ((with_reducible refine caseB_ndec (fun h => ?_) (fun h => ?_)) <;> conv => whnf) | ((with_reducible refine caseB_not (fun h => ?_) (fun h => ?_)) <;> conv => whnf) | (with_reducible refine @And.intro (guardVC _ _ _ _ _) _ ?_ ?_) <;> conv => whnf | (refine caseB_intro (fun h => ?_) (fun h => ?_) <;> (try simp only [Bool.not_eq_true', Bool.not_eq_false', decide_eq_true_eq, decide_eq_false_iff_not] at h) <;> conv => whnf))
  have hx2 : 0 ≤ x ∧ x ≤ 2 := by
    simp only [List.mem_cons, List.not_mem_nil, or_false] at hx
    omega
  have lL : (rm M g).Le (rm M' g) := (by repeat (first | exact PH.Le.refl _ | assumption | (apply PH.Le.trans; · assumption)))
  refine ACall.step (l4Draw_ret x hx2.1 (by omega) S' (by omega)) fun r M7 hh => ?_
  obtain ⟨o, C, d, ws, rfl, N, hl, hz, S7, l7⟩ := hh
  conv => whnf
  exact ⟨_, PH.Le.refl _, ⟨_, _, _, ws⟩, o, C, d, rfl, N.from lL, by show ws.length ≤ 2; omega, hz, ⟨by assumption, by assumption, by assumption⟩, S7.below (by omega), lL.trans l7⟩
theorem l12Waiter_ret (S : Sx B M0 M g A c bs) (hB : B ≤ 4294920000) :
    ACall env 15 [P0 g] M fun r M' => ∃ w : Wr, r = w.val ∧ Sx (B + 4) M0 M' g A c bs ∧ (rm M g).Le (rm M' g) := by
  refine xcall_of_vc Tryz.func15 rfl _ Tryz.ntmps15 _ rfl (fun _ _ => Tryz.call15 _ _) rfl (fun w0 ρ0 => ?_)
  conv => whnf
  repeat' (first | (refine ⟨⟨[], rfl⟩, _, PH.Le.refl _, PH.Le.refl _, ?_⟩; conv => whnf) | (intro g' hg'; obtain ⟨M', hM, S', l', s'⟩ := buildF (cs := [I (0), I (500), I (1000), I (2000)]) (t := 2) [0, 500, 1000, 2000] rfl (by assumption) hg'; rw [← hM]; clear hM; (first | (refine ⟨⟨[], rfl⟩, _, PH.Le.refl _, bot_le _, ?_⟩; conv => whnf) | (refine ⟨⟨[], rfl⟩, _, l', rm_le _ _, ?_⟩; conv => whnf) | conv => whnf)) | (refine pickD [0, 500, 1000, 2000] rfl (by assumption) (by first | assumption | exact Sl.mono (by assumption) (by repeat (first | exact PH.Le.refl _ | assumption | (apply PH.Le.trans; · assumption)))) (by simp) (by omega) fun x M' hx S' l' => ?_; (first | (refine ⟨⟨[], rfl⟩, _, PH.Le.refl _, bot_le _, ?_⟩; conv => whnf) | (refine ⟨⟨[], rfl⟩, _, l', rm_le _ _, ?_⟩; conv => whnf) | conv => whnf)) | (refine chanceD (by assumption) (by omega) fun x M' S' l' => ?_; (first | (refine ⟨⟨[], rfl⟩, _, PH.Le.refl _, bot_le _, ?_⟩; conv => whnf) | (refine ⟨⟨[], rfl⟩, _, l', rm_le _ _, ?_⟩; conv => whnf) | conv => whnf)) | (refine nextD (40) (by assumption) (by omega) fun x M' hx S' l' => ?_; (first | (refine ⟨⟨[], rfl⟩, _, PH.Le.refl _, bot_le _, ?_⟩; conv => whnf) | (refine ⟨⟨[], rfl⟩, _, l', rm_le _ _, ?_⟩; conv => whnf) | conv => whnf)) | (refine caseB_true ?_; conv => whnf) | (refine caseB_false ?_; conv => whnf) | ((with_reducible refine caseB_dec (fun h => ?_) (fun h => ?_)) <;> conv => whnf) | ((with_reducible refine caseB_ndec (fun h => ?_) (fun h => ?_)) <;> conv => whnf) | ((with_reducible refine caseB_not (fun h => ?_) (fun h => ?_)) <;> conv => whnf) | (with_reducible refine @And.intro (guardVC _ _ _ _ _) _ ?_ ?_) <;> conv => whnf | (refine caseB_intro (fun h => ?_) (fun h => ?_) <;> (try simp only [Bool.not_eq_true', Bool.not_eq_false', decide_eq_true_eq, decide_eq_false_iff_not] at h) <;> conv => whnf))
  exact ⟨_, PH.Le.refl _, ⟨_, _, _, _⟩, rfl, Sx.below (by assumption) (by omega), (by repeat (first | exact PH.Le.refl _ | assumption | (apply PH.Le.trans; · assumption)))⟩
set_option maxHeartbeats 8000000 in
theorem l5Bent_ret (S : Sx B M0 M g A c bs) (hB : B ≤ 4294910000) :
    ACall env 38 [P0 g] M fun r M' => ∃ (q : Rq) (A' : Option Addr) (c' : Nat), r = rqV q A' c' ∧ Sl (rm M' g) A' 2 Hd.cs q.hs ∧ q.cost ≤ 20000 ∧ Sx (B + 3000) M0 M' g A c bs ∧ (rm M g).Le (rm M' g) := by
  refine xcall_of_vc Tryz.func38 rfl _ Tryz.ntmps38 _ rfl (fun _ _ => Tryz.call38 _ _) rfl (fun w0 ρ0 => ?_)
  conv => whnf
  have T := S.now
  refine ACall.step (l5Draw_ret T (by omega)) fun r M1 hh => ?_
  obtain ⟨⟨m, ho, p, hs⟩, o, C, d, rfl, N, hl, hz, hq, S1, l1⟩ := hh
  have hl : hs.length ≤ 2 := hl
  have hz : HdB hs := HdS.big hz
  have hq : m.size ≤ 80 ∧ ho.size ≤ 80 ∧ p.size ≤ 80 := hq
  obtain ⟨hm, hho, hp⟩ := hq
  have N : New (rm M g) (rm M1 g) o C d 2 Hd.cs hs := N
  have sC := N.ow.sl Hd.len
  clear T
  conv => whnf
  refine nextD 14 S1 (by omega) fun x M2 _ S2 l2 => ?_
  have N2 := N.to l2
  have sC2 := sC.mono l2
  clear S1
  conv => whnf
  repeat' (first | (refine ⟨⟨[], rfl⟩, _, PH.Le.refl _, PH.Le.refl _, ?_⟩; conv => whnf) | (intro g' hg'; obtain ⟨M', hM, S', l', s'⟩ := buildF (cs := [I (100), I (101)]) (t := 2) [100, 101] rfl (by assumption) hg'; rw [← hM]; clear hM; (first | (refine ⟨⟨[], rfl⟩, _, PH.Le.refl _, bot_le _, ?_⟩; conv => whnf) | (refine ⟨⟨[], rfl⟩, _, l', rm_le _ _, ?_⟩; conv => whnf) | conv => whnf)) | (refine pickD [100, 101] rfl (by assumption) (by first | assumption | exact Sl.mono (by assumption) (by repeat (first | exact PH.Le.refl _ | assumption | (apply PH.Le.trans; · assumption)))) (by simp) (by omega) fun x M' hx S' l' => ?_; (first | (refine ⟨⟨[], rfl⟩, _, PH.Le.refl _, bot_le _, ?_⟩; conv => whnf) | (refine ⟨⟨[], rfl⟩, _, l', rm_le _ _, ?_⟩; conv => whnf) | conv => whnf)) | (intro g' hg'; obtain ⟨M', hM, S', l', s'⟩ := buildW (cs := [Tx ⟨#[]⟩, Tx ⟨#[120]⟩, Tx ⟨#[47, 97, 32, 98]⟩, Tx ⟨#[47, 1]⟩, Tx ⟨#[47, 97, 34, 98]⟩]) (t := 9) [⟨#[]⟩, ⟨#[120]⟩, ⟨#[47, 97, 32, 98]⟩, ⟨#[47, 1]⟩, ⟨#[47, 97, 34, 98]⟩] rfl (by assumption) hg'; rw [← hM]; clear hM; (first | (refine ⟨⟨[], rfl⟩, _, PH.Le.refl _, bot_le _, ?_⟩; conv => whnf) | (refine ⟨⟨[], rfl⟩, _, l', rm_le _ _, ?_⟩; conv => whnf) | conv => whnf)) | (refine wordD [⟨#[]⟩, ⟨#[120]⟩, ⟨#[47, 97, 32, 98]⟩, ⟨#[47, 1]⟩, ⟨#[47, 97, 34, 98]⟩] rfl (by assumption) (by first | assumption | exact Sl.mono (by assumption) (by repeat (first | exact PH.Le.refl _ | assumption | (apply PH.Le.trans; · assumption)))) (by decide) (by decide) (by omega) fun x M' hx S' l' => ?_; (first | (refine ⟨⟨[], rfl⟩, _, PH.Le.refl _, bot_le _, ?_⟩; conv => whnf) | (refine ⟨⟨[], rfl⟩, _, l', rm_le _ _, ?_⟩; conv => whnf) | conv => whnf)) | (intro g' hg'; obtain ⟨M', hM, S', l', s'⟩ := buildW (cs := [Tx ⟨#[]⟩, Tx ⟨#[97, 32, 98]⟩, Tx ⟨#[97, 47, 98]⟩, Tx ⟨#[97, 46, 99, 111, 109, 58, 56, 48]⟩]) (t := 9) [⟨#[]⟩, ⟨#[97, 32, 98]⟩, ⟨#[97, 47, 98]⟩, ⟨#[97, 46, 99, 111, 109, 58, 56, 48]⟩] rfl (by assumption) hg'; rw [← hM]; clear hM; (first | (refine ⟨⟨[], rfl⟩, _, PH.Le.refl _, bot_le _, ?_⟩; conv => whnf) | (refine ⟨⟨[], rfl⟩, _, l', rm_le _ _, ?_⟩; conv => whnf) | conv => whnf)) | (refine wordD [⟨#[]⟩, ⟨#[97, 32, 98]⟩, ⟨#[97, 47, 98]⟩, ⟨#[97, 46, 99, 111, 109, 58, 56, 48]⟩] rfl (by assumption) (by first | assumption | exact Sl.mono (by assumption) (by repeat (first | exact PH.Le.refl _ | assumption | (apply PH.Le.trans; · assumption)))) (by decide) (by decide) (by omega) fun x M' hx S' l' => ?_; (first | (refine ⟨⟨[], rfl⟩, _, PH.Le.refl _, bot_le _, ?_⟩; conv => whnf) | (refine ⟨⟨[], rfl⟩, _, l', rm_le _ _, ?_⟩; conv => whnf) | conv => whnf)) | (intro g' hg'; obtain ⟨M', hM, S', l', s'⟩ := buildW (cs := [Tx ⟨#[80, 79, 83, 84]⟩, Tx ⟨#[103, 101, 116]⟩, Tx ⟨#[]⟩]) (t := 9) [⟨#[80, 79, 83, 84]⟩, ⟨#[103, 101, 116]⟩, ⟨#[]⟩] rfl (by assumption) hg'; rw [← hM]; clear hM; (first | (refine ⟨⟨[], rfl⟩, _, PH.Le.refl _, bot_le _, ?_⟩; conv => whnf) | (refine ⟨⟨[], rfl⟩, _, l', rm_le _ _, ?_⟩; conv => whnf) | conv => whnf)) | (refine wordD [⟨#[80, 79, 83, 84]⟩, ⟨#[103, 101, 116]⟩, ⟨#[]⟩] rfl (by assumption) (by first | assumption | exact Sl.mono (by assumption) (by repeat (first | exact PH.Le.refl _ | assumption | (apply PH.Le.trans; · assumption)))) (by decide) (by decide) (by omega) fun x M' hx S' l' => ?_; (first | (refine ⟨⟨[], rfl⟩, _, PH.Le.refl _, bot_le _, ?_⟩; conv => whnf) | (refine ⟨⟨[], rfl⟩, _, l', rm_le _ _, ?_⟩; conv => whnf) | conv => whnf)) | (refine caseB_true ?_; conv => whnf) | (refine caseB_false ?_; conv => whnf) | ((with_reducible refine caseB_dec (fun h => ?_) (fun h => ?_)) <;> conv => whnf) | ((with_reducible refine caseB_ndec (fun h => ?_) (fun h => ?_)) <;> conv => whnf) | ((with_reducible refine caseB_not (fun h => ?_) (fun h => ?_)) <;> conv => whnf) | (with_reducible refine @And.intro (guardVC _ _ _ _ _) _ ?_ ?_) <;> conv => whnf | (refine caseB_intro (fun h => ?_) (fun h => ?_) <;> (try simp only [Bool.not_eq_true', Bool.not_eq_false', decide_eq_true_eq, decide_eq_false_iff_not] at h) <;> conv => whnf))
  all_goals try first
    | exact ⟨_, PH.Le.refl _, ⟨x, ho, p, hs⟩, C, d, rfl, sC2.mono (by repeat (first | exact PH.Le.refl _ | assumption | (apply PH.Le.trans; · assumption))), rq_cost (by dsimp only; omega) (by dsimp only; omega) (by dsimp only; omega) (by show hs.length ≤ 30; omega) hz, S.back (Sx.below (by assumption) (by omega)), (by repeat (first | exact PH.Le.refl _ | assumption | (apply PH.Le.trans; · assumption)))⟩
    | exact ⟨_, PH.Le.refl _, ⟨m, x, p, hs⟩, C, d, rfl, sC2.mono (by repeat (first | exact PH.Le.refl _ | assumption | (apply PH.Le.trans; · assumption))), rq_cost (by dsimp only; omega) (by dsimp only; omega) (by dsimp only; omega) (by show hs.length ≤ 30; omega) hz, S.back (Sx.below (by assumption) (by omega)), (by repeat (first | exact PH.Le.refl _ | assumption | (apply PH.Le.trans; · assumption)))⟩
    | exact ⟨_, PH.Le.refl _, ⟨m, ho, x, hs⟩, C, d, rfl, sC2.mono (by repeat (first | exact PH.Le.refl _ | assumption | (apply PH.Le.trans; · assumption))), rq_cost (by dsimp only; omega) (by dsimp only; omega) (by dsimp only; omega) (by show hs.length ≤ 30; omega) hz, S.back (Sx.below (by assumption) (by omega)), (by repeat (first | exact PH.Le.refl _ | assumption | (apply PH.Le.trans; · assumption)))⟩
    | exact ⟨_, PH.Le.refl _, ⟨m, ho, p, hs⟩, C, d, rfl, sC2.mono (by repeat (first | exact PH.Le.refl _ | assumption | (apply PH.Le.trans; · assumption))), rq_cost (by dsimp only; omega) (by dsimp only; omega) (by dsimp only; omega) (by show hs.length ≤ 30; omega) hz, S.back (Sx.below (by assumption) (by omega)), (by repeat (first | exact PH.Le.refl _ | assumption | (apply PH.Le.trans; · assumption)))⟩
  · intro g3 hg3
    refine hdApp ⟨⟨#[104, 79, 83, 84]⟩, ⟨#[113]⟩⟩ S2 N2 (by omega) hg3 fun o7 C7 d7 M7 N7 S7 => ?_
    conv => whnf
    have l7 := N7.le
    exact ⟨_, PH.Le.refl _, ⟨m, ho, p, hs ++ [⟨⟨#[104, 79, 83, 84]⟩, ⟨#[113]⟩⟩]⟩, C7, d7, rfl, N7.ow.sl Hd.len, rq_cost (by dsimp only; omega) (by dsimp only; omega) (by dsimp only; omega) (by show (hs ++ [_]).length ≤ 30; simp; omega) (hz.snoc (by dsimp only; decide) (by dsimp only; decide)), S.back (S7.below (by omega)), l7⟩
  · refine ACall.step (l4Bent_ret S2 (by omega)) fun r M3 hh => ?_
    obtain ⟨o7, C7, d7, ws, rfl, N7, hl7, hz7, S7, l7⟩ := hh
    conv => whnf
    exact ⟨_, PH.Le.refl _, ⟨m, ho, p, ws⟩, C7, d7, rfl, N7.ow.sl Hd.len, rq_cost (by dsimp only; omega) (by dsimp only; omega) (by dsimp only; omega) hl7 hz7, S.back (S7.below (by omega)), (l1.trans l2).trans l7⟩
  · have hx2 : 0 ≤ x ∧ x ≤ 101 := by
      simp only [List.mem_cons, List.not_mem_nil, or_false] at hx
      omega
    have lL : (rm M g).Le (rm M' g) := (by repeat (first | exact PH.Le.refl _ | assumption | (apply PH.Le.trans; · assumption)))
    have sL : Sl (rm M' g) C 2 Hd.cs hs := sC2.mono (by repeat (first | exact PH.Le.refl _ | assumption | (apply PH.Le.trans; · assumption)))
    refine loop_rule (fun z : ByteArray => ⟨slots 55 [(0, .v (P0 g)), (2, .bp 0 0), (3, .bp 1 0), (4, .v (I x))], [rqB ⟨ByteArray.empty, ByteArray.empty, ByteArray.empty, []⟩ none 0, rqB ⟨m, ho, z, hs⟩ C d]⟩)
      (fun z M1 => z.size ≤ 101 ∧ M1 = M') (fun z => 300 - z.size) p ?_ ?_ ?_
    · exact ⟨by simp [slots, leT], ⟨[], rfl⟩, by simp, rfl, rfl⟩
    · exact ⟨by omega, rfl⟩
    rintro t M7 ⟨ht, rfl⟩
    conv => whnf
    refine caseB_dec (fun hb => ?_) (fun hb => ?_)
    · have hb : (t.size : Int) < x := hb
      conv => whnf
      refine ⟨cat_fitsE (by show t.size + 1 ≤ _; omega), ?_⟩
      conv => whnf
      have hs7 : (t ++ (⟨#[112]⟩ : ByteArray)).size = t.size + 1 := by rw [ByteArray.size_append]; rfl
      exact ⟨t ++ ⟨#[112]⟩, ⟨by simp [slots, leT], ⟨[], rfl⟩, by simp, rfl, rfl⟩, ⟨by omega, rfl⟩, by omega⟩
    · conv => whnf
      exact ⟨_, PH.Le.refl _, ⟨m, ho, t, hs⟩, C, d, rfl, sL, rq_cost (by dsimp only; omega) (by dsimp only; omega) (by dsimp only; omega) (by show hs.length ≤ 30; omega) hz, S.back (S'.below (by omega)), lL⟩
theorem wrApp {K : AV → PH → Prop} {R : PH} {o : Option Nat} {C : Option Addr} {d : Nat} {ws : List Wr} {e : TypeId} {g2 : Nat} {t : TypeId} (x : Wr) (S : Sx B R M g A c bs) (N : New R (rm M g) o C d 4 Wr.cs ws) (hl : ws.length ≤ 1000) (hg2 : M g2 = none)
    (hk : ∀ o' C' d' M', New R (rm M' g) o' C' d' 4 Wr.cs (ws ++ [x]) → Sx B R M' g A c bs → K (.v (.slice C' (ws ++ [x]).length d')) M') :
    ∃ news : List Value, news.length = 1 * ti31.size ∧ ((1 : Nat) = 0 ∨ (M.set g2 (.cells #[I x.a, Value.bool x.h, I x.d, Value.bool x.l] t (0, 0))).cells (some ⟨g2, 0, none⟩) 0 news) ∧ appVC ti31 e C ws.length d 1 news (M.set g2 (.cells #[I x.a, Value.bool x.h, I x.d, Value.bool x.l] t (0, 0))) K := by
  obtain ⟨M4, hM, S4, l4, n4⟩ := rowF (cs := [I x.a, Value.bool x.h, I x.d, Value.bool x.l]) (t := t) x Wr.len rfl S hg2
  have hM : M4 = M.set g2 (.cells #[I x.a, Value.bool x.h, I x.d, Value.bool x.l] t (0, 0)) := hM
  rw [← hM]
  exact appendD (te := ti31) (f := Wr.cs) (xs := ws) (ys := [x]) S4 (n4.ow.sl Wr.len) (N.to l4) Wr.len Wr.one rfl (wr_fitsE _ _ (by show _ + 1 ≤ _; omega)) (by show _ + 1 ≤ _; omega) fun o' C' d' M' N' S' _ => hk o' C' d' M' N' S'
set_option maxHeartbeats 8000000 in
theorem l12Flight_ret (S : Sx B M0 M g A c bs) (hB : B ≤ 4294910000) :
    ACall env 36 [P0 g] M fun r M' => ∃ (y : FlA) (N : PH) (o : Option Nat), r = y.val ∧ (rm M g).Le N ∧ Sl N y.hA 2 Hd.cs y.c.get.hs ∧ New N (rm M' g) o y.wA y.wc 4 Wr.cs y.c.ws ∧ y.c.ws.length ≤ 10 ∧ y.c.get.cost ≤ 20000 ∧ y.c.key.size ≤ 80 ∧ Sx (B + 300) N M' g A c bs := by
  refine xcall_of_vc Tryz.func36 rfl _ Tryz.ntmps36 _ rfl (fun _ _ => Tryz.call36 _ _) rfl (fun w0 ρ0 => ?_)
  conv => whnf
  refine nextD 30 S (by omega) fun i1 M1 _ S1 l1 => ?_
  conv => whnf
  refine ACall.step (l8Key_ret S1 (by omega)) fun r M2 hh => ?_
  obtain ⟨k, rfl, hk, S2, l2⟩ := hh
  conv => whnf
  refine chanceD S2 (by omega) fun b3 M3 S3 l3 => ?_
  conv => whnf
  refine chanceD S3 (by omega) fun b4 M4 S4 l4 => ?_
  conv => whnf
  refine ACall.step (l5Draw_ret S4 (by omega)) fun r M5 hh => ?_
  obtain ⟨⟨qm, qh, qp, hs⟩, o5, A5, c5, rfl, N5, hl5, hz5, hq5, S5, l5⟩ := hh
  have s5 := N5.ow.sl Hd.len
  have hqc : Rq.cost ⟨qm, qh, qp, hs⟩ ≤ 20000 := rq_cost (by omega) (by omega) (by omega) (by omega) hz5.big
  have L5 := (((l1.trans l2).trans l3).trans l4).trans l5
  conv => whnf
  refine chanceD S5 (by omega) fun b6 M6 S6 l6 => ?_
  have T6 := S6.now
  have L6 := L5.trans l6
  have s6 := s5.mono l6
  clear S S1 S2 S3 S4 S5 S6
  conv => whnf
  cases b4 with
  | true =>
    refine caseB_true ?_
    conv => whnf
    intro g7 hg7
    obtain ⟨M7, hM, S7, l7, s7⟩ := buildF (cs := [I 0, I 700, I 3000]) (t := 2) [0, 700, 3000] rfl T6 hg7
    rw [← hM]; clear hM
    conv => whnf
    refine pickD [0, 700, 3000] rfl S7 s7 (by simp) (by omega) fun due M8 _ S8 l8 => ?_
    clear T6 S7
    conv => whnf
    repeat' (first | (refine ⟨⟨[], rfl⟩, _, PH.Le.refl _, PH.Le.refl _, ?_⟩; conv => whnf) | (intro g' hg'; obtain ⟨M', hM, S', l', s'⟩ := buildF (cs := [I (0), I (1), I (2), I (4), I (10)]) (t := 2) [0, 1, 2, 4, 10] rfl (by assumption) hg'; rw [← hM]; clear hM; (first | (refine ⟨⟨[], rfl⟩, _, PH.Le.refl _, bot_le _, ?_⟩; conv => whnf) | (refine ⟨⟨[], rfl⟩, _, l', rm_le _ _, ?_⟩; conv => whnf) | conv => whnf)) | (refine pickD [0, 1, 2, 4, 10] rfl (by assumption) (by first | assumption | exact Sl.mono (by assumption) (by repeat (first | exact PH.Le.refl _ | assumption | (apply PH.Le.trans; · assumption)))) (by simp) (by omega) fun x M' hx S' l' => ?_; (first | (refine ⟨⟨[], rfl⟩, _, PH.Le.refl _, bot_le _, ?_⟩; conv => whnf) | (refine ⟨⟨[], rfl⟩, _, l', rm_le _ _, ?_⟩; conv => whnf) | conv => whnf)) | (intro g' hg'; obtain ⟨M', hM, S', l', s'⟩ := buildF (cs := [I (0), I (700), I (3000)]) (t := 2) [0, 700, 3000] rfl (by assumption) hg'; rw [← hM]; clear hM; (first | (refine ⟨⟨[], rfl⟩, _, PH.Le.refl _, bot_le _, ?_⟩; conv => whnf) | (refine ⟨⟨[], rfl⟩, _, l', rm_le _ _, ?_⟩; conv => whnf) | conv => whnf)) | (refine pickD [0, 700, 3000] rfl (by assumption) (by first | assumption | exact Sl.mono (by assumption) (by repeat (first | exact PH.Le.refl _ | assumption | (apply PH.Le.trans; · assumption)))) (by simp) (by omega) fun x M' hx S' l' => ?_; (first | (refine ⟨⟨[], rfl⟩, _, PH.Le.refl _, bot_le _, ?_⟩; conv => whnf) | (refine ⟨⟨[], rfl⟩, _, l', rm_le _ _, ?_⟩; conv => whnf) | conv => whnf)) | (refine caseB_true ?_; conv => whnf) | (refine caseB_false ?_; conv => whnf) | ((with_reducible refine caseB_dec (fun h => ?_) (fun h => ?_)) <;> conv => whnf) | ((with_reducible refine caseB_ndec (fun h => ?_) (fun h => ?_)) <;> conv => whnf) | ((with_reducible refine caseB_not (fun h => ?_) (fun h => ?_)) <;> conv => whnf) | (with_reducible refine @And.intro (guardVC _ _ _ _ _) _ ?_ ?_) <;> conv => whnf | (refine caseB_intro (fun h => ?_) (fun h => ?_) <;> (try simp only [Bool.not_eq_true', Bool.not_eq_false', decide_eq_true_eq, decide_eq_false_iff_not] at h) <;> conv => whnf))
    have hx2 : 0 ≤ x ∧ x ≤ 10 := by
      simp only [List.mem_cons, List.not_mem_nil, or_false] at hx
      omega
    refine loop_rule (fun z : E6 => ⟨slots 47 [(0, .v (P0 g)), (2, .bp 0 0), (3, .bp 1 0), (4, .v (I z.1))], [flB fl0, flB ⟨⟨i1, k, b3, true, due, b6, ⟨qm, qh, qp, hs⟩, z.2.2.2.2⟩, A5, c5, z.2.2.1, z.2.2.2.1⟩]⟩)
      (fun z M' => z.1 + z.2.2.2.2.length ≤ 10 ∧ New (rm M6 g) (rm M' g) z.2.1 z.2.2.1 z.2.2.2.1 4 Wr.cs z.2.2.2.2 ∧ Sx (B + 250 - 4 * z.1) (rm M6 g) M' g A c bs) (fun z => z.1) (x.toNat, none, none, 0, []) ?_ ?_ ?_
    · exact ⟨by simp [slots, leT]; omega, ⟨[], rfl⟩, Nat.zero_le _, rfl, rfl⟩
    · exact ⟨by show x.toNat + 0 ≤ 10; omega, ⟨Ow.nil, S'.le, fun g e => nomatch e⟩, S'.below (by show _ ≤ B + 250 - 4 * ((x.toNat : Nat) : Int); omega)⟩
    rintro ⟨m, o, C, d, ws⟩ M8 ⟨hm, N8, S8⟩
    have hm : m + ws.length ≤ 10 := hm
    have N8 : New (rm M6 g) (rm M8 g) o C d 4 Wr.cs ws := N8
    have S8 : Sx (B + 250 - 4 * m) (rm M6 g) M8 g A c bs := S8
    conv => whnf
    refine caseB_dec (fun h0 => ?_) (fun h0 => ?_)
    · have h00 : 0 < m := by have : 0 < (m : Int) := h0; omega
      have hw8 : IntKind.i64.wrap ((m : Int) - 1) = ((m - 1 : Nat) : Int) := by rw [wrap_id (by omega) (by omega)]; omega
      conv => whnf
      refine ACall.step (l12Waiter_ret S8 (by omega)) fun r M9 hh => ?_
      obtain ⟨w, rfl, S9, l9⟩ := hh
      have N9 := N8.to l9
      conv => whnf
      repeat' (first | (refine ⟨⟨[], rfl⟩, _, PH.Le.refl _, PH.Le.refl _, ?_⟩; conv => whnf) | (refine caseB_true ?_; conv => whnf) | (refine caseB_false ?_; conv => whnf) | ((with_reducible refine caseB_dec (fun h => ?_) (fun h => ?_)) <;> conv => whnf) | ((with_reducible refine caseB_ndec (fun h => ?_) (fun h => ?_)) <;> conv => whnf) | ((with_reducible refine caseB_not (fun h => ?_) (fun h => ?_)) <;> conv => whnf) | (refine Ret.go (l12Waits_ret C d ws w.a _ ((N9.ow.sl Wr.len).mono (rm_le _ g)) (by omega)) ?_; conv => whnf) | (with_reducible refine @And.intro (guardVC _ _ _ _ _) _ ?_ ?_) <;> conv => whnf | (refine caseB_intro (fun h => ?_) (fun h => ?_) <;> (try simp only [Bool.not_eq_true', Bool.not_eq_false', decide_eq_true_eq, decide_eq_false_iff_not] at h) <;> conv => whnf))
      · intro g3 hg3
        refine wrApp w S9 N9 (by show ws.length ≤ 1000; omega) hg3 fun o7 C7 d7 M10 N10 S10 => ?_
        conv => whnf
        exact ⟨(m - 1, o7, C7, d7, ws ++ [w]), ⟨by simp [slots, leT, hw8], ⟨_, rfl⟩, Nat.zero_le _, rfl, rfl⟩, ⟨by show m - 1 + (ws ++ [w]).length ≤ 10; simp; omega, N10, S10.below (by show _ ≤ B + 250 - 4 * ((m - 1 : Nat) : Int); omega)⟩, by show m - 1 < m; omega⟩
      · exact ⟨(m - 1, o, C, d, ws), ⟨by simp [slots, leT, hw8], ⟨_, rfl⟩, Nat.zero_le _, rfl, rfl⟩, ⟨by show m - 1 + ws.length ≤ 10; omega, N9, S9.below (by show _ ≤ B + 250 - 4 * ((m - 1 : Nat) : Int); omega)⟩, by show m - 1 < m; omega⟩
    · conv => whnf
      exact ⟨_, PH.Le.refl _, ⟨⟨i1, k, b3, true, due, b6, ⟨qm, qh, qp, hs⟩, ws⟩, A5, c5, C, d⟩, rm M6 g, o, rfl, L6, s6, N8, by show ws.length ≤ 10; omega, hqc, hk.2, S8.below (by omega)⟩

  | false =>
    refine caseB_false ?_
    conv => whnf
    repeat' (first | (refine ⟨⟨[], rfl⟩, _, PH.Le.refl _, PH.Le.refl _, ?_⟩; conv => whnf) | (intro g' hg'; obtain ⟨M', hM, S', l', s'⟩ := buildF (cs := [I (0), I (1), I (2), I (4), I (10)]) (t := 2) [0, 1, 2, 4, 10] rfl (by assumption) hg'; rw [← hM]; clear hM; (first | (refine ⟨⟨[], rfl⟩, _, PH.Le.refl _, bot_le _, ?_⟩; conv => whnf) | (refine ⟨⟨[], rfl⟩, _, l', rm_le _ _, ?_⟩; conv => whnf) | conv => whnf)) | (refine pickD [0, 1, 2, 4, 10] rfl (by assumption) (by first | assumption | exact Sl.mono (by assumption) (by repeat (first | exact PH.Le.refl _ | assumption | (apply PH.Le.trans; · assumption)))) (by simp) (by omega) fun x M' hx S' l' => ?_; (first | (refine ⟨⟨[], rfl⟩, _, PH.Le.refl _, bot_le _, ?_⟩; conv => whnf) | (refine ⟨⟨[], rfl⟩, _, l', rm_le _ _, ?_⟩; conv => whnf) | conv => whnf)) | (intro g' hg'; obtain ⟨M', hM, S', l', s'⟩ := buildF (cs := [I (0), I (700), I (3000)]) (t := 2) [0, 700, 3000] rfl (by assumption) hg'; rw [← hM]; clear hM; (first | (refine ⟨⟨[], rfl⟩, _, PH.Le.refl _, bot_le _, ?_⟩; conv => whnf) | (refine ⟨⟨[], rfl⟩, _, l', rm_le _ _, ?_⟩; conv => whnf) | conv => whnf)) | (refine pickD [0, 700, 3000] rfl (by assumption) (by first | assumption | exact Sl.mono (by assumption) (by repeat (first | exact PH.Le.refl _ | assumption | (apply PH.Le.trans; · assumption)))) (by simp) (by omega) fun x M' hx S' l' => ?_; (first | (refine ⟨⟨[], rfl⟩, _, PH.Le.refl _, bot_le _, ?_⟩; conv => whnf) | (refine ⟨⟨[], rfl⟩, _, l', rm_le _ _, ?_⟩; conv => whnf) | conv => whnf)) | (refine caseB_true ?_; conv => whnf) | (refine caseB_false ?_; conv => whnf) | ((with_reducible refine caseB_dec (fun h => ?_) (fun h => ?_)) <;> conv => whnf) | ((with_reducible refine caseB_ndec (fun h => ?_) (fun h => ?_)) <;> conv => whnf) | ((with_reducible refine caseB_not (fun h => ?_) (fun h => ?_)) <;> conv => whnf) | (with_reducible refine @And.intro (guardVC _ _ _ _ _) _ ?_ ?_) <;> conv => whnf | (refine caseB_intro (fun h => ?_) (fun h => ?_) <;> (try simp only [Bool.not_eq_true', Bool.not_eq_false', decide_eq_true_eq, decide_eq_false_iff_not] at h) <;> conv => whnf))
    have hx2 : 0 ≤ x ∧ x ≤ 10 := by
      simp only [List.mem_cons, List.not_mem_nil, or_false] at hx
      omega
    refine loop_rule (fun z : E6 => ⟨slots 47 [(0, .v (P0 g)), (2, .bp 0 0), (3, .bp 1 0), (4, .v (I z.1))], [flB fl0, flB ⟨⟨i1, k, b3, false, 0, b6, ⟨qm, qh, qp, hs⟩, z.2.2.2.2⟩, A5, c5, z.2.2.1, z.2.2.2.1⟩]⟩)
      (fun z M' => z.1 + z.2.2.2.2.length ≤ 10 ∧ New (rm M6 g) (rm M' g) z.2.1 z.2.2.1 z.2.2.2.1 4 Wr.cs z.2.2.2.2 ∧ Sx (B + 250 - 4 * z.1) (rm M6 g) M' g A c bs) (fun z => z.1) (x.toNat, none, none, 0, []) ?_ ?_ ?_
    · exact ⟨by simp [slots, leT]; omega, ⟨[], rfl⟩, Nat.zero_le _, rfl, rfl⟩
    · exact ⟨by show x.toNat + 0 ≤ 10; omega, ⟨Ow.nil, S'.le, fun g e => nomatch e⟩, S'.below (by show _ ≤ B + 250 - 4 * ((x.toNat : Nat) : Int); omega)⟩
    rintro ⟨m, o, C, d, ws⟩ M8 ⟨hm, N8, S8⟩
    have hm : m + ws.length ≤ 10 := hm
    have N8 : New (rm M6 g) (rm M8 g) o C d 4 Wr.cs ws := N8
    have S8 : Sx (B + 250 - 4 * m) (rm M6 g) M8 g A c bs := S8
    conv => whnf
    refine caseB_dec (fun h0 => ?_) (fun h0 => ?_)
    · have h00 : 0 < m := by have : 0 < (m : Int) := h0; omega
      have hw8 : IntKind.i64.wrap ((m : Int) - 1) = ((m - 1 : Nat) : Int) := by rw [wrap_id (by omega) (by omega)]; omega
      conv => whnf
      refine ACall.step (l12Waiter_ret S8 (by omega)) fun r M9 hh => ?_
      obtain ⟨w, rfl, S9, l9⟩ := hh
      have N9 := N8.to l9
      conv => whnf
      repeat' (first | (refine ⟨⟨[], rfl⟩, _, PH.Le.refl _, PH.Le.refl _, ?_⟩; conv => whnf) | (refine caseB_true ?_; conv => whnf) | (refine caseB_false ?_; conv => whnf) | ((with_reducible refine caseB_dec (fun h => ?_) (fun h => ?_)) <;> conv => whnf) | ((with_reducible refine caseB_ndec (fun h => ?_) (fun h => ?_)) <;> conv => whnf) | ((with_reducible refine caseB_not (fun h => ?_) (fun h => ?_)) <;> conv => whnf) | (refine Ret.go (l12Waits_ret C d ws w.a _ ((N9.ow.sl Wr.len).mono (rm_le _ g)) (by omega)) ?_; conv => whnf) | (with_reducible refine @And.intro (guardVC _ _ _ _ _) _ ?_ ?_) <;> conv => whnf | (refine caseB_intro (fun h => ?_) (fun h => ?_) <;> (try simp only [Bool.not_eq_true', Bool.not_eq_false', decide_eq_true_eq, decide_eq_false_iff_not] at h) <;> conv => whnf))
      · intro g3 hg3
        refine wrApp w S9 N9 (by show ws.length ≤ 1000; omega) hg3 fun o7 C7 d7 M10 N10 S10 => ?_
        conv => whnf
        exact ⟨(m - 1, o7, C7, d7, ws ++ [w]), ⟨by simp [slots, leT, hw8], ⟨_, rfl⟩, Nat.zero_le _, rfl, rfl⟩, ⟨by show m - 1 + (ws ++ [w]).length ≤ 10; simp; omega, N10, S10.below (by show _ ≤ B + 250 - 4 * ((m - 1 : Nat) : Int); omega)⟩, by show m - 1 < m; omega⟩
      · exact ⟨(m - 1, o, C, d, ws), ⟨by simp [slots, leT, hw8], ⟨_, rfl⟩, Nat.zero_le _, rfl, rfl⟩, ⟨by show m - 1 + ws.length ≤ 10; omega, N9, S9.below (by show _ ≤ B + 250 - 4 * ((m - 1 : Nat) : Int); omega)⟩, by show m - 1 < m; omega⟩
    · conv => whnf
      exact ⟨_, PH.Le.refl _, ⟨⟨i1, k, b3, false, 0, b6, ⟨qm, qh, qp, hs⟩, ws⟩, A5, c5, C, d⟩, rm M6 g, o, rfl, L6, s6, N8, by show ws.length ≤ 10; omega, hqc, hk.2, S8.below (by omega)⟩

set_option maxHeartbeats 8000000 in
theorem l12Bent_ret (S : Sx B M0 M g A c bs) (hB : B ≤ 4294900000) :
    ACall env 14 [P0 g] M fun r M' => ∃ y : FlA, r = y.val ∧ y.inn (rm M' g) ∧ y.cap ∧ y.c.cost ≤ 30000 ∧ y.c.ws.length ≤ 11 ∧ Sx (B + 4000) M0 M' g A c bs ∧ (rm M g).Le (rm M' g) := by
  refine xcall_of_vc Tryz.func14 rfl _ Tryz.ntmps14 _ rfl (fun _ _ => Tryz.call14 _ _) rfl (fun w0 ρ0 => ?_)
  conv => whnf
  refine ACall.step (l12Flight_ret S (by omega)) fun r M1 hh => ?_
  obtain ⟨⟨⟨i1, k, b3, b4, due, b6, q, ws⟩, hA, hc, wA, wc⟩, N, o, rfl, lN, sH, N1, hn, hq, hk, S1⟩ := hh
  have sH : Sl N hA 2 Hd.cs q.hs := sH
  have N1 : New N (rm M1 g) o wA wc 4 Wr.cs ws := N1
  have hn : ws.length ≤ 10 := hn
  have hq : q.cost ≤ 20000 := hq
  have hk : k.size ≤ 80 := hk
  conv => whnf
  refine nextD 16 S1 (by omega) fun x M2 _ S2 l2 => ?_
  have N2 := N1.to l2
  have fin : ∀ (y : FlA) (B' : Int) (M' : PH), Sl (rm M' g) y.hA 2 Hd.cs y.c.get.hs → (∃ o', New N (rm M' g) o' y.wA y.wc 4 Wr.cs y.c.ws) → y.c.ws.length ≤ 11 → y.c.get.cost ≤ 20000 → y.c.key.size ≤ 80 → Sx B' N M' g A c bs → B' ≤ B + 4000 →
      ∃ y' : FlA, y.val = y'.val ∧ y'.inn (rm M' g) ∧ y'.cap ∧ y'.c.cost ≤ 30000 ∧ y'.c.ws.length ≤ 11 ∧ Sx (B + 4000) M0 M' g A c bs ∧ (rm M g).Le (rm M' g) :=
    fun y B' M' h1 ⟨o', h2⟩ h3 h4 h5 h6 h7 => ⟨y, rfl, ⟨h1, h2.ow.sl Wr.len⟩, h2.ow.le, by unfold Fc.cost; omega, h3, ⟨(h6.below h7).at_, S.le.trans (lN.trans h6.le), S.by_⟩, lN.trans h6.le⟩
  clear S1 N1
  conv => whnf
  repeat' (first | (refine ⟨⟨[], rfl⟩, _, PH.Le.refl _, PH.Le.refl _, ?_⟩; conv => whnf) | (intro g' hg'; obtain ⟨M', hM, S', l', s'⟩ := buildF (cs := [I 5, I (-1)]) (t := 2) [5, -1] rfl (by assumption) hg'; rw [← hM]; clear hM; (first | (refine ⟨⟨[], rfl⟩, _, PH.Le.refl _, bot_le _, ?_⟩; conv => whnf) | (refine ⟨⟨[], rfl⟩, _, l', rm_le _ _, ?_⟩; conv => whnf) | conv => whnf)) | (refine pickD [5, -1] rfl (by assumption) (by first | assumption | exact Sl.mono (by assumption) (by repeat (first | exact PH.Le.refl _ | assumption | (apply PH.Le.trans; · assumption)))) (by simp) (by omega) fun u M' hx S' l' => ?_; (first | (refine ⟨⟨[], rfl⟩, _, PH.Le.refl _, bot_le _, ?_⟩; conv => whnf) | (refine ⟨⟨[], rfl⟩, _, l', rm_le _ _, ?_⟩; conv => whnf) | conv => whnf)) | (refine caseB_true ?_; conv => whnf) | (refine caseB_false ?_; conv => whnf) | ((with_reducible refine caseB_dec (fun h => ?_) (fun h => ?_)) <;> conv => whnf) | ((with_reducible refine caseB_ndec (fun h => ?_) (fun h => ?_)) <;> conv => whnf) | ((with_reducible refine caseB_not (fun h => ?_) (fun h => ?_)) <;> conv => whnf) | (with_reducible refine @And.intro (guardVC _ _ _ _ _) _ ?_ ?_) <;> conv => whnf | (refine caseB_intro (fun h => ?_) (fun h => ?_) <;> (try simp only [Bool.not_eq_true', Bool.not_eq_false', decide_eq_true_eq, decide_eq_false_iff_not] at h) <;> conv => whnf))
  · exact ⟨_, PH.Le.refl _, fin ⟨⟨-1, k, b3, b4, due, b6, q, ws⟩, hA, hc, wA, wc⟩ _ M2 (sH.mono S2.le) ⟨_, N2⟩ (by show ws.length ≤ 11; omega) hq hk S2 (by omega)⟩
  · exact ⟨_, PH.Le.refl _, fin ⟨⟨i1, ByteArray.empty, b3, b4, due, b6, q, ws⟩, hA, hc, wA, wc⟩ _ M2 (sH.mono S2.le) ⟨_, N2⟩ (by show ws.length ≤ 11; omega) hq (by show (0 : Nat) ≤ 80; omega) S2 (by omega)⟩
  · refine ACall.step (l5Bent_ret S2 (by omega)) fun r M3 hh => ?_
    obtain ⟨q3, A3, c3, rfl, s3, hq3, S3, l3⟩ := hh
    conv => whnf
    exact ⟨_, PH.Le.refl _, fin ⟨⟨i1, k, b3, b4, due, b6, q3, ws⟩, A3, c3, wA, wc⟩ _ M3 s3 ⟨_, N2.to l3⟩ (by show ws.length ≤ 11; omega) hq3 hk S3 (by omega)⟩
  · exact ⟨_, PH.Le.refl _, fin ⟨⟨i1, k, b3, b4, u, b6, q, ws⟩, hA, hc, wA, wc⟩ _ M' (sH.mono S'.le) ⟨_, N2.to (by repeat (first | exact PH.Le.refl _ | assumption | (apply PH.Le.trans; · assumption)))⟩ (by show ws.length ≤ 11; omega) hq hk S' (by omega)⟩
  · repeat' (first | (refine ⟨⟨[], rfl⟩, _, PH.Le.refl _, bot_le _, ?_⟩; conv => whnf) | (refine ⟨⟨_, rfl⟩, _, PH.Le.refl _, bot_le _, ?_⟩; conv => whnf) | (refine appendD (te := ti31) (f := Wr.cs) (xs := ws) (ys := [⟨a, false, b, false⟩]) S' (n'.ow.sl Wr.len) (N2.to (by repeat (first | exact PH.Le.refl _ | assumption | (apply PH.Le.trans; · assumption)))) Wr.len Wr.one rfl (wr_fitsE _ _ (by simp; omega)) (by simp; omega) fun o3 C3 d3 M' N3 S' k3 => ?_; (first | (refine ⟨⟨[], rfl⟩, _, PH.Le.refl _, bot_le _, ?_⟩; conv => whnf) | conv => whnf)) | (intro g' hg'; obtain ⟨M', hM, S', l', n'⟩ := rowF (cs := [I a, Value.bool false, I b, Value.bool false]) (t := 31) (⟨a, false, b, false⟩ : Wr) Wr.len rfl S' hg'; rw [← hM]; clear hM; (first | (refine ⟨⟨[], rfl⟩, _, PH.Le.refl _, bot_le _, ?_⟩; conv => whnf) | conv => whnf)) | (intro g' hg'; obtain ⟨M', hM, S', l', s'⟩ := buildF (cs := [I 0, I (-1)]) (t := 2) [0, -1] rfl (by assumption) hg'; rw [← hM]; clear hM; (first | (refine ⟨⟨[], rfl⟩, _, PH.Le.refl _, bot_le _, ?_⟩; conv => whnf) | (refine ⟨⟨[], rfl⟩, _, l', rm_le _ _, ?_⟩; conv => whnf) | conv => whnf)) | (refine pickD [0, -1] rfl (by assumption) (by first | assumption | exact Sl.mono (by assumption) (by repeat (first | exact PH.Le.refl _ | assumption | (apply PH.Le.trans; · assumption)))) (by simp) (by omega) fun b M' hx S' l' => ?_; (first | (refine ⟨⟨[], rfl⟩, _, PH.Le.refl _, bot_le _, ?_⟩; conv => whnf) | (refine ⟨⟨[], rfl⟩, _, l', rm_le _ _, ?_⟩; conv => whnf) | conv => whnf)) | (intro g' hg'; obtain ⟨M', hM, S', l', s'⟩ := buildF (cs := [I (-1), I 7, I 8]) (t := 2) [-1, 7, 8] rfl (by assumption) hg'; rw [← hM]; clear hM; (first | (refine ⟨⟨[], rfl⟩, _, PH.Le.refl _, bot_le _, ?_⟩; conv => whnf) | (refine ⟨⟨[], rfl⟩, _, l', rm_le _ _, ?_⟩; conv => whnf) | conv => whnf)) | (refine pickD [-1, 7, 8] rfl (by assumption) (by first | assumption | exact Sl.mono (by assumption) (by repeat (first | exact PH.Le.refl _ | assumption | (apply PH.Le.trans; · assumption)))) (by simp) (by omega) fun a M' hx S' l' => ?_; (first | (refine ⟨⟨[], rfl⟩, _, PH.Le.refl _, bot_le _, ?_⟩; conv => whnf) | (refine ⟨⟨[], rfl⟩, _, l', rm_le _ _, ?_⟩; conv => whnf) | conv => whnf)) | (refine caseB_true ?_; conv => whnf) | (refine caseB_false ?_; conv => whnf) | ((with_reducible refine caseB_dec (fun h => ?_) (fun h => ?_)) <;> conv => whnf) | ((with_reducible refine caseB_ndec (fun h => ?_) (fun h => ?_)) <;> conv => whnf) | ((with_reducible refine caseB_not (fun h => ?_) (fun h => ?_)) <;> conv => whnf) | (refine draw_ruleJ (none) (.light 0 <| .light 1 <| .light 2 <| .light 5 <| .alt 3 false (.alt 4 false (.alt 6 false (.alt 7 false (.light 8 <| .alt 9 false (.alt 10 false (.light 11 <| .alt 12 true (.done) .nil) .nil) .nil) .nil) .nil) (.alt 6 false (.alt 4 false (.alt 7 false (.light 8 <| .alt 9 false (.alt 10 false (.light 11 <| .alt 12 true (.done) .nil) .nil) .nil) .nil) .nil) .nil)) (.alt 6 false (.alt 3 false (.alt 4 false (.alt 7 false (.light 8 <| .alt 9 false (.alt 10 false (.light 11 <| .alt 12 true (.done) .nil) .nil) .nil) .nil) .nil) .nil) .nil)) (by decide +kernel) (bot_le _) ?_; conv => whnf) | (refine draw_ruleJ (none) (.light 0 <| .light 1 <| .light 2 <| .light 3 <| .light 4 <| .light 5 <| .alt 6 false (.alt 7 false (.light 8 <| .alt 9 true (.done) .nil) .nil) .nil) (by decide +kernel) (bot_le _) ?_; conv => whnf) | (with_reducible refine @And.intro (guardVC _ _ _ _ _) _ ?_ ?_) <;> conv => whnf | (refine caseB_intro (fun h => ?_) (fun h => ?_) <;> (try simp only [Bool.not_eq_true', Bool.not_eq_false', decide_eq_true_eq, decide_eq_false_iff_not] at h) <;> conv => whnf))
    all_goals exact ⟨_, PH.Le.refl _, fin ⟨⟨i1, k, b3, b4, due, b6, q, ws ++ [(⟨a, false, b, false⟩ : Wr)]⟩, hA, hc, C3, d3⟩ _ M' (sH.mono S'.le) ⟨_, N3⟩ (by show (ws ++ [_]).length ≤ 11; simp; omega) hq hk S' (by omega)⟩
  · have h9 : 0 < ws.length := by have h : (0 : Int) < ws.length := h; omega
    obtain ⟨hAw, _, hcw⟩ := (N2.ow.sl Wr.len).get h9
    generalize ws[0] = w9 at *
    have hcw : (rm M2 g).cells wA 0 w9.cs := by simpa using hcw
    have hcv : M2.cells wA 0 w9.cs := (rm_le _ g).cells hcw
    repeat' (first | (refine ⟨⟨[], rfl⟩, _, PH.Le.refl _, bot_le _, ?_⟩; conv => whnf) | (refine ⟨⟨_, rfl⟩, _, PH.Le.refl _, bot_le _, ?_⟩; conv => whnf) | (refine appendD (te := ti31) (f := Wr.cs) (xs := ws) (ys := [w9]) S' (n'.ow.sl Wr.len) (N2.to (by repeat (first | exact PH.Le.refl _ | assumption | (apply PH.Le.trans; · assumption)))) Wr.len Wr.one rfl (wr_fitsE _ _ (by simp; omega)) (by simp; omega) fun o3 C3 d3 M' N3 S' k3 => ?_; (first | (refine ⟨⟨[], rfl⟩, _, PH.Le.refl _, bot_le _, ?_⟩; conv => whnf) | conv => whnf)) | (intro g' hg'; obtain ⟨M', hM, S', l', n'⟩ := rowF (cs := [I w9.a, Value.bool w9.h, I w9.d, Value.bool w9.l]) (t := 31) w9 Wr.len rfl S2 hg'; rw [← hM]; clear hM; (first | (refine ⟨⟨[], rfl⟩, _, PH.Le.refl _, bot_le _, ?_⟩; conv => whnf) | conv => whnf)) | (refine ⟨_, hcv, rfl, ?_⟩; (first | (refine ⟨⟨[], rfl⟩, _, PH.Le.refl _, bot_le _, ?_⟩; conv => whnf) | conv => whnf)) | (refine ⟨by omega, h, hAw, ?_⟩; conv => whnf) | (refine caseB_true ?_; conv => whnf) | (refine caseB_false ?_; conv => whnf) | ((with_reducible refine caseB_dec (fun h => ?_) (fun h => ?_)) <;> conv => whnf) | ((with_reducible refine caseB_ndec (fun h => ?_) (fun h => ?_)) <;> conv => whnf) | ((with_reducible refine caseB_not (fun h => ?_) (fun h => ?_)) <;> conv => whnf) | (refine draw_ruleJ (none) (.light 0 <| .light 1 <| .light 2 <| .light 5 <| .alt 3 false (.alt 4 false (.alt 6 false (.alt 7 false (.light 8 <| .alt 9 false (.alt 10 false (.light 11 <| .alt 12 true (.done) .nil) .nil) .nil) .nil) .nil) (.alt 6 false (.alt 4 false (.alt 7 false (.light 8 <| .alt 9 false (.alt 10 false (.light 11 <| .alt 12 true (.done) .nil) .nil) .nil) .nil) .nil) .nil)) (.alt 6 false (.alt 3 false (.alt 4 false (.alt 7 false (.light 8 <| .alt 9 false (.alt 10 false (.light 11 <| .alt 12 true (.done) .nil) .nil) .nil) .nil) .nil) .nil) .nil)) (by decide +kernel) (bot_le _) ?_; conv => whnf) | (refine draw_ruleJ (none) (.light 0 <| .light 1 <| .light 2 <| .light 3 <| .light 4 <| .alt 5 false (.alt 6 false (.alt 7 false (.light 8 <| .alt 9 true (.done) .nil) .nil) .nil) .nil) (by decide +kernel) (bot_le _) ?_; conv => whnf) | (with_reducible refine @And.intro (guardVC _ _ _ _ _) _ ?_ ?_) <;> conv => whnf | (refine caseB_intro (fun h => ?_) (fun h => ?_) <;> (try simp only [Bool.not_eq_true', Bool.not_eq_false', decide_eq_true_eq, decide_eq_false_iff_not] at h) <;> conv => whnf))
    all_goals exact ⟨_, PH.Le.refl _, fin ⟨⟨i1, k, b3, b4, due, b6, q, ws ++ [w9]⟩, hA, hc, C3, d3⟩ _ M' (sH.mono S'.le) ⟨_, N3⟩ (by show (ws ++ [_]).length ≤ 11; simp; omega) hq hk S' (by omega)⟩
  all_goals exact ⟨_, PH.Le.refl _, fin ⟨⟨i1, k, b3, b4, due, b6, q, ws⟩, hA, hc, wA, wc⟩ _ M2 (sH.mono S2.le) ⟨_, N2⟩ (by show ws.length ≤ 11; omega) hq hk S2 (by omega)⟩
end
theorem drawJoin_ret (A : Option Addr) (c : Nat) (bs : List Int) (M : PH) (hb : Byt M A bs) :
    ACall env 5 [.slice A bs.length c] M fun r M' => ∃ (x : FlA) (w : Wr) (d : Int), r = .tuple #[x.val, w.val, I d] ∧ x.inn M' ∧ x.cap ∧ x.c.cost ≤ 30000 ∧ x.c.ws.length ≤ 11 ∧ M.Le M' := by
  refine xcall_of_vc Tryz.func5 rfl _ Tryz.ntmps5 _ rfl (fun _ _ => Tryz.call5 _ _) rfl (fun w0 ρ0 => ?_)
  conv => whnf
  refine sourceD c hb fun g M1 hg S1 => ?_
  conv => whnf
  refine ACall.step (l12Bent_ret S1 (by omega)) fun r M2 hh => ?_
  obtain ⟨z, rfl, hi, hc, hxc, hn, S2, l2⟩ := hh
  conv => whnf
  refine ACall.step (l12Waiter_ret S2 (by omega)) fun r M3 hh => ?_
  obtain ⟨w, rfl, S3, l3⟩ := hh
  have i3 := hi.mono l3
  clear S1 S2
  conv => whnf
  repeat' (first | (refine ⟨⟨[], rfl⟩, _, PH.Le.refl _, bot_le _, ?_⟩; conv => whnf) | (refine ⟨⟨_, rfl⟩, _, PH.Le.refl _, bot_le _, ?_⟩; conv => whnf) | (intro g' hg'; obtain ⟨M', hM, S', l', s'⟩ := buildF (cs := [I 10, I 10, I 4, I 2, I 1, I 11, I 0]) (t := 2) [10, 10, 4, 2, 1, 11, 0] rfl (by assumption) hg'; rw [← hM]; clear hM; (first | (refine ⟨⟨[], rfl⟩, _, PH.Le.refl _, bot_le _, ?_⟩; conv => whnf) | (refine ⟨⟨[], rfl⟩, _, l', rm_le _ _, ?_⟩; conv => whnf) | conv => whnf)) | (refine pickD [10, 10, 4, 2, 1, 11, 0] rfl (by assumption) (by first | assumption | exact Sl.mono (by assumption) (by repeat (first | exact PH.Le.refl _ | assumption | (apply PH.Le.trans; · assumption)))) (by simp) (by omega) fun u M' hx S' l' => ?_; (first | (refine ⟨⟨[], rfl⟩, _, PH.Le.refl _, bot_le _, ?_⟩; conv => whnf) | (refine ⟨⟨[], rfl⟩, _, l', rm_le _ _, ?_⟩; conv => whnf) | conv => whnf)) | (refine chanceD (by assumption) (by omega) fun x M' S' l' => ?_; (first | (refine ⟨⟨[], rfl⟩, _, PH.Le.refl _, bot_le _, ?_⟩; conv => whnf) | (refine ⟨⟨[], rfl⟩, _, l', rm_le _ _, ?_⟩; conv => whnf) | conv => whnf)) | (refine caseB_true ?_; conv => whnf) | (refine caseB_false ?_; conv => whnf) | ((with_reducible refine caseB_dec (fun h => ?_) (fun h => ?_)) <;> conv => whnf) | ((with_reducible refine caseB_ndec (fun h => ?_) (fun h => ?_)) <;> conv => whnf) | ((with_reducible refine caseB_not (fun h => ?_) (fun h => ?_)) <;> conv => whnf) | (refine draw_ruleJ (some [2, 3]) (.light 0 <| .light 1 <| .light 2 <| .alt 3 false (.alt 4 false (.alt 5 false (.alt 6 true (.light 7 <| .done) .nil) .nil) .nil) .nil) (by decide +kernel) (bot_le _) ?_; conv => whnf) | (with_reducible refine @And.intro (guardVC _ _ _ _ _) _ ?_ ?_) <;> conv => whnf | (refine caseB_intro (fun h => ?_) (fun h => ?_) <;> (try simp only [Bool.not_eq_true', Bool.not_eq_false', decide_eq_true_eq, decide_eq_false_iff_not] at h) <;> conv => whnf))
  all_goals first
    | exact ⟨_, PH.Le.refl _, z, ⟨-1, w.h, w.d, w.l⟩, u, rfl, (i3.mono (by repeat (first | exact PH.Le.refl _ | assumption | (apply PH.Le.trans; · assumption)))).mono (rm_le _ g), hc, hxc, hn, S'.le.trans (rm_le _ g)⟩
    | exact ⟨_, PH.Le.refl _, z, w, u, rfl, (i3.mono (by repeat (first | exact PH.Le.refl _ | assumption | (apply PH.Le.trans; · assumption)))).mono (rm_le _ g), hc, hxc, hn, S'.le.trans (rm_le _ g)⟩
theorem drawExpire_ret (A : Option Addr) (c : Nat) (bs : List Int) (M : PH) (hb : Byt M A bs) :
    ACall env 7 [.slice A bs.length c] M fun r M' => ∃ (x : FlA) (d : Int), r = .tuple #[x.val, I d] ∧ x.inn M' ∧ x.cap ∧ x.c.cost ≤ 30000 ∧ x.c.ws.length ≤ 11 ∧ M.Le M' := by
  refine xcall_of_vc Tryz.func7 rfl _ Tryz.ntmps7 _ rfl (fun _ _ => Tryz.call7 _ _) rfl (fun w0 ρ0 => ?_)
  conv => whnf
  refine sourceD c hb fun g M1 hg S1 => ?_
  conv => whnf
  refine ACall.step (l12Bent_ret S1 (by omega)) fun r M2 hh => ?_
  obtain ⟨x, rfl, hi, hc, hxc, hn, S2, l2⟩ := hh
  clear S1
  conv => whnf
  repeat' (first | (refine ⟨⟨[], rfl⟩, _, PH.Le.refl _, PH.Le.refl _, ?_⟩; conv => whnf) | (intro g' hg'; obtain ⟨M', hM, S', l', s'⟩ := buildF (cs := [I 0, I 499, I 500, I 1000, I 5000, I (-1)]) (t := 2) [0, 499, 500, 1000, 5000, -1] rfl (by assumption) hg'; rw [← hM]; clear hM; (first | (refine ⟨⟨[], rfl⟩, _, PH.Le.refl _, bot_le _, ?_⟩; conv => whnf) | (refine ⟨⟨[], rfl⟩, _, l', rm_le _ _, ?_⟩; conv => whnf) | conv => whnf)) | (refine pickD [0, 499, 500, 1000, 5000, -1] rfl (by assumption) (by first | assumption | exact Sl.mono (by assumption) (by repeat (first | exact PH.Le.refl _ | assumption | (apply PH.Le.trans; · assumption)))) (by simp) (by omega) fun u M' hx S' l' => ?_; (first | (refine ⟨⟨[], rfl⟩, _, PH.Le.refl _, bot_le _, ?_⟩; conv => whnf) | (refine ⟨⟨[], rfl⟩, _, l', rm_le _ _, ?_⟩; conv => whnf) | conv => whnf)) | (refine caseB_true ?_; conv => whnf) | (refine caseB_false ?_; conv => whnf) | ((with_reducible refine caseB_dec (fun h => ?_) (fun h => ?_)) <;> conv => whnf) | ((with_reducible refine caseB_ndec (fun h => ?_) (fun h => ?_)) <;> conv => whnf) | ((with_reducible refine caseB_not (fun h => ?_) (fun h => ?_)) <;> conv => whnf) | (with_reducible refine @And.intro (guardVC _ _ _ _ _) _ ?_ ?_) <;> conv => whnf | (refine caseB_intro (fun h => ?_) (fun h => ?_) <;> (try simp only [Bool.not_eq_true', Bool.not_eq_false', decide_eq_true_eq, decide_eq_false_iff_not] at h) <;> conv => whnf))
  exact ⟨_, PH.Le.refl _, x, u, rfl, (hi.mono (by repeat (first | exact PH.Le.refl _ | assumption | (apply PH.Le.trans; · assumption)))).mono (rm_le _ g), hc, hxc, hn, S'.le.trans (rm_le _ g)⟩
end Go.Proofs.YteokagamfdcjgaaGreatDoor
