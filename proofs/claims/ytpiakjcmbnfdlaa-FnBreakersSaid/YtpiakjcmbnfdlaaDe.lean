/-
  DRAWS of rules and breakers: whatever they are.
-/
import Derived.Test.YtpiakjcmbnfdlaaDb
import Derived.Test.YtpiakjcmbnfdlaaLw
namespace Go.Proofs.Ytpiakjcmbnfdlaa
set_option maxRecDepth 100000
set_option linter.unusedSimpArgs false
set_option linter.unusedVariables false
open Go.Xe
section
variable {B : Int} {g : Nat} {M0 M : PH} {A : Option Addr} {c : Nat} {bs : List Int}
theorem l10Rules_ret (S : Sx B M0 M g A c bs) (hB : B ≤ 4294960000) :
    ACall env 128 [P0 g] M fun r M' => ∃ l : Rl, r = l.v ∧ Sx (B + 5) M0 M' g A c bs ∧ (rm M g).Le (rm M' g) := by
  refine xcall_of_vc Try.func128 rfl _ Try.ntmps128 _ rfl (fun _ _ => Try.call128 _ _) rfl (fun w0 ρ0 => ?_)
  conv => whnf
  repeat' (first | (refine ⟨⟨[], rfl⟩, _, PH.Le.refl _, bot_le _, ?_⟩; conv => whnf) | (refine ⟨⟨_, rfl⟩, _, PH.Le.refl _, bot_le _, ?_⟩; conv => whnf) | (intro g' hg'; obtain ⟨M', hM, S', l', s'⟩ := buildF (cs := [I 1, I 1, I 2, I 5]) (t := 2) [1, 1, 2, 5] rfl (by assumption) hg'; rw [← hM]; clear hM; (first | (refine ⟨⟨[], rfl⟩, _, PH.Le.refl _, bot_le _, ?_⟩; conv => whnf) | (refine ⟨⟨[], rfl⟩, _, l', rm_le _ _, ?_⟩; conv => whnf) | conv => whnf)) | (refine pickD [1, 1, 2, 5] rfl (by assumption) (by first | assumption | exact Sl.mono (by assumption) (by repeat (first | exact PH.Le.refl _ | assumption | (apply PH.Le.trans; · assumption)))) (by simp) (by omega) fun x M' hx S' l' => ?_; (first | (refine ⟨⟨[], rfl⟩, _, PH.Le.refl _, bot_le _, ?_⟩; conv => whnf) | (refine ⟨⟨[], rfl⟩, _, l', rm_le _ _, ?_⟩; conv => whnf) | conv => whnf)) | (intro g' hg'; obtain ⟨M', hM, S', l', s'⟩ := buildF (cs := [I 0, I 500, I 2000]) (t := 2) [0, 500, 2000] rfl (by assumption) hg'; rw [← hM]; clear hM; (first | (refine ⟨⟨[], rfl⟩, _, PH.Le.refl _, bot_le _, ?_⟩; conv => whnf) | (refine ⟨⟨[], rfl⟩, _, l', rm_le _ _, ?_⟩; conv => whnf) | conv => whnf)) | (refine pickD [0, 500, 2000] rfl (by assumption) (by first | assumption | exact Sl.mono (by assumption) (by repeat (first | exact PH.Le.refl _ | assumption | (apply PH.Le.trans; · assumption)))) (by simp) (by omega) fun x M' hx S' l' => ?_; (first | (refine ⟨⟨[], rfl⟩, _, PH.Le.refl _, bot_le _, ?_⟩; conv => whnf) | (refine ⟨⟨[], rfl⟩, _, l', rm_le _ _, ?_⟩; conv => whnf) | conv => whnf)) | (intro g' hg'; obtain ⟨M', hM, S', l', s'⟩ := buildF (cs := [I 500, I 500, I 1000, I 1, I 300]) (t := 2) [500, 500, 1000, 1, 300] rfl (by assumption) hg'; rw [← hM]; clear hM; (first | (refine ⟨⟨[], rfl⟩, _, PH.Le.refl _, bot_le _, ?_⟩; conv => whnf) | (refine ⟨⟨[], rfl⟩, _, l', rm_le _ _, ?_⟩; conv => whnf) | conv => whnf)) | (refine pickD [500, 500, 1000, 1, 300] rfl (by assumption) (by first | assumption | exact Sl.mono (by assumption) (by repeat (first | exact PH.Le.refl _ | assumption | (apply PH.Le.trans; · assumption)))) (by simp) (by omega) fun x M' hx S' l' => ?_; (first | (refine ⟨⟨[], rfl⟩, _, PH.Le.refl _, bot_le _, ?_⟩; conv => whnf) | (refine ⟨⟨[], rfl⟩, _, l', rm_le _ _, ?_⟩; conv => whnf) | conv => whnf)) | (intro g' hg'; obtain ⟨M', hM, S', l', s'⟩ := buildF (cs := [I 1, I 2, I 3, I 5]) (t := 2) [1, 2, 3, 5] rfl (by assumption) hg'; rw [← hM]; clear hM; (first | (refine ⟨⟨[], rfl⟩, _, PH.Le.refl _, bot_le _, ?_⟩; conv => whnf) | (refine ⟨⟨[], rfl⟩, _, l', rm_le _ _, ?_⟩; conv => whnf) | conv => whnf)) | (refine pickD [1, 2, 3, 5] rfl (by assumption) (by first | assumption | exact Sl.mono (by assumption) (by repeat (first | exact PH.Le.refl _ | assumption | (apply PH.Le.trans; · assumption)))) (by simp) (by omega) fun x M' hx S' l' => ?_; (first | (refine ⟨⟨[], rfl⟩, _, PH.Le.refl _, bot_le _, ?_⟩; conv => whnf) | (refine ⟨⟨[], rfl⟩, _, l', rm_le _ _, ?_⟩; conv => whnf) | conv => whnf)) | (intro g' hg'; obtain ⟨M', hM, S', l', s'⟩ := buildF (cs := [I 1000, I 5000, I 300]) (t := 2) [1000, 5000, 300] rfl (by assumption) hg'; rw [← hM]; clear hM; (first | (refine ⟨⟨[], rfl⟩, _, PH.Le.refl _, bot_le _, ?_⟩; conv => whnf) | (refine ⟨⟨[], rfl⟩, _, l', rm_le _ _, ?_⟩; conv => whnf) | conv => whnf)) | (refine pickD [1000, 5000, 300] rfl (by assumption) (by first | assumption | exact Sl.mono (by assumption) (by repeat (first | exact PH.Le.refl _ | assumption | (apply PH.Le.trans; · assumption)))) (by simp) (by omega) fun x M' hx S' l' => ?_; (first | (refine ⟨⟨[], rfl⟩, _, PH.Le.refl _, bot_le _, ?_⟩; conv => whnf) | (refine ⟨⟨[], rfl⟩, _, l', rm_le _ _, ?_⟩; conv => whnf) | conv => whnf)) | (refine caseB_true ?_; conv => whnf) | (refine caseB_false ?_; conv => whnf) | ((with_reducible refine caseB_dec (fun h => ?_) (fun h => ?_)) <;> conv => whnf) | ((with_reducible refine caseB_ndec (fun h => ?_) (fun h => ?_)) <;> conv => whnf) | ((with_reducible refine caseB_not (fun h => ?_) (fun h => ?_)) <;> conv => whnf) | (with_reducible refine @And.intro (guardVC _ _ _ _ _) _ ?_ ?_) <;> conv => whnf | (refine caseB_intro (fun h => ?_) (fun h => ?_) <;> (try simp only [Bool.not_eq_true', Bool.not_eq_false', decide_eq_true_eq, decide_eq_false_iff_not] at h) <;> conv => whnf))
  exact ⟨_, PH.Le.refl _, ⟨_, _, _, _, _⟩, rfl, Sx.below (by assumption) (by omega), (by repeat (first | exact PH.Le.refl _ | assumption | (apply PH.Le.trans; · assumption)))⟩
end
theorem drawRulesFault_ret (A : Option Addr) (c : Nat) (bs : List Int) (M : PH) (hb : Byt M A bs) :
    ACall env 130 [.slice A bs.length c] M fun r M' => ∃ l : Rl, r = l.v ∧ M.Le M' := by
  refine xcall_of_vc Try.func130 rfl _ Try.ntmps130 _ rfl (fun _ _ => Try.call130 _ _) rfl (fun w0 ρ0 => ?_)
  conv => whnf
  refine sourceD c hb fun g M1 hg S1 => ?_
  conv => whnf
  refine ACall.step (l10Rules_ret S1 (by omega)) fun r M2 hh => ?_
  obtain ⟨l, rfl, S2, l2⟩ := hh
  clear S1
  conv => whnf
  repeat' (first | (refine ⟨⟨[], rfl⟩, _, PH.Le.refl _, PH.Le.refl _, ?_⟩; conv => whnf) | (intro g' hg'; obtain ⟨M', hM, S', l', s'⟩ := buildF (cs := [I 0, I 6]) (t := 2) [0, 6] rfl (by assumption) hg'; rw [← hM]; clear hM; (first | (refine ⟨⟨[], rfl⟩, _, PH.Le.refl _, bot_le _, ?_⟩; conv => whnf) | (refine ⟨⟨[], rfl⟩, _, l', rm_le _ _, ?_⟩; conv => whnf) | conv => whnf)) | (refine pickD [0, 6] rfl (by assumption) (by first | assumption | exact Sl.mono (by assumption) (by repeat (first | exact PH.Le.refl _ | assumption | (apply PH.Le.trans; · assumption)))) (by simp) (by omega) fun x M' hx S' l' => ?_; (first | (refine ⟨⟨[], rfl⟩, _, PH.Le.refl _, bot_le _, ?_⟩; conv => whnf) | (refine ⟨⟨[], rfl⟩, _, l', rm_le _ _, ?_⟩; conv => whnf) | conv => whnf)) | (intro g' hg'; obtain ⟨M', hM, S', l', s'⟩ := buildF (cs := [I (-1), I 1000001]) (t := 2) [-1, 1000001] rfl (by assumption) hg'; rw [← hM]; clear hM; (first | (refine ⟨⟨[], rfl⟩, _, PH.Le.refl _, bot_le _, ?_⟩; conv => whnf) | (refine ⟨⟨[], rfl⟩, _, l', rm_le _ _, ?_⟩; conv => whnf) | conv => whnf)) | (refine pickD [-1, 1000001] rfl (by assumption) (by first | assumption | exact Sl.mono (by assumption) (by repeat (first | exact PH.Le.refl _ | assumption | (apply PH.Le.trans; · assumption)))) (by simp) (by omega) fun x M' hx S' l' => ?_; (first | (refine ⟨⟨[], rfl⟩, _, PH.Le.refl _, bot_le _, ?_⟩; conv => whnf) | (refine ⟨⟨[], rfl⟩, _, l', rm_le _ _, ?_⟩; conv => whnf) | conv => whnf)) | (intro g' hg'; obtain ⟨M', hM, S', l', s'⟩ := buildF (cs := [I 0, I 1001]) (t := 2) [0, 1001] rfl (by assumption) hg'; rw [← hM]; clear hM; (first | (refine ⟨⟨[], rfl⟩, _, PH.Le.refl _, bot_le _, ?_⟩; conv => whnf) | (refine ⟨⟨[], rfl⟩, _, l', rm_le _ _, ?_⟩; conv => whnf) | conv => whnf)) | (refine pickD [0, 1001] rfl (by assumption) (by first | assumption | exact Sl.mono (by assumption) (by repeat (first | exact PH.Le.refl _ | assumption | (apply PH.Le.trans; · assumption)))) (by simp) (by omega) fun x M' hx S' l' => ?_; (first | (refine ⟨⟨[], rfl⟩, _, PH.Le.refl _, bot_le _, ?_⟩; conv => whnf) | (refine ⟨⟨[], rfl⟩, _, l', rm_le _ _, ?_⟩; conv => whnf) | conv => whnf)) | (intro g' hg'; obtain ⟨M', hM, S', l', s'⟩ := buildF (cs := [I 0, I 51]) (t := 2) [0, 51] rfl (by assumption) hg'; rw [← hM]; clear hM; (first | (refine ⟨⟨[], rfl⟩, _, PH.Le.refl _, bot_le _, ?_⟩; conv => whnf) | (refine ⟨⟨[], rfl⟩, _, l', rm_le _ _, ?_⟩; conv => whnf) | conv => whnf)) | (refine pickD [0, 51] rfl (by assumption) (by first | assumption | exact Sl.mono (by assumption) (by repeat (first | exact PH.Le.refl _ | assumption | (apply PH.Le.trans; · assumption)))) (by simp) (by omega) fun x M' hx S' l' => ?_; (first | (refine ⟨⟨[], rfl⟩, _, PH.Le.refl _, bot_le _, ?_⟩; conv => whnf) | (refine ⟨⟨[], rfl⟩, _, l', rm_le _ _, ?_⟩; conv => whnf) | conv => whnf)) | (intro g' hg'; obtain ⟨M', hM, S', l', s'⟩ := buildF (cs := [I 0, I 1000001]) (t := 2) [0, 1000001] rfl (by assumption) hg'; rw [← hM]; clear hM; (first | (refine ⟨⟨[], rfl⟩, _, PH.Le.refl _, bot_le _, ?_⟩; conv => whnf) | (refine ⟨⟨[], rfl⟩, _, l', rm_le _ _, ?_⟩; conv => whnf) | conv => whnf)) | (refine pickD [0, 1000001] rfl (by assumption) (by first | assumption | exact Sl.mono (by assumption) (by repeat (first | exact PH.Le.refl _ | assumption | (apply PH.Le.trans; · assumption)))) (by simp) (by omega) fun x M' hx S' l' => ?_; (first | (refine ⟨⟨[], rfl⟩, _, PH.Le.refl _, bot_le _, ?_⟩; conv => whnf) | (refine ⟨⟨[], rfl⟩, _, l', rm_le _ _, ?_⟩; conv => whnf) | conv => whnf)) | (refine nextD (12) (by assumption) (by omega) fun x M' hx S' l' => ?_; (first | (refine ⟨⟨[], rfl⟩, _, PH.Le.refl _, bot_le _, ?_⟩; conv => whnf) | (refine ⟨⟨[], rfl⟩, _, l', rm_le _ _, ?_⟩; conv => whnf) | conv => whnf)) | (refine caseB_true ?_; conv => whnf) | (refine caseB_false ?_; conv => whnf) | ((with_reducible refine caseB_dec (fun h => ?_) (fun h => ?_)) <;> conv => whnf) | ((with_reducible refine caseB_ndec (fun h => ?_) (fun h => ?_)) <;> conv => whnf) | ((with_reducible refine caseB_not (fun h => ?_) (fun h => ?_)) <;> conv => whnf) | (with_reducible refine @And.intro (guardVC _ _ _ _ _) _ ?_ ?_) <;> conv => whnf | (refine caseB_intro (fun h => ?_) (fun h => ?_) <;> (try simp only [Bool.not_eq_true', Bool.not_eq_false', decide_eq_true_eq, decide_eq_false_iff_not] at h) <;> conv => whnf))
  · exact ⟨_, PH.Le.refl _, ⟨x, l.b, l.c, l.d, l.e⟩, rfl, (Sx.le (by assumption)).trans (rm_le _ _)⟩
  · exact ⟨_, PH.Le.refl _, ⟨l.a, x, l.c, l.d, l.e⟩, rfl, (Sx.le (by assumption)).trans (rm_le _ _)⟩
  · exact ⟨_, PH.Le.refl _, ⟨l.a, l.b, x, l.d, l.e⟩, rfl, (Sx.le (by assumption)).trans (rm_le _ _)⟩
  · exact ⟨_, PH.Le.refl _, ⟨l.a, l.b, l.c, x, l.e⟩, rfl, (Sx.le (by assumption)).trans (rm_le _ _)⟩
  · exact ⟨_, PH.Le.refl _, ⟨l.a, l.b, l.c, l.d, x⟩, rfl, (Sx.le (by assumption)).trans (rm_le _ _)⟩
  · exact ⟨_, PH.Le.refl _, l, rfl, (Sx.le (by assumption)).trans (rm_le _ _)⟩
def keepM (p : Mk → Bool) (ws : List Mk) : List Mk := ws.filter p
theorem keepM_len (p : Mk → Bool) (ws : List Mk) : (keepM p ws).length ≤ ws.length := List.length_filter_le _ _
theorem keepM_yes {p : Mk → Bool} {ws : List Mk} {i : Nat} (hi : i < ws.length) (h : p ws[i] = true) : keepM p (ws.take (i + 1)) = keepM p (ws.take i) ++ [ws[i]] := by
  unfold keepM
  rw [List.take_succ_eq_append_getElem hi, List.filter_append]
  generalize ws[i] = w at h
  simp [h]
theorem keepM_no {p : Mk → Bool} {ws : List Mk} {i : Nat} (hi : i < ws.length) (h : p ws[i] = false) : keepM p (ws.take (i + 1)) = keepM p (ws.take i) := by
  unfold keepM
  rw [List.take_succ_eq_append_getElem hi, List.filter_append]
  generalize ws[i] = w at h
  simp [h]
theorem mk_fits1 (xs : List Mk) (x : Mk) (hn : xs.length ≤ 1048576) : (xs.length + [x].length) * ti99.bytes ≤ 140737488355328 := by
  unfold ti99
  simp
  omega
abbrev H4 := Nat × Option Nat × Option Addr × Nat
set_option maxHeartbeats 4000000 in
theorem l10Note_ret (k : K3) (o : Option Nat) (A : Option Addr) (c : Nat) (ws : List Mk) (r : Rl) (t : Int) (gd : Bool) (M0 M : PH) (hN : New M0 M o A c 2 Mk.cs ws) (hn : ws.length ≤ 50) (hp : k.p = 0 ∨ k.p = 1 ∨ k.p = 2) :
    XCall env 134 [.bp 0 0, .bp 1 0, .v (I t), .v (B gd)] [brB k A ws.length c, r.box] M fun r' b M' => ∃ (k' : K3) (o' : Option Nat) (A' : Option Addr) (c' : Nat) (ws' : List Mk),
      r' = resV [] ∧ b = [brB k' A' ws'.length c', r.box] ∧ (k'.p = 0 ∨ k'.p = 1 ∨ k'.p = 2) ∧ ws'.length ≤ ws.length + 1 ∧ New M0 M' o' A' c' 2 Mk.cs ws' := by
  refine xcall_of_vc Try.func134 rfl _ Try.ntmps134 _ rfl (fun _ _ => Try.call134 _ _) rfl (fun w0 ρ0 => ?_)
  conv => whnf
  repeat' (first | (refine ⟨⟨[], rfl⟩, _, PH.Le.refl _, PH.Le.refl _, ?_⟩; conv => whnf) | (refine caseB_true ?_; conv => whnf) | (refine caseB_false ?_; conv => whnf) | ((with_reducible refine caseB_dec (fun h => ?_) (fun h => ?_)) <;> conv => whnf) | ((with_reducible refine caseB_ndec (fun h => ?_) (fun h => ?_)) <;> conv => whnf) | ((with_reducible refine caseB_not (fun h => ?_) (fun h => ?_)) <;> conv => whnf) | (with_reducible refine @And.intro (guardVC _ _ _ _ _) _ ?_ ?_) <;> conv => whnf | (refine caseB_intro (fun h => ?_) (fun h => ?_) <;> (try simp only [Bool.not_eq_true', Bool.not_eq_false', decide_eq_true_eq, decide_eq_false_iff_not] at h) <;> conv => whnf))
  · exact ⟨_, PH.Le.refl _, k, o, A, c, ws, rfl, rfl, hp, by omega, hN⟩
  · exact ⟨_, PH.Le.refl _, ⟨1, t, 0⟩, o, A, c, ws, rfl, rfl, .inr (.inl rfl), by omega, hN⟩
  · exact ⟨_, PH.Le.refl _, ⟨0, k.q, 0⟩, o, A, c, ws, rfl, rfl, .inl rfl, by omega, hN⟩
  intro g2 hg2
  conv => whnf
  have l0 := PH.Le.set (.cells (#[] : Array Value) 99 (0, 0)) hg2
  have hs := hN.ow.sl Mk.len
  generalize hpp : (fun w : Mk => decide (t < add' w.a r.a)) = p
  refine loop_rule (fun z : H4 => ⟨slots 114 [(0, .bp 0 0), (1, .bp 1 0), (2, .v (I t)), (3, .v (B gd)), (8, .v (.slice z.2.2.1 (keepM p (ws.take z.1)).length z.2.2.2)), (9, .v (I z.1))], [brB k A ws.length c, r.box]⟩)
    (fun z M' => z.1 ≤ ws.length ∧ New M M' z.2.1 z.2.2.1 z.2.2.2 2 Mk.cs (keepM p (ws.take z.1))) (fun z => ws.length - z.1) (0, none, some ⟨g2, 0, none⟩, 0) ?_ ?_ ?_
  · exact ⟨by simp [slots, leT, keepM], ⟨[], rfl⟩, Nat.le_refl _, rfl, rfl⟩
  · exact ⟨Nat.zero_le _, ⟨Ow.nil, l0, fun g e => nomatch e⟩⟩
  rintro ⟨i, o2, A2, c2⟩ M1 ⟨hi, hT⟩
  have hi : i ≤ ws.length := hi
  have hT : New M M1 o2 A2 c2 2 Mk.cs (keepM p (ws.take i)) := hT
  have hlt : (ws.take i).length ≤ ws.length := by simp; omega
  have hl2 := Nat.le_trans (keepM_len p (ws.take i)) hlt
  conv => whnf
  refine caseB_dec (fun h0 => ?_) (fun h0 => ?_)
  · conv => whnf
    have hi' : i < ws.length := by omega
    have hw : IntKind.i64.wrap ((i : Int) + 1) = (i : Int) + 1 := wr_id (by omega) (by omega)
    obtain ⟨hA, _, hc⟩ := (hs.mono hT.le).get hi'
    repeat' (first | (refine ⟨⟨[], rfl⟩, _, PH.Le.refl _, PH.Le.refl _, ?_⟩; conv => whnf) | (refine ⟨ws[i].cs, hc, rfl, ?_⟩; conv => whnf) | (refine ⟨_, cells_cut hc 0 rfl, ?_⟩; conv => whnf) | (refine ⟨by omega, by omega, hA, ?_⟩; conv => whnf) | (refine caseB_true ?_; conv => whnf) | (refine caseB_false ?_; conv => whnf) | ((with_reducible refine caseB_dec (fun h => ?_) (fun h => ?_)) <;> conv => whnf) | ((with_reducible refine caseB_ndec (fun h => ?_) (fun h => ?_)) <;> conv => whnf) | ((with_reducible refine caseB_not (fun h => ?_) (fun h => ?_)) <;> conv => whnf) | (refine draw_rule (.light 0 <| .light 1 <| .light 2 <| .light 3 <| .light 4 <| .light 5 <| .light 6 <| .light 7 <| .light 8 <| .light 9 <| .light 10 <| .light 11 <| .light 13 <| .alt 12 false (.light 14 <| .done) .nil) (by decide +kernel) ?_; conv => whnf) | (refine draw_rule (.light 0 <| .light 1 <| .light 2 <| .light 3 <| .light 4 <| .light 5 <| .light 6 <| .light 7 <| .light 10 <| .light 11 <| .light 12 <| .light 13 <| .light 14 <| .light 15 <| .alt 8 false (.light 9 <| .light 16 <| .light 17 <| .done) .nil) (by decide +kernel) ?_; conv => whnf) | (refine Ret.go (l1Add_ret _ _ _) ?_; conv => whnf) | (with_reducible refine @And.intro (guardVC _ _ _ _ _) _ ?_ ?_) <;> conv => whnf | (refine caseB_intro (fun h => ?_) (fun h => ?_) <;> (try simp only [Bool.not_eq_true', Bool.not_eq_false', decide_eq_true_eq, decide_eq_false_iff_not] at h) <;> conv => whnf))
    · have e1 := keepM_yes (p := p) hi' (by rw [← hpp]; simpa using h)
      intro g0 hg0
      conv => whnf
      have l1 := PH.Le.set (.cells ([ws[i]].flatMap Mk.cs).toArray 99 (0, 0)) hg0
      have hS := sl_full Mk.len M1 g0 [ws[i]] 99 (0, 0)
      refine app_sl (te := ti99) (f := Mk.cs) (xs := keepM p (ws.take i)) (ys := [ws[i]]) (o := o2) hS (hT.ow.mono l1) Mk.len Mk.one rfl (mk_fits1 _ _ (by omega)) (by simp; omega) fun o' A' c' M' hO hK hF => ?_
      conv => whnf
      exact ⟨(i + 1, o', A', c'), ⟨by simp [slots, leT, hw, e1], ⟨_, rfl⟩, Nat.le_refl _, rfl, rfl⟩, ⟨hi', by show New _ _ _ _ _ _ _ _; rw [e1]; exact hT.more l1 hK hO hF⟩, by show _ - (i + 1) < _ - i; omega⟩
    · have e1 := keepM_no (p := p) hi' (by rw [← hpp]; simpa using h)
      exact ⟨(i + 1, o2, A2, c2), ⟨by simp [slots, leT, hw, e1], ⟨_, rfl⟩, Nat.le_refl _, rfl, rfl⟩, ⟨hi', by show New _ _ _ _ _ _ _ _; rw [e1]; exact hT⟩, by show _ - (i + 1) < _ - i; omega⟩
  · have hi' : i = ws.length := by have h0 : ¬ (i : Int) < ws.length := h0; omega
    subst hi'
    rw [List.take_length] at hT hl2
    simp only [List.take_length]
    clear h0 hi hlt
    have hle := hN.le
    generalize keepM p ws = us at hT hl2 ⊢
    conv => whnf
    intro g0 hg0
    conv => whnf
    have l1 := PH.Le.set (.cells ([(⟨t, gd⟩ : Mk)].flatMap Mk.cs).toArray 99 (0, 0)) hg0
    have hS := sl_full Mk.len M1 g0 [(⟨t, gd⟩ : Mk)] 99 (0, 0)
    refine app_sl (te := ti99) (f := Mk.cs) (xs := us) (ys := [⟨t, gd⟩]) (o := o2) hS (hT.ow.mono l1) Mk.len Mk.one rfl (mk_fits1 _ _ (by omega)) (by simp; omega) fun o' A' c' M' hO hK hF => ?_
    have hN' := (hT.more l1 hK hO hF).from hle
    have hlen : (us ++ [(⟨t, gd⟩ : Mk)]).length ≤ ws.length + 1 := by simp; omega
    generalize us ++ [(⟨t, gd⟩ : Mk)] = vs at hN' hlen hO ⊢
    conv => whnf
    repeat' (first | (refine ⟨⟨[], rfl⟩, _, PH.Le.refl _, bot_le _, ?_⟩; conv => whnf) | (refine ⟨⟨_, rfl⟩, _, PH.Le.refl _, bot_le _, ?_⟩; conv => whnf) | (refine caseB_true ?_; conv => whnf) | (refine caseB_false ?_; conv => whnf) | ((with_reducible refine caseB_dec (fun h => ?_) (fun h => ?_)) <;> conv => whnf) | ((with_reducible refine caseB_ndec (fun h => ?_) (fun h => ?_)) <;> conv => whnf) | ((with_reducible refine caseB_not (fun h => ?_) (fun h => ?_)) <;> conv => whnf) | (refine draw_ruleJ (none) (.light 0 <| .light 1 <| .light 2 <| .light 3 <| .light 4 <| .light 5 <| .light 6 <| .light 7 <| .light 8 <| .light 9 <| .light 10 <| .light 11 <| .light 13 <| .alt 12 false (.light 14 <| .done) .nil) (by decide +kernel) (bot_le _) ?_; conv => whnf) | (refine draw_ruleJ (none) (.light 0 <| .light 1 <| .light 2 <| .light 3 <| .light 4 <| .light 5 <| .light 6 <| .light 7 <| .light 10 <| .light 11 <| .light 12 <| .light 13 <| .light 14 <| .light 15 <| .alt 8 false (.light 9 <| .light 16 <| .light 17 <| .done) .nil) (by decide +kernel) (bot_le _) ?_; conv => whnf) | (refine Ret.go (l10Bad_ret A' c' vs _ (hO.sl Mk.len) (by omega)) ?_; conv => whnf) | (with_reducible refine @And.intro (guardVC _ _ _ _ _) _ ?_ ?_) <;> conv => whnf | (refine caseB_intro (fun h => ?_) (fun h => ?_) <;> (try simp only [Bool.not_eq_true', Bool.not_eq_false', decide_eq_true_eq, decide_eq_false_iff_not] at h) <;> conv => whnf))
    all_goals first | (exfalso; omega) | exact ⟨_, PH.Le.refl _, ⟨1, t, k.r⟩, none, none, 0, [], rfl, rfl, .inr (.inl rfl), Nat.zero_le _, ⟨Ow.nil, hN'.le, fun g e => nomatch e⟩⟩ | exact ⟨_, PH.Le.refl _, k, o', A', c', vs, rfl, rfl, hp, hlen, hN'⟩
theorem allowK_p (k : K3) (r : Rl) (t : Int) (hp : k.p = 0 ∨ k.p = 1 ∨ k.p = 2) : (allowK k r t).p = 0 ∨ (allowK k r t).p = 1 ∨ (allowK k r t).p = 2 := by
  unfold allowK
  split
  · exact hp
  · split
    · exact .inr (.inr rfl)
    · split
      · exact hp
      · exact hp
abbrev H7 := Nat × Int × K3 × List Mk × Option Nat × Option Addr × Nat
abbrev H4' := List Mk × Option Nat × Option Addr × Nat
abbrev Br0 : Box := brB ⟨0, 0, 0⟩ none 0 0
section
variable {B : Int} {g : Nat} {M0 M : PH} {A : Option Addr} {c : Nat} {bs : List Int}
set_option maxHeartbeats 4000000 in
theorem l10Draw_ret (r : Rl) (S : Sx B M0 M g A c bs) (hB : B ≤ 4294960000) : XCall env 129 [.v (P0 g), .bp 0 0] [r.box] M fun r' b M' => ∃ (k : K3) (o : Option Nat) (C : Option Addr) (d : Nat) (ws : List Mk) (t : Int), r' = .tuple #[brV k C ws.length d, I t] ∧ b = [r.box] ∧ ws.length ≤ 60 ∧ Sx (B + 60) M0 M' g A c bs ∧ New M0 (rm M' g) o C d 2 Mk.cs ws := by
  refine xcall_of_vc Try.func129 rfl _ Try.ntmps129 _ rfl (fun _ _ => Try.call129 _ _) rfl (fun w0 ρ0 => ?_)
  conv => whnf
  repeat' (first | (refine ⟨⟨[], rfl⟩, _, PH.Le.refl _, PH.Le.refl _, ?_⟩; conv => whnf) | (intro g' hg'; obtain ⟨M', hM, S', l', s'⟩ := buildF (cs := [I 0, I 2, I 5, I 9, I 14]) (t := 2) [0, 2, 5, 9, 14] rfl (by assumption) hg'; rw [← hM]; clear hM; (first | (refine ⟨⟨[], rfl⟩, _, PH.Le.refl _, bot_le _, ?_⟩; conv => whnf) | (refine ⟨⟨[], rfl⟩, _, l', rm_le _ _, ?_⟩; conv => whnf) | conv => whnf)) | (refine pickD [0, 2, 5, 9, 14] rfl (by assumption) (by first | assumption | exact Sl.mono (by assumption) (by repeat (first | exact PH.Le.refl _ | assumption | (apply PH.Le.trans; · assumption)))) (by simp) (by omega) fun x M' hx S' l' => ?_; (first | (refine ⟨⟨[], rfl⟩, _, PH.Le.refl _, bot_le _, ?_⟩; conv => whnf) | (refine ⟨⟨[], rfl⟩, _, l', rm_le _ _, ?_⟩; conv => whnf) | conv => whnf)) | (refine caseB_true ?_; conv => whnf) | (refine caseB_false ?_; conv => whnf) | ((with_reducible refine caseB_dec (fun h => ?_) (fun h => ?_)) <;> conv => whnf) | ((with_reducible refine caseB_ndec (fun h => ?_) (fun h => ?_)) <;> conv => whnf) | ((with_reducible refine caseB_not (fun h => ?_) (fun h => ?_)) <;> conv => whnf) | (with_reducible refine @And.intro (guardVC _ _ _ _ _) _ ?_ ?_) <;> conv => whnf | (refine caseB_intro (fun h => ?_) (fun h => ?_) <;> (try simp only [Bool.not_eq_true', Bool.not_eq_false', decide_eq_true_eq, decide_eq_false_iff_not] at h) <;> conv => whnf))
  have hx0 : 0 ≤ x ∧ x ≤ 14 := by simp at hx; omega
  clear hx l'
  refine loop_rule (fun z : H7 => ⟨slots 57 [(0, .v (P0 g)), (1, .bp 0 0), (4, .bp 1 0), (5, .v (I 0)), (6, .bp 2 0), (7, .v (I z.2.1)), (8, .v (I z.1))], [r.box, Br0, brB z.2.2.1 z.2.2.2.2.2.1 z.2.2.2.1.length z.2.2.2.2.2.2]⟩)
    (fun z M' => z.1 ≤ 14 ∧ Sx (B + 50 - 3 * z.1) M0 M' g A c bs ∧ New M0 (rm M' g) z.2.2.2.2.1 z.2.2.2.2.2.1 z.2.2.2.2.2.2 2 Mk.cs z.2.2.2.1 ∧ z.2.2.2.1.length + z.1 ≤ 14 ∧ (z.2.2.1.p = 0 ∨ z.2.2.1.p = 1 ∨ z.2.2.1.p = 2)) (fun z => z.1) (x.toNat, 0, ⟨0, 0, 0⟩, [], none, none, 0) ?_ ?_ ?_
  · exact ⟨by simp [slots, leT]; omega, ⟨[], rfl⟩, by simp, rfl, rfl⟩
  · exact ⟨by show x.toNat ≤ 14; omega, S'.below (by show _ ≤ B + 50 - 3 * ((x.toNat : Nat) : Int); omega), ⟨Ow.nil, S'.le, fun g e => nomatch e⟩, by show 0 + x.toNat ≤ 14; omega, .inl rfl⟩
  rintro ⟨m, t, k, ws, o, C, d⟩ M4 ⟨hm, S4, N4, hw, hp⟩
  have hm : m ≤ 14 := hm
  have S4 : Sx (B + 50 - 3 * m) M0 M4 g A c bs := S4
  have N4 : New M0 (rm M4 g) o C d 2 Mk.cs ws := N4
  have hw : ws.length + m ≤ 14 := hw
  have hp : k.p = 0 ∨ k.p = 1 ∨ k.p = 2 := hp
  clear S' S
  conv => whnf
  refine caseB_dec (fun h0 => ?_) (fun h0 => ?_)
  · conv => whnf
    have h00 : 0 < m := by have : 0 < (m : Int) := h0; omega
    have hw8 : IntKind.i64.wrap ((m : Int) - 1) = ((m - 1 : Nat) : Int) := by rw [wrap_id (by omega) (by omega)]; omega
    repeat' (first | (refine ⟨⟨[], rfl⟩, _, PH.Le.refl _, PH.Le.refl _, ?_⟩; conv => whnf) | (refine chanceD (by assumption) (by omega) fun x M' S' l' => ?_; (first | (refine ⟨⟨[], rfl⟩, _, PH.Le.refl _, bot_le _, ?_⟩; conv => whnf) | (refine ⟨⟨[], rfl⟩, _, l', rm_le _ _, ?_⟩; conv => whnf) | conv => whnf)) | (intro g' hg'; obtain ⟨M', hM, S', l', s'⟩ := buildF (cs := [I 0, I 10, I 100, I 600, I 2500]) (t := 2) [0, 10, 100, 600, 2500] rfl (by assumption) hg'; rw [← hM]; clear hM; (first | (refine ⟨⟨[], rfl⟩, _, PH.Le.refl _, bot_le _, ?_⟩; conv => whnf) | (refine ⟨⟨[], rfl⟩, _, l', rm_le _ _, ?_⟩; conv => whnf) | conv => whnf)) | (refine pickD [0, 10, 100, 600, 2500] rfl (by assumption) (by first | assumption | exact Sl.mono (by assumption) (by repeat (first | exact PH.Le.refl _ | assumption | (apply PH.Le.trans; · assumption)))) (by simp) (by omega) fun q M' hx S' l' => ?_; (first | (refine ⟨⟨[], rfl⟩, _, PH.Le.refl _, bot_le _, ?_⟩; conv => whnf) | (refine ⟨⟨[], rfl⟩, _, l', rm_le _ _, ?_⟩; conv => whnf) | conv => whnf)) | (refine caseB_true ?_; conv => whnf) | (refine caseB_false ?_; conv => whnf) | ((with_reducible refine caseB_dec (fun h => ?_) (fun h => ?_)) <;> conv => whnf) | ((with_reducible refine caseB_ndec (fun h => ?_) (fun h => ?_)) <;> conv => whnf) | ((with_reducible refine caseB_not (fun h => ?_) (fun h => ?_)) <;> conv => whnf) | (with_reducible refine @And.intro (guardVC _ _ _ _ _) _ ?_ ?_) <;> conv => whnf | (refine caseB_intro (fun h => ?_) (fun h => ?_) <;> (try simp only [Bool.not_eq_true', Bool.not_eq_false', decide_eq_true_eq, decide_eq_false_iff_not] at h) <;> conv => whnf))
    · refine besideD S' (R := fun r' b M1 => ∃ z : Bool × Int, r' = .bool z.1 ∧ b = [r.box, Br0, brB (allowK k r z.2) C ws.length d] ∧ M1 = rm M' g) (XCall.lift (l10Allow_ret k C ws.length d r _ (rm M' g) hp) [2, 0] rfl rfl (by simp) rfl ?_) ?_ ?_
      · rintro r' b M1 ⟨rfl, rfl, rfl⟩
        exact ⟨rfl, (_, _), rfl, rfl, rfl⟩
      · rintro r' b M1 ⟨z, rfl, rfl, rfl⟩
        exact S'.le
      rintro r' b M1 M5 ⟨⟨z, t'⟩, rfl, rfl, rfl⟩ l5 S5
      conv => whnf
      exact ⟨(m - 1, IntKind.i64.wrap (t + q), allowK k r t', ws, o, C, d), ⟨by simp [slots, leT, hw8], ⟨_, rfl⟩, by simp, rfl, rfl⟩, ⟨by show m - 1 ≤ 14; omega, S5.below (by show _ ≤ B + 50 - 3 * ((m - 1 : Nat) : Int); omega), (N4.to (by repeat (first | exact PH.Le.refl _ | assumption | (apply PH.Le.trans; · assumption)))).to l5, by show ws.length + (m - 1) ≤ 14; omega, allowK_p k r _ hp⟩, by show m - 1 < m; omega⟩
    · refine besideD S' (R := fun r' b M1 => ∃ (k' : K3) (o' : Option Nat) (A' : Option Addr) (c' : Nat) (ws' : List Mk), r' = resV [] ∧ b = [r.box, Br0, brB k' A' ws'.length c'] ∧ (k'.p = 0 ∨ k'.p = 1 ∨ k'.p = 2) ∧ ws'.length ≤ ws.length + 1 ∧ New M0 M1 o' A' c' 2 Mk.cs ws') (XCall.lift (l10Note_ret k o C d ws r _ x M0 (rm M' g) (N4.to (by repeat (first | exact PH.Le.refl _ | assumption | (apply PH.Le.trans; · assumption)))) (by omega) hp) [2, 0] rfl rfl (by simp) rfl ?_) ?_ ?_
      · rintro r' b M1 ⟨k', o', A', c', ws', rfl, rfl, h1, h2, h3⟩
        exact ⟨rfl, k', o', A', c', ws', rfl, rfl, h1, h2, h3⟩
      · rintro r' b M1 ⟨k', o', A', c', ws', rfl, rfl, h1, h2, h3⟩
        exact h3.le
      rintro r' b M1 M5 ⟨k', o', A', c', ws', rfl, rfl, h1, h2, h3⟩ l5 S5
      conv => whnf
      exact ⟨(m - 1, IntKind.i64.wrap (t + q), k', ws', o', A', c'), ⟨by simp [slots, leT, hw8], ⟨_, rfl⟩, by simp, rfl, rfl⟩, ⟨by show m - 1 ≤ 14; omega, S5.below (by show _ ≤ B + 50 - 3 * ((m - 1 : Nat) : Int); omega), h3.to l5, by show ws'.length + (m - 1) ≤ 14; omega, h1⟩, by show m - 1 < m; omega⟩
  · conv => whnf
    clear h0 hm hp
    refine chanceD S4 (by omega) fun x5 M5 S5 l5 => ?_
    clear x hx0
    conv => whnf
    have N5 : New M0 (rm M5 g) o C d 2 Mk.cs ws := N4.to l5
    clear S4 N4
    have fin : ∀ (o : Option Nat) (C : Option Addr) (d : Nat) (ws : List Mk) (M' : PH), ws.length ≤ 60 → Sx (B + 60) M0 M' g A c bs → New M0 (rm M' g) o C d 2 Mk.cs ws → ∃ (k' : K3) (o' : Option Nat) (C' : Option Addr) (d' : Nat) (ws' : List Mk) (t' : Int), Value.tuple #[brV k C ws.length d, I t] = .tuple #[brV k' C' ws'.length d', I t'] ∧ [r.box] = [r.box] ∧ ws'.length ≤ 60 ∧ Sx (B + 60) M0 M' g A c bs ∧ New M0 (rm M' g) o' C' d' 2 Mk.cs ws' :=
      fun o C d ws M' h1 h2 h3 => ⟨k, o, C, d, ws, t, rfl, rfl, h1, h2, h3⟩
    repeat' (first | (refine ⟨⟨[], rfl⟩, _, PH.Le.refl _, PH.Le.refl _, ?_⟩; conv => whnf) | (intro g' hg'; obtain ⟨M', hM, S', l', s'⟩ := buildF (cs := [I 59, I 60]) (t := 2) [59, 60] rfl (by assumption) hg'; rw [← hM]; clear hM; (first | (refine ⟨⟨[], rfl⟩, _, PH.Le.refl _, bot_le _, ?_⟩; conv => whnf) | (refine ⟨⟨[], rfl⟩, _, l', rm_le _ _, ?_⟩; conv => whnf) | conv => whnf)) | (refine pickD [59, 60] rfl (by assumption) (by first | assumption | exact Sl.mono (by assumption) (by repeat (first | exact PH.Le.refl _ | assumption | (apply PH.Le.trans; · assumption)))) (by simp) (by omega) fun x M' hx S' l' => ?_; (first | (refine ⟨⟨[], rfl⟩, _, PH.Le.refl _, bot_le _, ?_⟩; conv => whnf) | (refine ⟨⟨[], rfl⟩, _, l', rm_le _ _, ?_⟩; conv => whnf) | conv => whnf)) | (refine caseB_true ?_; conv => whnf) | (refine caseB_false ?_; conv => whnf) | ((with_reducible refine caseB_dec (fun h => ?_) (fun h => ?_)) <;> conv => whnf) | ((with_reducible refine caseB_ndec (fun h => ?_) (fun h => ?_)) <;> conv => whnf) | ((with_reducible refine caseB_not (fun h => ?_) (fun h => ?_)) <;> conv => whnf) | (with_reducible refine @And.intro (guardVC _ _ _ _ _) _ ?_ ?_) <;> conv => whnf | (refine caseB_intro (fun h => ?_) (fun h => ?_) <;> (try simp only [Bool.not_eq_true', Bool.not_eq_false', decide_eq_true_eq, decide_eq_false_iff_not] at h) <;> conv => whnf))
    · have hx0 : 59 ≤ x ∧ x ≤ 60 := by simp at hx; omega
      clear hx
      refine loop_rule (fun z : H4' => ⟨slots 57 [(0, .v (P0 g)), (4, .bp 1 0), (5, .v (I 0)), (6, .bp 2 0), (7, .v (I t)), (9, .v (I x))], [r.box, Br0, brB k z.2.2.1 z.1.length z.2.2.2]⟩)
        (fun z M' => z.1.length ≤ 60 ∧ Sx (B + 60) M0 M' g A c bs ∧ New M0 (rm M' g) z.2.1 z.2.2.1 z.2.2.2 2 Mk.cs z.1) (fun z => 60 - z.1.length) (ws, o, C, d) ?_ ?_ ?_
      · exact ⟨by simp [slots, leT], ⟨_, rfl⟩, by simp, rfl, rfl⟩
      · exact ⟨by show ws.length ≤ 60; omega, S'.below (by omega), N5.to (by repeat (first | exact PH.Le.refl _ | assumption | (apply PH.Le.trans; · assumption)))⟩
      clear S' l' N5 hw
      rintro ⟨ws, o, C, d⟩ M6 ⟨hw, S6, N6⟩
      have hw : ws.length ≤ 60 := hw
      have N6 : New M0 (rm M6 g) o C d 2 Mk.cs ws := N6
      conv => whnf
      refine caseB_dec (fun h0 => ?_) (fun h0 => ?_)
      · have h0 : (ws.length : Int) < x := h0
        conv => whnf
        intro g' hg'
        obtain ⟨M', hM, S', l', n'⟩ := rowF (cs := [I t, .bool true]) (t := 99) (⟨t, true⟩ : Mk) Mk.len rfl S6 hg'
        rw [← hM]
        clear hM
        conv => whnf
        refine appendD (te := ti99) (f := Mk.cs) (xs := ws) (ys := [⟨t, true⟩]) S' (n'.ow.sl Mk.len) (N6.to (by repeat (first | exact PH.Le.refl _ | assumption | (apply PH.Le.trans; · assumption)))) Mk.len Mk.one rfl (mk_fits1 _ _ (by omega)) (by simp; omega) fun o3 C3 d3 M' N3 S' k3 => ?_
        conv => whnf
        exact ⟨(ws ++ [(⟨t, true⟩ : Mk)], o3, C3, d3), ⟨by simp [slots, leT], ⟨_, rfl⟩, by simp, rfl, rfl⟩, ⟨by simp; omega, S', N3⟩, by simp; omega⟩
      · conv => whnf
        exact ⟨_, PH.Le.refl _, fin o C d ws M6 hw S6 N6⟩
    all_goals exact ⟨_, PH.Le.refl _, fin o C d ws M5 (by omega) (S5.below (by omega)) N5⟩
end
theorem byt_cons' {M M1 : PH} {A D : Option Addr} {bs : List Int} {v : Int} (hv : 0 ≤ v ∧ v ≤ 255) (hb : Byt M A bs) (hs : Sl M1 D 1 byC ([v] ++ bs)) (hl : bs.length ≤ 1048576) : Byt M1 D ([v] ++ bs) := by
  refine ⟨hs, by simp; omega, fun i b hi => ?_⟩
  cases i with
  | zero => simp at hi; omega
  | succ i => exact hb.by_ i b (by simpa using hi)
theorem New.besideNew {α : Type} {M M1 M2 M3 : PH} {g g' : Nat} {o : Option Nat} {C : Option Addr} {d sz : Nat} {f : α → List Value} {ws : List α} (h : New M (rm M1 g) o C d sz f ws) (l : (rm M1 g).Le (rm M2 g)) (k : Keeps (some g') (rm M2 g) (rm M3 g)) (hg' : M1 g' = none) (hl : M.Le (rm M3 g)) : New M (rm M3 g) o C d sz f ws :=
  ⟨(h.ow.mono l).keeps k (fun k e e2 => by
    cases e2
    obtain ⟨ob, hob⟩ := h.ow.known _ e
    have := rm_le M1 g _ _ hob
    rw [hg'] at this; cases this), hl, h.fr⟩
set_option maxHeartbeats 8000000 in
theorem l10Bent_ret (A : Option Addr) (c : Nat) (bs : List Int) (M : PH) (hb : Byt M A bs) (hb2 : bs.length ≤ 1048576) :
    ACall env 102 [.slice A bs.length c] M fun r M' => ∃ (k : K3) (ws : List Mk) (o : Option Nat) (C : Option Addr) (d : Nat) (l : Rl) (t : Int) (g : Nat), r = .tuple #[brV k C ws.length d, l.v, I t, P0 g] ∧ ws.length ≤ 61 ∧ M g = none ∧ New M (rm M' g) o C d 2 Mk.cs ws ∧ Sx 1000 M M' g A c bs := by
  refine xcall_of_vc Try.func102 rfl _ Try.ntmps102 _ rfl (fun _ _ => Try.call102 _ _) rfl (fun w0 ρ0 => ?_)
  conv => whnf
  refine sourceD c hb fun g M1 hg S1 => ?_
  conv => whnf
  refine ACall.step (l10Rules_ret S1 (by omega)) fun r M2 hh => ?_
  obtain ⟨l, rfl, S2, l2⟩ := hh
  clear S1 l2
  conv => whnf
  refine XCall.lift (l10Draw_ret l S2 (by omega)) [2] rfl rfl (by simp) rfl ?_
  rintro r b M3 ⟨k, o, C, d, ws, t, rfl, rfl, hw, S3, N3⟩
  refine ⟨rfl, ?_⟩
  clear S2
  conv => whnf
  have fin : ∀ (k : K3) (ws : List Mk) (o : Option Nat) (C : Option Addr) (d : Nat) (l : Rl) (t : Int) (M' : PH), ws.length ≤ 61 → Sx 1000 M M' g A c bs → New M (rm M' g) o C d 2 Mk.cs ws →
      ∃ (k' : K3) (ws' : List Mk) (o' : Option Nat) (C' : Option Addr) (d' : Nat) (l' : Rl) (t' : Int) (g' : Nat), Value.tuple #[brV k C ws.length d, l.v, I t, P0 g] = .tuple #[brV k' C' ws'.length d', l'.v, I t', P0 g'] ∧ ws'.length ≤ 61 ∧ M g' = none ∧ New M (rm M' g') o' C' d' 2 Mk.cs ws' ∧ Sx 1000 M M' g' A c bs :=
    fun k ws o C d l t M' h1 h2 h3 => ⟨k, ws, o, C, d, l, t, g, rfl, h1, hg, h3, h2⟩
  repeat' (first | (refine ⟨⟨[], rfl⟩, _, PH.Le.refl _, bot_le _, ?_⟩; conv => whnf) | (refine ⟨⟨_, rfl⟩, _, PH.Le.refl _, bot_le _, ?_⟩; conv => whnf) | (refine appendD (te := ti99) (f := Mk.cs) (xs := ws) (ys := [⟨a, false⟩]) S' (n'.ow.sl Mk.len) (N3.to (by repeat (first | exact PH.Le.refl _ | assumption | (apply PH.Le.trans; · assumption)))) Mk.len Mk.one rfl (mk_fits1 _ _ (by omega)) (by simp; omega) fun o3 C3 d3 M' N3 S' k3 => ?_; (first | (refine ⟨⟨[], rfl⟩, _, PH.Le.refl _, bot_le _, ?_⟩; conv => whnf) | conv => whnf)) | (intro g' hg'; obtain ⟨M', hM, S', l', n'⟩ := rowF (cs := [I a, .bool false]) (t := 99) (⟨a, false⟩ : Mk) Mk.len rfl S' hg'; rw [← hM]; clear hM; (first | (refine ⟨⟨[], rfl⟩, _, PH.Le.refl _, bot_le _, ?_⟩; conv => whnf) | conv => whnf)) | (intro g' hg'; obtain ⟨M', hM, S', l', s'⟩ := buildF (cs := [I (-1), I (IntKind.i64.wrap (t + 1))]) (t := 2) [-1, IntKind.i64.wrap (t + 1)] rfl (by assumption) hg'; rw [← hM]; clear hM; (first | (refine ⟨⟨[], rfl⟩, _, PH.Le.refl _, bot_le _, ?_⟩; conv => whnf) | (refine ⟨⟨[], rfl⟩, _, l', rm_le _ _, ?_⟩; conv => whnf) | conv => whnf)) | (refine pickD [-1, IntKind.i64.wrap (t + 1)] rfl (by assumption) (by first | assumption | exact Sl.mono (by assumption) (by repeat (first | exact PH.Le.refl _ | assumption | (apply PH.Le.trans; · assumption)))) (by simp) (by omega) fun a M' hx S' l' => ?_; (first | (refine ⟨⟨[], rfl⟩, _, PH.Le.refl _, bot_le _, ?_⟩; conv => whnf) | (refine ⟨⟨[], rfl⟩, _, l', rm_le _ _, ?_⟩; conv => whnf) | conv => whnf)) | (intro g' hg'; obtain ⟨M', hM, S', l', s'⟩ := buildF (cs := [I 0, I (-1), I (IntKind.i64.wrap (t + 50))]) (t := 2) [0, -1, IntKind.i64.wrap (t + 50)] rfl (by assumption) hg'; rw [← hM]; clear hM; (first | (refine ⟨⟨[], rfl⟩, _, PH.Le.refl _, bot_le _, ?_⟩; conv => whnf) | (refine ⟨⟨[], rfl⟩, _, l', rm_le _ _, ?_⟩; conv => whnf) | conv => whnf)) | (refine pickD [0, -1, IntKind.i64.wrap (t + 50)] rfl (by assumption) (by first | assumption | exact Sl.mono (by assumption) (by repeat (first | exact PH.Le.refl _ | assumption | (apply PH.Le.trans; · assumption)))) (by simp) (by omega) fun a M' hx S' l' => ?_; (first | (refine ⟨⟨[], rfl⟩, _, PH.Le.refl _, bot_le _, ?_⟩; conv => whnf) | (refine ⟨⟨[], rfl⟩, _, l', rm_le _ _, ?_⟩; conv => whnf) | conv => whnf)) | (intro g' hg'; obtain ⟨M', hM, S', l', s'⟩ := buildF (cs := [I 6, I (-1), I 1]) (t := 2) [6, -1, 1] rfl (by assumption) hg'; rw [← hM]; clear hM; (first | (refine ⟨⟨[], rfl⟩, _, PH.Le.refl _, bot_le _, ?_⟩; conv => whnf) | (refine ⟨⟨[], rfl⟩, _, l', rm_le _ _, ?_⟩; conv => whnf) | conv => whnf)) | (refine pickD [6, -1, 1] rfl (by assumption) (by first | assumption | exact Sl.mono (by assumption) (by repeat (first | exact PH.Le.refl _ | assumption | (apply PH.Le.trans; · assumption)))) (by simp) (by omega) fun a M' hx S' l' => ?_; (first | (refine ⟨⟨[], rfl⟩, _, PH.Le.refl _, bot_le _, ?_⟩; conv => whnf) | (refine ⟨⟨[], rfl⟩, _, l', rm_le _ _, ?_⟩; conv => whnf) | conv => whnf)) | (intro g' hg'; obtain ⟨M', hM, S', l', s'⟩ := buildF (cs := [I 3, I (-1), I 1, I 2, I 0]) (t := 2) [3, -1, 1, 2, 0] rfl (by assumption) hg'; rw [← hM]; clear hM; (first | (refine ⟨⟨[], rfl⟩, _, PH.Le.refl _, bot_le _, ?_⟩; conv => whnf) | (refine ⟨⟨[], rfl⟩, _, l', rm_le _ _, ?_⟩; conv => whnf) | conv => whnf)) | (refine pickD [3, -1, 1, 2, 0] rfl (by assumption) (by first | assumption | exact Sl.mono (by assumption) (by repeat (first | exact PH.Le.refl _ | assumption | (apply PH.Le.trans; · assumption)))) (by simp) (by omega) fun a M' hx S' l' => ?_; (first | (refine ⟨⟨[], rfl⟩, _, PH.Le.refl _, bot_le _, ?_⟩; conv => whnf) | (refine ⟨⟨[], rfl⟩, _, l', rm_le _ _, ?_⟩; conv => whnf) | conv => whnf)) | (refine nextD (18) (by assumption) (by omega) fun x M' hx S' l' => ?_; (first | (refine ⟨⟨[], rfl⟩, _, PH.Le.refl _, bot_le _, ?_⟩; conv => whnf) | (refine ⟨⟨[], rfl⟩, _, l', rm_le _ _, ?_⟩; conv => whnf) | conv => whnf)) | (refine caseB_true ?_; conv => whnf) | (refine caseB_false ?_; conv => whnf) | ((with_reducible refine caseB_dec (fun h => ?_) (fun h => ?_)) <;> conv => whnf) | ((with_reducible refine caseB_ndec (fun h => ?_) (fun h => ?_)) <;> conv => whnf) | ((with_reducible refine caseB_not (fun h => ?_) (fun h => ?_)) <;> conv => whnf) | (refine draw_ruleJ (some [3]) (.light 0 <| .light 1 <| .light 2 <| .light 3 <| .light 4 <| .alt 5 false (.alt 6 false (.light 7 <| .alt 8 false (.alt 9 false (.light 10 <| .alt 11 true (.done) .nil) .nil) .nil) .nil) .nil) (by decide +kernel) (bot_le _) ?_; conv => whnf) | (refine draw_ruleJ (some [3]) (.light 0 <| .light 1 <| .light 2 <| .light 3 <| .alt 4 false (.alt 5 true (.light 6 <| .light 7 <| .done) .nil) .nil) (by decide +kernel) (bot_le _) ?_; conv => whnf) | (with_reducible refine @And.intro (guardVC _ _ _ _ _) _ ?_ ?_) <;> conv => whnf | (refine caseB_intro (fun h => ?_) (fun h => ?_) <;> (try simp only [Bool.not_eq_true', Bool.not_eq_false', decide_eq_true_eq, decide_eq_false_iff_not] at h) <;> conv => whnf))
  rotate_left 4
  refine loop_rule (fun z : H4' => ⟨slots 77 [(0, .v (.slice A bs.length c)), (2, .bp 0 0), (3, .bp 1 0), (4, .v (I 0)), (5, .v (.pointer none)), (6, .v (P0 g)), (7, .bp 2 0), (8, .bp 3 0), (9, .v (I t))], [Br0, (Rl.mk 0 0 0 0 0).box, l.box, brB k z.2.2.1 z.1.length z.2.2.2]⟩)
    (fun z M' => z.1.length ≤ 61 ∧ Sx 70 M M' g A c bs ∧ New M (rm M' g) z.2.1 z.2.2.1 z.2.2.2 2 Mk.cs z.1) (fun z => 61 - z.1.length) (ws, o, C, d) ?_ ?_ ?_
  · exact ⟨by simp [slots, leT], ⟨_, rfl⟩, by simp, rfl, rfl⟩
  · exact ⟨by show ws.length ≤ 61; omega, S'.below (by omega), N3.to (by repeat (first | exact PH.Le.refl _ | assumption | (apply PH.Le.trans; · assumption)))⟩
  clear S' l' N3 hw hx S3
  rintro ⟨ws, o, C, d⟩ M' ⟨hw, S', N3⟩
  have hw : ws.length ≤ 61 := hw
  have N3 : New M (rm M' g) o C d 2 Mk.cs ws := N3
  conv => whnf
  refine caseB_dec (fun h0 => ?_) (fun h0 => ?_)
  · have h0 : (ws.length : Int) < 61 := h0
    conv => whnf
    intro g' hg'
    obtain ⟨M', hM, S', l', n'⟩ := rowF (cs := [I t, .bool false]) (t := 99) (⟨t, false⟩ : Mk) Mk.len rfl S' hg'
    rw [← hM]
    clear hM
    conv => whnf
    refine appendD (te := ti99) (f := Mk.cs) (xs := ws) (ys := [⟨t, false⟩]) S' (n'.ow.sl Mk.len) (N3.to (by repeat (first | exact PH.Le.refl _ | assumption | (apply PH.Le.trans; · assumption)))) Mk.len Mk.one rfl (mk_fits1 _ _ (by omega)) (by simp; omega) fun o3 C3 d3 M' N3 S' k3 => ?_
    conv => whnf
    exact ⟨(ws ++ [(⟨t, false⟩ : Mk)], o3, C3, d3), ⟨by simp [slots, leT], ⟨_, rfl⟩, by simp, rfl, rfl⟩, ⟨by simp; omega, S', N3⟩, by simp; omega⟩
  conv => whnf
  clear h0
  all_goals
    refine chanceD S' (by omega) fun xc Mc Sc lc => ?_
    conv => whnf
    have hN := N3.to (M'' := rm Mc g) (by repeat (first | exact PH.Le.refl _ | assumption | (apply PH.Le.trans; · assumption)))
    refine caseB_intro (fun hc => ?_) (fun hc => ?_)
    · conv => whnf
      intro g' hg'
      obtain ⟨M8, hM, S8, l8, n8⟩ := rowF (cs := [.int .u8 1]) (t := 5) (1 : Int) (f := byC) (fun _ => rfl) rfl Sc hg'
      rw [← hM]
      clear hM
      conv => whnf
      refine appendD (te := ti5) (f := byC) (xs := [1]) (ys := bs) S8 (hb.sl.mono S8.le) n8 (fun _ => rfl) (fun x v hv => by simp at hv; subst hv; rfl) rfl (by unfold ti5; simp; omega) (by simp; omega) fun o4 C4 d4 M9 N4 S9 k4 => ?_
      conv => whnf
      have hB : Byt (rm M9 g) C4 ([1] ++ bs) := byt_cons' (by omega) hb (N4.ow.sl fun _ => rfl) hb2
      have hN9 := hN.besideNew l8 k4 hg' S9.le
      refine besideA S9 (drawRulesFault_ret C4 d4 ([1] ++ bs) (rm M9 g) hB) (fun r M1 ⟨_, _, h⟩ => S9.le.trans h) fun r M1 M' hh l1 S' => ?_
      obtain ⟨l9, rfl, lE⟩ := hh
      conv => whnf
      repeat' (first | (refine ⟨⟨[], rfl⟩, _, PH.Le.refl _, bot_le _, ?_⟩; conv => whnf) | (refine ⟨⟨_, rfl⟩, _, PH.Le.refl _, bot_le _, ?_⟩; conv => whnf) | (refine caseB_true ?_; conv => whnf) | (refine caseB_false ?_; conv => whnf) | ((with_reducible refine caseB_dec (fun h => ?_) (fun h => ?_)) <;> conv => whnf) | ((with_reducible refine caseB_ndec (fun h => ?_) (fun h => ?_)) <;> conv => whnf) | ((with_reducible refine caseB_not (fun h => ?_) (fun h => ?_)) <;> conv => whnf) | (refine draw_ruleJ (some [2, 3]) (.light 0 <| .light 1 <| .light 2 <| .light 3 <| .light 4 <| .alt 5 false (.alt 6 false (.light 7 <| .alt 8 false (.alt 9 false (.light 10 <| .alt 11 true (.done) .nil) .nil) .nil) .nil) .nil) (by decide +kernel) (bot_le _) ?_; conv => whnf) | (refine draw_ruleJ (some [2, 3]) (.light 0 <| .light 1 <| .light 2 <| .light 3 <| .alt 4 false (.alt 5 true (.light 6 <| .light 7 <| .done) .nil) .nil) (by decide +kernel) (bot_le _) ?_; conv => whnf) | (with_reducible refine @And.intro (guardVC _ _ _ _ _) _ ?_ ?_) <;> conv => whnf | (refine caseB_intro (fun h => ?_) (fun h => ?_) <;> (try simp only [Bool.not_eq_true', Bool.not_eq_false', decide_eq_true_eq, decide_eq_false_iff_not] at h) <;> conv => whnf))
      first | exact ⟨_, PH.Le.refl _, fin k _ _ _ _ l9 t M' (by first | omega | (simp; omega)) (S'.below (by omega)) ((hN9.to lE).to l1)⟩ | exact ⟨_, PH.Le.refl _, fin ⟨a, k.q, k.r⟩ _ _ _ _ l9 t M' (by first | omega | (simp; omega)) (S'.below (by omega)) ((hN9.to lE).to l1)⟩ | exact ⟨_, PH.Le.refl _, fin ⟨k.p, k.q, a⟩ _ _ _ _ l9 t M' (by first | omega | (simp; omega)) (S'.below (by omega)) ((hN9.to lE).to l1)⟩ | exact ⟨_, PH.Le.refl _, fin ⟨k.p, a, k.r⟩ _ _ _ _ l9 t M' (by first | omega | (simp; omega)) (S'.below (by omega)) ((hN9.to lE).to l1)⟩
    · conv => whnf
      repeat' (first | (refine ⟨⟨[], rfl⟩, _, PH.Le.refl _, bot_le _, ?_⟩; conv => whnf) | (refine ⟨⟨_, rfl⟩, _, PH.Le.refl _, bot_le _, ?_⟩; conv => whnf) | (refine caseB_true ?_; conv => whnf) | (refine caseB_false ?_; conv => whnf) | ((with_reducible refine caseB_dec (fun h => ?_) (fun h => ?_)) <;> conv => whnf) | ((with_reducible refine caseB_ndec (fun h => ?_) (fun h => ?_)) <;> conv => whnf) | ((with_reducible refine caseB_not (fun h => ?_) (fun h => ?_)) <;> conv => whnf) | (refine draw_ruleJ (some [2, 3]) (.light 0 <| .light 1 <| .light 2 <| .light 3 <| .light 4 <| .alt 5 false (.alt 6 false (.light 7 <| .alt 8 false (.alt 9 false (.light 10 <| .alt 11 true (.done) .nil) .nil) .nil) .nil) .nil) (by decide +kernel) (bot_le _) ?_; conv => whnf) | (refine draw_ruleJ (some [2, 3]) (.light 0 <| .light 1 <| .light 2 <| .light 3 <| .alt 4 false (.alt 5 true (.light 6 <| .light 7 <| .done) .nil) .nil) (by decide +kernel) (bot_le _) ?_; conv => whnf) | (with_reducible refine @And.intro (guardVC _ _ _ _ _) _ ?_ ?_) <;> conv => whnf | (refine caseB_intro (fun h => ?_) (fun h => ?_) <;> (try simp only [Bool.not_eq_true', Bool.not_eq_false', decide_eq_true_eq, decide_eq_false_iff_not] at h) <;> conv => whnf))
      first | exact ⟨_, PH.Le.refl _, fin k _ _ _ _ l t Mc (by first | omega | (simp; omega)) (Sc.below (by omega)) hN⟩ | exact ⟨_, PH.Le.refl _, fin ⟨a, k.q, k.r⟩ _ _ _ _ l t Mc (by first | omega | (simp; omega)) (Sc.below (by omega)) hN⟩ | exact ⟨_, PH.Le.refl _, fin ⟨k.p, k.q, a⟩ _ _ _ _ l t Mc (by first | omega | (simp; omega)) (Sc.below (by omega)) hN⟩ | exact ⟨_, PH.Le.refl _, fin ⟨k.p, a, k.r⟩ _ _ _ _ l t Mc (by first | omega | (simp; omega)) (Sc.below (by omega)) hN⟩
theorem drawAllowFetch_ret (A : Option Addr) (c : Nat) (bs : List Int) (M : PH) (hb : Byt M A bs) (hb2 : bs.length ≤ 1048576) :
    ACall env 50 [.slice A bs.length c] M fun r M' => ∃ (k : K3) (ws : List Mk) (C : Option Addr) (d : Nat) (l : Rl) (t : Int), r = .tuple #[brV k C ws.length d, l.v, I t] ∧ ws.length ≤ 61 ∧ M.Le M' ∧ Sl M' C 2 Mk.cs ws := by
  refine xcall_of_vc Try.func50 rfl _ Try.ntmps50 _ rfl (fun _ _ => Try.call50 _ _) rfl (fun w0 ρ0 => ?_)
  conv => whnf
  refine ACall.step (l10Bent_ret A c bs M hb hb2) fun r M1 hh => ?_
  obtain ⟨k, ws, o, C, d, l, t, g, rfl, hw, hg, hN, S⟩ := hh
  conv => whnf
  repeat' (first | (refine ⟨⟨[], rfl⟩, _, PH.Le.refl _, bot_le _, ?_⟩; conv => whnf) | (refine ⟨⟨_, rfl⟩, _, PH.Le.refl _, bot_le _, ?_⟩; conv => whnf) | (intro g' hg'; obtain ⟨M', hM, S', l', s'⟩ := buildF (cs := [I 0, I 1, I 500, I 499, I 2000, I 1999, I 100, I (-1)]) (t := 2) [0, 1, 500, 499, 2000, 1999, 100, -1] rfl (by assumption) hg'; rw [← hM]; clear hM; (first | (refine ⟨⟨[], rfl⟩, _, PH.Le.refl _, bot_le _, ?_⟩; conv => whnf) | (refine ⟨⟨[], rfl⟩, _, l', rm_le _ _, ?_⟩; conv => whnf) | conv => whnf)) | (refine pickD [0, 1, 500, 499, 2000, 1999, 100, -1] rfl (by assumption) (by first | assumption | exact Sl.mono (by assumption) (by repeat (first | exact PH.Le.refl _ | assumption | (apply PH.Le.trans; · assumption)))) (by simp) (by omega) fun a M' hx S' l' => ?_; (first | (refine ⟨⟨[], rfl⟩, _, PH.Le.refl _, bot_le _, ?_⟩; conv => whnf) | (refine ⟨⟨[], rfl⟩, _, l', rm_le _ _, ?_⟩; conv => whnf) | conv => whnf)) | (refine caseB_true ?_; conv => whnf) | (refine caseB_false ?_; conv => whnf) | ((with_reducible refine caseB_dec (fun h => ?_) (fun h => ?_)) <;> conv => whnf) | ((with_reducible refine caseB_ndec (fun h => ?_) (fun h => ?_)) <;> conv => whnf) | ((with_reducible refine caseB_not (fun h => ?_) (fun h => ?_)) <;> conv => whnf) | (refine draw_ruleJ (some [2, 3]) (.light 0 <| .light 1 <| .light 2 <| .light 3 <| .alt 4 false (.alt 5 false (.light 6 <| .alt 7 false (.alt 8 true (.light 9 <| .done) .nil) .nil) .nil) .nil) (by decide +kernel) (bot_le _) ?_; conv => whnf) | (with_reducible refine @And.intro (guardVC _ _ _ _ _) _ ?_ ?_) <;> conv => whnf | (refine caseB_intro (fun h => ?_) (fun h => ?_) <;> (try simp only [Bool.not_eq_true', Bool.not_eq_false', decide_eq_true_eq, decide_eq_false_iff_not] at h) <;> conv => whnf))
  all_goals exact ⟨_, PH.Le.refl _, k, ws, C, d, l, IntKind.i64.wrap (t + a), rfl, hw, (Sx.le (by assumption)).trans (rm_le _ g), ((hN.ow.sl Mk.len).mono (by repeat (first | exact PH.Le.refl _ | assumption | (apply PH.Le.trans; · assumption)))).mono (rm_le _ g)⟩
end Go.Proofs.Ytpiakjcmbnfdlaa
