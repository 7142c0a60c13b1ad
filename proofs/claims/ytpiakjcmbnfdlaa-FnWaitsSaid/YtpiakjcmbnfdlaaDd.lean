/-
  THE LAW over those who wait: who has waited long enough goes, and who is called off; nobody else.
-/
import Derived.Test.YtpiakjcmbnfdlaaDc
namespace Go.Proofs.Ytpiakjcmbnfdlaa
set_option maxRecDepth 100000
set_option linter.unusedSimpArgs false
set_option linter.unusedVariables false
open Go.Xe
theorem part_len (p : Wt → Bool) : ∀ ws : List Wt, (goneW p ws).length + (leftW p ws).length = ws.length
  | [] => rfl
  | w :: ws => by
    have := part_len p ws
    unfold goneW leftW at *
    cases h : p w <;> simp [h] at * <;> omega
theorem left_mem {p : Wt → Bool} {ws : List Wt} {w : Wt} (h : w ∈ leftW p ws) : w ∈ ws ∧ p w = false := by
  unfold leftW at h
  rw [List.mem_filter] at h
  exact ⟨h.1, by simpa using h.2⟩
theorem left_fault {k : Int} {ws : List Wt} {l : Ln} {p : Wt → Bool} (h : bulkFault k ws l = 0) : bulkFault k (leftW p ws) l = 0 := by
  rw [bulkFault_zero] at h ⊢
  obtain ⟨h1, h2, h3, h4, h5⟩ := h
  have := leftW_len p ws
  exact ⟨h1, h2, by omega, fun w hw => h4 w (left_mem hw).1, List.Pairwise.filter _ h5⟩
theorem expire_zero {k : Int} {ws : List Wt} {l : Ln} {t : Int} (h : (expireOf k ws l t).why = 0) :
    (expireOf k ws l t).ids.length + (expireOf k ws l t).ws.length = ws.length ∧ (∀ w ∈ (expireOf k ws l t).ws, ¬ w.b ≤ t) ∧ bulkFault (expireOf k ws l t).k (expireOf k ws l t).ws l = 0 ∧ (expireOf (expireOf k ws l t).k (expireOf k ws l t).ws l t).ids = [] := by
  by_cases h0 : bulkFault k ws l = 0
  · cases h1 : isT t with
    | false => rw [expireOf_time h0 h1] at h; simp at h
    | true =>
      rw [expireOf_ok h0 h1]
      have hf := left_fault (p := due t) h0
      refine ⟨part_len _ _, fun w hw => by simpa [due] using (left_mem hw).2, hf, ?_⟩
      show (expireOf k (leftW (due t) ws) l t).ids = []
      rw [expireOf_ok hf h1]
      show goneW (due t) (leftW (due t) ws) = []
      unfold goneW
      rw [List.map_eq_nil_iff, List.filter_eq_nil_iff]
      intro w hw
      simp [(left_mem hw).2]
  · rw [expireOf_bad h0] at h; contradiction
theorem cancel_zero {k : Int} {ws : List Wt} {l : Ln} {x : Int} (h : (cancelOf k ws l x).why = 0) :
    ((cancelOf k ws l x).ws.length : Int) = ws.length - 1 ∧ (cancelOf (cancelOf k ws l x).k (cancelOf k ws l x).ws l x).why = 4 ∧ sameB (cancelOf k ws l x).ws ws = false := by
  by_cases h0 : bulkFault k ws l = 0
  · by_cases h1 : findW ws x < 0
    · rw [cancelOf_none h0 h1] at h; simp at h
    · rw [cancelOf_ok h0 h1]
      have hg := gone_one (bulkFault_apt h0) (findW_mem h1)
      have hp := part_len (isId x) ws
      rw [hg] at hp
      simp at hp
      have hf := left_fault (p := isId x) h0
      refine ⟨by show ((leftW (isId x) ws).length : Int) = _; omega, ?_, sameB_false (fun e => ?_)⟩
      · show (cancelOf k (leftW (isId x) ws) l x).why = 4
        have hn : findW (leftW (isId x) ws) x < 0 := by
          apply Classical.byContradiction
          intro hc
          obtain ⟨w, hw, hwx⟩ := findW_mem hc
          have := (left_mem hw).2
          simp [isId, hwx] at this
        rw [cancelOf_none hf hn]
      · have e : leftW (isId x) ws = ws := e
        rw [e] at hp; omega
  · rw [cancelOf_bad h0] at h; contradiction
theorem lwNums_ret (A A' : Option Addr) (c c' : Nat) (ws : List Int) (M : PH) (hs : Sl M A 1 inC ws) (hs' : Sl M A' 1 inC ws) (hn : ws.length ≤ 1048576) :
    Ret 62 [.slice A ws.length c, .slice A' ws.length c'] M (B true) := by
  refine xcall_of_vc Try.func62 rfl _ Try.ntmps62 _ rfl (fun _ _ => Try.call62 _ _) rfl (fun w0 ρ0 => ?_)
  conv => whnf
  repeat' (first | (refine ⟨⟨[], rfl⟩, _, PH.Le.refl _, PH.Le.refl _, ?_⟩; conv => whnf) | (refine caseB_true ?_; conv => whnf) | (refine caseB_false ?_; conv => whnf) | ((with_reducible refine caseB_dec (fun h => ?_) (fun h => ?_)) <;> conv => whnf) | ((with_reducible refine caseB_ndec (fun h => ?_) (fun h => ?_)) <;> conv => whnf) | ((with_reducible refine caseB_not (fun h => ?_) (fun h => ?_)) <;> conv => whnf) | (with_reducible refine @And.intro (guardVC _ _ _ _ _) _ ?_ ?_) <;> conv => whnf | (refine caseB_intro (fun h => ?_) (fun h => ?_) <;> (try simp only [Bool.not_eq_true', Bool.not_eq_false', decide_eq_true_eq, decide_eq_false_iff_not] at h) <;> conv => whnf))
  · exact absurd rfl ‹_›
  refine loop_rule (fun i : Nat => ⟨slots 26 [(0, .v (.slice A ws.length c)), (1, .v (.slice A' ws.length c')), (4, .v (B false)), (5, .v (I i))], []⟩) (fun i M' => i ≤ ws.length ∧ M' = M) (fun i => ws.length - i) 0 ?_ ?_ ?_
  · exact ⟨by simp [slots, leT], ⟨[], rfl⟩, Nat.zero_le _, rfl, rfl⟩
  · exact ⟨Nat.zero_le _, rfl⟩
  · rintro i M' ⟨hi, rfl⟩
    conv => whnf
    repeat' (first | (refine ⟨⟨[], rfl⟩, _, PH.Le.refl _, PH.Le.refl _, ?_⟩; conv => whnf) | (refine caseB_true ?_; conv => whnf) | (refine caseB_false ?_; conv => whnf) | ((with_reducible refine caseB_dec (fun h => ?_) (fun h => ?_)) <;> conv => whnf) | ((with_reducible refine caseB_ndec (fun h => ?_) (fun h => ?_)) <;> conv => whnf) | ((with_reducible refine caseB_not (fun h => ?_) (fun h => ?_)) <;> conv => whnf) | (with_reducible refine @And.intro (guardVC _ _ _ _ _) _ ?_ ?_) <;> conv => whnf | (refine caseB_intro (fun h => ?_) (fun h => ?_) <;> (try simp only [Bool.not_eq_true', Bool.not_eq_false', decide_eq_true_eq, decide_eq_false_iff_not] at h) <;> conv => whnf))
    · have hi' : i < ws.length := by omega
      have hw : IntKind.i64.wrap ((i : Int) + 1) = (i : Int) + 1 := wr_id (by omega) (by omega)
      obtain ⟨hA, _, hc⟩ := hs.get hi'
      obtain ⟨hA', _, hc'⟩ := hs'.get hi'
      repeat' (first | (refine ⟨⟨[], rfl⟩, _, PH.Le.refl _, PH.Le.refl _, ?_⟩; conv => whnf) | (refine ⟨_, hc', ?_⟩; conv => whnf) | (refine ⟨_, hc, ?_⟩; conv => whnf) | (refine ⟨by omega, by omega, hA', ?_⟩; conv => whnf) | (refine ⟨by omega, by omega, hA, ?_⟩; conv => whnf) | (refine caseB_true ?_; conv => whnf) | (refine caseB_false ?_; conv => whnf) | ((with_reducible refine caseB_dec (fun h => ?_) (fun h => ?_)) <;> conv => whnf) | ((with_reducible refine caseB_ndec (fun h => ?_) (fun h => ?_)) <;> conv => whnf) | ((with_reducible refine caseB_not (fun h => ?_) (fun h => ?_)) <;> conv => whnf) | (refine draw_rule (.light 0 <| .light 1 <| .light 2 <| .light 3 <| .light 4 <| .light 5 <| .light 6 <| .light 7 <| .light 8 <| .done) (by decide +kernel) ?_; conv => whnf) | (with_reducible refine @And.intro (guardVC _ _ _ _ _) _ ?_ ?_) <;> conv => whnf | (refine caseB_intro (fun h => ?_) (fun h => ?_) <;> (try simp only [Bool.not_eq_true', Bool.not_eq_false', decide_eq_true_eq, decide_eq_false_iff_not] at h) <;> conv => whnf))
      all_goals first | (exfalso; exact h rfl) | exact ⟨i + 1, ⟨by simp [slots, leT, hw], ⟨[], rfl⟩, Nat.zero_le _, rfl, rfl⟩, ⟨by omega, rfl⟩, by omega⟩
    · exact ⟨_, PH.Le.refl _, rfl, rfl⟩
set_option maxHeartbeats 8000000 in
theorem waits_law (A : Option Addr) (c : Nat) (bs : List Int) (M : PH) (hs : Sl M A 1 byC bs) (hby : ∀ (i : Nat) b, bs[i]? = some b → 0 ≤ b ∧ b ≤ 255) :
    ACall env 13 [.slice A bs.length c] M fun r M' => r = B true ∧ M.Le M' := by
  refine xcall_of_vc Try.func13 rfl _ Try.ntmps13 _ rfl (fun _ _ => Try.call13 _ _) rfl (fun w0 ρ0 => ?_)
  conv => whnf
  repeat' (first | (refine ⟨⟨[], rfl⟩, _, PH.Le.refl _, PH.Le.refl _, ?_⟩; conv => whnf) | (refine caseB_true ?_; conv => whnf) | (refine caseB_false ?_; conv => whnf) | ((with_reducible refine caseB_dec (fun h => ?_) (fun h => ?_)) <;> conv => whnf) | ((with_reducible refine caseB_ndec (fun h => ?_) (fun h => ?_)) <;> conv => whnf) | ((with_reducible refine caseB_not (fun h => ?_) (fun h => ?_)) <;> conv => whnf) | (refine Ret.go (lwBig_ret A c bs _) ?_; conv => whnf) | (with_reducible refine @And.intro (guardVC _ _ _ _ _) _ ?_ ?_) <;> conv => whnf | (refine caseB_intro (fun h => ?_) (fun h => ?_) <;> (try simp only [Bool.not_eq_true', Bool.not_eq_false', decide_eq_true_eq, decide_eq_false_iff_not] at h) <;> conv => whnf))
  · exact ⟨_, PH.Le.refl _, rfl, PH.Le.refl _⟩
  have hb : Byt M A bs := ⟨hs, by omega, hby⟩
  refine ACall.step (drawExpireBulk_ret A c bs M hb (by omega)) fun r M1 hh => ?_
  obtain ⟨k, ws, C, d, l, t, rfl, hw, l1, sC⟩ := hh
  conv => whnf
  refine ACall.step (expireBulk_impl k C d ws l t M1 sC (by omega)) fun r M2 hh => ?_
  obtain ⟨o1, D2, e2, o2, C2, d2, rfl, N2⟩ := hh
  conv => whnf
  have l2 := N2.a.le
  refine ACall.step (drawCancelBulk_ret A c bs M2 (hb.mono (l1.trans l2)) (by omega)) fun r M3 hh => ?_
  obtain ⟨k', ws', C', d', m, x, rfl, hw', l3, sC'⟩ := hh
  clear hb hs
  conv => whnf
  refine ACall.step (cancelBulk_impl k' C' d' ws' m x M3 sC' (by omega)) fun r M4 hh => ?_
  obtain ⟨o3, D4, e4, o4, C4, d4, rfl, N4⟩ := hh
  conv => whnf
  have l4 := N4.a.le
  have lA := ((l1.trans l2).trans l3).trans l4
  have sE := ((N2.b.ow.sl Wt.len).mono l3).mono l4
  have iE := ((N2.a.ow.sl in_len).mono l3).mono l4
  have sX := N4.b.ow.sl Wt.len
  have sB := ((sC.mono l2).mono l3).mono l4
  have sB' := sC'.mono l4
  have hz := @expire_zero k ws l t
  have hy := @cancel_zero k' ws' m x
  obtain ⟨hle1, hle2⟩ := expireOf_len k ws l t (by omega)
  obtain ⟨hlx1, hlx2⟩ := cancelOf_len k' ws' m x (by omega)
  clear N2 N4 sC sC'
  generalize hE : expireOf k ws l t = E at hz hle1 hle2 sE iE ⊢
  generalize hX : cancelOf k' ws' m x = X at hy hlx1 hlx2 sX ⊢
  conv => whnf
  repeat' (first | (refine ⟨⟨[], rfl⟩, _, PH.Le.refl _, PH.Le.refl _, ?_⟩; conv => whnf) | (refine ACall.step (cancelBulk_spec k' C' d' ws' m x _ (sB'.mono (by repeat (first | exact PH.Le.refl _ | assumption | (apply PH.Le.trans; · assumption)))) (by omega)) fun r M8 hh => ?_; obtain ⟨D8, e8, C8, d8, rfl, l8, s8, i8⟩ := hh; rw [hX] at s8 i8 ⊢; (first | (refine ⟨⟨[], rfl⟩, _, l8, PH.Le.refl _, ?_⟩; conv => whnf) | conv => whnf)) | (refine ACall.step (expireBulk_spec k C d ws l t _ (sB.mono (by repeat (first | exact PH.Le.refl _ | assumption | (apply PH.Le.trans; · assumption)))) (by omega)) fun r M7 hh => ?_; obtain ⟨D7, e7, C7, d7, rfl, l7, s7, i7⟩ := hh; rw [hE] at s7 i7 ⊢; (first | (refine ⟨⟨[], rfl⟩, _, l7, PH.Le.refl _, ?_⟩; conv => whnf) | conv => whnf)) | (refine caseB_true ?_; conv => whnf) | (refine caseB_false ?_; conv => whnf) | ((with_reducible refine caseB_dec (fun h => ?_) (fun h => ?_)) <;> conv => whnf) | ((with_reducible refine caseB_ndec (fun h => ?_) (fun h => ?_)) <;> conv => whnf) | ((with_reducible refine caseB_not (fun h => ?_) (fun h => ?_)) <;> conv => whnf) | (refine Ret.go (lwNums_ret D2 _ e2 _ E.ids _ (iE.mono (by repeat (first | exact PH.Le.refl _ | assumption | (apply PH.Le.trans; · assumption)))) (by first | assumption | exact Sl.mono (by assumption) (by repeat (first | exact PH.Le.refl _ | assumption | (apply PH.Le.trans; · assumption)))) hle2) ?_; conv => whnf) | (refine draw_rule (.light 0 <| .light 1 <| .light 2 <| .light 3 <| .light 4 <| .alt 5 false (.light 6 <| .light 7 <| .light 8 <| .light 9 <| .light 10 <| .light 11 <| .light 12 <| .light 13 <| .alt 14 false (.light 15 <| .alt 16 false (.light 17 <| .light 18 <| .light 19 <| .light 20 <| .light 21 <| .light 22 <| .light 23 <| .light 24 <| .alt 25 false (.light 26 <| .light 27 <| .light 28 <| .done) .nil) .nil) .nil) .nil) (by decide +kernel) ?_; conv => whnf) | (with_reducible refine @And.intro (guardVC _ _ _ _ _) _ ?_ ?_) <;> conv => whnf | (refine caseB_intro (fun h => ?_) (fun h => ?_) <;> (try simp only [Bool.not_eq_true', Bool.not_eq_false', decide_eq_true_eq, decide_eq_false_iff_not] at h) <;> conv => whnf))
  all_goals try first | (exfalso; exact h rfl; done) | (exfalso; refine h ?_; rw [wrap_id (by omega) (by omega)]; exact (hy ‹_›).1; done) | exact ⟨_, PH.Le.refl _, rfl, by repeat (first | exact PH.Le.refl _ | assumption | (apply PH.Le.trans; · assumption))⟩
  · have hy' := hy ‹_›
    repeat' (first | (refine ⟨⟨[], rfl⟩, _, PH.Le.refl _, PH.Le.refl _, ?_⟩; conv => whnf) | (refine ACall.step (cancelBulk_impl X.k C4 d4 X.ws m x _ (sX.mono (by repeat (first | exact PH.Le.refl _ | assumption | (apply PH.Le.trans; · assumption)))) hlx1) fun r M9 hh => ?_; obtain ⟨o9, D9, e9, o9', C9, d9, rfl, N9⟩ := hh; rw [hy'.2.1]; have l9 := N9.a.le; clear N9; (first | (refine ⟨⟨[], rfl⟩, _, l9, PH.Le.refl _, ?_⟩; conv => whnf) | conv => whnf)) | (refine caseB_true ?_; conv => whnf) | (refine caseB_false ?_; conv => whnf) | ((with_reducible refine caseB_dec (fun h => ?_) (fun h => ?_)) <;> conv => whnf) | ((with_reducible refine caseB_ndec (fun h => ?_) (fun h => ?_)) <;> conv => whnf) | ((with_reducible refine caseB_not (fun h => ?_) (fun h => ?_)) <;> conv => whnf) | (refine Ret.go (sameBulks_impl X.k k' C4 C' d4 d' X.ws ws' _ (sX.mono (by repeat (first | exact PH.Le.refl _ | assumption | (apply PH.Le.trans; · assumption)))) (sB'.mono (by repeat (first | exact PH.Le.refl _ | assumption | (apply PH.Le.trans; · assumption)))) hlx1) ?_; conv => whnf) | (refine draw_rule (.light 0 <| .light 1 <| .light 2 <| .light 3 <| .light 4 <| .alt 5 false (.light 6 <| .light 7 <| .light 8 <| .light 9 <| .light 10 <| .light 11 <| .light 12 <| .light 13 <| .alt 14 false (.light 15 <| .alt 16 false (.light 17 <| .light 18 <| .light 19 <| .light 20 <| .light 21 <| .light 22 <| .light 23 <| .light 24 <| .alt 25 false (.light 26 <| .light 27 <| .light 28 <| .done) .nil) .nil) .nil) .nil) (by decide +kernel) ?_; conv => whnf) | (with_reducible refine @And.intro (guardVC _ _ _ _ _) _ ?_ ?_) <;> conv => whnf | (refine caseB_intro (fun h => ?_) (fun h => ?_) <;> (try simp only [Bool.not_eq_true', Bool.not_eq_false', decide_eq_true_eq, decide_eq_false_iff_not] at h) <;> conv => whnf))
    all_goals try first | (exfalso; rw [hy'.2.2, Bool.and_false] at h; cases h; done) | exact ⟨_, PH.Le.refl _, rfl, by repeat (first | exact PH.Le.refl _ | assumption | (apply PH.Le.trans; · assumption))⟩
    have hz' := hz ‹_›
    refine loop_rule (fun i : Nat => ⟨slots 141 [(2, .v (B false)), (3, .bp 0 0), (4, .bp 1 0), (5, .v (I t)), (6, .bp 2 0), (11, .v (I i))], [⟨42, [.v (I k), .v (.slice C ws.length d)]⟩, ⟨44, [.v (I l.a), .v (I l.b), .v (I l.c)]⟩, ⟨73, [.v (I E.why), .v (I E.k), .v (.slice C2 E.ws.length d2), .v (.slice D2 E.ids.length e2)]⟩]⟩) (fun i M' => i ≤ E.ws.length ∧ M4.Le M') (fun i => E.ws.length - i) 0 ?_ ?_ ?_
    · exact ⟨by simp [slots, leT], ⟨_, rfl⟩, Nat.zero_le _, rfl, rfl⟩
    · exact ⟨Nat.zero_le _, by repeat (first | exact PH.Le.refl _ | assumption | (apply PH.Le.trans; · assumption))⟩
    · rintro i Mz ⟨hi, lz⟩
      conv => whnf
      repeat' (first | (refine ⟨⟨[], rfl⟩, _, PH.Le.refl _, PH.Le.refl _, ?_⟩; conv => whnf) | (refine caseB_true ?_; conv => whnf) | (refine caseB_false ?_; conv => whnf) | ((with_reducible refine caseB_dec (fun h => ?_) (fun h => ?_)) <;> conv => whnf) | ((with_reducible refine caseB_ndec (fun h => ?_) (fun h => ?_)) <;> conv => whnf) | ((with_reducible refine caseB_not (fun h => ?_) (fun h => ?_)) <;> conv => whnf) | (with_reducible refine @And.intro (guardVC _ _ _ _ _) _ ?_ ?_) <;> conv => whnf | (refine caseB_intro (fun h => ?_) (fun h => ?_) <;> (try simp only [Bool.not_eq_true', Bool.not_eq_false', decide_eq_true_eq, decide_eq_false_iff_not] at h) <;> conv => whnf))
      · have hi' : i < E.ws.length := by omega
        have hw1 : IntKind.i64.wrap ((i : Int) + 1) = (i : Int) + 1 := wr_id (by omega) (by omega)
        obtain ⟨hA, _, hr⟩ := (sE.mono lz).get hi'
        repeat' (first | (refine ⟨⟨[], rfl⟩, _, PH.Le.refl _, PH.Le.refl _, ?_⟩; conv => whnf) | (refine ⟨_, cells_cut hr 1 rfl, ?_⟩; conv => whnf) | (refine ⟨by omega, by omega, hA, ?_⟩; conv => whnf) | (refine caseB_true ?_; conv => whnf) | (refine caseB_false ?_; conv => whnf) | ((with_reducible refine caseB_dec (fun h => ?_) (fun h => ?_)) <;> conv => whnf) | ((with_reducible refine caseB_ndec (fun h => ?_) (fun h => ?_)) <;> conv => whnf) | ((with_reducible refine caseB_not (fun h => ?_) (fun h => ?_)) <;> conv => whnf) | (refine draw_rule (.light 0 <| .light 1 <| .light 2 <| .light 3 <| .light 4 <| .alt 5 false (.light 6 <| .light 7 <| .light 8 <| .light 9 <| .light 10 <| .light 11 <| .light 12 <| .light 13 <| .alt 14 false (.light 15 <| .alt 16 false (.light 17 <| .light 18 <| .light 19 <| .light 20 <| .light 21 <| .light 22 <| .light 23 <| .light 24 <| .alt 25 false (.light 26 <| .light 27 <| .light 28 <| .done) .nil) .nil) .nil) .nil) (by decide +kernel) ?_; conv => whnf) | (with_reducible refine @And.intro (guardVC _ _ _ _ _) _ ?_ ?_) <;> conv => whnf | (refine caseB_intro (fun h => ?_) (fun h => ?_) <;> (try simp only [Bool.not_eq_true', Bool.not_eq_false', decide_eq_true_eq, decide_eq_false_iff_not] at h) <;> conv => whnf))
        all_goals first | (exfalso; exact hz'.2.1 _ (List.getElem_mem _) h; done) | exact ⟨i + 1, ⟨by simp [slots, leT, hw1], ⟨_, rfl⟩, Nat.zero_le _, rfl, rfl⟩, ⟨by omega, lz⟩, by omega⟩
      · repeat' (first | (refine ⟨⟨[], rfl⟩, _, PH.Le.refl _, PH.Le.refl _, ?_⟩; conv => whnf) | (refine ACall.step (expireBulk_impl E.k C2 d2 E.ws l t _ (sE.mono lz) hle1) fun r Ma hh => ?_; obtain ⟨o9, D9, e9, o9', C9, d9, rfl, N9⟩ := hh; rw [hz'.2.2.2]; have l9 := N9.a.le; clear N9; (first | (refine ⟨⟨[], rfl⟩, _, l9, PH.Le.refl _, ?_⟩; conv => whnf) | conv => whnf)) | (refine caseB_true ?_; conv => whnf) | (refine caseB_false ?_; conv => whnf) | ((with_reducible refine caseB_dec (fun h => ?_) (fun h => ?_)) <;> conv => whnf) | ((with_reducible refine caseB_ndec (fun h => ?_) (fun h => ?_)) <;> conv => whnf) | ((with_reducible refine caseB_not (fun h => ?_) (fun h => ?_)) <;> conv => whnf) | (refine Ret.go (bulkFault_impl E.k C2 d2 E.ws l _ (sE.mono (by repeat (first | exact PH.Le.refl _ | assumption | (apply PH.Le.trans; · assumption)))) hle1) ?_; conv => whnf) | (refine draw_rule (.light 0 <| .light 1 <| .light 2 <| .light 3 <| .light 4 <| .alt 5 false (.light 6 <| .light 7 <| .light 8 <| .light 9 <| .light 10 <| .light 11 <| .light 12 <| .light 13 <| .alt 14 false (.light 15 <| .alt 16 false (.light 17 <| .light 18 <| .light 19 <| .light 20 <| .light 21 <| .light 22 <| .light 23 <| .light 24 <| .alt 25 false (.light 26 <| .light 27 <| .light 28 <| .done) .nil) .nil) .nil) .nil) (by decide +kernel) ?_; conv => whnf) | (with_reducible refine @And.intro (guardVC _ _ _ _ _) _ ?_ ?_) <;> conv => whnf | (refine caseB_intro (fun h => ?_) (fun h => ?_) <;> (try simp only [Bool.not_eq_true', Bool.not_eq_false', decide_eq_true_eq, decide_eq_false_iff_not] at h) <;> conv => whnf))
        all_goals try first | (exfalso; exact h rfl; done) | (exfalso; exact h hz'.2.2.1; done) | exact ⟨_, PH.Le.refl _, by simp [resV, hz'.2.2.1], by repeat (first | exact PH.Le.refl _ | assumption | (apply PH.Le.trans; · assumption))⟩
      · exfalso; exact h (by rw [wrap_id (by omega) (by omega)]; have := hz'.1; omega)
  · have hz' := hz ‹_›
    refine loop_rule (fun i : Nat => ⟨slots 141 [(2, .v (B false)), (3, .bp 0 0), (4, .bp 1 0), (5, .v (I t)), (6, .bp 2 0), (11, .v (I i))], [⟨42, [.v (I k), .v (.slice C ws.length d)]⟩, ⟨44, [.v (I l.a), .v (I l.b), .v (I l.c)]⟩, ⟨73, [.v (I E.why), .v (I E.k), .v (.slice C2 E.ws.length d2), .v (.slice D2 E.ids.length e2)]⟩]⟩) (fun i M' => i ≤ E.ws.length ∧ M4.Le M') (fun i => E.ws.length - i) 0 ?_ ?_ ?_
    · exact ⟨by simp [slots, leT], ⟨_, rfl⟩, Nat.zero_le _, rfl, rfl⟩
    · exact ⟨Nat.zero_le _, by repeat (first | exact PH.Le.refl _ | assumption | (apply PH.Le.trans; · assumption))⟩
    · rintro i Mz ⟨hi, lz⟩
      conv => whnf
      repeat' (first | (refine ⟨⟨[], rfl⟩, _, PH.Le.refl _, PH.Le.refl _, ?_⟩; conv => whnf) | (refine caseB_true ?_; conv => whnf) | (refine caseB_false ?_; conv => whnf) | ((with_reducible refine caseB_dec (fun h => ?_) (fun h => ?_)) <;> conv => whnf) | ((with_reducible refine caseB_ndec (fun h => ?_) (fun h => ?_)) <;> conv => whnf) | ((with_reducible refine caseB_not (fun h => ?_) (fun h => ?_)) <;> conv => whnf) | (with_reducible refine @And.intro (guardVC _ _ _ _ _) _ ?_ ?_) <;> conv => whnf | (refine caseB_intro (fun h => ?_) (fun h => ?_) <;> (try simp only [Bool.not_eq_true', Bool.not_eq_false', decide_eq_true_eq, decide_eq_false_iff_not] at h) <;> conv => whnf))
      · have hi' : i < E.ws.length := by omega
        have hw1 : IntKind.i64.wrap ((i : Int) + 1) = (i : Int) + 1 := wr_id (by omega) (by omega)
        obtain ⟨hA, _, hr⟩ := (sE.mono lz).get hi'
        repeat' (first | (refine ⟨⟨[], rfl⟩, _, PH.Le.refl _, PH.Le.refl _, ?_⟩; conv => whnf) | (refine ⟨_, cells_cut hr 1 rfl, ?_⟩; conv => whnf) | (refine ⟨by omega, by omega, hA, ?_⟩; conv => whnf) | (refine caseB_true ?_; conv => whnf) | (refine caseB_false ?_; conv => whnf) | ((with_reducible refine caseB_dec (fun h => ?_) (fun h => ?_)) <;> conv => whnf) | ((with_reducible refine caseB_ndec (fun h => ?_) (fun h => ?_)) <;> conv => whnf) | ((with_reducible refine caseB_not (fun h => ?_) (fun h => ?_)) <;> conv => whnf) | (refine draw_rule (.light 0 <| .light 1 <| .light 2 <| .light 3 <| .light 4 <| .alt 5 false (.light 6 <| .light 7 <| .light 8 <| .light 9 <| .light 10 <| .light 11 <| .light 12 <| .light 13 <| .alt 14 false (.light 15 <| .alt 16 false (.light 17 <| .light 18 <| .light 19 <| .light 20 <| .light 21 <| .light 22 <| .light 23 <| .light 24 <| .alt 25 false (.light 26 <| .light 27 <| .light 28 <| .done) .nil) .nil) .nil) .nil) (by decide +kernel) ?_; conv => whnf) | (with_reducible refine @And.intro (guardVC _ _ _ _ _) _ ?_ ?_) <;> conv => whnf | (refine caseB_intro (fun h => ?_) (fun h => ?_) <;> (try simp only [Bool.not_eq_true', Bool.not_eq_false', decide_eq_true_eq, decide_eq_false_iff_not] at h) <;> conv => whnf))
        all_goals first | (exfalso; exact hz'.2.1 _ (List.getElem_mem _) h; done) | exact ⟨i + 1, ⟨by simp [slots, leT, hw1], ⟨_, rfl⟩, Nat.zero_le _, rfl, rfl⟩, ⟨by omega, lz⟩, by omega⟩
      · repeat' (first | (refine ⟨⟨[], rfl⟩, _, PH.Le.refl _, PH.Le.refl _, ?_⟩; conv => whnf) | (refine ACall.step (expireBulk_impl E.k C2 d2 E.ws l t _ (sE.mono lz) hle1) fun r Ma hh => ?_; obtain ⟨o9, D9, e9, o9', C9, d9, rfl, N9⟩ := hh; rw [hz'.2.2.2]; have l9 := N9.a.le; clear N9; (first | (refine ⟨⟨[], rfl⟩, _, l9, PH.Le.refl _, ?_⟩; conv => whnf) | conv => whnf)) | (refine caseB_true ?_; conv => whnf) | (refine caseB_false ?_; conv => whnf) | ((with_reducible refine caseB_dec (fun h => ?_) (fun h => ?_)) <;> conv => whnf) | ((with_reducible refine caseB_ndec (fun h => ?_) (fun h => ?_)) <;> conv => whnf) | ((with_reducible refine caseB_not (fun h => ?_) (fun h => ?_)) <;> conv => whnf) | (refine Ret.go (bulkFault_impl E.k C2 d2 E.ws l _ (sE.mono (by repeat (first | exact PH.Le.refl _ | assumption | (apply PH.Le.trans; · assumption)))) hle1) ?_; conv => whnf) | (refine draw_rule (.light 0 <| .light 1 <| .light 2 <| .light 3 <| .light 4 <| .alt 5 false (.light 6 <| .light 7 <| .light 8 <| .light 9 <| .light 10 <| .light 11 <| .light 12 <| .light 13 <| .alt 14 false (.light 15 <| .alt 16 false (.light 17 <| .light 18 <| .light 19 <| .light 20 <| .light 21 <| .light 22 <| .light 23 <| .light 24 <| .alt 25 false (.light 26 <| .light 27 <| .light 28 <| .done) .nil) .nil) .nil) .nil) (by decide +kernel) ?_; conv => whnf) | (with_reducible refine @And.intro (guardVC _ _ _ _ _) _ ?_ ?_) <;> conv => whnf | (refine caseB_intro (fun h => ?_) (fun h => ?_) <;> (try simp only [Bool.not_eq_true', Bool.not_eq_false', decide_eq_true_eq, decide_eq_false_iff_not] at h) <;> conv => whnf))
        all_goals try first | (exfalso; exact h rfl; done) | (exfalso; exact h hz'.2.2.1; done) | exact ⟨_, PH.Le.refl _, by simp [resV, hz'.2.2.1], by repeat (first | exact PH.Le.refl _ | assumption | (apply PH.Le.trans; · assumption))⟩
      · exfalso; exact h (by rw [wrap_id (by omega) (by omega)]; have := hz'.1; omega)
end Go.Proofs.Ytpiakjcmbnfdlaa
