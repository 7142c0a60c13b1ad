/-
  CONTRACTS: the law over phases.
-/
import Derived.Test.YtffddijdfeafnaaCk
namespace Go.Proofs.Ytffddijdfeafnaa
set_option maxRecDepth 100000
set_option linter.unusedSimpArgs false
open Go.Xe
theorem isAt_iff (m : Mt) (t : Int) : isAt m t = true ↔ (((((isT m.at_ = true ∧ isT m.age = true) ∧ isT m.life = true) ∧ isT m.swr = true) ∧ isT m.sie = true) ∧ isT t = true) ∧ m.at_ ≤ t := by
  simp [isAt, metaOk]
theorem age_eq {m : Mt} {t : Int} (h : isAt m t = true) : age' m t = min' (m.age + (t - m.at_)) 1000000000000000 := by
  rw [isAt_iff] at h
  simp only [isT_iff] at h
  unfold age' add'
  rw [wr_id (n := t - m.at_) (by omega) (by omega), wr_id (n := m.age + (t - m.at_)) (by omega) (by omega)]
theorem age_mono {m : Mt} {t u : Int} (h : isAt m t = true) (k : isAt m u = true) (hle : t ≤ u) : 0 ≤ age' m t ∧ age' m t ≤ age' m u := by
  rw [age_eq h, age_eq k]
  rw [isAt_iff] at h k
  simp only [isT_iff] at h k
  unfold min'
  split <;> split <;> omega
theorem phase_one {m : Mt} {t : Int} : phase m t = 1 ↔ age' m t < life' m := by
  unfold phase
  constructor
  · intro h
    split at h
    · assumption
    · split at h
      · omega
      · split at h <;> omega
  · intro h; rw [if_pos h]
theorem phase_two {m : Mt} {t : Int} : phase m t = 2 ↔ ¬ age' m t < life' m ∧ m.nocache = false ∧ age' m t < add' (life' m) m.swr := by
  unfold phase
  by_cases h : age' m t < life' m
  · rw [if_pos h]; simp [h]
  · rw [if_neg h]
    by_cases h2 : m.nocache = false ∧ age' m t < add' (life' m) m.swr
    · rw [if_pos h2]; simp [h, h2]
    · rw [if_neg h2]
      constructor
      · intro e; split at e <;> omega
      · intro e; exact absurd e.2 h2
theorem may_mono {m : Mt} {t u : Int} {e : Bool} (h : isAt m t = true) (k : isAt m u = true) (hle : t ≤ u) (hm : may m u e = true) : may m t e = true := by
  have ha := (age_mono h k hle).2
  simp only [may, Bool.or_eq_true, Bool.and_eq_true, decide_eq_true_eq, phase_one, phase_two] at hm ⊢
  rcases hm with (hm | hm) | hm
  · exact .inl (.inl (by omega))
  · by_cases h1 : age' m t < life' m
    · exact .inl (.inl h1)
    · exact .inl (.inr ⟨h1, hm.2.1, by omega⟩)
  · exact .inr ⟨hm.1, by omega⟩
set_option maxHeartbeats 4000000 in
theorem phases_law (A : Option Addr) (c : Nat) (bs : List Int) (M : PH) (hs : Sl M A 1 byC bs) (hby : ∀ (i : Nat) b, bs[i]? = some b → 0 ≤ b ∧ b ≤ 255) :
    ACall env 14 [.slice A bs.length c] M fun r M' => r = B true ∧ M.Le M' := by
  refine xcall_of_vc Try.func14 rfl _ Try.ntmps14 _ rfl (fun _ _ => Try.call14 _ _) rfl (fun w0 ρ0 => ?_)
  conv => whnf
  repeat' (first | (refine ⟨⟨[], rfl⟩, _, PH.Le.refl _, PH.Le.refl _, ?_⟩; conv => whnf) | (refine caseB_true ?_; conv => whnf) | (refine caseB_false ?_; conv => whnf) | ((with_reducible refine caseB_dec (fun h => ?_) (fun h => ?_)) <;> conv => whnf) | ((with_reducible refine caseB_ndec (fun h => ?_) (fun h => ?_)) <;> conv => whnf) | ((with_reducible refine caseB_not (fun h => ?_) (fun h => ?_)) <;> conv => whnf) | (refine Ret.go (lwBig_ret A c bs _) ?_; conv => whnf) | (refine caseB_intro (fun h => ?_) (fun h => ?_) <;> (try simp only [Bool.not_eq_true', Bool.not_eq_false', decide_eq_true_eq, decide_eq_false_iff_not] at h) <;> conv => whnf))
  · exact ⟨_, PH.Le.refl _, rfl, PH.Le.refl _⟩
  have hb : Byt M A bs := ⟨hs, by omega, hby⟩
  refine ACall.step (drawPhaseOf_ret A c bs M hb) fun r M1 hh => ?_
  obtain ⟨m, t, rfl, l1⟩ := hh
  conv => whnf
  repeat' (first | (refine ⟨⟨[], rfl⟩, _, PH.Le.refl _, PH.Le.refl _, ?_⟩; conv => whnf) | (refine caseB_true ?_; conv => whnf) | (refine caseB_false ?_; conv => whnf) | ((with_reducible refine caseB_dec (fun h => ?_) (fun h => ?_)) <;> conv => whnf) | ((with_reducible refine caseB_ndec (fun h => ?_) (fun h => ?_)) <;> conv => whnf) | ((with_reducible refine caseB_not (fun h => ?_) (fun h => ?_)) <;> conv => whnf) | (refine Ret.go (phaseOf_impl m t _) ?_; conv => whnf) | (refine Ret.go (ageAt_impl m t _) ?_; conv => whnf) | (refine draw_rule (.light 0 <| .light 1 <| .light 2 <| .alt 3 false (.light 4 <| .light 5 <| .light 6 <| .light 7 <| .light 8 <| .alt 9 false (.light 10 <| .light 11 <| .light 12 <| .light 13 <| .light 15 <| .alt 14 false (.alt 16 false (.light 17 <| .light 18 <| .done) .nil) .nil) .nil) .nil) (by decide +kernel) ?_; conv => whnf) | (refine Ret.go (phaseOf_spec m t _) ?_; conv => whnf) | (refine Ret.go (ageAt_spec m t _) ?_; conv => whnf) | (refine Ret.go (metaFault_impl m _) ?_; conv => whnf) | (refine Ret.go (metaFault_spec m _) ?_; conv => whnf) | (refine Ret.go (mayServe_impl m t true _) ?_; conv => whnf) | (refine caseB_intro (fun h => ?_) (fun h => ?_) <;> (try simp only [Bool.not_eq_true', Bool.not_eq_false', decide_eq_true_eq, decide_eq_false_iff_not] at h) <;> conv => whnf))
  · simp at h
  · simp at h
  · exact absurd rfl h
  · have hat : isAt m t = false := by
      cases hh : isAt m t with
      | false => rfl
      | true => simp [phaseOf, hh] at h
    exact ⟨_, PH.Le.refl _, by simp [resV, hat], l1⟩
  have hat : isAt m t = true := by
    cases hh : isAt m t with
    | true => rfl
    | false => simp [phaseOf, hh] at h
  refine ACall.step (lwAt_ret A c 2 4000 bs M1 (hb.mono l1) (by omega) (by omega) (by omega)) fun r M2 hh => ?_
  obtain ⟨x, rfl, hx, rfl⟩ := hh
  obtain ⟨x0, x1⟩ := hx (by omega)
  conv => whnf
  have hit : isT t = true := by rw [isAt_iff] at hat; exact hat.1.2
  have hix : isT x = true := by rw [isT_iff]; omega
  have e2 : addTime2 t x = ⟨0, add' t x⟩ := by simp [addTime2, hit, hix]
  refine Ret.go (addTime2_ret t x _) ?_
  rw [e2]
  conv => whnf
  have hu : isAt m (add' t x) = true ∧ t ≤ add' t x := by
    rw [isAt_iff] at hat ⊢
    simp only [isT_iff] at hat hix ⊢
    unfold add' min'
    rw [wr_id (n := t + x) (by omega) (by omega)]
    split <;> omega
  generalize add' t x = u at hu ⊢
  obtain ⟨hu, hle⟩ := hu
  have f1 : (phaseOf m u).why = 0 := by simp [phaseOf, hu]
  have f2 : ¬ (ageAt m u).n < (ageAt m t).n := by
    have := (age_mono hat hu hle).2
    simp only [ageAt, hu, hat, if_true]
    omega
  have f3 : (phaseOf m u).n = 1 → (phaseOf m t).n = 1 := by
    have := (age_mono hat hu hle).2
    simp only [phaseOf, hu, hat, if_true, phase_one]
    omega
  have f4 : (isAt m u && may m u true) = true → (isAt m t && may m t true) = true := by
    simp only [hu, hat, Bool.true_and]
    exact may_mono hat hu hle
  have f5 : (isAt m t && may m t false) = true → (isAt m t && may m t true) = true := by
    simp only [hat, Bool.true_and, may, Bool.or_eq_true, Bool.and_eq_true]
    rintro (h | h)
    · exact .inl h
    · simp at h
  have f6 : (phaseOf ⟨m.at_, m.age, m.life, m.swr, m.sie, true, m.nocache⟩ t).n = 1 → False := by
    have h0 := (age_mono hat hat (Int.le_refl t)).1
    simp only [phaseOf]
    split
    · simp only [phase_one, life']
      intro h
      have : age' ⟨m.at_, m.age, m.life, m.swr, m.sie, true, m.nocache⟩ t = age' m t := rfl
      simp at h
      omega
    · simp
  have f7 : (phaseOf m t).n = 1 → (isAt m t && may m t false) = true := by
    simp only [phaseOf, hat, if_true, Bool.true_and, may]
    intro h
    simp [h]
  repeat' (first | (refine ⟨⟨[], rfl⟩, _, PH.Le.refl _, PH.Le.refl _, ?_⟩; conv => whnf) | (refine caseB_true ?_; conv => whnf) | (refine caseB_false ?_; conv => whnf) | ((with_reducible refine caseB_dec (fun h => ?_) (fun h => ?_)) <;> conv => whnf) | ((with_reducible refine caseB_ndec (fun h => ?_) (fun h => ?_)) <;> conv => whnf) | ((with_reducible refine caseB_not (fun h => ?_) (fun h => ?_)) <;> conv => whnf) | (refine Ret.go (phaseOf_impl m u _) ?_; conv => whnf) | (refine Ret.go (ageAt_impl m u _) ?_; conv => whnf) | (refine draw_rule (.light 0 <| .light 1 <| .light 2 <| .alt 3 false (.light 4 <| .light 5 <| .light 6 <| .light 7 <| .light 8 <| .alt 9 false (.light 10 <| .light 11 <| .light 12 <| .light 13 <| .light 15 <| .alt 14 false (.alt 16 false (.light 17 <| .light 18 <| .done) .nil) .nil) .nil) .nil) (by decide +kernel) ?_; conv => whnf) | (refine Ret.go (mayServe_impl m u true _) ?_; conv => whnf) | (refine Ret.go (mayServe_impl m t true _) ?_; conv => whnf) | (refine Ret.go (mayServe_impl m t false _) ?_; conv => whnf) | (refine Ret.go (phaseOf_impl ⟨m.at_, m.age, m.life, m.swr, m.sie, true, m.nocache⟩ t _) ?_; conv => whnf) | (refine caseB_intro (fun h => ?_) (fun h => ?_) <;> (try simp only [Bool.not_eq_true', Bool.not_eq_false', decide_eq_true_eq, decide_eq_false_iff_not] at h) <;> conv => whnf))
  all_goals clear hs hby hb hx hit hix e2 hat hu hle
  all_goals first | (exfalso; first | exact absurd f1 ‹_› | exact f2 ‹_› | exact f6 ‹_› | exact absurd (f3 ‹_›) ‹_›; done) | skip
  all_goals refine ⟨_, PH.Le.refl _, ?_, l1⟩
  all_goals simp only [resV]
  all_goals generalize (isAt m u && may m u true) = q1 at *
  all_goals generalize (isAt m t && may m t true) = q2 at *
  all_goals generalize (isAt m t && may m t false) = q3 at *
  all_goals generalize (phaseOf m t).n = n1 at *
  all_goals generalize (phaseOf m u).n = n2 at *
  all_goals clear f1 f2 f6
  all_goals (cases q1 <;> cases q2 <;> cases q3 <;> first | rfl | (exfalso; first | contradiction | (have z := f7 ‹_›; contradiction) | (have z := f7 (f3 ‹_›); contradiction) | (have z := f4 rfl; contradiction) | (have z := f5 rfl; contradiction) | exact absurd (f3 ‹_›) ‹_› | omega))
end Go.Proofs.Ytffddijdfeafnaa
