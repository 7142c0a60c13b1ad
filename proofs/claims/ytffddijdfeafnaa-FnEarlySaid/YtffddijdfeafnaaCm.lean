/-
  CONTRACTS: the law over what is renewed early.
-/
import Derived.Test.YtffddijdfeafnaaCl
namespace Go.Proofs.Ytffddijdfeafnaa
set_option maxRecDepth 100000
set_option linter.unusedSimpArgs false
open Go.Xe
theorem meta_facts (p : Pl) (a b t : Int) (h : (metaOf p a b t).why = 0) : metaOk (metaOf p a b t).m = true ∧ (ageAt (metaOf p a b t).m t).n = p.n6 := by
  unfold metaOf at h ⊢
  by_cases h1 : (storeLife p a b).why = 0
  · rw [if_pos h1] at h ⊢
    by_cases h2 : isT t = true
    · rw [if_pos h2] at h ⊢
      unfold storeLife at h1 ⊢
      by_cases h3 : (policyOk p && isStatus a && isT b) = true
      · rw [if_pos h3] at h1 ⊢
        by_cases h4 : keeps p a = true
        · rw [if_pos h4] at h1 ⊢
          simp only [policyOk, Bool.and_eq_true, Bool.or_eq_true, isT_iff, decide_eq_true_eq] at h3 h2
          obtain ⟨⟨⟨⟨⟨h5, h6⟩, h7⟩, h8⟩, _⟩, h9⟩ := h3
          have hk : 0 ≤ keepN p b ∧ keepN p b ≤ 1000000000000000 := by
            unfold keepN
            split
            · exact h9
            · rcases h5 with h5 | h5
              · exact h5
              · contradiction
          have hm : metaOk (noteOf p (keepN p b) t) = true := by
            simp only [metaOk, noteOf, Bool.and_eq_true, isT_iff]
            refine ⟨⟨⟨⟨h2, h8⟩, hk⟩, h6⟩, h7⟩
          refine ⟨hm, ?_⟩
          have hat : isAt (noteOf p (keepN p b) t) t = true := by
            simp only [isAt, hm, Bool.true_and, Bool.and_eq_true, isT_iff, decide_eq_true_eq]
            exact ⟨h2, by simp [noteOf]⟩
          simp only [ageAt, hat, if_true]
          rw [age_eq hat]
          show min' (p.n6 + (t - t)) 1000000000000000 = p.n6
          rw [Int.sub_self, Int.add_zero]
          exact if_neg (by omega)
        · rw [if_neg h4] at h1; simp at h1
      · rw [if_neg h3] at h1; simp at h1
    · rw [if_neg h2] at h; simp at h
  · rw [if_neg h1] at h; simp at h; contradiction
def due (m : Mt) (t l c : Int) : Bool := isAt m t && inB l 0 1000000 && inB c 0 999 && early1 m t l c
theorem due_facts {m : Mt} {t l c : Int} (h : due m t l c = true) : (phaseOf m t).n = 1 ∧ due m t l 999 = true := by
  simp only [due, Bool.and_eq_true, early1, decide_eq_true_eq] at h ⊢
  obtain ⟨⟨⟨h1, h2⟩, h3⟩, h4, h5⟩ := h
  refine ⟨by simp only [phaseOf, h1, if_true]; exact h4, ⟨⟨h1, h2⟩, by decide⟩, h4, ?_⟩
  simp only [inB, decide_eq_true_eq] at h2 h3
  have e1 : 0 ≤ l * c := Int.mul_nonneg h2.1 h3.1
  have e2 : l * c ≤ l * 999 := Int.mul_le_mul_of_nonneg_left h3.2 h2.1
  rw [wr_id (n := l * c) (by omega) (by omega)] at h5
  rw [wr_id (n := l * 999) (by omega) (by omega)]
  omega
theorem due_no (m : Mt) (t l : Int) : due m t l 1000 = false := by
  simp [due, inB]
theorem early_impl (m : Mt) (t l c : Int) (M : PH) : Ret 44 [m.v, I t, I l, I c] M (B (due m t l c)) := earlyDue_impl m t l c M
theorem early_spec (m : Mt) (t l c : Int) (M : PH) : Ret 43 [m.v, I t, I l, I c] M (B (due m t l c)) := earlyDue_spec m t l c M
set_option maxHeartbeats 4000000 in
theorem early_law (A : Option Addr) (c : Nat) (bs : List Int) (M : PH) (hs : Sl M A 1 byC bs) (hby : ∀ (i : Nat) b, bs[i]? = some b → 0 ≤ b ∧ b ≤ 255) :
    ACall env 15 [.slice A bs.length c] M fun r M' => r = B true ∧ M.Le M' := by
  refine xcall_of_vc Try.func15 rfl _ Try.ntmps15 _ rfl (fun _ _ => Try.call15 _ _) rfl (fun w0 ρ0 => ?_)
  conv => whnf
  repeat' (first | (refine ⟨⟨[], rfl⟩, _, PH.Le.refl _, PH.Le.refl _, ?_⟩; conv => whnf) | (refine caseB_true ?_; conv => whnf) | (refine caseB_false ?_; conv => whnf) | ((with_reducible refine caseB_dec (fun h => ?_) (fun h => ?_)) <;> conv => whnf) | ((with_reducible refine caseB_ndec (fun h => ?_) (fun h => ?_)) <;> conv => whnf) | ((with_reducible refine caseB_not (fun h => ?_) (fun h => ?_)) <;> conv => whnf) | (refine Ret.go (lwBig_ret A c bs _) ?_; conv => whnf) | (refine caseB_intro (fun h => ?_) (fun h => ?_) <;> (try simp only [Bool.not_eq_true', Bool.not_eq_false', decide_eq_true_eq, decide_eq_false_iff_not] at h) <;> conv => whnf))
  · exact ⟨_, PH.Le.refl _, rfl, PH.Le.refl _⟩
  have hb : Byt M A bs := ⟨hs, by omega, hby⟩
  refine ACall.step (drawEarlyDue_ret A c bs M hb) fun r M1 hh => ?_
  obtain ⟨m, t, l, ch, rfl, l1⟩ := hh
  conv => whnf
  repeat' (first | (refine ⟨⟨[], rfl⟩, _, PH.Le.refl _, PH.Le.refl _, ?_⟩; conv => whnf) | (refine caseB_true ?_; conv => whnf) | (refine caseB_false ?_; conv => whnf) | ((with_reducible refine caseB_dec (fun h => ?_) (fun h => ?_)) <;> conv => whnf) | ((with_reducible refine caseB_ndec (fun h => ?_) (fun h => ?_)) <;> conv => whnf) | ((with_reducible refine caseB_not (fun h => ?_) (fun h => ?_)) <;> conv => whnf) | (refine Ret.go (early_impl m t l ch _) ?_; conv => whnf) | (refine caseB_intro (fun h => ?_) (fun h => ?_) <;> (try simp only [Bool.not_eq_true', Bool.not_eq_false', decide_eq_true_eq, decide_eq_false_iff_not] at h) <;> conv => whnf))
  refine ACall.step (drawMetaOf_ret A c bs M1 (hb.mono l1)) fun r M2 hh => ?_
  obtain ⟨p, a, b, u, rfl, l2⟩ := hh
  conv => whnf
  have f0 := meta_facts p a b u
  have f1 := @due_facts m t l ch
  have f2 := due_no m t l
  have hf : (metaOf p a b u).why = 0 → metaFault (metaOf p a b u).m = 0 := fun h => by simp [metaFault, (f0 h).1]
  repeat' (first | (refine ⟨⟨[], rfl⟩, _, PH.Le.refl _, PH.Le.refl _, ?_⟩; conv => whnf) | (refine caseB_true ?_; conv => whnf) | (refine caseB_false ?_; conv => whnf) | ((with_reducible refine caseB_dec (fun h => ?_) (fun h => ?_)) <;> conv => whnf) | ((with_reducible refine caseB_ndec (fun h => ?_) (fun h => ?_)) <;> conv => whnf) | ((with_reducible refine caseB_not (fun h => ?_) (fun h => ?_)) <;> conv => whnf) | (refine draw_rule (.light 0 <| .light 1 <| .light 2 <| .light 3 <| .light 4 <| .alt 5 false (.light 6 <| .light 7 <| .light 8 <| .light 9 <| .light 10 <| .light 11 <| .light 12 <| .alt 13 false (.light 14 <| .light 15 <| .done) .nil) .nil) (by decide +kernel) ?_; conv => whnf) | (refine draw_rule (.light 0 <| .light 1 <| .light 2 <| .light 3 <| .light 4 <| .light 5 <| .alt 6 false (.light 7 <| .light 8 <| .light 9 <| .light 10 <| .light 11 <| .light 14 <| .light 15 <| .alt 12 false (.light 13 <| .light 16 <| .light 17 <| .light 18 <| .done) .nil) .nil) (by decide +kernel) ?_; conv => whnf) | (refine Ret.go (metaOf_impl p a b u _) ?_; conv => whnf) | (refine Ret.go (early_spec m t l ch _) ?_; conv => whnf) | (refine Ret.go (metaOf_spec p a b u _) ?_; conv => whnf) | (refine Ret.go (metaFault_impl (metaOf p a b u).m _) ?_; conv => whnf) | (refine Ret.go (ageAt_impl (metaOf p a b u).m u _) ?_; conv => whnf) | (refine Ret.go (phaseOf_impl m t _) ?_; conv => whnf) | (refine Ret.go (early_impl m t l 999 _) ?_; conv => whnf) | (refine Ret.go (early_impl m t l 1000 _) ?_; conv => whnf) | (refine caseB_intro (fun h => ?_) (fun h => ?_) <;> (try simp only [Bool.not_eq_true', Bool.not_eq_false', decide_eq_true_eq, decide_eq_false_iff_not] at h) <;> conv => whnf))
  all_goals first | (exfalso; simp at h; done) | (exfalso; exact h (hf ‹_›)) | (exfalso; exact h (f0 ‹_›).2) | (exfalso; exact h (f1 ‹_›).1) | (exfalso; have z := (f1 ‹_›).2; rw [h] at z; cases z; done) | exact ⟨_, PH.Le.refl _, rfl, l1.trans l2⟩ | exact ⟨_, PH.Le.refl _, by simp [resV, f2], l1.trans l2⟩
end Go.Proofs.Ytffddijdfeafnaa
