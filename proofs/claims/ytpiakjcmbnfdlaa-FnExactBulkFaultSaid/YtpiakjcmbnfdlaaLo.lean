/-
  THE LAW over what is wrong with a bulkhead.
-/
import Derived.Test.YtpiakjcmbnfdlaaLn
namespace Go.Proofs.Ytpiakjcmbnfdlaa
set_option maxRecDepth 100000
set_option linter.unusedSimpArgs false
set_option linter.unusedVariables false
open Go.Xe
theorem bulkFault_law (k : Int) (l : Ln) (A : Option Addr) (c : Nat) (ws : List Wt) (M : PH) (hs : Sl M A 2 Wt.cs ws) (h63 : ws.length ≤ maxLen) :
    ACall env 4 [bulkV k A ws.length c, l.v] M fun r M' => r = B true ∧ M.Le M' := by
  refine xcall_of_vc Try.func4 rfl _ Try.ntmps4 _ rfl (fun _ _ => Try.call4 _ _) rfl (fun w0 ρ0 => ?_)
  conv => whnf
  repeat' (first | (refine ⟨⟨[], rfl⟩, _, PH.Le.refl _, PH.Le.refl _, ?_⟩; conv => whnf) | (refine caseB_true ?_; conv => whnf) | (refine caseB_false ?_; conv => whnf) | ((with_reducible refine caseB_dec (fun h => ?_) (fun h => ?_)) <;> conv => whnf) | ((with_reducible refine caseB_ndec (fun h => ?_) (fun h => ?_)) <;> conv => whnf) | ((with_reducible refine caseB_not (fun h => ?_) (fun h => ?_)) <;> conv => whnf) | (refine Ret.go (szBulk_ret k A c ws _ _) ?_; conv => whnf) | (with_reducible refine @And.intro (guardVC _ _ _ _ _) _ ?_ ?_) <;> conv => whnf | (refine caseB_intro (fun h => ?_) (fun h => ?_) <;> (try simp only [Bool.not_eq_true', Bool.not_eq_false', decide_eq_true_eq, decide_eq_false_iff_not] at h) <;> conv => whnf))
  · exact ⟨_, PH.Le.refl _, rfl, PH.Le.refl _⟩
  obtain ⟨e1, b1⟩ := sz_in (by omega) (by omega) h63 h
  have hn : ws.length ≤ 1048576 := by omega
  clear h e1 b1
  repeat' (first | (refine ⟨⟨[], rfl⟩, _, PH.Le.refl _, PH.Le.refl _, ?_⟩; conv => whnf) | (refine ACall.step (toBulk_new k A c ws _ (hs.mono (by repeat (first | exact PH.Le.refl _ | assumption | (apply PH.Le.trans; · assumption)))) hn) fun r M1 hh => ?_; obtain ⟨g, rfl, l1, s1⟩ := hh; (first | (refine ⟨⟨[], rfl⟩, _, l1, PH.Le.refl _, ?_⟩; conv => whnf) | conv => whnf)) | (refine caseB_true ?_; conv => whnf) | (refine caseB_false ?_; conv => whnf) | ((with_reducible refine caseB_dec (fun h => ?_) (fun h => ?_)) <;> conv => whnf) | ((with_reducible refine caseB_ndec (fun h => ?_) (fun h => ?_)) <;> conv => whnf) | ((with_reducible refine caseB_not (fun h => ?_) (fun h => ?_)) <;> conv => whnf) | (refine Ret.go (toLanes_ret l _) ?_; conv => whnf) | (refine Ret.go (bulkFault_spec k _ _ ws l _ (by first | assumption | exact Sl.mono (by assumption) (by repeat (first | exact PH.Le.refl _ | assumption | (apply PH.Le.trans; · assumption)))) hn) ?_; conv => whnf) | (refine Ret.go (bulkFault_impl k _ _ ws l _ (by first | assumption | exact Sl.mono (by assumption) (by repeat (first | exact PH.Le.refl _ | assumption | (apply PH.Le.trans; · assumption)))) hn) ?_; conv => whnf) | (refine Ret.go (eqBulk_ret k _ _ _ _ ws _ (by first | assumption | exact Sl.mono (by assumption) (by repeat (first | exact PH.Le.refl _ | assumption | (apply PH.Le.trans; · assumption)))) (by first | assumption | exact Sl.mono (by assumption) (by repeat (first | exact PH.Le.refl _ | assumption | (apply PH.Le.trans; · assumption)))) hn) ?_; conv => whnf) | (refine draw_rule (.light 0 <| .light 2 <| .alt 1 false (.alt 3 false (.alt 4 false (.light 5 <| .done) .nil) .nil) .nil) (by decide +kernel) ?_; conv => whnf) | (refine draw_rule (.light 0 <| .light 1 <| .alt 2 false (.alt 3 false (.light 4 <| .done) .nil) .nil) (by decide +kernel) ?_; conv => whnf) | (refine draw_rule (.light 0 <| .light 1 <| .alt 2 false (.alt 3 false (.light 4 <| .done) .nil) .nil) (by decide +kernel) ?_; conv => whnf) | (with_reducible refine @And.intro (guardVC _ _ _ _ _) _ ?_ ?_) <;> conv => whnf | (refine caseB_intro (fun h => ?_) (fun h => ?_) <;> (try simp only [Bool.not_eq_true', Bool.not_eq_false', decide_eq_true_eq, decide_eq_false_iff_not] at h) <;> conv => whnf))
  all_goals first | (exfalso; simp at h; done) | exact absurd rfl h | exact ⟨_, PH.Le.refl _, rfl, (by repeat (first | exact PH.Le.refl _ | assumption | (apply PH.Le.trans; · assumption)))⟩
end Go.Proofs.Ytpiakjcmbnfdlaa
