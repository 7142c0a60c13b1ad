/-
  THE LAW over what is wrong with a flight.
-/
import Derived.Test.YtnnfbjbfdoepmaaDoorTg
import Derived.Test.YtnnfbjbfdoepmaaDoorNc
namespace Go.Proofs.YtnnfbjbfdoepmaaDoor
set_option maxRecDepth 100000
set_option linter.unusedSimpArgs false
set_option linter.unusedVariables false
open Go.Xe
theorem flightFault_law (x : FlA) (M : PH) (hi : x.inn M) (ho : x.c.okl) :
    ACall env 3 [x.val] M fun r M' => r = B true ∧ M.Le M' := by
  refine xcall_of_vc Tryd.func3 rfl _ Tryd.ntmps3 _ rfl (fun _ _ => Tryd.call3 _ _) rfl (fun w0 ρ0 => ?_)
  conv => whnf
  refine ACall.step (szFlight_ret x _ M ⟨hi, ho⟩ (by omega) (by omega)) fun v M2 hh => ?_
  obtain ⟨m, rfl, rfl, hm⟩ := hh
  conv => whnf
  refine caseB_dec (fun h0 => ?_) (fun h0 => ?_)
  · conv => whnf
    exact ⟨_, PH.Le.refl _, rfl, PH.Le.refl _⟩
  have hm := hm (by omega)
  have hco : x.c.cost ≤ 1048576 := by omega
  clear hm h0 ho
  conv => whnf
  refine ACall.step (toFlight_ret x _ hi hco) fun v M1 hh => ?_
  obtain ⟨y1, rfl, e1, l1, i1, p1⟩ := hh
  conv => whnf
  refine Ret.go (flightFault_spec y1 _ i1 (by rw [e1]; exact hco)) ?_
  conv => whnf
  refine ACall.step (toFlight_ret x _ (hi.mono l1) hco) fun v M3 hh => ?_
  obtain ⟨y2, rfl, e2, l2, i2, p2⟩ := hh
  conv => whnf
  refine Ret.go (flightFault_impl y2 _ i2 (by rw [e2]; exact hco) p2) ?_
  conv => whnf
  refine caseB_ndec (fun h => absurd (by rw [e1, e2]) h) (fun _ => ?_)
  conv => whnf
  repeat' (first | (refine ⟨⟨[], rfl⟩, _, PH.Le.refl _, PH.Le.refl _, ?_⟩; conv => whnf) | (refine ACall.step (toFlight_ret x _ ((hi.mono l1).mono l2) hco) fun v M4 hh => ?_; obtain ⟨y3, rfl, e3, l3, i3, p3⟩ := hh; (first | (refine ⟨⟨[], rfl⟩, _, l3, PH.Le.refl _, ?_⟩; conv => whnf) | conv => whnf)) | (refine caseB_true ?_; conv => whnf) | (refine caseB_false ?_; conv => whnf) | ((with_reducible refine caseB_dec (fun h => ?_) (fun h => ?_)) <;> conv => whnf) | ((with_reducible refine caseB_ndec (fun h => ?_) (fun h => ?_)) <;> conv => whnf) | ((with_reducible refine caseB_not (fun h => ?_) (fun h => ?_)) <;> conv => whnf) | (refine draw_rule (.light 0 <| .light 1 <| .alt 2 false (.alt 3 false (.light 4 <| .done) .nil) .nil) (by decide +kernel) ?_; conv => whnf) | (refine Ret.go (eqFlight_ret y2 y3 _ (i2.mono l3) i3 (by rw [e2, e3]) (by rw [e2]; exact hco)) ?_; conv => whnf) | (with_reducible refine @And.intro (guardVC _ _ _ _ _) _ ?_ ?_) <;> conv => whnf | (refine caseB_intro (fun h => ?_) (fun h => ?_) <;> (try simp only [Bool.not_eq_true', Bool.not_eq_false', decide_eq_true_eq, decide_eq_false_iff_not] at h) <;> conv => whnf))
  all_goals exact ⟨_, PH.Le.refl _, rfl, (l1.trans l2).trans l3⟩
theorem openFlight {H : Type} {enc : TypeId × Value → H} {W : World} {base : Nat} {v : Value} {d : DataW H} {p : List MemPlace} (hv : Value.okWide Tryd.prog W .any base 27 v)
    (h : DataW.Trod enc Tryd.prog W 0 (fun _ => true) true 27 v d p) : ∃ x : FlA, v = x.val ∧ x.inn (whole W) ∧ x.c.okl := by
  obtain ⟨cs, rfl, hs⟩ := open_arg env 9 (ti := ti27) (by kernel_rfl) (s := shFl) (by kernel_rfl) hv h
  obtain ⟨x, rfl, h1, h2⟩ := open_fl hs
  exact ⟨x, rfl, h1, h2⟩
end Go.Proofs.YtnnfbjbfdoepmaaDoor
