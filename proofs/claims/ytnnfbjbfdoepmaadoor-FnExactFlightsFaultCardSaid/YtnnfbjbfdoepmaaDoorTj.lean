/-
  THE LAW over what is wrong with flights.
-/
import Derived.Test.YtnnfbjbfdoepmaaDoorTi
import Derived.Test.YtnnfbjbfdoepmaaDoorNc
namespace Go.Proofs.YtnnfbjbfdoepmaaDoor
set_option maxRecDepth 100000
set_option linter.unusedSimpArgs false
set_option linter.unusedVariables false
open Go.Xe
theorem fls_of {ws us : List FlA} {M : PH} {g : Nat} (hco : ∀ x ∈ ws, x.c.cost ≤ 1048576) (hn : ws.length ≤ 1048576) (s : Sl M (some ⟨g, 0, none⟩) 11 FlA.cs us) (i : ∀ x ∈ us, x.inn M ∧ x.cap) (e : us.map (·.c) = ws.map (·.c)) : Fls M (some ⟨g, 0, none⟩) us.length us := by
  have hl : us.length = ws.length := by simpa using congrArg List.length e
  exact ⟨s, by omega, Nat.le_refl _, costs_of hco (fun x hx => (i x hx).1) e, fun x hx => (i x hx).2⟩
theorem flightsFault_law (A : Option Addr) (c : Nat) (ws : List FlA) (M : PH) (hs : Sl M A 11 FlA.cs ws) (h63 : ws.length ≤ maxLen) (hi : ∀ x ∈ ws, x.inn M ∧ x.c.okl) :
    ACall env 4 [.slice A ws.length c] M fun r M' => r = B true ∧ M.Le M' := by
  refine xcall_of_vc Tryd.func4 rfl _ Tryd.ntmps4 _ rfl (fun _ _ => Tryd.call4 _ _) rfl (fun w0 ρ0 => ?_)
  conv => whnf
  refine ACall.step (szFlightS_ret A c ws _ M hs hi h63 (by omega) (by omega)) fun v M2 hh => ?_
  obtain ⟨m, rfl, rfl, hm⟩ := hh
  conv => whnf
  refine caseB_dec (fun h0 => ?_) (fun h0 => ?_)
  · conv => whnf
    exact ⟨_, PH.Le.refl _, rfl, PH.Le.refl _⟩
  have hm := hm (by omega)
  obtain ⟨hn, hco⟩ := costF (ws := ws) (n := 1048576) (by omega)
  have hj : ∀ x ∈ ws, x.inn M2 ∧ x.c.cost ≤ 1048576 := fun x hx => ⟨(hi x hx).1, hco x hx⟩
  clear hi hm h0
  conv => whnf
  refine ACall.step (toFlightS_ret A c ws _ hs hj hn) fun r M1 h => ?_
  obtain ⟨g1, xs1, _, rfl, l1, s1, i1, e1⟩ := h
  conv => whnf
  refine Ret.go (flightsFault_spec _ _ xs1 _ (fls_of hco hn s1 i1 e1)) ?_
  conv => whnf
  refine ACall.step (toFlightS_ret A c ws _ (hs.mono l1) (inns hj l1) hn) fun r M3 h => ?_
  obtain ⟨g2, xs2, _, rfl, l2, s2, i2, e2⟩ := h
  conv => whnf
  refine Ret.go (flightsFault_impl _ _ xs2 _ (fls_of hco hn s2 i2 e2)) ?_
  conv => whnf
  refine caseB_ndec (fun h => absurd (by rw [e1, e2]) h) (fun _ => ?_)
  conv => whnf
  have l3 := l1.trans l2
  have n2 : xs2.length = ws.length := by simpa using congrArg List.length e2
  refine ACall.step (toFlightS_ret A c ws _ (hs.mono l3) (inns hj l3) hn) fun r M4 h => ?_
  obtain ⟨g3, xs3, _, rfl, l4, s4, i4, e4⟩ := h
  conv => whnf
  refine Ret.go (eqFlightS_ret _ _ _ _ xs2 xs3 _ (s2.mono l4) s4 (costs_of hco (fun x hx => (i2 x hx).1.mono l4) e2) (fun x hx => (i4 x hx).1) (by rw [e4, e2]) (by omega)) ?_
  conv => whnf
  refine caseB_false ?_
  conv => whnf
  exact ⟨_, PH.Le.refl _, rfl, l3.trans l4⟩
end Go.Proofs.YtnnfbjbfdoepmaaDoor
