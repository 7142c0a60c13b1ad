/-
  THE LAW over the same flights.
-/
import Derived.Test.YtnnfbjbfdoepmaaNd
namespace Go.Proofs.Ytnnfbjbfdoepmaa
set_option maxRecDepth 100000
set_option linter.unusedSimpArgs false
set_option linter.unusedVariables false
open Go.Xe
theorem costF {ws : List FlA} {n : Nat} (h : costL (fun x : FlA => x.c.cost) ws ≤ n) : ws.length ≤ n ∧ ∀ x ∈ ws, x.c.cost ≤ n := by
  have := costL_len (fun x : FlA => x.c.cost) ws
  exact ⟨by omega, fun x hx => by have := costL_le (f := fun x : FlA => x.c.cost) hx; omega⟩
theorem inns {M M' : PH} {ws : List FlA} (h : ∀ x ∈ ws, x.inn M ∧ x.c.cost ≤ 1048576) (l : M.Le M') : ∀ x ∈ ws, x.inn M' ∧ x.c.cost ≤ 1048576 := fun x hx => ⟨(h x hx).1.mono l, (h x hx).2⟩
theorem costs_of {ws us : List FlA} {M : PH} (h : ∀ x ∈ ws, x.c.cost ≤ 1048576) (hi : ∀ x ∈ us, x.inn M) (hc : us.map (·.c) = ws.map (·.c)) : ∀ x ∈ us, x.inn M ∧ x.c.cost ≤ 1048576 := fun x hx => ⟨hi x hx, by
  have : x.c ∈ us.map (·.c) := List.mem_map.2 ⟨x, hx, rfl⟩
  rw [hc] at this
  obtain ⟨y, hy, e⟩ := List.mem_map.1 this
  rw [← e]; exact h y hy⟩
theorem sameFlights_law (A A' : Option Addr) (c c' : Nat) (ws us : List FlA) (M : PH) (hs : Sl M A 11 FlA.cs ws) (hs' : Sl M A' 11 FlA.cs us) (h63 : ws.length ≤ maxLen) (h63' : us.length ≤ maxLen) (hi : ∀ x ∈ ws, x.inn M ∧ x.c.okl) (hi' : ∀ x ∈ us, x.inn M ∧ x.c.okl) :
    ACall env 3 [.slice A ws.length c, .slice A' us.length c'] M fun r M' => r = B true ∧ M.Le M' := by
  refine xcall_of_vc Try.func3 rfl _ Try.ntmps3 _ rfl (fun _ _ => Try.call3 _ _) rfl (fun w0 ρ0 => ?_)
  conv => whnf
  refine ACall.step (szFlightS_ret A c ws _ M hs hi h63 (by omega) (by omega)) fun v M2 hh => ?_
  obtain ⟨m, rfl, rfl, hm⟩ := hh
  conv => whnf
  refine caseB_dec (fun h0 => ?_) (fun h0 => ?_)
  · conv => whnf
    exact ⟨_, PH.Le.refl _, rfl, PH.Le.refl _⟩
  have hm := hm (by omega)
  conv => whnf
  refine ACall.step (szFlightS_ret A' c' us _ M2 hs' hi' h63' (by omega) (by omega)) fun v M3 hh => ?_
  obtain ⟨m2, rfl, rfl, hm2⟩ := hh
  conv => whnf
  refine caseB_dec (fun h1 => ?_) (fun h1 => ?_)
  · conv => whnf
    exact ⟨_, PH.Le.refl _, rfl, PH.Le.refl _⟩
  have hm2 := hm2 (by omega)
  obtain ⟨hn, hco⟩ := costF (ws := ws) (n := 1048576) (by omega)
  obtain ⟨hn', hco'⟩ := costF (ws := us) (n := 1048576) (by omega)
  have hj : ∀ x ∈ ws, x.inn M3 ∧ x.c.cost ≤ 1048576 := fun x hx => ⟨(hi x hx).1, hco x hx⟩
  have hj' : ∀ x ∈ us, x.inn M3 ∧ x.c.cost ≤ 1048576 := fun x hx => ⟨(hi' x hx).1, hco' x hx⟩
  clear hi hi' hm hm2 h0 h1
  conv => whnf
  refine ACall.step (toFlightS_ret A c ws _ hs hj hn) fun r M1 h => ?_
  obtain ⟨g1, xs1, _, rfl, l1, s1, i1, e1⟩ := h
  conv => whnf
  refine ACall.step (toFlightS_ret A' c' us _ (hs'.mono l1) (inns hj' l1) hn') fun r M2 h => ?_
  obtain ⟨g2, ys1, _, rfl, l2, s2, i2, e2⟩ := h
  conv => whnf
  have n1 : xs1.length = ws.length := by simpa using congrArg List.length e1
  have n2 : ys1.length = us.length := by simpa using congrArg List.length e2
  refine Ret.go (sameFlights_spec _ _ _ _ xs1 ys1 _ (s1.mono l2) s2 (costs_of hco (fun x hx => (i1 x hx).mono l2) e1) i2 (by omega)) ?_
  conv => whnf
  have l3 := l1.trans l2
  clear s1 s2 i1 i2
  refine ACall.step (toFlightS_ret A c ws _ (hs.mono l3) (inns hj l3) hn) fun r M4 h => ?_
  obtain ⟨g3, xs2, _, rfl, l4, s3, i3, e3⟩ := h
  conv => whnf
  have l5 := l3.trans l4
  refine ACall.step (toFlightS_ret A' c' us _ (hs'.mono l5) (inns hj' l5) hn') fun r M5 h => ?_
  obtain ⟨g4, ys2, _, rfl, l6, s4, i4, e4⟩ := h
  conv => whnf
  have l7 := l5.trans l6
  have n3 : xs2.length = ws.length := by simpa using congrArg List.length e3
  have n4 : ys2.length = us.length := by simpa using congrArg List.length e4
  have s3 := s3.mono l6
  have i3 := fun x hx => (i3 x hx).mono l6
  refine Ret.go (sameFlights_impl _ _ _ _ xs2 ys2 _ s3 s4 (costs_of hco i3 e3) i4 (by omega)) ?_
  conv => whnf
  rw [e1, e2, e3, e4]
  refine caseB_not (fun h => ?_) (fun h => ?_)
  · exfalso; simp at h
  clear h
  conv => whnf
  refine ACall.step (toFlightS_ret A c ws _ (hs.mono l7) (inns hj l7) hn) fun r M6 h => ?_
  obtain ⟨g5, xs3, _, rfl, l8, s5, i5, e5⟩ := h
  conv => whnf
  refine Ret.go (eqFlightS_ret _ _ _ _ xs2 xs3 _ (s3.mono l8) s5 (costs_of hco (fun x hx => (i3 x hx).mono l8) e3) i5 (by rw [e5, e3]) (by omega)) ?_
  conv => whnf
  refine caseB_false ?_
  conv => whnf
  have l9 := l7.trans l8
  refine ACall.step (toFlightS_ret A' c' us _ (hs'.mono l9) (inns hj' l9) hn') fun r M7 h => ?_
  obtain ⟨g6, ys3, _, rfl, l10, s6, i6, e6⟩ := h
  conv => whnf
  refine Ret.go (eqFlightS_ret _ _ _ _ ys2 ys3 _ ((s4.mono l8).mono l10) s6 (costs_of hco' (fun x hx => ((i4 x hx).mono l8).mono l10) e4) i6 (by rw [e6, e4]) (by omega)) ?_
  conv => whnf
  refine caseB_false ?_
  conv => whnf
  exact ⟨_, PH.Le.refl _, rfl, l9.trans l10⟩
end Go.Proofs.Ytnnfbjbfdoepmaa
