/-
  WHO JOINS a flight, and whose waiting ends: the program's and the reference's functions.
-/
import Derived.Test.YteokagamfdcjgaaGreatDoorHa
namespace Go.Proofs.YteokagamfdcjgaaGreatDoor
set_option maxRecDepth 100000
set_option linter.unusedSimpArgs false
set_option linter.unusedVariables false
open Go.Xe
theorem cloneHdE_ret (A : Option Addr) (c : Nat) (ws : List Hd) (M : PH) (hs : Sl M A 2 Hd.cs ws) (hn : ws.length ≤ 1048576) :
    ACall env 57 [.slice A ws.length c] M fun r M' => ∃ o A' c', r = .slice A' ws.length c' ∧ New M M' o A' c' 2 Hd.cs ws := by
  refine xcall_of_vc Tryz.func57 rfl _ Tryz.ntmps57 _ rfl (fun _ _ => Tryz.call57 _ _) rfl (fun w0 ρ0 => ?_)
  conv => whnf
  refine caseB_intro (fun h => ?_) (fun h => ?_)
  · conv => whnf
    have : ws = [] := by
      apply Classical.byContradiction
      intro hne
      have := hs.ne hne
      cases A with
      | none => cases this
      | some a => cases h
    subst this
    exact ⟨_, PH.Le.refl _, none, none, 0, rfl, New.nil M none⟩
  · conv => whnf
    intro g0 hg0
    conv => whnf
    refine app_sl (te := ti81) (f := Hd.cs) (xs := []) (ys := ws) (o := none) (hs.mono (PH.Le.set _ hg0)) Ow.nil Hd.len Hd_oneE rfl (hd_fitsE 0 ws.length (by omega)) (by simp; omega) fun o A' c' M' hO hK hF => ?_
    conv => whnf
    exact ⟨_, PH.Le.refl _, o, A', c', rfl, hO, (PH.Le.set _ hg0).trans hK.le, fun g e => by
      rcases hF with h1 | ⟨g', h1, h2⟩
      · rw [h1] at e; cases e
      · rw [h1] at e; cases e; exact set_none h2⟩

theorem cloneWrE_ret (A : Option Addr) (c : Nat) (ws : List Wr) (M : PH) (hs : Sl M A 4 Wr.cs ws) (hn : ws.length ≤ 1048576) :
    ACall env 41 [.slice A ws.length c] M fun r M' => ∃ o A' c', r = .slice A' ws.length c' ∧ New M M' o A' c' 4 Wr.cs ws := by
  refine xcall_of_vc Tryz.func41 rfl _ Tryz.ntmps41 _ rfl (fun _ _ => Tryz.call41 _ _) rfl (fun w0 ρ0 => ?_)
  conv => whnf
  refine caseB_intro (fun h => ?_) (fun h => ?_)
  · conv => whnf
    have : ws = [] := by
      apply Classical.byContradiction
      intro hne
      have := hs.ne hne
      cases A with
      | none => cases this
      | some a => cases h
    subst this
    exact ⟨_, PH.Le.refl _, none, none, 0, rfl, New.nil M none⟩
  · conv => whnf
    intro g0 hg0
    conv => whnf
    refine app_sl (te := ti31) (f := Wr.cs) (xs := []) (ys := ws) (o := none) (hs.mono (PH.Le.set _ hg0)) Ow.nil Wr.len Wr.one rfl (wr_fitsE 0 ws.length (by omega)) (by simp; omega) fun o A' c' M' hO hK hF => ?_
    conv => whnf
    exact ⟨_, PH.Le.refl _, o, A', c', rfl, hO, (PH.Le.set _ hg0).trans hK.le, fun g e => by
      rcases hF with h1 | ⟨g', h1, h2⟩
      · rw [h1] at e; cases e
      · rw [h1] at e; cases e; exact set_none h2⟩

theorem l4CopyE_ret (A : Option Addr) (c : Nat) (ws : List Hd) (M : PH) (hs : Sl M A 2 Hd.cs ws) (hn : ws.length ≤ 1048576) :
    ACall env 58 [.slice A ws.length c] M fun r M' => ∃ o A' c', r = .slice A' ws.length c' ∧ New M M' o A' c' 2 Hd.cs ws := by
  refine xcall_of_vc Tryz.func58 rfl _ Tryz.ntmps58 _ rfl (fun _ _ => Tryz.call58 _ _) rfl (fun w0 ρ0 => ?_)
  conv => whnf
  intro g0 hg0
  conv => whnf
  refine app_sl (te := ti81) (f := Hd.cs) (xs := []) (ys := ws) (o := none) (hs.mono (PH.Le.set _ hg0)) Ow.nil Hd.len Hd_oneE rfl (hd_fitsE 0 ws.length (by omega)) (by simp; omega) fun o A' c' M' hO hK hF => ?_
  conv => whnf
  exact ⟨_, PH.Le.refl _, o, A', c', rfl, hO, (PH.Le.set _ hg0).trans hK.le, fun g e => by
    rcases hF with h1 | ⟨g', h1, h2⟩
    · rw [h1] at e; cases e
    · rw [h1] at e; cases e; exact set_none h2⟩

theorem copyRequest_ret (q : Rq) (A : Option Addr) (c : Nat) (M : PH) (hs : Sl M A 2 Hd.cs q.hs) (hn : q.hs.length ≤ 1048576) :
    ACall env 40 [rqV q A c] M fun r M' => ∃ o A' c', r = rqV q A' c' ∧ New M M' o A' c' 2 Hd.cs q.hs := by
  refine xcall_of_vc Tryz.func40 rfl _ Tryz.ntmps40 _ rfl (fun _ _ => Tryz.call40 _ _) rfl (fun w0 ρ0 => ?_)
  conv => whnf
  refine ACall.step (cloneHdE_ret A c q.hs M hs hn) fun v M1 hh => ?_
  obtain ⟨o, A1, c1, rfl, N1⟩ := hh
  conv => whnf
  exact ⟨_, PH.Le.refl _, o, A1, c1, rfl, N1⟩
/-- A flight in new memory; its waiters may still grow. -/
structure NewF (M M' : PH) (y : FlA) (o : Option Nat) : Prop where
  ex : ∃ N, M.Le N ∧ Sl N y.hA 2 Hd.cs y.c.get.hs ∧ New N M' o y.wA y.wc 4 Wr.cs y.c.ws
theorem NewF.le {M M' : PH} {y : FlA} {o : Option Nat} (h : NewF M M' y o) : M.Le M' := by obtain ⟨N, l, _, n⟩ := h.ex; exact l.trans n.le
theorem NewF.inn {M M' : PH} {y : FlA} {o : Option Nat} (h : NewF M M' y o) : y.inn M' := by obtain ⟨N, l, s, n⟩ := h.ex; exact ⟨s.mono n.le, n.ow.sl Wr.len⟩
theorem NewF.cap {M M' : PH} {y : FlA} {o : Option Nat} (h : NewF M M' y o) : y.cap := by obtain ⟨N, l, s, n⟩ := h.ex; exact n.ow.le
theorem copyFlight_ret (x : FlA) (M : PH) (hi : x.inn M) (hco : x.c.cost ≤ 1048576) :
    ACall env 21 [x.val] M fun r M' => ∃ y o, r = y.val ∧ y.c = x.c ∧ NewF M M' y o := by
  obtain ⟨_, hn1, hn2⟩ := Fc.hn hco
  refine xcall_of_vc Tryz.func21 rfl _ Tryz.ntmps21 _ rfl (fun _ _ => Tryz.call21 _ _) rfl (fun w0 ρ0 => ?_)
  conv => whnf
  repeat' (first | (refine ⟨⟨[], rfl⟩, _, PH.Le.refl _, PH.Le.refl _, ?_⟩; conv => whnf) | (refine caseB_true ?_; conv => whnf) | (refine caseB_false ?_; conv => whnf) | ((with_reducible refine caseB_dec (fun h => ?_) (fun h => ?_)) <;> conv => whnf) | ((with_reducible refine caseB_ndec (fun h => ?_) (fun h => ?_)) <;> conv => whnf) | ((with_reducible refine caseB_not (fun h => ?_) (fun h => ?_)) <;> conv => whnf) | (refine draw_rule (.light 0 <| .light 1 <| .light 3 <| .light 4 <| .alt 2 false (.light 6 <| .alt 5 false (.alt 7 true (.light 8 <| .alt 9 true (.done) .nil) .nil) .nil) .nil) (by decide +kernel) ?_; conv => whnf) | (with_reducible refine @And.intro (guardVC _ _ _ _ _) _ ?_ ?_) <;> conv => whnf | (refine caseB_intro (fun h => ?_) (fun h => ?_) <;> (try simp only [Bool.not_eq_true', Bool.not_eq_false', decide_eq_true_eq, decide_eq_false_iff_not] at h) <;> conv => whnf))
  refine ACall.step (copyRequest_ret x.c.get x.hA x.hc M hi.h hn1) fun v M1 hh => ?_
  obtain ⟨o1, A1, c1, rfl, N1⟩ := hh
  (first | (refine ⟨⟨[], rfl⟩, _, N1.le, PH.Le.refl _, ?_⟩; conv => whnf) | conv => whnf)
  refine ACall.step (cloneWrE_ret x.wA x.wc x.c.ws M1 (hi.w.mono N1.le) hn2) fun v M2 hh => ?_
  obtain ⟨o2, A2, c2, rfl, N2⟩ := hh
  (first | (refine ⟨⟨[], rfl⟩, _, N2.le, PH.Le.refl _, ?_⟩; conv => whnf) | conv => whnf)
  exact ⟨_, PH.Le.refl _, ⟨x.c, A1, c1, A2, c2⟩, o2, rfl, rfl, M1, N1.le, N1.ow.sl Hd.len, N2⟩
theorem l5Copy_ret (x : FlA) (M : PH) (hi : x.inn M) (hn : x.c.get.hs.length ≤ 1048576) :
    XCall env 42 [.bp 0 6] [flB x] M fun r b M' => (∃ o A' c', r = rqV x.c.get A' c' ∧ New M M' o A' c' 2 Hd.cs x.c.get.hs) ∧ b = [flB x] := by
  refine xcall_of_vc Tryz.func42 rfl _ Tryz.ntmps42 _ rfl (fun _ _ => Tryz.call42 _ _) rfl (fun w0 ρ0 => ?_)
  conv => whnf
  refine ACall.step (l4CopyE_ret x.hA x.hc x.c.get.hs M hi.h hn) fun v M1 hh => ?_
  obtain ⟨o, A1, c1, rfl, N1⟩ := hh
  conv => whnf
  exact ⟨_, PH.Le.refl _, ⟨o, A1, c1, rfl, N1⟩, rfl⟩
theorem l12Copy_ret (x : FlA) (M : PH) (hi : x.inn M) (hco : x.c.cost ≤ 1048576) :
    XCall env 27 [.bp 0 0] [flB x] M fun r b M' => (∃ y o, r = y.val ∧ y.c = x.c ∧ NewF M M' y o) ∧ b = [flB x] := by
  obtain ⟨_, hn1, hn2⟩ := Fc.hn hco
  refine xcall_of_vc Tryz.func27 rfl _ Tryz.ntmps27 _ rfl (fun _ _ => Tryz.call27 _ _) rfl (fun w0 ρ0 => ?_)
  conv => whnf
  refine XCall.lift (l5Copy_ret x M hi hn1) [0] ?_ (by simp) (by simp) (by simp [AV.plain]) ?_
  · simp [ren, AV.plain]
  rintro r b M1 ⟨⟨o, A1, c1, rfl, N1⟩, rfl⟩
  refine ⟨by simp [AV.plain], ?_⟩
  conv => whnf
  intro g2 hg2
  conv => whnf
  refine app_sl (te := ti31) (f := Wr.cs) (xs := []) (ys := x.c.ws) (o := none) ((hi.w.mono N1.le).mono (PH.Le.set _ hg2)) Ow.nil Wr.len Wr.one rfl (wr_fitsE 0 x.c.ws.length (by omega)) (by simp; omega) fun o' A' c' M' hO hK hF => ?_
  conv => whnf
  refine ⟨_, PH.Le.refl _, ⟨⟨x.c, A1, c1, A', c'⟩, o', rfl, rfl, M1, N1.le, N1.ow.sl Hd.len, hO, (PH.Le.set _ hg2).trans hK.le, fun g e => ?_⟩, rfl⟩
  rcases hF with h1 | ⟨g', h1, h2⟩
  · rw [h1] at e; cases e
  · rw [h1] at e; cases e; exact set_none h2
noncomputable def joinC (f : Fc) (w : Wr) (n : Int) : Int := if flFault f ≠ 0 then flFault f else if okR w = false then 3 else if inB n 1 10 = false then 3 else if waitsT f.ws w.a = true then 6 else if n ≤ (f.ws.length : Int) then 7 else 0
def joinF (f : Fc) (w : Wr) : Fc := { f with ws := f.ws ++ [w] }
abbrev frV (k : Int) (y : FlA) : Value := .agg #[I k, I y.c.id, Tx y.c.key, B y.c.back, B y.c.out, I y.c.due, B y.c.doomed, Tx y.c.get.m, Tx y.c.get.h, Tx y.c.get.p, .slice y.hA y.c.get.hs.length y.hc, .slice y.wA y.c.ws.length y.wc]
theorem joinFlight_impl (x : FlA) (w : Wr) (n : Int) (M : PH) (hi : x.inn M) (hcap : x.cap) (hco : x.c.cost ≤ 1000000) :
    ACall env 6 [x.val, w.val, I n] M fun r M' => ∃ y : FlA, r = frV (joinC x.c w n) y ∧ (joinC x.c w n = 0 → y.c = joinF x.c w ∧ y.inn M' ∧ y.cap) ∧ M.Le M' := by
  obtain ⟨_, hn1, hn2⟩ := Fc.hn (f := x.c) (by omega)
  have ex : ∀ k : Int, joinC x.c w n = k → k ≠ 0 → ∃ y : FlA, frV k fl0 = frV (joinC x.c w n) y ∧ (joinC x.c w n = 0 → y.c = joinF x.c w ∧ y.inn M ∧ y.cap) ∧ M.Le M := fun k h1 h2 => ⟨fl0, by rw [h1], fun h => absurd (h1.symm.trans h) h2, PH.Le.refl _⟩
  refine xcall_of_vc Tryz.func6 rfl _ Tryz.ntmps6 _ rfl (fun _ _ => Tryz.call6 _ _) rfl (fun w0 ρ0 => ?_)
  conv => whnf
  repeat' (first | (refine ⟨⟨[], rfl⟩, _, PH.Le.refl _, PH.Le.refl _, ?_⟩; conv => whnf) | (refine caseB_true ?_; conv => whnf) | (refine caseB_false ?_; conv => whnf) | ((with_reducible refine caseB_dec (fun h => ?_) (fun h => ?_)) <;> conv => whnf) | ((with_reducible refine caseB_ndec (fun h => ?_) (fun h => ?_)) <;> conv => whnf) | ((with_reducible refine caseB_not (fun h => ?_) (fun h => ?_)) <;> conv => whnf) | (refine Ret.go (flightFault_impl x M hi (by omega) hcap) ?_; conv => whnf) | (refine Ret.go (isReq_ret _ _) ?_; conv => whnf) | (refine Ret.go (within_ret _ _ _ _) ?_; conv => whnf) | (refine Ret.go (waitsF_ret x w.a _ hi.w hn2) ?_; conv => whnf) | (with_reducible refine @And.intro (guardVC _ _ _ _ _) _ ?_ ?_) <;> conv => whnf | (refine caseB_intro (fun h => ?_) (fun h => ?_) <;> (try simp only [Bool.not_eq_true', Bool.not_eq_false', decide_eq_true_eq, decide_eq_false_iff_not] at h) <;> conv => whnf))
  all_goals try exact ⟨_, PH.Le.refl _, ex _ (by simp [joinC, *]; done) (by first | decide | assumption)⟩
  refine ACall.step (copyFlight_ret x M hi (by omega)) fun r M1 hh => ?_; obtain ⟨y, o, rfl, ey, hF⟩ := hh
  have ej : joinC x.c w n = 0 := by simp [joinC, *]; done
  conv => whnf
  intro g2 hg2
  conv => whnf
  obtain ⟨N, lN, sN, nN⟩ := hF.ex
  have hys : y.c.ws.length ≤ 1048576 := by rw [ey]; exact hn2
  refine app_sl (te := ti31) (f := Wr.cs) (xs := y.c.ws) (ys := [w]) (o := o) (sl_full Wr.len M1 g2 [w] _ _) (nN.ow.mono (PH.Le.set _ hg2)) Wr.len Wr.one rfl (wr_fitsE _ _ (by show _ + 1 ≤ _; omega)) (by show _ + 1 ≤ _; omega) fun o' A' c' M' hO hK hF' => ?_
  conv => whnf
  have nN' := nN.more (PH.Le.set _ hg2) hK hO hF'
  exact ⟨_, PH.Le.refl _, ⟨{ y.c with ws := y.c.ws ++ [w] }, y.hA, y.hc, A', c'⟩, by rw [ej]; rfl, fun _ => ⟨by rw [ey]; rfl, ⟨sN.mono nN'.le, nN'.ow.sl Wr.len⟩, nN'.ow.le⟩, lN.trans nN'.le⟩

theorem joinFlight_spec (x : FlA) (w : Wr) (n : Int) (M : PH) (hi : x.inn M) (hcap : x.cap) (hco : x.c.cost ≤ 1000000) :
    ACall env 9 [x.val, w.val, I n] M fun r M' => ∃ y : FlA, r = frV (joinC x.c w n) y ∧ (joinC x.c w n = 0 → y.c = joinF x.c w ∧ y.inn M' ∧ y.cap) ∧ M.Le M' := by
  obtain ⟨_, hn1, hn2⟩ := Fc.hn (f := x.c) (by omega)
  have ex : ∀ k : Int, joinC x.c w n = k → k ≠ 0 → ∃ y : FlA, frV k fl0 = frV (joinC x.c w n) y ∧ (joinC x.c w n = 0 → y.c = joinF x.c w ∧ y.inn M ∧ y.cap) ∧ M.Le M := fun k h1 h2 => ⟨fl0, by rw [h1], fun h => absurd (h1.symm.trans h) h2, PH.Le.refl _⟩
  refine xcall_of_vc Tryz.func9 rfl _ Tryz.ntmps9 _ rfl (fun _ _ => Tryz.call9 _ _) rfl (fun w0 ρ0 => ?_)
  conv => whnf
  repeat' (first | (refine ⟨⟨[], rfl⟩, _, PH.Le.refl _, PH.Le.refl _, ?_⟩; conv => whnf) | (refine caseB_true ?_; conv => whnf) | (refine caseB_false ?_; conv => whnf) | ((with_reducible refine caseB_dec (fun h => ?_) (fun h => ?_)) <;> conv => whnf) | ((with_reducible refine caseB_ndec (fun h => ?_) (fun h => ?_)) <;> conv => whnf) | ((with_reducible refine caseB_not (fun h => ?_) (fun h => ?_)) <;> conv => whnf) | (refine Ret.go (flightFault_spec x M hi (by omega)) ?_; conv => whnf) | (refine Ret.go (l1Time_ret _ _) ?_; conv => whnf) | (refine Ret.go (l1In_ret _ _ _ _) ?_; conv => whnf) | (refine Ret.go (l12Waits_ret _ _ _ w.a _ hi.w hn2) ?_; conv => whnf) | (with_reducible refine @And.intro (guardVC _ _ _ _ _) _ ?_ ?_) <;> conv => whnf | (refine caseB_intro (fun h => ?_) (fun h => ?_) <;> (try simp only [Bool.not_eq_true', Bool.not_eq_false', decide_eq_true_eq, decide_eq_false_iff_not] at h) <;> conv => whnf))
  all_goals try exact ⟨_, PH.Le.refl _, ex _ (by simp [joinC, *, okR]; done) (by first | decide | assumption)⟩
  refine XCall.lift (l12Copy_ret x M hi (by omega)) [0] (by simp [ren, AV.plain]) (by simp) (by simp) (by simp [AV.plain]) ?_ ; rintro r b M1 ⟨⟨y, o, rfl, ey, hF⟩, rfl⟩ ; refine ⟨by simp [AV.plain], ?_⟩
  have ej : joinC x.c w n = 0 := by simp [joinC, *, okR]; done
  conv => whnf
  intro g2 hg2
  conv => whnf
  obtain ⟨N, lN, sN, nN⟩ := hF.ex
  have hys : y.c.ws.length ≤ 1048576 := by rw [ey]; exact hn2
  refine app_sl (te := ti31) (f := Wr.cs) (xs := y.c.ws) (ys := [w]) (o := o) (sl_full Wr.len M1 g2 [w] _ _) (nN.ow.mono (PH.Le.set _ hg2)) Wr.len Wr.one rfl (wr_fitsE _ _ (by show _ + 1 ≤ _; omega)) (by show _ + 1 ≤ _; omega) fun o' A' c' M' hO hK hF' => ?_
  conv => whnf
  have nN' := nN.more (PH.Le.set _ hg2) hK hO hF'
  exact ⟨_, PH.Le.refl _, ⟨{ y.c with ws := y.c.ws ++ [w] }, y.hA, y.hc, A', c'⟩, by rw [ej]; rfl, fun _ => ⟨by rw [ey]; rfl, ⟨sN.mono nN'.le, nN'.ow.sl Wr.len⟩, nN'.ow.le⟩, lN.trans nN'.le⟩

def goneL (ws : List Wr) (n : Int) : List Wr := ws.filter fun w => decide (w.d ≤ n)
def leftL (ws : List Wr) (n : Int) : List Wr := ws.filter fun w => !decide (w.d ≤ n)
abbrev E8 := Nat × (Option Nat × Option Addr × Nat) × (Option Nat × Option Addr × Nat)
theorem app2 {M M1 M2 M3 : PH} {o1 o2 o' : Option Nat} {A1 A2 A' : Option Addr} {c1 c2 c' : Nat} {us us' vs : List Wr} (n1 : New M M1 o1 A1 c1 4 Wr.cs us) (n2 : New M M1 o2 A2 c2 4 Wr.cs vs) (hne : ∀ g, o1 = some g → o2 ≠ some g) (l : M1.Le M2) (hK : Keeps o1 M2 M3) (hO : Ow M3 o' A' c' 4 Wr.cs us') (hF : o' = o1 ∨ ∃ g, o' = some g ∧ M2 g = none) :
    New M M3 o' A' c' 4 Wr.cs us' ∧ New M M3 o2 A2 c2 4 Wr.cs vs ∧ ∀ g, o' = some g → o2 ≠ some g := by
  have N := n1.more l hK hO hF
  refine ⟨N, ⟨(n2.ow.mono l).keeps hK (fun g e e2 => hne g e2 e), N.le, n2.fr⟩, fun g e e2 => ?_⟩
  rcases hF with h | ⟨g', h, hg⟩
  · exact hne g (h ▸ e) e2
  · obtain ⟨ob, hob⟩ := n2.ow.known g e2
    have := l g ob hob
    rw [h] at e
    cases e
    rw [hg] at this
    cases this
set_option maxHeartbeats 4000000 in
theorem expire_impl (y : FlA) (n : Int) (M : PH) (hs : Sl M y.wA 4 Wr.cs y.c.ws) (hn : y.c.ws.length ≤ 1048576) :
    XCall env 23 [.bp 0 0, .v (I n)] [flB y] M fun r b M' => ∃ o1 A1 c1 o2 A2 c2, r = .slice A1 (goneL y.c.ws n).length c1 ∧ b = [flB ⟨{ y.c with ws := leftL y.c.ws n }, y.hA, y.hc, A2, c2⟩] ∧ New M M' o1 A1 c1 4 Wr.cs (goneL y.c.ws n) ∧ New M M' o2 A2 c2 4 Wr.cs (leftL y.c.ws n) := by
  refine xcall_of_vc Tryz.func23 rfl _ Tryz.ntmps23 _ rfl (fun _ _ => Tryz.call23 _ _) rfl (fun w0 ρ0 => ?_)
  conv => whnf
  intro g1 hg1
  conv => whnf
  intro g2 hg2
  conv => whnf
  refine loop_rule (fun z : E8 => ⟨slots 38 [(0, .bp 0 0), (1, .v (I n)), (4, .v (.slice none 0 0)), (5, .v (.slice z.2.1.2.1 (goneL (y.c.ws.take z.1) n).length z.2.1.2.2)), (6, .v (.slice z.2.2.2.1 (leftL (y.c.ws.take z.1) n).length z.2.2.2.2)), (14, .v (.slice y.wA y.c.ws.length y.wc)), (15, .v (I y.c.ws.length)),(16, .v (I z.1))], [flB y]⟩)
    (fun z M' => z.1 ≤ y.c.ws.length ∧ New M M' z.2.1.1 z.2.1.2.1 z.2.1.2.2 4 Wr.cs (goneL (y.c.ws.take z.1) n) ∧ New M M' z.2.2.1 z.2.2.2.1 z.2.2.2.2 4 Wr.cs (leftL (y.c.ws.take z.1) n) ∧ ∀ g, z.2.1.1 = some g → z.2.2.1 ≠ some g) (fun z => y.c.ws.length - z.1) (0, (none, some ⟨g1, 0, none⟩, 0), (none, some ⟨g2, 0, none⟩, 0)) ?_ ?_ ?_
  · exact ⟨by simp [slots, leT, goneL, leftL], ⟨[], rfl⟩, by simp, rfl, rfl⟩
  · exact ⟨Nat.zero_le _, (New.nil M _).to ((PH.Le.set _ hg1).trans (PH.Le.set _ hg2)), (New.nil M _).to ((PH.Le.set _ hg1).trans (PH.Le.set _ hg2)), fun g e => nomatch e⟩
  rintro ⟨i, ⟨o1, A1, c1⟩, ⟨o2, A2, c2⟩⟩ M1 ⟨hi, n1, n2, hne⟩
  have hi : i ≤ y.c.ws.length := hi
  have n1 : New M M1 o1 A1 c1 4 Wr.cs (goneL (y.c.ws.take i) n) := n1
  have n2 : New M M1 o2 A2 c2 4 Wr.cs (leftL (y.c.ws.take i) n) := n2
  have hne : ∀ g, o1 = some g → o2 ≠ some g := hne
  have hne' : ∀ g, o2 = some g → o1 ≠ some g := fun g e e2 => hne g e2 e
  have hl1 : (goneL (y.c.ws.take i) n).length ≤ 1048576 := Nat.le_trans (List.length_filter_le _ _) (by rw [List.length_take]; omega)
  have hl2 : (leftL (y.c.ws.take i) n).length ≤ 1048576 := Nat.le_trans (List.length_filter_le _ _) (by rw [List.length_take]; omega)
  conv => whnf
  refine caseB_dec (fun h0 => ?_) (fun h0 => ?_)
  · have h0 : (i : Int) < y.c.ws.length := h0
    have hi' : i < y.c.ws.length := by omega
    have hw : IntKind.i64.wrap ((i : Int) + 1) = (i : Int) + 1 := wr_id (by omega) (by omega)
    obtain ⟨hA, _, hc⟩ := (hs.mono n1.le).get hi'
    have ht : y.c.ws.take (i + 1) = y.c.ws.take i ++ [y.c.ws[i]] := List.take_succ_eq_append_getElem hi'
    generalize y.c.ws[i] = w at *
    conv => whnf
    refine ⟨by omega, h0, hA, ?_⟩
    conv => whnf
    refine ⟨_, hc, rfl, ?_⟩; (conv => whnf)
    refine caseB_dec (fun h1 => ?_) (fun h1 => ?_)
    · have h1 : w.d ≤ n := h1
      have e1 : goneL (y.c.ws.take (i + 1)) n = goneL (y.c.ws.take i) n ++ [w] := by rw [ht]; simp [goneL, h1]
      have e2 : leftL (y.c.ws.take (i + 1)) n = leftL (y.c.ws.take i) n := by rw [ht]; simp [leftL, h1]
      conv => whnf
      skip
      intro g3 hg3
      conv => whnf
      refine app_sl (te := ti31) (f := Wr.cs) (xs := goneL (y.c.ws.take i) n) (ys := [w]) (o := o1) (sl_full Wr.len M1 g3 [w] _ _) (n1.ow.mono (PH.Le.set _ hg3)) Wr.len Wr.one rfl (wr_fitsE _ _ (by show _ + 1 ≤ _; omega)) (by show _ + 1 ≤ _; omega) fun o' A' c' M' hO hK hF' => ?_
      conv => whnf
      obtain ⟨n1', n2', hne2⟩ := app2 n1 n2 hne (PH.Le.set _ hg3) hK hO hF'
      rw [← e1] at n1' ⊢
      exact ⟨(i + 1, (o', A', c'), (o2, A2, c2)), ⟨by simp [slots, leT, hw, e2], ⟨_, rfl⟩, by simp, rfl, rfl⟩, ⟨hi', n1', by rw [show leftL (y.c.ws.take (i + 1, (o', A', c'), (o2, A2, c2)).1) n = leftL (y.c.ws.take i) n from e2]; exact n2', hne2⟩, by show _ - (i + 1) < _ - i; omega⟩
    · have h1 : ¬ w.d ≤ n := h1
      have e1 : goneL (y.c.ws.take (i + 1)) n = goneL (y.c.ws.take i) n := by rw [ht]; simp [goneL, h1]
      have e2 : leftL (y.c.ws.take (i + 1)) n = leftL (y.c.ws.take i) n ++ [w] := by rw [ht]; simp [leftL, h1]
      conv => whnf
      skip
      intro g3 hg3
      conv => whnf
      refine app_sl (te := ti31) (f := Wr.cs) (xs := leftL (y.c.ws.take i) n) (ys := [w]) (o := o2) (sl_full Wr.len M1 g3 [w] _ _) (n2.ow.mono (PH.Le.set _ hg3)) Wr.len Wr.one rfl (wr_fitsE _ _ (by show _ + 1 ≤ _; omega)) (by show _ + 1 ≤ _; omega) fun o' A' c' M' hO hK hF' => ?_
      conv => whnf
      obtain ⟨n2', n1', hne2⟩ := app2 n2 n1 hne' (PH.Le.set _ hg3) hK hO hF'
      rw [← e2] at n2' ⊢
      exact ⟨(i + 1, (o1, A1, c1), (o', A', c')), ⟨by simp [slots, leT, hw, e1], ⟨_, rfl⟩, by simp, rfl, rfl⟩, ⟨hi', by rw [show goneL (y.c.ws.take (i + 1, (o1, A1, c1), (o', A', c')).1) n = goneL (y.c.ws.take i) n from e1]; exact n1', n2', fun g e e2 => hne2 g e2 e⟩, by show _ - (i + 1) < _ - i; omega⟩
  · have hiK : i = y.c.ws.length := by have h0 : ¬ (i : Int) < y.c.ws.length := h0; omega
    subst hiK
    rw [List.take_length] at n1 n2
    conv => whnf
    refine ⟨_, PH.Le.refl _, o1, A1, c1, o2, A2, c2, ?_, ?_, n1, n2⟩
    · simp [resV]
    · simp

set_option maxHeartbeats 4000000 in
theorem expire_spec (y : FlA) (n : Int) (M : PH) (hs : Sl M y.wA 4 Wr.cs y.c.ws) (hn : y.c.ws.length ≤ 1048576) :
    XCall env 28 [.bp 0 0, .v (I n)] [flB y] M fun r b M' => ∃ o1 A1 c1 o2 A2 c2, r = .slice A1 (goneL y.c.ws n).length c1 ∧ b = [flB ⟨{ y.c with ws := leftL y.c.ws n }, y.hA, y.hc, A2, c2⟩] ∧ New M M' o1 A1 c1 4 Wr.cs (goneL y.c.ws n) ∧ New M M' o2 A2 c2 4 Wr.cs (leftL y.c.ws n) := by
  refine xcall_of_vc Tryz.func28 rfl _ Tryz.ntmps28 _ rfl (fun _ _ => Tryz.call28 _ _) rfl (fun w0 ρ0 => ?_)
  conv => whnf
  intro g1 hg1
  conv => whnf
  intro g2 hg2
  conv => whnf
  refine loop_rule (fun z : E8 => ⟨slots 54 [(0, .bp 0 0), (1, .v (I n)), (4, .v (.slice none 0 0)), (6, .v (.slice z.2.1.2.1 (goneL (y.c.ws.take z.1) n).length z.2.1.2.2)), (5, .v (.slice z.2.2.2.1 (leftL (y.c.ws.take z.1) n).length z.2.2.2.2)), (7, .v (I z.1))], [flB y]⟩)
    (fun z M' => z.1 ≤ y.c.ws.length ∧ New M M' z.2.1.1 z.2.1.2.1 z.2.1.2.2 4 Wr.cs (goneL (y.c.ws.take z.1) n) ∧ New M M' z.2.2.1 z.2.2.2.1 z.2.2.2.2 4 Wr.cs (leftL (y.c.ws.take z.1) n) ∧ ∀ g, z.2.1.1 = some g → z.2.2.1 ≠ some g) (fun z => y.c.ws.length - z.1) (0, (none, some ⟨g2, 0, none⟩, 0), (none, some ⟨g1, 0, none⟩, 0)) ?_ ?_ ?_
  · exact ⟨by simp [slots, leT, goneL, leftL], ⟨[], rfl⟩, by simp, rfl, rfl⟩
  · exact ⟨Nat.zero_le _, (New.nil M _).to ((PH.Le.set _ hg1).trans (PH.Le.set _ hg2)), (New.nil M _).to ((PH.Le.set _ hg1).trans (PH.Le.set _ hg2)), fun g e => nomatch e⟩
  rintro ⟨i, ⟨o1, A1, c1⟩, ⟨o2, A2, c2⟩⟩ M1 ⟨hi, n1, n2, hne⟩
  have hi : i ≤ y.c.ws.length := hi
  have n1 : New M M1 o1 A1 c1 4 Wr.cs (goneL (y.c.ws.take i) n) := n1
  have n2 : New M M1 o2 A2 c2 4 Wr.cs (leftL (y.c.ws.take i) n) := n2
  have hne : ∀ g, o1 = some g → o2 ≠ some g := hne
  have hne' : ∀ g, o2 = some g → o1 ≠ some g := fun g e e2 => hne g e2 e
  have hl1 : (goneL (y.c.ws.take i) n).length ≤ 1048576 := Nat.le_trans (List.length_filter_le _ _) (by rw [List.length_take]; omega)
  have hl2 : (leftL (y.c.ws.take i) n).length ≤ 1048576 := Nat.le_trans (List.length_filter_le _ _) (by rw [List.length_take]; omega)
  conv => whnf
  refine caseB_dec (fun h0 => ?_) (fun h0 => ?_)
  · have h0 : (i : Int) < y.c.ws.length := h0
    have hi' : i < y.c.ws.length := by omega
    have hw : IntKind.i64.wrap ((i : Int) + 1) = (i : Int) + 1 := wr_id (by omega) (by omega)
    obtain ⟨hA, _, hc⟩ := (hs.mono n1.le).get hi'
    have ht : y.c.ws.take (i + 1) = y.c.ws.take i ++ [y.c.ws[i]] := List.take_succ_eq_append_getElem hi'
    generalize y.c.ws[i] = w at *
    conv => whnf
    refine ⟨by omega, h0, hA, ?_⟩
    conv => whnf
    refine ⟨_, cells_cut hc 2 rfl, ?_⟩; (conv => whnf)
    refine caseB_dec (fun h1 => ?_) (fun h1 => ?_)
    · have h1 : w.d ≤ n := h1
      have e1 : goneL (y.c.ws.take (i + 1)) n = goneL (y.c.ws.take i) n ++ [w] := by rw [ht]; simp [goneL, h1]
      have e2 : leftL (y.c.ws.take (i + 1)) n = leftL (y.c.ws.take i) n := by rw [ht]; simp [leftL, h1]
      conv => whnf
      refine ⟨by omega, h0, hA, ?_⟩; (conv => whnf); refine ⟨_, hc, rfl, ?_⟩; (conv => whnf)
      intro g3 hg3
      conv => whnf
      refine app_sl (te := ti31) (f := Wr.cs) (xs := goneL (y.c.ws.take i) n) (ys := [w]) (o := o1) (sl_full Wr.len M1 g3 [w] _ _) (n1.ow.mono (PH.Le.set _ hg3)) Wr.len Wr.one rfl (wr_fitsE _ _ (by show _ + 1 ≤ _; omega)) (by show _ + 1 ≤ _; omega) fun o' A' c' M' hO hK hF' => ?_
      conv => whnf
      obtain ⟨n1', n2', hne2⟩ := app2 n1 n2 hne (PH.Le.set _ hg3) hK hO hF'
      rw [← e1] at n1' ⊢
      exact ⟨(i + 1, (o', A', c'), (o2, A2, c2)), ⟨by simp [slots, leT, hw, e2], ⟨_, rfl⟩, by simp, rfl, rfl⟩, ⟨hi', n1', by rw [show leftL (y.c.ws.take (i + 1, (o', A', c'), (o2, A2, c2)).1) n = leftL (y.c.ws.take i) n from e2]; exact n2', hne2⟩, by show _ - (i + 1) < _ - i; omega⟩
    · have h1 : ¬ w.d ≤ n := h1
      have e1 : goneL (y.c.ws.take (i + 1)) n = goneL (y.c.ws.take i) n := by rw [ht]; simp [goneL, h1]
      have e2 : leftL (y.c.ws.take (i + 1)) n = leftL (y.c.ws.take i) n ++ [w] := by rw [ht]; simp [leftL, h1]
      conv => whnf
      refine ⟨by omega, h0, hA, ?_⟩; (conv => whnf); refine ⟨_, hc, rfl, ?_⟩; (conv => whnf)
      intro g3 hg3
      conv => whnf
      refine app_sl (te := ti31) (f := Wr.cs) (xs := leftL (y.c.ws.take i) n) (ys := [w]) (o := o2) (sl_full Wr.len M1 g3 [w] _ _) (n2.ow.mono (PH.Le.set _ hg3)) Wr.len Wr.one rfl (wr_fitsE _ _ (by show _ + 1 ≤ _; omega)) (by show _ + 1 ≤ _; omega) fun o' A' c' M' hO hK hF' => ?_
      conv => whnf
      obtain ⟨n2', n1', hne2⟩ := app2 n2 n1 hne' (PH.Le.set _ hg3) hK hO hF'
      rw [← e2] at n2' ⊢
      exact ⟨(i + 1, (o1, A1, c1), (o', A', c')), ⟨by simp [slots, leT, hw, e1], ⟨_, rfl⟩, by simp, rfl, rfl⟩, ⟨hi', by rw [show goneL (y.c.ws.take (i + 1, (o1, A1, c1), (o', A', c')).1) n = goneL (y.c.ws.take i) n from e1]; exact n1', n2', fun g e e2 => hne2 g e2 e⟩, by show _ - (i + 1) < _ - i; omega⟩
  · have hiK : i = y.c.ws.length := by have h0 : ¬ (i : Int) < y.c.ws.length := h0; omega
    subst hiK
    rw [List.take_length] at n1 n2
    conv => whnf
    refine ⟨_, PH.Le.refl _, o1, A1, c1, o2, A2, c2, ?_, ?_, n1, n2⟩
    · simp [resV]
    · simp

noncomputable def expC (f : Fc) (n : Int) : Int := if flFault f ≠ 0 then flFault f else if isT n = false then 3 else 0
def leftF (f : Fc) (n : Int) : Fc := { f with ws := leftL f.ws n }
abbrev wrV (k : Int) (y : FlA) (A : Option Addr) (m c : Nat) : Value := .agg #[I k, I y.c.id, Tx y.c.key, B y.c.back, B y.c.out, I y.c.due, B y.c.doomed, Tx y.c.get.m, Tx y.c.get.h, Tx y.c.get.p, .slice y.hA y.c.get.hs.length y.hc, .slice y.wA y.c.ws.length y.wc, .slice A m c]
theorem expireWaiters_impl (x : FlA) (n : Int) (M : PH) (hi : x.inn M) (hcap : x.cap) (hco : x.c.cost ≤ 1000000) :
    ACall env 8 [x.val, I n] M fun r M' => ∃ (y : FlA) (A : Option Addr) (m c : Nat), r = wrV (expC x.c n) y A m c ∧ (expC x.c n = 0 → m = (goneL x.c.ws n).length ∧ y.c = leftF x.c n ∧ y.inn M' ∧ y.cap ∧ Sl M' A 4 Wr.cs (goneL x.c.ws n)) ∧ M.Le M' := by
  obtain ⟨_, hn1, hn2⟩ := Fc.hn (f := x.c) (by omega)
  have ex : ∀ k : Int, expC x.c n = k → k ≠ 0 → ∃ (y : FlA) (A : Option Addr) (m c : Nat), wrV k fl0 none 0 0 = wrV (expC x.c n) y A m c ∧ (expC x.c n = 0 → m = (goneL x.c.ws n).length ∧ y.c = leftF x.c n ∧ y.inn M ∧ y.cap ∧ Sl M A 4 Wr.cs (goneL x.c.ws n)) ∧ M.Le M := fun k h1 h2 => ⟨fl0, none, 0, 0, by rw [h1], fun h => absurd (h1.symm.trans h) h2, PH.Le.refl _⟩
  refine xcall_of_vc Tryz.func8 rfl _ Tryz.ntmps8 _ rfl (fun _ _ => Tryz.call8 _ _) rfl (fun w0 ρ0 => ?_)
  conv => whnf
  repeat' (first | (refine ⟨⟨[], rfl⟩, _, PH.Le.refl _, PH.Le.refl _, ?_⟩; conv => whnf) | (refine caseB_true ?_; conv => whnf) | (refine caseB_false ?_; conv => whnf) | ((with_reducible refine caseB_dec (fun h => ?_) (fun h => ?_)) <;> conv => whnf) | ((with_reducible refine caseB_ndec (fun h => ?_) (fun h => ?_)) <;> conv => whnf) | ((with_reducible refine caseB_not (fun h => ?_) (fun h => ?_)) <;> conv => whnf) | (refine Ret.go (flightFault_impl x M hi (by omega) hcap) ?_; conv => whnf) | (refine Ret.go (isTime_ret _ _) ?_; conv => whnf) | (with_reducible refine @And.intro (guardVC _ _ _ _ _) _ ?_ ?_) <;> conv => whnf | (refine caseB_intro (fun h => ?_) (fun h => ?_) <;> (try simp only [Bool.not_eq_true', Bool.not_eq_false', decide_eq_true_eq, decide_eq_false_iff_not] at h) <;> conv => whnf))
  all_goals try exact ⟨_, PH.Le.refl _, ex _ (by simp [expC, *]; done) (by first | decide | assumption)⟩
  refine ACall.step (copyFlight_ret x M hi (by omega)) fun r M1 hh => ?_; obtain ⟨y, o, rfl, ey, hF⟩ := hh
  have ej : expC x.c n = 0 := by simp [expC, *]; done
  conv => whnf
  have hys : y.c.ws.length ≤ 1048576 := by rw [ey]; exact hn2
  refine XCall.lift (expire_impl y n M1 hF.inn.w hys) [2] (by simp [ren, AV.plain]) (by simp) (by simp) (by simp [AV.plain]) ?_
  rintro r b M2 ⟨o1, A1, c1, o2, A2, c2, rfl, rfl, n1, n2⟩
  refine ⟨by simp [AV.plain], ?_⟩
  conv => whnf
  rw [ej]
  refine ⟨_, PH.Le.refl _, ⟨{ y.c with ws := leftL y.c.ws n }, y.hA, y.hc, A2, c2⟩, A1, _, c1, rfl, fun _ => ⟨by rw [ey], by rw [ey]; rfl, ⟨hF.inn.h.mono n1.le, n2.ow.sl Wr.len⟩, n2.ow.le, by rw [← ey]; exact n1.ow.sl Wr.len⟩, hF.le.trans n1.le⟩

theorem expireWaiters_spec (x : FlA) (n : Int) (M : PH) (hi : x.inn M) (hcap : x.cap) (hco : x.c.cost ≤ 1000000) :
    ACall env 10 [x.val, I n] M fun r M' => ∃ (y : FlA) (A : Option Addr) (m c : Nat), r = wrV (expC x.c n) y A m c ∧ (expC x.c n = 0 → m = (goneL x.c.ws n).length ∧ y.c = leftF x.c n ∧ y.inn M' ∧ y.cap ∧ Sl M' A 4 Wr.cs (goneL x.c.ws n)) ∧ M.Le M' := by
  obtain ⟨_, hn1, hn2⟩ := Fc.hn (f := x.c) (by omega)
  have ex : ∀ k : Int, expC x.c n = k → k ≠ 0 → ∃ (y : FlA) (A : Option Addr) (m c : Nat), wrV k fl0 none 0 0 = wrV (expC x.c n) y A m c ∧ (expC x.c n = 0 → m = (goneL x.c.ws n).length ∧ y.c = leftF x.c n ∧ y.inn M ∧ y.cap ∧ Sl M A 4 Wr.cs (goneL x.c.ws n)) ∧ M.Le M := fun k h1 h2 => ⟨fl0, none, 0, 0, by rw [h1], fun h => absurd (h1.symm.trans h) h2, PH.Le.refl _⟩
  refine xcall_of_vc Tryz.func10 rfl _ Tryz.ntmps10 _ rfl (fun _ _ => Tryz.call10 _ _) rfl (fun w0 ρ0 => ?_)
  conv => whnf
  repeat' (first | (refine ⟨⟨[], rfl⟩, _, PH.Le.refl _, PH.Le.refl _, ?_⟩; conv => whnf) | (refine caseB_true ?_; conv => whnf) | (refine caseB_false ?_; conv => whnf) | ((with_reducible refine caseB_dec (fun h => ?_) (fun h => ?_)) <;> conv => whnf) | ((with_reducible refine caseB_ndec (fun h => ?_) (fun h => ?_)) <;> conv => whnf) | ((with_reducible refine caseB_not (fun h => ?_) (fun h => ?_)) <;> conv => whnf) | (refine Ret.go (flightFault_spec x M hi (by omega)) ?_; conv => whnf) | (refine Ret.go (l1Time_ret _ _) ?_; conv => whnf) | (with_reducible refine @And.intro (guardVC _ _ _ _ _) _ ?_ ?_) <;> conv => whnf | (refine caseB_intro (fun h => ?_) (fun h => ?_) <;> (try simp only [Bool.not_eq_true', Bool.not_eq_false', decide_eq_true_eq, decide_eq_false_iff_not] at h) <;> conv => whnf))
  all_goals try exact ⟨_, PH.Le.refl _, ex _ (by simp [expC, *]; done) (by first | decide | assumption)⟩
  refine XCall.lift (l12Copy_ret x M hi (by omega)) [0] (by simp [ren, AV.plain]) (by simp) (by simp) (by simp [AV.plain]) ?_ ; rintro r b M1 ⟨⟨y, o, rfl, ey, hF⟩, rfl⟩ ; refine ⟨by simp [AV.plain], ?_⟩
  have ej : expC x.c n = 0 := by simp [expC, *]; done
  conv => whnf
  have hys : y.c.ws.length ≤ 1048576 := by rw [ey]; exact hn2
  refine XCall.lift (expire_spec y n M1 hF.inn.w hys) [2] (by simp [ren, AV.plain]) (by simp) (by simp) (by simp [AV.plain]) ?_
  rintro r b M2 ⟨o1, A1, c1, o2, A2, c2, rfl, rfl, n1, n2⟩
  refine ⟨by simp [AV.plain], ?_⟩
  conv => whnf
  rw [ej]
  refine ⟨_, PH.Le.refl _, ⟨{ y.c with ws := leftL y.c.ws n }, y.hA, y.hc, A2, c2⟩, A1, _, c1, rfl, fun _ => ⟨by rw [ey], by rw [ey]; rfl, ⟨hF.inn.h.mono n1.le, n2.ow.sl Wr.len⟩, n2.ow.le, by rw [← ey]; exact n1.ow.sl Wr.len⟩, hF.le.trans n1.le⟩

end Go.Proofs.YteokagamfdcjgaaGreatDoor
