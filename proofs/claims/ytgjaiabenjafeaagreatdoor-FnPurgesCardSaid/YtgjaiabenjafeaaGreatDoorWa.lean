/-
  CONTRACTS: entries copied; found.
-/
import Derived.Test.YtgjaiabenjafeaaGreatDoorVi
namespace Go.Proofs.YtgjaiabenjafeaaGreatDoor
set_option maxRecDepth 100000
set_option linter.unusedSimpArgs false
set_option linter.unusedVariables false
open Go.Xe
theorem hd_fits (n m : Nat) (h : n + m ≤ 4194304) : (n + m) * ti148.bytes ≤ 140737488355328 := by
  unfold ti148
  show (n + m) * 32 ≤ _
  omega
theorem by_fits (n m : Nat) (h : n + m ≤ 4194304) : (n + m) * ti5.bytes ≤ 140737488355328 := by
  unfold ti5
  show (n + m) * 1 ≤ _
  omega
theorem cloneHd_ret (A : Option Addr) (c : Nat) (ws : List Hd) (M : PH) (hs : Sl M A 2 Hd.cs ws) (hn : ws.length ≤ 1048576) :
    ACall env 138 [.slice A ws.length c] M fun r M' => ∃ o A' c', r = .slice A' ws.length c' ∧ New M M' o A' c' 2 Hd.cs ws := by
  refine xcall_of_vc Tryz.func138 rfl _ Tryz.ntmps138 _ rfl (fun _ _ => Tryz.call138 _ _) rfl (fun w0 ρ0 => ?_)
  conv => whnf
  refine caseB_intro (fun h => ?_) (fun h => ?_)
  · conv => whnf
    have : ws = [] := by
      apply Classical.byContradiction
      intro hne
      have := hs.ne hne
      cases A with
      | none => cases this
      | some a => cases h
    subst this
    exact ⟨_, PH.Le.refl _, none, none, 0, rfl, New.nil M none⟩
  · conv => whnf
    intro g0 hg0
    conv => whnf
    refine app_sl (te := ti148) (f := Hd.cs) (xs := []) (ys := ws) (o := none) (hs.mono (PH.Le.set _ hg0)) Ow.nil Hd.len Hd_one rfl (hd_fits 0 ws.length (by omega)) (by simp; omega) fun o A' c' M' hO hK hF => ?_
    conv => whnf
    exact ⟨_, PH.Le.refl _, o, A', c', rfl, hO, (PH.Le.set _ hg0).trans hK.le, fun g e => by
      rcases hF with h1 | ⟨g', h1, h2⟩
      · rw [h1] at e; cases e
      · rw [h1] at e; cases e; exact set_none h2⟩

theorem cloneBy_ret (A : Option Addr) (c : Nat) (ws : List Int) (M : PH) (hs : Sl M A 1 byC ws) (hn : ws.length ≤ 1048576) :
    ACall env 139 [.slice A ws.length c] M fun r M' => ∃ o A' c', r = .slice A' ws.length c' ∧ New M M' o A' c' 1 byC ws := by
  refine xcall_of_vc Tryz.func139 rfl _ Tryz.ntmps139 _ rfl (fun _ _ => Tryz.call139 _ _) rfl (fun w0 ρ0 => ?_)
  conv => whnf
  refine caseB_intro (fun h => ?_) (fun h => ?_)
  · conv => whnf
    have : ws = [] := by
      apply Classical.byContradiction
      intro hne
      have := hs.ne hne
      cases A with
      | none => cases this
      | some a => cases h
    subst this
    exact ⟨_, PH.Le.refl _, none, none, 0, rfl, New.nil M none⟩
  · conv => whnf
    intro g0 hg0
    conv => whnf
    refine app_sl (te := ti5) (f := byC) (xs := []) (ys := ws) (o := none) (hs.mono (PH.Le.set _ hg0)) Ow.nil by_len byC_one rfl (by_fits 0 ws.length (by omega)) (by simp; omega) fun o A' c' M' hO hK hF => ?_
    conv => whnf
    exact ⟨_, PH.Le.refl _, o, A', c', rfl, hO, (PH.Le.set _ hg0).trans hK.le, fun g e => by
      rcases hF with h1 | ⟨g', h1, h2⟩
      · rw [h1] at e; cases e
      · rw [h1] at e; cases e; exact set_none h2⟩

theorem cloneSt_ret (A : Option Addr) (c : Nat) (ws : List ByteArray) (M : PH) (hs : Sl M A 1 stC ws) (hn : ws.length ≤ 1048576) :
    ACall env 140 [.slice A ws.length c] M fun r M' => ∃ o A' c', r = .slice A' ws.length c' ∧ New M M' o A' c' 1 stC ws := by
  refine xcall_of_vc Tryz.func140 rfl _ Tryz.ntmps140 _ rfl (fun _ _ => Tryz.call140 _ _) rfl (fun w0 ρ0 => ?_)
  conv => whnf
  refine caseB_intro (fun h => ?_) (fun h => ?_)
  · conv => whnf
    have : ws = [] := by
      apply Classical.byContradiction
      intro hne
      have := hs.ne hne
      cases A with
      | none => cases this
      | some a => cases h
    subst this
    exact ⟨_, PH.Le.refl _, none, none, 0, rfl, New.nil M none⟩
  · conv => whnf
    intro g0 hg0
    conv => whnf
    refine app_sl (te := ti9) (f := stC) (xs := []) (ys := ws) (o := none) (hs.mono (PH.Le.set _ hg0)) Ow.nil st_len stC_one rfl (st_fits 0 ws.length (by omega)) (by simp; omega) fun o A' c' M' hO hK hF => ?_
    conv => whnf
    exact ⟨_, PH.Le.refl _, o, A', c', rfl, hO, (PH.Le.set _ hg0).trans hK.le, fun g e => by
      rcases hF with h1 | ⟨g', h1, h2⟩
      · rw [h1] at e; cases e
      · rw [h1] at e; cases e; exact set_none h2⟩

theorem l4Copy_ret (A : Option Addr) (c : Nat) (ws : List Hd) (M : PH) (hs : Sl M A 2 Hd.cs ws) (hn : ws.length ≤ 1048576) :
    ACall env 164 [.slice A ws.length c] M fun r M' => ∃ o A' c', r = .slice A' ws.length c' ∧ New M M' o A' c' 2 Hd.cs ws := by
  refine xcall_of_vc Tryz.func164 rfl _ Tryz.ntmps164 _ rfl (fun _ _ => Tryz.call164 _ _) rfl (fun w0 ρ0 => ?_)
  conv => whnf
  intro g0 hg0
  conv => whnf
  refine app_sl (te := ti148) (f := Hd.cs) (xs := []) (ys := ws) (o := none) (hs.mono (PH.Le.set _ hg0)) Ow.nil Hd.len Hd_one rfl (hd_fits 0 ws.length (by omega)) (by simp; omega) fun o A' c' M' hO hK hF => ?_
  conv => whnf
  exact ⟨_, PH.Le.refl _, o, A', c', rfl, hO, (PH.Le.set _ hg0).trans hK.le, fun g e => by
    rcases hF with h1 | ⟨g', h1, h2⟩
    · rw [h1] at e; cases e
    · rw [h1] at e; cases e; exact set_none h2⟩

theorem l1Copy_ret (A : Option Addr) (c : Nat) (ws : List Int) (M : PH) (hs : Sl M A 1 byC ws) (hn : ws.length ≤ 1048576) :
    ACall env 165 [.slice A ws.length c] M fun r M' => ∃ o A' c', r = .slice A' ws.length c' ∧ New M M' o A' c' 1 byC ws := by
  refine xcall_of_vc Tryz.func165 rfl _ Tryz.ntmps165 _ rfl (fun _ _ => Tryz.call165 _ _) rfl (fun w0 ρ0 => ?_)
  conv => whnf
  intro g0 hg0
  conv => whnf
  refine app_sl (te := ti5) (f := byC) (xs := []) (ys := ws) (o := none) (hs.mono (PH.Le.set _ hg0)) Ow.nil by_len byC_one rfl (by_fits 0 ws.length (by omega)) (by simp; omega) fun o A' c' M' hO hK hF => ?_
  conv => whnf
  exact ⟨_, PH.Le.refl _, o, A', c', rfl, hO, (PH.Le.set _ hg0).trans hK.le, fun g e => by
    rcases hF with h1 | ⟨g', h1, h2⟩
    · rw [h1] at e; cases e
    · rw [h1] at e; cases e; exact set_none h2⟩

theorem l1Texts_ret (A : Option Addr) (c : Nat) (ws : List ByteArray) (M : PH) (hs : Sl M A 1 stC ws) (hn : ws.length ≤ 1048576) :
    ACall env 166 [.slice A ws.length c] M fun r M' => ∃ o A' c', r = .slice A' ws.length c' ∧ New M M' o A' c' 1 stC ws := by
  refine xcall_of_vc Tryz.func166 rfl _ Tryz.ntmps166 _ rfl (fun _ _ => Tryz.call166 _ _) rfl (fun w0 ρ0 => ?_)
  conv => whnf
  intro g0 hg0
  conv => whnf
  refine app_sl (te := ti9) (f := stC) (xs := []) (ys := ws) (o := none) (hs.mono (PH.Le.set _ hg0)) Ow.nil st_len stC_one rfl (st_fits 0 ws.length (by omega)) (by simp; omega) fun o A' c' M' hO hK hF => ?_
  conv => whnf
  exact ⟨_, PH.Le.refl _, o, A', c', rfl, hO, (PH.Le.set _ hg0).trans hK.le, fun g e => by
    rcases hF with h1 | ⟨g', h1, h2⟩
    · rw [h1] at e; cases e
    · rw [h1] at e; cases e; exact set_none h2⟩

/-- An entry of one's own, made since M. -/
structure NewE (M M' : PH) (y : EP) : Prop where
  ed : Ed M' y
  le : M.Le M'
  fr : Fr M (EP.blks y)
  ap : (EP.blks y).Pairwise Apart
theorem newE_of {M M1 M2 M3 : PH} {y : EP} (a : New M M1 y.2.1 y.1.hA y.1.hc 2 Hd.cs y.1.c.hs) (b : New M1 M2 y.2.2.1 y.1.bA y.1.bc 1 byC y.1.c.body) (c : New M2 M3 y.2.2.2 y.1.tA y.1.tc 1 stC y.1.c.tags) : NewE M M3 y := by
  have ka : Kn M1 [y.2.1] := fun x hx g e => by simp at hx; subst hx; exact a.ow.known g e
  have kb : Kn M2 [y.2.2.1] := fun x hx g e => by simp at hx; subst hx; exact b.ow.known g e
  have fb : Fr M1 [y.2.2.1] := fun x hx g e => by simp at hx; subst hx; exact b.fr g e
  have fc : Fr M2 [y.2.2.2] := fun x hx g e => by simp at hx; subst hx; exact c.fr g e
  refine ⟨⟨(a.ow.mono b.le).mono c.le, b.ow.mono c.le, c.ow⟩, (a.le.trans b.le).trans c.le, fun x hx g e => ?_, ?_⟩
  · simp only [EP.blks, List.mem_cons, List.not_mem_nil, or_false] at hx
    rcases hx with rfl | rfl | rfl
    · exact a.fr g e
    · exact none_of_le a.le (b.fr g e)
    · exact none_of_le (a.le.trans b.le) (c.fr g e)
  · have h12 := apart_of ka fb y.2.1 (by simp) _ (by simp : y.2.2.1 ∈ [y.2.2.1])
    have h13 := apart_of (ka.mono b.le) fc y.2.1 (by simp) _ (by simp : y.2.2.2 ∈ [y.2.2.2])
    have h23 := apart_of kb fc y.2.2.1 (by simp) _ (by simp : y.2.2.2 ∈ [y.2.2.2])
    simp only [EP.blks, List.pairwise_cons, List.mem_cons, List.not_mem_nil, or_false, forall_eq_or_imp, forall_eq, false_imp_iff, implies_true, List.Pairwise.nil, and_true]
    exact ⟨⟨h12, h13⟩, h23⟩
theorem copyEntry_ret (x : EnA) (M : PH) (hi : x.inn M) (hco : x.c.cost ≤ 1048576) :
    ACall env 85 [x.val] M fun r M' => ∃ y : EP, r = y.1.val ∧ y.1.c = x.c ∧ NewE M M' y := by
  obtain ⟨_, _, hn1, hn2, hn3⟩ := En.hn hco
  refine xcall_of_vc Tryz.func85 rfl _ Tryz.ntmps85 _ rfl (fun _ _ => Tryz.call85 _ _) rfl (fun w0 ρ0 => ?_)
  conv => whnf
  repeat' (first | (refine ⟨⟨[], rfl⟩, _, PH.Le.refl _, PH.Le.refl _, ?_⟩; conv => whnf) | (refine caseB_true ?_; conv => whnf) | (refine caseB_false ?_; conv => whnf) | ((with_reducible refine caseB_dec (fun h => ?_) (fun h => ?_)) <;> conv => whnf) | ((with_reducible refine caseB_ndec (fun h => ?_) (fun h => ?_)) <;> conv => whnf) | ((with_reducible refine caseB_not (fun h => ?_) (fun h => ?_)) <;> conv => whnf) | (refine draw_rule (.light 0 <| .light 1 <| .light 3 <| .light 4 <| .light 6 <| .light 7 <| .alt 2 false (.light 9 <| .alt 5 false (.alt 8 false (.alt 10 true (.light 11 <| .alt 12 true (.light 13 <| .alt 14 true (.done) .nil) .nil) .nil) .nil) .nil) .nil) (by decide +kernel) ?_; conv => whnf) | (with_reducible refine @And.intro (guardVC _ _ _ _ _) _ ?_ ?_) <;> conv => whnf | (refine caseB_intro (fun h => ?_) (fun h => ?_) <;> (try simp only [Bool.not_eq_true', Bool.not_eq_false', decide_eq_true_eq, decide_eq_false_iff_not] at h) <;> conv => whnf))
  refine ACall.step (cloneHd_ret x.hA x.hc x.c.hs M hi.h hn1) fun v M1 hh => ?_
  obtain ⟨o1, A1, c1, rfl, N1⟩ := hh
  (first | (refine ⟨⟨[], rfl⟩, _, N1.le, PH.Le.refl _, ?_⟩; conv => whnf) | conv => whnf)
  refine ACall.step (cloneBy_ret x.bA x.bc x.c.body M1 (hi.b.mono N1.le) hn2) fun v M2 hh => ?_
  obtain ⟨o2, A2, c2, rfl, N2⟩ := hh
  (first | (refine ⟨⟨[], rfl⟩, _, N2.le, PH.Le.refl _, ?_⟩; conv => whnf) | conv => whnf)
  refine ACall.step (cloneSt_ret x.tA x.tc x.c.tags M2 ((hi.t.mono N1.le).mono N2.le) hn3) fun v M3 hh => ?_
  obtain ⟨o3, A3, c3, rfl, N3⟩ := hh
  (first | (refine ⟨⟨[], rfl⟩, _, N3.le, PH.Le.refl _, ?_⟩; conv => whnf) | conv => whnf)
  exact ⟨_, PH.Le.refl _, (⟨x.c, A1, c1, A2, c2, A3, c3⟩, o1, o2, o3), rfl, rfl, newE_of N1 N2 N3⟩
theorem l8EntryCopy_ret (A : Option Addr) (o : Nat) (x : EnA) (M : PH) (hA : M.cells A o x.cs) (hi : x.inn M) (hco : x.c.cost ≤ 1048576) :
    XCall env 121 [.el A o] [] M fun r b M' => (∃ y : EP, r = y.1.val ∧ y.1.c = x.c ∧ NewE M M' y) ∧ b = [] := by
  obtain ⟨_, _, hn1, hn2, hn3⟩ := En.hn hco
  have a2 : M.cells A (o + 2) [.slice x.hA x.c.hs.length x.hc] := cells_sub hA 2 1
  have a3 : M.cells A (o + 3) [.slice x.bA x.c.body.length x.bc] := cells_sub hA 3 1
  have a5 : M.cells A (o + 11) [.slice x.tA x.c.tags.length x.tc] := cells_sub hA 11 1
  refine xcall_of_vc Tryz.func121 rfl _ Tryz.ntmps121 _ rfl (fun _ _ => Tryz.call121 _ _) rfl (fun w0 ρ0 => ?_)
  conv => whnf
  refine ⟨_, hA, rfl, ?_⟩
  conv => whnf
  refine ⟨_, a2, ?_⟩
  conv => whnf
  refine ACall.step (l4Copy_ret x.hA x.hc x.c.hs M hi.h hn1) fun v M1 hh => ?_
  obtain ⟨o1, A1, c1, rfl, N1⟩ := hh
  conv => whnf
  refine ⟨_, N1.le.cells a3, ?_⟩
  conv => whnf
  refine ACall.step (l1Copy_ret x.bA x.bc x.c.body M1 (hi.b.mono N1.le) hn2) fun v M2 hh => ?_
  obtain ⟨o2, A2, c2, rfl, N2⟩ := hh
  conv => whnf
  refine ⟨_, (N1.le.trans N2.le).cells a5, ?_⟩
  conv => whnf
  refine ACall.step (l1Texts_ret x.tA x.tc x.c.tags M2 ((hi.t.mono N1.le).mono N2.le) hn3) fun v M3 hh => ?_
  obtain ⟨o3, A3, c3, rfl, N3⟩ := hh
  conv => whnf
  exact ⟨_, PH.Le.refl _, ⟨(⟨x.c, A1, c1, A2, c2, A3, c3⟩, o1, o2, o3), rfl, rfl, newE_of N1 N2 N3⟩, rfl⟩
/-! ### Found -/
/-- The place of the first of a slice that a function is true of; -1 if there is none. -/
theorem indexFuncEn2 (ty : TypeId) (x0 : Value) (g : FuncId) (p : EnA → Bool) (A : Option Addr) (c : Nat) (ws : List EnA) (M : PH) (hs : Sl M A 13 EnA.cs ws) (hn : ws.length ≤ 4294967296)
    (hg : ∀ x ∈ ws, XCall env g (.v x.val :: [.bp 0 0]) [⟨ty, [.v x0]⟩] M fun r b M' => r = B (p x) ∧ b = [⟨ty, [.v x0]⟩] ∧ M' = M) :
    XCall env 148 [.v (.slice A ws.length c), .fn g [0]] [⟨ty, [.v x0]⟩] M fun r b M' => r = I (idxF p ws) ∧ b = [⟨ty, [.v x0]⟩] ∧ M' = M := by
  refine xcall_of_vc Tryz.func148 rfl _ Tryz.ntmps148 _ rfl (fun _ _ => Tryz.call148 _ _) rfl (fun w0 ρ0 => ?_)
  conv => whnf
  refine loop_rule (fun i : Nat => ⟨slots 19 [(0, .v (.slice A ws.length c)), (1, .fn g [0]), (4, .v (I 0)), (7, .v (I ws.length)), (8, .v (I i))], [⟨ty, [.v x0]⟩]⟩) (fun i M' => i ≤ ws.length ∧ (∀ j, j < i → ∀ h : j < ws.length, p ws[j] = false) ∧ M' = M) (fun i => ws.length - i) 0 ?_ ?_ ?_
  · exact ⟨by simp [slots, leT], ⟨[], rfl⟩, (by first | exact Nat.zero_le _ | exact Nat.le_refl _), rfl, rfl⟩
  · exact ⟨Nat.zero_le _, fun j hj => absurd hj (Nat.not_lt_zero _), rfl⟩
  · rintro i M' ⟨hi, hp, rfl⟩
    conv => whnf
    repeat' (first | (refine ⟨⟨[], rfl⟩, _, PH.Le.refl _, PH.Le.refl _, ?_⟩; conv => whnf) | (refine caseB_true ?_; conv => whnf) | (refine caseB_false ?_; conv => whnf) | ((with_reducible refine caseB_dec (fun h => ?_) (fun h => ?_)) <;> conv => whnf) | ((with_reducible refine caseB_ndec (fun h => ?_) (fun h => ?_)) <;> conv => whnf) | ((with_reducible refine caseB_not (fun h => ?_) (fun h => ?_)) <;> conv => whnf) | (with_reducible refine @And.intro (guardVC _ _ _ _ _) _ ?_ ?_) <;> conv => whnf | (refine caseB_intro (fun h => ?_) (fun h => ?_) <;> (try simp only [Bool.not_eq_true', Bool.not_eq_false', decide_eq_true_eq, decide_eq_false_iff_not] at h) <;> conv => whnf))
    · have hi' : i < ws.length := by omega
      have hw : IntKind.i64.wrap ((i : Int) + 1) = (i : Int) + 1 := wr_id (by omega) (by omega)
      obtain ⟨hA, _, hc⟩ := hs.get hi'
      refine ⟨by omega, by omega, hA, ?_⟩
      conv => whnf
      refine ⟨ws[i].cs, hc, rfl, ?_⟩
      conv => whnf
      refine XCall.mono (hg ws[i] (List.getElem_mem hi')) fun r b M' hh => ?_
      obtain ⟨rfl, rfl, rfl⟩ := hh
      conv => whnf
      refine caseB_intro (fun hx => ?_) (fun hx => ?_)
      · conv => whnf
        exact ⟨_, PH.Le.refl _, by rw [idxF_at p ws i hi' hp hx]; rfl, rfl, rfl⟩
      · conv => whnf
        exact ⟨i + 1, ⟨by simp [slots, leT, hw], ⟨[], rfl⟩, (by first | exact Nat.zero_le _ | exact Nat.le_refl _), rfl, rfl⟩, ⟨by omega, fun j hj h => by
          rcases Nat.lt_succ_iff_lt_or_eq.1 hj with h1 | h1
          · exact hp j h1 h
          · subst h1; exact hx, rfl⟩, by omega⟩
    · exact ⟨_, PH.Le.refl _, by rw [idxF_no p ws (fun j h => hp j (by omega) h)]; rfl, rfl, rfl⟩

theorem placeIn1_ret (k : ByteArray) (w : EnA) (M : PH) : XCall env 173 [.v w.val, .bp 0 0] [⟨9, [.v (Tx k)]⟩] M fun r b M' => r = B (seq w.c.key k) ∧ b = [⟨9, [.v (Tx k)]⟩] ∧ M' = M := by
  refine xcall_of_vc Tryz.func173 rfl _ Tryz.ntmps173 _ rfl (fun _ _ => Tryz.call173 _ _) rfl (fun w0 ρ0 => ?_)
  conv => whnf
  exact ⟨_, PH.Le.refl _, rfl, rfl, rfl⟩
def keyI (ws : List EnA) (k : ByteArray) : Int := idxF (fun w : EnA => seq w.c.key k) ws
theorem placeIn_ret (A : Option Addr) (c : Nat) (ws : List EnA) (k : ByteArray) (M : PH) (hs : Sl M A 13 EnA.cs ws) (hn : ws.length ≤ 4194304) : Ret 141 [.slice A ws.length c, Tx k] M (I (keyI ws k)) := by
  refine xcall_of_vc Tryz.func141 rfl _ Tryz.ntmps141 _ rfl (fun _ _ => Tryz.call141 _ _) rfl (fun w0 ρ0 => ?_)
  conv => whnf
  refine XCall.lift (indexFuncEn2 9 (Tx k) 173 (fun w => seq w.c.key k) A c ws M hs (by omega) fun w _ => placeIn1_ret k w M) [0] ?_ (by simp) (by simp) (by simp [AV.plain]) ?_
  · simp [ren, AV.plain]
  rintro r bs' M' ⟨rfl, rfl, rfl⟩
  refine ⟨by simp [AV.plain], ?_⟩
  conv => whnf
  exact ⟨_, PH.Le.refl _, rfl, rfl⟩
theorem keyI_cases (ws : List EnA) (k : ByteArray) : (keyI ws k = -1 ∧ ∀ w ∈ ws, seq w.c.key k = false) ∨ ∃ i, ∃ h : i < ws.length, keyI ws k = i ∧ seq ws[i].c.key k = true ∧ ∀ j, ∀ h2 : j < i, seq (ws[j]'(by omega)).c.key k = false := by
  unfold keyI idxF
  cases h : ws.findIdx? (fun w : EnA => seq w.c.key k) with
  | none =>
    rw [List.findIdx?_eq_none_iff] at h
    exact .inl ⟨rfl, fun w hw => by simpa using h w hw⟩
  | some i =>
    rw [List.findIdx?_eq_some_iff_getElem] at h
    obtain ⟨hi, h1, h2⟩ := h
    exact .inr ⟨i, hi, rfl, h1, fun j hj => by simpa using h2 j hj⟩
def findP (x : StA) (k : ByteArray) : Option Addr :=
  if 0 ≤ keyI x.tr k then x.tA.map (·.add ((keyI x.tr k).toNat * 13)) else if 0 ≤ keyI x.kp k then x.kA.map (·.add ((keyI x.kp k).toNat * 13)) else none
theorem find_ret (x : StA) (k : ByteArray) (M : PH) (hi : x.inn M) (n1 : x.tr.length ≤ 1048576) (n2 : x.kp.length ≤ 1048576) :
    XCall env 86 [.bp 0 0, .v (Tx k)] [stBox x] M fun r b M' => r = .pointer (findP x k) ∧ b = [stBox x] ∧ M' = M := by
  have hA1 : ∀ i : Nat, i < x.tr.length → x.tA.isSome = true := fun i h => (hi.t.sl.get h).1
  have hA2 : ∀ i : Nat, i < x.kp.length → x.kA.isSome = true := fun i h => (hi.k.sl.get h).1
  have p1 := placeIn_ret x.tA x.tc x.tr k M hi.t.sl (by omega)
  have p2 := placeIn_ret x.kA x.kc x.kp k M hi.k.sl (by omega)
  have b1 : 0 ≤ keyI x.tr k → keyI x.tr k < x.tr.length ∧ ∃ a, x.tA = some a := fun h => by
    rcases keyI_cases x.tr k with ⟨e, _⟩ | ⟨i, hi, e, _⟩
    · omega
    · exact ⟨by omega, Option.isSome_iff_exists.1 (hA1 i hi)⟩
  have b2 : 0 ≤ keyI x.kp k → keyI x.kp k < x.kp.length ∧ ∃ a, x.kA = some a := fun h => by
    rcases keyI_cases x.kp k with ⟨e, _⟩ | ⟨i, hi, e, _⟩
    · omega
    · exact ⟨by omega, Option.isSome_iff_exists.1 (hA2 i hi)⟩
  unfold findP
  obtain ⟨xb, xg, xtr, xkp, xtA, xtc, xkA, xkc⟩ := x
  simp only at *
  generalize keyI xtr k = i1 at *
  generalize keyI xkp k = i2 at *
  refine xcall_of_vc Tryz.func86 rfl _ Tryz.ntmps86 _ rfl (fun _ _ => Tryz.call86 _ _) rfl (fun w0 ρ0 => ?_)
  conv => whnf
  repeat' (first | (refine ⟨⟨[], rfl⟩, _, PH.Le.refl _, PH.Le.refl _, ?_⟩; conv => whnf) | (refine caseB_true ?_; conv => whnf) | (refine caseB_false ?_; conv => whnf) | ((with_reducible refine caseB_dec (fun h => ?_) (fun h => ?_)) <;> conv => whnf) | ((with_reducible refine caseB_ndec (fun h => ?_) (fun h => ?_)) <;> conv => whnf) | ((with_reducible refine caseB_not (fun h => ?_) (fun h => ?_)) <;> conv => whnf) | (refine draw_rule (.light 0 <| .light 1 <| .light 2 <| .light 3 <| .light 4 <| .light 5 <| .light 6 <| .light 7 <| .light 8 <| .light 9 <| .done) (by decide +kernel) ?_; conv => whnf) | (with_reducible refine @And.intro (guardVC _ _ _ _ _) _ ?_ ?_) <;> conv => whnf | (refine caseB_intro (fun h => ?_) (fun h => ?_) <;> (try simp only [Bool.not_eq_true', Bool.not_eq_false', decide_eq_true_eq, decide_eq_false_iff_not] at h) <;> conv => whnf))
  refine unroll_rule 3 ?_
  conv => whnf
  refine caseB_dec (fun _ => ?_) (fun h => absurd (by decide) h)
  conv => whnf
  refine ⟨by decide, by decide, _, rfl, ?_⟩
  conv => whnf
  refine Ret.go p1 ?_
  conv => whnf
  refine caseB_dec (fun h => ?_) (fun h => ?_)
  · have h : 0 ≤ i1 := h
    obtain ⟨hlt, a, rfl⟩ := b1 h
    conv => whnf
    refine ⟨h, hlt, rfl, ?_⟩
    conv => whnf
    exact ⟨_, PH.Le.refl _, by rw [if_pos h]; rfl, rfl, rfl⟩
  have h : ¬ 0 ≤ i1 := h
  conv => whnf
  refine caseB_dec (fun _ => ?_) (fun h => absurd (by decide) h)
  conv => whnf
  refine ⟨by decide, by decide, _, rfl, ?_⟩
  conv => whnf
  refine Ret.go p2 ?_
  conv => whnf
  refine caseB_dec (fun h2 => ?_) (fun h2 => ?_)
  · have h2 : 0 ≤ i2 := h2
    obtain ⟨hlt, a, rfl⟩ := b2 h2
    conv => whnf
    refine ⟨h2, hlt, rfl, ?_⟩
    conv => whnf
    exact ⟨_, PH.Le.refl _, by rw [if_neg h, if_pos h2]; rfl, rfl, rfl⟩
  have h2 : ¬ 0 ≤ i2 := h2
  conv => whnf
  refine caseB_dec (fun h => absurd h (by decide)) (fun _ => ?_)
  conv => whnf
  exact ⟨_, PH.Le.refl _, by rw [if_neg h, if_neg h2]; rfl, rfl, rfl⟩
def look (es : List En) (k : ByteArray) : Option En := es.find? fun e => seq e.key k
theorem look_at {ws : List EnA} {k : ByteArray} {i : Nat} (hi : i < ws.length) (h1 : seq ws[i].c.key k = true) (h2 : ∀ j, ∀ h2 : j < i, seq (ws[j]'(by omega)).c.key k = false) : look (conts ws) k = some ws[i].c := by
  unfold look conts
  rw [List.find?_eq_some_iff_getElem]
  exact ⟨h1, i, by simpa using hi, by simp, fun j hj => by simp [h2 j hj]⟩
theorem look_no {ws : List EnA} {k : ByteArray} (h : ∀ w ∈ ws, seq w.c.key k = false) : look (conts ws) k = none := by
  unfold look conts
  rw [List.find?_eq_none]
  intro e he
  obtain ⟨w, hw, rfl⟩ := List.mem_map.1 he
  simp [h w hw]
theorem look_app (a b : List En) (k : ByteArray) : look (a ++ b) k = (look a k).or (look b k) := by unfold look; rw [List.find?_append]
theorem look_all (x : StA) (k : ByteArray) : look x.c.all k = (look (conts x.tr) k).or (look (conts x.kp) k) := look_app _ _ _
/-- What the pointer to an entry points to. -/
theorem findP_cases {x : StA} (k : ByteArray) {M : PH} (hi : x.inn M) : (findP x k = none ∧ look x.c.all k = none) ∨ ∃ a, ∃ y ∈ x.tr ++ x.kp, findP x k = some a ∧ look x.c.all k = some y.c ∧ M.cells (some a) 0 y.cs := by
  rw [look_all]
  unfold findP
  rcases keyI_cases x.tr k with ⟨e, h⟩ | ⟨i, hl, e, h1, h2⟩
  · rw [if_neg (by omega), look_no h, Option.none_or]
    rcases keyI_cases x.kp k with ⟨e2, h'⟩ | ⟨i, hl, e2, h1, h2⟩
    · rw [if_neg (by omega), look_no h']
      exact .inl ⟨rfl, rfl⟩
    · obtain ⟨hA, _, a, ha, hc⟩ := hi.k.sl.get hl
      rw [if_pos (by omega), look_at hl h1 h2, ha, e2]
      refine .inr ⟨_, x.kp[i], List.mem_append_right _ (List.getElem_mem hl), rfl, rfl, _, rfl, fun j v hv => ?_⟩
      rw [add_add, Nat.zero_add]
      simpa using hc j v hv
  · obtain ⟨hA, _, a, ha, hc⟩ := hi.t.sl.get hl
    rw [if_pos (by omega), look_at hl h1 h2, ha, e]
    refine .inr ⟨_, x.tr[i], List.mem_append_left _ (List.getElem_mem hl), rfl, rfl, _, rfl, fun j v hv => ?_⟩
    rw [add_add, Nat.zero_add]
    simpa using hc j v hv
noncomputable def swF (s : Sc) (k : ByteArray) : Int := if stFault s ≠ 0 then stFault s else if look s.all k = none then 4 else 0
theorem storeWith_ret (x : StA) (k : ByteArray) (M : PH) (hi : x.inn M) (hco : x.c.cost ≤ 1048576) : Ret 84 [x.val, Tx k] M (I (swF x.c k)) := by
  obtain ⟨n1, n2, hd⟩ := st_split hco
  have hf := findP_cases k hi
  refine xcall_of_vc Tryz.func84 rfl _ Tryz.ntmps84 _ rfl (fun _ _ => Tryz.call84 _ _) rfl (fun w0 ρ0 => ?_)
  conv => whnf
  refine Ret.go (storeFault_impl x _ hi hco) ?_
  conv => whnf
  refine caseB_ndec (fun h => ?_) (fun h => ?_)
  · conv => whnf
    exact ⟨_, PH.Le.refl _, by unfold swF; rw [if_pos h]; rfl, rfl⟩
  conv => whnf
  refine XCall.lift (find_ret x k M hi n1 n2) [0] ?_ (by simp) (by simp) (by simp [AV.plain]) ?_
  · simp [ren]
  rintro r bs' M1 ⟨rfl, rfl, rfl⟩
  refine ⟨by simp [AV.plain], ?_⟩
  rcases hf with ⟨e1, e2⟩ | ⟨a, y, _, e1, e2, _⟩
  · rw [e1]
    conv => whnf
    refine caseB_true ?_
    conv => whnf
    exact ⟨_, PH.Le.refl _, by unfold swF; rw [if_neg (by simpa using h), if_pos e2]; rfl, rfl⟩
  · rw [e1]
    conv => whnf
    refine caseB_false ?_
    conv => whnf
    exact ⟨_, PH.Le.refl _, by unfold swF; rw [if_neg (by simpa using h), if_neg (by rw [e2]; simp)]; rfl, rfl⟩
theorem l8Find_ret (A : Option Addr) (c : Nat) (ws : List EnA) (k : ByteArray) (M : PH) (hs : Sl M A 13 EnA.cs ws) (hn : ws.length ≤ 2097152) : Ret 162 [.slice A ws.length c, Tx k] M (I (keyI ws k)) := by
  refine xcall_of_vc Tryz.func162 rfl _ Tryz.ntmps162 _ rfl (fun _ _ => Tryz.call162 _ _) rfl (fun w0 ρ0 => ?_)
  conv => whnf
  refine loop_rule (fun i : Nat => ⟨slots 20 [(0, .v (.slice A ws.length c)), (1, .v (Tx k)), (5, .v (I i))], []⟩) (fun i M' => i ≤ ws.length ∧ (∀ j, j < i → ∀ h : j < ws.length, seq ws[j].c.key k = false) ∧ M' = M) (fun i => ws.length - i) 0 ?_ ?_ ?_
  · exact ⟨by simp [slots, leT], ⟨[], rfl⟩, Nat.zero_le _, rfl, rfl⟩
  · exact ⟨Nat.zero_le _, fun j hj => absurd hj (Nat.not_lt_zero _), rfl⟩
  rintro i M' ⟨hi, hp, rfl⟩
  conv => whnf
  repeat' (first | (refine ⟨⟨[], rfl⟩, _, PH.Le.refl _, PH.Le.refl _, ?_⟩; conv => whnf) | (refine caseB_true ?_; conv => whnf) | (refine caseB_false ?_; conv => whnf) | ((with_reducible refine caseB_dec (fun h => ?_) (fun h => ?_)) <;> conv => whnf) | ((with_reducible refine caseB_ndec (fun h => ?_) (fun h => ?_)) <;> conv => whnf) | ((with_reducible refine caseB_not (fun h => ?_) (fun h => ?_)) <;> conv => whnf) | (with_reducible refine @And.intro (guardVC _ _ _ _ _) _ ?_ ?_) <;> conv => whnf | (refine caseB_intro (fun h => ?_) (fun h => ?_) <;> (try simp only [Bool.not_eq_true', Bool.not_eq_false', decide_eq_true_eq, decide_eq_false_iff_not] at h) <;> conv => whnf))
  · have hi' : i < ws.length := by omega
    have hw : IntKind.i64.wrap ((i : Int) + 1) = (i : Int) + 1 := wr_id (by omega) (by omega)
    obtain ⟨hA, _, hc⟩ := hs.get hi'
    repeat' (first | (refine ⟨⟨[], rfl⟩, _, PH.Le.refl _, PH.Le.refl _, ?_⟩; conv => whnf) | (refine ⟨_, cells_cut hc 0 rfl, ?_⟩; conv => whnf) | (refine ⟨by omega, by omega, hA, ?_⟩; conv => whnf) | (refine caseB_true ?_; conv => whnf) | (refine caseB_false ?_; conv => whnf) | ((with_reducible refine caseB_dec (fun h => ?_) (fun h => ?_)) <;> conv => whnf) | ((with_reducible refine caseB_ndec (fun h => ?_) (fun h => ?_)) <;> conv => whnf) | ((with_reducible refine caseB_not (fun h => ?_) (fun h => ?_)) <;> conv => whnf) | (with_reducible refine @And.intro (guardVC _ _ _ _ _) _ ?_ ?_) <;> conv => whnf | (refine caseB_intro (fun h => ?_) (fun h => ?_) <;> (try simp only [Bool.not_eq_true', Bool.not_eq_false', decide_eq_true_eq, decide_eq_false_iff_not] at h) <;> conv => whnf))
    · rename_i h
      exact ⟨_, PH.Le.refl _, by unfold keyI; rw [idxF_at (fun w : EnA => seq w.c.key k) ws i hi' hp h]; rfl, rfl⟩
    · rename_i h
      exact ⟨i + 1, ⟨by simp [slots, leT, hw], ⟨_, rfl⟩, Nat.zero_le _, rfl, rfl⟩, ⟨by omega, fun j hj hjl => (Nat.lt_succ_iff_lt_or_eq.1 hj).elim (fun h1 => hp j h1 hjl) (fun e => by subst e; exact h), rfl⟩, by omega⟩
  · exact ⟨_, PH.Le.refl _, by unfold keyI; rw [idxF_no (fun w : EnA => seq w.c.key k) ws fun j h => hp j (by omega) h]; rfl, rfl⟩
def zEn : En := ⟨ByteArray.empty, 0, [], [], ⟨0, 0, 0, 0, 0, false, false⟩, [], 0⟩
def zEP : EP := (⟨zEn, none, 0, none, 0, none, 0⟩, none, none, none)
theorem zEP_new (M : PH) : NewE M M zEP := ⟨⟨⟨rfl, rfl⟩, ⟨rfl, rfl⟩, ⟨rfl, rfl⟩⟩, PH.Le.refl _, (fun b hb g e => by simp [EP.blks, zEP] at hb; subst hb; cases e), (by simp [EP.blks, zEP, Apart])⟩
def pkE (s : Sc) (k : ByteArray) : En := (look s.all k).getD zEn
theorem l8Peek_ret (x : StA) (k : ByteArray) (M : PH) (hi : x.inn M) (hco : x.c.cost ≤ 1048576) :
    XCall env 116 [.bp 0 0, .v (Tx k)] [stBox x] M fun r b M' => (∃ y : EP, r = .tuple #[y.1.val, B (look x.c.all k).isSome] ∧ y.1.c = pkE x.c k ∧ NewE M M' y) ∧ b = [stBox x] := by
  obtain ⟨n1, n2, hd⟩ := st_split hco
  have hal := all_conts x
  have hwn : (x.tr ++ x.kp).length ≤ 2097152 := by rw [List.length_append]; omega
  refine xcall_of_vc Tryz.func116 rfl _ Tryz.ntmps116 _ rfl (fun _ _ => Tryz.call116 _ _) rfl (fun w0 ρ0 => ?_)
  conv => whnf
  refine XCall.lift (l8All_ret 36 x _ hi n1 n2) [0] ?_ (by simp) (by simp) (by simp [AV.plain]) ?_
  · simp [ren]
  rintro r bs' M0 ⟨⟨o0, A, c, rfl, hN0⟩, rfl⟩
  refine ⟨by simp [AV.plain], ?_⟩
  have hE := all_ens hi hN0
  have l1 := hN0.le
  unfold pkE
  rw [hal]
  clear hN0 hal
  generalize x.tr ++ x.kp = ws at *
  conv => whnf
  refine Ret.go (l8Find_ret A c ws k _ hE.sl hwn) ?_
  conv => whnf
  rcases keyI_cases ws k with ⟨e, h⟩ | ⟨i, hl, e, h1, h2⟩
  · rw [e, look_no h]
    conv => whnf
    refine caseB_dec (fun _ => ?_) (fun h => absurd (by decide) h)
    conv => whnf
    exact ⟨M, l1, ⟨zEP, rfl, rfl, zEP_new M⟩, rfl⟩
  · rw [e, look_at hl h1 h2]
    obtain ⟨hA, _, hc⟩ := hE.sl.get hl
    have hyi := hE.inn _ (List.getElem_mem hl)
    have hyc := hd _ (List.getElem_mem hl)
    generalize ws[i] = y at *
    conv => whnf
    refine caseB_dec (fun h => absurd h (by omega)) (fun _ => ?_)
    conv => whnf
    refine ⟨by omega, by omega, hA, ?_⟩
    conv => whnf
    refine XCall.lift (l8EntryCopy_ret A (i * 13) y M0 hc hyi hyc) [] ?_ rfl (by simp) rfl ?_
    · simp [ren]; try rfl
    rintro r bs' M3 ⟨⟨z, rfl, ez, hz⟩, rfl⟩
    refine ⟨rfl, ?_⟩
    conv => whnf
    exact ⟨_, PH.Le.refl _, ⟨z, rfl, ez, ⟨hz.ed, l1.trans hz.le, hz.fr.le l1, hz.ap⟩⟩, rfl⟩
end Go.Proofs.YtgjaiabenjafeaaGreatDoor
