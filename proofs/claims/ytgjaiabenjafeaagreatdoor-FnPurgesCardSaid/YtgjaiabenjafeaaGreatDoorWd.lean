/-
  CONTRACTS: stores copied. RESULTS that hold a store: compared, marked, read again; what l8Ask gives.
-/
import Derived.Test.YtgjaiabenjafeaaGreatDoorWb
namespace Go.Proofs.YtgjaiabenjafeaaGreatDoor
set_option maxRecDepth 100000
set_option linter.unusedSimpArgs false
set_option linter.unusedVariables false
open Go.Xe
/-- A row of entries of one's own, made since M. -/
structure NewD (M M' : PH) (o : Option Nat) (A : Option Addr) (c : Nat) (ps : List EP) : Prop where
  d : Dw M' o A c ps
  le : M.Le M'
  fr : Fr M (dwL o ps)
theorem NewD.nil (M M' : PH) (A : Option Addr) (l : M.Le M') : NewD M M' none A 0 [] := ⟨⟨Ow.nil, fun j p h => by simp at h, by simp [Sep, dwL]⟩, l, fun b hb g e => by simp [dwL] at hb; subst hb; cases e⟩
theorem NewD.mono {M M1 M2 : PH} {o : Option Nat} {A : Option Addr} {c : Nat} {ps : List EP} (h : NewD M M1 o A c ps) (l : M1.Le M2) : NewD M M2 o A c ps := ⟨h.d.mono l, h.le.trans l, h.fr⟩
theorem NewD.more {M M1 M2 M3 M4 : PH} {o o' : Option Nat} {A A' : Option Addr} {c c' : Nat} {ps : List EP} {y : EP} (h : NewD M M1 o A c ps) (hy : NewE M1 M2 y) (l : M2.Le M3) (hO : Ow M4 o' A' c' 13 EP.cs (ps ++ [y])) (hK : Keeps o M3 M4) (hF : o' = o ∨ ∃ g, o' = some g ∧ M3 g = none) : NewD M M4 o' A' c' (ps ++ [y]) := by
  have l13 := hy.le.trans l
  have kO : Kn M1 [o] := fun b hb g e => by simp at hb; subst hb; exact h.d.row.known g e
  have kP : Kn M1 (ps.flatMap EP.blks) := fun b hb => h.d.kn b (List.mem_cons_of_mem _ hb)
  have aoy : ∀ b ∈ EP.blks y, Apart o b := fun b hb => apart_of kO hy.fr o (by simp) b hb
  have apy := apart_of kP hy.fr
  have kY : Kn M3 (EP.blks y) := (hy.ed.mono l).kn
  have hop : ∀ b ∈ ps.flatMap EP.blks, Apart o b := (List.pairwise_cons.1 h.d.sep).1
  have hsp : (ps.flatMap EP.blks).Pairwise Apart := (List.pairwise_cons.1 h.d.sep).2
  have e1 : (ps ++ [y]).flatMap EP.blks = ps.flatMap EP.blks ++ EP.blks y := by rw [List.flatMap_append]; simp
  have hall : ∀ b ∈ ps.flatMap EP.blks ++ EP.blks y, Apart o' b := fun b hb => by
    rcases hF with rfl | ⟨g, rfl, hg⟩
    · exact (List.mem_append.1 hb).elim (hop b) (aoy b)
    · have kB : Kn M3 (ps.flatMap EP.blks ++ EP.blks y) := fun b hb => (List.mem_append.1 hb).elim (fun hb => (kP.mono l13) b hb) (fun hb => kY b hb)
      exact (apart_of kB (L' := [some g]) (fun x hx g' e => by simp at hx; subst hx; cases e; exact hg) b hb _ (by simp)).symm
  refine ⟨⟨hO, fun j p hp => ?_, ?_⟩, hK.over (h.le.trans l13) (fun k e => h.fr o (by simp) k e), fun b hb g e => ?_⟩
  · rw [List.getElem?_append] at hp
    split at hp
    · have hm : p ∈ ps := List.mem_of_getElem? hp
      exact ((h.d.ed j p hp).mono l13).keeps hK fun a ha => hop a (List.mem_flatMap.2 ⟨p, hm, ha⟩)
    · have : p = y := by
        have hm := List.mem_of_getElem? hp
        simpa using hm
      subst this
      exact (hy.ed.mono l).keeps hK aoy
  · show Sep (o' :: (ps ++ [y]).flatMap EP.blks)
    rw [e1]
    exact List.pairwise_cons.2 ⟨hall, List.pairwise_append.2 ⟨hsp, hy.ap, apy⟩⟩
  · rcases List.mem_cons.1 hb with rfl | hb
    · rcases hF with h1 | ⟨g', h1, hg⟩
      · exact h.fr o (by simp) g (h1 ▸ e)
      · rw [h1] at e; cases e; exact none_of_le (h.le.trans l13) hg
    · rw [e1] at hb
      rcases List.mem_append.1 hb with hb | hb
      · exact h.fr b (List.mem_cons_of_mem _ hb) g e
      · exact none_of_le h.le (hy.fr b hb g e)
abbrev G2 := Nat × Option Nat × Option Addr × Nat × List EP
theorem copyEntries_ret (A : Option Addr) (c : Nat) (ws : List EnA) (M : PH) (hE : Ens M A ws) (hd : ∀ y ∈ ws, y.c.cost ≤ 1048576) (hn : ws.length ≤ 1048576) :
    ACall env 124 [.slice A ws.length c] M fun r M' => ∃ o A' c' ps, r = .slice A' ps.length c' ∧ NewD M M' o A' c' ps ∧ ps.map (·.1.c) = conts ws := by
  have hcl : (conts ws).length = ws.length := List.length_map _
  refine xcall_of_vc Tryz.func124 rfl _ Tryz.ntmps124 _ rfl (fun _ _ => Tryz.call124 _ _) rfl (fun w0 ρ0 => ?_)
  conv => whnf
  intro g1 hg1
  conv => whnf
  have l0 := PH.Le.set (.cells (#[] : Array Value) 44 (0, 0)) hg1
  refine loop_rule (fun z : G2 => ⟨slots 20 [(0, .v (.slice A ws.length c)), (3, .v (.slice z.2.2.1 z.2.2.2.2.length z.2.2.2.1)), (7, .v (.slice A ws.length c)), (8, .v (I ws.length)), (9, .v (I z.1))], []⟩)
    (fun z M' => z.1 ≤ ws.length ∧ NewD M M' z.2.1 z.2.2.1 z.2.2.2.1 z.2.2.2.2 ∧ z.2.2.2.2.map (·.1.c) = (conts ws).take z.1) (fun z => ws.length - z.1) (0, none, some ⟨g1, 0, none⟩, 0, []) ?_ ?_ ?_
  · exact ⟨by simp [slots, leT], ⟨[], rfl⟩, Nat.zero_le _, rfl, rfl⟩
  · exact ⟨Nat.zero_le _, NewD.nil _ _ _ l0, rfl⟩
  rintro ⟨i, o, D, d, ps⟩ M1 ⟨hi0, hN, hc⟩
  have hi0 : i ≤ ws.length := hi0
  have hN : NewD M M1 o D d ps := hN
  have hc : ps.map (·.1.c) = (conts ws).take i := hc
  have hpl : ps.length = i := by have := congrArg List.length hc; simpa [Nat.min_eq_left hi0] using this
  conv => whnf
  refine caseB_dec (fun h0 => ?_) (fun h0 => ?_)
  · have h0 : (i : Int) < ws.length := h0
    have hi' : i < ws.length := by omega
    have hw : IntKind.i64.wrap ((i : Int) + 1) = (i : Int) + 1 := wr_id (by omega) (by omega)
    obtain ⟨hA, _, hcc⟩ := (hE.sl.mono hN.le).get hi'
    have hx := (hE.inn _ (List.getElem_mem hi')).mono hN.le
    have hxc := hd _ (List.getElem_mem hi')
    have htk : (conts ws).take (i + 1) = (conts ws).take i ++ [ws[i].c] := by rw [List.take_succ_eq_append_getElem (by omega)]; simp
    generalize ws[i] = y at *
    conv => whnf
    refine ⟨by omega, by omega, hA, ?_⟩
    conv => whnf
    refine ⟨y.cs, hcc, rfl, ?_⟩
    conv => whnf
    refine ACall.step (copyEntry_ret y _ hx hxc) fun v M2 hh => ?_
    obtain ⟨z, rfl, ez, hz⟩ := hh
    conv => whnf
    intro g0 hg0
    conv => whnf
    have l2 := PH.Le.set (.cells ([z].flatMap EP.cs).toArray 44 (0, 0)) hg0
    have hS := sl_full EP.len M2 g0 [z] 44 (0, 0)
    refine app_sl (te := ti44) (f := EP.cs) (xs := ps) (ys := [z]) (o := o) hS ((hN.d.row.mono hz.le).mono l2) EP.len EP.one rfl (en_fits _ _ (by show _ + 1 ≤ _; omega)) (by show _ + 1 ≤ _; omega) fun o' A' c' M' hO hK hF => ?_
    conv => whnf
    have hNN := hN.more hz l2 hO hK hF
    exact ⟨(i + 1, o', A', c', ps ++ [z]), ⟨by simp [slots, leT, hw], ⟨_, rfl⟩, Nat.zero_le _, rfl, rfl⟩, ⟨hi', hNN, by show (ps ++ [z]).map (·.1.c) = (conts ws).take (i + 1); rw [htk, List.map_append, hc, ← ez]; rfl⟩, by show _ - (i + 1) < _ - i; omega⟩
  · have hi' : i = ws.length := by have : ¬ (i : Int) < ws.length := h0; omega
    subst hi'
    rw [← hcl, List.take_length] at hc
    conv => whnf
    exact ⟨_, PH.Le.refl _, o, D, d, ps, rfl, hN, hc⟩
theorem l8Copies_ret (A : Option Addr) (c : Nat) (ws : List EnA) (M : PH) (hE : Ens M A ws) (hd : ∀ y ∈ ws, y.c.cost ≤ 1048576) (hn : ws.length ≤ 1048576) :
    ACall env 119 [.slice A ws.length c] M fun r M' => ∃ o A' c' ps, r = .slice A' ps.length c' ∧ NewD M M' o A' c' ps ∧ ps.map (·.1.c) = conts ws := by
  have hcl : (conts ws).length = ws.length := List.length_map _
  refine xcall_of_vc Tryz.func119 rfl _ Tryz.ntmps119 _ rfl (fun _ _ => Tryz.call119 _ _) rfl (fun w0 ρ0 => ?_)
  conv => whnf
  intro g1 hg1
  conv => whnf
  have l0 := PH.Le.set (.cells (#[] : Array Value) 44 (0, 0)) hg1
  refine loop_rule (fun z : G2 => ⟨slots 20 [(0, .v (.slice A ws.length c)), (3, .v (.slice z.2.2.1 z.2.2.2.2.length z.2.2.2.1)), (4, .v (I z.1))], []⟩)
    (fun z M' => z.1 ≤ ws.length ∧ NewD M M' z.2.1 z.2.2.1 z.2.2.2.1 z.2.2.2.2 ∧ z.2.2.2.2.map (·.1.c) = (conts ws).take z.1) (fun z => ws.length - z.1) (0, none, some ⟨g1, 0, none⟩, 0, []) ?_ ?_ ?_
  · exact ⟨by simp [slots, leT], ⟨[], rfl⟩, Nat.zero_le _, rfl, rfl⟩
  · exact ⟨Nat.zero_le _, NewD.nil _ _ _ l0, rfl⟩
  rintro ⟨i, o, D, d, ps⟩ M1 ⟨hi0, hN, hc⟩
  have hi0 : i ≤ ws.length := hi0
  have hN : NewD M M1 o D d ps := hN
  have hc : ps.map (·.1.c) = (conts ws).take i := hc
  have hpl : ps.length = i := by have := congrArg List.length hc; simpa [Nat.min_eq_left hi0] using this
  conv => whnf
  refine caseB_dec (fun h0 => ?_) (fun h0 => ?_)
  · have h0 : (i : Int) < ws.length := h0
    have hi' : i < ws.length := by omega
    have hw : IntKind.i64.wrap ((i : Int) + 1) = (i : Int) + 1 := wr_id (by omega) (by omega)
    obtain ⟨hA, _, hcc⟩ := (hE.sl.mono hN.le).get hi'
    have hx := (hE.inn _ (List.getElem_mem hi')).mono hN.le
    have hxc := hd _ (List.getElem_mem hi')
    have htk : (conts ws).take (i + 1) = (conts ws).take i ++ [ws[i].c] := by rw [List.take_succ_eq_append_getElem (by omega)]; simp
    generalize ws[i] = y at *
    conv => whnf
    refine ⟨by omega, by omega, hA, ?_⟩
    conv => whnf
    refine XCall.lift (l8EntryCopy_ret A (i * 13) y M1 hcc hx hxc) [] ?_ rfl (by simp) rfl ?_
    · simp [ren]; try rfl
    rintro r bs' M2 ⟨⟨z, rfl, ez, hz⟩, rfl⟩
    refine ⟨rfl, ?_⟩
    conv => whnf
    intro g0 hg0
    conv => whnf
    have l2 := PH.Le.set (.cells ([z].flatMap EP.cs).toArray 44 (0, 0)) hg0
    have hS := sl_full EP.len M2 g0 [z] 44 (0, 0)
    refine app_sl (te := ti44) (f := EP.cs) (xs := ps) (ys := [z]) (o := o) hS ((hN.d.row.mono hz.le).mono l2) EP.len EP.one rfl (en_fits _ _ (by show _ + 1 ≤ _; omega)) (by show _ + 1 ≤ _; omega) fun o' A' c' M' hO hK hF => ?_
    conv => whnf
    have hNN := hN.more hz l2 hO hK hF
    exact ⟨(i + 1, o', A', c', ps ++ [z]), ⟨by simp [slots, leT, hw], ⟨_, rfl⟩, Nat.zero_le _, rfl, rfl⟩, ⟨hi', hNN, by show (ps ++ [z]).map (·.1.c) = (conts ws).take (i + 1); rw [htk, List.map_append, hc, ← ez]; rfl⟩, by show _ - (i + 1) < _ - i; omega⟩
  · have hi' : i = ws.length := by have : ¬ (i : Int) < ws.length := h0; omega
    subst hi'
    rw [← hcl, List.take_length] at hc
    conv => whnf
    exact ⟨_, PH.Le.refl _, o, D, d, ps, rfl, hN, hc⟩
/-- A store of one's own, made since M. -/
structure NewS (M M' : PH) (s : So) : Prop where
  d : Dso M' s
  le : M.Le M'
  fr : Fr M (soL s)
theorem newS_of {M M1 M2 : PH} {s : So} (a : NewD M M1 s.o1 s.A1 s.c1 s.p1) (b : NewD M1 M2 s.o2 s.A2 s.c2 s.p2) : NewS M M2 s :=
  ⟨⟨a.d.mono b.le, b.d, apart_of a.d.kn b.fr⟩, a.le.trans b.le, a.fr.app (b.fr.le a.le)⟩
theorem copyStore_ret (x : StA) (M : PH) (hi : x.inn M) (hco : x.c.cost ≤ 1048576) :
    ACall env 62 [x.val] M fun r M' => ∃ s : So, r = s.val ∧ s.c = x.c ∧ NewS M M' s := by
  obtain ⟨n1, n2, hd⟩ := st_split hco
  refine xcall_of_vc Tryz.func62 rfl _ Tryz.ntmps62 _ rfl (fun _ _ => Tryz.call62 _ _) rfl (fun w0 ρ0 => ?_)
  conv => whnf
  repeat' (first | (refine ⟨⟨[], rfl⟩, _, PH.Le.refl _, PH.Le.refl _, ?_⟩; conv => whnf) | (refine caseB_true ?_; conv => whnf) | (refine caseB_false ?_; conv => whnf) | ((with_reducible refine caseB_dec (fun h => ?_) (fun h => ?_)) <;> conv => whnf) | ((with_reducible refine caseB_ndec (fun h => ?_) (fun h => ?_)) <;> conv => whnf) | ((with_reducible refine caseB_not (fun h => ?_) (fun h => ?_)) <;> conv => whnf) | (refine draw_rule (.light 0 <| .light 1 <| .light 3 <| .light 4 <| .alt 2 false (.light 6 <| .alt 5 false (.alt 7 true (.light 8 <| .alt 9 true (.done) .nil) .nil) .nil) .nil) (by decide +kernel) ?_; conv => whnf) | (with_reducible refine @And.intro (guardVC _ _ _ _ _) _ ?_ ?_) <;> conv => whnf | (refine caseB_intro (fun h => ?_) (fun h => ?_) <;> (try simp only [Bool.not_eq_true', Bool.not_eq_false', decide_eq_true_eq, decide_eq_false_iff_not] at h) <;> conv => whnf))
  refine ACall.step (copyEntries_ret x.tA x.tc x.tr M hi.t (fun y hy => hd y (List.mem_append_left _ hy)) n1) fun v M1 hh => ?_
  obtain ⟨o1, A1, c1, p1, rfl, N1, e1⟩ := hh
  (first | (refine ⟨⟨[], rfl⟩, _, N1.le, PH.Le.refl _, ?_⟩; conv => whnf) | conv => whnf)
  refine ACall.step (copyEntries_ret x.kA x.kc x.kp M1 (hi.k.mono N1.le) (fun y hy => hd y (List.mem_append_right _ hy)) n2) fun v M2 hh => ?_
  obtain ⟨o2, A2, c2, p2, rfl, N2, e2⟩ := hh
  (first | (refine ⟨⟨[], rfl⟩, _, N2.le, PH.Le.refl _, ?_⟩; conv => whnf) | conv => whnf)
  exact ⟨_, PH.Le.refl _, ⟨x.b, x.g, o1, A1, c1, p1, o2, A2, c2, p2⟩, rfl, by unfold So.c StA.c; rw [e1, e2], newS_of N1 N2⟩
theorem l8Copy_ret (x : StA) (M : PH) (hi : x.inn M) (hco : x.c.cost ≤ 1048576) :
    XCall env 55 [.bp 0 0] [stBox x] M fun r b M' => (∃ s : So, r = s.val ∧ s.c = x.c ∧ NewS M M' s) ∧ b = [stBox x] := by
  obtain ⟨n1, n2, hd⟩ := st_split hco
  refine xcall_of_vc Tryz.func55 rfl _ Tryz.ntmps55 _ rfl (fun _ _ => Tryz.call55 _ _) rfl (fun w0 ρ0 => ?_)
  conv => whnf
  repeat' (first | (refine ⟨⟨[], rfl⟩, _, PH.Le.refl _, PH.Le.refl _, ?_⟩; conv => whnf) | (refine caseB_true ?_; conv => whnf) | (refine caseB_false ?_; conv => whnf) | ((with_reducible refine caseB_dec (fun h => ?_) (fun h => ?_)) <;> conv => whnf) | ((with_reducible refine caseB_ndec (fun h => ?_) (fun h => ?_)) <;> conv => whnf) | ((with_reducible refine caseB_not (fun h => ?_) (fun h => ?_)) <;> conv => whnf) | (refine draw_rule (.light 0 <| .light 1 <| .light 2 <| .light 3 <| .light 4 <| .light 5 <| .light 6 <| .light 7 <| .light 8 <| .light 9 <| .light 10 <| .light 11 <| .light 13 <| .light 14 <| .light 15 <| .light 16 <| .alt 12 false (.alt 17 false (.light 18 <| .alt 19 true (.done) .nil) .nil) .nil) (by decide +kernel) ?_; conv => whnf) | (with_reducible refine @And.intro (guardVC _ _ _ _ _) _ ?_ ?_) <;> conv => whnf | (refine caseB_intro (fun h => ?_) (fun h => ?_) <;> (try simp only [Bool.not_eq_true', Bool.not_eq_false', decide_eq_true_eq, decide_eq_false_iff_not] at h) <;> conv => whnf))
  refine ACall.step (l8Copies_ret x.tA x.tc x.tr M hi.t (fun y hy => hd y (List.mem_append_left _ hy)) n1) fun v M1 hh => ?_
  obtain ⟨o1, A1, c1, p1, rfl, N1, e1⟩ := hh
  (first | (refine ⟨⟨_, rfl⟩, _, N1.le, PH.Le.refl _, ?_⟩; conv => whnf) | conv => whnf)
  refine ACall.step (l8Copies_ret x.kA x.kc x.kp M1 (hi.k.mono N1.le) (fun y hy => hd y (List.mem_append_right _ hy)) n2) fun v M2 hh => ?_
  obtain ⟨o2, A2, c2, p2, rfl, N2, e2⟩ := hh
  (first | (refine ⟨⟨_, rfl⟩, _, N2.le, PH.Le.refl _, ?_⟩; conv => whnf) | conv => whnf)
  exact ⟨_, PH.Le.refl _, ⟨⟨x.b, x.g, o1, A1, c1, p1, o2, A2, c2, p2⟩, rfl, by unfold So.c StA.c; rw [e1, e2], newS_of N1 N2⟩, rfl⟩
abbrev srS (k : Int) (s : So) : Value := .agg #[I k, I s.b, I s.g, .slice s.A1 s.p1.length s.c1, .slice s.A2 s.p2.length s.c2]
theorem eqSRS_ret (k : Int) (s s' : So) (M : PH) (h : Dso M s) (h' : Dso M s') (e : s.c = s'.c) (hco : s.c.cost ≤ 1048576) : Ret 48 [srS k s, srS k s'] M (B true) := by
  have hq := eqStore_ret s.sta s'.sta M h.inn h'.inn (by rw [s.sta_c, s'.sta_c]; exact e) (by rw [s.sta_c]; exact hco)
  rw [s.sta_val, s'.sta_val] at hq
  refine xcall_of_vc Tryz.func48 rfl _ Tryz.ntmps48 _ rfl (fun _ _ => Tryz.call48 _ _) rfl (fun w0 ρ0 => ?_)
  conv => whnf
  refine caseB_ndec (fun h => absurd rfl h) (fun _ => ?_)
  conv => whnf
  refine Ret.go hq ?_
  conv => whnf
  refine caseB_false ?_
  conv => whnf
  exact ⟨_, PH.Le.refl _, rfl, rfl⟩
theorem markSRS_ret (k : Int) (s : So) (M : PH) (h : Dso M s) (hk : Mok 1 s) :
    ACall env 49 [srS k s, I 1] M fun r M' => ∃ s', r = I (posS 1 s) ∧ Mks 1 s s' ∧ Dso M' s' ∧ KeepsL (soL s) M M' := by
  refine xcall_of_vc Tryz.func49 rfl _ Tryz.ntmps49 _ rfl (fun _ _ => Tryz.call49 _ _) rfl (fun w0 ρ0 => ?_)
  conv => whnf
  refine ACall.step (markStore_ret s 1 M h hk) fun v M1 hh => ?_
  obtain ⟨s', rfl, h1, h2, h3⟩ := hh
  conv => whnf
  exact ⟨_, PH.Le.refl _, s', rfl, h1, h2, h3⟩
theorem heldSRS_ret (k : Int) (s s' : So) (M : PH) (h : Dso M s') (hk : Mok 1 s) (hm : Mks 1 s s') : Ret 50 [srS k s, I 1] M (I (posS 1 s)) := by
  have hps := posS_end hk
  refine xcall_of_vc Tryz.func50 rfl _ Tryz.ntmps50 _ rfl (fun _ _ => Tryz.call50 _ _) rfl (fun w0 ρ0 => ?_)
  conv => whnf
  refine Ret.go (heldStore_ret s s' 1 M h hk hm hm.a) ?_
  conv => whnf
  refine caseB_dec (fun h => ?_) (fun _ => ?_)
  · exfalso; have h : posS 1 s < 0 := h; omega
  conv => whnf
  exact ⟨_, PH.Le.refl _, rfl, rfl⟩
def zSo : So := ⟨0, 0, none, none, 0, [], none, none, 0, []⟩
def zSc : Sc := ⟨0, 0, [], []⟩
theorem zDw (M : PH) : Dw M none none 0 [] := (NewD.nil M M none (PH.Le.refl M)).d
theorem zSo_new (M : PH) : NewS M M zSo := ⟨⟨zDw M, zDw M, fun a ha b hb => by simp [dwL, zSo] at ha; subst ha; intro g e; cases e⟩, PH.Le.refl M, fun b hb g e => by simp [soL, dwL, zSo] at hb; subst hb; cases e⟩
def askS (s : Sc) (ok : Bool) : Sc := if ok then s else zSc
theorem l8Ask_ret (x : StA) (k : ByteArray) (M : PH) (hi : x.inn M) (hco : x.c.cost ≤ 1048576) :
    XCall env 114 [.bp 0 0, .v (Tx k)] [stBox x] M fun r b M' => (∃ s : So, r = .tuple #[s.val, I (swF x.c k)] ∧ s.c = (if swF x.c k = 0 then x.c else zSc) ∧ NewS M M' s) ∧ b = [stBox x] := by
  refine xcall_of_vc Tryz.func114 rfl _ Tryz.ntmps114 _ rfl (fun _ _ => Tryz.call114 _ _) rfl (fun w0 ρ0 => ?_)
  conv => whnf
  refine Ret.go (storeFault_spec x _ hi hco) ?_
  conv => whnf
  refine caseB_ndec (fun h => ?_) (fun h => ?_)
  · conv => whnf
    have e : swF x.c k = stFault x.c := by unfold swF; rw [if_pos h]
    exact ⟨_, PH.Le.refl _, ⟨zSo, by rw [e]; rfl, by rw [e, if_neg h]; rfl, zSo_new M⟩, rfl⟩
  conv => whnf
  refine XCall.lift (l8Peek_ret x k M hi hco) [0] ?_ (by simp) (by simp) (by simp [AV.plain]) ?_
  · simp [ren]
  rintro r bs' M1 ⟨⟨y, rfl, ey, hy⟩, rfl⟩
  refine ⟨by simp [AV.plain], ?_⟩
  cases hl : look x.c.all k with
  | none =>
    have e : swF x.c k = 4 := by unfold swF; rw [if_neg (by simpa using h), if_pos hl]
    conv => whnf
    refine caseB_true ?_
    conv => whnf
    exact ⟨M, hy.le, ⟨zSo, by rw [e]; rfl, by rw [e]; rfl, zSo_new M⟩, rfl⟩
  | some e0 =>
    have e : swF x.c k = 0 := by unfold swF; rw [if_neg (by simpa using h), if_neg (by rw [hl]; simp)]
    conv => whnf
    refine caseB_false ?_
    conv => whnf
    refine XCall.lift (l8Copy_ret x M1 (hi.mono hy.le) hco) [0] ?_ (by simp) (by simp) (by simp [AV.plain]) ?_
    · simp [ren]
    rintro r bs' M2 ⟨⟨s, rfl, es, hs⟩, rfl⟩
    refine ⟨by simp [AV.plain], ?_⟩
    conv => whnf
    exact ⟨_, PH.Le.refl _, ⟨s, by rw [e]; rfl, by rw [es, if_pos e], ⟨hs.d, hy.le.trans hs.le, hs.fr.le hy.le⟩⟩, rfl⟩
end Go.Proofs.YtgjaiabenjafeaaGreatDoor
