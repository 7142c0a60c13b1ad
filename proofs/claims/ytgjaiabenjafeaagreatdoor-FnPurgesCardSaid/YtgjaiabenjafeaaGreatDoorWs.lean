/-
  CONTRACTS AND THE LAW: an entry touched.
-/
import Derived.Test.YtgjaiabenjafeaaGreatDoorWu
namespace Go.Proofs.YtgjaiabenjafeaaGreatDoor
set_option maxRecDepth 100000
set_option linter.unusedSimpArgs false
set_option linter.unusedVariables false
open Go.Xe
def So.drop (s : So) (k : ByteArray) : So := ⟨s.b, s.g, s.o1, s.A1, s.c1, dropP s.p1 k, s.o2, s.A2, s.c2, dropP s.p2 k⟩
theorem So.drop_c (s : So) (k : ByteArray) : (s.drop k).c = dropS s.c k := by unfold So.drop So.c dropS; rw [dropP_c, dropP_c]
theorem drop_own (s : So) (k : ByteArray) (M : PH) (h : Dso M s) (hn1 : s.p1.length ≤ 1048576) (hn2 : s.p2.length ≤ 1048576) :
    XCall env 110 [.bp 0 0, .v (Tx k)] [soBox s] M fun r b M' => r = .tuple #[] ∧ b = [soBox (s.drop k)] ∧ Dso M' (s.drop k) ∧ KeepsL [s.o1, s.o2] M M' := by
  have d1 := deleteFunc_ret 9 (Tx k) 159 (fun y => seq y.1.c.key k) s.o1 s.A1 s.c1 s.p1 M h.t.row hn1 fun y _ M => drop1_ret k y.1 M
  refine xcall_of_vc Tryz.func110 rfl _ Tryz.ntmps110 _ rfl (fun _ _ => Tryz.call110 _ _) rfl (fun w0 ρ0 => ?_)
  conv => whnf
  repeat' (first | (refine ⟨⟨[], rfl⟩, _, PH.Le.refl _, bot_le _, ?_⟩; conv => whnf) | (refine ⟨⟨_, rfl⟩, _, PH.Le.refl _, bot_le _, ?_⟩; conv => whnf) | (refine caseB_true ?_; conv => whnf) | (refine caseB_false ?_; conv => whnf) | ((with_reducible refine caseB_dec (fun h => ?_) (fun h => ?_)) <;> conv => whnf) | ((with_reducible refine caseB_ndec (fun h => ?_) (fun h => ?_)) <;> conv => whnf) | ((with_reducible refine caseB_not (fun h => ?_) (fun h => ?_)) <;> conv => whnf) | (refine draw_ruleJ (none) (.light 0 <| .light 1 <| .light 2 <| .light 3 <| .light 4 <| .light 5 <| .light 6 <| .light 8 <| .light 9 <| .light 10 <| .light 11 <| .light 12 <| .alt 7 false (.alt 13 false (.light 14 <| .light 15 <| .alt 16 true (.light 17 <| .light 18 <| .alt 19 true (.done) .nil) .nil) .nil) .nil) (by decide +kernel) (bot_le _) ?_; conv => whnf) | (with_reducible refine @And.intro (guardVC _ _ _ _ _) _ ?_ ?_) <;> conv => whnf | (refine caseB_intro (fun h => ?_) (fun h => ?_) <;> (try simp only [Bool.not_eq_true', Bool.not_eq_false', decide_eq_true_eq, decide_eq_false_iff_not] at h) <;> conv => whnf))
  refine XCall.lift d1 [1] ?_ (by simp) (by simp) (by simp [AV.plain]) ?_
  · simp [ren]
  rintro r bs' M1 ⟨rfl, rfl, O1, K1⟩
  refine ⟨by simp [AV.plain], ?_⟩
  have D2 : Dw M1 s.o2 s.A2 s.c2 s.p2 := h.k.keepsL (Keeps.inL K1 (by simp : s.o1 ∈ [s.o1])) fun a ha b hb => by simp at hb; subst hb; exact (h.ap _ (by simp) a ha).symm
  have d2 := deleteFunc_ret 9 (Tx k) 159 (fun y => seq y.1.c.key k) s.o2 s.A2 s.c2 s.p2 M1 D2.row hn2 fun y _ M => drop1_ret k y.1 M
  (first | (refine ⟨⟨_, rfl⟩, _, PH.Le.refl _, bot_le _, ?_⟩; conv => whnf) | conv => whnf)
  refine XCall.lift d2 [1] ?_ (by simp) (by simp) (by simp [AV.plain]) ?_
  · simp [ren]
  rintro r bs' M2 ⟨rfl, rfl, O2, K2⟩
  refine ⟨by simp [AV.plain], ?_⟩
  (first | (refine ⟨⟨_, rfl⟩, _, PH.Le.refl _, bot_le _, ?_⟩; conv => whnf) | conv => whnf)
  have E1 : Dw M1 s.o1 s.A1 s.c1 (dropP s.p1 k) := Dw.fewer _ (fun j y hy => (h.t.ed j y hy).keeps K1 (sep_o h.t.sep hy)) h.t.sep O1 (.inl rfl)
  have E2 : Dw M2 s.o2 s.A2 s.c2 (dropP s.p2 k) := Dw.fewer _ (fun j y hy => (D2.ed j y hy).keeps K2 (sep_o D2.sep hy)) D2.sep O2 (.inl rfl)
  have E3 : Dw M2 s.o1 s.A1 s.c1 (dropP s.p1 k) := E1.keepsL (Keeps.inL K2 (by simp : s.o2 ∈ [s.o2])) fun a ha b hb => by simp at hb; subst hb; exact h.ap a (dwL_fewer _ a ha) _ (by simp)
  exact ⟨_, PH.Le.refl _, rfl, rfl, ⟨E3, E2, fun a ha b hb => h.ap a (dwL_fewer _ a ha) b (dwL_fewer _ b hb)⟩, (Keeps.inL K1 (by simp)).trans (Keeps.inL K2 (by simp))⟩
theorem NewS.mono {M0 M M' : PH} {s : So} (h : NewS M0 M s) (l : M.Le M') : NewS M0 M' s := ⟨h.d.mono l, h.le.trans l, h.fr⟩
theorem NewSY.mono {M0 M M' : PH} {s : So} {y : EP} (h : NewSY M0 M s y) (l : M.Le M') : NewSY M0 M' s y := ⟨h.n.mono l, h.ed.mono l, h.fr, h.ap, h.sep⟩
/-- What the kept cost is within what is counted. -/
theorem shed_end {g : Int} (h0 : 0 ≤ g) {kp : List En} (h : g < (eCosts kp : Int)) : kp ≠ [] := fun e => by
  subst e
  have : eCosts [] = 0 := rfl
  rw [this] at h
  omega
theorem snoc_of {α : Type} {l : List α} (h : l ≠ []) : ∃ q y, l = q ++ [y] := ⟨l.dropLast, l.getLast h, (List.dropLast_concat_getLast h).symm⟩
theorem so_costs {s : So} (hco : s.c.cost ≤ 1048576) : (∀ x ∈ s.p1.map (·.1), x.c.cost ≤ 1048576) ∧ (∀ x ∈ s.p2.map (·.1), x.c.cost ≤ 1048576) := by
  have h : costL En.cost (s.p1.map (·.1.c)) + costL En.cost (s.p2.map (·.1.c)) ≤ 1048576 := hco
  constructor
  · intro x hx
    obtain ⟨p, hp, rfl⟩ := List.mem_map.1 hx
    have := costL_le (f := En.cost) (List.mem_map.2 ⟨p, hp, rfl⟩ : p.1.c ∈ s.p1.map (·.1.c))
    omega
  · intro x hx
    obtain ⟨p, hp, rfl⟩ := List.mem_map.1 hx
    have := costL_le (f := En.cost) (List.mem_map.2 ⟨p, hp, rfl⟩ : p.1.c ∈ s.p2.map (·.1.c))
    omega
theorem costOf_row {M : PH} {o : Option Nat} {A : Option Addr} {c : Nat} {ps : List EP} (h : Dw M o A c ps) (hc : ∀ x ∈ ps.map (·.1), x.c.cost ≤ 1048576) (hn : ps.length ≤ 1048576) : Ret 96 [.slice A ps.length c] M (I (eCosts (ps.map (·.1.c)))) := by
  have := costOf_ret A c (ps.map (·.1)) M h.ens hc (by rw [List.length_map]; omega)
  rw [List.length_map, conts_ep] at this
  exact this
theorem l8Costs_row {M : PH} {o : Option Nat} {A : Option Addr} {c : Nat} {ps : List EP} (h : Dw M o A c ps) (hc : ∀ x ∈ ps.map (·.1), x.c.cost ≤ 1048576) (hn : ps.length ≤ 1048576) : Ret 103 [.slice A ps.length c] M (I (eCosts (ps.map (·.1.c)))) := by
  have := l8Costs_ret A c (ps.map (·.1)) M h.ens hc (by rw [List.length_map]; omega)
  rw [List.length_map, conts_ep] at this
  exact this
abbrev enBox (y : EP) : Box := ⟨44, (EP.cs y).map .v⟩
theorem touch_ret (s : So) (k : ByteArray) (M0 M : PH) (h : NewS M0 M s) (hco : s.c.cost ≤ 1048576) (hgd : 0 ≤ s.g) (hf : (look s.c.all k).isSome = true) :
    XCall env 112 [.bp 0 0, .v (Tx k)] [soBox s] M fun r b M' => r = .tuple #[] ∧ ∃ s', b = [soBox s'] ∧ s'.c = touchS s.c k ∧ NewS M0 M' s' := by
  obtain ⟨hn1, hn2⟩ := so_len hco
  have hfi := find_ret s.sta k M h.d.inn (by show (s.p1.map (·.1)).length ≤ _; rw [List.length_map]; exact hn1) (by show (s.p2.map (·.1)).length ≤ _; rw [List.length_map]; exact hn2)
  rw [soBox_eq] at hfi
  obtain ⟨a, y, hy, ha, hl, hc⟩ : ∃ a, ∃ y ∈ s.p1 ++ s.p2, findP s.sta k = some a ∧ look s.c.all k = some y.1.c ∧ M.cells (some a) 0 (EP.cs y) := by
    rcases findP_cases (x := s.sta) k h.d.inn with ⟨_, e⟩ | ⟨a, z, hz, e1, e2, e3⟩
    · rw [s.sta_c] at e
      rw [e] at hf; cases hf
    · have hz : z ∈ s.p1.map (·.1) ++ s.p2.map (·.1) := hz
      rw [← List.map_append] at hz
      obtain ⟨y, hy, rfl⟩ := List.mem_map.1 hz
      rw [s.sta_c] at e2
      exact ⟨a, y, hy, e1, e2, e3⟩
  have hke : seq y.1.c.key k = true := by
    have := List.find?_some hl
    exact this
  refine xcall_of_vc Tryz.func112 rfl _ Tryz.ntmps112 _ rfl (fun _ _ => Tryz.call112 _ _) rfl (fun w0 ρ0 => ?_)
  conv => whnf
  refine XCall.lift hfi [0] ?_ (by simp) (by simp) (by simp [AV.plain]) ?_
  · simp [ren]
  rintro r bs' M1 ⟨rfl, rfl, rfl⟩
  refine ⟨by simp [AV.plain], ?_⟩
  rw [ha]
  conv => whnf
  refine ⟨_, hc, rfl, ?_⟩
  conv => whnf
  refine XCall.lift (drop_own s k M1 h.d hn1 hn2) [0] ?_ (by simp) (by simp) (by simp [AV.plain]) ?_
  · simp [ren]
  rintro r bs' M2 ⟨rfl, rfl, hD, hK⟩
  refine ⟨by simp [AV.plain], ?_⟩
  have hL := h.loose (s' := s.drop k) hy hke rfl rfl rfl rfl hD hK
  conv => whnf
  repeat' (first | (refine ⟨⟨[], rfl⟩, _, PH.Le.refl _, bot_le _, ?_⟩; conv => whnf) | (refine ⟨⟨_, rfl⟩, _, PH.Le.refl _, bot_le _, ?_⟩; conv => whnf) | (refine caseB_true ?_; conv => whnf) | (refine caseB_false ?_; conv => whnf) | ((with_reducible refine caseB_dec (fun h => ?_) (fun h => ?_)) <;> conv => whnf) | ((with_reducible refine caseB_ndec (fun h => ?_) (fun h => ?_)) <;> conv => whnf) | ((with_reducible refine caseB_not (fun h => ?_) (fun h => ?_)) <;> conv => whnf) | (refine draw_ruleJ (none) (.light 0 <| .light 1 <| .light 2 <| .light 3 <| .light 4 <| .light 5 <| .alt 6 false (.alt 7 false (.light 8 <| .light 9 <| .alt 10 true (.done) .nil) .nil) .nil) (by decide +kernel) (bot_le _) ?_; conv => whnf) | (refine draw_ruleJ (none) (.light 0 <| .light 1 <| .light 2 <| .light 3 <| .light 5 <| .light 6 <| .light 7 <| .light 8 <| .alt 4 false (.light 9 <| .done) .nil) (by decide +kernel) (bot_le _) ?_; conv => whnf) | (refine draw_ruleJ (none) (.light 0 <| .light 1 <| .light 2 <| .light 3 <| .light 4 <| .light 5 <| .light 6 <| .light 7 <| .light 8 <| .light 9 <| .light 10 <| .light 11 <| .alt 12 false (.alt 13 false (.light 14 <| .light 15 <| .alt 16 true (.done) .nil) .nil) .nil) (by decide +kernel) (bot_le _) ?_; conv => whnf) | (with_reducible refine @And.intro (guardVC _ _ _ _ _) _ ?_ ?_) <;> conv => whnf | (refine caseB_intro (fun h => ?_) (fun h => ?_) <;> (try simp only [Bool.not_eq_true', Bool.not_eq_false', decide_eq_true_eq, decide_eq_false_iff_not] at h) <;> conv => whnf))
  intro g hg
  have l1 := PH.Le.set (.cells (EP.cs y).toArray 44 (0, 0)) hg
  refine ⟨⟨_, rfl⟩, _, PH.Le.refl _, bot_le _, ?_⟩
  conv => whnf
  have hne : (s.drop k).o2 ≠ some g := fun e => by
    obtain ⟨ob, ho⟩ := hL.n.d.k.row.known g e
    rw [hg] at ho; cases ho
  have hcd : (s.drop k).c.cost + costL En.cost [y.1.c] ≤ 1048576 := by
    have e := look_cost hl
    unfold Sc.all at e
    rw [dropK_app, costL_cons, costL_append, costL_append] at e
    rw [So.drop_c]
    unfold Sc.cost at hco ⊢
    unfold dropS
    simp only
    omega
  have hnd : (s.drop k).p1.length ≤ 1048576 ∧ (s.drop k).p2.length ≤ 1048576 := so_len (by omega)
  have hL := hL.mono l1
  refine ACall.step (insert_ret (s.drop k).o2 (s.drop k).A2 (s.drop k).c2 (s.drop k).p2 y g _ hL.n.d.k.row (PH.set_same _ _ _) hne hnd.2) fun v M3 hh => ?_
  obtain ⟨o3, A3, c3, rfl, hO, hK3, hF⟩ := hh
  refine ⟨⟨_, rfl⟩, _, PH.Le.refl _, bot_le _, ?_⟩
  conv => whnf
  have hN := hL.kept hO hK3 hF
  have hdc := s.drop_c k
  have hpk : pkE s.c k = y.1.c := by unfold pkE; rw [hl]; rfl
  clear hL hK3 hF hO hD hK l1 hfi hc
  refine loop_rule (fun z : So => ⟨slots 65 [(0, .bp 0 0)], [soBox z, enBox y]⟩)
    (fun z M' => NewS M0 M' z ∧ z.b = s.b ∧ z.g = s.g ∧ z.c.cost ≤ 1048576 ∧ (∃ r, shed s.g z.p2.length (z.p1.map (·.1.c)) (z.p2.map (·.1.c)) = r ∧ touchS s.c k = ⟨s.b, s.g, r.1, r.2⟩)) (fun z => z.p2.length) ((s.drop k).kept o3 A3 c3 (y :: (s.drop k).p2)) ?_ ?_ ?_
  · exact ⟨by simp [slots, leT], ⟨[], rfl⟩, (by show 1 ≤ 2; omega), rfl, rfl⟩
  · refine ⟨hN, rfl, rfl, ?_, _, rfl, ?_⟩
    · show costL En.cost ((s.drop k).p1.map (·.1.c)) + costL En.cost ((y :: (s.drop k).p2).map (·.1.c)) ≤ _
      rw [List.map_cons, costL_cons]
      unfold Sc.cost So.c at hcd
      simp only at hcd
      omega
    · show touchS s.c k = _
      unfold touchS
      rw [hpk]
      have e3 := dropP_c s.p1 k
      have e4 := dropP_c s.p2 k
      simp only [So.drop, So.c, List.map_cons, List.length_cons, ← e3, ← e4, List.length_map]
  rintro z M4 ⟨hz, hzb, hzg, hzc, r, hr, ht⟩
  obtain ⟨hz1, hz2⟩ := so_len hzc
  have hcr := costOf_row hz.d.k (so_costs hzc).2 hz2
  conv => whnf
  repeat' (first | (refine ⟨⟨[], rfl⟩, _, PH.Le.refl _, bot_le _, ?_⟩; conv => whnf) | (refine ⟨⟨_, rfl⟩, _, PH.Le.refl _, bot_le _, ?_⟩; conv => whnf) | (refine ⟨⟨_, rfl⟩, _, PH.Le.refl _, rmO_le M4 z.o1, ?_⟩; conv => whnf) | (refine caseB_true ?_; conv => whnf) | (refine caseB_false ?_; conv => whnf) | ((with_reducible refine caseB_dec (fun h => ?_) (fun h => ?_)) <;> conv => whnf) | ((with_reducible refine caseB_ndec (fun h => ?_) (fun h => ?_)) <;> conv => whnf) | ((with_reducible refine caseB_not (fun h => ?_) (fun h => ?_)) <;> conv => whnf) | (refine Ret.go (costOf_row hz.d.k (so_costs hzc).2 hz2) ?_; conv => whnf) | (refine draw_ruleJ (none) (.light 0 <| .light 1 <| .light 2 <| .light 3 <| .light 4 <| .light 5 <| .alt 6 false (.alt 7 false (.light 8 <| .light 9 <| .alt 10 true (.done) .nil) .nil) .nil) (by decide +kernel) (rmO_le M4 z.o1) ?_; conv => whnf) | (refine draw_ruleJ (none) (.light 0 <| .light 1 <| .light 2 <| .light 3 <| .light 5 <| .light 6 <| .light 7 <| .light 8 <| .alt 4 false (.light 9 <| .done) .nil) (by decide +kernel) (rmO_le M4 z.o1) ?_; conv => whnf) | (refine draw_ruleJ (none) (.light 0 <| .light 1 <| .light 2 <| .light 3 <| .light 4 <| .light 5 <| .light 6 <| .light 7 <| .light 8 <| .light 9 <| .light 10 <| .light 11 <| .alt 12 false (.alt 13 false (.light 14 <| .light 15 <| .alt 16 true (.done) .nil) .nil) .nil) (by decide +kernel) (rmO_le M4 z.o1) ?_; conv => whnf) | (with_reducible refine @And.intro (guardVC _ _ _ _ _) _ ?_ ?_) <;> conv => whnf | (refine caseB_intro (fun h => ?_) (fun h => ?_) <;> (try simp only [Bool.not_eq_true', Bool.not_eq_false', decide_eq_true_eq, decide_eq_false_iff_not] at h) <;> conv => whnf))
  · have h1 : z.g < (eCosts (z.p2.map (·.1.c)) : Int) := h
    rw [hzg] at h1
    obtain ⟨q, x, e⟩ := snoc_of (fun e0 => shed_end hgd h1 (by rw [e0]; rfl) : z.p2 ≠ [])
    have hlen : z.p2.length = q.length + 1 := by rw [e]; simp
    have hw : IntKind.i64.wrap ((z.p2.length : Int) - 1) = (q.length : Int) := by rw [wrap_id (by omega) (by omega)]; omega
    have hxq : z.p2[q.length]? = some x := by rw [e]; simp
    have hA := (hz.d.k.row.sl EP.len).ne (fun e0 => by rw [e0] at hlen; simp at hlen)
    have hF : Dw (rmO M4 z.o1) z.o2 z.A2 z.c2 z.p2 := hz.d.k.keepsL (rmO_keeps M4 z.o1) fun a ha b hb => by simp at hb; subst hb; exact (hz.d.ap _ List.mem_cons_self a ha).symm
    have hcx := ((hF.row.sl EP.len).at_ q.length x hxq).2
    rw [hw]
    refine ⟨by omega, by omega, hA, ?_⟩
    conv => whnf
    repeat' (first | (refine ⟨⟨[], rfl⟩, _, PH.Le.refl _, bot_le _, ?_⟩; conv => whnf) | (refine ⟨⟨_, rfl⟩, _, PH.Le.refl _, bot_le _, ?_⟩; conv => whnf) | (refine ⟨⟨_, rfl⟩, _, PH.Le.refl _, rmO_le M4 z.o1, ?_⟩; conv => whnf) | (refine caseB_true ?_; conv => whnf) | (refine caseB_false ?_; conv => whnf) | ((with_reducible refine caseB_dec (fun h => ?_) (fun h => ?_)) <;> conv => whnf) | ((with_reducible refine caseB_ndec (fun h => ?_) (fun h => ?_)) <;> conv => whnf) | ((with_reducible refine caseB_not (fun h => ?_) (fun h => ?_)) <;> conv => whnf) | (refine draw_ruleJ (none) (.light 0 <| .light 1 <| .light 2 <| .light 3 <| .light 4 <| .light 5 <| .alt 6 false (.alt 7 false (.light 8 <| .light 9 <| .alt 10 true (.done) .nil) .nil) .nil) (by decide +kernel) (rmO_le M4 z.o1) ?_; conv => whnf) | (refine draw_ruleJ (none) (.light 0 <| .light 1 <| .light 2 <| .light 3 <| .light 5 <| .light 6 <| .light 7 <| .light 8 <| .alt 4 false (.light 9 <| .done) .nil) (by decide +kernel) (rmO_le M4 z.o1) ?_; conv => whnf) | (refine draw_ruleJ (none) (.light 0 <| .light 1 <| .light 2 <| .light 3 <| .light 4 <| .light 5 <| .light 6 <| .light 7 <| .light 8 <| .light 9 <| .light 10 <| .light 11 <| .alt 12 false (.alt 13 false (.light 14 <| .light 15 <| .alt 16 true (.done) .nil) .nil) .nil) (by decide +kernel) (rmO_le M4 z.o1) ?_; conv => whnf) | (with_reducible refine @And.intro (guardVC _ _ _ _ _) _ ?_ ?_) <;> conv => whnf | (refine caseB_intro (fun h => ?_) (fun h => ?_) <;> (try simp only [Bool.not_eq_true', Bool.not_eq_false', decide_eq_true_eq, decide_eq_false_iff_not] at h) <;> conv => whnf))
    refine ⟨EP.cs x, by rw [Int.toNat_natCast]; exact hcx, rfl, ?_⟩
    conv => whnf
    intro g2 hg2
    have l2 := PH.Le.set (.cells (EP.cs x).toArray 44 (0, 0)) hg2
    refine ⟨⟨_, rfl⟩, _, PH.Le.refl _, (rmO_le M4 z.o1).trans l2, ?_⟩
    conv => whnf
    have hne2 : z.o1 ≠ some g2 := fun e => by
      obtain ⟨ob, ho⟩ := hz.d.t.row.known g2 e
      rw [hg2] at ho; cases ho
    have hX := (hz.last e).mono l2
    refine ACall.step (insert_ret z.o1 z.A1 z.c1 z.p1 x g2 _ hX.n.d.t.row (PH.set_same _ _ _) hne2 hz1) fun v M5 hh => ?_
    obtain ⟨o5, A5, c5, rfl, hO5, hK5, hF5⟩ := hh
    have hX2 := hX.trial hO5 hK5 hF5
    have l5 : (rmO M4 z.o1).Le M5 := fun k ob hk => hK5 k ob (l2 k ob (rmO_le M4 z.o1 k ob hk)) fun e => by
      have := rmO_none M4 e
      rw [this] at hk; cases hk
    refine ⟨⟨_, rfl⟩, _, PH.Le.refl _, l5, ?_⟩
    conv => whnf
    have hcap := hz.d.k.row.le
    refine ⟨⟨by omega, by omega, by omega⟩, ?_⟩
    conv => whnf
    refine ⟨(z.kept z.o2 z.A2 z.c2 q).trial o5 A5 c5 (x :: z.p1), ⟨by simp [slots, leT], ⟨[], ?_⟩, (by show 1 ≤ 2; omega), rfl, rfl⟩, ⟨hX2, hzb, hzg, ?_, r, ?_, ht⟩, by show q.length < z.p2.length; omega⟩
    · rw [show subA z.A2 (Int.toNat 0) ti44.size z.c2 = z.A2 from subA0 _ 13 _]
      rfl
    · have e1 : costL En.cost (z.p1.map (·.1.c)) + costL En.cost (z.p2.map (·.1.c)) ≤ 1048576 := hzc
      rw [e, List.map_append, costL_append] at e1
      show costL En.cost ((x :: z.p1).map (·.1.c)) + costL En.cost (q.map (·.1.c)) ≤ _
      rw [List.map_cons, costL_cons]
      have e2 : costL En.cost (List.map (fun p : EP => p.1.c) [x]) = costL En.cost [x.1.c] := rfl
      omega
    · rw [← hr, hlen, e, List.map_append]
      rw [e, List.map_append] at h1
      exact (shed_yes h1 _).symm
  · have h1 : ¬ z.g < (eCosts (z.p2.map (·.1.c)) : Int) := h
    rw [hzg] at h1
    rw [shed_no h1] at hr
    refine ⟨_, PH.Le.refl _, rfl, z, rfl, ?_, hz⟩
    rw [ht, ← hr]
    unfold So.c
    rw [hzb, hzg]
theorem l8Touch_ret (s : So) (k : ByteArray) (M0 M : PH) (h : NewS M0 M s) (hco : s.c.cost ≤ 1048576) (hgd : 0 ≤ s.g) (hf : (look s.c.all k).isSome = true) :
    XCall env 115 [.bp 0 0, .v (Tx k)] [soBox s] M fun r b M' => r = .tuple #[] ∧ ∃ s', b = [soBox s'] ∧ s'.c = touchS s.c k ∧ NewS M0 M' s' := by
  obtain ⟨hn1, hn2⟩ := so_len hco
  have hpk := l8Peek_ret s.sta k M h.d.inn (by rw [s.sta_c]; exact hco)
  rw [soBox_eq, s.sta_c] at hpk
  obtain ⟨e0, hl⟩ := Option.isSome_iff_exists.1 hf
  refine xcall_of_vc Tryz.func115 rfl _ Tryz.ntmps115 _ rfl (fun _ _ => Tryz.call115 _ _) rfl (fun w0 ρ0 => ?_)
  conv => whnf
  refine XCall.lift hpk [0] ?_ (by simp) (by simp) (by simp [AV.plain]) ?_
  · simp [ren]
  rintro r bs' M1 ⟨⟨y, rfl, ey, hy⟩, rfl⟩
  refine ⟨by simp [AV.plain], ?_⟩
  conv => whnf
  have h1 := h.mono hy.le
  refine XCall.lift (l8Drop_ret s k M1 h1.d hn1 hn2) [0] ?_ (by simp) (by simp) (by simp [AV.plain]) ?_
  · simp [ren]
  rintro r bs' M2 ⟨rfl, s1, rfl, es, hD, hl2, hfr⟩
  refine ⟨by simp [AV.plain], ?_⟩
  conv => whnf
  have hL : NewSY M0 M2 s1 y := ⟨⟨hD, (h.le.trans hy.le).trans hl2, fun b hb g e => (hfr b hb).elim (fun hb => h.fr b hb g e) (fun hb => none_of_le (h.le.trans hy.le) (hb g e))⟩, hy.ed.mono hl2, hy.fr.le h.le, hy.ap, fun a ha b hb => (hfr a ha).elim (fun ha => apart_of h.d.kn hy.fr a ha b hb) (fun hn => (apart_of hy.ed.kn (L' := [a]) (fun c hc g e => by simp at hc; subst hc; exact hn g e) b hb a (by simp)).symm)⟩
  have hpe : pkE s.c k = y.1.c := ey.symm
  have hdc : s1.c = dropS s.c k := es
  have hcd : s1.c.cost + costL En.cost [y.1.c] ≤ 1048576 := by
    have e := look_cost hl
    unfold Sc.all at e
    rw [dropK_app, costL_cons, costL_append, costL_append] at e
    have e1 : y.1.c = e0 := by rw [ey]; unfold pkE; rw [hl]; rfl
    rw [hdc, e1]
    unfold Sc.cost at hco ⊢
    unfold dropS
    simp only
    omega
  have hb : s1.b = s.b ∧ s1.g = s.g := ⟨congrArg Sc.bud hdc, congrArg Sc.gd hdc⟩
  obtain ⟨hnd1, hnd2⟩ : s1.p1.length ≤ 1048576 ∧ s1.p2.length ≤ 1048576 := so_len (by omega)
  clear hpk hD hfr
  repeat' (first | (refine ⟨⟨[], rfl⟩, _, PH.Le.refl _, bot_le _, ?_⟩; conv => whnf) | (refine ⟨⟨_, rfl⟩, _, PH.Le.refl _, bot_le _, ?_⟩; conv => whnf) | (refine caseB_true ?_; conv => whnf) | (refine caseB_false ?_; conv => whnf) | ((with_reducible refine caseB_dec (fun h => ?_) (fun h => ?_)) <;> conv => whnf) | ((with_reducible refine caseB_ndec (fun h => ?_) (fun h => ?_)) <;> conv => whnf) | ((with_reducible refine caseB_not (fun h => ?_) (fun h => ?_)) <;> conv => whnf) | (refine draw_ruleJ (none) (.light 0 <| .light 1 <| .light 3 <| .light 4 <| .light 5 <| .light 6 <| .alt 2 false (.alt 7 false (.light 8 <| .light 9 <| .alt 10 true (.done) .nil) .nil) .nil) (by decide +kernel) (bot_le _) ?_; conv => whnf) | (refine draw_ruleJ (none) (.light 0 <| .light 1 <| .light 2 <| .light 3 <| .light 5 <| .light 6 <| .light 7 <| .light 8 <| .alt 4 false (.light 9 <| .done) .nil) (by decide +kernel) (bot_le _) ?_; conv => whnf) | (refine draw_ruleJ (none) (.light 0 <| .light 1 <| .light 2 <| .light 3 <| .light 4 <| .light 5 <| .light 6 <| .light 7 <| .light 9 <| .light 10 <| .light 11 <| .light 12 <| .alt 8 false (.alt 13 false (.light 14 <| .light 15 <| .alt 16 true (.done) .nil) .nil) .nil) (by decide +kernel) (bot_le _) ?_; conv => whnf) | (with_reducible refine @And.intro (guardVC _ _ _ _ _) _ ?_ ?_) <;> conv => whnf | (refine caseB_intro (fun h => ?_) (fun h => ?_) <;> (try simp only [Bool.not_eq_true', Bool.not_eq_false', decide_eq_true_eq, decide_eq_false_iff_not] at h) <;> conv => whnf))
  intro g hg
  have l1 := PH.Le.set (.cells (EP.cs y).toArray 44 (0, 0)) hg
  refine ⟨⟨_, rfl⟩, _, PH.Le.refl _, bot_le _, ?_⟩
  conv => whnf
  have O1 : Ow (M2.set g (.cells (EP.cs y).toArray 44 (0, 0))) (some g) (some ⟨g, 0, none⟩) 1 13 EP.cs [y] := by
    have := Ow.new EP.len M2 g [y] 44
    simpa using this
  refine app_sl (te := ti44) (f := EP.cs) (xs := [y]) (ys := s1.p2) (o := some g) ((hL.n.d.k.row.mono l1).sl EP.len) O1 EP.len EP.one rfl (en_fits _ _ (by show 1 + _ ≤ _; omega)) (by show 1 + _ ≤ _; omega) fun o3 A3 c3 M3 hO hK3 hF => ?_
  refine ⟨⟨_, rfl⟩, _, PH.Le.refl _, bot_le _, ?_⟩
  conv => whnf
  have l3 : M2.Le M3 := hK3.over l1 (fun k e => by cases e; exact hg)
  have hN := hL.kept hO l3.keeps (.inr (by
    rcases hF with e | ⟨g', e, e2⟩
    · exact ⟨g, e, hg⟩
    · exact ⟨g', e, none_of_le l1 e2⟩))
  clear hL hK3 hF hO O1 l1 l3
  refine loop_rule (fun z : So => ⟨slots 67 [(0, .bp 0 0)], [soBox z, enBox y]⟩)
    (fun z M' => NewS M0 M' z ∧ z.b = s.b ∧ z.g = s.g ∧ z.c.cost ≤ 1048576 ∧ (∃ r, shed s.g z.p2.length (z.p1.map (·.1.c)) (z.p2.map (·.1.c)) = r ∧ touchS s.c k = ⟨s.b, s.g, r.1, r.2⟩)) (fun z => z.p2.length) (s1.kept o3 A3 c3 (y :: s1.p2)) ?_ ?_ ?_
  · exact ⟨by simp [slots, leT], ⟨[], rfl⟩, (by show 1 ≤ 2; omega), rfl, rfl⟩
  · refine ⟨hN, hb.1, hb.2, ?_, _, rfl, ?_⟩
    · show costL En.cost (s1.p1.map (·.1.c)) + costL En.cost ((y :: s1.p2).map (·.1.c)) ≤ _
      rw [List.map_cons, costL_cons]
      unfold Sc.cost So.c at hcd
      simp only at hcd
      omega
    · show touchS s.c k = _
      unfold touchS
      rw [hpe]
      have e3 : s1.p1.map (·.1.c) = dropK s.c.tr k := congrArg Sc.tr hdc
      have e4 : s1.p2.map (·.1.c) = dropK s.c.kp k := congrArg Sc.kp hdc
      simp only [List.map_cons, List.length_cons, ← e3, ← e4, List.length_map]
      rfl
  rintro z M4 ⟨hz, hzb, hzg, hzc, r, hr, ht⟩
  obtain ⟨hz1, hz2⟩ := so_len hzc
  conv => whnf
  repeat' (first | (refine ⟨⟨[], rfl⟩, _, PH.Le.refl _, PH.Le.refl _, ?_⟩; conv => whnf) | (refine caseB_true ?_; conv => whnf) | (refine caseB_false ?_; conv => whnf) | ((with_reducible refine caseB_dec (fun h => ?_) (fun h => ?_)) <;> conv => whnf) | ((with_reducible refine caseB_ndec (fun h => ?_) (fun h => ?_)) <;> conv => whnf) | ((with_reducible refine caseB_not (fun h => ?_) (fun h => ?_)) <;> conv => whnf) | (refine Ret.go (l8Costs_row hz.d.k (so_costs hzc).2 hz2) ?_; conv => whnf) | (refine draw_rule (.light 0 <| .light 1 <| .light 3 <| .light 4 <| .light 5 <| .light 6 <| .alt 2 false (.alt 7 false (.light 8 <| .light 9 <| .alt 10 true (.done) .nil) .nil) .nil) (by decide +kernel) ?_; conv => whnf) | (refine draw_rule (.light 0 <| .light 1 <| .light 2 <| .light 3 <| .light 5 <| .light 6 <| .light 7 <| .light 8 <| .alt 4 false (.light 9 <| .done) .nil) (by decide +kernel) ?_; conv => whnf) | (refine draw_rule (.light 0 <| .light 1 <| .light 2 <| .light 3 <| .light 4 <| .light 5 <| .light 6 <| .light 7 <| .light 9 <| .light 10 <| .light 11 <| .light 12 <| .alt 8 false (.alt 13 false (.light 14 <| .light 15 <| .alt 16 true (.done) .nil) .nil) .nil) (by decide +kernel) ?_; conv => whnf) | (with_reducible refine @And.intro (guardVC _ _ _ _ _) _ ?_ ?_) <;> conv => whnf | (refine caseB_intro (fun h => ?_) (fun h => ?_) <;> (try simp only [Bool.not_eq_true', Bool.not_eq_false', decide_eq_true_eq, decide_eq_false_iff_not] at h) <;> conv => whnf))
  · have h1 : z.g < (eCosts (z.p2.map (·.1.c)) : Int) := h
    rw [hzg] at h1
    obtain ⟨q, x, e⟩ := snoc_of (fun e0 => shed_end hgd h1 (by rw [e0]; rfl) : z.p2 ≠ [])
    have hlen : z.p2.length = q.length + 1 := by rw [e]; simp
    have hw : IntKind.i64.wrap ((z.p2.length : Int) - 1) = (q.length : Int) := by rw [wrap_id (by omega) (by omega)]; omega
    have hxq : z.p2[q.length]? = some x := by rw [e]; simp
    have hA := (hz.d.k.row.sl EP.len).ne (fun e0 => by rw [e0] at hlen; simp at hlen)
    have hcx := ((hz.d.k.row.sl EP.len).at_ q.length x hxq).2
    rw [hw]
    refine ⟨by omega, by omega, hA, ?_⟩
    conv => whnf
    refine ⟨EP.cs x, by rw [Int.toNat_natCast]; exact hcx, rfl, ?_⟩
    conv => whnf
    intro g2 hg2
    have l2 := PH.Le.set (.cells (EP.cs x).toArray 44 (0, 0)) hg2
    refine ⟨⟨_, rfl⟩, _, PH.Le.refl _, l2, ?_⟩
    conv => whnf
    have O2 : Ow (M4.set g2 (.cells (EP.cs x).toArray 44 (0, 0))) (some g2) (some ⟨g2, 0, none⟩) 1 13 EP.cs [x] := by
      have := Ow.new EP.len M4 g2 [x] 44
      simpa using this
    have hX := hz.last e
    refine app_sl (te := ti44) (f := EP.cs) (xs := [x]) (ys := z.p1) (o := some g2) ((hz.d.t.row.mono l2).sl EP.len) O2 EP.len EP.one rfl (en_fits _ _ (by show 1 + _ ≤ _; omega)) (by show 1 + _ ≤ _; omega) fun o5 A5 c5 M5 hO5 hK5 hF5 => ?_
    have l5 : M4.Le M5 := hK5.over l2 (fun k e => by cases e; exact hg2)
    have hX2 := hX.trial hO5 l5.keeps (.inr (by
      rcases hF5 with e | ⟨g', e, e2⟩
      · exact ⟨g2, e, hg2⟩
      · exact ⟨g', e, none_of_le l2 e2⟩))
    refine ⟨⟨_, rfl⟩, _, PH.Le.refl _, l5, ?_⟩
    conv => whnf
    have hcap := hz.d.k.row.le
    refine ⟨⟨by omega, by omega, by omega⟩, ?_⟩
    conv => whnf
    refine ⟨(z.kept z.o2 z.A2 z.c2 q).trial o5 A5 c5 (x :: z.p1), ⟨by simp [slots, leT], ⟨[], ?_⟩, (by show 1 ≤ 2; omega), rfl, rfl⟩, ⟨hX2, hzb, hzg, ?_, r, ?_, ht⟩, by show q.length < z.p2.length; omega⟩
    · rw [show subA z.A2 (Int.toNat 0) ti44.size z.c2 = z.A2 from subA0 _ 13 _]
      rfl
    · have e1 : costL En.cost (z.p1.map (·.1.c)) + costL En.cost (z.p2.map (·.1.c)) ≤ 1048576 := hzc
      rw [e, List.map_append, costL_append] at e1
      show costL En.cost ((x :: z.p1).map (·.1.c)) + costL En.cost (q.map (·.1.c)) ≤ _
      rw [List.map_cons, costL_cons]
      have e2 : costL En.cost (List.map (fun p : EP => p.1.c) [x]) = costL En.cost [x.1.c] := rfl
      omega
    · rw [← hr, hlen, e, List.map_append]
      rw [e, List.map_append] at h1
      exact (shed_yes h1 _).symm
  · have h1 : ¬ z.g < (eCosts (z.p2.map (·.1.c)) : Int) := h
    rw [hzg] at h1
    rw [shed_no h1] at hr
    refine ⟨_, PH.Le.refl _, rfl, z, rfl, ?_, hz⟩
    rw [ht, ← hr]
    unfold So.c
    rw [hzb, hzg]
theorem guard_of {s : Sc} (h : stFault s = 0) : 0 ≤ s.gd ∧ s.gd ≤ s.bud ∧ 0 ≤ s.bud ∧ s.bud ≤ 1000000 := by
  unfold stFault at h
  split at h
  · cases h
  split at h
  · cases h
  rename_i h1 h2
  simp [inB] at h1 h2
  omega
theorem touchEntry_spec (x : StA) (k : ByteArray) (M : PH) (hi : x.inn M) (hco : x.c.cost ≤ 1048576) :
    ACall env 46 [x.val, Tx k] M fun r M' => ∃ s : So, r = srS (swF x.c k) s ∧ s.c = touchR x.c k ∧ NewS M M' s := by
  refine xcall_of_vc Tryz.func46 rfl _ Tryz.ntmps46 _ rfl (fun _ _ => Tryz.call46 _ _) rfl (fun w0 ρ0 => ?_)
  conv => whnf
  refine XCall.lift (l8Ask_ret x k M hi hco) [0] ?_ (by simp) (by simp) (by simp [AV.plain]) ?_
  · simp [ren]
  rintro r bs' M1 ⟨⟨s, rfl, es, hs⟩, rfl⟩
  refine ⟨by simp [AV.plain], ?_⟩
  conv => whnf
  refine caseB_ndec (fun h => ?_) (fun h => ?_)
  · conv => whnf
    exact ⟨M, hs.le, zSo, rfl, by unfold touchR; rw [if_neg h]; rfl, zSo_new M⟩
  rw [if_pos h] at es
  have hcs : s.c.cost ≤ 1048576 := by rw [es]; exact hco
  obtain ⟨hg0, _⟩ := guard_of (swF_0 h).1
  conv => whnf
  refine XCall.lift (l8Touch_ret s k M M1 hs hcs (by rw [← es] at hg0; exact hg0) (by rw [es]; exact (swF_0 h).2)) [2] ?_ (by simp) (by simp) (by simp [AV.plain]) ?_
  · simp [ren]
  rintro r bs' M2 ⟨rfl, s', rfl, ec, hN⟩
  refine ⟨by simp [AV.plain], ?_⟩
  conv => whnf
  exact ⟨_, PH.Le.refl _, s', by rw [h]; rfl, by unfold touchR; rw [if_pos h, ec, es], hN⟩
theorem touchEntry_impl (x : StA) (k : ByteArray) (M : PH) (hi : x.inn M) (hco : x.c.cost ≤ 1048576) :
    ACall env 43 [x.val, Tx k] M fun r M' => ∃ s : So, r = srS (swF x.c k) s ∧ s.c = touchR x.c k ∧ NewS M M' s := by
  refine xcall_of_vc Tryz.func43 rfl _ Tryz.ntmps43 _ rfl (fun _ _ => Tryz.call43 _ _) rfl (fun w0 ρ0 => ?_)
  conv => whnf
  refine Ret.go (storeWith_ret x k _ hi hco) ?_
  conv => whnf
  refine caseB_ndec (fun h => ?_) (fun h => ?_)
  · conv => whnf
    exact ⟨M, PH.Le.refl _, zSo, rfl, by unfold touchR; rw [if_neg h]; rfl, zSo_new M⟩
  conv => whnf
  refine ACall.step (copyStore_ret x M hi hco) fun v M1 hh => ?_
  obtain ⟨s, rfl, es, hs⟩ := hh
  have hcs : s.c.cost ≤ 1048576 := by rw [es]; exact hco
  obtain ⟨hg0, _⟩ := guard_of (swF_0 h).1
  conv => whnf
  refine XCall.lift (touch_ret s k M M1 hs hcs (by rw [← es] at hg0; exact hg0) (by rw [es]; exact (swF_0 h).2)) [2] ?_ (by simp) (by simp) (by simp [AV.plain]) ?_
  · simp [ren]
  rintro r bs' M2 ⟨rfl, s', rfl, ec, hN⟩
  refine ⟨by simp [AV.plain], ?_⟩
  conv => whnf
  exact ⟨_, PH.Le.refl _, s', by rw [h]; rfl, by unfold touchR; rw [if_pos h, ec, es], hN⟩
theorem touchEntry_law (x : StA) (k : ByteArray) (M : PH) (hi : x.inn M) (ho : x.c.okl) :
    ACall env 7 [x.val, Tx k] M fun r M' => r = B true ∧ M.Le M' := by
  refine xcall_of_vc Tryz.func7 rfl _ Tryz.ntmps7 _ rfl (fun _ _ => Tryz.call7 _ _) rfl (fun w0 ρ0 => ?_)
  conv => whnf
  refine caseB_dec (fun h => ?_) (fun _ => ?_)
  · conv => whnf
    exact ⟨_, PH.Le.refl _, rfl, PH.Le.refl _⟩
  conv => whnf
  refine ACall.step (szStore_ret x _ M hi ho (by omega) (by omega)) fun v M0 hh => ?_
  obtain ⟨m, rfl, rfl, hm⟩ := hh
  conv => whnf
  refine caseB_dec (fun h0 => ?_) (fun h0 => ?_)
  · conv => whnf
    exact ⟨_, PH.Le.refl _, rfl, PH.Le.refl _⟩
  have hm := hm (by omega)
  have hco : x.c.cost ≤ 1048576 := by omega
  clear hm h0 ho
  have hpc : (touchR x.c k).cost ≤ 1048576 := touchR_cost k hco
  conv => whnf
  refine ACall.step (toStore_ret x _ hi hco) fun v M1 hh => ?_
  obtain ⟨y1, rfl, e1, l1, i1⟩ := hh
  conv => whnf
  refine ACall.step (touchEntry_spec y1 k M1 i1 (by rw [e1]; exact hco)) fun v M2 hh => ?_
  obtain ⟨z1, rfl, c1, N1⟩ := hh
  rw [e1] at c1 ⊢
  have l2 := l1.trans N1.le
  conv => whnf
  refine ACall.step (toStore_own x _ (hi.mono l2) hco) fun v M3 hh => ?_
  obtain ⟨s, rfl, es, l3, D, F⟩ := hh
  have l4 := l2.trans l3
  conv => whnf
  have hsv := s.sta_val
  have hsc := s.sta_c
  have hcs : s.sta.c.cost ≤ 1048576 := by rw [hsc, es]; exact hco
  have hI := touchEntry_impl s.sta k M3 D.inn hcs
  rw [hsv, hsc, es] at hI
  refine ACall.step hI fun v M4 hh => ?_
  obtain ⟨z2, rfl, c2, N2⟩ := hh
  have l5 := l4.trans N2.le
  conv => whnf
  have W1 := N1.d.mono (l3.trans N2.le)
  have W2 := N2.d
  have ap1 := apart_of N1.d.kn F
  have ap2 : ∀ a ∈ soL z2, ∀ b ∈ soL s, Apart a b := fun a ha b hb => (apart_of D.kn N2.fr b hb a ha).symm
  have ap12 : ∀ a ∈ soL z1, ∀ b ∈ soL z2, Apart a b := apart_of (N1.d.mono l3).kn N2.fr
  have D := D.mono N2.le
  have q12 : z2.c = z1.c := by rw [c1, c2]
  have q2 : z2.c.cost ≤ 1048576 := by rw [c2]; exact hpc
  have mok2 : Mok 1 z2 := Mok.of (by omega) (by omega)
  have hps2 := posS_end mok2
  refine Ret.go (eqSRS_ret _ z2 z1 _ W2 W1 q12 q2) ?_
  conv => whnf
  refine caseB_false ?_
  conv => whnf
  repeat' (first | (refine ⟨⟨[], rfl⟩, _, PH.Le.refl _, PH.Le.refl _, ?_⟩; conv => whnf) | (refine caseB_true ?_; conv => whnf) | (refine caseB_false ?_; conv => whnf) | ((with_reducible refine caseB_dec (fun h => ?_) (fun h => ?_)) <;> conv => whnf) | ((with_reducible refine caseB_ndec (fun h => ?_) (fun h => ?_)) <;> conv => whnf) | ((with_reducible refine caseB_not (fun h => ?_) (fun h => ?_)) <;> conv => whnf) | (refine draw_rule (.light 0 <| .light 1 <| .alt 2 false (.alt 3 false (.light 4 <| .done) .nil) .nil) (by decide +kernel) ?_; conv => whnf) | (with_reducible refine @And.intro (guardVC _ _ _ _ _) _ ?_ ?_) <;> conv => whnf | (refine caseB_intro (fun h => ?_) (fun h => ?_) <;> (try simp only [Bool.not_eq_true', Bool.not_eq_false', decide_eq_true_eq, decide_eq_false_iff_not] at h) <;> conv => whnf))
  refine ACall.step (toStore_ret x _ (hi.mono l5) hco) fun v M5 hh => ?_
  obtain ⟨y5, rfl, e5, l6, i5⟩ := hh
  (first | (refine ⟨⟨[], rfl⟩, _, l6, PH.Le.refl _, ?_⟩; conv => whnf) | conv => whnf)
  have D := D.mono l6
  have W1 := W1.mono l6
  have W2 := W2.mono l6
  have hq := eqStore_ret s.sta y5 _ D.inn i5 (by rw [hsc, es, e5]) hcs
  rw [hsv] at hq
  refine Ret.go hq ?_
  (first | (refine ⟨⟨[], rfl⟩, _, PH.Le.refl _, PH.Le.refl _, ?_⟩; conv => whnf) | conv => whnf)
  refine caseB_false ?_
  conv => whnf
  have mok : Mok 1 s := Mok.of (by omega) (by rw [← hsc]; omega)
  refine ACall.step (markStore_ret s 1 _ D mok) fun v M6 hh => ?_
  obtain ⟨s', rfl, _, _, K6⟩ := hh
  have hps := posS_end mok
  have W1 := W1.keepsL K6 ap1
  have W2 := W2.keepsL K6 ap2
  have L6 : M0.Le M6 := K6.over (l5.trans l6) (F.le l2)
  conv => whnf
  refine caseB_dec (fun h => ?_) (fun _ => ?_)
  · exfalso; omega
  conv => whnf
  repeat (refine caseB_false ?_; conv => whnf)
  refine Ret.go (eqSRS_ret _ z2 z1 _ W2 W1 q12 q2) ?_
  conv => whnf
  repeat (refine caseB_false ?_; conv => whnf)
  refine ACall.step (markSRS_ret _ z2 _ W2 mok2) fun v M7 hh => ?_
  obtain ⟨z3, rfl, mk3, W3, K7⟩ := hh
  have W1 := W1.keepsL K7 ap12
  have L7 : M0.Le M7 := K7.over L6 (N2.fr.le l4)
  conv => whnf
  refine Ret.go (heldSRS_ret _ z2 z3 _ W3 mok2 mk3) ?_
  conv => whnf
  refine caseB_dec (fun h => ?_) (fun _ => ?_)
  · exfalso; have h : posS 1 z2 < 0 := h; omega
  conv => whnf
  refine caseB_ndec (fun h => absurd rfl h) (fun _ => ?_)
  conv => whnf
  refine ACall.step (toStore_ret x _ (hi.mono L7) hco) fun v M8 hh => ?_
  obtain ⟨y8, rfl, e8, l8, i8⟩ := hh
  conv => whnf
  refine ACall.step (touchEntry_impl y8 k M8 i8 (by rw [e8]; exact hco)) fun v M9 hh => ?_
  obtain ⟨z9, rfl, c9, N9⟩ := hh
  rw [e8] at c9 ⊢
  conv => whnf
  have W1 := (W1.mono l8).mono N9.le
  have W3 := (W3.mono l8).mono N9.le
  refine Ret.go (eqSRS_ret _ z9 z1 _ N9.d W1 (by rw [c9, c1]) (by rw [c9]; exact hpc)) ?_
  conv => whnf
  refine caseB_false ?_
  conv => whnf
  refine Ret.go (heldSRS_ret _ z2 z3 _ W3 mok2 mk3) ?_
  conv => whnf
  refine caseB_dec (fun h => ?_) (fun _ => ?_)
  · exfalso; have h : posS 1 z2 < 0 := h; omega
  conv => whnf
  refine caseB_ndec (fun h => absurd rfl h) (fun _ => ?_)
  conv => whnf
  exact ⟨_, PH.Le.refl _, rfl, (L7.trans l8).trans N9.le⟩

end Go.Proofs.YtgjaiabenjafeaaGreatDoor
