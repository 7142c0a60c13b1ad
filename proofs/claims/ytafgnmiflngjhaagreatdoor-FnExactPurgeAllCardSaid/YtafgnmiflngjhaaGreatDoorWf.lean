/-
  CONTRACTS AND THE LAW: an entry pinned.
-/
import Derived.Test.YtafgnmiflngjhaaGreatDoorWe
namespace Go.Proofs.YtafgnmiflngjhaaGreatDoor
set_option maxRecDepth 100000
set_option linter.unusedSimpArgs false
set_option linter.unusedVariables false
open Go.Xe
theorem pinEntry_spec (x : StA) (k : ByteArray) (d : Int) (M : PH) (hi : x.inn M) (hco : x.c.cost ≤ 1048576) :
    ACall env 56 [x.val, Tx k, I d] M fun r M' => ∃ s : So, r = srS (pinCode x.c k d) s ∧ s.c = pinR x.c k d ∧ NewS M M' s := by
  refine xcall_of_vc Tryz.func56 rfl _ Tryz.ntmps56 _ rfl (fun _ _ => Tryz.call56 _ _) rfl (fun w0 ρ0 => ?_)
  conv => whnf
  refine XCall.lift (l8Ask_ret x k M hi hco) [0] ?_ (by simp) (by simp) (by simp [AV.plain]) ?_
  · simp [ren]
  rintro r bs' M1 ⟨⟨s, rfl, es, hs⟩, rfl⟩
  refine ⟨by simp [AV.plain], ?_⟩
  conv => whnf
  refine caseB_ndec (fun h => ?_) (fun h => ?_)
  · conv => whnf
    have e : pinCode x.c k d = swF x.c k := by unfold pinCode; rw [if_pos h]
    exact ⟨M, hs.le, zSo, by rw [e]; rfl, by unfold pinR; rw [e, if_neg h]; rfl, zSo_new M⟩
  have e : pinCode x.c k d = pinC x.c k d := by unfold pinCode; rw [if_neg (by simpa using h)]
  rw [if_pos h] at es
  have hcs : s.c.cost ≤ 1048576 := by rw [es]; exact hco
  have hpk := l8Peek_ret s.sta k M1 hs.d.inn (by rw [s.sta_c]; exact hcs)
  rw [soBox_eq, s.sta_c] at hpk
  conv => whnf
  refine XCall.lift hpk [2] ?_ (by simp) (by simp) (by simp [AV.plain]) ?_
  · simp [ren]
  rintro r bs' M2 ⟨⟨y, rfl, ey, hy⟩, rfl⟩
  refine ⟨by simp [AV.plain], ?_⟩
  have hp : (pkE x.c k).pins = y.1.c.pins := by rw [ey, es]
  have hD := hs.d.mono hy.le
  conv => whnf
  refine Ret.go (l1In_ret d (-20) 20 _) ?_
  conv => whnf
  have hcode : pinCode x.c k d = if inB d (-20) 20 && inB (IntKind.i64.wrap (y.1.c.pins + d)) 0 20 then 0 else 3 := by rw [e]; unfold pinC; rw [hp]
  refine caseB_not (fun h1 => ?_) (fun h1 => ?_)
  · rw [h1] at hcode
    conv => whnf
    repeat (refine caseB_true ?_; conv => whnf)
    have e3 : pinCode x.c k d = 3 := hcode
    exact ⟨M, hs.le.trans hy.le, zSo, by rw [e3]; rfl, by unfold pinR; rw [e3]; rfl, zSo_new M⟩
  rw [h1, Bool.true_and] at hcode
  conv => whnf
  repeat (refine caseB_false ?_; conv => whnf)
  refine Ret.go (l1In_ret _ 0 20 _) ?_
  conv => whnf
  repeat (refine caseB_false ?_; conv => whnf)
  refine caseB_not (fun h2 => ?_) (fun h2 => ?_)
  · rw [h2] at hcode
    conv => whnf
    have e3 : pinCode x.c k d = 3 := hcode
    exact ⟨M, hs.le.trans hy.le, zSo, by rw [e3]; rfl, by unfold pinR; rw [e3]; rfl, zSo_new M⟩
  rw [h2] at hcode
  have e3 : pinCode x.c k d = 0 := hcode
  conv => whnf
  refine XCall.lift (l8Pin_ret s k d M2 hD hcs) [2] ?_ (by simp) (by simp) (by simp [AV.plain]) ?_
  · simp [ren]
  rintro r bs' M3 ⟨rfl, ⟨s', ev, ec, hD3, hK3, hL3⟩, rfl⟩
  refine ⟨by simp [AV.plain], ?_⟩
  conv => whnf
  simp only [So.val, Value.agg.injEq, Array.mk.injEq, List.cons.injEq, Value.int.injEq, Value.slice.injEq, true_and, and_true] at ev
  obtain ⟨v1, v2, ⟨v3, v4, v5⟩, v6, v7, v8⟩ := ev
  exact ⟨_, PH.Le.refl _, s', by rw [e3]; simp [srS, v1, v2, v3, v4, v5, v6, v7, v8, resV], by unfold pinR; rw [if_pos e3, ec, es], hD3, hK3.over (hs.le.trans hy.le) hs.fr, by rw [hL3]; exact hs.fr⟩
theorem pinK_no {es : List En} {k : ByteArray} (h : keyC es k < 0) (d : Int) : pinK es k d = es := by unfold pinK; rw [if_neg (by omega)]
theorem apt_of {s : Sc} (h : stFault s = 0) : AptG En.key s.all := by
  unfold stFault at h
  repeat' (split at h <;> try (first | cases h | contradiction))
  all_goals first
    | (have h2 : ¬ asB (AptG En.key s.all) = false := by assumption
       apply Classical.byContradiction
       intro hh
       exact h2 (asB_false hh))
theorem keyC_apart {a b : List En} {k : ByteArray} (h : AptG En.key (a ++ b)) (h0 : 0 ≤ keyC a k) : keyC b k < 0 := by
  rcases keyC_cases a k with ⟨e, _⟩ | ⟨i, hi, _, h1, _⟩
  · omega
  · rcases keyC_cases b k with ⟨e, _⟩ | ⟨j, hj, _, h2, _⟩
    · omega
    · unfold AptG at h
      rw [List.pairwise_append] at h
      exact absurd ((seq_iff.1 h1).trans (seq_iff.1 h2).symm) (h.2.2 _ (List.getElem_mem hi) _ (List.getElem_mem hj))
theorem pinEntry_impl (x : StA) (k : ByteArray) (d : Int) (M : PH) (hi : x.inn M) (hco : x.c.cost ≤ 1048576) :
    ACall env 57 [x.val, Tx k, I d] M fun r M' => ∃ s : So, r = srS (pinCode x.c k d) s ∧ s.c = pinR x.c k d ∧ NewS M M' s := by
  refine xcall_of_vc Tryz.func57 rfl _ Tryz.ntmps57 _ rfl (fun _ _ => Tryz.call57 _ _) rfl (fun w0 ρ0 => ?_)
  conv => whnf
  refine Ret.go (storeWith_ret x k _ hi hco) ?_
  conv => whnf
  refine caseB_ndec (fun h => ?_) (fun h => ?_)
  · conv => whnf
    have e : pinCode x.c k d = swF x.c k := by unfold pinCode; rw [if_pos h]
    exact ⟨M, PH.Le.refl _, zSo, by rw [e]; rfl, by unfold pinR; rw [e, if_neg h]; rfl, zSo_new M⟩
  have e : pinCode x.c k d = pinC x.c k d := by unfold pinCode; rw [if_neg (by simpa using h)]
  have hsf := (swF_0 h).1
  have hfound := (swF_0 h).2
  conv => whnf
  refine ACall.step (copyStore_ret x M hi hco) fun v M1 hh => ?_
  obtain ⟨s, rfl, es, hs⟩ := hh
  have hcs : s.c.cost ≤ 1048576 := by rw [es]; exact hco
  obtain ⟨hn1, hn2⟩ := so_len hcs
  have hfi := find_ret s.sta k M1 hs.d.inn (by show (s.p1.map (·.1)).length ≤ _; rw [List.length_map]; exact hn1) (by show (s.p2.map (·.1)).length ≤ _; rw [List.length_map]; exact hn2)
  rw [soBox_eq] at hfi
  conv => whnf
  refine XCall.lift hfi [2] ?_ (by simp) (by simp) (by simp [AV.plain]) ?_
  · simp [ren]
  rintro r bs' M2 ⟨rfl, rfl, rfl⟩
  refine ⟨by simp [AV.plain], ?_⟩
  have hall : x.c.all = s.p1.map (·.1.c) ++ s.p2.map (·.1.c) := by rw [← es]; rfl
  have hpk : pkE x.c k = ((look (s.p1.map (·.1.c)) k).or (look (s.p2.map (·.1.c)) k)).getD zEn := by unfold pkE; rw [hall, look_app]
  have hlk : ((look (s.p1.map (·.1.c)) k).or (look (s.p2.map (·.1.c)) k)).isSome = true := by rw [← look_app, ← hall]; exact hfound
  have hfp : findP s.sta k = if 0 ≤ keyC (s.p1.map (·.1.c)) k then s.A1.map (·.add ((keyC (s.p1.map (·.1.c)) k).toNat * 13)) else if 0 ≤ keyC (s.p2.map (·.1.c)) k then s.A2.map (·.add ((keyC (s.p2.map (·.1.c)) k).toNat * 13)) else none := by
    unfold findP So.sta
    simp only [keyI_C, conts_ep]
  have hpin : ∀ p : EP, p.1.c = pkE x.c k → 0 ≤ p.1.c.pins ∧ p.1.c.pins ≤ 20 := fun p hp => by
    rw [hp]
    unfold pkE
    cases hl : look x.c.all k with
    | none => rw [hl] at hfound; cases hfound
    | some e => exact pins_of hsf (look_mem hl)
  have hapt := apt_of hsf
  rw [hall] at hapt
  rcases pin_row hs.d.t k with ⟨e1, hp1⟩ | ⟨i, hi1, e1, hl1, hp1⟩
  · rcases pin_row hs.d.k k with ⟨e2, hp2⟩ | ⟨j, hj, e2, hl2, hp2⟩
    · exfalso
      have n1 : look (s.p1.map (·.1.c)) k = none := by
        rcases keyC_cases (s.p1.map (·.1.c)) k with ⟨_, hn⟩ | ⟨i, hi, e, _⟩
        · exact List.find?_eq_none.2 fun e he => by simp [hn e he]
        · omega
      have n2 : look (s.p2.map (·.1.c)) k = none := by
        rcases keyC_cases (s.p2.map (·.1.c)) k with ⟨_, hn⟩ | ⟨i, hi, e, _⟩
        · exact List.find?_eq_none.2 fun e he => by simp [hn e he]
        · omega
      rw [n1, n2] at hlk
      cases hlk
    · have n1 : look (s.p1.map (·.1.c)) k = none := by
        rcases keyC_cases (s.p1.map (·.1.c)) k with ⟨_, hn⟩ | ⟨i, hi, e, _⟩
        · exact List.find?_eq_none.2 fun e he => by simp [hn e he]
        · omega
      have hpe : pkE x.c k = s.p2[j].1.c := by rw [hpk, n1, hl2]; rfl
      obtain ⟨a, ha⟩ : ∃ a, s.A2.map (·.add (j * 13)) = some a := by
        obtain ⟨q, hq⟩ := Option.isSome_iff_exists.1 ((hs.d.k.row.sl EP.len).get hj).1
        exact ⟨_, by rw [hq]; rfl⟩
      have hcP := hs.d.k.cellP hj ha 12 (v := I s.p2[j].1.c.pins) rfl
      obtain ⟨b1, b2⟩ := hpin s.p2[j] hpe.symm
      have hib := inB_pins (d := d) b1 b2
      have hcode : pinCode x.c k d = if inB d (IntKind.i64.wrap (0 - s.p2[j].1.c.pins)) (IntKind.i64.wrap (20 - s.p2[j].1.c.pins)) then 0 else 3 := by rw [e, hib]; unfold pinC; rw [hpe]
      rw [hfp, if_neg (by omega), if_pos (by omega), e2, Int.toNat_natCast, ha]
      conv => whnf
      repeat' (first | (refine ⟨⟨[], rfl⟩, _, PH.Le.refl _, PH.Le.refl _, ?_⟩; conv => whnf) | (refine ⟨_, hcP, ?_⟩; conv => whnf) | (refine caseB_true ?_; conv => whnf) | (refine caseB_false ?_; conv => whnf) | ((with_reducible refine caseB_dec (fun h => ?_) (fun h => ?_)) <;> conv => whnf) | ((with_reducible refine caseB_ndec (fun h => ?_) (fun h => ?_)) <;> conv => whnf) | ((with_reducible refine caseB_not (fun h => ?_) (fun h => ?_)) <;> conv => whnf) | (refine draw_rule (.light 0 <| .light 1 <| .light 2 <| .light 3 <| .light 4 <| .light 5 <| .light 6 <| .light 7 <| .light 8 <| .light 9 <| .light 10 <| .alt 11 false (.light 12 <| .done) .nil) (by decide +kernel) ?_; conv => whnf) | (with_reducible refine @And.intro (guardVC _ _ _ _ _) _ ?_ ?_) <;> conv => whnf | (refine caseB_intro (fun h => ?_) (fun h => ?_) <;> (try simp only [Bool.not_eq_true', Bool.not_eq_false', decide_eq_true_eq, decide_eq_false_iff_not] at h) <;> conv => whnf))
      refine Ret.go (within_ret d _ _ _) ?_
      (first | (refine ⟨⟨[], rfl⟩, _, PH.Le.refl _, PH.Le.refl _, ?_⟩; conv => whnf) | conv => whnf)
      refine caseB_not (fun h2 => ?_) (fun h2 => ?_)
      · have e3 : pinCode x.c k d = 3 := by rw [hcode]; exact if_neg (by rw [h2]; simp)
        conv => whnf
        exact ⟨M, hs.le, zSo, by rw [e3]; rfl, by unfold pinR; rw [e3]; rfl, zSo_new M⟩
      have e3 : pinCode x.c k d = 0 := by rw [hcode]; exact if_pos h2
      conv => whnf
      refine ⟨_, hcP, ?_⟩
      conv => whnf
      have hT : Dw M2 s.o2 s.A2 s.c2 (s.p2.set j s.p2[j]) := by rw [List.set_getElem_self]; exact hs.d.k
      refine Dw.storeP (j := 12) hT hj ha (by simp) (s.p2[j].wth (pin1 s.p2[j].1.c d)) rfl rfl (fun M h => ⟨h.h, h.y, h.t⟩) fun M3 D3 k3 => ?_
      conv => whnf
      have L2 := dwL_set (o := s.o2) hj (pin1 s.p2[j].1.c d)
      have n2 : (s.p2.set j (s.p2[j].wth (pin1 s.p2[j].1.c d))).length = s.p2.length := List.length_set
      have e4 := hp2 d
      have D4 : Dw M3 s.o1 s.A1 s.c1 s.p1 := hs.d.t.keepsL (Keeps.inL k3 (by simp : s.o2 ∈ [s.o2])) fun a ha b hb => by simp at hb; subst hb; exact hs.d.ap a ha _ (by simp)
      generalize s.p2.set j (s.p2[j].wth (pin1 s.p2[j].1.c d)) = q2 at *
      have hSL : soL (⟨s.b, s.g, s.o1, s.A1, s.c1, s.p1, s.o2, s.A2, s.c2, q2⟩ : So) = soL s := by unfold soL; rw [L2]
      exact ⟨_, PH.Le.refl _, ⟨s.b, s.g, s.o1, s.A1, s.c1, s.p1, s.o2, s.A2, s.c2, q2⟩, by rw [e3]; simp [srS, n2, resV], by unfold pinR; rw [if_pos e3, ← es]; unfold So.c pinS; rw [e4, hp1 d], ⟨D4, D3, fun a ha b hb => by rw [L2] at hb; exact hs.d.ap a ha b hb⟩, (Keeps.inL k3 (List.mem_append_right _ (by simp)) : KeepsL (soL s) _ _).over hs.le hs.fr, by rw [hSL]; exact hs.fr⟩
  · have hpe : pkE x.c k = s.p1[i].1.c := by rw [hpk, hl1]; rfl
    obtain ⟨a, ha⟩ : ∃ a, s.A1.map (·.add (i * 13)) = some a := by
      obtain ⟨q, hq⟩ := Option.isSome_iff_exists.1 ((hs.d.t.row.sl EP.len).get hi1).1
      exact ⟨_, by rw [hq]; rfl⟩
    have hcP := hs.d.t.cellP hi1 ha 12 (v := I s.p1[i].1.c.pins) rfl
    obtain ⟨b1, b2⟩ := hpin s.p1[i] hpe.symm
    have hib := inB_pins (d := d) b1 b2
    have hcode : pinCode x.c k d = if inB d (IntKind.i64.wrap (0 - s.p1[i].1.c.pins)) (IntKind.i64.wrap (20 - s.p1[i].1.c.pins)) then 0 else 3 := by rw [e, hib]; unfold pinC; rw [hpe]
    have hk2 := keyC_apart (k := k) hapt (by omega)
    rw [hfp, if_pos (by omega), e1, Int.toNat_natCast, ha]
    conv => whnf
    repeat' (first | (refine ⟨⟨[], rfl⟩, _, PH.Le.refl _, PH.Le.refl _, ?_⟩; conv => whnf) | (refine ⟨_, hcP, ?_⟩; conv => whnf) | (refine caseB_true ?_; conv => whnf) | (refine caseB_false ?_; conv => whnf) | ((with_reducible refine caseB_dec (fun h => ?_) (fun h => ?_)) <;> conv => whnf) | ((with_reducible refine caseB_ndec (fun h => ?_) (fun h => ?_)) <;> conv => whnf) | ((with_reducible refine caseB_not (fun h => ?_) (fun h => ?_)) <;> conv => whnf) | (refine draw_rule (.light 0 <| .light 1 <| .light 2 <| .light 3 <| .light 4 <| .light 5 <| .light 6 <| .light 7 <| .light 8 <| .light 9 <| .light 10 <| .alt 11 false (.light 12 <| .done) .nil) (by decide +kernel) ?_; conv => whnf) | (with_reducible refine @And.intro (guardVC _ _ _ _ _) _ ?_ ?_) <;> conv => whnf | (refine caseB_intro (fun h => ?_) (fun h => ?_) <;> (try simp only [Bool.not_eq_true', Bool.not_eq_false', decide_eq_true_eq, decide_eq_false_iff_not] at h) <;> conv => whnf))
    refine Ret.go (within_ret d _ _ _) ?_
    (first | (refine ⟨⟨[], rfl⟩, _, PH.Le.refl _, PH.Le.refl _, ?_⟩; conv => whnf) | conv => whnf)
    refine caseB_not (fun h2 => ?_) (fun h2 => ?_)
    · have e3 : pinCode x.c k d = 3 := by rw [hcode]; exact if_neg (by rw [h2]; simp)
      conv => whnf
      exact ⟨M, hs.le, zSo, by rw [e3]; rfl, by unfold pinR; rw [e3]; rfl, zSo_new M⟩
    have e3 : pinCode x.c k d = 0 := by rw [hcode]; exact if_pos h2
    conv => whnf
    refine ⟨_, hcP, ?_⟩
    conv => whnf
    have hT : Dw M2 s.o1 s.A1 s.c1 (s.p1.set i s.p1[i]) := by rw [List.set_getElem_self]; exact hs.d.t
    refine Dw.storeP (j := 12) hT hi1 ha (by simp) (s.p1[i].wth (pin1 s.p1[i].1.c d)) rfl rfl (fun M h => ⟨h.h, h.y, h.t⟩) fun M3 D3 k3 => ?_
    conv => whnf
    have L1 := dwL_set (o := s.o1) hi1 (pin1 s.p1[i].1.c d)
    have n1 : (s.p1.set i (s.p1[i].wth (pin1 s.p1[i].1.c d))).length = s.p1.length := List.length_set
    have e4 := hp1 d
    have D4 : Dw M3 s.o2 s.A2 s.c2 s.p2 := hs.d.k.keepsL (Keeps.inL k3 (by simp : s.o1 ∈ [s.o1])) fun a ha b hb => by simp at hb; subst hb; exact (hs.d.ap _ (by simp) a ha).symm
    generalize s.p1.set i (s.p1[i].wth (pin1 s.p1[i].1.c d)) = q1 at *
    have hSL : soL (⟨s.b, s.g, s.o1, s.A1, s.c1, q1, s.o2, s.A2, s.c2, s.p2⟩ : So) = soL s := by unfold soL; rw [L1]
    exact ⟨_, PH.Le.refl _, ⟨s.b, s.g, s.o1, s.A1, s.c1, q1, s.o2, s.A2, s.c2, s.p2⟩, by rw [e3]; simp [srS, n1, resV], by unfold pinR; rw [if_pos e3, ← es]; unfold So.c pinS; rw [e4, pinK_no hk2], ⟨D3, D4, fun a ha b hb => by rw [L1] at ha; exact hs.d.ap a ha b hb⟩, (Keeps.inL k3 (List.mem_append_left _ (by simp)) : KeepsL (soL s) _ _).over hs.le hs.fr, by rw [hSL]; exact hs.fr⟩
theorem pinEntry_law (x : StA) (k : ByteArray) (d : Int) (M : PH) (hi : x.inn M) (ho : x.c.okl) :
    ACall env 8 [x.val, Tx k, I d] M fun r M' => r = B true ∧ M.Le M' := by
  refine xcall_of_vc Tryz.func8 rfl _ Tryz.ntmps8 _ rfl (fun _ _ => Tryz.call8 _ _) rfl (fun w0 ρ0 => ?_)
  conv => whnf
  refine caseB_dec (fun h => ?_) (fun _ => ?_)
  · conv => whnf
    exact ⟨_, PH.Le.refl _, rfl, PH.Le.refl _⟩
  conv => whnf
  refine ACall.step (szStore_ret x _ M hi ho (by omega) (by omega)) fun v M0 hh => ?_
  obtain ⟨m, rfl, rfl, hm⟩ := hh
  conv => whnf
  refine caseB_dec (fun h0 => ?_) (fun h0 => ?_)
  · conv => whnf
    exact ⟨_, PH.Le.refl _, rfl, PH.Le.refl _⟩
  have hm := hm (by omega)
  have hco : x.c.cost ≤ 1048576 := by omega
  clear hm h0 ho
  have hpc : (pinR x.c k d).cost ≤ 1048576 := pinR_cost k d hco
  conv => whnf
  refine ACall.step (toStore_ret x _ hi hco) fun v M1 hh => ?_
  obtain ⟨y1, rfl, e1, l1, i1⟩ := hh
  conv => whnf
  refine ACall.step (pinEntry_spec y1 k d M1 i1 (by rw [e1]; exact hco)) fun v M2 hh => ?_
  obtain ⟨z1, rfl, c1, N1⟩ := hh
  rw [e1] at c1 ⊢
  have l2 := l1.trans N1.le
  conv => whnf
  refine ACall.step (toStore_own x _ (hi.mono l2) hco) fun v M3 hh => ?_
  obtain ⟨s, rfl, es, l3, D, F⟩ := hh
  have l4 := l2.trans l3
  conv => whnf
  have hsv := s.sta_val
  have hsc := s.sta_c
  have hcs : s.sta.c.cost ≤ 1048576 := by rw [hsc, es]; exact hco
  have hI := pinEntry_impl s.sta k d M3 D.inn hcs
  rw [hsv, hsc, es] at hI
  refine ACall.step hI fun v M4 hh => ?_
  obtain ⟨z2, rfl, c2, N2⟩ := hh
  have l5 := l4.trans N2.le
  conv => whnf
  have W1 := N1.d.mono (l3.trans N2.le)
  have W2 := N2.d
  have ap1 := apart_of N1.d.kn F
  have ap2 : ∀ a ∈ soL z2, ∀ b ∈ soL s, Apart a b := fun a ha b hb => (apart_of D.kn N2.fr b hb a ha).symm
  have ap12 : ∀ a ∈ soL z1, ∀ b ∈ soL z2, Apart a b := apart_of (N1.d.mono l3).kn N2.fr
  have D := D.mono N2.le
  have q12 : z2.c = z1.c := by rw [c1, c2]
  have q2 : z2.c.cost ≤ 1048576 := by rw [c2]; exact hpc
  have mok2 : Mok 1 z2 := Mok.of (by omega) (by omega)
  have hps2 := posS_end mok2
  refine Ret.go (eqSRS_ret _ z2 z1 _ W2 W1 q12 q2) ?_
  conv => whnf
  refine caseB_false ?_
  conv => whnf
  repeat' (first | (refine ⟨⟨[], rfl⟩, _, PH.Le.refl _, PH.Le.refl _, ?_⟩; conv => whnf) | (refine caseB_true ?_; conv => whnf) | (refine caseB_false ?_; conv => whnf) | ((with_reducible refine caseB_dec (fun h => ?_) (fun h => ?_)) <;> conv => whnf) | ((with_reducible refine caseB_ndec (fun h => ?_) (fun h => ?_)) <;> conv => whnf) | ((with_reducible refine caseB_not (fun h => ?_) (fun h => ?_)) <;> conv => whnf) | (refine draw_rule (.light 0 <| .light 1 <| .alt 2 false (.alt 3 false (.light 4 <| .done) .nil) .nil) (by decide +kernel) ?_; conv => whnf) | (with_reducible refine @And.intro (guardVC _ _ _ _ _) _ ?_ ?_) <;> conv => whnf | (refine caseB_intro (fun h => ?_) (fun h => ?_) <;> (try simp only [Bool.not_eq_true', Bool.not_eq_false', decide_eq_true_eq, decide_eq_false_iff_not] at h) <;> conv => whnf))
  refine ACall.step (toStore_ret x _ (hi.mono l5) hco) fun v M5 hh => ?_
  obtain ⟨y5, rfl, e5, l6, i5⟩ := hh
  (first | (refine ⟨⟨[], rfl⟩, _, l6, PH.Le.refl _, ?_⟩; conv => whnf) | conv => whnf)
  have D := D.mono l6
  have W1 := W1.mono l6
  have W2 := W2.mono l6
  have hq := eqStore_ret s.sta y5 _ D.inn i5 (by rw [hsc, es, e5]) hcs
  rw [hsv] at hq
  refine Ret.go hq ?_
  (first | (refine ⟨⟨[], rfl⟩, _, PH.Le.refl _, PH.Le.refl _, ?_⟩; conv => whnf) | conv => whnf)
  refine caseB_false ?_
  conv => whnf
  have mok : Mok 1 s := Mok.of (by omega) (by rw [← hsc]; omega)
  refine ACall.step (markStore_ret s 1 _ D mok) fun v M6 hh => ?_
  obtain ⟨s', rfl, _, _, K6⟩ := hh
  have hps := posS_end mok
  have W1 := W1.keepsL K6 ap1
  have W2 := W2.keepsL K6 ap2
  have L6 : M0.Le M6 := K6.over (l5.trans l6) (F.le l2)
  conv => whnf
  refine caseB_dec (fun h => ?_) (fun _ => ?_)
  · exfalso; omega
  conv => whnf
  repeat (refine caseB_false ?_; conv => whnf)
  refine Ret.go (eqSRS_ret _ z2 z1 _ W2 W1 q12 q2) ?_
  conv => whnf
  repeat (refine caseB_false ?_; conv => whnf)
  refine ACall.step (markSRS_ret _ z2 _ W2 mok2) fun v M7 hh => ?_
  obtain ⟨z3, rfl, mk3, W3, K7⟩ := hh
  have W1 := W1.keepsL K7 ap12
  have L7 : M0.Le M7 := K7.over L6 (N2.fr.le l4)
  conv => whnf
  refine Ret.go (heldSRS_ret _ z2 z3 _ W3 mok2 mk3) ?_
  conv => whnf
  refine caseB_dec (fun h => ?_) (fun _ => ?_)
  · exfalso; have h : posS 1 z2 < 0 := h; omega
  conv => whnf
  refine caseB_ndec (fun h => absurd rfl h) (fun _ => ?_)
  conv => whnf
  refine ACall.step (toStore_ret x _ (hi.mono L7) hco) fun v M8 hh => ?_
  obtain ⟨y8, rfl, e8, l8, i8⟩ := hh
  conv => whnf
  refine ACall.step (pinEntry_impl y8 k d M8 i8 (by rw [e8]; exact hco)) fun v M9 hh => ?_
  obtain ⟨z9, rfl, c9, N9⟩ := hh
  rw [e8] at c9 ⊢
  conv => whnf
  have W1 := (W1.mono l8).mono N9.le
  have W3 := (W3.mono l8).mono N9.le
  refine Ret.go (eqSRS_ret _ z9 z1 _ N9.d W1 (by rw [c9, c1]) (by rw [c9]; exact hpc)) ?_
  conv => whnf
  refine caseB_false ?_
  conv => whnf
  refine Ret.go (heldSRS_ret _ z2 z3 _ W3 mok2 mk3) ?_
  conv => whnf
  refine caseB_dec (fun h => ?_) (fun _ => ?_)
  · exfalso; have h : posS 1 z2 < 0 := h; omega
  conv => whnf
  refine caseB_ndec (fun h => absurd rfl h) (fun _ => ?_)
  conv => whnf
  exact ⟨_, PH.Le.refl _, rfl, (L7.trans l8).trans N9.le⟩

end Go.Proofs.YtafgnmiflngjhaaGreatDoor
