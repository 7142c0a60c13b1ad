/-
  CONTRACTS AND THE LAW: an entry taken out.
-/
import Derived.Test.YtafgnmiflngjhaaGreatDoorWg
namespace Go.Proofs.YtafgnmiflngjhaaGreatDoor
set_option maxRecDepth 100000
set_option linter.unusedSimpArgs false
set_option linter.unusedVariables false
open Go.Xe
def dropK (es : List En) (k : ByteArray) : List En := es.filter fun e => !seq e.key k
abbrev dropP (ps : List EP) (k : ByteArray) : List EP := ps.filter fun y => !seq y.1.c.key k
theorem dropP_c (ps : List EP) (k : ByteArray) : (dropP ps k).map (·.1.c) = dropK (ps.map (·.1.c)) k := by
  unfold dropP dropK
  rw [List.filter_map]
  rfl
def dropS (s : Sc) (k : ByteArray) : Sc := ⟨s.bud, s.gd, dropK s.tr k, dropK s.kp k⟩
noncomputable def dropR (s : Sc) (k : ByteArray) : Sc := if swF s k = 0 then dropS s k else zSc
theorem sub_cost {f : En → Nat} {a b : List En} (h : a.Sublist b) : costL f a ≤ costL f b := by
  induction h with
  | slnil => exact Nat.le_refl _
  | cons x _ ih => unfold costL at *; simp only [List.map_cons, List.sum_cons, List.length_cons]; omega
  | cons_cons x _ ih => unfold costL at *; simp only [List.map_cons, List.sum_cons, List.length_cons]; omega
theorem dropR_cost {s : Sc} (k : ByteArray) (h : s.cost ≤ 1048576) : (dropR s k).cost ≤ 1048576 := by
  unfold dropR
  split
  · have a := sub_cost (f := En.cost) (List.filter_sublist (p := fun e : En => !seq e.key k) (l := s.tr))
    have b := sub_cost (f := En.cost) (List.filter_sublist (p := fun e : En => !seq e.key k) (l := s.kp))
    unfold Sc.cost dropS dropK at *
    simp only
    omega
  · show costL En.cost [] + costL En.cost [] ≤ _
    decide
theorem flat_sub (p : EP → Bool) : ∀ ps : List EP, ((ps.filter p).flatMap EP.blks).Sublist (ps.flatMap EP.blks)
  | [] => List.Sublist.refl _
  | x :: r => by
    rw [List.filter_cons]
    split
    · rw [List.flatMap_cons, List.flatMap_cons]
      exact List.Sublist.append (List.Sublist.refl _) (flat_sub p r)
    · rw [List.flatMap_cons]
      exact (flat_sub p r).trans (List.sublist_append_right _ _)
/-- Fewer entries of a row of one's own. -/
theorem Dw.fewer {M : PH} {o o' : Option Nat} {A' : Option Addr} {c' : Nat} {ps : List EP} (p : EP → Bool) (hE : ∀ (j : Nat) y, ps[j]? = some y → Ed M y) (hs : Sep (dwL o ps)) (hO : Ow M o' A' c' 13 EP.cs (ps.filter p)) (ho : o' = o ∨ ∀ b ∈ ps.flatMap EP.blks, Apart o' b) : Dw M o' A' c' (ps.filter p) := by
  refine ⟨hO, fun j y hy => ?_, ?_⟩
  · have hm := List.mem_of_getElem? hy
    obtain ⟨i, hi⟩ := List.mem_iff_getElem?.1 (List.mem_filter.1 hm).1
    exact hE i y hi
  · refine List.pairwise_cons.2 ⟨fun b hb => ?_, (List.pairwise_cons.1 hs).2.sublist (flat_sub p ps)⟩
    have hb := (flat_sub p ps).subset hb
    rcases ho with rfl | ho
    · exact (List.pairwise_cons.1 hs).1 b hb
    · exact ho b hb
theorem dwL_fewer {o : Option Nat} {ps : List EP} (p : EP → Bool) : ∀ b ∈ dwL o (ps.filter p), b ∈ dwL o ps := fun b hb => by
  rcases List.mem_cons.1 hb with rfl | hb
  · exact List.mem_cons_self
  · exact List.mem_cons_of_mem _ ((flat_sub p ps).subset hb)
theorem drop1_ret (k : ByteArray) (w : EnA) (M : PH) : XCall env 185 [.v w.val, .bp 0 0] [⟨9, [.v (Tx k)]⟩] M fun r b M' => r = B (seq w.c.key k) ∧ b = [⟨9, [.v (Tx k)]⟩] ∧ M' = M := by
  refine xcall_of_vc Tryz.func185 rfl _ Tryz.ntmps185 _ rfl (fun _ _ => Tryz.call185 _ _) rfl (fun w0 ρ0 => ?_)
  conv => whnf
  exact ⟨_, PH.Le.refl _, rfl, rfl, rfl⟩
theorem drop_ret (s : So) (k : ByteArray) (M : PH) (h : Dso M s) (hn1 : s.p1.length ≤ 1048576) (hn2 : s.p2.length ≤ 1048576) :
    XCall env 132 [.bp 0 0, .v (Tx k)] [soBox s] M fun r b M' => r = .tuple #[] ∧ ∃ s', b = [soBox s'] ∧ s'.c = dropS s.c k ∧ Dso M' s' ∧ KeepsL (soL s) M M' ∧ ∀ b ∈ soL s', b ∈ soL s := by
  have d1 := deleteFunc_ret 9 (Tx k) 185 (fun y => seq y.1.c.key k) s.o1 s.A1 s.c1 s.p1 M h.t.row hn1 fun y _ M => drop1_ret k y.1 M
  refine xcall_of_vc Tryz.func132 rfl _ Tryz.ntmps132 _ rfl (fun _ _ => Tryz.call132 _ _) rfl (fun w0 ρ0 => ?_)
  conv => whnf
  repeat' (first | (refine ⟨⟨[], rfl⟩, _, PH.Le.refl _, bot_le _, ?_⟩; conv => whnf) | (refine ⟨⟨_, rfl⟩, _, PH.Le.refl _, bot_le _, ?_⟩; conv => whnf) | (refine caseB_true ?_; conv => whnf) | (refine caseB_false ?_; conv => whnf) | ((with_reducible refine caseB_dec (fun h => ?_) (fun h => ?_)) <;> conv => whnf) | ((with_reducible refine caseB_ndec (fun h => ?_) (fun h => ?_)) <;> conv => whnf) | ((with_reducible refine caseB_not (fun h => ?_) (fun h => ?_)) <;> conv => whnf) | (refine draw_ruleJ (none) (.light 0 <| .light 1 <| .light 2 <| .light 3 <| .light 4 <| .light 5 <| .light 6 <| .light 8 <| .light 9 <| .light 10 <| .light 11 <| .light 12 <| .alt 7 false (.alt 13 false (.light 14 <| .light 15 <| .alt 16 true (.light 17 <| .light 18 <| .alt 19 true (.done) .nil) .nil) .nil) .nil) (by decide +kernel) (bot_le _) ?_; conv => whnf) | (with_reducible refine @And.intro (guardVC _ _ _ _ _) _ ?_ ?_) <;> conv => whnf | (refine caseB_intro (fun h => ?_) (fun h => ?_) <;> (try simp only [Bool.not_eq_true', Bool.not_eq_false', decide_eq_true_eq, decide_eq_false_iff_not] at h) <;> conv => whnf))
  refine XCall.lift d1 [1] ?_ (by simp) (by simp) (by simp [AV.plain]) ?_
  · simp [ren]
  rintro r bs' M1 ⟨rfl, rfl, O1, K1⟩
  refine ⟨by simp [AV.plain], ?_⟩
  have D2 : Dw M1 s.o2 s.A2 s.c2 s.p2 := h.k.keepsL (Keeps.inL K1 (by simp : s.o1 ∈ [s.o1])) fun a ha b hb => by simp at hb; subst hb; exact (h.ap _ (by simp) a ha).symm
  have d2 := deleteFunc_ret 9 (Tx k) 185 (fun y => seq y.1.c.key k) s.o2 s.A2 s.c2 s.p2 M1 D2.row hn2 fun y _ M => drop1_ret k y.1 M
  (first | (refine ⟨⟨_, rfl⟩, _, PH.Le.refl _, bot_le _, ?_⟩; conv => whnf) | conv => whnf)
  refine XCall.lift d2 [1] ?_ (by simp) (by simp) (by simp [AV.plain]) ?_
  · simp [ren]
  rintro r bs' M2 ⟨rfl, rfl, O2, K2⟩
  refine ⟨by simp [AV.plain], ?_⟩
  (first | (refine ⟨⟨_, rfl⟩, _, PH.Le.refl _, bot_le _, ?_⟩; conv => whnf) | conv => whnf)
  have E1 : Dw M1 s.o1 s.A1 s.c1 (dropP s.p1 k) := Dw.fewer _ (fun j y hy => (h.t.ed j y hy).keeps K1 (sep_o h.t.sep hy)) h.t.sep O1 (.inl rfl)
  have E2 : Dw M2 s.o2 s.A2 s.c2 (dropP s.p2 k) := Dw.fewer _ (fun j y hy => (D2.ed j y hy).keeps K2 (sep_o D2.sep hy)) D2.sep O2 (.inl rfl)
  have E3 : Dw M2 s.o1 s.A1 s.c1 (dropP s.p1 k) := E1.keepsL (Keeps.inL K2 (by simp : s.o2 ∈ [s.o2])) fun a ha b hb => by simp at hb; subst hb; exact h.ap a (dwL_fewer _ a ha) _ (by simp)
  exact ⟨_, PH.Le.refl _, rfl, ⟨s.b, s.g, s.o1, s.A1, s.c1, dropP s.p1 k, s.o2, s.A2, s.c2, dropP s.p2 k⟩, rfl, by unfold So.c dropS; rw [dropP_c, dropP_c], ⟨E3, E2, fun a ha b hb => h.ap a (dwL_fewer _ a ha) b (dwL_fewer _ b hb)⟩, (Keeps.inL K1 (List.mem_append_left _ (by simp))).trans (Keeps.inL K2 (List.mem_append_right _ (by simp))), fun b hb => (List.mem_append.1 hb).elim (fun hb => List.mem_append_left _ (dwL_fewer _ b hb)) (fun hb => List.mem_append_right _ (dwL_fewer _ b hb))⟩
theorem l8Without_ret (A : Option Addr) (c : Nat) (o : Option Nat) (ps : List EP) (k : ByteArray) (M : PH) (h : Dw M o A c ps) (hn : ps.length ≤ 1048576) :
    ACall env 188 [.slice A ps.length c, Tx k] M fun r M' => ∃ o' A' c', r = .slice A' (dropP ps k).length c' ∧ M.Le M' ∧ Dw M' o' A' c' (dropP ps k) ∧ ∀ g, o' = some g → M g = none := by
  have hs := h.row.sl EP.len
  refine xcall_of_vc Tryz.func188 rfl _ Tryz.ntmps188 _ rfl (fun _ _ => Tryz.call188 _ _) rfl (fun w0 ρ0 => ?_)
  conv => whnf
  intro g1 hg1
  conv => whnf
  have l0 := PH.Le.set (.cells (#[] : Array Value) 44 (0, 0)) hg1
  refine loop_rule (fun z : G1 => ⟨slots 29 [(0, .v (.slice A ps.length c)), (1, .v (Tx k)), (5, .v (.slice z.2.2.1 (dropP (ps.take z.1) k).length z.2.2.2)), (6, .v (I z.1))], []⟩)
    (fun z M' => z.1 ≤ ps.length ∧ New M M' z.2.1 z.2.2.1 z.2.2.2 13 EP.cs (dropP (ps.take z.1) k)) (fun z => ps.length - z.1) (0, none, some ⟨g1, 0, none⟩, 0) ?_ ?_ ?_
  · exact ⟨by simp [slots, leT], ⟨[], rfl⟩, Nat.zero_le _, rfl, rfl⟩
  · exact ⟨Nat.zero_le _, Ow.nil, l0, fun g e => nomatch e⟩
  rintro ⟨i, o2, D, d⟩ M1 ⟨hi0, hN⟩
  have hi0 : i ≤ ps.length := hi0
  have hN : New M M1 o2 D d 13 EP.cs (dropP (ps.take i) k) := hN
  have hlt : (dropP (ps.take i) k).length ≤ (ps.take i).length := List.length_filter_le _ _
  rw [List.length_take] at hlt
  conv => whnf
  refine caseB_dec (fun h0 => ?_) (fun h0 => ?_)
  · have h0 : (i : Int) < ps.length := h0
    have hi' : i < ps.length := by omega
    have hw : IntKind.i64.wrap ((i : Int) + 1) = (i : Int) + 1 := wr_id (by omega) (by omega)
    obtain ⟨hA, _, hc⟩ := (hs.mono hN.le).get hi'
    have hft : dropP (ps.take (i + 1)) k = dropP (ps.take i) k ++ if (!seq ps[i].1.c.key k) = true then [ps[i]] else [] := filter_take (fun y : EP => !seq y.1.c.key k) hi'
    generalize ps[i] = y at *
    have hb1 : (0 : Int) ≤ (i : Int) := by omega
    conv => whnf
    refine ⟨hb1, h0, hA, ?_⟩
    conv => whnf
    refine ⟨_, cells_cut hc 0 rfl, ?_⟩
    conv => whnf
    refine caseB_not (fun hp => ?_) (fun hp => ?_)
    · have e1 : dropP (ps.take (i + 1)) k = dropP (ps.take i) k ++ [y] := by rw [hft, hp]; rfl
      conv => whnf
      refine ⟨hb1, h0, hA, ?_⟩
      conv => whnf
      refine ⟨EP.cs y, hc, rfl, ?_⟩
      conv => whnf
      intro g0 hg0
      conv => whnf
      have l2 := PH.Le.set (.cells ([y].flatMap EP.cs).toArray 44 (0, 0)) hg0
      have hS := sl_full EP.len M1 g0 [y] 44 (0, 0)
      refine app_sl (te := ti44) (f := EP.cs) (xs := dropP (ps.take i) k) (ys := [y]) (o := o2) hS (hN.ow.mono l2) EP.len EP.one rfl (en_fits _ _ (by show _ + 1 ≤ _; omega)) (by show _ + 1 ≤ _; omega) fun o' A' c' M' hO hK hF => ?_
      conv => whnf
      exact ⟨(i + 1, o', A', c'), ⟨by simp [slots, leT, hw, e1], ⟨_, rfl⟩, Nat.zero_le _, rfl, rfl⟩, ⟨hi', by show New _ _ _ _ _ _ _ _; rw [e1]; exact hN.more l2 hK hO hF⟩, by show _ - (i + 1) < _ - i; omega⟩
    · have e1 : dropP (ps.take (i + 1)) k = dropP (ps.take i) k := by rw [hft, hp]; simp
      conv => whnf
      exact ⟨(i + 1, o2, D, d), ⟨by simp [slots, leT, hw, e1], ⟨_, rfl⟩, Nat.zero_le _, rfl, rfl⟩, ⟨hi', by show New _ _ _ _ _ _ _ _; rw [e1]; exact hN⟩, by show _ - (i + 1) < _ - i; omega⟩
  · have hi' : i = ps.length := by have : ¬ (i : Int) < ps.length := h0; omega
    subst hi'
    rw [List.take_length] at hN
    have kP : Kn M (ps.flatMap EP.blks) := fun b hb => h.kn b (List.mem_cons_of_mem _ hb)
    have fN : Fr M [o2] := fun b hb g e => by simp at hb; subst hb; exact hN.fr g e
    conv => whnf
    exact ⟨_, PH.Le.refl _, o2, D, d, by rw [List.take_length]; rfl, hN.le, Dw.fewer _ (fun j y hy => (h.ed j y hy).mono hN.le) h.sep hN.ow (.inr fun b hb => (apart_of kP fN b hb o2 (by simp)).symm), hN.fr⟩
theorem l8Drop_ret (s : So) (k : ByteArray) (M : PH) (h : Dso M s) (hn1 : s.p1.length ≤ 1048576) (hn2 : s.p2.length ≤ 1048576) :
    XCall env 139 [.bp 0 0, .v (Tx k)] [soBox s] M fun r b M' => r = .tuple #[] ∧ ∃ s', b = [soBox s'] ∧ s'.c = dropS s.c k ∧ Dso M' s' ∧ M.Le M' ∧ ∀ b ∈ soL s', b ∈ soL s ∨ ∀ g, b = some g → M g = none := by
  refine xcall_of_vc Tryz.func139 rfl _ Tryz.ntmps139 _ rfl (fun _ _ => Tryz.call139 _ _) rfl (fun w0 ρ0 => ?_)
  conv => whnf
  refine ACall.step (l8Without_ret s.A1 s.c1 s.o1 s.p1 k M h.t hn1) fun v M1 hh => ?_
  obtain ⟨o1, A1, c1, rfl, l1, D1, f1⟩ := hh
  conv => whnf
  refine ACall.step (l8Without_ret s.A2 s.c2 s.o2 s.p2 k M1 (h.k.mono l1) hn2) fun v M2 hh => ?_
  obtain ⟨o2, A2, c2, rfl, l2, D2, f2⟩ := hh
  conv => whnf
  have kP1 : Kn M ((dropP s.p1 k).flatMap EP.blks) := fun b hb => h.t.kn b (dwL_fewer _ b (List.mem_cons_of_mem _ hb))
  have kP2 : Kn M ((dropP s.p2 k).flatMap EP.blks) := fun b hb => h.k.kn b (dwL_fewer _ b (List.mem_cons_of_mem _ hb))
  have F1 : Fr M [o1] := fun b hb g e => by simp at hb; subst hb; exact f1 g e
  have F2 : Fr M1 [o2] := fun b hb g e => by simp at hb; subst hb; exact f2 g e
  refine ⟨_, PH.Le.refl _, rfl, ⟨s.b, s.g, o1, A1, c1, dropP s.p1 k, o2, A2, c2, dropP s.p2 k⟩, rfl, by unfold So.c dropS; rw [dropP_c, dropP_c], ⟨D1.mono l2, D2, fun a ha b hb => ?_⟩, l1.trans l2, fun b hb => ?_⟩
  · have ha' : a ∈ dwL o1 (dropP s.p1 k) := ha
    have hb' : b ∈ dwL o2 (dropP s.p2 k) := hb
    rcases List.mem_cons.1 hb' with rfl | hb2
    · exact apart_of D1.kn F2 a ha' _ (by simp)
    · rcases List.mem_cons.1 ha' with rfl | ha2
      · exact (apart_of kP2 F1 b hb2 _ (by simp)).symm
      · exact h.ap a (dwL_fewer _ a (List.mem_cons_of_mem _ ha2)) b (dwL_fewer _ b (List.mem_cons_of_mem _ hb2))
  · rcases List.mem_append.1 hb with hb | hb
    · have hb : b ∈ dwL o1 (dropP s.p1 k) := hb
      rcases List.mem_cons.1 hb with rfl | hb
      · exact .inr f1
      · exact .inl (List.mem_append_left _ (dwL_fewer _ b (List.mem_cons_of_mem _ hb)))
    · have hb : b ∈ dwL o2 (dropP s.p2 k) := hb
      rcases List.mem_cons.1 hb with rfl | hb
      · exact .inr fun g e => none_of_le l1 (f2 g e)
      · exact .inl (List.mem_append_right _ (dwL_fewer _ b (List.mem_cons_of_mem _ hb)))
theorem dropEntry_spec (x : StA) (k : ByteArray) (M : PH) (hi : x.inn M) (hco : x.c.cost ≤ 1048576) :
    ACall env 65 [x.val, Tx k] M fun r M' => ∃ s : So, r = srS (swF x.c k) s ∧ s.c = dropR x.c k ∧ NewS M M' s := by
  refine xcall_of_vc Tryz.func65 rfl _ Tryz.ntmps65 _ rfl (fun _ _ => Tryz.call65 _ _) rfl (fun w0 ρ0 => ?_)
  conv => whnf
  refine XCall.lift (l8Ask_ret x k M hi hco) [0] ?_ (by simp) (by simp) (by simp [AV.plain]) ?_
  · simp [ren]
  rintro r bs' M1 ⟨⟨s, rfl, es, hs⟩, rfl⟩
  refine ⟨by simp [AV.plain], ?_⟩
  conv => whnf
  refine caseB_ndec (fun h => ?_) (fun h => ?_)
  · conv => whnf
    exact ⟨M, hs.le, zSo, rfl, by unfold dropR; rw [if_neg h]; rfl, zSo_new M⟩
  rw [if_pos h] at es
  have hcs : s.c.cost ≤ 1048576 := by rw [es]; exact hco
  obtain ⟨hn1, hn2⟩ := so_len hcs
  conv => whnf
  refine XCall.lift (l8Drop_ret s k M1 hs.d hn1 hn2) [2] ?_ (by simp) (by simp) (by simp [AV.plain]) ?_
  · simp [ren]
  rintro r bs' M2 ⟨rfl, s', rfl, ec, hD, hl, hf⟩
  refine ⟨by simp [AV.plain], ?_⟩
  conv => whnf
  exact ⟨_, PH.Le.refl _, s', by rw [h]; rfl, by unfold dropR; rw [if_pos h, ec, es], hD, hs.le.trans hl, fun b hb g e => (hf b hb).elim (fun hb => hs.fr b hb g e) (fun hb => none_of_le hs.le (hb g e))⟩
theorem dropEntry_impl (x : StA) (k : ByteArray) (M : PH) (hi : x.inn M) (hco : x.c.cost ≤ 1048576) :
    ACall env 55 [x.val, Tx k] M fun r M' => ∃ s : So, r = srS (swF x.c k) s ∧ s.c = dropR x.c k ∧ NewS M M' s := by
  refine xcall_of_vc Tryz.func55 rfl _ Tryz.ntmps55 _ rfl (fun _ _ => Tryz.call55 _ _) rfl (fun w0 ρ0 => ?_)
  conv => whnf
  refine Ret.go (storeWith_ret x k _ hi hco) ?_
  conv => whnf
  refine caseB_ndec (fun h => ?_) (fun h => ?_)
  · conv => whnf
    exact ⟨M, PH.Le.refl _, zSo, rfl, by unfold dropR; rw [if_neg h]; rfl, zSo_new M⟩
  conv => whnf
  refine ACall.step (copyStore_ret x M hi hco) fun v M1 hh => ?_
  obtain ⟨s, rfl, es, hs⟩ := hh
  have hcs : s.c.cost ≤ 1048576 := by rw [es]; exact hco
  obtain ⟨hn1, hn2⟩ := so_len hcs
  conv => whnf
  refine XCall.lift (drop_ret s k M1 hs.d hn1 hn2) [2] ?_ (by simp) (by simp) (by simp [AV.plain]) ?_
  · simp [ren]
  rintro r bs' M2 ⟨rfl, s', rfl, ec, hD, hK, hf⟩
  refine ⟨by simp [AV.plain], ?_⟩
  conv => whnf
  exact ⟨_, PH.Le.refl _, s', by rw [h]; rfl, by unfold dropR; rw [if_pos h, ec, es], hD, hK.over hs.le hs.fr, fun b hb g e => hs.fr b (hf b hb) g e⟩
theorem dropEntry_law (x : StA) (k : ByteArray) (M : PH) (hi : x.inn M) (ho : x.c.okl) :
    ACall env 10 [x.val, Tx k] M fun r M' => r = B true ∧ M.Le M' := by
  refine xcall_of_vc Tryz.func10 rfl _ Tryz.ntmps10 _ rfl (fun _ _ => Tryz.call10 _ _) rfl (fun w0 ρ0 => ?_)
  conv => whnf
  refine caseB_dec (fun h => ?_) (fun _ => ?_)
  · conv => whnf
    exact ⟨_, PH.Le.refl _, rfl, PH.Le.refl _⟩
  conv => whnf
  refine ACall.step (szStore_ret x _ M hi ho (by omega) (by omega)) fun v M0 hh => ?_
  obtain ⟨m, rfl, rfl, hm⟩ := hh
  conv => whnf
  refine caseB_dec (fun h0 => ?_) (fun h0 => ?_)
  · conv => whnf
    exact ⟨_, PH.Le.refl _, rfl, PH.Le.refl _⟩
  have hm := hm (by omega)
  have hco : x.c.cost ≤ 1048576 := by omega
  clear hm h0 ho
  have hpc : (dropR x.c k).cost ≤ 1048576 := dropR_cost k hco
  conv => whnf
  refine ACall.step (toStore_ret x _ hi hco) fun v M1 hh => ?_
  obtain ⟨y1, rfl, e1, l1, i1⟩ := hh
  conv => whnf
  refine ACall.step (dropEntry_spec y1 k M1 i1 (by rw [e1]; exact hco)) fun v M2 hh => ?_
  obtain ⟨z1, rfl, c1, N1⟩ := hh
  rw [e1] at c1 ⊢
  have l2 := l1.trans N1.le
  conv => whnf
  refine ACall.step (toStore_own x _ (hi.mono l2) hco) fun v M3 hh => ?_
  obtain ⟨s, rfl, es, l3, D, F⟩ := hh
  have l4 := l2.trans l3
  conv => whnf
  have hsv := s.sta_val
  have hsc := s.sta_c
  have hcs : s.sta.c.cost ≤ 1048576 := by rw [hsc, es]; exact hco
  have hI := dropEntry_impl s.sta k M3 D.inn hcs
  rw [hsv, hsc, es] at hI
  refine ACall.step hI fun v M4 hh => ?_
  obtain ⟨z2, rfl, c2, N2⟩ := hh
  have l5 := l4.trans N2.le
  conv => whnf
  have W1 := N1.d.mono (l3.trans N2.le)
  have W2 := N2.d
  have ap1 := apart_of N1.d.kn F
  have ap2 : ∀ a ∈ soL z2, ∀ b ∈ soL s, Apart a b := fun a ha b hb => (apart_of D.kn N2.fr b hb a ha).symm
  have ap12 : ∀ a ∈ soL z1, ∀ b ∈ soL z2, Apart a b := apart_of (N1.d.mono l3).kn N2.fr
  have D := D.mono N2.le
  have q12 : z2.c = z1.c := by rw [c1, c2]
  have q2 : z2.c.cost ≤ 1048576 := by rw [c2]; exact hpc
  have mok2 : Mok 1 z2 := Mok.of (by omega) (by omega)
  have hps2 := posS_end mok2
  refine Ret.go (eqSRS_ret _ z2 z1 _ W2 W1 q12 q2) ?_
  conv => whnf
  refine caseB_false ?_
  conv => whnf
  repeat' (first | (refine ⟨⟨[], rfl⟩, _, PH.Le.refl _, PH.Le.refl _, ?_⟩; conv => whnf) | (refine caseB_true ?_; conv => whnf) | (refine caseB_false ?_; conv => whnf) | ((with_reducible refine caseB_dec (fun h => ?_) (fun h => ?_)) <;> conv => whnf) | ((with_reducible refine caseB_ndec (fun h => ?_) (fun h => ?_)) <;> conv => whnf) | ((with_reducible refine caseB_not (fun h => ?_) (fun h => ?_)) <;> conv => whnf) | (refine draw_rule (.light 0 <| .light 1 <| .alt 2 false (.alt 3 false (.light 4 <| .done) .nil) .nil) (by decide +kernel) ?_; conv => whnf) | (with_reducible refine @And.intro (guardVC _ _ _ _ _) _ ?_ ?_) <;> conv => whnf | (refine caseB_intro (fun h => ?_) (fun h => ?_) <;> (try simp only [Bool.not_eq_true', Bool.not_eq_false', decide_eq_true_eq, decide_eq_false_iff_not] at h) <;> conv => whnf))
  refine ACall.step (toStore_ret x _ (hi.mono l5) hco) fun v M5 hh => ?_
  obtain ⟨y5, rfl, e5, l6, i5⟩ := hh
  (first | (refine ⟨⟨[], rfl⟩, _, l6, PH.Le.refl _, ?_⟩; conv => whnf) | conv => whnf)
  have D := D.mono l6
  have W1 := W1.mono l6
  have W2 := W2.mono l6
  have hq := eqStore_ret s.sta y5 _ D.inn i5 (by rw [hsc, es, e5]) hcs
  rw [hsv] at hq
  refine Ret.go hq ?_
  (first | (refine ⟨⟨[], rfl⟩, _, PH.Le.refl _, PH.Le.refl _, ?_⟩; conv => whnf) | conv => whnf)
  refine caseB_false ?_
  conv => whnf
  have mok : Mok 1 s := Mok.of (by omega) (by rw [← hsc]; omega)
  refine ACall.step (markStore_ret s 1 _ D mok) fun v M6 hh => ?_
  obtain ⟨s', rfl, _, _, K6⟩ := hh
  have hps := posS_end mok
  have W1 := W1.keepsL K6 ap1
  have W2 := W2.keepsL K6 ap2
  have L6 : M0.Le M6 := K6.over (l5.trans l6) (F.le l2)
  conv => whnf
  refine caseB_dec (fun h => ?_) (fun _ => ?_)
  · exfalso; omega
  conv => whnf
  repeat (refine caseB_false ?_; conv => whnf)
  refine Ret.go (eqSRS_ret _ z2 z1 _ W2 W1 q12 q2) ?_
  conv => whnf
  repeat (refine caseB_false ?_; conv => whnf)
  refine ACall.step (markSRS_ret _ z2 _ W2 mok2) fun v M7 hh => ?_
  obtain ⟨z3, rfl, mk3, W3, K7⟩ := hh
  have W1 := W1.keepsL K7 ap12
  have L7 : M0.Le M7 := K7.over L6 (N2.fr.le l4)
  conv => whnf
  refine Ret.go (heldSRS_ret _ z2 z3 _ W3 mok2 mk3) ?_
  conv => whnf
  refine caseB_dec (fun h => ?_) (fun _ => ?_)
  · exfalso; have h : posS 1 z2 < 0 := h; omega
  conv => whnf
  refine caseB_ndec (fun h => absurd rfl h) (fun _ => ?_)
  conv => whnf
  refine ACall.step (toStore_ret x _ (hi.mono L7) hco) fun v M8 hh => ?_
  obtain ⟨y8, rfl, e8, l8, i8⟩ := hh
  conv => whnf
  refine ACall.step (dropEntry_impl y8 k M8 i8 (by rw [e8]; exact hco)) fun v M9 hh => ?_
  obtain ⟨z9, rfl, c9, N9⟩ := hh
  rw [e8] at c9 ⊢
  conv => whnf
  have W1 := (W1.mono l8).mono N9.le
  have W3 := (W3.mono l8).mono N9.le
  refine Ret.go (eqSRS_ret _ z9 z1 _ N9.d W1 (by rw [c9, c1]) (by rw [c9]; exact hpc)) ?_
  conv => whnf
  refine caseB_false ?_
  conv => whnf
  refine Ret.go (heldSRS_ret _ z2 z3 _ W3 mok2 mk3) ?_
  conv => whnf
  refine caseB_dec (fun h => ?_) (fun _ => ?_)
  · exfalso; have h : posS 1 z2 < 0 := h; omega
  conv => whnf
  refine caseB_ndec (fun h => absurd rfl h) (fun _ => ?_)
  conv => whnf
  exact ⟨_, PH.Le.refl _, rfl, (L7.trans l8).trans N9.le⟩

end Go.Proofs.YtafgnmiflngjhaaGreatDoor
