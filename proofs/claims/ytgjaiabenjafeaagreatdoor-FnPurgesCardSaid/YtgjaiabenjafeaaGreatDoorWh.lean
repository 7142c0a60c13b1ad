/-
  CONTRACTS: entries taken out. CONTRACTS AND THE LAW: an entry taken out.
-/
import Derived.Test.YtgjaiabenjafeaaGreatDoorWf
namespace Go.Proofs.YtgjaiabenjafeaaGreatDoor
set_option maxRecDepth 100000
set_option linter.unusedSimpArgs false
set_option linter.unusedVariables false
open Go.Xe
/-- The place of the first of a slice that a function is true of; -1 if there is none. -/
theorem indexFuncEp (ty : TypeId) (x0 : Value) (g : FuncId) (p : EP → Bool) (A : Option Addr) (c : Nat) (ws : List EP) (M : PH) (hs : Sl M A 13 EP.cs ws) (hn : ws.length ≤ 4294967296)
    (hg : ∀ x ∈ ws, XCall env g (.v x.1.val :: [.bp 0 0]) [⟨ty, [.v x0]⟩] M fun r b M' => r = B (p x) ∧ b = [⟨ty, [.v x0]⟩] ∧ M' = M) :
    XCall env 148 [.v (.slice A ws.length c), .fn g [0]] [⟨ty, [.v x0]⟩] M fun r b M' => r = I (idxF p ws) ∧ b = [⟨ty, [.v x0]⟩] ∧ M' = M := by
  refine xcall_of_vc Tryz.func148 rfl _ Tryz.ntmps148 _ rfl (fun _ _ => Tryz.call148 _ _) rfl (fun w0 ρ0 => ?_)
  conv => whnf
  refine loop_rule (fun i : Nat => ⟨slots 19 [(0, .v (.slice A ws.length c)), (1, .fn g [0]), (4, .v (I 0)), (7, .v (I ws.length)), (8, .v (I i))], [⟨ty, [.v x0]⟩]⟩) (fun i M' => i ≤ ws.length ∧ (∀ j, j < i → ∀ h : j < ws.length, p ws[j] = false) ∧ M' = M) (fun i => ws.length - i) 0 ?_ ?_ ?_
  · exact ⟨by simp [slots, leT], ⟨[], rfl⟩, (by first | exact Nat.zero_le _ | exact Nat.le_refl _), rfl, rfl⟩
  · exact ⟨Nat.zero_le _, fun j hj => absurd hj (Nat.not_lt_zero _), rfl⟩
  · rintro i M' ⟨hi, hp, rfl⟩
    conv => whnf
    repeat' (first | (refine ⟨⟨[], rfl⟩, _, PH.Le.refl _, PH.Le.refl _, ?_⟩; conv => whnf) | (refine caseB_true ?_; conv => whnf) | (refine caseB_false ?_; conv => whnf) | ((with_reducible refine caseB_dec (fun h => ?_) (fun h => ?_)) <;> conv => whnf) | ((with_reducible refine caseB_ndec (fun h => ?_) (fun h => ?_)) <;> conv => whnf) | ((with_reducible refine caseB_not (fun h => ?_) (fun h => ?_)) <;> conv => whnf) | (with_reducible refine @And.intro (guardVC _ _ _ _ _) _ ?_ ?_) <;> conv => whnf | (refine caseB_intro (fun h => ?_) (fun h => ?_) <;> (try simp only [Bool.not_eq_true', Bool.not_eq_false', decide_eq_true_eq, decide_eq_false_iff_not] at h) <;> conv => whnf))
    · have hi' : i < ws.length := by omega
      have hw : IntKind.i64.wrap ((i : Int) + 1) = (i : Int) + 1 := wr_id (by omega) (by omega)
      obtain ⟨hA, _, hc⟩ := hs.get hi'
      refine ⟨by omega, by omega, hA, ?_⟩
      conv => whnf
      refine ⟨EP.cs ws[i], hc, rfl, ?_⟩
      conv => whnf
      refine XCall.mono (hg ws[i] (List.getElem_mem hi')) fun r b M' hh => ?_
      obtain ⟨rfl, rfl, rfl⟩ := hh
      conv => whnf
      refine caseB_intro (fun hx => ?_) (fun hx => ?_)
      · conv => whnf
        exact ⟨_, PH.Le.refl _, by rw [idxF_at p ws i hi' hp hx]; rfl, rfl, rfl⟩
      · conv => whnf
        exact ⟨i + 1, ⟨by simp [slots, leT, hw], ⟨[], rfl⟩, (by first | exact Nat.zero_le _ | exact Nat.le_refl _), rfl, rfl⟩, ⟨by omega, fun j hj h => by
          rcases Nat.lt_succ_iff_lt_or_eq.1 hj with h1 | h1
          · exact hp j h1 h
          · subst h1; exact hx, rfl⟩, by omega⟩
    · exact ⟨_, PH.Le.refl _, by rw [idxF_no p ws (fun j h => hp j (by omega) h)]; rfl, rfl, rfl⟩

theorem ow_take {M : PH} {o : Option Nat} {A : Option Addr} {c : Nat} {ps : List EP} (h : Ow M o A c 13 EP.cs ps) (i : Nat) : Ow M o A c 13 EP.cs (ps.take i) := by
  cases o with
  | none => obtain ⟨rfl, hc⟩ := h; exact ⟨by simp, hc⟩
  | some g =>
    obtain ⟨off, cells, ty, e, hg, h1, h2, hx⟩ := h
    refine ⟨off, cells, ty, e, hg, h1, by rw [List.length_take]; omega, fun j x hj => hx j x ?_⟩
    rw [List.getElem?_take] at hj
    split at hj
    · exact hj
    · cases hj
theorem getE_setlt {α : Type} {l : List α} {i j : Nat} {x : α} (h : i < j) : (l.set i x).drop j = l.drop j := by
  apply List.ext_getElem?
  intro n
  rw [List.getElem?_drop, List.getElem?_drop, List.getElem?_set, if_neg (by omega)]
theorem take_set_succ {α : Type} {l : List α} {i : Nat} {x : α} (h : i < l.length) : (l.set i x).take (i + 1) = l.take i ++ [x] := by
  rw [List.take_succ_eq_append_getElem (by simpa using h)]
  congr 1
  · apply List.ext_getElem?
    intro n
    rw [List.getElem?_take, List.getElem?_take]
    split
    · rw [List.getElem?_set, if_neg (by omega)]
    · rfl
  · simp
theorem subA0 (A : Option Addr) (sz m : Nat) : subA A 0 sz m = A := by
  unfold subA
  split
  · rfl
  · cases A <;> simp [Addr.add]
theorem filter_take {α : Type} (p : α → Bool) {l : List α} {i : Nat} (h : i < l.length) : (l.take (i + 1)).filter p = (l.take i).filter p ++ if p l[i] then [l[i]] else [] := by
  rw [List.take_succ_eq_append_getElem h, List.filter_append]
  congr 1
  by_cases e : p l[i] <;> simp [e]
theorem deleteFunc_ret (ty : TypeId) (x0 : Value) (g : FuncId) (p : EP → Bool) (o : Option Nat) (A : Option Addr) (c : Nat) (ps : List EP) (M : PH) (h : Ow M o A c 13 EP.cs ps) (hn : ps.length ≤ 1048576)
    (hg : ∀ y ∈ ps, ∀ M, XCall env g [.v y.1.val, .bp 0 0] [⟨ty, [.v x0]⟩] M fun r b M' => r = B (p y) ∧ b = [⟨ty, [.v x0]⟩] ∧ M' = M) :
    XCall env 160 [.v (.slice A ps.length c), .fn g [0]] [⟨ty, [.v x0]⟩] M fun r b M' => r = .slice A (ps.filter fun y => !p y).length c ∧ b = [⟨ty, [.v x0]⟩] ∧ Ow M' o A c 13 EP.cs (ps.filter fun y => !p y) ∧ Keeps o M M' := by
  refine xcall_of_vc Tryz.func160 rfl _ Tryz.ntmps160 _ rfl (fun _ _ => Tryz.call160 _ _) rfl (fun w0 ρ0 => ?_)
  conv => whnf
  refine XCall.mono (indexFuncEp ty x0 g p A c ps M (h.sl EP.len) (by omega) fun y hy => hg y hy M) fun r b Ms hh => ?_
  obtain ⟨rfl, rfl, rfl⟩ := hh
  have hcap := h.le
  conv => whnf
  refine caseB_dec (fun h0 => ?_) (fun h0 => ?_)
  · have hf : ps.filter (fun y => !p y) = ps := by
      have ha := idxF_any p ps
      rw [h0] at ha
      rw [List.filter_eq_self]
      intro y hy
      have hb : ps.any p = false := by rw [ha]; rfl
      rw [List.any_eq_false] at hb
      simp [hb y hy]
    conv => whnf
    exact ⟨_, PH.Le.refl _, by rw [hf]; rfl, rfl, by rw [hf]; exact h, Keeps.refl _⟩
  obtain ⟨i0, hi0, e0, hp0, hbef⟩ : ∃ i, ∃ h : i < ps.length, idxF p ps = i ∧ p ps[i] = true ∧ ∀ j, ∀ h2 : j < i, p (ps[j]'(by omega)) = false := by
    unfold idxF at h0 ⊢
    cases hx : ps.findIdx? p with
    | none => rw [hx] at h0; exact absurd rfl h0
    | some i =>
      rw [List.findIdx?_eq_some_iff_getElem] at hx
      obtain ⟨h1, h2, h3⟩ := hx
      exact ⟨i, h1, rfl, h2, fun j hj => by simpa using h3 j hj⟩
  rw [e0]
  have hw0 : IntKind.i64.wrap ((i0 : Int) + 1) = ((i0 + 1 : Nat) : Int) := by rw [wrap_id (by omega) (by omega)]; omega
  conv => whnf
  refine loop_rule (fun z : Nat × Nat × List EP => ⟨slots 42 [(0, .v (.slice A ps.length c)), (1, .fn g [0]), (5, .v (I z.1)), (6, .v (I z.2.1))], [⟨ty, [.v x0]⟩]⟩)
    (fun z M' => z.2.1 ≤ ps.length ∧ z.1 < z.2.1 ∧ z.2.2.length = ps.length ∧ z.2.2.take z.1 = (ps.take z.2.1).filter (fun y => !p y) ∧ z.2.2.drop z.2.1 = ps.drop z.2.1 ∧ Ow M' o A c 13 EP.cs z.2.2 ∧ Keeps o M' M' ∧ Keeps o Ms M') (fun z => ps.length - z.2.1) (i0, i0 + 1, ps) ?_ ?_ ?_
  · exact ⟨by simp [slots, leT, hw0], ⟨[], rfl⟩, (by first | exact Nat.zero_le _ | exact Nat.le_refl _), rfl, rfl⟩
  · refine ⟨hi0, Nat.lt_succ_self _, rfl, ?_, rfl, h, Keeps.refl _, Keeps.refl _⟩
    show ps.take i0 = _
    rw [filter_take _ hi0, hp0]
    have : (ps.take i0).filter (fun y => !p y) = ps.take i0 := by
      rw [List.filter_eq_self]
      intro y hy
      obtain ⟨j, hj, rfl⟩ := List.getElem_of_mem hy
      simp at hj
      simp [hbef j (by omega)]
    rw [this]; simp
  rintro ⟨i, j, qs⟩ M1 ⟨hj, hij, hql, htk, hdr, hO, _, hK⟩
  have hj : j ≤ ps.length := hj
  have hij : i < j := hij
  have hql : qs.length = ps.length := hql
  have htk : qs.take i = (ps.take j).filter (fun y => !p y) := htk
  have hdr : qs.drop j = ps.drop j := hdr
  have hO : Ow M1 o A c 13 EP.cs qs := hO
  conv => whnf
  refine caseB_dec (fun hb => ?_) (fun hb => ?_)
  · have hb : (j : Int) < ps.length := hb
    have hjl : j < ps.length := by omega
    have hw : IntKind.i64.wrap ((j : Int) + 1) = (j : Int) + 1 := wr_id (by omega) (by omega)
    have hwi : IntKind.i64.wrap ((i : Int) + 1) = (i : Int) + 1 := wr_id (by omega) (by omega)
    have hqj : qs[j]? = some ps[j] := by
      have := congrArg (fun l : List EP => l[0]?) hdr
      simpa [hjl] using this
    obtain ⟨_, hc⟩ := (hO.sl EP.len).at_ j _ hqj
    have hA : A.isSome = true := (hO.sl EP.len).ne (fun e => by rw [e] at hql; simp at hql; omega)
    have hgy := hg ps[j] (List.getElem_mem hjl) M1
    have hft := filter_take (fun y => !p y) hjl
    have hdr2 : qs.drop (j + 1) = ps.drop (j + 1) := by
      have := congrArg (List.drop 1) hdr
      simpa [List.drop_drop, Nat.add_comm] using this
    generalize ps[j] = y at *
    conv => whnf
    refine ⟨by omega, by omega, hA, ?_⟩
    conv => whnf
    refine ⟨EP.cs y, hc, rfl, ?_⟩
    conv => whnf
    refine XCall.lift hgy [0] ?_ (by simp) (by simp) (by simp [AV.plain]) ?_
    · simp [ren]; try rfl
    rintro r bs' M2 ⟨rfl, rfl, rfl⟩
    refine ⟨by simp [AV.plain], ?_⟩
    conv => whnf
    refine caseB_not (fun hp => ?_) (fun hp => ?_)
    · conv => whnf
      refine ⟨by omega, by omega, hA, ?_⟩
      conv => whnf
      refine own_store (i := i) (j := 0) (vs := EP.cs y) hO EP.len (by omega) (by simp) y (by rfl) fun M3 hO3 hK3 => ?_
      conv => whnf
      refine ⟨(i + 1, j + 1, qs.set i y), ⟨by simp [slots, leT, hw, hwi], ⟨_, rfl⟩, (by first | exact Nat.zero_le _ | exact Nat.le_refl _), rfl, rfl⟩, ⟨hjl, Nat.succ_lt_succ hij, by rw [List.length_set]; exact hql, ?_, ?_, hO3, Keeps.refl _, hK.trans hK3⟩, by show _ - (j + 1) < _ - j; omega⟩
      · show (qs.set i y).take (i + 1) = _
        rw [take_set_succ (by omega), htk, hft, hp]
        simp
      · show (qs.set i y).drop (j + 1) = ps.drop (j + 1)
        rw [getE_setlt (by omega)]
        exact hdr2
    · conv => whnf
      refine ⟨(i, j + 1, qs), ⟨by simp [slots, leT, hw], ⟨_, rfl⟩, (by first | exact Nat.zero_le _ | exact Nat.le_refl _), rfl, rfl⟩, ⟨hjl, Nat.lt_succ_of_lt hij, hql, ?_, hdr2, hO, Keeps.refl _, hK⟩, by show _ - (j + 1) < _ - j; omega⟩
      show qs.take i = _
      rw [htk, hft, hp]
      simp
  · have hje : j = ps.length := by have : ¬ (j : Int) < ps.length := hb; omega
    subst hje
    rw [List.take_length] at htk
    have hlen : (ps.filter fun y => !p y).length = i := by rw [← htk, List.length_take]; omega
    conv => whnf
    refine ⟨⟨by omega, by omega⟩, ?_⟩
    conv => whnf
    cases o with
    | none => obtain ⟨rfl, _⟩ := hO; simp at hql; omega
    | some g' =>
      obtain ⟨off, cells, tyr, rfl, hg', h1, h2, hx⟩ := hO
      have hzl : (zerosL ti44 (ps.length - i)).length = (ps.length - i) * 13 := by
        unfold zerosL
        rw [repl_length (sz := 13) (by kernel_rfl)]
      have hone : (zerosL ti44 (ps.length - i)).all Value.oneCell' = true := by
        have hz : (ti44.zero.cells.toList).all Value.oneCell' = true := by kernel_rfl
        unfold zerosL
        rw [List.all_eq_true] at hz ⊢
        intro v hv
        obtain ⟨l, hl, hv⟩ := List.mem_flatten.1 hv
        rw [List.eq_of_mem_replicate hl] at hv
        exact hz v hv
      have hsub : subA (some ⟨g', off, none⟩) i 13 c = some ⟨g', off + i * 13, none⟩ := by
        unfold subA
        rw [if_neg (by omega)]
        simp [add_at]
      have hcl : off + c * 13 ≤ cells.length := h1
      have hbd : off + i * 13 + (zerosL ti44 (ps.length - i)).length ≤ cells.length := by rw [hzl]; omega
      refine .inr ⟨by show ps.length - i ≠ 0; omega, .inr ⟨g', off + i * 13, cells, tyr, hsub, hg', hbd, hone, ?_⟩⟩
      conv => whnf
      refine ⟨⟨by omega, by omega, by show (i : Int) ≤ (c : Int); omega⟩, ?_⟩
      conv => whnf
      have hO2 : Ow (M1.set g' (.cells (spl cells (off + i * 13) (zerosL ti44 (ps.length - i))).toArray tyr (0, 0))) (some g') (some ⟨g', off, none⟩) c 13 EP.cs (ps.filter fun y => !p y) := by
        refine ⟨off, _, tyr, rfl, PH.set_same _ _ _, by rw [spl_length hbd]; exact h1, by rw [hlen]; omega, fun n y hn2 j2 v hv => ?_⟩
        have hni : n < i := by rw [← hlen]; exact (List.getElem?_eq_some_iff.1 hn2).1
        have hj2 : j2 < 13 := (List.getElem?_eq_some_iff.1 hv).1
        rw [spl_lt (by omega) (by omega)]
        refine hx n y ?_ j2 v hv
        rw [← htk, List.getElem?_take, if_pos hni] at hn2
        exact hn2
      refine ⟨_, PH.Le.refl _, ?_, rfl, hO2, fun k ob hk hne => ?_⟩
      · rw [hlen]
        show Value.slice (subA (some ⟨g', off, none⟩) 0 13 c) _ _ = _
        rw [subA0]
        rfl
      · have := hK k ob hk hne
        rw [PH.set_other _ _ (fun e => hne (by rw [e]))]
        exact this
def dropK (es : List En) (k : ByteArray) : List En := es.filter fun e => !seq e.key k
abbrev dropP (ps : List EP) (k : ByteArray) : List EP := ps.filter fun y => !seq y.1.c.key k
theorem dropP_c (ps : List EP) (k : ByteArray) : (dropP ps k).map (·.1.c) = dropK (ps.map (·.1.c)) k := by
  unfold dropP dropK
  rw [List.filter_map]
  rfl
def dropS (s : Sc) (k : ByteArray) : Sc := ⟨s.bud, s.gd, dropK s.tr k, dropK s.kp k⟩
noncomputable def dropR (s : Sc) (k : ByteArray) : Sc := if swF s k = 0 then dropS s k else zSc
theorem sub_cost {f : En → Nat} {a b : List En} (h : a.Sublist b) : costL f a ≤ costL f b := by
  induction h with
  | slnil => exact Nat.le_refl _
  | cons x _ ih => unfold costL at *; simp only [List.map_cons, List.sum_cons, List.length_cons]; omega
  | cons_cons x _ ih => unfold costL at *; simp only [List.map_cons, List.sum_cons, List.length_cons]; omega
theorem dropR_cost {s : Sc} (k : ByteArray) (h : s.cost ≤ 1048576) : (dropR s k).cost ≤ 1048576 := by
  unfold dropR
  split
  · have a := sub_cost (f := En.cost) (List.filter_sublist (p := fun e : En => !seq e.key k) (l := s.tr))
    have b := sub_cost (f := En.cost) (List.filter_sublist (p := fun e : En => !seq e.key k) (l := s.kp))
    unfold Sc.cost dropS dropK at *
    simp only
    omega
  · show costL En.cost [] + costL En.cost [] ≤ _
    decide
theorem flat_sub (p : EP → Bool) : ∀ ps : List EP, ((ps.filter p).flatMap EP.blks).Sublist (ps.flatMap EP.blks)
  | [] => List.Sublist.refl _
  | x :: r => by
    rw [List.filter_cons]
    split
    · rw [List.flatMap_cons, List.flatMap_cons]
      exact List.Sublist.append (List.Sublist.refl _) (flat_sub p r)
    · rw [List.flatMap_cons]
      exact (flat_sub p r).trans (List.sublist_append_right _ _)
/-- Fewer entries of a row of one's own. -/
theorem Dw.fewer {M : PH} {o o' : Option Nat} {A' : Option Addr} {c' : Nat} {ps : List EP} (p : EP → Bool) (hE : ∀ (j : Nat) y, ps[j]? = some y → Ed M y) (hs : Sep (dwL o ps)) (hO : Ow M o' A' c' 13 EP.cs (ps.filter p)) (ho : o' = o ∨ ∀ b ∈ ps.flatMap EP.blks, Apart o' b) : Dw M o' A' c' (ps.filter p) := by
  refine ⟨hO, fun j y hy => ?_, ?_⟩
  · have hm := List.mem_of_getElem? hy
    obtain ⟨i, hi⟩ := List.mem_iff_getElem?.1 (List.mem_filter.1 hm).1
    exact hE i y hi
  · refine List.pairwise_cons.2 ⟨fun b hb => ?_, (List.pairwise_cons.1 hs).2.sublist (flat_sub p ps)⟩
    have hb := (flat_sub p ps).subset hb
    rcases ho with rfl | ho
    · exact (List.pairwise_cons.1 hs).1 b hb
    · exact ho b hb
theorem dwL_fewer {o : Option Nat} {ps : List EP} (p : EP → Bool) : ∀ b ∈ dwL o (ps.filter p), b ∈ dwL o ps := fun b hb => by
  rcases List.mem_cons.1 hb with rfl | hb
  · exact List.mem_cons_self
  · exact List.mem_cons_of_mem _ ((flat_sub p ps).subset hb)
theorem drop1_ret (k : ByteArray) (w : EnA) (M : PH) : XCall env 159 [.v w.val, .bp 0 0] [⟨9, [.v (Tx k)]⟩] M fun r b M' => r = B (seq w.c.key k) ∧ b = [⟨9, [.v (Tx k)]⟩] ∧ M' = M := by
  refine xcall_of_vc Tryz.func159 rfl _ Tryz.ntmps159 _ rfl (fun _ _ => Tryz.call159 _ _) rfl (fun w0 ρ0 => ?_)
  conv => whnf
  exact ⟨_, PH.Le.refl _, rfl, rfl, rfl⟩
theorem drop_ret (s : So) (k : ByteArray) (M : PH) (h : Dso M s) (hn1 : s.p1.length ≤ 1048576) (hn2 : s.p2.length ≤ 1048576) :
    XCall env 110 [.bp 0 0, .v (Tx k)] [soBox s] M fun r b M' => r = .tuple #[] ∧ ∃ s', b = [soBox s'] ∧ s'.c = dropS s.c k ∧ Dso M' s' ∧ KeepsL (soL s) M M' ∧ ∀ b ∈ soL s', b ∈ soL s := by
  have d1 := deleteFunc_ret 9 (Tx k) 159 (fun y => seq y.1.c.key k) s.o1 s.A1 s.c1 s.p1 M h.t.row hn1 fun y _ M => drop1_ret k y.1 M
  refine xcall_of_vc Tryz.func110 rfl _ Tryz.ntmps110 _ rfl (fun _ _ => Tryz.call110 _ _) rfl (fun w0 ρ0 => ?_)
  conv => whnf
  repeat' (first | (refine ⟨⟨[], rfl⟩, _, PH.Le.refl _, bot_le _, ?_⟩; conv => whnf) | (refine ⟨⟨_, rfl⟩, _, PH.Le.refl _, bot_le _, ?_⟩; conv => whnf) | (refine caseB_true ?_; conv => whnf) | (refine caseB_false ?_; conv => whnf) | ((with_reducible refine caseB_dec (fun h => ?_) (fun h => ?_)) <;> conv => whnf) | ((with_reducible refine caseB_ndec (fun h => ?_) (fun h => ?_)) <;> conv => whnf) | ((with_reducible refine caseB_not (fun h => ?_) (fun h => ?_)) <;> conv => whnf) | (refine draw_ruleJ (none) (.light 0 <| .light 1 <| .light 2 <| .light 3 <| .light 4 <| .light 5 <| .light 6 <| .light 8 <| .light 9 <| .light 10 <| .light 11 <| .light 12 <| .alt 7 false (.alt 13 false (.light 14 <| .light 15 <| .alt 16 true (.light 17 <| .light 18 <| .alt 19 true (.done) .nil) .nil) .nil) .nil) (by decide +kernel) (bot_le _) ?_; conv => whnf) | (with_reducible refine @And.intro (guardVC _ _ _ _ _) _ ?_ ?_) <;> conv => whnf | (refine caseB_intro (fun h => ?_) (fun h => ?_) <;> (try simp only [Bool.not_eq_true', Bool.not_eq_false', decide_eq_true_eq, decide_eq_false_iff_not] at h) <;> conv => whnf))
  refine XCall.lift d1 [1] ?_ (by simp) (by simp) (by simp [AV.plain]) ?_
  · simp [ren]
  rintro r bs' M1 ⟨rfl, rfl, O1, K1⟩
  refine ⟨by simp [AV.plain], ?_⟩
  have D2 : Dw M1 s.o2 s.A2 s.c2 s.p2 := h.k.keepsL (Keeps.inL K1 (by simp : s.o1 ∈ [s.o1])) fun a ha b hb => by simp at hb; subst hb; exact (h.ap _ (by simp) a ha).symm
  have d2 := deleteFunc_ret 9 (Tx k) 159 (fun y => seq y.1.c.key k) s.o2 s.A2 s.c2 s.p2 M1 D2.row hn2 fun y _ M => drop1_ret k y.1 M
  (first | (refine ⟨⟨_, rfl⟩, _, PH.Le.refl _, bot_le _, ?_⟩; conv => whnf) | conv => whnf)
  refine XCall.lift d2 [1] ?_ (by simp) (by simp) (by simp [AV.plain]) ?_
  · simp [ren]
  rintro r bs' M2 ⟨rfl, rfl, O2, K2⟩
  refine ⟨by simp [AV.plain], ?_⟩
  (first | (refine ⟨⟨_, rfl⟩, _, PH.Le.refl _, bot_le _, ?_⟩; conv => whnf) | conv => whnf)
  have E1 : Dw M1 s.o1 s.A1 s.c1 (dropP s.p1 k) := Dw.fewer _ (fun j y hy => (h.t.ed j y hy).keeps K1 (sep_o h.t.sep hy)) h.t.sep O1 (.inl rfl)
  have E2 : Dw M2 s.o2 s.A2 s.c2 (dropP s.p2 k) := Dw.fewer _ (fun j y hy => (D2.ed j y hy).keeps K2 (sep_o D2.sep hy)) D2.sep O2 (.inl rfl)
  have E3 : Dw M2 s.o1 s.A1 s.c1 (dropP s.p1 k) := E1.keepsL (Keeps.inL K2 (by simp : s.o2 ∈ [s.o2])) fun a ha b hb => by simp at hb; subst hb; exact h.ap a (dwL_fewer _ a ha) _ (by simp)
  exact ⟨_, PH.Le.refl _, rfl, ⟨s.b, s.g, s.o1, s.A1, s.c1, dropP s.p1 k, s.o2, s.A2, s.c2, dropP s.p2 k⟩, rfl, by unfold So.c dropS; rw [dropP_c, dropP_c], ⟨E3, E2, fun a ha b hb => h.ap a (dwL_fewer _ a ha) b (dwL_fewer _ b hb)⟩, (Keeps.inL K1 (List.mem_append_left _ (by simp))).trans (Keeps.inL K2 (List.mem_append_right _ (by simp))), fun b hb => (List.mem_append.1 hb).elim (fun hb => List.mem_append_left _ (dwL_fewer _ b hb)) (fun hb => List.mem_append_right _ (dwL_fewer _ b hb))⟩
theorem l8Without_ret (A : Option Addr) (c : Nat) (o : Option Nat) (ps : List EP) (k : ByteArray) (M : PH) (h : Dw M o A c ps) (hn : ps.length ≤ 1048576) :
    ACall env 163 [.slice A ps.length c, Tx k] M fun r M' => ∃ o' A' c', r = .slice A' (dropP ps k).length c' ∧ M.Le M' ∧ Dw M' o' A' c' (dropP ps k) ∧ ∀ g, o' = some g → M g = none := by
  have hs := h.row.sl EP.len
  refine xcall_of_vc Tryz.func163 rfl _ Tryz.ntmps163 _ rfl (fun _ _ => Tryz.call163 _ _) rfl (fun w0 ρ0 => ?_)
  conv => whnf
  intro g1 hg1
  conv => whnf
  have l0 := PH.Le.set (.cells (#[] : Array Value) 44 (0, 0)) hg1
  refine loop_rule (fun z : G1 => ⟨slots 29 [(0, .v (.slice A ps.length c)), (1, .v (Tx k)), (5, .v (.slice z.2.2.1 (dropP (ps.take z.1) k).length z.2.2.2)), (6, .v (I z.1))], []⟩)
    (fun z M' => z.1 ≤ ps.length ∧ New M M' z.2.1 z.2.2.1 z.2.2.2 13 EP.cs (dropP (ps.take z.1) k)) (fun z => ps.length - z.1) (0, none, some ⟨g1, 0, none⟩, 0) ?_ ?_ ?_
  · exact ⟨by simp [slots, leT], ⟨[], rfl⟩, Nat.zero_le _, rfl, rfl⟩
  · exact ⟨Nat.zero_le _, Ow.nil, l0, fun g e => nomatch e⟩
  rintro ⟨i, o2, D, d⟩ M1 ⟨hi0, hN⟩
  have hi0 : i ≤ ps.length := hi0
  have hN : New M M1 o2 D d 13 EP.cs (dropP (ps.take i) k) := hN
  have hlt : (dropP (ps.take i) k).length ≤ (ps.take i).length := List.length_filter_le _ _
  rw [List.length_take] at hlt
  conv => whnf
  refine caseB_dec (fun h0 => ?_) (fun h0 => ?_)
  · have h0 : (i : Int) < ps.length := h0
    have hi' : i < ps.length := by omega
    have hw : IntKind.i64.wrap ((i : Int) + 1) = (i : Int) + 1 := wr_id (by omega) (by omega)
    obtain ⟨hA, _, hc⟩ := (hs.mono hN.le).get hi'
    have hft : dropP (ps.take (i + 1)) k = dropP (ps.take i) k ++ if (!seq ps[i].1.c.key k) = true then [ps[i]] else [] := filter_take (fun y : EP => !seq y.1.c.key k) hi'
    generalize ps[i] = y at *
    have hb1 : (0 : Int) ≤ (i : Int) := by omega
    conv => whnf
    refine ⟨hb1, h0, hA, ?_⟩
    conv => whnf
    refine ⟨_, cells_cut hc 0 rfl, ?_⟩
    conv => whnf
    refine caseB_not (fun hp => ?_) (fun hp => ?_)
    · have e1 : dropP (ps.take (i + 1)) k = dropP (ps.take i) k ++ [y] := by rw [hft, hp]; rfl
      conv => whnf
      refine ⟨hb1, h0, hA, ?_⟩
      conv => whnf
      refine ⟨EP.cs y, hc, rfl, ?_⟩
      conv => whnf
      intro g0 hg0
      conv => whnf
      have l2 := PH.Le.set (.cells ([y].flatMap EP.cs).toArray 44 (0, 0)) hg0
      have hS := sl_full EP.len M1 g0 [y] 44 (0, 0)
      refine app_sl (te := ti44) (f := EP.cs) (xs := dropP (ps.take i) k) (ys := [y]) (o := o2) hS (hN.ow.mono l2) EP.len EP.one rfl (en_fits _ _ (by show _ + 1 ≤ _; omega)) (by show _ + 1 ≤ _; omega) fun o' A' c' M' hO hK hF => ?_
      conv => whnf
      exact ⟨(i + 1, o', A', c'), ⟨by simp [slots, leT, hw, e1], ⟨_, rfl⟩, Nat.zero_le _, rfl, rfl⟩, ⟨hi', by show New _ _ _ _ _ _ _ _; rw [e1]; exact hN.more l2 hK hO hF⟩, by show _ - (i + 1) < _ - i; omega⟩
    · have e1 : dropP (ps.take (i + 1)) k = dropP (ps.take i) k := by rw [hft, hp]; simp
      conv => whnf
      exact ⟨(i + 1, o2, D, d), ⟨by simp [slots, leT, hw, e1], ⟨_, rfl⟩, Nat.zero_le _, rfl, rfl⟩, ⟨hi', by show New _ _ _ _ _ _ _ _; rw [e1]; exact hN⟩, by show _ - (i + 1) < _ - i; omega⟩
  · have hi' : i = ps.length := by have : ¬ (i : Int) < ps.length := h0; omega
    subst hi'
    rw [List.take_length] at hN
    have kP : Kn M (ps.flatMap EP.blks) := fun b hb => h.kn b (List.mem_cons_of_mem _ hb)
    have fN : Fr M [o2] := fun b hb g e => by simp at hb; subst hb; exact hN.fr g e
    conv => whnf
    exact ⟨_, PH.Le.refl _, o2, D, d, by rw [List.take_length]; rfl, hN.le, Dw.fewer _ (fun j y hy => (h.ed j y hy).mono hN.le) h.sep hN.ow (.inr fun b hb => (apart_of kP fN b hb o2 (by simp)).symm), hN.fr⟩
theorem l8Drop_ret (s : So) (k : ByteArray) (M : PH) (h : Dso M s) (hn1 : s.p1.length ≤ 1048576) (hn2 : s.p2.length ≤ 1048576) :
    XCall env 120 [.bp 0 0, .v (Tx k)] [soBox s] M fun r b M' => r = .tuple #[] ∧ ∃ s', b = [soBox s'] ∧ s'.c = dropS s.c k ∧ Dso M' s' ∧ M.Le M' ∧ ∀ b ∈ soL s', b ∈ soL s ∨ ∀ g, b = some g → M g = none := by
  refine xcall_of_vc Tryz.func120 rfl _ Tryz.ntmps120 _ rfl (fun _ _ => Tryz.call120 _ _) rfl (fun w0 ρ0 => ?_)
  conv => whnf
  refine ACall.step (l8Without_ret s.A1 s.c1 s.o1 s.p1 k M h.t hn1) fun v M1 hh => ?_
  obtain ⟨o1, A1, c1, rfl, l1, D1, f1⟩ := hh
  conv => whnf
  refine ACall.step (l8Without_ret s.A2 s.c2 s.o2 s.p2 k M1 (h.k.mono l1) hn2) fun v M2 hh => ?_
  obtain ⟨o2, A2, c2, rfl, l2, D2, f2⟩ := hh
  conv => whnf
  have kP1 : Kn M ((dropP s.p1 k).flatMap EP.blks) := fun b hb => h.t.kn b (dwL_fewer _ b (List.mem_cons_of_mem _ hb))
  have kP2 : Kn M ((dropP s.p2 k).flatMap EP.blks) := fun b hb => h.k.kn b (dwL_fewer _ b (List.mem_cons_of_mem _ hb))
  have F1 : Fr M [o1] := fun b hb g e => by simp at hb; subst hb; exact f1 g e
  have F2 : Fr M1 [o2] := fun b hb g e => by simp at hb; subst hb; exact f2 g e
  refine ⟨_, PH.Le.refl _, rfl, ⟨s.b, s.g, o1, A1, c1, dropP s.p1 k, o2, A2, c2, dropP s.p2 k⟩, rfl, by unfold So.c dropS; rw [dropP_c, dropP_c], ⟨D1.mono l2, D2, fun a ha b hb => ?_⟩, l1.trans l2, fun b hb => ?_⟩
  · have ha' : a ∈ dwL o1 (dropP s.p1 k) := ha
    have hb' : b ∈ dwL o2 (dropP s.p2 k) := hb
    rcases List.mem_cons.1 hb' with rfl | hb2
    · exact apart_of D1.kn F2 a ha' _ (by simp)
    · rcases List.mem_cons.1 ha' with rfl | ha2
      · exact (apart_of kP2 F1 b hb2 _ (by simp)).symm
      · exact h.ap a (dwL_fewer _ a (List.mem_cons_of_mem _ ha2)) b (dwL_fewer _ b (List.mem_cons_of_mem _ hb2))
  · rcases List.mem_append.1 hb with hb | hb
    · have hb : b ∈ dwL o1 (dropP s.p1 k) := hb
      rcases List.mem_cons.1 hb with rfl | hb
      · exact .inr f1
      · exact .inl (List.mem_append_left _ (dwL_fewer _ b (List.mem_cons_of_mem _ hb)))
    · have hb : b ∈ dwL o2 (dropP s.p2 k) := hb
      rcases List.mem_cons.1 hb with rfl | hb
      · exact .inr fun g e => none_of_le l1 (f2 g e)
      · exact .inl (List.mem_append_right _ (dwL_fewer _ b (List.mem_cons_of_mem _ hb)))
theorem dropEntry_impl (x : StA) (k : ByteArray) (M : PH) (hi : x.inn M) (hco : x.c.cost ≤ 1048576) :
    ACall env 41 [x.val, Tx k] M fun r M' => ∃ s : So, r = srS (swF x.c k) s ∧ s.c = dropR x.c k ∧ NewS M M' s := by
  refine xcall_of_vc Tryz.func41 rfl _ Tryz.ntmps41 _ rfl (fun _ _ => Tryz.call41 _ _) rfl (fun w0 ρ0 => ?_)
  conv => whnf
  refine Ret.go (storeWith_ret x k _ hi hco) ?_
  conv => whnf
  refine caseB_ndec (fun h => ?_) (fun h => ?_)
  · conv => whnf
    exact ⟨M, PH.Le.refl _, zSo, rfl, by unfold dropR; rw [if_neg h]; rfl, zSo_new M⟩
  conv => whnf
  refine ACall.step (copyStore_ret x M hi hco) fun v M1 hh => ?_
  obtain ⟨s, rfl, es, hs⟩ := hh
  have hcs : s.c.cost ≤ 1048576 := by rw [es]; exact hco
  obtain ⟨hn1, hn2⟩ := so_len hcs
  conv => whnf
  refine XCall.lift (drop_ret s k M1 hs.d hn1 hn2) [2] ?_ (by simp) (by simp) (by simp [AV.plain]) ?_
  · simp [ren]
  rintro r bs' M2 ⟨rfl, s', rfl, ec, hD, hK, hf⟩
  refine ⟨by simp [AV.plain], ?_⟩
  conv => whnf
  exact ⟨_, PH.Le.refl _, s', by rw [h]; rfl, by unfold dropR; rw [if_pos h, ec, es], hD, hK.over hs.le hs.fr, fun b hb g e => hs.fr b (hf b hb) g e⟩
end Go.Proofs.YtgjaiabenjafeaaGreatDoor
