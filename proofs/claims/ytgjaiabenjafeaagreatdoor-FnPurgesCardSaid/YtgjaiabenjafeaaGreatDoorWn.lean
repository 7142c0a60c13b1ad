/-
  CONTRACTS: purged, the given program's way. CONTRACTS: purged, the given program's way. CONTRACTS: purged, the given program's way, then the reference's. CONTRACTS: purged, the reference's way. CONTRACTS: purged, the reference's way; results with a store and keys. CONTRACTS AND THE LAWS: purged, results and the reference's way.
-/
import Derived.Test.YtgjaiabenjafeaaGreatDoorWh
namespace Go.Proofs.YtgjaiabenjafeaaGreatDoor
set_option maxRecDepth 100000
set_option linter.unusedSimpArgs false
set_option linter.unusedVariables false
open Go.ChangeShapes Go.WideShapes Go.RowKit Go.Xe
theorem XCall.args {E : Env} {f : FuncId} {args args' : List AV} {bx : List Box} {M : PH} {R : Value → List Box → PH → Prop} (h : XCall E f args bx M R) (hr : ∀ ρ vs, RelL ρ args' vs → RelL ρ args vs) : XCall E f args' bx M R :=
  ⟨h.en, fun ρ w vs h1 h2 h3 h4 h5 => h.run ρ w vs h1 h2 h3 h4 (hr ρ vs h5)⟩
theorem hasKey_calls (t : ByteArray) (w : World) : Calls Tryz.prog 87 #[.string t] w fun e w' => e = .returned (.func (.func 142) #[] #[.pointer (some ⟨w.heap.size, 0, none⟩)]) ∧ w' = w.alloc (.cells #[.string t] 9 (0, 0)) := by
  go_enter Tryz.func87, Tryz.ntmps87
  go_wp2
  go_ret
  exact ⟨rfl, rfl⟩
theorem hasKey_ret (t : ByteArray) (M : PH) : ACall env 87 [Tx t] M fun r M' => ∃ g, M g = none ∧ r = .func (.func 142) #[] #[.pointer (some ⟨g, 0, none⟩)] ∧ M' = M.set g (.cells #[Tx t] 9 (0, 0)) :=
  new_of_calls (fun g => .func (.func 142) #[] #[.pointer (some ⟨g, 0, none⟩)]) _ (fun _ _ => Tryz.call87 _ _) fun w => hasKey_calls t w
theorem hasKey1_ret (y : EnA) (g : Nat) (t : ByteArray) (M : PH) (hg : M.cells (some ⟨g, 0, none⟩) 0 [Tx t]) : Ret 142 [y.val, .pointer (some ⟨g, 0, none⟩)] M (B (seq y.c.key t)) := by
  refine xcall_of_vc Tryz.func142 rfl _ Tryz.ntmps142 _ rfl (fun _ _ => Tryz.call142 _ _) rfl (fun w0 ρ0 => ?_)
  conv => whnf
  repeat' (first | (refine ⟨⟨[], rfl⟩, _, PH.Le.refl _, PH.Le.refl _, ?_⟩; conv => whnf) | (refine ⟨_, hg, ?_⟩; conv => whnf) | (refine caseB_true ?_; conv => whnf) | (refine caseB_false ?_; conv => whnf) | ((with_reducible refine caseB_dec (fun h => ?_) (fun h => ?_)) <;> conv => whnf) | ((with_reducible refine caseB_ndec (fun h => ?_) (fun h => ?_)) <;> conv => whnf) | ((with_reducible refine caseB_not (fun h => ?_) (fun h => ?_)) <;> conv => whnf) | (with_reducible refine @And.intro (guardVC _ _ _ _ _) _ ?_ ?_) <;> conv => whnf | (refine caseB_intro (fun h => ?_) (fun h => ?_) <;> (try simp only [Bool.not_eq_true', Bool.not_eq_false', decide_eq_true_eq, decide_eq_false_iff_not] at h) <;> conv => whnf))
  exact ⟨_, PH.Le.refl _, rfl, rfl⟩
theorem isAny_ret (y : EnA) (M : PH) : Ret 81 [y.val] M (B true) := by
  refine xcall_of_vc Tryz.func81 rfl _ Tryz.ntmps81 _ rfl (fun _ _ => Tryz.call81 _ _) rfl (fun w0 ρ0 => ?_)
  conv => whnf
  exact ⟨_, PH.Le.refl _, rfl, rfl⟩
def soft1 (e : En) : En := { e with mt := { e.mt with soft := true } }
def softK (es : List En) (ks : List ByteArray) : List En := es.map fun e => if tagT ks e.key then soft1 e else e
def softS (s : Sc) (ks : List ByteArray) : Sc := ⟨s.bud, s.gd, softK s.tr ks, softK s.kp ks⟩
def purgeS (s : Sc) (ks : List ByteArray) (hard : Bool) : Sc := if hard then ks.foldl dropS s else softS s ks
theorem softK_nil (es : List En) : softK es [] = es := by
  unfold softK
  have : (fun e : En => if tagT [] e.key = true then soft1 e else e) = id := by funext e; simp [tagT]
  rw [this, List.map_id]
theorem soft_soft (e : En) : soft1 (soft1 e) = soft1 e := rfl
theorem tagT_snoc (ks : List ByteArray) (k t : ByteArray) : tagT (ks ++ [k]) t = (tagT ks t || seq k t) := by unfold tagT; simp
theorem softK_key (es : List En) (ks : List ByteArray) : (softK es ks).map (·.key) = es.map (·.key) := by
  unfold softK
  rw [List.map_map]
  apply List.map_congr_left
  intro e _
  simp only [Function.comp]
  split <;> rfl
/-- One more key: no entry has it. -/
theorem softK_no {es : List En} {ks : List ByteArray} {k : ByteArray} (h : ∀ e ∈ es, seq e.key k = false) : softK es (ks ++ [k]) = softK es ks := by
  unfold softK
  apply List.map_congr_left
  intro e he
  rw [tagT_snoc, seq_comm, h e he, Bool.or_false]
/-- One more key: entry j alone has it. -/
theorem softK_at {es : List En} {ks : List ByteArray} {k : ByteArray} {j : Nat} (hj : j < es.length) (h1 : seq es[j].key k = true) (h2 : ∀ i, ∀ hi : i < es.length, i ≠ j → seq es[i].key k = false) :
    (softK es ks).set j (soft1 ((softK es ks)[j]'(by unfold softK; simpa using hj))) = softK es (ks ++ [k]) := by
  apply List.ext_getElem?
  intro i
  rw [List.getElem?_set]
  by_cases e : j = i
  · subst e
    have hl : j < (softK es ks).length := by unfold softK; simpa using hj
    rw [if_pos rfl, if_pos hl]
    unfold softK
    rw [List.getElem?_map, List.getElem?_eq_getElem hj, Option.map_some, List.getElem_map, tagT_snoc, seq_comm k, h1, Bool.or_true]
    congr 1
    simp only [if_true]
    split <;> rfl
  · rw [if_neg e]
    unfold softK
    rw [List.getElem?_map, List.getElem?_map]
    cases hx : es[i]? with
    | none => rfl
    | some x =>
      obtain ⟨hi, rfl⟩ := List.getElem?_eq_some_iff.1 hx
      simp only [Option.map_some]
      rw [tagT_snoc, seq_comm k, h2 i hi (fun e2 => e e2.symm), Bool.or_false]
theorem aptK_ne {es : List En} {k : ByteArray} {j : Nat} (h : AptG En.key es) (hj : j < es.length) (h1 : seq es[j].key k = true) : ∀ i, ∀ hi : i < es.length, i ≠ j → seq es[i].key k = false := by
  intro i hi hne
  rw [seq_ne]
  intro e
  have e1 := seq_iff.1 h1
  rcases Nat.lt_or_gt_of_ne hne with h3 | h3
  · exact aptG_no hj h3 (e1.trans e.symm) h
  · exact aptG_no hi h3 (e.trans e1.symm) h
theorem keyC_map (es : List En) (k : ByteArray) : keyC es k = idxF (fun t => seq t k) (es.map (·.key)) := by
  unfold keyC idxF
  rw [List.findIdx?_map]
  rfl
theorem keyC_soft (es : List En) (ks : List ByteArray) (k : ByteArray) : keyC (softK es ks) k = keyC es k := by rw [keyC_map, keyC_map, softK_key]
theorem soft_cost (e : En) : (soft1 e).cost = e.cost := rfl
theorem softK_cost (es : List En) (ks : List ByteArray) : costL En.cost (softK es ks) = costL En.cost es := by
  unfold softK costL
  rw [List.length_map, List.map_map]
  congr 2
  apply List.map_congr_left
  intro e _
  simp only [Function.comp]
  split <;> rfl
theorem dropS_cost (s : Sc) (k : ByteArray) : (dropS s k).cost ≤ s.cost := by
  have a := sub_cost (f := En.cost) (List.filter_sublist (p := fun e : En => !seq e.key k) (l := s.tr))
  have b := sub_cost (f := En.cost) (List.filter_sublist (p := fun e : En => !seq e.key k) (l := s.kp))
  unfold Sc.cost dropS dropK at *
  simp only
  omega
theorem drops_cost (ks : List ByteArray) : ∀ s : Sc, (ks.foldl dropS s).cost ≤ s.cost := by
  induction ks with
  | nil => exact fun s => Nat.le_refl _
  | cons k r ih => exact fun s => Nat.le_trans (ih _) (dropS_cost s k)
theorem purgeS_cost (s : Sc) (ks : List ByteArray) (hard : Bool) : (purgeS s ks hard).cost ≤ s.cost := by
  unfold purgeS
  split
  · exact drops_cost ks s
  · unfold Sc.cost softS
    simp only [softK_cost]
    omega
theorem soft_row {M : PH} {o : Option Nat} {A : Option Addr} {c : Nat} {ps : List EP} (h : Dw M o A c ps) {i : Nat} (hi : i < ps.length) : (ps.set i (ps[i].wth (soft1 ps[i].1.c))).map (·.1.c) = (ps.map (·.1.c)).set i (soft1 ((ps.map (·.1.c))[i]'(by simpa using hi))) := by
  rw [List.map_set]
  simp [EP.wth]
abbrev G3 := Nat × So
set_option maxHeartbeats 2000000 in
theorem purge_ret (s : So) (hard : Bool) (G : FuncId) (caps : List Value) (pr : En → Bool) (M : PH) (h : Dso M s) (hco : s.c.cost ≤ 1048576) (hapt : AptG En.key s.c.all) (hlen : s.c.all.length ≤ 40) (hg : ∀ y ∈ s.sta.tr ++ s.sta.kp, ∀ M', M.Le M' → Ret G (y.val :: caps) M' (B (pr y.c))) :
    XCall env 133 [.bp 0 0, .v (B hard), .v (.func (.func G) ⟨[]⟩ ⟨caps⟩)] [soBox s] M fun r b M' => ∃ s' M1 o A c, r = .slice A (keysL pr s.c.all).length c ∧ b = [soBox s'] ∧ s'.c = purgeS s.c (keysL pr s.c.all) hard ∧ New M M1 o A c 1 stC (keysL pr s.c.all) ∧ Dso M' s' ∧ KeepsL (soL s) M1 M' ∧ ∀ b ∈ soL s', b ∈ soL s := by
  obtain ⟨hn1, hn2⟩ := so_len hco
  have hkb := keysBy_ret s.sta G caps pr M h.inn (by show (s.p1.map (·.1)).length ≤ _; rw [List.length_map]; exact hn1) (by show (s.p2.map (·.1)).length ≤ _; rw [List.length_map]; exact hn2) hg
  rw [s.sta_val, s.sta_c] at hkb
  have hkin : ∀ t ∈ keysL pr s.c.all, ∃ e ∈ s.c.all, e.key = t := fun t ht => by
    unfold keysL at ht
    obtain ⟨e, he, rfl⟩ := List.mem_map.1 ht
    exact ⟨e, (List.mem_filter.1 he).1, rfl⟩
  have hkl := Nat.le_trans (keysL_le pr s.c.all) hlen
  generalize keysL pr s.c.all = ks at *
  refine xcall_of_vc Tryz.func133 rfl _ Tryz.ntmps133 _ rfl (fun _ _ => Tryz.call133 _ _) rfl (fun w0 ρ0 => ?_)
  conv => whnf
  refine ACall.step hkb fun v M1 hh => ?_
  obtain ⟨o, A, c, rfl, N⟩ := hh
  have h1 := h.mono N.le
  have apo : ∀ b ∈ soL s, Apart o b := fun b hb => (apart_of h.kn (L' := [o]) (fun x hx g e => by simp at hx; subst hx; exact N.fr g e) b hb o (by simp)).symm
  conv => whnf
  refine loop_rule (fun z : G3 => ⟨slots 33 [(0, .bp 0 0), (1, .v (B hard)), (7, .v (.slice A ks.length c)), (15, .v (.slice A ks.length c)), (16, .v (I ks.length)), (17, .v (I z.1))], [soBox z.2]⟩)
    (fun z M' => z.1 ≤ ks.length ∧ z.2.c = purgeS s.c (ks.take z.1) hard ∧ Dso M' z.2 ∧ KeepsL (soL s) M1 M' ∧ ∀ b ∈ soL z.2, b ∈ soL s) (fun z => ks.length - z.1) (0, s) ?_ ?_ ?_
  · exact ⟨by simp [slots, leT], ⟨[], rfl⟩, (by first | exact Nat.zero_le _ | exact Nat.le_refl _), rfl, rfl⟩
  · refine ⟨Nat.zero_le _, ?_, h1, KeepsL.refl _ _, fun b hb => hb⟩
    show s.c = purgeS s.c [] hard
    unfold purgeS softS
    cases hard
    · simp [softK_nil]
    · rfl
  rintro ⟨i, z⟩ M2 ⟨hi, hc, hD, hK, hL⟩
  have hi : i ≤ ks.length := hi
  have hc : z.c = purgeS s.c (ks.take i) hard := hc
  have hD : Dso M2 z := hD
  have hL : ∀ b ∈ soL z, b ∈ soL s := hL
  have hzc : z.c.cost ≤ 1048576 := by rw [hc]; exact Nat.le_trans (purgeS_cost _ _ _) hco
  obtain ⟨hz1, hz2⟩ := so_len hzc
  have W := (ow_keepsL N.ow hK apo).sl st_len
  conv => whnf
  refine caseB_dec (fun hb => ?_) (fun hb => ?_)
  · have hb : (i : Int) < ks.length := hb
    have hi' : i < ks.length := by omega
    have hw : IntKind.i64.wrap ((i : Int) + 1) = (i : Int) + 1 := wr_id (by omega) (by omega)
    obtain ⟨hA, _, hcc⟩ := W.get hi'
    have htk : ks.take (i + 1) = ks.take i ++ [ks[i]] := List.take_succ_eq_append_getElem hi'
    obtain ⟨e0, he0, hek⟩ := hkin ks[i] (List.getElem_mem hi')
    generalize ks[i] = k at *
    have hb1 : (0 : Int) ≤ (i : Int) := by omega
    conv => whnf
    refine ⟨hb1, hb, hA, ?_⟩
    conv => whnf
    refine ⟨_, hcc, ?_⟩
    conv => whnf
    cases hard with
    | true =>
      conv => whnf
      refine caseB_true ?_
      conv => whnf
      refine XCall.lift (drop_ret z k M2 hD hz1 hz2) [0] ?_ (by simp) (by simp) (by simp [AV.plain]) ?_
      · simp [ren]
      rintro r bs' M3 ⟨rfl, z', rfl, ec, hD3, hK3, hL3⟩
      refine ⟨by simp [AV.plain], ?_⟩
      conv => whnf
      refine ⟨(i + 1, z'), ⟨by simp [slots, leT, hw], ⟨_, rfl⟩, (by first | exact Nat.zero_le _ | exact Nat.le_refl _), rfl, rfl⟩, ⟨hi', ?_, hD3, hK.trans (hK3.mono hL), fun b hb => hL b (hL3 b hb)⟩, by show _ - (i + 1) < _ - i; omega⟩
      show z'.c = purgeS s.c (ks.take (i + 1)) true
      rw [ec, hc, htk]
      unfold purgeS
      simp
    | false =>
      conv => whnf
      refine caseB_false ?_
      conv => whnf
      have hfi := find_ret z.sta k M2 hD.inn (by show (z.p1.map (·.1)).length ≤ _; rw [List.length_map]; exact hz1) (by show (z.p2.map (·.1)).length ≤ _; rw [List.length_map]; exact hz2)
      rw [soBox_eq] at hfi
      refine XCall.lift hfi [0] ?_ (by simp) (by simp) (by simp [AV.plain]) ?_
      · simp [ren]
      rintro r bs' M3 ⟨rfl, rfl, rfl⟩
      refine ⟨by simp [AV.plain], ?_⟩
      have hfp : findP z.sta k = if 0 ≤ keyC (z.p1.map (·.1.c)) k then z.A1.map (·.add ((keyC (z.p1.map (·.1.c)) k).toNat * 13)) else if 0 ≤ keyC (z.p2.map (·.1.c)) k then z.A2.map (·.add ((keyC (z.p2.map (·.1.c)) k).toNat * 13)) else none := by
        unfold findP So.sta
        simp only [keyI_C, conts_ep]
      have t1 : z.p1.map (·.1.c) = softK s.c.tr (ks.take i) := congrArg Sc.tr hc
      have t2 : z.p2.map (·.1.c) = softK s.c.kp (ks.take i) := congrArg Sc.kp hc
      have a12 := List.pairwise_append.1 hapt
      rw [hfp]
      rcases keyC_cases s.c.tr k with ⟨e, hn⟩ | ⟨j, hj, e, hs1, _⟩
      · rcases keyC_cases s.c.kp k with ⟨e', hn'⟩ | ⟨j, hj, e', hs1, _⟩
        · exfalso
          have hke : seq e0.key k = true := seq_iff.2 hek
          rcases List.mem_append.1 he0 with hm | hm
          · rw [hn e0 hm] at hke; cases hke
          · rw [hn' e0 hm] at hke; cases hke
        · have hj2 : j < z.p2.length := by have := congrArg List.length t2; simp [softK] at this; omega
          have k1 : keyC (z.p1.map (·.1.c)) k = -1 := by rw [t1, keyC_soft, e]
          have k2 : keyC (z.p2.map (·.1.c)) k = j := by rw [t2, keyC_soft, e']
          obtain ⟨a, ha⟩ : ∃ a, z.A2.map (·.add (j * 13)) = some a := by
            obtain ⟨q, hq⟩ := Option.isSome_iff_exists.1 ((hD.k.row.sl EP.len).get hj2).1
            exact ⟨_, by rw [hq]; rfl⟩
          have ha' : z.A2.map (·.add ((j : Int).toNat * 13)) = some a := by rw [Int.toNat_natCast]; exact ha
          rw [if_neg (by omega), if_pos (by omega), k2, ha']
          conv => whnf
          have hT : Dw M3 z.o2 z.A2 z.c2 (z.p2.set j z.p2[j]) := by rw [List.set_getElem_self]; exact hD.k
          refine Dw.storeP (j := 9) hT hj2 ha (by simp) (z.p2[j].wth (soft1 z.p2[j].1.c)) rfl rfl (fun M h => ⟨h.h, h.y, h.t⟩) fun M4 D4 k4 => ?_
          conv => whnf
          have L2 := dwL_set (o := z.o2) hj2 (soft1 z.p2[j].1.c)
          have n2 : (z.p2.set j (z.p2[j].wth (soft1 z.p2[j].1.c))).length = z.p2.length := List.length_set
          have e4 := soft_row hD.k hj2
          have D5 : Dw M4 z.o1 z.A1 z.c1 z.p1 := hD.t.keepsL (Keeps.inL k4 (by simp : z.o2 ∈ [z.o2])) fun a ha b hb => by simp at hb; subst hb; exact hD.ap a ha _ (by simp)
          have e5 : (z.p2.map (·.1.c)).set j (soft1 ((z.p2.map (·.1.c))[j]'(by simpa using hj2))) = softK s.c.kp (ks.take (i + 1)) := by
            rw [htk, ← softK_at hj hs1 (aptK_ne a12.2.1 hj hs1)]
            simp only [t2]
          rw [e5] at e4
          generalize z.p2.set j (z.p2[j].wth (soft1 z.p2[j].1.c)) = q2 at *
          have hSL : soL (⟨z.b, z.g, z.o1, z.A1, z.c1, z.p1, z.o2, z.A2, z.c2, q2⟩ : So) = soL z := by unfold soL; rw [L2]
          refine ⟨(i + 1, ⟨z.b, z.g, z.o1, z.A1, z.c1, z.p1, z.o2, z.A2, z.c2, q2⟩), ⟨by simp [slots, leT, hw], ⟨[], by simp [n2]⟩, (by first | exact Nat.zero_le _ | exact Nat.le_refl _), rfl, rfl⟩, ⟨hi', ?_, ⟨D5, D4, fun a ha b hb => by rw [L2] at hb; exact hD.ap a ha b hb⟩, hK.trans (Keeps.inL k4 (hL _ (List.mem_append_right _ (by simp)))), fun b hb => by rw [hSL] at hb; exact hL b hb⟩, by show _ - (i + 1) < _ - i; omega⟩
          show (⟨z.b, z.g, z.p1.map (·.1.c), q2.map (·.1.c)⟩ : Sc) = purgeS s.c (ks.take (i + 1)) false
          have b1 : z.b = s.c.bud := congrArg Sc.bud hc
          have b2 : z.g = s.c.gd := congrArg Sc.gd hc
          rw [e4, t1, b1, b2]
          unfold purgeS softS
          rw [htk, softK_no hn]
          rfl
      · have hj1 : j < z.p1.length := by have := congrArg List.length t1; simp [softK] at this; omega
        have k1 : keyC (z.p1.map (·.1.c)) k = j := by rw [t1, keyC_soft, e]
        have hn : ∀ e ∈ s.c.kp, seq e.key k = false := by
          have h2 := keyC_apart (k := k) hapt (by rw [e]; omega)
          rcases keyC_cases s.c.kp k with ⟨_, hn⟩ | ⟨j2, _, e2, _⟩
          · exact hn
          · omega
        obtain ⟨a, ha⟩ : ∃ a, z.A1.map (·.add (j * 13)) = some a := by
          obtain ⟨q, hq⟩ := Option.isSome_iff_exists.1 ((hD.t.row.sl EP.len).get hj1).1
          exact ⟨_, by rw [hq]; rfl⟩
        have ha' : z.A1.map (·.add ((j : Int).toNat * 13)) = some a := by rw [Int.toNat_natCast]; exact ha
        rw [if_pos (by omega), k1, ha']
        conv => whnf
        have hT : Dw M3 z.o1 z.A1 z.c1 (z.p1.set j z.p1[j]) := by rw [List.set_getElem_self]; exact hD.t
        refine Dw.storeP (j := 9) hT hj1 ha (by simp) (z.p1[j].wth (soft1 z.p1[j].1.c)) rfl rfl (fun M h => ⟨h.h, h.y, h.t⟩) fun M4 D4 k4 => ?_
        conv => whnf
        have L2 := dwL_set (o := z.o1) hj1 (soft1 z.p1[j].1.c)
        have n2 : (z.p1.set j (z.p1[j].wth (soft1 z.p1[j].1.c))).length = z.p1.length := List.length_set
        have e4 := soft_row hD.t hj1
        have D5 : Dw M4 z.o2 z.A2 z.c2 z.p2 := hD.k.keepsL (Keeps.inL k4 (by simp : z.o1 ∈ [z.o1])) fun a ha b hb => by simp at hb; subst hb; exact (hD.ap _ (by simp) a ha).symm
        have e5 : (z.p1.map (·.1.c)).set j (soft1 ((z.p1.map (·.1.c))[j]'(by simpa using hj1))) = softK s.c.tr (ks.take (i + 1)) := by
          rw [htk, ← softK_at hj hs1 (aptK_ne a12.1 hj hs1)]
          simp only [t1]
        rw [e5] at e4
        generalize z.p1.set j (z.p1[j].wth (soft1 z.p1[j].1.c)) = q1 at *
        have hSL : soL (⟨z.b, z.g, z.o1, z.A1, z.c1, q1, z.o2, z.A2, z.c2, z.p2⟩ : So) = soL z := by unfold soL; rw [L2]
        refine ⟨(i + 1, ⟨z.b, z.g, z.o1, z.A1, z.c1, q1, z.o2, z.A2, z.c2, z.p2⟩), ⟨by simp [slots, leT, hw], ⟨[], by simp [n2]⟩, (by first | exact Nat.zero_le _ | exact Nat.le_refl _), rfl, rfl⟩, ⟨hi', ?_, ⟨D4, D5, fun a ha b hb => by rw [L2] at ha; exact hD.ap a ha b hb⟩, hK.trans (Keeps.inL k4 (hL _ (List.mem_append_left _ (by simp)))), fun b hb => by rw [hSL] at hb; exact hL b hb⟩, by show _ - (i + 1) < _ - i; omega⟩
        show (⟨z.b, z.g, q1.map (·.1.c), z.p2.map (·.1.c)⟩ : Sc) = purgeS s.c (ks.take (i + 1)) false
        have b1 : z.b = s.c.bud := congrArg Sc.bud hc
        have b2 : z.g = s.c.gd := congrArg Sc.gd hc
        rw [e4, t2, b1, b2]
        unfold purgeS softS
        rw [htk, softK_no hn]
        rfl
  · have hie : i = ks.length := by have : ¬ (i : Int) < ks.length := hb; omega
    subst hie
    rw [List.take_length] at hc
    conv => whnf
    exact ⟨_, PH.Le.refl _, z, M1, o, A, c, rfl, rfl, hc, N, hD, hK, hL⟩
abbrev prV (k : Int) (s : So) (A : Option Addr) (n c : Nat) : Value := .agg #[I k, I s.b, I s.g, .slice s.A1 s.p1.length s.c1, .slice s.A2 s.p2.length s.c2, .slice A n c]
structure NewP (M M' : PH) (s : So) (o : Option Nat) (A : Option Addr) (c : Nat) (ks : List ByteArray) : Prop where
  st : NewS M M' s
  w : Ow M' o A c 1 stC ks
  f : ∀ g, o = some g → M g = none
  a : ∀ b ∈ soL s, Apart o b
theorem zNewP (M : PH) : NewP M M zSo none none 0 [] := ⟨zSo_new M, Ow.nil, fun g e => (nomatch e), fun b _ g e => (nomatch e)⟩
noncomputable def pgK (s : Sc) (pr : En → Bool) : List ByteArray := if stFault s = 0 then keysL pr s.all else []
noncomputable def pgS (s : Sc) (pr : En → Bool) (hard : Bool) : Sc := if stFault s = 0 then purgeS s (keysL pr s.all) hard else zSc
theorem pgK_len (s : Sc) (pr : En → Bool) : (pgK s pr).length ≤ 40 := by
  unfold pgK
  split
  · rename_i h
    exact Nat.le_trans (keysL_le _ _) (stF_40 h)
  · simp
theorem pgS_cost {s : Sc} (pr : En → Bool) (hard : Bool) (h : s.cost ≤ 1048576) : (pgS s pr hard).cost ≤ 1048576 := by
  unfold pgS
  split
  · exact Nat.le_trans (purgeS_cost _ _ _) h
  · show costL En.cost [] + costL En.cost [] ≤ _
    decide
theorem sta_mem {s : So} {M : PH} (h : Dso M s) (hco : s.c.cost ≤ 1048576) {y : EnA} (hy : y ∈ s.sta.tr ++ s.sta.kp) : y.inn M ∧ y.c.cost ≤ 1048576 := by
  obtain ⟨_, _, hd⟩ := st_split (x := s.sta) (by rw [s.sta_c]; exact hco)
  exact ⟨(List.mem_append.1 hy).elim (fun hm => h.inn.t.inn y hm) (fun hm => h.inn.k.inn y hm), hd y hy⟩
theorem purged_ret (x : StA) (hard : Bool) (G : FuncId) (caps : List Value) (pr : En → Bool) (M : PH) (hi : x.inn M) (hco : x.c.cost ≤ 1048576) (hg : ∀ y : EnA, y.c.cost ≤ 1048576 → ∀ M', M.Le M' → y.inn M' → Ret G (y.val :: caps) M' (B (pr y.c))) :
    ACall env 78 [x.val, B hard, .func (.func G) ⟨[]⟩ ⟨caps⟩] M fun r M' => ∃ s o A c, r = prV (stFault x.c) s A (pgK x.c pr).length c ∧ s.c = pgS x.c pr hard ∧ NewP M M' s o A c (pgK x.c pr) := by
  refine xcall_of_vc Tryz.func78 rfl _ Tryz.ntmps78 _ rfl (fun _ _ => Tryz.call78 _ _) rfl (fun w0 ρ0 => ?_)
  conv => whnf
  refine Ret.go (storeFault_impl x _ hi hco) ?_
  conv => whnf
  refine caseB_ndec (fun h => ?_) (fun h => ?_)
  · conv => whnf
    have e1 : pgK x.c pr = [] := by unfold pgK; rw [if_neg h]
    have e2 : pgS x.c pr hard = zSc := by unfold pgS; rw [if_neg h]
    rw [e1, e2]
    exact ⟨M, PH.Le.refl _, zSo, none, none, 0, rfl, rfl, zNewP M⟩
  have e1 : pgK x.c pr = keysL pr x.c.all := by unfold pgK; rw [if_pos h]
  have e2 : pgS x.c pr hard = purgeS x.c (keysL pr x.c.all) hard := by unfold pgS; rw [if_pos h]
  rw [e1, e2, h]
  conv => whnf
  refine ACall.step (copyStore_ret x M hi hco) fun v M1 hh => ?_
  obtain ⟨s, rfl, es, hs⟩ := hh
  have hcs : s.c.cost ≤ 1048576 := by rw [es]; exact hco
  have hp := purge_ret s hard G caps pr M1 hs.d hcs (by rw [es]; exact apt_of h) (by rw [es]; exact stF_40 h) fun y hy M' l => by
    obtain ⟨a, b⟩ := sta_mem hs.d hcs hy
    exact hg y b M' (hs.le.trans l) (a.mono l)
  rw [es] at hp
  conv => whnf
  refine XCall.lift hp [2] ?_ (by simp) (by simp) (by simp [AV.plain]) ?_
  · simp [ren]
  rintro r bs' M3 ⟨s', M2, o, A, c, rfl, rfl, ec, N, hD, hK, hL⟩
  refine ⟨by simp [AV.plain], ?_⟩
  have f1 : Fr M1 [o] := fun x hx g e => by simp at hx; subst hx; exact N.fr g e
  have apo : ∀ b ∈ soL s, Apart o b := fun b hb => (apart_of hs.d.kn f1 b hb o (by simp)).symm
  conv => whnf
  exact ⟨_, PH.Le.refl _, s', o, A, c, rfl, ec, ⟨hD, hK.over (hs.le.trans N.le) hs.fr, fun b hb => hs.fr b (hL b hb)⟩, ow_keepsL N.ow hK apo, fun g e => none_of_le hs.le (N.fr g e), fun b hb => apo b (hL b hb)⟩
theorem purgeKey_impl (x : StA) (k : ByteArray) (hard : Bool) (M : PH) (hi : x.inn M) (hco : x.c.cost ≤ 1048576) :
    ACall env 30 [x.val, Tx k, B hard] M fun r M' => ∃ s o A c, r = prV (stFault x.c) s A (pgK x.c (fun e => seq e.key k)).length c ∧ s.c = pgS x.c (fun e => seq e.key k) hard ∧ NewP M M' s o A c (pgK x.c (fun e => seq e.key k)) := by
  refine xcall_of_vc Tryz.func30 rfl _ Tryz.ntmps30 _ rfl (fun _ _ => Tryz.call30 _ _) rfl (fun w0 ρ0 => ?_)
  conv => whnf
  repeat' (first | (refine ⟨⟨[], rfl⟩, _, PH.Le.refl _, PH.Le.refl _, ?_⟩; conv => whnf) | (refine caseB_true ?_; conv => whnf) | (refine caseB_false ?_; conv => whnf) | ((with_reducible refine caseB_dec (fun h => ?_) (fun h => ?_)) <;> conv => whnf) | ((with_reducible refine caseB_ndec (fun h => ?_) (fun h => ?_)) <;> conv => whnf) | ((with_reducible refine caseB_not (fun h => ?_) (fun h => ?_)) <;> conv => whnf) | (refine draw_rule (.light 0 <| .light 1 <| .light 2 <| .alt 3 false (.alt 4 false (.alt 5 true (.done) .nil) .nil) .nil) (by decide +kernel) ?_; conv => whnf) | (with_reducible refine @And.intro (guardVC _ _ _ _ _) _ ?_ ?_) <;> conv => whnf | (refine caseB_intro (fun h => ?_) (fun h => ?_) <;> (try simp only [Bool.not_eq_true', Bool.not_eq_false', decide_eq_true_eq, decide_eq_false_iff_not] at h) <;> conv => whnf))
  refine ACall.step (hasKey_ret k M) fun v M1 hh => ?_
  obtain ⟨g, hg, rfl, rfl⟩ := hh
  have l1 := PH.Le.set (.cells #[Tx k] 9 (0, 0)) hg
  (first | (refine ⟨⟨[], rfl⟩, _, l1, PH.Le.refl _, ?_⟩; conv => whnf) | conv => whnf)
  refine ACall.step (purged_ret x hard 142 [.pointer (some ⟨g, 0, none⟩)] (fun e => seq e.key k) _ (hi.mono l1) hco fun y _ M' l _ => hasKey1_ret y g k M' ⟨⟨g, 0, none⟩, rfl, fun j v hv => ?_⟩) fun v M2 hh => ?_
  · rw [add_at]
    have : M' g = _ := l g _ (PH.set_same _ _ _)
    cases j with
    | zero => simp [PH.cell, this] at hv ⊢; exact hv
    | succ j => simp at hv
  obtain ⟨s, o, A, c, rfl, es, N⟩ := hh
  (first | (refine ⟨⟨[], rfl⟩, _, N.st.le, PH.Le.refl _, ?_⟩; conv => whnf) | conv => whnf)
  exact ⟨_, PH.Le.refl _, s, o, A, c, rfl, es, ⟨N.st.d, l1.trans N.st.le, N.st.fr.le l1⟩, N.w, fun g e => none_of_le l1 (N.f g e), N.a⟩
theorem purgeTag_impl (x : StA) (k : ByteArray) (hard : Bool) (M : PH) (hi : x.inn M) (hco : x.c.cost ≤ 1048576) :
    ACall env 23 [x.val, Tx k, B hard] M fun r M' => ∃ s o A c, r = prV (stFault x.c) s A (pgK x.c (fun e => tagT e.tags k)).length c ∧ s.c = pgS x.c (fun e => tagT e.tags k) hard ∧ NewP M M' s o A c (pgK x.c (fun e => tagT e.tags k)) := by
  refine xcall_of_vc Tryz.func23 rfl _ Tryz.ntmps23 _ rfl (fun _ _ => Tryz.call23 _ _) rfl (fun w0 ρ0 => ?_)
  conv => whnf
  repeat' (first | (refine ⟨⟨[], rfl⟩, _, PH.Le.refl _, PH.Le.refl _, ?_⟩; conv => whnf) | (refine caseB_true ?_; conv => whnf) | (refine caseB_false ?_; conv => whnf) | ((with_reducible refine caseB_dec (fun h => ?_) (fun h => ?_)) <;> conv => whnf) | ((with_reducible refine caseB_ndec (fun h => ?_) (fun h => ?_)) <;> conv => whnf) | ((with_reducible refine caseB_not (fun h => ?_) (fun h => ?_)) <;> conv => whnf) | (refine draw_rule (.light 0 <| .light 1 <| .light 2 <| .alt 3 false (.alt 4 false (.alt 5 true (.done) .nil) .nil) .nil) (by decide +kernel) ?_; conv => whnf) | (with_reducible refine @And.intro (guardVC _ _ _ _ _) _ ?_ ?_) <;> conv => whnf | (refine caseB_intro (fun h => ?_) (fun h => ?_) <;> (try simp only [Bool.not_eq_true', Bool.not_eq_false', decide_eq_true_eq, decide_eq_false_iff_not] at h) <;> conv => whnf))
  refine ACall.step (hasTag_ret k M) fun v M1 hh => ?_
  obtain ⟨g, hg, rfl, rfl⟩ := hh
  have l1 := PH.Le.set (.cells #[Tx k] 9 (0, 0)) hg
  (first | (refine ⟨⟨[], rfl⟩, _, l1, PH.Le.refl _, ?_⟩; conv => whnf) | conv => whnf)
  refine ACall.step (purged_ret x hard 134 [.pointer (some ⟨g, 0, none⟩)] (fun e => tagT e.tags k) _ (hi.mono l1) hco fun y hyc M' l hyi => hasTag1_ret y g k M' ⟨⟨g, 0, none⟩, rfl, fun j v hv => ?_⟩ hyi hyc) fun v M2 hh => ?_
  · rw [add_at]
    have : M' g = _ := l g _ (PH.set_same _ _ _)
    cases j with
    | zero => simp [PH.cell, this] at hv ⊢; exact hv
    | succ j => simp at hv
  obtain ⟨s, o, A, c, rfl, es, N⟩ := hh
  (first | (refine ⟨⟨[], rfl⟩, _, N.st.le, PH.Le.refl _, ?_⟩; conv => whnf) | conv => whnf)
  exact ⟨_, PH.Le.refl _, s, o, A, c, rfl, es, ⟨N.st.d, l1.trans N.st.le, N.st.fr.le l1⟩, N.w, fun g e => none_of_le l1 (N.f g e), N.a⟩
theorem purgeAll_impl (x : StA) (hard : Bool) (M : PH) (hi : x.inn M) (hco : x.c.cost ≤ 1048576) :
    ACall env 25 [x.val, B hard] M fun r M' => ∃ s o A c, r = prV (stFault x.c) s A (pgK x.c (fun _ => true)).length c ∧ s.c = pgS x.c (fun _ => true) hard ∧ NewP M M' s o A c (pgK x.c (fun _ => true)) := by
  refine xcall_of_vc Tryz.func25 rfl _ Tryz.ntmps25 _ rfl (fun _ _ => Tryz.call25 _ _) rfl (fun w0 ρ0 => ?_)
  conv => whnf
  have hp := purged_ret x hard 81 [] (fun _ => true) M hi hco fun y _ M' _ _ => isAny_ret y M'
  refine XCall.args (args := [.v x.val, .v (B hard), .v (.func (.func 81) ⟨[]⟩ ⟨[]⟩)]) (ACall.step hp fun v M1 hh => ?_) (fun ρ vs hv => by
    match vs, hv with
    | [a, b, d], ⟨h1, h2, h3, h4⟩ => exact ⟨h1, h2, h3, h4⟩)
  obtain ⟨s, o, A, c, rfl, es, N⟩ := hh
  conv => whnf
  exact ⟨_, PH.Le.refl _, s, o, A, c, rfl, es, N⟩
theorem l9Soft_ret (o : Option Nat) (A : Option Addr) (c : Nat) (ps : List EP) (B' : Option Addr) (d : Nat) (ks : List ByteArray) (ow : Option Nat) (M : PH) (h : Dw M o A c ps) (hw : Ow M ow B' d 1 stC ks) (hap : Apart ow o) (hn : ps.length ≤ 1048576) (hk : ks.length ≤ 1048576) :
    ACall env 172 [.slice A ps.length c, .slice B' ks.length d] M fun r M' => r = .tuple #[] ∧ ∃ qs, qs.length = ps.length ∧ Dw M' o A c qs ∧ qs.map (·.1.c) = softK (ps.map (·.1.c)) ks ∧ dwL o qs = dwL o ps ∧ Keeps o M M' := by
  refine xcall_of_vc Tryz.func172 rfl _ Tryz.ntmps172 _ rfl (fun _ _ => Tryz.call172 _ _) rfl (fun w0 ρ0 => ?_)
  conv => whnf
  refine loop_rule (fun z : Nat × List EP => ⟨slots 23 [(0, .v (.slice A ps.length c)), (1, .v (.slice B' ks.length d)), (4, .v (I z.1))], []⟩)
    (fun z M' => z.1 ≤ ps.length ∧ z.2.length = ps.length ∧ Dw M' o A c z.2 ∧ (z.2.map (·.1.c)).take z.1 = (softK (ps.map (·.1.c)) ks).take z.1 ∧ (z.2.map (·.1.c)).drop z.1 = (ps.map (·.1.c)).drop z.1 ∧ dwL o z.2 = dwL o ps ∧ Keeps o M M') (fun z => ps.length - z.1) (0, ps) ?_ ?_ ?_
  · exact ⟨by simp [slots, leT], ⟨[], rfl⟩, Nat.zero_le _, rfl, rfl⟩
  · exact ⟨Nat.zero_le _, rfl, h, rfl, rfl, rfl, Keeps.refl _⟩
  rintro ⟨i, qs⟩ M1 ⟨hi, hql, hD, ht, hdr, hL, hK⟩
  have hi : i ≤ ps.length := hi
  have hql : qs.length = ps.length := hql
  have hD : Dw M1 o A c qs := hD
  have ht : (qs.map (·.1.c)).take i = (softK (ps.map (·.1.c)) ks).take i := ht
  have hdr : (qs.map (·.1.c)).drop i = (ps.map (·.1.c)).drop i := hdr
  have hsl : (softK (ps.map (·.1.c)) ks).length = ps.length := by unfold softK; rw [List.length_map, List.length_map]
  conv => whnf
  refine caseB_dec (fun hb => ?_) (fun hb => ?_)
  · have hb : (i : Int) < ps.length := hb
    have hi' : i < ps.length := by omega
    have hi2 : i < qs.length := by omega
    have hb1 : (0 : Int) ≤ (i : Int) := by omega
    have hw1 : IntKind.i64.wrap ((i : Int) + 1) = (i : Int) + 1 := wr_id (by omega) (by omega)
    obtain ⟨hA, _, hc⟩ := (hD.row.sl EP.len).get hi2
    have hqc : qs[i].1.c = ps[i].1.c := by
      have := congrArg (fun l : List En => l[0]?) hdr
      simpa [hi', hi2] using this
    have hsi : (softK (ps.map (·.1.c)) ks)[i]? = some (if tagT ks ps[i].1.c.key then soft1 ps[i].1.c else ps[i].1.c) := by
      unfold softK
      rw [List.getElem?_map, List.getElem?_map, List.getElem?_eq_getElem hi']
      rfl
    have hdr2 : ∀ l : List En, l.drop i = (ps.map (·.1.c)).drop i → l.drop (i + 1) = (ps.map (·.1.c)).drop (i + 1) := fun l hl => by
      have := congrArg (List.drop 1) hl
      simpa [List.drop_drop, Nat.add_comm] using this
    have hW := (hw.keeps hK fun g e e' => hap g e e').sl st_len
    conv => whnf
    refine ⟨hb1, hb, hA, ?_⟩
    conv => whnf
    refine ⟨_, cells_cut hc 0 rfl, ?_⟩
    conv => whnf
    refine Ret.go (isTagged_spec B' d ks _ _ hW hk) ?_
    conv => whnf
    refine caseB_intro (fun hp => ?_) (fun hp => ?_)
    · conv => whnf
      refine ⟨hb1, hb, hA, ?_⟩
      conv => whnf
      have hT : Dw M1 o A c (qs.set i qs[i]) := by rw [List.set_getElem_self]; exact hD
      refine Dw.store (j := 9) hT hi2 (by simp) (qs[i].wth (soft1 qs[i].1.c)) rfl rfl (fun M h => ⟨h.h, h.y, h.t⟩) fun M2 D2 k2 => ?_
      conv => whnf
      refine ⟨(i + 1, qs.set i (qs[i].wth (soft1 qs[i].1.c))), ⟨by simp [slots, leT, hw1], ⟨[], rfl⟩, Nat.zero_le _, rfl, rfl⟩, ⟨hi', by rw [List.length_set]; exact hql, D2, ?_, ?_, by rw [dwL_set hi2]; exact hL, hK.trans k2⟩, by show _ - (i + 1) < _ - i; omega⟩
      · show ((qs.set i (qs[i].wth (soft1 qs[i].1.c))).map (·.1.c)).take (i + 1) = _
        rw [List.map_set, take_set_succ (by simpa using hi2), ht, List.take_succ_eq_append_getElem (l := softK (ps.map (·.1.c)) ks) (by omega)]
        congr 2
        have := List.getElem?_eq_getElem (l := softK (ps.map (·.1.c)) ks) (i := i) (by omega)
        rw [hsi] at this
        rw [hqc] at hp
        rw [hp] at this
        simp only [if_true, Option.some.injEq] at this
        rw [← this]
        show soft1 qs[i].1.c = _
        rw [hqc]
      · show ((qs.set i (qs[i].wth (soft1 qs[i].1.c))).map (·.1.c)).drop (i + 1) = _
        rw [List.map_set, getE_setlt (by omega)]
        exact hdr2 _ hdr
    · conv => whnf
      refine ⟨(i + 1, qs), ⟨by simp [slots, leT, hw1], ⟨[], rfl⟩, Nat.zero_le _, rfl, rfl⟩, ⟨hi', hql, hD, ?_, hdr2 _ hdr, hL, hK⟩, by show _ - (i + 1) < _ - i; omega⟩
      show (qs.map (·.1.c)).take (i + 1) = _
      rw [List.take_succ_eq_append_getElem (l := qs.map (·.1.c)) (by simpa using hi2), ht, List.take_succ_eq_append_getElem (l := softK (ps.map (·.1.c)) ks) (by omega)]
      congr 2
      have := List.getElem?_eq_getElem (l := softK (ps.map (·.1.c)) ks) (i := i) (by omega)
      rw [hsi] at this
      rw [hqc] at hp
      rw [hp] at this
      simp only [Bool.false_eq_true, if_false, Option.some.injEq] at this
      rw [← this, List.getElem_map]
      exact hqc
  · have hie : i = ps.length := by have : ¬ (i : Int) < ps.length := hb; omega
    subst hie
    rw [List.take_of_length_le (by rw [List.length_map]; omega), List.take_of_length_le (by omega)] at ht
    conv => whnf
    exact ⟨_, PH.Le.refl _, rfl, qs, hql, hD, ht, hL, hK⟩
theorem l9Purge_ret (s : So) (ow : Option Nat) (B' : Option Addr) (d : Nat) (ks : List ByteArray) (hard : Bool) (M : PH) (h : Dso M s) (hw : Ow M ow B' d 1 stC ks) (hap : ∀ b ∈ soL s, Apart ow b) (hco : s.c.cost ≤ 1048576) (hk : ks.length ≤ 1048576) :
    XCall env 136 [.bp 0 0, .v (.slice B' ks.length d), .v (B hard)] [soBox s] M fun r b M' => r = .tuple #[] ∧ ∃ s', b = [soBox s'] ∧ s'.c = purgeS s.c ks hard ∧ Dso M' s' ∧ KeepsL (soL s) M M' ∧ ∀ b ∈ soL s', b ∈ soL s ∨ ∀ g, b = some g → M g = none := by
  obtain ⟨hn1, hn2⟩ := so_len hco
  refine xcall_of_vc Tryz.func136 rfl _ Tryz.ntmps136 _ rfl (fun _ _ => Tryz.call136 _ _) rfl (fun w0 ρ0 => ?_)
  conv => whnf
  cases hard with
  | false =>
    conv => whnf
    refine caseB_true ?_
    conv => whnf
    refine ACall.step (l9Soft_ret s.o1 s.A1 s.c1 s.p1 B' d ks ow M h.t hw (hap _ (List.mem_append_left _ (by simp))) hn1 hk) fun v M1 hh => ?_
    obtain ⟨rfl, q1, n1, D1, e1, L1, K1⟩ := hh
    conv => whnf
    have D2 : Dw M1 s.o2 s.A2 s.c2 s.p2 := h.k.keepsL (Keeps.inL K1 (by simp : s.o1 ∈ [s.o1])) fun a ha b hb => by simp at hb; subst hb; exact (h.ap _ (by simp) a ha).symm
    have hw2 : Ow M1 ow B' d 1 stC ks := hw.keeps K1 fun g e e' => hap _ (List.mem_append_left _ (by simp)) g e e'
    refine ACall.step (l9Soft_ret s.o2 s.A2 s.c2 s.p2 B' d ks ow M1 D2 hw2 (hap _ (List.mem_append_right _ (by simp))) hn2 hk) fun v M2 hh => ?_
    obtain ⟨rfl, q2, n2, D3, e2, L2, K2⟩ := hh
    conv => whnf
    have D4 : Dw M2 s.o1 s.A1 s.c1 q1 := D1.keepsL (Keeps.inL K2 (by simp : s.o2 ∈ [s.o2])) fun a ha b hb => by simp at hb; subst hb; rw [L1] at ha; exact h.ap a ha _ (by simp)
    have hSL : soL (⟨s.b, s.g, s.o1, s.A1, s.c1, q1, s.o2, s.A2, s.c2, q2⟩ : So) = soL s := by unfold soL; rw [L1, L2]
    exact ⟨_, PH.Le.refl _, rfl, ⟨s.b, s.g, s.o1, s.A1, s.c1, q1, s.o2, s.A2, s.c2, q2⟩, by simp [n1, n2], by unfold So.c purgeS softS; rw [e1, e2]; rfl, ⟨D4, D3, fun a ha b hb => by rw [L1] at ha; rw [L2] at hb; exact h.ap a ha b hb⟩, (Keeps.inL K1 (List.mem_append_left _ (by simp))).trans (Keeps.inL K2 (List.mem_append_right _ (by simp))), fun b hb => .inl (by rw [hSL] at hb; exact hb)⟩
  | true =>
    conv => whnf
    refine caseB_false ?_
    conv => whnf
    refine loop_rule (fun z : G3 => ⟨slots 33 [(0, .bp 0 0), (1, .v (.slice B' ks.length d)), (6, .v (I z.1))], [soBox z.2]⟩)
      (fun z M' => z.1 ≤ ks.length ∧ z.2.c = (ks.take z.1).foldl dropS s.c ∧ Dso M' z.2 ∧ M.Le M' ∧ ∀ b ∈ soL z.2, b ∈ soL s ∨ ∀ g, b = some g → M g = none) (fun z => ks.length - z.1) (0, s) ?_ ?_ ?_
    · exact ⟨by simp [slots, leT], ⟨[], rfl⟩, (by first | exact Nat.zero_le _ | exact Nat.le_refl _), rfl, rfl⟩
    · exact ⟨Nat.zero_le _, rfl, h, PH.Le.refl _, fun b hb => .inl hb⟩
    rintro ⟨i, z⟩ M1 ⟨hi, hc, hD, hl, hL⟩
    have hi : i ≤ ks.length := hi
    have hc : z.c = (ks.take i).foldl dropS s.c := hc
    have hD : Dso M1 z := hD
    have hL : ∀ b ∈ soL z, b ∈ soL s ∨ ∀ g, b = some g → M g = none := hL
    have hzc : z.c.cost ≤ 1048576 := by rw [hc]; exact Nat.le_trans (drops_cost _ _) hco
    obtain ⟨hz1, hz2⟩ := so_len hzc
    have W := (hw.mono hl).sl st_len
    conv => whnf
    refine caseB_dec (fun hb => ?_) (fun hb => ?_)
    · have hb : (i : Int) < ks.length := hb
      have hi' : i < ks.length := by omega
      have hw1 : IntKind.i64.wrap ((i : Int) + 1) = (i : Int) + 1 := wr_id (by omega) (by omega)
      obtain ⟨hA, _, hcc⟩ := W.get hi'
      have htk : ks.take (i + 1) = ks.take i ++ [ks[i]] := List.take_succ_eq_append_getElem hi'
      generalize ks[i] = k at *
      have hb1 : (0 : Int) ≤ (i : Int) := by omega
      conv => whnf
      refine ⟨hb1, hb, hA, ?_⟩
      conv => whnf
      refine ⟨_, hcc, ?_⟩
      conv => whnf
      refine XCall.lift (l8Drop_ret z k M1 hD hz1 hz2) [0] ?_ (by simp) (by simp) (by simp [AV.plain]) ?_
      · simp [ren]
      rintro r bs' M3 ⟨rfl, z', rfl, ec, hD3, hl3, hL3⟩
      refine ⟨by simp [AV.plain], ?_⟩
      conv => whnf
      refine ⟨(i + 1, z'), ⟨by simp [slots, leT, hw1], ⟨_, rfl⟩, (by first | exact Nat.zero_le _ | exact Nat.le_refl _), rfl, rfl⟩, ⟨hi', ?_, hD3, hl.trans hl3, fun b hb => (hL3 b hb).elim (fun hb => hL b hb) (fun hb => .inr fun g e => none_of_le hl (hb g e))⟩, by show _ - (i + 1) < _ - i; omega⟩
      show z'.c = (ks.take (i + 1)).foldl dropS s.c
      rw [ec, hc, htk, List.foldl_append]
      rfl
    · have hie : i = ks.length := by have : ¬ (i : Int) < ks.length := hb; omega
      subst hie
      rw [List.take_length] at hc
      conv => whnf
      exact ⟨_, PH.Le.refl _, rfl, z, rfl, by rw [hc]; rfl, hD, fun k ob hk _ => hl k ob hk, hL⟩
theorem l9Do_ret (x : StA) (ow : Option Nat) (B' : Option Addr) (d : Nat) (ks : List ByteArray) (hard : Bool) (M : PH) (hi : x.inn M) (hco : x.c.cost ≤ 1048576) (hw : Ow M ow B' d 1 stC ks) (hk : ks.length ≤ 1048576) :
    XCall env 82 [.bp 0 0, .v (.slice B' ks.length d), .v (B hard)] [stBox x] M fun r b M' => (∃ s, r = prV 0 s B' ks.length d ∧ s.c = purgeS x.c ks hard ∧ NewS M M' s ∧ Ow M' ow B' d 1 stC ks ∧ ∀ b ∈ soL s, Apart ow b) ∧ b = [stBox x] := by
  refine xcall_of_vc Tryz.func82 rfl _ Tryz.ntmps82 _ rfl (fun _ _ => Tryz.call82 _ _) rfl (fun w0 ρ0 => ?_)
  conv => whnf
  refine XCall.lift (l8Copy_ret x M hi hco) [0] ?_ (by simp) (by simp) (by simp [AV.plain]) ?_
  · simp [ren]
  rintro r bs' M1 ⟨⟨s, rfl, es, hs⟩, rfl⟩
  refine ⟨by simp [AV.plain], ?_⟩
  have hcs : s.c.cost ≤ 1048576 := by rw [es]; exact hco
  have kW : Kn M [ow] := fun b hb g e => by simp at hb; subst hb; exact hw.known g e
  have hap : ∀ b ∈ soL s, Apart ow b := fun b hb => apart_of kW hs.fr ow (by simp) b hb
  have hw1 := hw.mono hs.le
  conv => whnf
  refine XCall.lift (l9Purge_ret s ow B' d ks hard M1 hs.d hw1 hap hcs hk) [2] ?_ (by simp) (by simp) (by simp [AV.plain]) ?_
  · simp [ren]
  rintro r bs' M2 ⟨rfl, s', rfl, ec, hD, hK, hL⟩
  refine ⟨by simp [AV.plain], ?_⟩
  have fr' : ∀ b ∈ soL s', ∀ g, b = some g → M g = none := fun b hb g e => (hL b hb).elim (fun hb => hs.fr b hb g e) (fun hb => none_of_le hs.le (hb g e))
  conv => whnf
  exact ⟨_, PH.Le.refl _, ⟨s', rfl, by rw [ec, es], ⟨hD, hK.over hs.le hs.fr, fr'⟩, ow_keepsL hw1 hK hap, fun b hb => apart_of kW (L' := [b]) (fun y hy g e => fr' _ hb g (List.mem_singleton.mp hy ▸ e)) ow (by simp) b (by simp)⟩, rfl⟩
theorem keysL_all (es : List En) : keysL (fun _ => true) es = es.map (·.key) := by unfold keysL; rw [List.filter_eq_self.2 (fun _ _ => rfl)]
theorem keysL_one {es : List En} {k : ByteArray} (ha : AptG En.key es) : keysL (fun e => seq e.key k) es = if (look es k).isSome then [k] else [] := by
  induction es with
  | nil => rfl
  | cons e r ih =>
    have hp := List.pairwise_cons.1 ha
    cases h : seq e.key k with
    | false =>
      have e1 : keysL (fun e => seq e.key k) (e :: r) = keysL (fun e => seq e.key k) r := by unfold keysL; rw [List.filter_cons, h]; rfl
      have e2 : look (e :: r) k = look r k := by unfold look; rw [List.find?_cons, h]
      rw [e1, e2, ih hp.2]
    | true =>
      have hk : e.key = k := seq_iff.1 h
      have e0 : r.filter (fun e => seq e.key k) = [] := by
        rw [List.filter_eq_nil_iff]
        intro y hy hs
        exact hp.1 y hy (hk.trans (seq_iff.1 hs).symm)
      have e2 : look (e :: r) k = some e := by unfold look; rw [List.find?_cons, h]
      unfold keysL
      rw [List.filter_cons, h, e0, e2]
      simp [hk]
theorem purgeTag_spec (x : StA) (k : ByteArray) (hard : Bool) (M : PH) (hi : x.inn M) (hco : x.c.cost ≤ 1048576) :
    ACall env 26 [x.val, Tx k, B hard] M fun r M' => ∃ s o A c, r = prV (stFault x.c) s A (pgK x.c (fun e => tagT e.tags k)).length c ∧ s.c = pgS x.c (fun e => tagT e.tags k) hard ∧ NewP M M' s o A c (pgK x.c (fun e => tagT e.tags k)) := by
  obtain ⟨n1, n2, hd⟩ := st_split hco
  refine xcall_of_vc Tryz.func26 rfl _ Tryz.ntmps26 _ rfl (fun _ _ => Tryz.call26 _ _) rfl (fun w0 ρ0 => ?_)
  conv => whnf
  refine Ret.go (storeFault_spec x _ hi hco) ?_
  conv => whnf
  refine caseB_ndec (fun h => ?_) (fun h => ?_)
  · conv => whnf
    have e1 : pgK x.c (fun e => tagT e.tags k) = [] := by unfold pgK; rw [if_neg h]
    have e2 : pgS x.c (fun e => tagT e.tags k) hard = zSc := by unfold pgS; rw [if_neg h]
    rw [e1, e2]
    exact ⟨M, PH.Le.refl _, zSo, none, none, 0, rfl, rfl, zNewP M⟩
  have e1 : pgK x.c (fun e => tagT e.tags k) = keysL (fun e => tagT e.tags k) x.c.all := by unfold pgK; rw [if_pos h]
  have e2 : pgS x.c (fun e => tagT e.tags k) hard = purgeS x.c (keysL (fun e => tagT e.tags k) x.c.all) hard := by unfold pgS; rw [if_pos h]
  rw [e1, e2, h]
  conv => whnf
  refine XCall.lift (l9Tagged_ret 36 x k M hi n1 n2 hd) [0] ?_ (by simp) (by simp) (by simp [AV.plain]) ?_
  · simp [ren]
  rintro r bs' M1 ⟨⟨o, A, c, rfl, N⟩, rfl⟩
  refine ⟨by simp [AV.plain], ?_⟩
  conv => whnf
  refine XCall.lift (l9Do_ret x o A c _ hard M1 (hi.mono N.le) hco N.ow (Nat.le_trans (keysL_le _ _) (Nat.le_trans (stF_40 h) (by decide)))) [0] ?_ (by simp) (by simp) (by simp [AV.plain]) ?_
  · simp [ren]
  rintro r bs' M2 ⟨⟨s, rfl, ec, hS, hO, ap⟩, rfl⟩
  refine ⟨by simp [AV.plain], ?_⟩
  conv => whnf
  exact ⟨_, PH.Le.refl _, s, o, A, c, rfl, ec, ⟨hS.d, N.le.trans hS.le, hS.fr.le N.le⟩, hO, N.fr, fun b hb => (ap b hb)⟩
end Go.Proofs.YtgjaiabenjafeaaGreatDoor
