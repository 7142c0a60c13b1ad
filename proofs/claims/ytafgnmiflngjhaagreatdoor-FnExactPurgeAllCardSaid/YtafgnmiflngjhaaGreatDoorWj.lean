/-
  CONTRACTS: purged, the given program's way.
-/
import Derived.Test.YtafgnmiflngjhaaGreatDoorWi
namespace Go.Proofs.YtafgnmiflngjhaaGreatDoor
set_option maxRecDepth 100000
set_option linter.unusedSimpArgs false
set_option linter.unusedVariables false
open Go.Xe
theorem keyC_map (es : List En) (k : ByteArray) : keyC es k = idxF (fun t => seq t k) (es.map (·.key)) := by
  unfold keyC idxF
  rw [List.findIdx?_map]
  rfl
theorem keyC_soft (es : List En) (ks : List ByteArray) (k : ByteArray) : keyC (softK es ks) k = keyC es k := by rw [keyC_map, keyC_map, softK_key]
theorem soft_cost (e : En) : (soft1 e).cost = e.cost := rfl
theorem softK_cost (es : List En) (ks : List ByteArray) : costL En.cost (softK es ks) = costL En.cost es := by
  unfold softK costL
  rw [List.length_map, List.map_map]
  congr 2
  apply List.map_congr_left
  intro e _
  simp only [Function.comp]
  split <;> rfl
theorem dropS_cost (s : Sc) (k : ByteArray) : (dropS s k).cost ≤ s.cost := by
  have a := sub_cost (f := En.cost) (List.filter_sublist (p := fun e : En => !seq e.key k) (l := s.tr))
  have b := sub_cost (f := En.cost) (List.filter_sublist (p := fun e : En => !seq e.key k) (l := s.kp))
  unfold Sc.cost dropS dropK at *
  simp only
  omega
theorem drops_cost (ks : List ByteArray) : ∀ s : Sc, (ks.foldl dropS s).cost ≤ s.cost := by
  induction ks with
  | nil => exact fun s => Nat.le_refl _
  | cons k r ih => exact fun s => Nat.le_trans (ih _) (dropS_cost s k)
theorem purgeS_cost (s : Sc) (ks : List ByteArray) (hard : Bool) : (purgeS s ks hard).cost ≤ s.cost := by
  unfold purgeS
  split
  · exact drops_cost ks s
  · unfold Sc.cost softS
    simp only [softK_cost]
    omega
theorem soft_row {M : PH} {o : Option Nat} {A : Option Addr} {c : Nat} {ps : List EP} (h : Dw M o A c ps) {i : Nat} (hi : i < ps.length) : (ps.set i (ps[i].wth (soft1 ps[i].1.c))).map (·.1.c) = (ps.map (·.1.c)).set i (soft1 ((ps.map (·.1.c))[i]'(by simpa using hi))) := by
  rw [List.map_set]
  simp [EP.wth]
abbrev G3 := Nat × So
set_option maxHeartbeats 2000000 in
theorem purge_ret (s : So) (hard : Bool) (G : FuncId) (caps : List Value) (pr : En → Bool) (M : PH) (h : Dso M s) (hco : s.c.cost ≤ 1048576) (hapt : AptG En.key s.c.all) (hlen : s.c.all.length ≤ 40) (hg : ∀ y ∈ s.sta.tr ++ s.sta.kp, ∀ M', M.Le M' → Ret G (y.val :: caps) M' (B (pr y.c))) :
    XCall env 166 [.bp 0 0, .v (B hard), .v (.func (.func G) ⟨[]⟩ ⟨caps⟩)] [soBox s] M fun r b M' => ∃ s' M1 o A c, r = .slice A (keysL pr s.c.all).length c ∧ b = [soBox s'] ∧ s'.c = purgeS s.c (keysL pr s.c.all) hard ∧ New M M1 o A c 1 stC (keysL pr s.c.all) ∧ Dso M' s' ∧ KeepsL (soL s) M1 M' ∧ ∀ b ∈ soL s', b ∈ soL s := by
  obtain ⟨hn1, hn2⟩ := so_len hco
  have hkb := keysBy_ret s.sta G caps pr M h.inn (by show (s.p1.map (·.1)).length ≤ _; rw [List.length_map]; exact hn1) (by show (s.p2.map (·.1)).length ≤ _; rw [List.length_map]; exact hn2) hg
  rw [s.sta_val, s.sta_c] at hkb
  have hkin : ∀ t ∈ keysL pr s.c.all, ∃ e ∈ s.c.all, e.key = t := fun t ht => by
    unfold keysL at ht
    obtain ⟨e, he, rfl⟩ := List.mem_map.1 ht
    exact ⟨e, (List.mem_filter.1 he).1, rfl⟩
  have hkl := Nat.le_trans (keysL_le pr s.c.all) hlen
  generalize keysL pr s.c.all = ks at *
  refine xcall_of_vc Tryz.func166 rfl _ Tryz.ntmps166 _ rfl (fun _ _ => Tryz.call166 _ _) rfl (fun w0 ρ0 => ?_)
  conv => whnf
  refine ACall.step hkb fun v M1 hh => ?_
  obtain ⟨o, A, c, rfl, N⟩ := hh
  have h1 := h.mono N.le
  have apo : ∀ b ∈ soL s, Apart o b := fun b hb => (apart_of h.kn (L' := [o]) (fun x hx g e => by simp at hx; subst hx; exact N.fr g e) b hb o (by simp)).symm
  conv => whnf
  refine loop_rule (fun z : G3 => ⟨slots 33 [(0, .bp 0 0), (1, .v (B hard)), (7, .v (.slice A ks.length c)), (15, .v (.slice A ks.length c)), (16, .v (I ks.length)), (17, .v (I z.1))], [soBox z.2]⟩)
    (fun z M' => z.1 ≤ ks.length ∧ z.2.c = purgeS s.c (ks.take z.1) hard ∧ Dso M' z.2 ∧ KeepsL (soL s) M1 M' ∧ ∀ b ∈ soL z.2, b ∈ soL s) (fun z => ks.length - z.1) (0, s) ?_ ?_ ?_
  · exact ⟨by simp [slots, leT], ⟨[], rfl⟩, (by first | exact Nat.zero_le _ | exact Nat.le_refl _), rfl, rfl⟩
  · refine ⟨Nat.zero_le _, ?_, h1, KeepsL.refl _ _, fun b hb => hb⟩
    show s.c = purgeS s.c [] hard
    unfold purgeS softS
    cases hard
    · simp [softK_nil]
    · rfl
  rintro ⟨i, z⟩ M2 ⟨hi, hc, hD, hK, hL⟩
  have hi : i ≤ ks.length := hi
  have hc : z.c = purgeS s.c (ks.take i) hard := hc
  have hD : Dso M2 z := hD
  have hL : ∀ b ∈ soL z, b ∈ soL s := hL
  have hzc : z.c.cost ≤ 1048576 := by rw [hc]; exact Nat.le_trans (purgeS_cost _ _ _) hco
  obtain ⟨hz1, hz2⟩ := so_len hzc
  have W := (ow_keepsL N.ow hK apo).sl st_len
  conv => whnf
  refine caseB_dec (fun hb => ?_) (fun hb => ?_)
  · have hb : (i : Int) < ks.length := hb
    have hi' : i < ks.length := by omega
    have hw : IntKind.i64.wrap ((i : Int) + 1) = (i : Int) + 1 := wr_id (by omega) (by omega)
    obtain ⟨hA, _, hcc⟩ := W.get hi'
    have htk : ks.take (i + 1) = ks.take i ++ [ks[i]] := List.take_succ_eq_append_getElem hi'
    obtain ⟨e0, he0, hek⟩ := hkin ks[i] (List.getElem_mem hi')
    generalize ks[i] = k at *
    have hb1 : (0 : Int) ≤ (i : Int) := by omega
    conv => whnf
    refine ⟨hb1, hb, hA, ?_⟩
    conv => whnf
    refine ⟨_, hcc, ?_⟩
    conv => whnf
    cases hard with
    | true =>
      conv => whnf
      refine caseB_true ?_
      conv => whnf
      refine XCall.lift (drop_ret z k M2 hD hz1 hz2) [0] ?_ (by simp) (by simp) (by simp [AV.plain]) ?_
      · simp [ren]
      rintro r bs' M3 ⟨rfl, z', rfl, ec, hD3, hK3, hL3⟩
      refine ⟨by simp [AV.plain], ?_⟩
      conv => whnf
      refine ⟨(i + 1, z'), ⟨by simp [slots, leT, hw], ⟨_, rfl⟩, (by first | exact Nat.zero_le _ | exact Nat.le_refl _), rfl, rfl⟩, ⟨hi', ?_, hD3, hK.trans (hK3.mono hL), fun b hb => hL b (hL3 b hb)⟩, by show _ - (i + 1) < _ - i; omega⟩
      show z'.c = purgeS s.c (ks.take (i + 1)) true
      rw [ec, hc, htk]
      unfold purgeS
      simp
    | false =>
      conv => whnf
      refine caseB_false ?_
      conv => whnf
      have hfi := find_ret z.sta k M2 hD.inn (by show (z.p1.map (·.1)).length ≤ _; rw [List.length_map]; exact hz1) (by show (z.p2.map (·.1)).length ≤ _; rw [List.length_map]; exact hz2)
      rw [soBox_eq] at hfi
      refine XCall.lift hfi [0] ?_ (by simp) (by simp) (by simp [AV.plain]) ?_
      · simp [ren]
      rintro r bs' M3 ⟨rfl, rfl, rfl⟩
      refine ⟨by simp [AV.plain], ?_⟩
      have hfp : findP z.sta k = if 0 ≤ keyC (z.p1.map (·.1.c)) k then z.A1.map (·.add ((keyC (z.p1.map (·.1.c)) k).toNat * 13)) else if 0 ≤ keyC (z.p2.map (·.1.c)) k then z.A2.map (·.add ((keyC (z.p2.map (·.1.c)) k).toNat * 13)) else none := by
        unfold findP So.sta
        simp only [keyI_C, conts_ep]
      have t1 : z.p1.map (·.1.c) = softK s.c.tr (ks.take i) := congrArg Sc.tr hc
      have t2 : z.p2.map (·.1.c) = softK s.c.kp (ks.take i) := congrArg Sc.kp hc
      have a12 := List.pairwise_append.1 hapt
      rw [hfp]
      rcases keyC_cases s.c.tr k with ⟨e, hn⟩ | ⟨j, hj, e, hs1, _⟩
      · rcases keyC_cases s.c.kp k with ⟨e', hn'⟩ | ⟨j, hj, e', hs1, _⟩
        · exfalso
          have hke : seq e0.key k = true := seq_iff.2 hek
          rcases List.mem_append.1 he0 with hm | hm
          · rw [hn e0 hm] at hke; cases hke
          · rw [hn' e0 hm] at hke; cases hke
        · have hj2 : j < z.p2.length := by have := congrArg List.length t2; simp [softK] at this; omega
          have k1 : keyC (z.p1.map (·.1.c)) k = -1 := by rw [t1, keyC_soft, e]
          have k2 : keyC (z.p2.map (·.1.c)) k = j := by rw [t2, keyC_soft, e']
          obtain ⟨a, ha⟩ : ∃ a, z.A2.map (·.add (j * 13)) = some a := by
            obtain ⟨q, hq⟩ := Option.isSome_iff_exists.1 ((hD.k.row.sl EP.len).get hj2).1
            exact ⟨_, by rw [hq]; rfl⟩
          have ha' : z.A2.map (·.add ((j : Int).toNat * 13)) = some a := by rw [Int.toNat_natCast]; exact ha
          rw [if_neg (by omega), if_pos (by omega), k2, ha']
          conv => whnf
          have hT : Dw M3 z.o2 z.A2 z.c2 (z.p2.set j z.p2[j]) := by rw [List.set_getElem_self]; exact hD.k
          refine Dw.storeP (j := 9) hT hj2 ha (by simp) (z.p2[j].wth (soft1 z.p2[j].1.c)) rfl rfl (fun M h => ⟨h.h, h.y, h.t⟩) fun M4 D4 k4 => ?_
          conv => whnf
          have L2 := dwL_set (o := z.o2) hj2 (soft1 z.p2[j].1.c)
          have n2 : (z.p2.set j (z.p2[j].wth (soft1 z.p2[j].1.c))).length = z.p2.length := List.length_set
          have e4 := soft_row hD.k hj2
          have D5 : Dw M4 z.o1 z.A1 z.c1 z.p1 := hD.t.keepsL (Keeps.inL k4 (by simp : z.o2 ∈ [z.o2])) fun a ha b hb => by simp at hb; subst hb; exact hD.ap a ha _ (by simp)
          have e5 : (z.p2.map (·.1.c)).set j (soft1 ((z.p2.map (·.1.c))[j]'(by simpa using hj2))) = softK s.c.kp (ks.take (i + 1)) := by
            rw [htk, ← softK_at hj hs1 (aptK_ne a12.2.1 hj hs1)]
            simp only [t2]
          rw [e5] at e4
          generalize z.p2.set j (z.p2[j].wth (soft1 z.p2[j].1.c)) = q2 at *
          have hSL : soL (⟨z.b, z.g, z.o1, z.A1, z.c1, z.p1, z.o2, z.A2, z.c2, q2⟩ : So) = soL z := by unfold soL; rw [L2]
          refine ⟨(i + 1, ⟨z.b, z.g, z.o1, z.A1, z.c1, z.p1, z.o2, z.A2, z.c2, q2⟩), ⟨by simp [slots, leT, hw], ⟨[], by simp [n2]⟩, (by first | exact Nat.zero_le _ | exact Nat.le_refl _), rfl, rfl⟩, ⟨hi', ?_, ⟨D5, D4, fun a ha b hb => by rw [L2] at hb; exact hD.ap a ha b hb⟩, hK.trans (Keeps.inL k4 (hL _ (List.mem_append_right _ (by simp)))), fun b hb => by rw [hSL] at hb; exact hL b hb⟩, by show _ - (i + 1) < _ - i; omega⟩
          show (⟨z.b, z.g, z.p1.map (·.1.c), q2.map (·.1.c)⟩ : Sc) = purgeS s.c (ks.take (i + 1)) false
          have b1 : z.b = s.c.bud := congrArg Sc.bud hc
          have b2 : z.g = s.c.gd := congrArg Sc.gd hc
          rw [e4, t1, b1, b2]
          unfold purgeS softS
          rw [htk, softK_no hn]
          rfl
      · have hj1 : j < z.p1.length := by have := congrArg List.length t1; simp [softK] at this; omega
        have k1 : keyC (z.p1.map (·.1.c)) k = j := by rw [t1, keyC_soft, e]
        have hn : ∀ e ∈ s.c.kp, seq e.key k = false := by
          have h2 := keyC_apart (k := k) hapt (by rw [e]; omega)
          rcases keyC_cases s.c.kp k with ⟨_, hn⟩ | ⟨j2, _, e2, _⟩
          · exact hn
          · omega
        obtain ⟨a, ha⟩ : ∃ a, z.A1.map (·.add (j * 13)) = some a := by
          obtain ⟨q, hq⟩ := Option.isSome_iff_exists.1 ((hD.t.row.sl EP.len).get hj1).1
          exact ⟨_, by rw [hq]; rfl⟩
        have ha' : z.A1.map (·.add ((j : Int).toNat * 13)) = some a := by rw [Int.toNat_natCast]; exact ha
        rw [if_pos (by omega), k1, ha']
        conv => whnf
        have hT : Dw M3 z.o1 z.A1 z.c1 (z.p1.set j z.p1[j]) := by rw [List.set_getElem_self]; exact hD.t
        refine Dw.storeP (j := 9) hT hj1 ha (by simp) (z.p1[j].wth (soft1 z.p1[j].1.c)) rfl rfl (fun M h => ⟨h.h, h.y, h.t⟩) fun M4 D4 k4 => ?_
        conv => whnf
        have L2 := dwL_set (o := z.o1) hj1 (soft1 z.p1[j].1.c)
        have n2 : (z.p1.set j (z.p1[j].wth (soft1 z.p1[j].1.c))).length = z.p1.length := List.length_set
        have e4 := soft_row hD.t hj1
        have D5 : Dw M4 z.o2 z.A2 z.c2 z.p2 := hD.k.keepsL (Keeps.inL k4 (by simp : z.o1 ∈ [z.o1])) fun a ha b hb => by simp at hb; subst hb; exact (hD.ap _ (by simp) a ha).symm
        have e5 : (z.p1.map (·.1.c)).set j (soft1 ((z.p1.map (·.1.c))[j]'(by simpa using hj1))) = softK s.c.tr (ks.take (i + 1)) := by
          rw [htk, ← softK_at hj hs1 (aptK_ne a12.1 hj hs1)]
          simp only [t1]
        rw [e5] at e4
        generalize z.p1.set j (z.p1[j].wth (soft1 z.p1[j].1.c)) = q1 at *
        have hSL : soL (⟨z.b, z.g, z.o1, z.A1, z.c1, q1, z.o2, z.A2, z.c2, z.p2⟩ : So) = soL z := by unfold soL; rw [L2]
        refine ⟨(i + 1, ⟨z.b, z.g, z.o1, z.A1, z.c1, q1, z.o2, z.A2, z.c2, z.p2⟩), ⟨by simp [slots, leT, hw], ⟨[], by simp [n2]⟩, (by first | exact Nat.zero_le _ | exact Nat.le_refl _), rfl, rfl⟩, ⟨hi', ?_, ⟨D4, D5, fun a ha b hb => by rw [L2] at ha; exact hD.ap a ha b hb⟩, hK.trans (Keeps.inL k4 (hL _ (List.mem_append_left _ (by simp)))), fun b hb => by rw [hSL] at hb; exact hL b hb⟩, by show _ - (i + 1) < _ - i; omega⟩
        show (⟨z.b, z.g, q1.map (·.1.c), z.p2.map (·.1.c)⟩ : Sc) = purgeS s.c (ks.take (i + 1)) false
        have b1 : z.b = s.c.bud := congrArg Sc.bud hc
        have b2 : z.g = s.c.gd := congrArg Sc.gd hc
        rw [e4, t2, b1, b2]
        unfold purgeS softS
        rw [htk, softK_no hn]
        rfl
  · have hie : i = ks.length := by have : ¬ (i : Int) < ks.length := hb; omega
    subst hie
    rw [List.take_length] at hc
    conv => whnf
    exact ⟨_, PH.Le.refl _, z, M1, o, A, c, rfl, rfl, hc, N, hD, hK, hL⟩
end Go.Proofs.YtafgnmiflngjhaaGreatDoor
