/-
  CONTRACTS: purged, the reference's way; results with a store and keys.
-/
import Derived.Test.YtafgnmiflngjhaaGreatDoorWl
namespace Go.Proofs.YtafgnmiflngjhaaGreatDoor
set_option maxRecDepth 100000
set_option linter.unusedSimpArgs false
set_option linter.unusedVariables false
open Go.Xe
theorem l9Purge_ret (s : So) (ow : Option Nat) (B' : Option Addr) (d : Nat) (ks : List ByteArray) (hard : Bool) (M : PH) (h : Dso M s) (hw : Ow M ow B' d 1 stC ks) (hap : ∀ b ∈ soL s, Apart ow b) (hco : s.c.cost ≤ 1048576) (hk : ks.length ≤ 1048576) :
    XCall env 167 [.bp 0 0, .v (.slice B' ks.length d), .v (B hard)] [soBox s] M fun r b M' => r = .tuple #[] ∧ ∃ s', b = [soBox s'] ∧ s'.c = purgeS s.c ks hard ∧ Dso M' s' ∧ KeepsL (soL s) M M' ∧ ∀ b ∈ soL s', b ∈ soL s ∨ ∀ g, b = some g → M g = none := by
  obtain ⟨hn1, hn2⟩ := so_len hco
  refine xcall_of_vc Tryz.func167 rfl _ Tryz.ntmps167 _ rfl (fun _ _ => Tryz.call167 _ _) rfl (fun w0 ρ0 => ?_)
  conv => whnf
  cases hard with
  | false =>
    conv => whnf
    refine caseB_true ?_
    conv => whnf
    refine ACall.step (l9Soft_ret s.o1 s.A1 s.c1 s.p1 B' d ks ow M h.t hw (hap _ (List.mem_append_left _ (by simp))) hn1 hk) fun v M1 hh => ?_
    obtain ⟨rfl, q1, n1, D1, e1, L1, K1⟩ := hh
    conv => whnf
    have D2 : Dw M1 s.o2 s.A2 s.c2 s.p2 := h.k.keepsL (Keeps.inL K1 (by simp : s.o1 ∈ [s.o1])) fun a ha b hb => by simp at hb; subst hb; exact (h.ap _ (by simp) a ha).symm
    have hw2 : Ow M1 ow B' d 1 stC ks := hw.keeps K1 fun g e e' => hap _ (List.mem_append_left _ (by simp)) g e e'
    refine ACall.step (l9Soft_ret s.o2 s.A2 s.c2 s.p2 B' d ks ow M1 D2 hw2 (hap _ (List.mem_append_right _ (by simp))) hn2 hk) fun v M2 hh => ?_
    obtain ⟨rfl, q2, n2, D3, e2, L2, K2⟩ := hh
    conv => whnf
    have D4 : Dw M2 s.o1 s.A1 s.c1 q1 := D1.keepsL (Keeps.inL K2 (by simp : s.o2 ∈ [s.o2])) fun a ha b hb => by simp at hb; subst hb; rw [L1] at ha; exact h.ap a ha _ (by simp)
    have hSL : soL (⟨s.b, s.g, s.o1, s.A1, s.c1, q1, s.o2, s.A2, s.c2, q2⟩ : So) = soL s := by unfold soL; rw [L1, L2]
    exact ⟨_, PH.Le.refl _, rfl, ⟨s.b, s.g, s.o1, s.A1, s.c1, q1, s.o2, s.A2, s.c2, q2⟩, by simp [n1, n2], by unfold So.c purgeS softS; rw [e1, e2]; rfl, ⟨D4, D3, fun a ha b hb => by rw [L1] at ha; rw [L2] at hb; exact h.ap a ha b hb⟩, (Keeps.inL K1 (List.mem_append_left _ (by simp))).trans (Keeps.inL K2 (List.mem_append_right _ (by simp))), fun b hb => .inl (by rw [hSL] at hb; exact hb)⟩
  | true =>
    conv => whnf
    refine caseB_false ?_
    conv => whnf
    refine loop_rule (fun z : G3 => ⟨slots 33 [(0, .bp 0 0), (1, .v (.slice B' ks.length d)), (6, .v (I z.1))], [soBox z.2]⟩)
      (fun z M' => z.1 ≤ ks.length ∧ z.2.c = (ks.take z.1).foldl dropS s.c ∧ Dso M' z.2 ∧ M.Le M' ∧ ∀ b ∈ soL z.2, b ∈ soL s ∨ ∀ g, b = some g → M g = none) (fun z => ks.length - z.1) (0, s) ?_ ?_ ?_
    · exact ⟨by simp [slots, leT], ⟨[], rfl⟩, (by first | exact Nat.zero_le _ | exact Nat.le_refl _), rfl, rfl⟩
    · exact ⟨Nat.zero_le _, rfl, h, PH.Le.refl _, fun b hb => .inl hb⟩
    rintro ⟨i, z⟩ M1 ⟨hi, hc, hD, hl, hL⟩
    have hi : i ≤ ks.length := hi
    have hc : z.c = (ks.take i).foldl dropS s.c := hc
    have hD : Dso M1 z := hD
    have hL : ∀ b ∈ soL z, b ∈ soL s ∨ ∀ g, b = some g → M g = none := hL
    have hzc : z.c.cost ≤ 1048576 := by rw [hc]; exact Nat.le_trans (drops_cost _ _) hco
    obtain ⟨hz1, hz2⟩ := so_len hzc
    have W := (hw.mono hl).sl st_len
    conv => whnf
    refine caseB_dec (fun hb => ?_) (fun hb => ?_)
    · have hb : (i : Int) < ks.length := hb
      have hi' : i < ks.length := by omega
      have hw1 : IntKind.i64.wrap ((i : Int) + 1) = (i : Int) + 1 := wr_id (by omega) (by omega)
      obtain ⟨hA, _, hcc⟩ := W.get hi'
      have htk : ks.take (i + 1) = ks.take i ++ [ks[i]] := List.take_succ_eq_append_getElem hi'
      generalize ks[i] = k at *
      have hb1 : (0 : Int) ≤ (i : Int) := by omega
      conv => whnf
      refine ⟨hb1, hb, hA, ?_⟩
      conv => whnf
      refine ⟨_, hcc, ?_⟩
      conv => whnf
      refine XCall.lift (l8Drop_ret z k M1 hD hz1 hz2) [0] ?_ (by simp) (by simp) (by simp [AV.plain]) ?_
      · simp [ren]
      rintro r bs' M3 ⟨rfl, z', rfl, ec, hD3, hl3, hL3⟩
      refine ⟨by simp [AV.plain], ?_⟩
      conv => whnf
      refine ⟨(i + 1, z'), ⟨by simp [slots, leT, hw1], ⟨_, rfl⟩, (by first | exact Nat.zero_le _ | exact Nat.le_refl _), rfl, rfl⟩, ⟨hi', ?_, hD3, hl.trans hl3, fun b hb => (hL3 b hb).elim (fun hb => hL b hb) (fun hb => .inr fun g e => none_of_le hl (hb g e))⟩, by show _ - (i + 1) < _ - i; omega⟩
      show z'.c = (ks.take (i + 1)).foldl dropS s.c
      rw [ec, hc, htk, List.foldl_append]
      rfl
    · have hie : i = ks.length := by have : ¬ (i : Int) < ks.length := hb; omega
      subst hie
      rw [List.take_length] at hc
      conv => whnf
      exact ⟨_, PH.Le.refl _, rfl, z, rfl, by rw [hc]; rfl, hD, fun k ob hk _ => hl k ob hk, hL⟩
theorem l9Do_ret (x : StA) (ow : Option Nat) (B' : Option Addr) (d : Nat) (ks : List ByteArray) (hard : Bool) (M : PH) (hi : x.inn M) (hco : x.c.cost ≤ 1048576) (hw : Ow M ow B' d 1 stC ks) (hk : ks.length ≤ 1048576) :
    XCall env 108 [.bp 0 0, .v (.slice B' ks.length d), .v (B hard)] [stBox x] M fun r b M' => (∃ s, r = prV 0 s B' ks.length d ∧ s.c = purgeS x.c ks hard ∧ NewS M M' s ∧ Ow M' ow B' d 1 stC ks ∧ ∀ b ∈ soL s, Apart ow b) ∧ b = [stBox x] := by
  refine xcall_of_vc Tryz.func108 rfl _ Tryz.ntmps108 _ rfl (fun _ _ => Tryz.call108 _ _) rfl (fun w0 ρ0 => ?_)
  conv => whnf
  refine XCall.lift (l8Copy_ret x M hi hco) [0] ?_ (by simp) (by simp) (by simp [AV.plain]) ?_
  · simp [ren]
  rintro r bs' M1 ⟨⟨s, rfl, es, hs⟩, rfl⟩
  refine ⟨by simp [AV.plain], ?_⟩
  have hcs : s.c.cost ≤ 1048576 := by rw [es]; exact hco
  have kW : Kn M [ow] := fun b hb g e => by simp at hb; subst hb; exact hw.known g e
  have hap : ∀ b ∈ soL s, Apart ow b := fun b hb => apart_of kW hs.fr ow (by simp) b hb
  have hw1 := hw.mono hs.le
  conv => whnf
  refine XCall.lift (l9Purge_ret s ow B' d ks hard M1 hs.d hw1 hap hcs hk) [2] ?_ (by simp) (by simp) (by simp [AV.plain]) ?_
  · simp [ren]
  rintro r bs' M2 ⟨rfl, s', rfl, ec, hD, hK, hL⟩
  refine ⟨by simp [AV.plain], ?_⟩
  have fr' : ∀ b ∈ soL s', ∀ g, b = some g → M g = none := fun b hb g e => (hL b hb).elim (fun hb => hs.fr b hb g e) (fun hb => none_of_le hs.le (hb g e))
  conv => whnf
  exact ⟨_, PH.Le.refl _, ⟨s', rfl, by rw [ec, es], ⟨hD, hK.over hs.le hs.fr, fr'⟩, ow_keepsL hw1 hK hap, fun b hb => apart_of kW (L' := [b]) (fun y hy g e => fr' _ hb g (List.mem_singleton.mp hy ▸ e)) ow (by simp) b (by simp)⟩, rfl⟩
theorem keysL_all (es : List En) : keysL (fun _ => true) es = es.map (·.key) := by unfold keysL; rw [List.filter_eq_self.2 (fun _ _ => rfl)]
theorem l9All_ret (x : StA) (M : PH) (hi : x.inn M) (n1 : x.tr.length ≤ 1048576) (n2 : x.kp.length ≤ 1048576) :
    XCall env 140 [.bp 0 0] [stBox x] M fun r b M' => (∃ o A c, r = .slice A (keysL (fun _ => true) x.c.all).length c ∧ New M M' o A c 1 stC (keysL (fun _ => true) x.c.all)) ∧ b = [stBox x] := by
  have hal := all_conts x
  have hwn : (x.tr ++ x.kp).length ≤ 2097152 := by rw [List.length_append]; omega
  refine xcall_of_vc Tryz.func140 rfl _ Tryz.ntmps140 _ rfl (fun _ _ => Tryz.call140 _ _) rfl (fun w0 ρ0 => ?_)
  conv => whnf
  intro g1 hg1
  conv => whnf
  have l0 := PH.Le.set (.cells (#[] : Array Value) 9 (0, 0)) hg1
  refine XCall.lift (l8All_ret 36 x _ (hi.mono l0) n1 n2) [0] ?_ (by simp) (by simp) (by simp [AV.plain]) ?_
  · simp [ren]
  rintro r bs' M0 ⟨⟨o0, A, c, rfl, hN0⟩, rfl⟩
  refine ⟨by simp [AV.plain], ?_⟩
  have hE := all_ens (hi.mono l0) hN0
  have l1 := l0.trans hN0.le
  rw [hal]
  clear hN0 hal
  generalize x.tr ++ x.kp = ws at *
  have hcl : (conts ws).length = ws.length := List.length_map _
  generalize hpr : (fun _ : En => true) = pr
  conv => whnf
  refine loop_rule (fun z : G1 => ⟨slots 24 [(3, .v (.slice z.2.2.1 (keysL pr ((conts ws).take z.1)).length z.2.2.2)), (4, .v (.slice A ws.length c)), (5, .v (I z.1))], [stBox x]⟩)
    (fun z M' => z.1 ≤ ws.length ∧ New M0 M' z.2.1 z.2.2.1 z.2.2.2 1 stC (keysL pr ((conts ws).take z.1))) (fun z => ws.length - z.1) (0, none, some ⟨g1, 0, none⟩, 0) ?_ ?_ ?_
  · exact ⟨by simp [slots, leT, keysL], ⟨[], rfl⟩, (by first | exact Nat.zero_le _ | exact Nat.le_refl _), rfl, rfl⟩
  · exact ⟨Nat.zero_le _, Ow.nil, PH.Le.refl _, fun g e => nomatch e⟩
  rintro ⟨i, o, D, d⟩ M1 ⟨hi0, hN⟩
  have hi0 : i ≤ ws.length := hi0
  have hN : New M0 M1 o D d 1 stC (keysL pr ((conts ws).take i)) := hN
  have hlt := keysL_le pr ((conts ws).take i)
  rw [List.length_take, hcl] at hlt
  conv => whnf
  refine caseB_dec (fun h0 => ?_) (fun h0 => ?_)
  · have h0 : (i : Int) < ws.length := h0
    have hi' : i < ws.length := by omega
    have hw : IntKind.i64.wrap ((i : Int) + 1) = (i : Int) + 1 := wr_id (by omega) (by omega)
    obtain ⟨hA, _, hc⟩ := (hE.sl.mono hN.le).get hi'
    have hci : (conts ws)[i]'(by omega) = ws[i].c := by simp
    have ey := keysL_yes (pr := pr) (es := conts ws) (i := i) (by omega)
    rw [hci] at ey
    have e1 := ey (by rw [← hpr])
    generalize ws[i] = y at *
    conv => whnf
    refine ⟨by omega, by omega, hA, ?_⟩
    conv => whnf
    refine ⟨_, cells_cut hc 0 rfl, ?_⟩
    conv => whnf
    intro g0 hg0
    conv => whnf
    have l2 := PH.Le.set (.cells ([y.c.key].flatMap stC).toArray 9 (0, 0)) hg0
    have hS := sl_full st_len M1 g0 [y.c.key] 9 (0, 0)
    refine app_sl (te := ti9) (f := stC) (xs := keysL pr ((conts ws).take i)) (ys := [y.c.key]) (o := o) hS (hN.ow.mono l2) st_len st_one rfl (st_fits _ _ (by show _ + 1 ≤ _; omega)) (by show _ + 1 ≤ _; omega) fun o' A' c' M' hO hK hF => ?_
    conv => whnf
    exact ⟨(i + 1, o', A', c'), ⟨by simp [slots, leT, hw, e1], ⟨_, rfl⟩, (by first | exact Nat.zero_le _ | exact Nat.le_refl _), rfl, rfl⟩, ⟨hi', by show New _ _ _ _ _ _ _ _; rw [e1]; exact hN.more l2 hK hO hF⟩, by show _ - (i + 1) < _ - i; omega⟩
  · have hi' : i = ws.length := by have : ¬ (i : Int) < ws.length := h0; omega
    subst hi'
    rw [← hcl, List.take_length] at hN
    conv => whnf
    exact ⟨_, PH.Le.refl _, ⟨o, D, d, by rw [← hcl, List.take_length]; rfl, hN.from l1⟩, rfl⟩
end Go.Proofs.YtafgnmiflngjhaaGreatDoor
