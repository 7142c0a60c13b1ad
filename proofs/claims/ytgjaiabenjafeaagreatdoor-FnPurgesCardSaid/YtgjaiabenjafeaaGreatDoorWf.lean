/-
  CONTRACTS: an entry pinned. CONTRACTS AND THE LAW: an entry pinned.
-/
import Derived.Test.YtgjaiabenjafeaaGreatDoorWd
namespace Go.Proofs.YtgjaiabenjafeaaGreatDoor
set_option maxRecDepth 100000
set_option linter.unusedSimpArgs false
set_option linter.unusedVariables false
open Go.Xe
def keyC (es : List En) (k : ByteArray) : Int := idxF (fun e : En => seq e.key k) es
theorem keyI_C (ws : List EnA) (k : ByteArray) : keyI ws k = keyC (conts ws) k := by
  unfold keyI keyC idxF conts
  rw [List.findIdx?_map]
  rfl
theorem keyC_cases (es : List En) (k : ByteArray) : (keyC es k = -1 ∧ ∀ e ∈ es, seq e.key k = false) ∨ ∃ i, ∃ h : i < es.length, keyC es k = i ∧ seq es[i].key k = true ∧ ∀ j, ∀ h2 : j < i, seq (es[j]'(by omega)).key k = false := by
  unfold keyC idxF
  cases h : es.findIdx? (fun e : En => seq e.key k) with
  | none =>
    rw [List.findIdx?_eq_none_iff] at h
    exact .inl ⟨rfl, fun w hw => by simpa using h w hw⟩
  | some i =>
    rw [List.findIdx?_eq_some_iff_getElem] at h
    obtain ⟨hi, h1, h2⟩ := h
    exact .inr ⟨i, hi, rfl, h1, fun j hj => by simpa using h2 j hj⟩
def pin1 (e : En) (d : Int) : En := { e with pins := IntKind.i64.wrap (e.pins + d) }
def pinL (es : List En) (i : Nat) (d : Int) : List En := match es[i]? with | some e => es.set i (pin1 e d) | none => es
def pinK (es : List En) (k : ByteArray) (d : Int) : List En := if 0 ≤ keyC es k then pinL es (keyC es k).toNat d else es
/-- A row with one entry pinned. -/
theorem pin_row {M : PH} {o : Option Nat} {A : Option Addr} {c : Nat} {ps : List EP} (h : Dw M o A c ps) (k : ByteArray) :
    (keyC (ps.map (·.1.c)) k < 0 ∧ ∀ d, pinK (ps.map (·.1.c)) k d = ps.map (·.1.c)) ∨ ∃ i, ∃ hi : i < ps.length, keyC (ps.map (·.1.c)) k = i ∧ look (ps.map (·.1.c)) k = some ps[i].1.c ∧ ∀ d, (ps.set i (ps[i].wth (pin1 ps[i].1.c d))).map (·.1.c) = pinK (ps.map (·.1.c)) k d := by
  rcases keyC_cases (ps.map (·.1.c)) k with ⟨e, hn⟩ | ⟨i, hi, e, h1, h2⟩
  · exact .inl ⟨by omega, fun d => by unfold pinK; rw [if_neg (by omega)]⟩
  · have hi' : i < ps.length := by simpa using hi
    refine .inr ⟨i, hi', e, ?_, fun d => ?_⟩
    · unfold look
      rw [List.find?_eq_some_iff_getElem]
      exact ⟨by simpa using h1, i, hi, by simp, fun j hj => by have := h2 j hj; simp at this ⊢; exact this⟩
    · unfold pinK pinL
      rw [if_pos (by omega), e, Int.toNat_natCast, List.getElem?_eq_getElem hi, List.map_set]
      simp [EP.wth]
theorem Dw.storeP {M : PH} {o : Option Nat} {A : Option Addr} {c : Nat} {qs : List EP} {i : Nat} {x : EP} {K : PH → Prop} (h : Dw M o A c (qs.set i x)) (hi : i < qs.length) {a : Addr} (ha : A.map (·.add (i * 13)) = some a) {j : Nat} {vs : List Value} (hj : j + vs.length ≤ 13) (x' : EP) (hx : EP.cs x' = spl (EP.cs x) j vs) (h2 : x'.2 = x.2) (hE : ∀ M, Ed M x → Ed M x')
    (hk : ∀ M', Dw M' o A c (qs.set i x') → Keeps o M M' → K M') :
    ∃ (g : Nat) (off : Nat) (cells : List Value) (ty : TypeId) (fz : Nat × Nat), some a = some ⟨g, off, none⟩ ∧ M g = some (.cells cells.toArray ty fz) ∧ (off + j + vs.length ≤ cells.length ∧ (fz.2 ≤ off + j ∨ off + j + vs.length ≤ fz.1)) ∧ K (M.set g (.cells (spl cells (off + j) vs).toArray ty fz)) := by
  obtain ⟨g, off, cells, ty, fz, hA, hM, hb, hK⟩ := Dw.store (K := K) h hi hj x' hx h2 hE hk
  rw [hA] at ha
  simp only [Option.map_some, Option.some.injEq] at ha
  rw [add_at] at ha
  subst ha
  rw [← Nat.add_assoc] at hb hK
  exact ⟨g, off + i * 13, cells, ty, fz, rfl, hM, hb, hK⟩
theorem Dw.cellP {M : PH} {o : Option Nat} {A : Option Addr} {c : Nat} {ps : List EP} {i : Nat} (h : Dw M o A c ps) (hi : i < ps.length) {a : Addr} (ha : A.map (·.add (i * 13)) = some a) (j : Nat) {v : Value} (hv : (EP.cs ps[i])[j]? = some v) : M.cells (some a) j [v] := by
  obtain ⟨_, b, hb, hc⟩ := (h.row.sl EP.len).at_ i _ (List.getElem?_eq_getElem hi)
  rw [hb] at ha
  simp only [Option.map_some, Option.some.injEq] at ha
  subst ha
  refine ⟨_, rfl, fun n w hw => ?_⟩
  rw [add_add]
  have := hc (j + n) w (by
    cases n with
    | zero => simp at hw; subst hw; simpa using hv
    | succ n => simp at hw)
  exact this
/-- The block of a store, as the executor has it. -/
abbrev soBox (s : So) : Box := ⟨36, [.v (I s.b), .v (I s.g), .v (.slice s.A1 s.p1.length s.c1), .v (.slice s.A2 s.p2.length s.c2)]⟩
theorem soBox_eq (s : So) : stBox s.sta = soBox s := by simp [So.sta]
def pinC (s : Sc) (k : ByteArray) (d : Int) : Int := if inB d (-20) 20 && inB (IntKind.i64.wrap ((pkE s k).pins + d)) 0 20 then 0 else 3
noncomputable def pinCode (s : Sc) (k : ByteArray) (d : Int) : Int := if swF s k ≠ 0 then swF s k else pinC s k d
def pinS (s : Sc) (k : ByteArray) (d : Int) : Sc := ⟨s.bud, s.gd, pinK s.tr k d, pinK s.kp k d⟩
noncomputable def pinR (s : Sc) (k : ByteArray) (d : Int) : Sc := if pinCode s k d = 0 then pinS s k d else zSc
theorem pinL_cost (es : List En) (i : Nat) (d : Int) : costL En.cost (pinL es i d) = costL En.cost es := by
  unfold pinL
  cases h : es[i]? with
  | none => rfl
  | some e =>
    obtain ⟨hi, rfl⟩ := List.getElem?_eq_some_iff.1 h
    unfold costL
    rw [List.length_set]
    congr 2
    rw [List.map_set]
    apply List.ext_getElem?
    intro j
    rw [List.getElem?_set]
    by_cases e : i = j
    · subst e; simp [hi, pin1, En.cost]
    · simp [e]
theorem pinK_cost (es : List En) (k : ByteArray) (d : Int) : costL En.cost (pinK es k d) = costL En.cost es := by
  unfold pinK
  split
  · exact pinL_cost _ _ _
  · rfl
theorem pinR_cost {s : Sc} (k : ByteArray) (d : Int) (h : s.cost ≤ 1048576) : (pinR s k d).cost ≤ 1048576 := by
  unfold pinR
  split
  · have : (pinS s k d).cost = s.cost := by unfold Sc.cost pinS; simp only [pinK_cost]
    omega
  · show costL En.cost [] + costL En.cost [] ≤ _
    decide
theorem conts_ep (ps : List EP) : conts (ps.map (·.1)) = ps.map (·.1.c) := by simp [conts, Function.comp_def]
theorem dwL_set {o : Option Nat} {ps : List EP} {i : Nat} (hi : i < ps.length) (e : En) : dwL o (ps.set i (ps[i].wth e)) = dwL o ps := by
  unfold dwL
  rw [blks_set (x := ps[i].wth e) hi rfl]
theorem so_len {s : So} (hco : s.c.cost ≤ 1048576) : s.p1.length ≤ 1048576 ∧ s.p2.length ≤ 1048576 := by
  have a := costL_len En.cost (s.p1.map (·.1.c))
  have b := costL_len En.cost (s.p2.map (·.1.c))
  rw [List.length_map] at a b
  unfold Sc.cost So.c at hco
  simp only at hco
  omega
theorem l8FindP (A : Option Addr) (c : Nat) (o : Option Nat) (ps : List EP) (k : ByteArray) (M : PH) (h : Dw M o A c ps) (hn : ps.length ≤ 1048576) : Ret 162 [.slice A ps.length c, Tx k] M (I (keyC (ps.map (·.1.c)) k)) := by
  have := l8Find_ret A c (ps.map (·.1)) k M h.ens.sl (by rw [List.length_map]; omega)
  rw [List.length_map, keyI_C, conts_ep] at this
  exact this
theorem l8Pin_ret (s : So) (k : ByteArray) (d : Int) (M : PH) (h : Dso M s) (hco : s.c.cost ≤ 1048576) :
    XCall env 117 [.bp 0 0, .v (Tx k), .v (I d)] [soBox s] M fun r b M' => r = .tuple #[] ∧ (∃ s' : So, s'.val = s.val ∧ s'.c = pinS s.c k d ∧ Dso M' s' ∧ KeepsL (soL s) M M' ∧ soL s' = soL s) ∧ b = [soBox s] := by
  obtain ⟨hn1, hn2⟩ := so_len hco
  refine xcall_of_vc Tryz.func117 rfl _ Tryz.ntmps117 _ rfl (fun _ _ => Tryz.call117 _ _) rfl (fun w0 ρ0 => ?_)
  conv => whnf
  refine Ret.go (l8FindP s.A1 s.c1 s.o1 s.p1 k M h.t hn1) ?_
  conv => whnf
  rcases pin_row h.t k with ⟨e, hp⟩ | ⟨i, hi, e, _, hp⟩
  · refine caseB_dec (fun h0 => absurd h0 (by omega)) (fun _ => ?_)
    conv => whnf
    obtain ⟨q1, M1, D1, D2, e1, K1, L1, z1⟩ : ∃ q1 M1, Dw M1 s.o1 s.A1 s.c1 q1 ∧ Dw M1 s.o2 s.A2 s.c2 s.p2 ∧ q1.map (·.1.c) = pinK (s.p1.map (·.1.c)) k d ∧ KeepsL (soL s) M M1 ∧ dwL s.o1 q1 = dwL s.o1 s.p1 ∧ q1.length = s.p1.length ∧ M1 = M := ⟨s.p1, M, h.t, h.k, (hp d).symm, KeepsL.refl _ _, rfl, rfl, rfl⟩
    obtain ⟨n1, rfl⟩ := z1
    refine Ret.go (l8FindP s.A2 s.c2 s.o2 s.p2 k M1 D2 hn2) ?_
    conv => whnf
    rcases pin_row D2 k with ⟨e2, hp2⟩ | ⟨j, hj, e2, _, hp2⟩
    · refine caseB_dec (fun h0 => absurd h0 (by omega)) (fun _ => ?_)
      conv => whnf
      exact ⟨_, PH.Le.refl _, rfl, ⟨⟨s.b, s.g, s.o1, s.A1, s.c1, q1, s.o2, s.A2, s.c2, s.p2⟩, by simp [So.val, n1], by unfold So.c pinS; rw [e1, hp2 d], ⟨D1, D2, fun a ha b hb => by rw [L1] at ha; exact h.ap a ha b hb⟩, K1, by unfold soL; rw [L1]⟩, rfl⟩
    · rw [e2]
      have hA2 : s.A2.isSome = true := ((D2.row.sl EP.len).get hj).1
      have cP2 : M1.cells s.A2 (j * 13 + 12) [I s.p2[j].1.c.pins] := cells_cut ((D2.row.sl EP.len).at_ j _ (List.getElem?_eq_getElem hj)).2 12 rfl
      refine caseB_dec (fun _ => ?_) (fun h0 => absurd (by omega) h0)
      conv => whnf
      have hT2 : Dw M1 s.o2 s.A2 s.c2 (s.p2.set j s.p2[j]) := by rw [List.set_getElem_self]; exact D2
      have hb3 : (0 : Int) ≤ (j : Int) := by omega
      have hb4 : (j : Int) < (s.p2.length : Int) := by omega
      repeat' (first | (refine ⟨⟨[], rfl⟩, _, PH.Le.refl _, PH.Le.refl _, ?_⟩; conv => whnf) | (refine ⟨_, cP2, ?_⟩; conv => whnf) | (refine ⟨hb3, hb4, hA2, ?_⟩; conv => whnf) | (refine caseB_true ?_; conv => whnf) | (refine caseB_false ?_; conv => whnf) | ((with_reducible refine caseB_dec (fun h => ?_) (fun h => ?_)) <;> conv => whnf) | ((with_reducible refine caseB_ndec (fun h => ?_) (fun h => ?_)) <;> conv => whnf) | ((with_reducible refine caseB_not (fun h => ?_) (fun h => ?_)) <;> conv => whnf) | (refine draw_rule (.light 0 <| .light 1 <| .light 2 <| .light 3 <| .light 4 <| .light 5 <| .light 6 <| .light 7 <| .light 8 <| .light 9 <| .light 10 <| .light 11 <| .light 12 <| .light 13 <| .light 14 <| .light 15 <| .light 16 <| .alt 17 true (.done) .nil) (by decide +kernel) ?_; conv => whnf) | (refine draw_rule (.light 0 <| .light 1 <| .light 2 <| .light 3 <| .light 4 <| .light 5 <| .light 6 <| .light 7 <| .light 8 <| .light 9 <| .light 10 <| .light 11 <| .light 12 <| .light 13 <| .light 14 <| .light 15 <| .light 16 <| .alt 17 true (.done) .nil) (by decide +kernel) ?_; conv => whnf) | (with_reducible refine @And.intro (guardVC _ _ _ _ _) _ ?_ ?_) <;> conv => whnf | (refine caseB_intro (fun h => ?_) (fun h => ?_) <;> (try simp only [Bool.not_eq_true', Bool.not_eq_false', decide_eq_true_eq, decide_eq_false_iff_not] at h) <;> conv => whnf))
      refine Dw.store (j := 12) hT2 hj (by simp) (s.p2[j].wth (pin1 s.p2[j].1.c d)) rfl rfl (fun M h => ⟨h.h, h.y, h.t⟩) fun M2 D3 k2 => ?_
      (first | (refine ⟨⟨_, rfl⟩, _, PH.Le.refl _, PH.Le.refl _, ?_⟩; conv => whnf) | conv => whnf)
      have D4 : Dw M2 s.o1 s.A1 s.c1 q1 := D1.keepsL (Keeps.inL k2 (by simp : s.o2 ∈ [s.o2])) fun a ha b hb => by simp at hb; subst hb; rw [L1] at ha; exact h.ap a ha _ (by simp)
      have L2 := dwL_set (o := s.o2) hj (pin1 s.p2[j].1.c d)
      have n2 : (s.p2.set j (s.p2[j].wth (pin1 s.p2[j].1.c d))).length = s.p2.length := List.length_set
      have e3 := hp2 d
      generalize s.p2.set j (s.p2[j].wth (pin1 s.p2[j].1.c d)) = q2 at *
      exact ⟨_, PH.Le.refl _, rfl, ⟨⟨s.b, s.g, s.o1, s.A1, s.c1, q1, s.o2, s.A2, s.c2, q2⟩, by simp [So.val, n1, n2], by unfold So.c pinS; rw [e1, e3], ⟨D4, D3, fun a ha b hb => by rw [L1] at ha; rw [L2] at hb; exact h.ap a ha b hb⟩, K1.trans (Keeps.inL k2 (List.mem_append_right _ (by simp))), by unfold soL; rw [L1, L2]⟩, rfl⟩
  · rw [e]
    have hA : s.A1.isSome = true := ((h.t.row.sl EP.len).get hi).1
    have cP : M.cells s.A1 (i * 13 + 12) [I s.p1[i].1.c.pins] := cells_cut ((h.t.row.sl EP.len).at_ i _ (List.getElem?_eq_getElem hi)).2 12 rfl
    refine caseB_dec (fun _ => ?_) (fun h0 => absurd (by omega) h0)
    conv => whnf
    have hT : Dw M s.o1 s.A1 s.c1 (s.p1.set i s.p1[i]) := by rw [List.set_getElem_self]; exact h.t
    have hb1 : (0 : Int) ≤ (i : Int) := by omega
    have hb2 : (i : Int) < (s.p1.length : Int) := by omega
    repeat' (first | (refine ⟨⟨[], rfl⟩, _, PH.Le.refl _, PH.Le.refl _, ?_⟩; conv => whnf) | (refine ⟨_, cP, ?_⟩; conv => whnf) | (refine ⟨hb1, hb2, hA, ?_⟩; conv => whnf) | (refine caseB_true ?_; conv => whnf) | (refine caseB_false ?_; conv => whnf) | ((with_reducible refine caseB_dec (fun h => ?_) (fun h => ?_)) <;> conv => whnf) | ((with_reducible refine caseB_ndec (fun h => ?_) (fun h => ?_)) <;> conv => whnf) | ((with_reducible refine caseB_not (fun h => ?_) (fun h => ?_)) <;> conv => whnf) | (refine draw_rule (.light 0 <| .light 1 <| .light 2 <| .light 3 <| .light 4 <| .light 5 <| .light 6 <| .light 7 <| .light 8 <| .light 9 <| .light 10 <| .light 11 <| .light 12 <| .light 13 <| .light 14 <| .light 15 <| .light 16 <| .alt 17 true (.done) .nil) (by decide +kernel) ?_; conv => whnf) | (refine draw_rule (.light 0 <| .light 1 <| .light 2 <| .light 3 <| .light 4 <| .light 5 <| .light 6 <| .light 7 <| .light 8 <| .light 9 <| .light 10 <| .light 11 <| .light 12 <| .light 13 <| .light 14 <| .light 15 <| .light 16 <| .alt 17 true (.done) .nil) (by decide +kernel) ?_; conv => whnf) | (with_reducible refine @And.intro (guardVC _ _ _ _ _) _ ?_ ?_) <;> conv => whnf | (refine caseB_intro (fun h => ?_) (fun h => ?_) <;> (try simp only [Bool.not_eq_true', Bool.not_eq_false', decide_eq_true_eq, decide_eq_false_iff_not] at h) <;> conv => whnf))
    refine Dw.store (j := 12) hT hi (by simp) (s.p1[i].wth (pin1 s.p1[i].1.c d)) rfl rfl (fun M h => ⟨h.h, h.y, h.t⟩) fun M1 D1 k1 => ?_
    (first | (refine ⟨⟨_, rfl⟩, _, PH.Le.refl _, PH.Le.refl _, ?_⟩; conv => whnf) | conv => whnf)
    have D2 : Dw M1 s.o2 s.A2 s.c2 s.p2 := h.k.keepsL (Keeps.inL k1 (by simp : s.o1 ∈ [s.o1])) fun a ha b hb => by simp at hb; subst hb; exact (h.ap _ (by simp) a ha).symm
    have K1 : KeepsL (soL s) M M1 := Keeps.inL k1 (List.mem_append_left _ (by simp))
    have e1 := hp d
    have L1 := dwL_set (o := s.o1) hi (pin1 s.p1[i].1.c d)
    have n1 : (s.p1.set i (s.p1[i].wth (pin1 s.p1[i].1.c d))).length = s.p1.length := List.length_set
    generalize s.p1.set i (s.p1[i].wth (pin1 s.p1[i].1.c d)) = q1 at *
    refine Ret.go (l8FindP s.A2 s.c2 s.o2 s.p2 k M1 D2 hn2) ?_
    conv => whnf
    rcases pin_row D2 k with ⟨e2, hp2⟩ | ⟨j, hj, e2, _, hp2⟩
    · refine caseB_dec (fun h0 => absurd h0 (by omega)) (fun _ => ?_)
      conv => whnf
      exact ⟨_, PH.Le.refl _, rfl, ⟨⟨s.b, s.g, s.o1, s.A1, s.c1, q1, s.o2, s.A2, s.c2, s.p2⟩, by simp [So.val, n1], by unfold So.c pinS; rw [e1, hp2 d], ⟨D1, D2, fun a ha b hb => by rw [L1] at ha; exact h.ap a ha b hb⟩, K1, by unfold soL; rw [L1]⟩, rfl⟩
    · rw [e2]
      have hA2 : s.A2.isSome = true := ((D2.row.sl EP.len).get hj).1
      have cP2 : M1.cells s.A2 (j * 13 + 12) [I s.p2[j].1.c.pins] := cells_cut ((D2.row.sl EP.len).at_ j _ (List.getElem?_eq_getElem hj)).2 12 rfl
      refine caseB_dec (fun _ => ?_) (fun h0 => absurd (by omega) h0)
      conv => whnf
      have hT2 : Dw M1 s.o2 s.A2 s.c2 (s.p2.set j s.p2[j]) := by rw [List.set_getElem_self]; exact D2
      have hb3 : (0 : Int) ≤ (j : Int) := by omega
      have hb4 : (j : Int) < (s.p2.length : Int) := by omega
      repeat' (first | (refine ⟨⟨[], rfl⟩, _, PH.Le.refl _, PH.Le.refl _, ?_⟩; conv => whnf) | (refine ⟨_, cP2, ?_⟩; conv => whnf) | (refine ⟨hb3, hb4, hA2, ?_⟩; conv => whnf) | (refine caseB_true ?_; conv => whnf) | (refine caseB_false ?_; conv => whnf) | ((with_reducible refine caseB_dec (fun h => ?_) (fun h => ?_)) <;> conv => whnf) | ((with_reducible refine caseB_ndec (fun h => ?_) (fun h => ?_)) <;> conv => whnf) | ((with_reducible refine caseB_not (fun h => ?_) (fun h => ?_)) <;> conv => whnf) | (refine draw_rule (.light 0 <| .light 1 <| .light 2 <| .light 3 <| .light 4 <| .light 5 <| .light 6 <| .light 7 <| .light 8 <| .light 9 <| .light 10 <| .light 11 <| .light 12 <| .light 13 <| .light 14 <| .light 15 <| .light 16 <| .alt 17 true (.done) .nil) (by decide +kernel) ?_; conv => whnf) | (refine draw_rule (.light 0 <| .light 1 <| .light 2 <| .light 3 <| .light 4 <| .light 5 <| .light 6 <| .light 7 <| .light 8 <| .light 9 <| .light 10 <| .light 11 <| .light 12 <| .light 13 <| .light 14 <| .light 15 <| .light 16 <| .alt 17 true (.done) .nil) (by decide +kernel) ?_; conv => whnf) | (with_reducible refine @And.intro (guardVC _ _ _ _ _) _ ?_ ?_) <;> conv => whnf | (refine caseB_intro (fun h => ?_) (fun h => ?_) <;> (try simp only [Bool.not_eq_true', Bool.not_eq_false', decide_eq_true_eq, decide_eq_false_iff_not] at h) <;> conv => whnf))
      refine Dw.store (j := 12) hT2 hj (by simp) (s.p2[j].wth (pin1 s.p2[j].1.c d)) rfl rfl (fun M h => ⟨h.h, h.y, h.t⟩) fun M2 D3 k2 => ?_
      (first | (refine ⟨⟨_, rfl⟩, _, PH.Le.refl _, PH.Le.refl _, ?_⟩; conv => whnf) | conv => whnf)
      have D4 : Dw M2 s.o1 s.A1 s.c1 q1 := D1.keepsL (Keeps.inL k2 (by simp : s.o2 ∈ [s.o2])) fun a ha b hb => by simp at hb; subst hb; rw [L1] at ha; exact h.ap a ha _ (by simp)
      have L2 := dwL_set (o := s.o2) hj (pin1 s.p2[j].1.c d)
      have n2 : (s.p2.set j (s.p2[j].wth (pin1 s.p2[j].1.c d))).length = s.p2.length := List.length_set
      have e3 := hp2 d
      generalize s.p2.set j (s.p2[j].wth (pin1 s.p2[j].1.c d)) = q2 at *
      exact ⟨_, PH.Le.refl _, rfl, ⟨⟨s.b, s.g, s.o1, s.A1, s.c1, q1, s.o2, s.A2, s.c2, q2⟩, by simp [So.val, n1, n2], by unfold So.c pinS; rw [e1, e3], ⟨D4, D3, fun a ha b hb => by rw [L1] at ha; rw [L2] at hb; exact h.ap a ha b hb⟩, K1.trans (Keeps.inL k2 (List.mem_append_right _ (by simp))), by unfold soL; rw [L1, L2]⟩, rfl⟩
theorem inB_pins {p d : Int} (h0 : 0 ≤ p) (h1 : p ≤ 20) : inB d (IntKind.i64.wrap (0 - p)) (IntKind.i64.wrap (20 - p)) = (inB d (-20) 20 && inB (IntKind.i64.wrap (p + d)) 0 20) := by
  rw [wrap_id (n := 0 - p) (by omega) (by omega), wrap_id (n := 20 - p) (by omega) (by omega)]
  unfold inB
  by_cases hd : -20 ≤ d ∧ d ≤ 20
  · rw [wrap_id (n := p + d) (by omega) (by omega), decide_eq_true hd, Bool.true_and]
    congr 1
    apply propext
    omega
  · rw [decide_eq_false hd, Bool.false_and]
    exact decide_eq_false (by omega)
theorem pins_of {s : Sc} {e : En} (h : stFault s = 0) (he : e ∈ s.all) : 0 ≤ e.pins ∧ e.pins ≤ 20 := by
  have h1 : firstF enFault s.all = 0 := by
    unfold stFault at h
    repeat' (split at h <;> try (first | cases h | contradiction))
    all_goals first | (apply Classical.byContradiction; assumption) | simp_all
  have key : ∀ (l : List En), firstF enFault l = 0 → ∀ e ∈ l, enFault e = 0 := by
    intro l
    induction l with
    | nil => intro _ e he; cases he
    | cons x r ih =>
      intro hf e he
      rw [firstF] at hf
      split at hf
      · rename_i hx
        rcases List.mem_cons.1 he with rfl | he
        · exact hx
        · exact ih hf e he
      · exact absurd hf ‹_›
  have h2 := key _ h1 e he
  have h3 : inB e.pins 0 20 = true := by
    unfold enFault at h2
    repeat' (split at h2 <;> try (first | cases h2 | contradiction))
    all_goals simp_all
  simpa [inB] using h3
theorem pinEntry_spec (x : StA) (k : ByteArray) (d : Int) (M : PH) (hi : x.inn M) (hco : x.c.cost ≤ 1048576) :
    ACall env 47 [x.val, Tx k, I d] M fun r M' => ∃ s : So, r = srS (pinCode x.c k d) s ∧ s.c = pinR x.c k d ∧ NewS M M' s := by
  refine xcall_of_vc Tryz.func47 rfl _ Tryz.ntmps47 _ rfl (fun _ _ => Tryz.call47 _ _) rfl (fun w0 ρ0 => ?_)
  conv => whnf
  refine XCall.lift (l8Ask_ret x k M hi hco) [0] ?_ (by simp) (by simp) (by simp [AV.plain]) ?_
  · simp [ren]
  rintro r bs' M1 ⟨⟨s, rfl, es, hs⟩, rfl⟩
  refine ⟨by simp [AV.plain], ?_⟩
  conv => whnf
  refine caseB_ndec (fun h => ?_) (fun h => ?_)
  · conv => whnf
    have e : pinCode x.c k d = swF x.c k := by unfold pinCode; rw [if_pos h]
    exact ⟨M, hs.le, zSo, by rw [e]; rfl, by unfold pinR; rw [e, if_neg h]; rfl, zSo_new M⟩
  have e : pinCode x.c k d = pinC x.c k d := by unfold pinCode; rw [if_neg (by simpa using h)]
  rw [if_pos h] at es
  have hcs : s.c.cost ≤ 1048576 := by rw [es]; exact hco
  have hpk := l8Peek_ret s.sta k M1 hs.d.inn (by rw [s.sta_c]; exact hcs)
  rw [soBox_eq, s.sta_c] at hpk
  conv => whnf
  refine XCall.lift hpk [2] ?_ (by simp) (by simp) (by simp [AV.plain]) ?_
  · simp [ren]
  rintro r bs' M2 ⟨⟨y, rfl, ey, hy⟩, rfl⟩
  refine ⟨by simp [AV.plain], ?_⟩
  have hp : (pkE x.c k).pins = y.1.c.pins := by rw [ey, es]
  have hD := hs.d.mono hy.le
  conv => whnf
  refine Ret.go (l1In_ret d (-20) 20 _) ?_
  conv => whnf
  have hcode : pinCode x.c k d = if inB d (-20) 20 && inB (IntKind.i64.wrap (y.1.c.pins + d)) 0 20 then 0 else 3 := by rw [e]; unfold pinC; rw [hp]
  refine caseB_not (fun h1 => ?_) (fun h1 => ?_)
  · rw [h1] at hcode
    conv => whnf
    repeat (refine caseB_true ?_; conv => whnf)
    have e3 : pinCode x.c k d = 3 := hcode
    exact ⟨M, hs.le.trans hy.le, zSo, by rw [e3]; rfl, by unfold pinR; rw [e3]; rfl, zSo_new M⟩
  rw [h1, Bool.true_and] at hcode
  conv => whnf
  repeat (refine caseB_false ?_; conv => whnf)
  refine Ret.go (l1In_ret _ 0 20 _) ?_
  conv => whnf
  repeat (refine caseB_false ?_; conv => whnf)
  refine caseB_not (fun h2 => ?_) (fun h2 => ?_)
  · rw [h2] at hcode
    conv => whnf
    have e3 : pinCode x.c k d = 3 := hcode
    exact ⟨M, hs.le.trans hy.le, zSo, by rw [e3]; rfl, by unfold pinR; rw [e3]; rfl, zSo_new M⟩
  rw [h2] at hcode
  have e3 : pinCode x.c k d = 0 := hcode
  conv => whnf
  refine XCall.lift (l8Pin_ret s k d M2 hD hcs) [2] ?_ (by simp) (by simp) (by simp [AV.plain]) ?_
  · simp [ren]
  rintro r bs' M3 ⟨rfl, ⟨s', ev, ec, hD3, hK3, hL3⟩, rfl⟩
  refine ⟨by simp [AV.plain], ?_⟩
  conv => whnf
  simp only [So.val, Value.agg.injEq, Array.mk.injEq, List.cons.injEq, Value.int.injEq, Value.slice.injEq, true_and, and_true] at ev
  obtain ⟨v1, v2, ⟨v3, v4, v5⟩, v6, v7, v8⟩ := ev
  exact ⟨_, PH.Le.refl _, s', by rw [e3]; simp [srS, v1, v2, v3, v4, v5, v6, v7, v8, resV], by unfold pinR; rw [if_pos e3, ec, es], hD3, hK3.over (hs.le.trans hy.le) hs.fr, by rw [hL3]; exact hs.fr⟩
theorem pinK_no {es : List En} {k : ByteArray} (h : keyC es k < 0) (d : Int) : pinK es k d = es := by unfold pinK; rw [if_neg (by omega)]
theorem apt_of {s : Sc} (h : stFault s = 0) : AptG En.key s.all := by
  unfold stFault at h
  repeat' (split at h <;> try (first | cases h | contradiction))
  all_goals first
    | (have h2 : ¬ asB (AptG En.key s.all) = false := by assumption
       apply Classical.byContradiction
       intro hh
       exact h2 (asB_false hh))
theorem keyC_apart {a b : List En} {k : ByteArray} (h : AptG En.key (a ++ b)) (h0 : 0 ≤ keyC a k) : keyC b k < 0 := by
  rcases keyC_cases a k with ⟨e, _⟩ | ⟨i, hi, _, h1, _⟩
  · omega
  · rcases keyC_cases b k with ⟨e, _⟩ | ⟨j, hj, _, h2, _⟩
    · omega
    · unfold AptG at h
      rw [List.pairwise_append] at h
      exact absurd ((seq_iff.1 h1).trans (seq_iff.1 h2).symm) (h.2.2 _ (List.getElem_mem hi) _ (List.getElem_mem hj))
theorem pinEntry_impl (x : StA) (k : ByteArray) (d : Int) (M : PH) (hi : x.inn M) (hco : x.c.cost ≤ 1048576) :
    ACall env 45 [x.val, Tx k, I d] M fun r M' => ∃ s : So, r = srS (pinCode x.c k d) s ∧ s.c = pinR x.c k d ∧ NewS M M' s := by
  refine xcall_of_vc Tryz.func45 rfl _ Tryz.ntmps45 _ rfl (fun _ _ => Tryz.call45 _ _) rfl (fun w0 ρ0 => ?_)
  conv => whnf
  refine Ret.go (storeWith_ret x k _ hi hco) ?_
  conv => whnf
  refine caseB_ndec (fun h => ?_) (fun h => ?_)
  · conv => whnf
    have e : pinCode x.c k d = swF x.c k := by unfold pinCode; rw [if_pos h]
    exact ⟨M, PH.Le.refl _, zSo, by rw [e]; rfl, by unfold pinR; rw [e, if_neg h]; rfl, zSo_new M⟩
  have e : pinCode x.c k d = pinC x.c k d := by unfold pinCode; rw [if_neg (by simpa using h)]
  have hsf := (swF_0 h).1
  have hfound := (swF_0 h).2
  conv => whnf
  refine ACall.step (copyStore_ret x M hi hco) fun v M1 hh => ?_
  obtain ⟨s, rfl, es, hs⟩ := hh
  have hcs : s.c.cost ≤ 1048576 := by rw [es]; exact hco
  obtain ⟨hn1, hn2⟩ := so_len hcs
  have hfi := find_ret s.sta k M1 hs.d.inn (by show (s.p1.map (·.1)).length ≤ _; rw [List.length_map]; exact hn1) (by show (s.p2.map (·.1)).length ≤ _; rw [List.length_map]; exact hn2)
  rw [soBox_eq] at hfi
  conv => whnf
  refine XCall.lift hfi [2] ?_ (by simp) (by simp) (by simp [AV.plain]) ?_
  · simp [ren]
  rintro r bs' M2 ⟨rfl, rfl, rfl⟩
  refine ⟨by simp [AV.plain], ?_⟩
  have hall : x.c.all = s.p1.map (·.1.c) ++ s.p2.map (·.1.c) := by rw [← es]; rfl
  have hpk : pkE x.c k = ((look (s.p1.map (·.1.c)) k).or (look (s.p2.map (·.1.c)) k)).getD zEn := by unfold pkE; rw [hall, look_app]
  have hlk : ((look (s.p1.map (·.1.c)) k).or (look (s.p2.map (·.1.c)) k)).isSome = true := by rw [← look_app, ← hall]; exact hfound
  have hfp : findP s.sta k = if 0 ≤ keyC (s.p1.map (·.1.c)) k then s.A1.map (·.add ((keyC (s.p1.map (·.1.c)) k).toNat * 13)) else if 0 ≤ keyC (s.p2.map (·.1.c)) k then s.A2.map (·.add ((keyC (s.p2.map (·.1.c)) k).toNat * 13)) else none := by
    unfold findP So.sta
    simp only [keyI_C, conts_ep]
  have hpin : ∀ p : EP, p.1.c = pkE x.c k → 0 ≤ p.1.c.pins ∧ p.1.c.pins ≤ 20 := fun p hp => by
    rw [hp]
    unfold pkE
    cases hl : look x.c.all k with
    | none => rw [hl] at hfound; cases hfound
    | some e => exact pins_of hsf (look_mem hl)
  have hapt := apt_of hsf
  rw [hall] at hapt
  rcases pin_row hs.d.t k with ⟨e1, hp1⟩ | ⟨i, hi1, e1, hl1, hp1⟩
  · rcases pin_row hs.d.k k with ⟨e2, hp2⟩ | ⟨j, hj, e2, hl2, hp2⟩
    · exfalso
      have n1 : look (s.p1.map (·.1.c)) k = none := by
        rcases keyC_cases (s.p1.map (·.1.c)) k with ⟨_, hn⟩ | ⟨i, hi, e, _⟩
        · exact List.find?_eq_none.2 fun e he => by simp [hn e he]
        · omega
      have n2 : look (s.p2.map (·.1.c)) k = none := by
        rcases keyC_cases (s.p2.map (·.1.c)) k with ⟨_, hn⟩ | ⟨i, hi, e, _⟩
        · exact List.find?_eq_none.2 fun e he => by simp [hn e he]
        · omega
      rw [n1, n2] at hlk
      cases hlk
    · have n1 : look (s.p1.map (·.1.c)) k = none := by
        rcases keyC_cases (s.p1.map (·.1.c)) k with ⟨_, hn⟩ | ⟨i, hi, e, _⟩
        · exact List.find?_eq_none.2 fun e he => by simp [hn e he]
        · omega
      have hpe : pkE x.c k = s.p2[j].1.c := by rw [hpk, n1, hl2]; rfl
      obtain ⟨a, ha⟩ : ∃ a, s.A2.map (·.add (j * 13)) = some a := by
        obtain ⟨q, hq⟩ := Option.isSome_iff_exists.1 ((hs.d.k.row.sl EP.len).get hj).1
        exact ⟨_, by rw [hq]; rfl⟩
      have hcP := hs.d.k.cellP hj ha 12 (v := I s.p2[j].1.c.pins) rfl
      obtain ⟨b1, b2⟩ := hpin s.p2[j] hpe.symm
      have hib := inB_pins (d := d) b1 b2
      have hcode : pinCode x.c k d = if inB d (IntKind.i64.wrap (0 - s.p2[j].1.c.pins)) (IntKind.i64.wrap (20 - s.p2[j].1.c.pins)) then 0 else 3 := by rw [e, hib]; unfold pinC; rw [hpe]
      rw [hfp, if_neg (by omega), if_pos (by omega), e2, Int.toNat_natCast, ha]
      conv => whnf
      repeat' (first | (refine ⟨⟨[], rfl⟩, _, PH.Le.refl _, PH.Le.refl _, ?_⟩; conv => whnf) | (refine ⟨_, hcP, ?_⟩; conv => whnf) | (refine caseB_true ?_; conv => whnf) | (refine caseB_false ?_; conv => whnf) | ((with_reducible refine caseB_dec (fun h => ?_) (fun h => ?_)) <;> conv => whnf) | ((with_reducible refine caseB_ndec (fun h => ?_) (fun h => ?_)) <;> conv => whnf) | ((with_reducible refine caseB_not (fun h => ?_) (fun h => ?_)) <;> conv => whnf) | (refine draw_rule (.light 0 <| .light 1 <| .light 2 <| .light 3 <| .light 4 <| .light 5 <| .light 6 <| .light 7 <| .light 8 <| .light 9 <| .light 10 <| .alt 11 false (.light 12 <| .done) .nil) (by decide +kernel) ?_; conv => whnf) | (with_reducible refine @And.intro (guardVC _ _ _ _ _) _ ?_ ?_) <;> conv => whnf | (refine caseB_intro (fun h => ?_) (fun h => ?_) <;> (try simp only [Bool.not_eq_true', Bool.not_eq_false', decide_eq_true_eq, decide_eq_false_iff_not] at h) <;> conv => whnf))
      refine Ret.go (within_ret d _ _ _) ?_
      (first | (refine ⟨⟨[], rfl⟩, _, PH.Le.refl _, PH.Le.refl _, ?_⟩; conv => whnf) | conv => whnf)
      refine caseB_not (fun h2 => ?_) (fun h2 => ?_)
      · have e3 : pinCode x.c k d = 3 := by rw [hcode]; exact if_neg (by rw [h2]; simp)
        conv => whnf
        exact ⟨M, hs.le, zSo, by rw [e3]; rfl, by unfold pinR; rw [e3]; rfl, zSo_new M⟩
      have e3 : pinCode x.c k d = 0 := by rw [hcode]; exact if_pos h2
      conv => whnf
      refine ⟨_, hcP, ?_⟩
      conv => whnf
      have hT : Dw M2 s.o2 s.A2 s.c2 (s.p2.set j s.p2[j]) := by rw [List.set_getElem_self]; exact hs.d.k
      refine Dw.storeP (j := 12) hT hj ha (by simp) (s.p2[j].wth (pin1 s.p2[j].1.c d)) rfl rfl (fun M h => ⟨h.h, h.y, h.t⟩) fun M3 D3 k3 => ?_
      conv => whnf
      have L2 := dwL_set (o := s.o2) hj (pin1 s.p2[j].1.c d)
      have n2 : (s.p2.set j (s.p2[j].wth (pin1 s.p2[j].1.c d))).length = s.p2.length := List.length_set
      have e4 := hp2 d
      have D4 : Dw M3 s.o1 s.A1 s.c1 s.p1 := hs.d.t.keepsL (Keeps.inL k3 (by simp : s.o2 ∈ [s.o2])) fun a ha b hb => by simp at hb; subst hb; exact hs.d.ap a ha _ (by simp)
      generalize s.p2.set j (s.p2[j].wth (pin1 s.p2[j].1.c d)) = q2 at *
      have hSL : soL (⟨s.b, s.g, s.o1, s.A1, s.c1, s.p1, s.o2, s.A2, s.c2, q2⟩ : So) = soL s := by unfold soL; rw [L2]
      exact ⟨_, PH.Le.refl _, ⟨s.b, s.g, s.o1, s.A1, s.c1, s.p1, s.o2, s.A2, s.c2, q2⟩, by rw [e3]; simp [srS, n2, resV], by unfold pinR; rw [if_pos e3, ← es]; unfold So.c pinS; rw [e4, hp1 d], ⟨D4, D3, fun a ha b hb => by rw [L2] at hb; exact hs.d.ap a ha b hb⟩, (Keeps.inL k3 (List.mem_append_right _ (by simp)) : KeepsL (soL s) _ _).over hs.le hs.fr, by rw [hSL]; exact hs.fr⟩
  · have hpe : pkE x.c k = s.p1[i].1.c := by rw [hpk, hl1]; rfl
    obtain ⟨a, ha⟩ : ∃ a, s.A1.map (·.add (i * 13)) = some a := by
      obtain ⟨q, hq⟩ := Option.isSome_iff_exists.1 ((hs.d.t.row.sl EP.len).get hi1).1
      exact ⟨_, by rw [hq]; rfl⟩
    have hcP := hs.d.t.cellP hi1 ha 12 (v := I s.p1[i].1.c.pins) rfl
    obtain ⟨b1, b2⟩ := hpin s.p1[i] hpe.symm
    have hib := inB_pins (d := d) b1 b2
    have hcode : pinCode x.c k d = if inB d (IntKind.i64.wrap (0 - s.p1[i].1.c.pins)) (IntKind.i64.wrap (20 - s.p1[i].1.c.pins)) then 0 else 3 := by rw [e, hib]; unfold pinC; rw [hpe]
    have hk2 := keyC_apart (k := k) hapt (by omega)
    rw [hfp, if_pos (by omega), e1, Int.toNat_natCast, ha]
    conv => whnf
    repeat' (first | (refine ⟨⟨[], rfl⟩, _, PH.Le.refl _, PH.Le.refl _, ?_⟩; conv => whnf) | (refine ⟨_, hcP, ?_⟩; conv => whnf) | (refine caseB_true ?_; conv => whnf) | (refine caseB_false ?_; conv => whnf) | ((with_reducible refine caseB_dec (fun h => ?_) (fun h => ?_)) <;> conv => whnf) | ((with_reducible refine caseB_ndec (fun h => ?_) (fun h => ?_)) <;> conv => whnf) | ((with_reducible refine caseB_not (fun h => ?_) (fun h => ?_)) <;> conv => whnf) | (refine draw_rule (.light 0 <| .light 1 <| .light 2 <| .light 3 <| .light 4 <| .light 5 <| .light 6 <| .light 7 <| .light 8 <| .light 9 <| .light 10 <| .alt 11 false (.light 12 <| .done) .nil) (by decide +kernel) ?_; conv => whnf) | (with_reducible refine @And.intro (guardVC _ _ _ _ _) _ ?_ ?_) <;> conv => whnf | (refine caseB_intro (fun h => ?_) (fun h => ?_) <;> (try simp only [Bool.not_eq_true', Bool.not_eq_false', decide_eq_true_eq, decide_eq_false_iff_not] at h) <;> conv => whnf))
    refine Ret.go (within_ret d _ _ _) ?_
    (first | (refine ⟨⟨[], rfl⟩, _, PH.Le.refl _, PH.Le.refl _, ?_⟩; conv => whnf) | conv => whnf)
    refine caseB_not (fun h2 => ?_) (fun h2 => ?_)
    · have e3 : pinCode x.c k d = 3 := by rw [hcode]; exact if_neg (by rw [h2]; simp)
      conv => whnf
      exact ⟨M, hs.le, zSo, by rw [e3]; rfl, by unfold pinR; rw [e3]; rfl, zSo_new M⟩
    have e3 : pinCode x.c k d = 0 := by rw [hcode]; exact if_pos h2
    conv => whnf
    refine ⟨_, hcP, ?_⟩
    conv => whnf
    have hT : Dw M2 s.o1 s.A1 s.c1 (s.p1.set i s.p1[i]) := by rw [List.set_getElem_self]; exact hs.d.t
    refine Dw.storeP (j := 12) hT hi1 ha (by simp) (s.p1[i].wth (pin1 s.p1[i].1.c d)) rfl rfl (fun M h => ⟨h.h, h.y, h.t⟩) fun M3 D3 k3 => ?_
    conv => whnf
    have L1 := dwL_set (o := s.o1) hi1 (pin1 s.p1[i].1.c d)
    have n1 : (s.p1.set i (s.p1[i].wth (pin1 s.p1[i].1.c d))).length = s.p1.length := List.length_set
    have e4 := hp1 d
    have D4 : Dw M3 s.o2 s.A2 s.c2 s.p2 := hs.d.k.keepsL (Keeps.inL k3 (by simp : s.o1 ∈ [s.o1])) fun a ha b hb => by simp at hb; subst hb; exact (hs.d.ap _ (by simp) a ha).symm
    generalize s.p1.set i (s.p1[i].wth (pin1 s.p1[i].1.c d)) = q1 at *
    have hSL : soL (⟨s.b, s.g, s.o1, s.A1, s.c1, q1, s.o2, s.A2, s.c2, s.p2⟩ : So) = soL s := by unfold soL; rw [L1]
    exact ⟨_, PH.Le.refl _, ⟨s.b, s.g, s.o1, s.A1, s.c1, q1, s.o2, s.A2, s.c2, s.p2⟩, by rw [e3]; simp [srS, n1, resV], by unfold pinR; rw [if_pos e3, ← es]; unfold So.c pinS; rw [e4, pinK_no hk2], ⟨D3, D4, fun a ha b hb => by rw [L1] at ha; exact hs.d.ap a ha b hb⟩, (Keeps.inL k3 (List.mem_append_left _ (by simp)) : KeepsL (soL s) _ _).over hs.le hs.fr, by rw [hSL]; exact hs.fr⟩
end Go.Proofs.YtgjaiabenjafeaaGreatDoor
