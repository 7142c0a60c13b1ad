/-
  CONTRACTS: the keys of the entries that a function is true of; tags.
-/
import Derived.Test.YtgjaiabenjafeaaGreatDoorVg
import Derived.Test.YtgjaiabenjafeaaGreatDoorBg
namespace Go.Proofs.YtgjaiabenjafeaaGreatDoor
set_option maxRecDepth 100000
set_option linter.unusedSimpArgs false
set_option linter.unusedVariables false
open Go.ChangeShapes Go.WideShapes Go.RowKit Go.Xe
theorem seq_comm (a b : ByteArray) : seq a b = seq b a := by
  cases h : seq b a with
  | true => rw [seq_iff] at h ⊢; exact h.symm
  | false => rw [seq_ne] at h ⊢; exact fun e => h e.symm
def tagT (ts : List ByteArray) (t : ByteArray) : Bool := ts.any fun s => seq s t
theorem isTagged_spec (A : Option Addr) (c : Nat) (ws : List ByteArray) (t : ByteArray) (M : PH) (hs : Sl M A 1 stC ws) (hn : ws.length ≤ 1048576) : Ret 137 [.slice A ws.length c, Tx t] M (B (tagT ws t)) := by
  refine xcall_of_vc Tryz.func137 rfl _ Tryz.ntmps137 _ rfl (fun _ _ => Tryz.call137 _ _) rfl (fun w0 ρ0 => ?_)
  conv => whnf
  refine loop_rule (fun i : Nat => ⟨slots 18 [(0, .v (.slice A ws.length c)), (1, .v (Tx t)), (5, .v (I i))], []⟩) (fun i M' => i ≤ ws.length ∧ (∀ j, j < i → ∀ h : j < ws.length, seq ws[j] t = false) ∧ M' = M) (fun i => ws.length - i) 0 ?_ ?_ ?_
  · exact ⟨by simp [slots, leT], ⟨[], rfl⟩, Nat.zero_le _, rfl, rfl⟩
  · exact ⟨Nat.zero_le _, fun j hj => absurd hj (Nat.not_lt_zero _), rfl⟩
  rintro i M' ⟨hi, hp, rfl⟩
  conv => whnf
  repeat' (first | (refine ⟨⟨[], rfl⟩, _, PH.Le.refl _, PH.Le.refl _, ?_⟩; conv => whnf) | (refine caseB_true ?_; conv => whnf) | (refine caseB_false ?_; conv => whnf) | ((with_reducible refine caseB_dec (fun h => ?_) (fun h => ?_)) <;> conv => whnf) | ((with_reducible refine caseB_ndec (fun h => ?_) (fun h => ?_)) <;> conv => whnf) | ((with_reducible refine caseB_not (fun h => ?_) (fun h => ?_)) <;> conv => whnf) | (with_reducible refine @And.intro (guardVC _ _ _ _ _) _ ?_ ?_) <;> conv => whnf | (refine caseB_intro (fun h => ?_) (fun h => ?_) <;> (try simp only [Bool.not_eq_true', Bool.not_eq_false', decide_eq_true_eq, decide_eq_false_iff_not] at h) <;> conv => whnf))
  · have hi' : i < ws.length := by omega
    have hw : IntKind.i64.wrap ((i : Int) + 1) = (i : Int) + 1 := wr_id (by omega) (by omega)
    obtain ⟨hA, _, hc⟩ := hs.get hi'
    repeat' (first | (refine ⟨⟨[], rfl⟩, _, PH.Le.refl _, PH.Le.refl _, ?_⟩; conv => whnf) | (refine ⟨_, hc, ?_⟩; conv => whnf) | (refine ⟨by omega, by omega, hA, ?_⟩; conv => whnf) | (refine caseB_true ?_; conv => whnf) | (refine caseB_false ?_; conv => whnf) | ((with_reducible refine caseB_dec (fun h => ?_) (fun h => ?_)) <;> conv => whnf) | ((with_reducible refine caseB_ndec (fun h => ?_) (fun h => ?_)) <;> conv => whnf) | ((with_reducible refine caseB_not (fun h => ?_) (fun h => ?_)) <;> conv => whnf) | (with_reducible refine @And.intro (guardVC _ _ _ _ _) _ ?_ ?_) <;> conv => whnf | (refine caseB_intro (fun h => ?_) (fun h => ?_) <;> (try simp only [Bool.not_eq_true', Bool.not_eq_false', decide_eq_true_eq, decide_eq_false_iff_not] at h) <;> conv => whnf))
    · rename_i h
      exact ⟨_, PH.Le.refl _, by rw [show tagT ws t = true from List.any_eq_true.2 ⟨ws[i], List.getElem_mem hi', h⟩]; rfl, rfl⟩
    · rename_i h
      exact ⟨i + 1, ⟨by simp [slots, leT, hw], ⟨[], rfl⟩, Nat.zero_le _, rfl, rfl⟩, ⟨by omega, fun j hj hjl => (Nat.lt_succ_iff_lt_or_eq.1 hj).elim (fun h1 => hp j h1 hjl) (fun e => by subst e; exact h), rfl⟩, by omega⟩
  · have e : tagT ws t = false := List.any_eq_false.2 fun s hs => by
      obtain ⟨j, hj, rfl⟩ := List.getElem_of_mem hs
      simp [hp j (by omega) hj]
    exact ⟨_, PH.Le.refl _, by rw [e]; rfl, rfl⟩
theorem indexS_ret (A : Option Addr) (c : Nat) (ws : List ByteArray) (t : ByteArray) (M : PH) (hs : Sl M A 1 stC ws) (hn : ws.length ≤ 1048576) : Ret 194 [.slice A ws.length c, Tx t] M (I (idxF (fun s => seq t s) ws)) := by
  refine xcall_of_vc Tryz.func194 rfl _ Tryz.ntmps194 _ rfl (fun _ _ => Tryz.call194 _ _) rfl (fun w0 ρ0 => ?_)
  conv => whnf
  refine loop_rule (fun i : Nat => ⟨slots 19 [(0, .v (.slice A ws.length c)), (1, .v (Tx t)), (7, .v (I ws.length)), (8, .v (I i))], []⟩) (fun i M' => i ≤ ws.length ∧ (∀ j, j < i → ∀ h : j < ws.length, seq t ws[j] = false) ∧ M' = M) (fun i => ws.length - i) 0 ?_ ?_ ?_
  · exact ⟨by simp [slots, leT], ⟨[], rfl⟩, Nat.zero_le _, rfl, rfl⟩
  · exact ⟨Nat.zero_le _, fun j hj => absurd hj (Nat.not_lt_zero _), rfl⟩
  rintro i M' ⟨hi, hp, rfl⟩
  conv => whnf
  repeat' (first | (refine ⟨⟨[], rfl⟩, _, PH.Le.refl _, PH.Le.refl _, ?_⟩; conv => whnf) | (refine caseB_true ?_; conv => whnf) | (refine caseB_false ?_; conv => whnf) | ((with_reducible refine caseB_dec (fun h => ?_) (fun h => ?_)) <;> conv => whnf) | ((with_reducible refine caseB_ndec (fun h => ?_) (fun h => ?_)) <;> conv => whnf) | ((with_reducible refine caseB_not (fun h => ?_) (fun h => ?_)) <;> conv => whnf) | (with_reducible refine @And.intro (guardVC _ _ _ _ _) _ ?_ ?_) <;> conv => whnf | (refine caseB_intro (fun h => ?_) (fun h => ?_) <;> (try simp only [Bool.not_eq_true', Bool.not_eq_false', decide_eq_true_eq, decide_eq_false_iff_not] at h) <;> conv => whnf))
  · have hi' : i < ws.length := by omega
    have hw : IntKind.i64.wrap ((i : Int) + 1) = (i : Int) + 1 := wr_id (by omega) (by omega)
    obtain ⟨hA, _, hc⟩ := hs.get hi'
    repeat' (first | (refine ⟨⟨[], rfl⟩, _, PH.Le.refl _, PH.Le.refl _, ?_⟩; conv => whnf) | (refine ⟨_, hc, ?_⟩; conv => whnf) | (refine ⟨by omega, by omega, hA, ?_⟩; conv => whnf) | (refine caseB_true ?_; conv => whnf) | (refine caseB_false ?_; conv => whnf) | ((with_reducible refine caseB_dec (fun h => ?_) (fun h => ?_)) <;> conv => whnf) | ((with_reducible refine caseB_ndec (fun h => ?_) (fun h => ?_)) <;> conv => whnf) | ((with_reducible refine caseB_not (fun h => ?_) (fun h => ?_)) <;> conv => whnf) | (with_reducible refine @And.intro (guardVC _ _ _ _ _) _ ?_ ?_) <;> conv => whnf | (refine caseB_intro (fun h => ?_) (fun h => ?_) <;> (try simp only [Bool.not_eq_true', Bool.not_eq_false', decide_eq_true_eq, decide_eq_false_iff_not] at h) <;> conv => whnf))
    · rename_i h
      exact ⟨_, PH.Le.refl _, by rw [idxF_at _ ws i hi' hp h]; rfl, rfl⟩
    · rename_i h
      exact ⟨i + 1, ⟨by simp [slots, leT, hw], ⟨_, rfl⟩, Nat.zero_le _, rfl, rfl⟩, ⟨by omega, fun j hj hjl => (Nat.lt_succ_iff_lt_or_eq.1 hj).elim (fun h1 => hp j h1 hjl) (fun e => by subst e; exact h), rfl⟩, by omega⟩
  · exact ⟨_, PH.Le.refl _, by rw [idxF_no _ ws fun j h => hp j (by omega) h]; rfl, rfl⟩
theorem containsS_ret (A : Option Addr) (c : Nat) (ws : List ByteArray) (t : ByteArray) (M : PH) (hs : Sl M A 1 stC ws) (hn : ws.length ≤ 1048576) : Ret 171 [.slice A ws.length c, Tx t] M (B (tagT ws t)) := by
  refine xcall_of_vc Tryz.func171 rfl _ Tryz.ntmps171 _ rfl (fun _ _ => Tryz.call171 _ _) rfl (fun w0 ρ0 => ?_)
  conv => whnf
  repeat' (first | (refine ⟨⟨[], rfl⟩, _, PH.Le.refl _, PH.Le.refl _, ?_⟩; conv => whnf) | (refine caseB_true ?_; conv => whnf) | (refine caseB_false ?_; conv => whnf) | ((with_reducible refine caseB_dec (fun h => ?_) (fun h => ?_)) <;> conv => whnf) | ((with_reducible refine caseB_ndec (fun h => ?_) (fun h => ?_)) <;> conv => whnf) | ((with_reducible refine caseB_not (fun h => ?_) (fun h => ?_)) <;> conv => whnf) | (refine Ret.go (indexS_ret A c ws t _ hs hn) ?_; conv => whnf) | (with_reducible refine @And.intro (guardVC _ _ _ _ _) _ ?_ ?_) <;> conv => whnf | (refine caseB_intro (fun h => ?_) (fun h => ?_) <;> (try simp only [Bool.not_eq_true', Bool.not_eq_false', decide_eq_true_eq, decide_eq_false_iff_not] at h) <;> conv => whnf))
  have e : tagT ws t = decide (0 ≤ idxF (fun s => seq t s) ws) := by
    rw [← idxF_any]
    unfold tagT
    congr 1
    funext s
    exact seq_comm s t
  exact ⟨_, PH.Le.refl _, by rw [e]; rfl, rfl⟩
theorem isTagged_impl (A : Option Addr) (c : Nat) (ws : List ByteArray) (t : ByteArray) (M : PH) (hs : Sl M A 1 stC ws) (hn : ws.length ≤ 1048576) : Ret 135 [.slice A ws.length c, Tx t] M (B (tagT ws t)) := by
  refine xcall_of_vc Tryz.func135 rfl _ Tryz.ntmps135 _ rfl (fun _ _ => Tryz.call135 _ _) rfl (fun w0 ρ0 => ?_)
  conv => whnf
  repeat' (first | (refine ⟨⟨[], rfl⟩, _, PH.Le.refl _, PH.Le.refl _, ?_⟩; conv => whnf) | (refine caseB_true ?_; conv => whnf) | (refine caseB_false ?_; conv => whnf) | ((with_reducible refine caseB_dec (fun h => ?_) (fun h => ?_)) <;> conv => whnf) | ((with_reducible refine caseB_ndec (fun h => ?_) (fun h => ?_)) <;> conv => whnf) | ((with_reducible refine caseB_not (fun h => ?_) (fun h => ?_)) <;> conv => whnf) | (refine Ret.go (containsS_ret A c ws t _ hs hn) ?_; conv => whnf) | (with_reducible refine @And.intro (guardVC _ _ _ _ _) _ ?_ ?_) <;> conv => whnf | (refine caseB_intro (fun h => ?_) (fun h => ?_) <;> (try simp only [Bool.not_eq_true', Bool.not_eq_false', decide_eq_true_eq, decide_eq_false_iff_not] at h) <;> conv => whnf))
  exact ⟨_, PH.Le.refl _, rfl, rfl⟩
/-- A function that does nothing but make one object. -/
theorem new_of_calls {f : FuncId} {args : List Value} {M : PH} (F : Nat → Value) (ob : Obj) (en : ∀ (vs : Array Value) (w : World), (callFunc f vs).run env.P w = .ok (.enter f vs) w)
    (h : ∀ w, Calls env.P f args.toArray w fun e w' => e = .returned (F w.heap.size) ∧ w' = w.alloc ob) : ACall env f args M fun r M' => ∃ g, M g = none ∧ r = F g ∧ M' = M.set g ob :=
  ⟨trivial, fun ρ w vs h1 h2 h3 h4 h5 => by
    have := RelL.vs_eq h5
    subst this
    refine .inl ⟨en _ _, ?_⟩
    refine (h w).mono fun e w' ⟨he, hw⟩ => ?_
    subst hw
    have hn : M w.heap.size = none := by
      cases hm : M w.heap.size with
      | none => rfl
      | some o => have := h4.lt hm; omega
    have hold : ∀ k, k < w.heap.size → (w.alloc ob).heap[k]? = w.heap[k]? := fun k hk => heap_alloc_old w ob hk
    refine ⟨_, [], M.set w.heap.size ob, he, rfl, fun i b hi => (by rw [List.getElem?_nil] at hi; cases hi), ⟨rfl, rfl, rfl, ((Below.refl w.heap.size w).alloc (Nat.le_refl _) ob).size, fun k o hk => ?_, fun k o hk => ?_, fun k hk _ _ => hold k hk⟩, w.heap.size, hn, rfl, rfl⟩
    · unfold PH.set at hk
      split at hk
      · rename_i e; subst e; cases hk; exact heap_alloc_new w _
      · rw [hold k (h4.lt hk)]; exact h4 k o hk
    · unfold PH.set at hk
      split at hk
      · rename_i e; exact .inr (Nat.le_of_eq e.symm)
      · exact .inl ⟨o, hk⟩⟩
theorem hasTag_calls (t : ByteArray) (w : World) : Calls Tryz.prog 79 #[.string t] w fun e w' => e = .returned (.func (.func 134) #[] #[.pointer (some ⟨w.heap.size, 0, none⟩)]) ∧ w' = w.alloc (.cells #[.string t] 9 (0, 0)) := by
  go_enter Tryz.func79, Tryz.ntmps79
  go_wp2
  go_ret
  exact ⟨rfl, rfl⟩
theorem hasTag_ret (t : ByteArray) (M : PH) : ACall env 79 [Tx t] M fun r M' => ∃ g, M g = none ∧ r = .func (.func 134) #[] #[.pointer (some ⟨g, 0, none⟩)] ∧ M' = M.set g (.cells #[Tx t] 9 (0, 0)) :=
  new_of_calls (fun g => .func (.func 134) #[] #[.pointer (some ⟨g, 0, none⟩)]) _ (fun _ _ => Tryz.call79 _ _) fun w => hasTag_calls t w
theorem hasTag1_ret (y : EnA) (g : Nat) (t : ByteArray) (M : PH) (hg : M.cells (some ⟨g, 0, none⟩) 0 [Tx t]) (hi : y.inn M) (hco : y.c.cost ≤ 1048576) : Ret 134 [y.val, .pointer (some ⟨g, 0, none⟩)] M (B (tagT y.c.tags t)) := by
  obtain ⟨_, _, _, _, hn3⟩ := En.hn hco
  refine xcall_of_vc Tryz.func134 rfl _ Tryz.ntmps134 _ rfl (fun _ _ => Tryz.call134 _ _) rfl (fun w0 ρ0 => ?_)
  conv => whnf
  repeat' (first | (refine ⟨⟨[], rfl⟩, _, PH.Le.refl _, PH.Le.refl _, ?_⟩; conv => whnf) | (refine ⟨_, hg, ?_⟩; conv => whnf) | (refine caseB_true ?_; conv => whnf) | (refine caseB_false ?_; conv => whnf) | ((with_reducible refine caseB_dec (fun h => ?_) (fun h => ?_)) <;> conv => whnf) | ((with_reducible refine caseB_ndec (fun h => ?_) (fun h => ?_)) <;> conv => whnf) | ((with_reducible refine caseB_not (fun h => ?_) (fun h => ?_)) <;> conv => whnf) | (refine Ret.go (isTagged_impl y.tA y.tc y.c.tags t _ hi.t hn3) ?_; conv => whnf) | (with_reducible refine @And.intro (guardVC _ _ _ _ _) _ ?_ ?_) <;> conv => whnf | (refine caseB_intro (fun h => ?_) (fun h => ?_) <;> (try simp only [Bool.not_eq_true', Bool.not_eq_false', decide_eq_true_eq, decide_eq_false_iff_not] at h) <;> conv => whnf))
  exact ⟨_, PH.Le.refl _, rfl, rfl⟩
def keysL (pr : En → Bool) (es : List En) : List ByteArray := (es.filter pr).map (·.key)
theorem keysL_le (pr : En → Bool) (es : List En) : (keysL pr es).length ≤ es.length := by unfold keysL; rw [List.length_map]; exact List.length_filter_le _ _
theorem keysL_yes {pr : En → Bool} {es : List En} {i : Nat} (hi : i < es.length) (h : pr es[i] = true) : keysL pr (es.take (i + 1)) = keysL pr (es.take i) ++ [es[i].key] := by
  unfold keysL
  rw [List.take_succ_eq_append_getElem hi, List.filter_append, List.map_append]
  simp [h]
theorem keysL_no {pr : En → Bool} {es : List En} {i : Nat} (hi : i < es.length) (h : pr es[i] = false) : keysL pr (es.take (i + 1)) = keysL pr (es.take i) := by
  unfold keysL
  rw [List.take_succ_eq_append_getElem hi, List.filter_append, List.map_append]
  simp [h]
theorem keysBy_ret (x : StA) (G : FuncId) (caps : List Value) (pr : En → Bool) (M : PH) (hi : x.inn M) (n1 : x.tr.length ≤ 1048576) (n2 : x.kp.length ≤ 1048576) (hg : ∀ y ∈ x.tr ++ x.kp, ∀ M', M.Le M' → Ret G (y.val :: caps) M' (B (pr y.c))) :
    ACall env 80 [x.val, .func (.func G) ⟨[]⟩ ⟨caps⟩] M fun r M' => ∃ o A c, r = .slice A (keysL pr x.c.all).length c ∧ New M M' o A c 1 stC (keysL pr x.c.all) := by
  have hal := all_conts x
  have hwn : (x.tr ++ x.kp).length ≤ 2097152 := by rw [List.length_append]; omega
  refine xcall_of_vc Tryz.func80 rfl _ Tryz.ntmps80 _ rfl (fun _ _ => Tryz.call80 _ _) rfl (fun w0 ρ0 => ?_)
  conv => whnf
  intro g1 hg1
  conv => whnf
  have l0 := PH.Le.set (.cells (#[] : Array Value) 9 (0, 0)) hg1
  refine ACall.step (entries_ret x _ (hi.mono l0) n1 n2) fun v M0 hh => ?_
  obtain ⟨o0, A, c, rfl, hN0⟩ := hh
  have hE := all_ens (hi.mono l0) hN0
  have l1 := l0.trans hN0.le
  rw [hal]
  clear hN0 hal
  generalize x.tr ++ x.kp = ws at *
  have hcl : (conts ws).length = ws.length := List.length_map _
  conv => whnf
  refine loop_rule (fun z : G1 => ⟨slots 26 [(1, .v (.func (.func G) ⟨[]⟩ ⟨caps⟩)), (5, .v (.slice z.2.2.1 (keysL pr ((conts ws).take z.1)).length z.2.2.2)), (10, .v (.slice A ws.length c)), (11, .v (I ws.length)), (12, .v (I z.1))], [stBox x]⟩)
    (fun z M' => z.1 ≤ ws.length ∧ New M0 M' z.2.1 z.2.2.1 z.2.2.2 1 stC (keysL pr ((conts ws).take z.1))) (fun z => ws.length - z.1) (0, none, some ⟨g1, 0, none⟩, 0) ?_ ?_ ?_
  · exact ⟨by simp [slots, leT, keysL], ⟨[], rfl⟩, (by first | exact Nat.zero_le _ | exact Nat.le_refl _), rfl, rfl⟩
  · exact ⟨Nat.zero_le _, Ow.nil, PH.Le.refl _, fun g e => nomatch e⟩
  rintro ⟨i, o, D, d⟩ M1 ⟨hi0, hN⟩
  have hi0 : i ≤ ws.length := hi0
  have hN : New M0 M1 o D d 1 stC (keysL pr ((conts ws).take i)) := hN
  have hlt := keysL_le pr ((conts ws).take i)
  rw [List.length_take, hcl] at hlt
  conv => whnf
  refine caseB_dec (fun h0 => ?_) (fun h0 => ?_)
  · have h0 : (i : Int) < ws.length := h0
    have hi' : i < ws.length := by omega
    have hw : IntKind.i64.wrap ((i : Int) + 1) = (i : Int) + 1 := wr_id (by omega) (by omega)
    obtain ⟨hA, _, hc⟩ := (hE.sl.mono hN.le).get hi'
    have hfn := hg ws[i] (List.getElem_mem hi') M1 (l1.trans hN.le)
    have hci : (conts ws)[i]'(by omega) = ws[i].c := by simp
    have ey := keysL_yes (pr := pr) (es := conts ws) (i := i) (by omega)
    have en := keysL_no (pr := pr) (es := conts ws) (i := i) (by omega)
    rw [hci] at ey en
    generalize ws[i] = y at *
    conv => whnf
    refine ⟨by omega, by omega, hA, ?_⟩
    conv => whnf
    refine ⟨y.cs, hc, rfl, ?_⟩
    conv => whnf
    rw [forceL_eq]
    refine Ret.go hfn ?_
    conv => whnf
    refine caseB_intro (fun h => ?_) (fun h => ?_)
    · have e1 := ey h
      conv => whnf
      intro g0 hg0
      conv => whnf
      have l2 := PH.Le.set (.cells ([y.c.key].flatMap stC).toArray 9 (0, 0)) hg0
      have hS := sl_full st_len M1 g0 [y.c.key] 9 (0, 0)
      refine app_sl (te := ti9) (f := stC) (xs := keysL pr ((conts ws).take i)) (ys := [y.c.key]) (o := o) hS (hN.ow.mono l2) st_len st_one rfl (st_fits _ _ (by show _ + 1 ≤ _; omega)) (by show _ + 1 ≤ _; omega) fun o' A' c' M' hO hK hF => ?_
      conv => whnf
      exact ⟨(i + 1, o', A', c'), ⟨by simp [slots, leT, hw, e1], ⟨_, rfl⟩, (by first | exact Nat.zero_le _ | exact Nat.le_refl _), rfl, rfl⟩, ⟨hi', by show New _ _ _ _ _ _ _ _; rw [e1]; exact hN.more l2 hK hO hF⟩, by show _ - (i + 1) < _ - i; omega⟩
    · have e1 := en h
      conv => whnf
      exact ⟨(i + 1, o, D, d), ⟨by simp [slots, leT, hw, e1], ⟨_, rfl⟩, (by first | exact Nat.zero_le _ | exact Nat.le_refl _), rfl, rfl⟩, ⟨hi', by show New _ _ _ _ _ _ _ _; rw [e1]; exact hN⟩, by show _ - (i + 1) < _ - i; omega⟩
  · have hi' : i = ws.length := by have : ¬ (i : Int) < ws.length := h0; omega
    subst hi'
    rw [← hcl, List.take_length] at hN
    conv => whnf
    exact ⟨_, PH.Le.refl _, o, D, d, by rw [← hcl, List.take_length]; rfl, hN.from l1⟩
theorem l9Tagged_ret (t : TypeId) (x : StA) (tag : ByteArray) (M : PH) (hi : x.inn M) (n1 : x.tr.length ≤ 1048576) (n2 : x.kp.length ≤ 1048576) (hd : ∀ y ∈ x.tr ++ x.kp, y.c.cost ≤ 1048576) :
    XCall env 83 [.bp 0 0, .v (Tx tag)] [stBox x] M fun r b M' => (∃ o A c, r = .slice A (keysL (fun e => tagT e.tags tag) x.c.all).length c ∧ New M M' o A c 1 stC (keysL (fun e => tagT e.tags tag) x.c.all)) ∧ b = [stBox x] := by
  have hal := all_conts x
  have hwn : (x.tr ++ x.kp).length ≤ 2097152 := by rw [List.length_append]; omega
  refine xcall_of_vc Tryz.func83 rfl _ Tryz.ntmps83 _ rfl (fun _ _ => Tryz.call83 _ _) rfl (fun w0 ρ0 => ?_)
  conv => whnf
  intro g1 hg1
  conv => whnf
  have l0 := PH.Le.set (.cells (#[] : Array Value) 9 (0, 0)) hg1
  refine XCall.lift (l8All_ret 36 x _ (hi.mono l0) n1 n2) [0] ?_ (by simp) (by simp) (by simp [AV.plain]) ?_
  · simp [ren]
  rintro r bs' M0 ⟨⟨o0, A, c, rfl, hN0⟩, rfl⟩
  refine ⟨by simp [AV.plain], ?_⟩
  have hE := all_ens (hi.mono l0) hN0
  have l1 := l0.trans hN0.le
  rw [hal]
  clear hN0 hal
  generalize x.tr ++ x.kp = ws at *
  have hcl : (conts ws).length = ws.length := List.length_map _
  generalize hpr : (fun e : En => tagT e.tags tag) = pr
  conv => whnf
  refine loop_rule (fun z : G1 => ⟨slots 33 [(1, .v (Tx tag)), (5, .v (.slice z.2.2.1 (keysL pr ((conts ws).take z.1)).length z.2.2.2)), (6, .v (.slice A ws.length c)), (7, .v (I z.1))], [stBox x]⟩)
    (fun z M' => z.1 ≤ ws.length ∧ New M0 M' z.2.1 z.2.2.1 z.2.2.2 1 stC (keysL pr ((conts ws).take z.1))) (fun z => ws.length - z.1) (0, none, some ⟨g1, 0, none⟩, 0) ?_ ?_ ?_
  · exact ⟨by simp [slots, leT, keysL], ⟨[], rfl⟩, (by first | exact Nat.zero_le _ | exact Nat.le_refl _), rfl, rfl⟩
  · exact ⟨Nat.zero_le _, Ow.nil, PH.Le.refl _, fun g e => nomatch e⟩
  rintro ⟨i, o, D, d⟩ M1 ⟨hi0, hN⟩
  have hi0 : i ≤ ws.length := hi0
  have hN : New M0 M1 o D d 1 stC (keysL pr ((conts ws).take i)) := hN
  have hlt := keysL_le pr ((conts ws).take i)
  rw [List.length_take, hcl] at hlt
  conv => whnf
  refine caseB_dec (fun h0 => ?_) (fun h0 => ?_)
  · have h0 : (i : Int) < ws.length := h0
    have hi' : i < ws.length := by omega
    have hw : IntKind.i64.wrap ((i : Int) + 1) = (i : Int) + 1 := wr_id (by omega) (by omega)
    obtain ⟨hA, _, hc⟩ := (hE.sl.mono hN.le).get hi'
    have hyi := (hE.inn _ (List.getElem_mem hi')).mono hN.le
    obtain ⟨_, _, _, _, hn3⟩ := En.hn (hd _ (List.getElem_mem hi'))
    have hci : (conts ws)[i]'(by omega) = ws[i].c := by simp
    have ey := keysL_yes (pr := pr) (es := conts ws) (i := i) (by omega)
    have en := keysL_no (pr := pr) (es := conts ws) (i := i) (by omega)
    rw [hci] at ey en
    have hpy : pr ws[i].c = tagT ws[i].c.tags tag := by rw [← hpr]
    rw [hpy] at ey en
    generalize ws[i] = y at *
    conv => whnf
    refine ⟨by omega, by omega, hA, ?_⟩
    conv => whnf
    refine ⟨_, cells_cut hc 11 rfl, ?_⟩
    conv => whnf
    refine Ret.go (isTagged_spec y.tA y.tc y.c.tags tag _ hyi.t hn3) ?_
    conv => whnf
    refine caseB_intro (fun h => ?_) (fun h => ?_)
    · have e1 := ey h
      conv => whnf
      refine ⟨by omega, by omega, hA, ?_⟩
      conv => whnf
      refine ⟨_, cells_cut hc 0 rfl, ?_⟩
      conv => whnf
      intro g0 hg0
      conv => whnf
      have l2 := PH.Le.set (.cells ([y.c.key].flatMap stC).toArray 9 (0, 0)) hg0
      have hS := sl_full st_len M1 g0 [y.c.key] 9 (0, 0)
      refine app_sl (te := ti9) (f := stC) (xs := keysL pr ((conts ws).take i)) (ys := [y.c.key]) (o := o) hS (hN.ow.mono l2) st_len st_one rfl (st_fits _ _ (by show _ + 1 ≤ _; omega)) (by show _ + 1 ≤ _; omega) fun o' A' c' M' hO hK hF => ?_
      conv => whnf
      exact ⟨(i + 1, o', A', c'), ⟨by simp [slots, leT, hw, e1], ⟨_, rfl⟩, (by first | exact Nat.zero_le _ | exact Nat.le_refl _), rfl, rfl⟩, ⟨hi', by show New _ _ _ _ _ _ _ _; rw [e1]; exact hN.more l2 hK hO hF⟩, by show _ - (i + 1) < _ - i; omega⟩
    · have e1 := en h
      conv => whnf
      exact ⟨(i + 1, o, D, d), ⟨by simp [slots, leT, hw, e1], ⟨_, rfl⟩, (by first | exact Nat.zero_le _ | exact Nat.le_refl _), rfl, rfl⟩, ⟨hi', by show New _ _ _ _ _ _ _ _; rw [e1]; exact hN⟩, by show _ - (i + 1) < _ - i; omega⟩
  · have hi' : i = ws.length := by have : ¬ (i : Int) < ws.length := h0; omega
    subst hi'
    rw [← hcl, List.take_length] at hN
    conv => whnf
    exact ⟨_, PH.Le.refl _, ⟨o, D, d, by rw [← hcl, List.take_length]; rfl, hN.from l1⟩, rfl⟩
end Go.Proofs.YtgjaiabenjafeaaGreatDoor
