/-
  CONTRACTS: what entries cost. CONTRACTS: all entries of a store in one row; what they cost together.
-/
import Derived.Test.YtgjaiabenjafeaaGreatDoorBc
import Derived.Test.YtgjaiabenjafeaaGreatDoorOd
namespace Go.Proofs.YtgjaiabenjafeaaGreatDoor
set_option maxRecDepth 100000
set_option linter.unusedSimpArgs false
set_option linter.unusedVariables false
open Go.Xe
def RetE (f : FuncId) (args : List AV) (M : PH) (v : Value) : Prop := XCall env f args [] M fun r b M' => r = v ∧ b = [] ∧ M' = M
theorem RetE.go {f : FuncId} {args : List AV} {bx : List Box} {M : PH} {v : Value} {K : Value → List Box → PH → Prop} (h : RetE f args M v) (ha : args.map (ren []) = args) (hk : K v bx M) : XCall env f args bx M K := XCall.go0 h ha hk
theorem cells_sub {M : PH} {A : Option Addr} {o : Nat} {cs : List Value} (h : M.cells A o cs) (i n : Nat) : M.cells A (o + i) ((cs.drop i).take n) := by
  obtain ⟨a, ha, hc⟩ := h
  refine ⟨a, ha, fun j x hx => ?_⟩
  rw [List.getElem?_take] at hx
  split at hx
  · rw [List.getElem?_drop] at hx
    rw [Nat.add_assoc]
    exact hc _ _ hx
  · cases hx
/-- What an entry costs. -/
def eCost (e : En) : Nat := 50 + (e.key.size + (pack e.hs).size + e.body.length)
theorem pack_size (ws : List Hd) : (pack ws).size ≤ 4 * costL Hd.cost ws := by
  rw [size_list]
  exact packL_len ws
theorem eCost_le {e : En} (h : e.cost ≤ 2097152) : (pack e.hs).size ≤ 8388608 ∧ e.key.size ≤ 2097152 ∧ e.body.length ≤ 2097152 ∧ costL Hd.cost e.hs ≤ 2097152 := by
  unfold En.cost at h
  have := pack_size e.hs
  omega
theorem eCost_wrap {e : En} (h : e.cost ≤ 2097152) : IntKind.i64.wrap (50 + IntKind.i64.wrap (IntKind.i64.wrap ((e.key.size : Int) + ((pack e.hs).size : Int)) + (e.body.length : Int))) = (eCost e : Int) := by
  obtain ⟨h1, h2, h3, _⟩ := eCost_le h
  rw [wrap_id (n := (e.key.size : Int) + ((pack e.hs).size : Int)) (by omega) (by omega), wrap_id (n := (e.key.size : Int) + ((pack e.hs).size : Int) + (e.body.length : Int)) (by omega) (by omega), wrap_id (by omega) (by omega)]
  unfold eCost
  omega
theorem cost_impl (x : EnA) (M : PH) (hi : x.inn M) (hco : x.c.cost ≤ 2097152) : Ret 109 [x.val] M (I (eCost x.c)) := by
  have h0 := eCost_wrap hco
  obtain ⟨h1, h2, h3, h4⟩ := eCost_le hco
  refine xcall_of_vc Tryz.func109 rfl _ Tryz.ntmps109 _ rfl (fun _ _ => Tryz.call109 _ _) rfl (fun w0 ρ0 => ?_)
  conv => whnf
  repeat' (first | (refine ⟨⟨[], rfl⟩, _, PH.Le.refl _, PH.Le.refl _, ?_⟩; conv => whnf) | (refine caseB_true ?_; conv => whnf) | (refine caseB_false ?_; conv => whnf) | ((with_reducible refine caseB_dec (fun h => ?_) (fun h => ?_)) <;> conv => whnf) | ((with_reducible refine caseB_ndec (fun h => ?_) (fun h => ?_)) <;> conv => whnf) | ((with_reducible refine caseB_not (fun h => ?_) (fun h => ?_)) <;> conv => whnf) | (refine Ret.go (headersText_ret x.hA x.hc x.c.hs _ hi.h (by omega)) ?_; conv => whnf) | (refine draw_rule (.light 0 <| .light 1 <| .light 2 <| .light 3 <| .light 4 <| .light 8 <| .light 9 <| .light 10 <| .alt 5 false (.light 6 <| .light 7 <| .light 11 <| .light 12 <| .light 13 <| .done) .nil) (by decide +kernel) ?_; conv => whnf) | (with_reducible refine @And.intro (guardVC _ _ _ _ _) _ ?_ ?_) <;> conv => whnf | (refine caseB_intro (fun h => ?_) (fun h => ?_) <;> (try simp only [Bool.not_eq_true', Bool.not_eq_false', decide_eq_true_eq, decide_eq_false_iff_not] at h) <;> conv => whnf))
  all_goals exact ⟨_, PH.Le.refl _, by rw [← h0]; rfl, rfl⟩
theorem l8Cost_el (A : Option Addr) (o : Nat) (x : EnA) (M : PH) (hA : M.cells A o x.cs) (hi : x.inn M) (hco : x.c.cost ≤ 2097152) : RetE 153 [.el A o] M (I (eCost x.c)) := by
  have h0 := eCost_wrap hco
  obtain ⟨h1, h2, h3, h4⟩ := eCost_le hco
  have a0 : M.cells A (o + 0) [Tx x.c.key] := cells_sub hA 0 1
  have a2 : M.cells A (o + 2) [.slice x.hA x.c.hs.length x.hc] := cells_sub hA 2 1
  have a3 : M.cells A (o + 3) [.slice x.bA x.c.body.length x.bc] := cells_sub hA 3 1
  refine xcall_of_vc Tryz.func153 rfl _ Tryz.ntmps153 _ rfl (fun _ _ => Tryz.call153 _ _) rfl (fun w0 ρ0 => ?_)
  conv => whnf
  repeat' (first | (refine ⟨⟨[], rfl⟩, _, PH.Le.refl _, PH.Le.refl _, ?_⟩; conv => whnf) | (refine ⟨_, a3, ?_⟩; conv => whnf) | (refine ⟨_, a2, ?_⟩; conv => whnf) | (refine ⟨_, a0, ?_⟩; conv => whnf) | (refine caseB_true ?_; conv => whnf) | (refine caseB_false ?_; conv => whnf) | ((with_reducible refine caseB_dec (fun h => ?_) (fun h => ?_)) <;> conv => whnf) | ((with_reducible refine caseB_ndec (fun h => ?_) (fun h => ?_)) <;> conv => whnf) | ((with_reducible refine caseB_not (fun h => ?_) (fun h => ?_)) <;> conv => whnf) | (refine Ret.go (l4Pack_ret x.hA x.hc x.c.hs _ hi.h (by omega)) ?_; conv => whnf) | (refine draw_rule (.light 0 <| .light 1 <| .light 2 <| .light 3 <| .light 4 <| .light 5 <| .light 6 <| .light 7 <| .light 8 <| .light 12 <| .light 13 <| .light 14 <| .light 15 <| .light 16 <| .alt 9 false (.light 10 <| .light 11 <| .light 17 <| .light 18 <| .light 19 <| .done) .nil) (by decide +kernel) ?_; conv => whnf) | (with_reducible refine @And.intro (guardVC _ _ _ _ _) _ ?_ ?_) <;> conv => whnf | (refine caseB_intro (fun h => ?_) (fun h => ?_) <;> (try simp only [Bool.not_eq_true', Bool.not_eq_false', decide_eq_true_eq, decide_eq_false_iff_not] at h) <;> conv => whnf))
  all_goals exact ⟨_, PH.Le.refl _, by rw [← h0]; rfl, rfl, rfl⟩
theorem l8Cost_box (t : TypeId) (x : EnA) (M : PH) (hi : x.inn M) (hco : x.c.cost ≤ 2097152) : RetP 153 ⟨t, x.cs.map .v⟩ [] M (I (eCost x.c)) := by
  have h0 := eCost_wrap hco
  obtain ⟨h1, h2, h3, h4⟩ := eCost_le hco
  refine xcall_of_vc Tryz.func153 rfl _ Tryz.ntmps153 _ rfl (fun _ _ => Tryz.call153 _ _) rfl (fun w0 ρ0 => ?_)
  conv => whnf
  repeat' (first | (refine ⟨⟨[], rfl⟩, _, PH.Le.refl _, PH.Le.refl _, ?_⟩; conv => whnf) | (refine caseB_true ?_; conv => whnf) | (refine caseB_false ?_; conv => whnf) | ((with_reducible refine caseB_dec (fun h => ?_) (fun h => ?_)) <;> conv => whnf) | ((with_reducible refine caseB_ndec (fun h => ?_) (fun h => ?_)) <;> conv => whnf) | ((with_reducible refine caseB_not (fun h => ?_) (fun h => ?_)) <;> conv => whnf) | (refine Ret.go (l4Pack_ret x.hA x.hc x.c.hs _ hi.h (by omega)) ?_; conv => whnf) | (refine draw_rule (.light 0 <| .light 1 <| .light 2 <| .light 3 <| .light 4 <| .light 5 <| .light 6 <| .light 7 <| .light 8 <| .light 12 <| .light 13 <| .light 14 <| .light 15 <| .light 16 <| .alt 9 false (.light 10 <| .light 11 <| .light 17 <| .light 18 <| .light 19 <| .done) .nil) (by decide +kernel) ?_; conv => whnf) | (with_reducible refine @And.intro (guardVC _ _ _ _ _) _ ?_ ?_) <;> conv => whnf | (refine caseB_intro (fun h => ?_) (fun h => ?_) <;> (try simp only [Bool.not_eq_true', Bool.not_eq_false', decide_eq_true_eq, decide_eq_false_iff_not] at h) <;> conv => whnf))
  all_goals exact ⟨_, PH.Le.refl _, by rw [← h0]; rfl, rfl, rfl⟩
def eCosts (es : List En) : Nat := (es.map eCost).sum
theorem eCost_max {e : En} (h : e.cost ≤ 1048576) : eCost e ≤ 16777216 := by
  obtain ⟨h1, h2, h3, _⟩ := eCost_le (e := e) (by omega)
  unfold eCost
  omega
theorem eCosts_max {es : List En} (h : ∀ e ∈ es, e.cost ≤ 1048576) : eCosts es ≤ es.length * 16777216 := by
  unfold eCosts
  induction es with
  | nil => simp
  | cons x r ih =>
    have h1 := eCost_max (h x (by simp))
    have h2 := ih fun e he => h e (by simp [he])
    simp only [List.map_cons, List.sum_cons, List.length_cons]
    omega
theorem eCosts_take {es : List En} {i : Nat} (h : i < es.length) : eCosts (es.take (i + 1)) = eCosts (es.take i) + eCost es[i] := by
  unfold eCosts
  rw [List.take_succ_eq_append_getElem h, List.map_append, List.sum_append]
  simp
theorem eCosts_app (a b : List En) : eCosts (a ++ b) = eCosts a + eCosts b := by
  unfold eCosts
  rw [List.map_append, List.sum_append]
theorem costOf_ret (A : Option Addr) (c : Nat) (ws : List EnA) (M : PH) (hE : Ens M A ws) (hco : ∀ x ∈ ws, x.c.cost ≤ 1048576) (hn : ws.length ≤ 2097152) :
    Ret 96 [.slice A ws.length c] M (I (eCosts (conts ws))) := by
  have hcl : (conts ws).length = ws.length := List.length_map _
  have hmx : ∀ i, i ≤ ws.length → eCosts ((conts ws).take i) ≤ 35184372088832 := fun i hi => by
    have := eCosts_max (es := (conts ws).take i) (fun e he => by
      obtain ⟨x, hx, rfl⟩ := List.mem_map.1 (List.mem_of_mem_take he)
      exact hco x hx)
    rw [List.length_take, hcl] at this
    have h3 : min i ws.length ≤ 2097152 := by omega
    omega
  refine xcall_of_vc Tryz.func96 rfl _ Tryz.ntmps96 _ rfl (fun _ _ => Tryz.call96 _ _) rfl (fun w0 ρ0 => ?_)
  conv => whnf
  refine loop_rule (fun i : Nat => ⟨slots 18 [(0, .v (.slice A ws.length c)), (3, .v (I (eCosts ((conts ws).take i)))), (6, .v (.slice A ws.length c)), (7, .v (I ws.length)), (8, .v (I i))], []⟩) (fun i M' => i ≤ ws.length ∧ M' = M) (fun i => ws.length - i) 0 ?_ ?_ ?_
  · exact ⟨by simp [slots, leT, eCosts], ⟨[], rfl⟩, Nat.zero_le _, rfl, rfl⟩
  · exact ⟨Nat.zero_le _, rfl⟩
  rintro i M' ⟨hi, rfl⟩
  conv => whnf
  refine caseB_dec (fun h0 => ?_) (fun h0 => ?_)
  · have h0 : (i : Int) < ws.length := h0
    have hi' : i < ws.length := by omega
    have hw : IntKind.i64.wrap ((i : Int) + 1) = (i : Int) + 1 := wr_id (by omega) (by omega)
    obtain ⟨hA, _, hc⟩ := hE.sl.get hi'
    have h1 := hmx i hi
    have h2 := hmx (i + 1) hi'
    have e1 : eCosts ((conts ws).take (i + 1)) = eCosts ((conts ws).take i) + eCost ws[i].c := by
      rw [eCosts_take (by rw [hcl]; exact hi')]
      simp
    have hw2 : IntKind.i64.wrap ((eCosts ((conts ws).take i) : Int) + (eCost ws[i].c : Int)) = (eCosts ((conts ws).take (i + 1)) : Int) := by
      rw [wrap_id (by omega) (by omega)]; omega
    have hci : ws[i].c.cost ≤ 2097152 := Nat.le_trans (hco _ (List.getElem_mem hi')) (by omega)
    have hii := hE.inn _ (List.getElem_mem hi')
    clear e1 h1 h2 hmx
    generalize ws[i] = x at *
    conv => whnf
    repeat' (first | (refine ⟨⟨[], rfl⟩, _, PH.Le.refl _, PH.Le.refl _, ?_⟩; conv => whnf) | (refine ⟨x.cs, hc, rfl, ?_⟩; conv => whnf) | (refine ⟨by omega, by omega, hA, ?_⟩; conv => whnf) | (refine caseB_true ?_; conv => whnf) | (refine caseB_false ?_; conv => whnf) | ((with_reducible refine caseB_dec (fun h => ?_) (fun h => ?_)) <;> conv => whnf) | ((with_reducible refine caseB_ndec (fun h => ?_) (fun h => ?_)) <;> conv => whnf) | ((with_reducible refine caseB_not (fun h => ?_) (fun h => ?_)) <;> conv => whnf) | (refine Ret.go (cost_impl x _ hii hci) ?_; conv => whnf) | (with_reducible refine @And.intro (guardVC _ _ _ _ _) _ ?_ ?_) <;> conv => whnf | (refine caseB_intro (fun h => ?_) (fun h => ?_) <;> (try simp only [Bool.not_eq_true', Bool.not_eq_false', decide_eq_true_eq, decide_eq_false_iff_not] at h) <;> conv => whnf))
    exact ⟨i + 1, ⟨by simp [slots, leT, hw, hw2], ⟨_, rfl⟩, Nat.zero_le _, rfl, rfl⟩, ⟨by omega, rfl⟩, by omega⟩
  · have hi' : i = ws.length := by have : ¬ (i : Int) < ws.length := h0; omega
    subst hi'
    conv => whnf
    exact ⟨_, PH.Le.refl _, by rw [← hcl, List.take_length]; rfl, rfl⟩
theorem l8Costs_ret (A : Option Addr) (c : Nat) (ws : List EnA) (M : PH) (hE : Ens M A ws) (hco : ∀ x ∈ ws, x.c.cost ≤ 1048576) (hn : ws.length ≤ 2097152) :
    Ret 103 [.slice A ws.length c] M (I (eCosts (conts ws))) := by
  have hcl : (conts ws).length = ws.length := List.length_map _
  have hmx : ∀ i, i ≤ ws.length → eCosts ((conts ws).take i) ≤ 35184372088832 := fun i hi => by
    have := eCosts_max (es := (conts ws).take i) (fun e he => by
      obtain ⟨x, hx, rfl⟩ := List.mem_map.1 (List.mem_of_mem_take he)
      exact hco x hx)
    rw [List.length_take, hcl] at this
    have h3 : min i ws.length ≤ 2097152 := by omega
    omega
  refine xcall_of_vc Tryz.func103 rfl _ Tryz.ntmps103 _ rfl (fun _ _ => Tryz.call103 _ _) rfl (fun w0 ρ0 => ?_)
  conv => whnf
  refine loop_rule (fun i : Nat => ⟨slots 18 [(0, .v (.slice A ws.length c)), (3, .v (I (eCosts ((conts ws).take i)))), (4, .v (I i))], []⟩) (fun i M' => i ≤ ws.length ∧ M' = M) (fun i => ws.length - i) 0 ?_ ?_ ?_
  · exact ⟨by simp [slots, leT, eCosts], ⟨[], rfl⟩, Nat.zero_le _, rfl, rfl⟩
  · exact ⟨Nat.zero_le _, rfl⟩
  rintro i M' ⟨hi, rfl⟩
  conv => whnf
  refine caseB_dec (fun h0 => ?_) (fun h0 => ?_)
  · have h0 : (i : Int) < ws.length := h0
    have hi' : i < ws.length := by omega
    have hw : IntKind.i64.wrap ((i : Int) + 1) = (i : Int) + 1 := wr_id (by omega) (by omega)
    obtain ⟨hA, _, hc⟩ := hE.sl.get hi'
    have h1 := hmx i hi
    have h2 := hmx (i + 1) hi'
    have e1 : eCosts ((conts ws).take (i + 1)) = eCosts ((conts ws).take i) + eCost ws[i].c := by
      rw [eCosts_take (by rw [hcl]; exact hi')]
      simp
    have hw2 : IntKind.i64.wrap ((eCosts ((conts ws).take i) : Int) + (eCost ws[i].c : Int)) = (eCosts ((conts ws).take (i + 1)) : Int) := by
      rw [wrap_id (by omega) (by omega)]; omega
    have hci : ws[i].c.cost ≤ 2097152 := Nat.le_trans (hco _ (List.getElem_mem hi')) (by omega)
    have hr := l8Cost_el A (i * 13) ws[i] _ hc (hE.inn _ (List.getElem_mem hi')) hci
    clear e1 h1 h2 hmx
    generalize ws[i] = x at *
    conv => whnf
    repeat' (first | (refine ⟨⟨[], rfl⟩, _, PH.Le.refl _, PH.Le.refl _, ?_⟩; conv => whnf) | (refine RetE.go hr rfl ?_; conv => whnf) | (refine ⟨by omega, by omega, hA, ?_⟩; conv => whnf) | (refine caseB_true ?_; conv => whnf) | (refine caseB_false ?_; conv => whnf) | ((with_reducible refine caseB_dec (fun h => ?_) (fun h => ?_)) <;> conv => whnf) | ((with_reducible refine caseB_ndec (fun h => ?_) (fun h => ?_)) <;> conv => whnf) | ((with_reducible refine caseB_not (fun h => ?_) (fun h => ?_)) <;> conv => whnf) | (with_reducible refine @And.intro (guardVC _ _ _ _ _) _ ?_ ?_) <;> conv => whnf | (refine caseB_intro (fun h => ?_) (fun h => ?_) <;> (try simp only [Bool.not_eq_true', Bool.not_eq_false', decide_eq_true_eq, decide_eq_false_iff_not] at h) <;> conv => whnf))
    exact ⟨i + 1, ⟨by simp [slots, leT, hw, hw2], ⟨_, rfl⟩, Nat.zero_le _, rfl, rfl⟩, ⟨by omega, rfl⟩, by omega⟩
  · have hi' : i = ws.length := by have : ¬ (i : Int) < ws.length := h0; omega
    subst hi'
    conv => whnf
    exact ⟨_, PH.Le.refl _, by rw [← hcl, List.take_length]; rfl, rfl⟩
theorem en_fits (n m : Nat) (h : n + m ≤ 4194304) : (n + m) * ti44.bytes ≤ 140737488355328 := by
  unfold ti44
  show (n + m) * 152 ≤ _
  omega
theorem subA_zero (g sz m : Nat) : subA (some ⟨g, 0, none⟩) 0 sz m = some ⟨g, 0, none⟩ := by
  unfold subA
  split
  · rfl
  · simp [Addr.add]
theorem zeros_room (n c' : Nat) (hc : 0 + (n : Int).toNat ≤ c') : 0 + c' * 13 ≤ (([] : List Value) ++ zerosL ti44 (n : Int).toNat ++ zerosL ti44 (c' - (0 + (n : Int).toNat))).length := by
  have h : ∀ k, (zerosL ti44 k).length = k * 13 := fun k => by
    unfold zerosL
    rw [repl_length (sz := 13) (by kernel_rfl)]
  rw [List.length_append, List.length_append, h, h]
  simp only [Int.toNat_natCast, List.length_nil] at hc ⊢
  omega
theorem grow_ret (n : Nat) (M : PH) (hn : n ≤ 2097152) :
    ACall env 176 [.slice none 0 0, I n] M fun r M' => ∃ o A c, r = .slice A 0 c ∧ New M M' o A c 13 EnA.cs [] := by
  have e1 : IntKind.i64.wrap (((0 : Nat) : Int) - ((0 : Nat) : Int)) = 0 := by decide
  have e2 : IntKind.i64.wrap ((n : Int) - IntKind.i64.wrap (((0 : Nat) : Int) - ((0 : Nat) : Int))) = n := by rw [e1]; rw [wrap_id (by omega) (by omega)]; omega
  refine xcall_of_vc Tryz.func176 rfl _ Tryz.ntmps176 _ rfl (fun _ _ => Tryz.call176 _ _) rfl (fun w0 ρ0 => ?_)
  conv => whnf
  refine caseB_dec (fun h0 => absurd h0 (by omega)) (fun h0 => ?_)
  conv => whnf
  rw [e2]
  refine caseB_dec (fun h1 => ?_) (fun h1 => ?_)
  · conv => whnf
    refine ⟨⟨by omega, by omega, by omega⟩, ?_⟩
    conv => whnf
    refine ⟨⟨by omega, by omega⟩, ([] : List Value), rfl, .inl rfl, en_fits _ _ (by show 0 + (n : Int).toNat ≤ _; omega), by show 0 + (n : Int).toNat ≤ _; omega, fun hlt g c' hg hc => ?_, fun hle => absurd hle (by show ¬ 0 + (n : Int).toNat ≤ 0; omega)⟩
    conv => whnf
    refine ⟨⟨by omega, by omega, by omega⟩, ?_⟩
    conv => whnf
    exact ⟨_, PH.Le.refl _, some g, _, _, rfl, ⟨0, _, _, subA_zero g _ _, PH.set_same _ _ _, zeros_room n c' hc, Nat.zero_le _, fun i x hx => nomatch hx⟩, PH.Le.set _ hg, fun k e => by cases e; exact hg⟩
  · conv => whnf
    exact ⟨_, PH.Le.refl _, none, none, 0, rfl, New.nil _ _⟩
theorem concat_ret (g : Nat) (ty : TypeId) (fz : Nat × Nat) (A A' : Option Addr) (c c' : Nat) (ws us : List EnA) (M : PH)
    (hg : M g = some (.cells #[.slice A ws.length c, .slice A' us.length c'] ty fz)) (hE : Ens M A ws) (hE' : Ens M A' us) (hn : ws.length ≤ 1048576) (hn' : us.length ≤ 1048576) :
    ACall env 147 [.slice (some ⟨g, 0, none⟩) 2 2] M fun r M' => ∃ o A2 c2, r = .slice A2 (ws ++ us).length c2 ∧ New M M' o A2 c2 13 EnA.cs (ws ++ us) := by
  have k0 : ∀ M', M.Le M' → M'.cells (some ⟨g, 0, none⟩) (0 * 1) [.slice A ws.length c] := fun M' l => ⟨⟨g, 0, none⟩, rfl, fun j x hx => by
    rw [add_at]
    have : M' g = _ := l g _ hg
    cases j with
    | zero => simp [PH.cell, this] at hx ⊢; exact hx
    | succ j => simp at hx⟩
  have k1 : ∀ M', M.Le M' → M'.cells (some ⟨g, 0, none⟩) (1 * 1) [.slice A' us.length c'] := fun M' l => ⟨⟨g, 0, none⟩, rfl, fun j x hx => by
    rw [add_at]
    have : M' g = _ := l g _ hg
    cases j with
    | zero => simp [PH.cell, this] at hx ⊢; exact hx
    | succ j => simp at hx⟩
  have w1 : IntKind.i64.wrap (0 + (ws.length : Int)) = ws.length := by rw [wrap_id (by omega) (by omega)]; omega
  have w2 : IntKind.i64.wrap (IntKind.i64.wrap (0 + (ws.length : Int)) + (us.length : Int)) = (ws.length + us.length : Nat) := by rw [w1, wrap_id (by omega) (by omega)]; omega
  refine xcall_of_vc Tryz.func147 rfl _ Tryz.ntmps147 _ rfl (fun _ _ => Tryz.call147 _ _) rfl (fun w0 ρ0 => ?_)
  conv => whnf
  refine unroll_rule 3 ?_
  conv => whnf
  repeat' (first | (refine ⟨⟨[], rfl⟩, _, PH.Le.refl _, PH.Le.refl _, ?_⟩; conv => whnf) | (refine caseB_dec (fun h => absurd h (by first | decide | (rw [w2]; omega) | (rw [w1]; omega))) (fun h => ?_); conv => whnf) | (refine caseB_dec (fun h => ?_) (fun h => absurd (by decide) h); conv => whnf) | (refine ⟨_, k1 _ (PH.Le.refl _), ?_⟩; conv => whnf) | (refine ⟨_, k0 _ (PH.Le.refl _), ?_⟩; conv => whnf) | (refine ⟨by decide, by decide, rfl, ?_⟩; conv => whnf) | (refine caseB_true ?_; conv => whnf) | (refine caseB_false ?_; conv => whnf) | ((with_reducible refine caseB_dec (fun h => ?_) (fun h => ?_)) <;> conv => whnf) | ((with_reducible refine caseB_ndec (fun h => ?_) (fun h => ?_)) <;> conv => whnf) | ((with_reducible refine caseB_not (fun h => ?_) (fun h => ?_)) <;> conv => whnf) | (with_reducible refine @And.intro (guardVC _ _ _ _ _) _ ?_ ?_) <;> conv => whnf | (refine caseB_intro (fun h => ?_) (fun h => ?_) <;> (try simp only [Bool.not_eq_true', Bool.not_eq_false', decide_eq_true_eq, decide_eq_false_iff_not] at h) <;> conv => whnf))
  rw [w2]
  refine ACall.step (grow_ret (ws.length + us.length) M (by omega)) fun v M1 hh => ?_
  obtain ⟨o, B, d, rfl, hN⟩ := hh
  conv => whnf
  refine unroll_rule 3 ?_
  conv => whnf
  repeat' (first | (refine ⟨⟨[], rfl⟩, _, PH.Le.refl _, PH.Le.refl _, ?_⟩; conv => whnf) | (refine caseB_dec (fun h => ?_) (fun h => absurd (by decide) h); conv => whnf) | (refine ⟨_, k0 _ hN.le, ?_⟩; conv => whnf) | (refine ⟨by decide, by decide, rfl, ?_⟩; conv => whnf) | (refine caseB_true ?_; conv => whnf) | (refine caseB_false ?_; conv => whnf) | ((with_reducible refine caseB_dec (fun h => ?_) (fun h => ?_)) <;> conv => whnf) | ((with_reducible refine caseB_ndec (fun h => ?_) (fun h => ?_)) <;> conv => whnf) | ((with_reducible refine caseB_not (fun h => ?_) (fun h => ?_)) <;> conv => whnf) | (with_reducible refine @And.intro (guardVC _ _ _ _ _) _ ?_ ?_) <;> conv => whnf | (refine caseB_intro (fun h => ?_) (fun h => ?_) <;> (try simp only [Bool.not_eq_true', Bool.not_eq_false', decide_eq_true_eq, decide_eq_false_iff_not] at h) <;> conv => whnf))
  refine app_sl (te := ti44) (f := EnA.cs) (xs := []) (ys := ws) (o := o) (hE.sl.mono hN.le) hN.ow EnA.len EnA.one rfl (en_fits _ _ (by show 0 + _ ≤ _; omega)) (by show 0 + _ ≤ _; omega) fun o1 A1 c1 M2 hO hK hF => ?_
  have hN1 := hN.more (PH.Le.refl _) hK hO hF
  conv => whnf
  repeat' (first | (refine ⟨⟨[], rfl⟩, _, PH.Le.refl _, PH.Le.refl _, ?_⟩; conv => whnf) | (refine caseB_dec (fun h => ?_) (fun h => absurd (by decide) h); conv => whnf) | (refine ⟨_, k1 _ hN1.le, ?_⟩; conv => whnf) | (refine ⟨by decide, by decide, rfl, ?_⟩; conv => whnf) | (refine caseB_true ?_; conv => whnf) | (refine caseB_false ?_; conv => whnf) | ((with_reducible refine caseB_dec (fun h => ?_) (fun h => ?_)) <;> conv => whnf) | ((with_reducible refine caseB_ndec (fun h => ?_) (fun h => ?_)) <;> conv => whnf) | ((with_reducible refine caseB_not (fun h => ?_) (fun h => ?_)) <;> conv => whnf) | (with_reducible refine @And.intro (guardVC _ _ _ _ _) _ ?_ ?_) <;> conv => whnf | (refine caseB_intro (fun h => ?_) (fun h => ?_) <;> (try simp only [Bool.not_eq_true', Bool.not_eq_false', decide_eq_true_eq, decide_eq_false_iff_not] at h) <;> conv => whnf))
  refine app_sl (te := ti44) (f := EnA.cs) (xs := ws) (ys := us) (o := o1) (hE'.sl.mono hN1.le) hN1.ow EnA.len EnA.one rfl (en_fits _ _ (by omega)) (by omega) fun o2 A2 c2 M3 hO2 hK2 hF2 => ?_
  have hN2 := hN1.more (PH.Le.refl _) hK2 hO2 hF2
  conv => whnf
  refine caseB_dec (fun h => absurd h (by decide)) (fun h => ?_)
  conv => whnf
  exact ⟨_, PH.Le.refl _, o2, A2, c2, rfl, hN2⟩
theorem entries_ret (x : StA) (M : PH) (hi : x.inn M) (hn : x.tr.length ≤ 1048576) (hn' : x.kp.length ≤ 1048576) :
    ACall env 91 [x.val] M fun r M' => ∃ o A c, r = .slice A (x.tr ++ x.kp).length c ∧ New M M' o A c 13 EnA.cs (x.tr ++ x.kp) := by
  refine xcall_of_vc Tryz.func91 rfl _ Tryz.ntmps91 _ rfl (fun _ _ => Tryz.call91 _ _) rfl (fun w0 ρ0 => ?_)
  conv => whnf
  intro g hg
  conv => whnf
  have l0 := PH.Le.set (.cells #[Value.slice x.tA x.tr.length x.tc, Value.slice x.kA x.kp.length x.kc] 34 (0, 0)) hg
  refine ACall.step (concat_ret g _ _ x.tA x.kA x.tc x.kc x.tr x.kp _ (PH.set_same _ _ _) (hi.t.mono l0) (hi.k.mono l0) hn hn') fun v M1 hh => ?_
  obtain ⟨o, A, c, rfl, hN⟩ := hh
  conv => whnf
  exact ⟨_, PH.Le.refl _, o, A, c, rfl, hN.from l0⟩
theorem l8All_ret (t : TypeId) (x : StA) (M : PH) (hi : x.inn M) (hn : x.tr.length ≤ 1048576) (hn' : x.kp.length ≤ 1048576) :
    XCall env 102 [.bp 0 0] [⟨t, [.v (I x.b), .v (I x.g), .v (.slice x.tA x.tr.length x.tc), .v (.slice x.kA x.kp.length x.kc)]⟩] M fun r b M' => (∃ o A c, r = .slice A (x.tr ++ x.kp).length c ∧ New M M' o A c 13 EnA.cs (x.tr ++ x.kp)) ∧ b = [⟨t, [.v (I x.b), .v (I x.g), .v (.slice x.tA x.tr.length x.tc), .v (.slice x.kA x.kp.length x.kc)]⟩] := by
  refine xcall_of_vc Tryz.func102 rfl _ Tryz.ntmps102 _ rfl (fun _ _ => Tryz.call102 _ _) rfl (fun w0 ρ0 => ?_)
  conv => whnf
  repeat' (first | (refine ⟨⟨[], rfl⟩, _, PH.Le.refl _, bot_le _, ?_⟩; conv => whnf) | (refine ⟨⟨_, rfl⟩, _, PH.Le.refl _, bot_le _, ?_⟩; conv => whnf) | (refine caseB_true ?_; conv => whnf) | (refine caseB_false ?_; conv => whnf) | ((with_reducible refine caseB_dec (fun h => ?_) (fun h => ?_)) <;> conv => whnf) | ((with_reducible refine caseB_ndec (fun h => ?_) (fun h => ?_)) <;> conv => whnf) | ((with_reducible refine caseB_not (fun h => ?_) (fun h => ?_)) <;> conv => whnf) | (refine draw_ruleJ (none) (.light 1 <| .light 2 <| .light 3 <| .light 4 <| .light 6 <| .light 7 <| .light 8 <| .light 9 <| .alt 0 false (.alt 5 false (.alt 10 false (.light 11 <| .done) .nil) .nil) .nil) (by decide +kernel) (bot_le _) ?_; conv => whnf) | (with_reducible refine @And.intro (guardVC _ _ _ _ _) _ ?_ ?_) <;> conv => whnf | (refine caseB_intro (fun h => ?_) (fun h => ?_) <;> (try simp only [Bool.not_eq_true', Bool.not_eq_false', decide_eq_true_eq, decide_eq_false_iff_not] at h) <;> conv => whnf))
  intro g hg
  conv => whnf
  refine ⟨⟨_, rfl⟩, _, PH.Le.refl _, bot_le _, ?_⟩
  conv => whnf
  have l0 := PH.Le.set (.cells (#[] : Array Value) 44 (0, 0)) hg
  have hN : New M (M.set g (.cells (#[] : Array Value) 44 (0, 0))) none (some ⟨g, 0, none⟩) 0 13 EnA.cs [] := ⟨Ow.nil, l0, fun g e => nomatch e⟩
  refine app_sl (te := ti44) (f := EnA.cs) (xs := []) (ys := x.tr) (o := none) (hi.t.sl.mono hN.le) hN.ow EnA.len EnA.one rfl (en_fits _ _ (by show 0 + _ ≤ _; omega)) (by show 0 + _ ≤ _; omega) fun o1 A1 c1 M2 hO hK hF => ?_
  have hN1 := hN.more (PH.Le.refl _) hK hO hF
  refine ⟨⟨_, rfl⟩, _, PH.Le.refl _, bot_le _, ?_⟩
  conv => whnf
  refine app_sl (te := ti44) (f := EnA.cs) (xs := x.tr) (ys := x.kp) (o := o1) (hi.k.sl.mono hN1.le) hN1.ow EnA.len EnA.one rfl (en_fits _ _ (by omega)) (by omega) fun o2 A2 c2 M3 hO2 hK2 hF2 => ?_
  have hN2 := hN1.more (PH.Le.refl _) hK2 hO2 hF2
  refine ⟨⟨_, rfl⟩, _, PH.Le.refl _, bot_le _, ?_⟩
  conv => whnf
  exact ⟨_, PH.Le.refl _, ⟨o2, A2, c2, rfl, hN2⟩, rfl⟩
end Go.Proofs.YtgjaiabenjafeaaGreatDoor
