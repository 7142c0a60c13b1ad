/-
  CONTRACTS: what entries cost.
-/
import Derived.Test.YtgjaiabenjafeaaGreatDoorBc
import Derived.Test.YtgjaiabenjafeaaGreatDoorOd
namespace Go.Proofs.YtgjaiabenjafeaaGreatDoor
set_option maxRecDepth 100000
set_option linter.unusedSimpArgs false
set_option linter.unusedVariables false
open Go.Xe
def RetE (f : FuncId) (args : List AV) (M : PH) (v : Value) : Prop := XCall env f args [] M fun r b M' => r = v ∧ b = [] ∧ M' = M
theorem RetE.go {f : FuncId} {args : List AV} {bx : List Box} {M : PH} {v : Value} {K : Value → List Box → PH → Prop} (h : RetE f args M v) (ha : args.map (ren []) = args) (hk : K v bx M) : XCall env f args bx M K := XCall.go0 h ha hk
theorem cells_sub {M : PH} {A : Option Addr} {o : Nat} {cs : List Value} (h : M.cells A o cs) (i n : Nat) : M.cells A (o + i) ((cs.drop i).take n) := by
  obtain ⟨a, ha, hc⟩ := h
  refine ⟨a, ha, fun j x hx => ?_⟩
  rw [List.getElem?_take] at hx
  split at hx
  · rw [List.getElem?_drop] at hx
    rw [Nat.add_assoc]
    exact hc _ _ hx
  · cases hx
/-- What an entry costs. -/
def eCost (e : En) : Nat := 50 + (e.key.size + (pack e.hs).size + e.body.length)
theorem pack_size (ws : List Hd) : (pack ws).size ≤ 4 * costL Hd.cost ws := by
  rw [size_list]
  exact packL_len ws
theorem eCost_le {e : En} (h : e.cost ≤ 2097152) : (pack e.hs).size ≤ 8388608 ∧ e.key.size ≤ 2097152 ∧ e.body.length ≤ 2097152 ∧ costL Hd.cost e.hs ≤ 2097152 := by
  unfold En.cost at h
  have := pack_size e.hs
  omega
theorem eCost_wrap {e : En} (h : e.cost ≤ 2097152) : IntKind.i64.wrap (50 + IntKind.i64.wrap (IntKind.i64.wrap ((e.key.size : Int) + ((pack e.hs).size : Int)) + (e.body.length : Int))) = (eCost e : Int) := by
  obtain ⟨h1, h2, h3, _⟩ := eCost_le h
  rw [wrap_id (n := (e.key.size : Int) + ((pack e.hs).size : Int)) (by omega) (by omega), wrap_id (n := (e.key.size : Int) + ((pack e.hs).size : Int) + (e.body.length : Int)) (by omega) (by omega), wrap_id (by omega) (by omega)]
  unfold eCost
  omega
theorem cost_impl (x : EnA) (M : PH) (hi : x.inn M) (hco : x.c.cost ≤ 2097152) : Ret 109 [x.val] M (I (eCost x.c)) := by
  have h0 := eCost_wrap hco
  obtain ⟨h1, h2, h3, h4⟩ := eCost_le hco
  refine xcall_of_vc Tryz.func109 rfl _ Tryz.ntmps109 _ rfl (fun _ _ => Tryz.call109 _ _) rfl (fun w0 ρ0 => ?_)
  conv => whnf
  repeat' (first | (refine ⟨⟨[], rfl⟩, _, PH.Le.refl _, PH.Le.refl _, ?_⟩; conv => whnf) | (refine caseB_true ?_; conv => whnf) | (refine caseB_false ?_; conv => whnf) | ((with_reducible refine caseB_dec (fun h => ?_) (fun h => ?_)) <;> conv => whnf) | ((with_reducible refine caseB_ndec (fun h => ?_) (fun h => ?_)) <;> conv => whnf) | ((with_reducible refine caseB_not (fun h => ?_) (fun h => ?_)) <;> conv => whnf) | (refine Ret.go (headersText_ret x.hA x.hc x.c.hs _ hi.h (by omega)) ?_; conv => whnf) | (refine draw_rule (.light 0 <| .light 1 <| .light 2 <| .light 3 <| .light 4 <| .light 8 <| .light 9 <| .light 10 <| .alt 5 false (.light 6 <| .light 7 <| .light 11 <| .light 12 <| .light 13 <| .done) .nil) (by decide +kernel) ?_; conv => whnf) | (with_reducible refine @And.intro (guardVC _ _ _ _ _) _ ?_ ?_) <;> conv => whnf | (refine caseB_intro (fun h => ?_) (fun h => ?_) <;> (try simp only [Bool.not_eq_true', Bool.not_eq_false', decide_eq_true_eq, decide_eq_false_iff_not] at h) <;> conv => whnf))
  all_goals exact ⟨_, PH.Le.refl _, by rw [← h0]; rfl, rfl⟩
theorem l8Cost_el (A : Option Addr) (o : Nat) (x : EnA) (M : PH) (hA : M.cells A o x.cs) (hi : x.inn M) (hco : x.c.cost ≤ 2097152) : RetE 153 [.el A o] M (I (eCost x.c)) := by
  have h0 := eCost_wrap hco
  obtain ⟨h1, h2, h3, h4⟩ := eCost_le hco
  have a0 : M.cells A (o + 0) [Tx x.c.key] := cells_sub hA 0 1
  have a2 : M.cells A (o + 2) [.slice x.hA x.c.hs.length x.hc] := cells_sub hA 2 1
  have a3 : M.cells A (o + 3) [.slice x.bA x.c.body.length x.bc] := cells_sub hA 3 1
  refine xcall_of_vc Tryz.func153 rfl _ Tryz.ntmps153 _ rfl (fun _ _ => Tryz.call153 _ _) rfl (fun w0 ρ0 => ?_)
  conv => whnf
  repeat' (first | (refine ⟨⟨[], rfl⟩, _, PH.Le.refl _, PH.Le.refl _, ?_⟩; conv => whnf) | (refine ⟨_, a3, ?_⟩; conv => whnf) | (refine ⟨_, a2, ?_⟩; conv => whnf) | (refine ⟨_, a0, ?_⟩; conv => whnf) | (refine caseB_true ?_; conv => whnf) | (refine caseB_false ?_; conv => whnf) | ((with_reducible refine caseB_dec (fun h => ?_) (fun h => ?_)) <;> conv => whnf) | ((with_reducible refine caseB_ndec (fun h => ?_) (fun h => ?_)) <;> conv => whnf) | ((with_reducible refine caseB_not (fun h => ?_) (fun h => ?_)) <;> conv => whnf) | (refine Ret.go (l4Pack_ret x.hA x.hc x.c.hs _ hi.h (by omega)) ?_; conv => whnf) | (refine draw_rule (.light 0 <| .light 1 <| .light 2 <| .light 3 <| .light 4 <| .light 5 <| .light 6 <| .light 7 <| .light 8 <| .light 12 <| .light 13 <| .light 14 <| .light 15 <| .light 16 <| .alt 9 false (.light 10 <| .light 11 <| .light 17 <| .light 18 <| .light 19 <| .done) .nil) (by decide +kernel) ?_; conv => whnf) | (with_reducible refine @And.intro (guardVC _ _ _ _ _) _ ?_ ?_) <;> conv => whnf | (refine caseB_intro (fun h => ?_) (fun h => ?_) <;> (try simp only [Bool.not_eq_true', Bool.not_eq_false', decide_eq_true_eq, decide_eq_false_iff_not] at h) <;> conv => whnf))
  all_goals exact ⟨_, PH.Le.refl _, by rw [← h0]; rfl, rfl, rfl⟩
theorem l8Cost_box (t : TypeId) (x : EnA) (M : PH) (hi : x.inn M) (hco : x.c.cost ≤ 2097152) : RetP 153 ⟨t, x.cs.map .v⟩ [] M (I (eCost x.c)) := by
  have h0 := eCost_wrap hco
  obtain ⟨h1, h2, h3, h4⟩ := eCost_le hco
  refine xcall_of_vc Tryz.func153 rfl _ Tryz.ntmps153 _ rfl (fun _ _ => Tryz.call153 _ _) rfl (fun w0 ρ0 => ?_)
  conv => whnf
  repeat' (first | (refine ⟨⟨[], rfl⟩, _, PH.Le.refl _, PH.Le.refl _, ?_⟩; conv => whnf) | (refine caseB_true ?_; conv => whnf) | (refine caseB_false ?_; conv => whnf) | ((with_reducible refine caseB_dec (fun h => ?_) (fun h => ?_)) <;> conv => whnf) | ((with_reducible refine caseB_ndec (fun h => ?_) (fun h => ?_)) <;> conv => whnf) | ((with_reducible refine caseB_not (fun h => ?_) (fun h => ?_)) <;> conv => whnf) | (refine Ret.go (l4Pack_ret x.hA x.hc x.c.hs _ hi.h (by omega)) ?_; conv => whnf) | (refine draw_rule (.light 0 <| .light 1 <| .light 2 <| .light 3 <| .light 4 <| .light 5 <| .light 6 <| .light 7 <| .light 8 <| .light 12 <| .light 13 <| .light 14 <| .light 15 <| .light 16 <| .alt 9 false (.light 10 <| .light 11 <| .light 17 <| .light 18 <| .light 19 <| .done) .nil) (by decide +kernel) ?_; conv => whnf) | (with_reducible refine @And.intro (guardVC _ _ _ _ _) _ ?_ ?_) <;> conv => whnf | (refine caseB_intro (fun h => ?_) (fun h => ?_) <;> (try simp only [Bool.not_eq_true', Bool.not_eq_false', decide_eq_true_eq, decide_eq_false_iff_not] at h) <;> conv => whnf))
  all_goals exact ⟨_, PH.Le.refl _, by rw [← h0]; rfl, rfl, rfl⟩
end Go.Proofs.YtgjaiabenjafeaaGreatDoor
