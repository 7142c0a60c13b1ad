/-
  CONTRACTS: who waits no more: two slices are filled side by side.
-/
import Derived.Test.YtpiakjcmbnfdlaaLs
import Derived.Test.YtpiakjcmbnfdlaaLi
namespace Go.Proofs.Ytpiakjcmbnfdlaa
set_option maxRecDepth 100000
set_option linter.unusedSimpArgs false
set_option linter.unusedVariables false
open Go.Xe
theorem in_len (x : Int) : (inC x).length = 1 := rfl
theorem in_one (x : Int) : ∀ v ∈ inC x, v.oneCell' = true := by intro v hv; simp at hv; subst hv; rfl
abbrev marksI (k : Int) (n : Nat) : List Int := marksL (fun x => x) 1 k n
theorem markInt64S_ret (o : Option Nat) (A : Option Addr) (c : Nat) (ws : List Int) (k : Int) (M : PH) (h : Ow M o A c 1 inC ws) (hn : ws.length ≤ 4294967296) (hk : 0 ≤ k ∧ k ≤ 1000000000000) :
    ACall env 98 [.slice A ws.length c, I k] M fun r M' => r = I (k + ws.length) ∧ Ow M' o A c 1 inC (marksI k ws.length) ∧ Keeps o M M' := by
  refine xcall_of_vc Try.func98 rfl _ Try.ntmps98 _ rfl (fun _ _ => Try.call98 _ _) rfl (fun w0 ρ0 => ?_)
  conv => whnf
  refine loop_rule (fun i : Nat => ⟨slots 19 [(0, .v (.slice A ws.length c)), (1, .v (I (k + 1 * i))), (5, .v (I i))], []⟩) (fun i M' => i ≤ ws.length ∧ Ow M' o A c 1 inC (markT (fun x => x) 1 k ws i) ∧ Keeps o M M') (fun i => ws.length - i) 0 ?_ ?_ ?_
  · exact ⟨by simp [slots, leT], ⟨[], rfl⟩, Nat.zero_le _, rfl, rfl⟩
  · exact ⟨Nat.zero_le _, by rw [markT_zero]; exact h, Keeps.refl M⟩
  · rintro i M1 ⟨hi, h1, k1⟩
    conv => whnf
    repeat' (first | (refine ⟨⟨[], rfl⟩, _, PH.Le.refl _, PH.Le.refl _, ?_⟩; conv => whnf) | (refine caseB_true ?_; conv => whnf) | (refine caseB_false ?_; conv => whnf) | ((with_reducible refine caseB_dec (fun h => ?_) (fun h => ?_)) <;> conv => whnf) | ((with_reducible refine caseB_ndec (fun h => ?_) (fun h => ?_)) <;> conv => whnf) | ((with_reducible refine caseB_not (fun h => ?_) (fun h => ?_)) <;> conv => whnf) | (with_reducible refine @And.intro (guardVC _ _ _ _ _) _ ?_ ?_) <;> conv => whnf | (refine caseB_intro (fun h => ?_) (fun h => ?_) <;> (try simp only [Bool.not_eq_true', Bool.not_eq_false', decide_eq_true_eq, decide_eq_false_iff_not] at h) <;> conv => whnf))
    · have hi' : i < ws.length := by omega
      have hl1 := markT_length (fun x : Int => x) 1 k ws hi
      have hw : IntKind.i64.wrap ((i : Int) + 1) = (i : Int) + 1 := wr_id (by omega) (by omega)
      have hw1 : IntKind.i64.wrap (k + 1 * i + 1) = k + 1 * (i + 1) := by rw [wrap_id (by omega) (by omega)]; omega
      have hA := ((h1.sl in_len).get (i := i) (by omega)).1
      refine ⟨by omega, by omega, hA, ?_⟩
      conv => whnf
      refine own_store (i := i) (j := 0) h1 in_len (by omega) (by simp) (k + 1 * i) rfl fun M2 h2 k2 => ?_
      conv => whnf
      rw [markT_set (fun x => x) 1 k ws hi'] at h2
      exact ⟨i + 1, ⟨by simp [slots, leT, hw]; rw [← Int.one_mul ((i : Int))] at *; simpa using hw1, ⟨[], rfl⟩, Nat.zero_le _, rfl, rfl⟩, ⟨by omega, h2, k1.trans k2⟩, by omega⟩
    · have hi' : i = ws.length := by omega
      subst hi'
      rw [markT_all] at h1
      exact ⟨_, PH.Le.refl _, by rw [Int.one_mul]; rfl, h1, k1⟩
theorem heldInt64S_ret (A : Option Addr) (c n : Nat) (k : Int) (M : PH) (hM : Sl M A 1 inC (marksI k n)) (hn : n ≤ 4294967296) (hk : 0 ≤ k ∧ k ≤ 1000000000000) :
    Ret 99 [.slice A n c, I k] M (I (k + n)) := by
  refine xcall_of_vc Try.func99 rfl _ Try.ntmps99 _ rfl (fun _ _ => Try.call99 _ _) rfl (fun w0 ρ0 => ?_)
  conv => whnf
  refine loop_rule (fun i : Nat => ⟨slots 21 [(0, .v (.slice A n c)), (1, .v (I (k + i))), (4, .v (I 0)), (5, .v (I i))], []⟩) (fun i M' => i ≤ n ∧ M' = M) (fun i => n - i) 0 ?_ ?_ ?_
  · exact ⟨by simp [slots, leT], ⟨[], rfl⟩, Nat.zero_le _, rfl, rfl⟩
  · exact ⟨Nat.zero_le _, rfl⟩
  · rintro i M' ⟨hi, rfl⟩
    conv => whnf
    repeat' (first | (refine ⟨⟨[], rfl⟩, _, PH.Le.refl _, PH.Le.refl _, ?_⟩; conv => whnf) | (refine caseB_true ?_; conv => whnf) | (refine caseB_false ?_; conv => whnf) | ((with_reducible refine caseB_dec (fun h => ?_) (fun h => ?_)) <;> conv => whnf) | ((with_reducible refine caseB_ndec (fun h => ?_) (fun h => ?_)) <;> conv => whnf) | ((with_reducible refine caseB_not (fun h => ?_) (fun h => ?_)) <;> conv => whnf) | (with_reducible refine @And.intro (guardVC _ _ _ _ _) _ ?_ ?_) <;> conv => whnf | (refine caseB_intro (fun h => ?_) (fun h => ?_) <;> (try simp only [Bool.not_eq_true', Bool.not_eq_false', decide_eq_true_eq, decide_eq_false_iff_not] at h) <;> conv => whnf))
    · have hi' : i < n := by omega
      have hl : (marksI k n).length = n := marksL_length (fun x => x) 1 k n
      have hw : IntKind.i64.wrap ((i : Int) + 1) = (i : Int) + 1 := wr_id (by omega) (by omega)
      have hw1 : IntKind.i64.wrap (k + i + 1) = k + (i + 1) := by rw [wrap_id (by omega) (by omega)]; omega
      obtain ⟨hA, _, hc⟩ := hM.get (i := i) (by omega)
      rw [marksL_get, Int.one_mul] at hc
      repeat' (first | (refine ⟨⟨[], rfl⟩, _, PH.Le.refl _, PH.Le.refl _, ?_⟩; conv => whnf) | (refine ⟨_, hc, ?_⟩; conv => whnf) | (refine ⟨by omega, by omega, hA, ?_⟩; conv => whnf) | (refine caseB_true ?_; conv => whnf) | (refine caseB_false ?_; conv => whnf) | ((with_reducible refine caseB_dec (fun h => ?_) (fun h => ?_)) <;> conv => whnf) | ((with_reducible refine caseB_ndec (fun h => ?_) (fun h => ?_)) <;> conv => whnf) | ((with_reducible refine caseB_not (fun h => ?_) (fun h => ?_)) <;> conv => whnf) | (with_reducible refine @And.intro (guardVC _ _ _ _ _) _ ?_ ?_) <;> conv => whnf | (refine caseB_intro (fun h => ?_) (fun h => ?_) <;> (try simp only [Bool.not_eq_true', Bool.not_eq_false', decide_eq_true_eq, decide_eq_false_iff_not] at h) <;> conv => whnf))
      all_goals first | (exfalso; exact h rfl) | exact ⟨i + 1, ⟨by simp [slots, leT, hw, hw1], ⟨[], rfl⟩, Nat.zero_le _, rfl, rfl⟩, ⟨by omega, rfl⟩, by omega⟩
    · have hi' : i = n := by omega
      subst hi'
      exact ⟨_, PH.Le.refl _, rfl, rfl⟩
theorem eqInt64S_ret (A A' : Option Addr) (c c' : Nat) (ws : List Int) (M : PH) (hs : Sl M A 1 inC ws) (hs' : Sl M A' 1 inC ws) (hn : ws.length ≤ 1048576) :
    Ret 97 [.slice A ws.length c, .slice A' ws.length c'] M (B true) := by
  refine xcall_of_vc Try.func97 rfl _ Try.ntmps97 _ rfl (fun _ _ => Try.call97 _ _) rfl (fun w0 ρ0 => ?_)
  conv => whnf
  repeat' (first | (refine ⟨⟨[], rfl⟩, _, PH.Le.refl _, PH.Le.refl _, ?_⟩; conv => whnf) | (refine caseB_true ?_; conv => whnf) | (refine caseB_false ?_; conv => whnf) | ((with_reducible refine caseB_dec (fun h => ?_) (fun h => ?_)) <;> conv => whnf) | ((with_reducible refine caseB_ndec (fun h => ?_) (fun h => ?_)) <;> conv => whnf) | ((with_reducible refine caseB_not (fun h => ?_) (fun h => ?_)) <;> conv => whnf) | (with_reducible refine @And.intro (guardVC _ _ _ _ _) _ ?_ ?_) <;> conv => whnf | (refine caseB_intro (fun h => ?_) (fun h => ?_) <;> (try simp only [Bool.not_eq_true', Bool.not_eq_false', decide_eq_true_eq, decide_eq_false_iff_not] at h) <;> conv => whnf))
  · exact absurd rfl ‹_›
  refine loop_rule (fun i : Nat => ⟨slots 26 [(0, .v (.slice A ws.length c)), (1, .v (.slice A' ws.length c')), (4, .v (B false)), (5, .v (I i))], []⟩) (fun i M' => i ≤ ws.length ∧ M' = M) (fun i => ws.length - i) 0 ?_ ?_ ?_
  · exact ⟨by simp [slots, leT], ⟨[], rfl⟩, Nat.zero_le _, rfl, rfl⟩
  · exact ⟨Nat.zero_le _, rfl⟩
  · rintro i M' ⟨hi, rfl⟩
    conv => whnf
    repeat' (first | (refine ⟨⟨[], rfl⟩, _, PH.Le.refl _, PH.Le.refl _, ?_⟩; conv => whnf) | (refine caseB_true ?_; conv => whnf) | (refine caseB_false ?_; conv => whnf) | ((with_reducible refine caseB_dec (fun h => ?_) (fun h => ?_)) <;> conv => whnf) | ((with_reducible refine caseB_ndec (fun h => ?_) (fun h => ?_)) <;> conv => whnf) | ((with_reducible refine caseB_not (fun h => ?_) (fun h => ?_)) <;> conv => whnf) | (with_reducible refine @And.intro (guardVC _ _ _ _ _) _ ?_ ?_) <;> conv => whnf | (refine caseB_intro (fun h => ?_) (fun h => ?_) <;> (try simp only [Bool.not_eq_true', Bool.not_eq_false', decide_eq_true_eq, decide_eq_false_iff_not] at h) <;> conv => whnf))
    · have hi' : i < ws.length := by omega
      have hw : IntKind.i64.wrap ((i : Int) + 1) = (i : Int) + 1 := wr_id (by omega) (by omega)
      obtain ⟨hA, _, hc⟩ := hs.get hi'
      obtain ⟨hA', _, hc'⟩ := hs'.get hi'
      repeat' (first | (refine ⟨⟨[], rfl⟩, _, PH.Le.refl _, PH.Le.refl _, ?_⟩; conv => whnf) | (refine ⟨_, hc', ?_⟩; conv => whnf) | (refine ⟨_, hc, ?_⟩; conv => whnf) | (refine ⟨by omega, by omega, hA', ?_⟩; conv => whnf) | (refine ⟨by omega, by omega, hA, ?_⟩; conv => whnf) | (refine caseB_true ?_; conv => whnf) | (refine caseB_false ?_; conv => whnf) | ((with_reducible refine caseB_dec (fun h => ?_) (fun h => ?_)) <;> conv => whnf) | ((with_reducible refine caseB_ndec (fun h => ?_) (fun h => ?_)) <;> conv => whnf) | ((with_reducible refine caseB_not (fun h => ?_) (fun h => ?_)) <;> conv => whnf) | (refine draw_rule (.light 0 <| .light 1 <| .light 2 <| .light 3 <| .light 4 <| .light 5 <| .light 6 <| .light 7 <| .light 8 <| .done) (by decide +kernel) ?_; conv => whnf) | (with_reducible refine @And.intro (guardVC _ _ _ _ _) _ ?_ ?_) <;> conv => whnf | (refine caseB_intro (fun h => ?_) (fun h => ?_) <;> (try simp only [Bool.not_eq_true', Bool.not_eq_false', decide_eq_true_eq, decide_eq_false_iff_not] at h) <;> conv => whnf))
      all_goals first | (exfalso; exact h rfl) | exact ⟨i + 1, ⟨by simp [slots, leT, hw], ⟨[], rfl⟩, Nat.zero_le _, rfl, rfl⟩, ⟨by omega, rfl⟩, by omega⟩
    · exact ⟨_, PH.Le.refl _, rfl, rfl⟩
def goneW (p : Wt → Bool) (ws : List Wt) : List Int := (ws.filter p).map (·.a)
def leftW (p : Wt → Bool) (ws : List Wt) : List Wt := ws.filter fun w => !p w
theorem goneW_len (p : Wt → Bool) (ws : List Wt) : (goneW p ws).length ≤ ws.length := by unfold goneW; rw [List.length_map]; exact List.length_filter_le _ _
theorem leftW_len (p : Wt → Bool) (ws : List Wt) : (leftW p ws).length ≤ ws.length := List.length_filter_le _ _
theorem goneW_yes {p : Wt → Bool} {ws : List Wt} {i : Nat} (hi : i < ws.length) (h : p ws[i] = true) : goneW p (ws.take (i + 1)) = goneW p (ws.take i) ++ [ws[i].a] ∧ leftW p (ws.take (i + 1)) = leftW p (ws.take i) := by
  unfold goneW leftW
  rw [List.take_succ_eq_append_getElem hi, List.filter_append, List.filter_append, List.map_append]
  generalize ws[i] = w at h
  simp [h]
theorem goneW_no {p : Wt → Bool} {ws : List Wt} {i : Nat} (hi : i < ws.length) (h : p ws[i] = false) : goneW p (ws.take (i + 1)) = goneW p (ws.take i) ∧ leftW p (ws.take (i + 1)) = leftW p (ws.take i) ++ [ws[i]] := by
  unfold goneW leftW
  rw [List.take_succ_eq_append_getElem hi, List.filter_append, List.filter_append, List.map_append]
  generalize ws[i] = w at h
  simp [h]
theorem in_fits (xs : List Int) (x : Int) (hn : xs.length ≤ 1048576) : (xs.length + [x].length) * ti2.bytes ≤ 140737488355328 := by
  unfold ti2
  simp
  omega
abbrev G2 := Nat × (Option Nat × Option Addr × Nat) × (Option Nat × Option Addr × Nat)
theorem stop_ret (g : FuncId) (p : Wt → Bool) (ty : TypeId) (x0 : Value) (k : Int) (A : Option Addr) (c : Nat) (ws : List Wt) (M : PH) (hs : Sl M A 2 Wt.cs ws) (hn : ws.length ≤ 1048576)
    (hg : ∀ w M, XCall env g [.v w.v, .bp 0 0] [⟨ty, [.v x0]⟩] M fun r b M' => r = B (p w) ∧ b = [⟨ty, [.v x0]⟩] ∧ M' = M) :
    XCall env 95 [.bp 0 0, .fn g [1]] [bulkB k A ws.length c, ⟨ty, [.v x0]⟩] M fun r b M' => ∃ o1 A1 c1 o2 A2 c2, r = .slice A1 (goneW p ws).length c1 ∧ b = [bulkB k A2 (leftW p ws).length c2, ⟨ty, [.v x0]⟩] ∧ Two M M' o1 A1 c1 1 inC (goneW p ws) o2 A2 c2 2 Wt.cs (leftW p ws) := by
  refine xcall_of_vc Try.func95 rfl _ Try.ntmps95 _ rfl (fun _ _ => Try.call95 _ _) rfl (fun w0 ρ0 => ?_)
  conv => whnf
  intro g1 hg1
  conv => whnf
  intro g2 hg2
  conv => whnf
  have l0 := (PH.Le.set (.cells (#[] : Array Value) 2 (0, 0)) hg1).trans (PH.Le.set (.cells (#[] : Array Value) 67 (0, 0)) hg2)
  refine loop_rule (fun z : G2 => ⟨slots 38 [(0, .bp 0 0), (1, .fn g [1]), (5, .v (.slice z.2.1.2.1 (goneW p (ws.take z.1)).length z.2.1.2.2)), (6, .v (.slice z.2.2.2.1 (leftW p (ws.take z.1)).length z.2.2.2.2)), (14, .v (.slice A ws.length c)), (15, .v (I ws.length)), (16, .v (I z.1))], [bulkB k A ws.length c, ⟨ty, [.v x0]⟩]⟩)
    (fun z M' => z.1 ≤ ws.length ∧ Two M M' z.2.1.1 z.2.1.2.1 z.2.1.2.2 1 inC (goneW p (ws.take z.1)) z.2.2.1 z.2.2.2.1 z.2.2.2.2 2 Wt.cs (leftW p (ws.take z.1))) (fun z => ws.length - z.1) (0, (none, some ⟨g1, 0, none⟩, 0), (none, some ⟨g2, 0, none⟩, 0)) ?_ ?_ ?_
  · exact ⟨by simp [slots, leT, goneW, leftW], ⟨[], rfl⟩, Nat.le_refl _, rfl, rfl⟩
  · exact ⟨Nat.zero_le _, Two.nil l0⟩
  rintro ⟨i, ⟨o1, A1, c1⟩, ⟨o2, A2, c2⟩⟩ M1 ⟨hi, hT⟩
  have hi : i ≤ ws.length := hi
  have hT : Two M M1 o1 A1 c1 1 inC (goneW p (ws.take i)) o2 A2 c2 2 Wt.cs (leftW p (ws.take i)) := hT
  have hlt : (ws.take i).length ≤ ws.length := by simp; omega
  have hl1 := Nat.le_trans (goneW_len p (ws.take i)) hlt
  have hl2 := Nat.le_trans (leftW_len p (ws.take i)) hlt
  conv => whnf
  repeat' (first | (refine ⟨⟨[], rfl⟩, _, PH.Le.refl _, PH.Le.refl _, ?_⟩; conv => whnf) | (refine caseB_true ?_; conv => whnf) | (refine caseB_false ?_; conv => whnf) | ((with_reducible refine caseB_dec (fun h => ?_) (fun h => ?_)) <;> conv => whnf) | ((with_reducible refine caseB_ndec (fun h => ?_) (fun h => ?_)) <;> conv => whnf) | ((with_reducible refine caseB_not (fun h => ?_) (fun h => ?_)) <;> conv => whnf) | (with_reducible refine @And.intro (guardVC _ _ _ _ _) _ ?_ ?_) <;> conv => whnf | (refine caseB_intro (fun h => ?_) (fun h => ?_) <;> (try simp only [Bool.not_eq_true', Bool.not_eq_false', decide_eq_true_eq, decide_eq_false_iff_not] at h) <;> conv => whnf))
  · have hi' : i < ws.length := by omega
    have hw : IntKind.i64.wrap ((i : Int) + 1) = (i : Int) + 1 := wr_id (by omega) (by omega)
    obtain ⟨hA, _, hc⟩ := (hs.mono hT.a.le).get hi'
    refine ⟨by omega, by omega, hA, ?_⟩
    conv => whnf
    refine ⟨ws[i].cs, hc, rfl, ?_⟩
    conv => whnf
    refine XCall.lift (hg ws[i] M1) [1] (by simp [ren]) (by simp) (by simp) (by simp [AV.plain]) ?_
    rintro r b M2 ⟨rfl, rfl, rfl⟩
    refine ⟨by simp [AV.plain], ?_⟩
    conv => whnf
    refine caseB_intro (fun hx => ?_) (fun hx => ?_)
    · obtain ⟨e1, e2⟩ := goneW_yes hi' hx
      conv => whnf
      intro g0 hg0
      conv => whnf
      have l1 := PH.Le.set (.cells ([ws[i].a].flatMap inC).toArray 2 (0, 0)) hg0
      have hS := sl_full in_len M2 g0 [ws[i].a] 2 (0, 0)
      refine app_sl (te := ti2) (f := inC) (xs := goneW p (ws.take i)) (ys := [ws[i].a]) (o := o1) hS (hT.a.ow.mono l1) in_len in_one rfl (in_fits _ _ (by omega)) (by simp; omega) fun o' A' c' M' hO hK hF => ?_
      conv => whnf
      exact ⟨(i + 1, (o', A', c'), (o2, A2, c2)), ⟨by simp [slots, leT, hw, e1, e2], ⟨_, rfl⟩, Nat.le_refl _, rfl, rfl⟩, ⟨hi', by show Two _ _ _ _ _ _ _ _ _ _ _ _ _ _; rw [e1, e2]; exact hT.more l1 hK hO hF⟩, by show _ - (i + 1) < _ - i; omega⟩
    · obtain ⟨e1, e2⟩ := goneW_no hi' hx
      conv => whnf
      intro g0 hg0
      conv => whnf
      have l1 := PH.Le.set (.cells ([ws[i]].flatMap Wt.cs).toArray 67 (0, 0)) hg0
      have hS := sl_full Wt.len M2 g0 [ws[i]] 67 (0, 0)
      refine app_sl (te := ti67) (f := Wt.cs) (xs := leftW p (ws.take i)) (ys := [ws[i]]) (o := o2) hS (hT.b.ow.mono l1) Wt.len Wt.one rfl (wt_fits1 _ _ (by omega)) (by simp; omega) fun o' A' c' M' hO hK hF => ?_
      conv => whnf
      exact ⟨(i + 1, (o1, A1, c1), (o', A', c')), ⟨by simp [slots, leT, hw, e1, e2], ⟨_, rfl⟩, Nat.le_refl _, rfl, rfl⟩, ⟨hi', by show Two _ _ _ _ _ _ _ _ _ _ _ _ _ _; rw [e1, e2]; exact (hT.symm.more l1 hK hO hF).symm⟩, by show _ - (i + 1) < _ - i; omega⟩
  · have hi' : i = ws.length := by omega
    subst hi'
    rw [List.take_length] at hT
    exact ⟨_, PH.Le.refl _, o1, A1, c1, o2, A2, c2, by rw [List.take_length]; rfl, by rw [List.take_length]; rfl, hT⟩
theorem l11Expire_ret (t : Int) (k : Int) (A : Option Addr) (c : Nat) (ws : List Wt) (M : PH) (hs : Sl M A 2 Wt.cs ws) (hn : ws.length ≤ 1048576) (p : Wt → Bool) (hp : ∀ w : Wt, p w = decide (w.b ≤ t)) :
    XCall env 94 [.bp 0 0, .v (I t)] [bulkB k A ws.length c] M fun r b M' => ∃ o1 A1 c1 o2 A2 c2, r = .slice A1 (goneW p ws).length c1 ∧ b = [bulkB k A2 (leftW p ws).length c2] ∧ Two M M' o1 A1 c1 1 inC (goneW p ws) o2 A2 c2 2 Wt.cs (leftW p ws) := by
  refine xcall_of_vc Try.func94 rfl _ Try.ntmps94 _ rfl (fun _ _ => Try.call94 _ _) rfl (fun w0 ρ0 => ?_)
  conv => whnf
  intro g2 hg2
  conv => whnf
  intro g1 hg1
  conv => whnf
  have l0 := (PH.Le.set (.cells (#[] : Array Value) 67 (0, 0)) hg2).trans (PH.Le.set (.cells (#[] : Array Value) 2 (0, 0)) hg1)
  refine loop_rule (fun z : G2 => ⟨slots 55 [(0, .bp 0 0), (1, .v (I t)), (6, .v (.slice z.2.1.2.1 (goneW p (ws.take z.1)).length z.2.1.2.2)), (5, .v (.slice z.2.2.2.1 (leftW p (ws.take z.1)).length z.2.2.2.2)), (7, .v (I z.1))], [bulkB k A ws.length c]⟩)
    (fun z M' => z.1 ≤ ws.length ∧ Two M M' z.2.1.1 z.2.1.2.1 z.2.1.2.2 1 inC (goneW p (ws.take z.1)) z.2.2.1 z.2.2.2.1 z.2.2.2.2 2 Wt.cs (leftW p (ws.take z.1))) (fun z => ws.length - z.1) (0, (none, some ⟨g1, 0, none⟩, 0), (none, some ⟨g2, 0, none⟩, 0)) ?_ ?_ ?_
  · exact ⟨by simp [slots, leT, goneW, leftW], ⟨[], rfl⟩, Nat.le_refl _, rfl, rfl⟩
  · exact ⟨Nat.zero_le _, Two.nil l0⟩
  rintro ⟨i, ⟨o1, A1, c1⟩, ⟨o2, A2, c2⟩⟩ M1 ⟨hi, hT⟩
  have hi : i ≤ ws.length := hi
  have hT : Two M M1 o1 A1 c1 1 inC (goneW p (ws.take i)) o2 A2 c2 2 Wt.cs (leftW p (ws.take i)) := hT
  have hlt : (ws.take i).length ≤ ws.length := by simp; omega
  have hl1 := Nat.le_trans (goneW_len p (ws.take i)) hlt
  have hl2 := Nat.le_trans (leftW_len p (ws.take i)) hlt
  conv => whnf
  repeat' (first | (refine ⟨⟨[], rfl⟩, _, PH.Le.refl _, PH.Le.refl _, ?_⟩; conv => whnf) | (refine caseB_true ?_; conv => whnf) | (refine caseB_false ?_; conv => whnf) | ((with_reducible refine caseB_dec (fun h => ?_) (fun h => ?_)) <;> conv => whnf) | ((with_reducible refine caseB_ndec (fun h => ?_) (fun h => ?_)) <;> conv => whnf) | ((with_reducible refine caseB_not (fun h => ?_) (fun h => ?_)) <;> conv => whnf) | (with_reducible refine @And.intro (guardVC _ _ _ _ _) _ ?_ ?_) <;> conv => whnf | (refine caseB_intro (fun h => ?_) (fun h => ?_) <;> (try simp only [Bool.not_eq_true', Bool.not_eq_false', decide_eq_true_eq, decide_eq_false_iff_not] at h) <;> conv => whnf))
  · have hi' : i < ws.length := by omega
    have hw : IntKind.i64.wrap ((i : Int) + 1) = (i : Int) + 1 := wr_id (by omega) (by omega)
    obtain ⟨hA, _, hc⟩ := (hs.mono hT.a.le).get hi'
    refine ⟨by omega, by omega, hA, ?_⟩
    conv => whnf
    refine ⟨_, cells_cut hc 1 rfl, ?_⟩
    conv => whnf
    refine caseB_intro (fun hx => ?_) (fun hx => ?_)
    · obtain ⟨e1, e2⟩ := goneW_yes (p := p) hi' (by rw [hp]; exact hx)
      conv => whnf
      refine ⟨by omega, by omega, hA, ?_⟩
      conv => whnf
      refine ⟨_, cells_cut hc 0 rfl, ?_⟩
      conv => whnf
      intro g0 hg0
      conv => whnf
      have l1 := PH.Le.set (.cells ([ws[i].a].flatMap inC).toArray 2 (0, 0)) hg0
      have hS := sl_full in_len M1 g0 [ws[i].a] 2 (0, 0)
      refine app_sl (te := ti2) (f := inC) (xs := goneW p (ws.take i)) (ys := [ws[i].a]) (o := o1) hS (hT.a.ow.mono l1) in_len in_one rfl (in_fits _ _ (by omega)) (by simp; omega) fun o' A' c' M' hO hK hF => ?_
      conv => whnf
      exact ⟨(i + 1, (o', A', c'), (o2, A2, c2)), ⟨by simp [slots, leT, hw, e1, e2], ⟨_, rfl⟩, Nat.le_refl _, rfl, rfl⟩, ⟨hi', by show Two _ _ _ _ _ _ _ _ _ _ _ _ _ _; rw [e1, e2]; exact hT.more l1 hK hO hF⟩, by show _ - (i + 1) < _ - i; omega⟩
    · obtain ⟨e1, e2⟩ := goneW_no (p := p) hi' (by rw [hp]; exact hx)
      conv => whnf
      refine ⟨by omega, by omega, hA, ?_⟩
      conv => whnf
      refine ⟨ws[i].cs, hc, rfl, ?_⟩
      conv => whnf
      intro g0 hg0
      conv => whnf
      have l1 := PH.Le.set (.cells ([ws[i]].flatMap Wt.cs).toArray 67 (0, 0)) hg0
      have hS := sl_full Wt.len M1 g0 [ws[i]] 67 (0, 0)
      refine app_sl (te := ti67) (f := Wt.cs) (xs := leftW p (ws.take i)) (ys := [ws[i]]) (o := o2) hS (hT.b.ow.mono l1) Wt.len Wt.one rfl (wt_fits1 _ _ (by omega)) (by simp; omega) fun o' A' c' M' hO hK hF => ?_
      conv => whnf
      exact ⟨(i + 1, (o1, A1, c1), (o', A', c')), ⟨by simp [slots, leT, hw, e1, e2], ⟨_, rfl⟩, Nat.le_refl _, rfl, rfl⟩, ⟨hi', by show Two _ _ _ _ _ _ _ _ _ _ _ _ _ _; rw [e1, e2]; exact (hT.symm.more l1 hK hO hF).symm⟩, by show _ - (i + 1) < _ - i; omega⟩
  · have hi' : i = ws.length := by omega
    subst hi'
    rw [List.take_length] at hT
    exact ⟨_, PH.Le.refl _, o1, A1, c1, o2, A2, c2, by rw [List.take_length]; rfl, by rw [List.take_length]; rfl, hT⟩
theorem l11Cancel_ret (x : Int) (k : Int) (A : Option Addr) (c : Nat) (ws : List Wt) (M : PH) (hs : Sl M A 2 Wt.cs ws) (hn : ws.length ≤ 1048576) (p : Wt → Bool) (hp : ∀ w : Wt, p w = decide (w.a = x)) :
    XCall env 100 [.bp 0 0, .v (I x)] [bulkB k A ws.length c] M fun r b M' => r = resV [] ∧ ∃ o A' c', b = [bulkB k A' (leftW p ws).length c'] ∧ New M M' o A' c' 2 Wt.cs (leftW p ws) := by
  refine xcall_of_vc Try.func100 rfl _ Try.ntmps100 _ rfl (fun _ _ => Try.call100 _ _) rfl (fun w0 ρ0 => ?_)
  conv => whnf
  intro g2 hg2
  conv => whnf
  have l0 := PH.Le.set (.cells (#[] : Array Value) 67 (0, 0)) hg2
  refine loop_rule (fun z : Nat × Option Nat × Option Addr × Nat => ⟨slots 40 [(0, .bp 0 0), (1, .v (I x)), (4, .v (.slice z.2.2.1 (leftW p (ws.take z.1)).length z.2.2.2)), (5, .v (I z.1))], [bulkB k A ws.length c]⟩)
    (fun z M' => z.1 ≤ ws.length ∧ New M M' z.2.1 z.2.2.1 z.2.2.2 2 Wt.cs (leftW p (ws.take z.1))) (fun z => ws.length - z.1) (0, none, some ⟨g2, 0, none⟩, 0) ?_ ?_ ?_
  · exact ⟨by simp [slots, leT, leftW], ⟨[], rfl⟩, Nat.le_refl _, rfl, rfl⟩
  · exact ⟨Nat.zero_le _, ⟨Ow.nil, l0, fun g e => nomatch e⟩⟩
  rintro ⟨i, o2, A2, c2⟩ M1 ⟨hi, hT⟩
  have hi : i ≤ ws.length := hi
  have hT : New M M1 o2 A2 c2 2 Wt.cs (leftW p (ws.take i)) := hT
  have hlt : (ws.take i).length ≤ ws.length := by simp; omega
  have hl2 := Nat.le_trans (leftW_len p (ws.take i)) hlt
  conv => whnf
  repeat' (first | (refine ⟨⟨[], rfl⟩, _, PH.Le.refl _, PH.Le.refl _, ?_⟩; conv => whnf) | (refine caseB_true ?_; conv => whnf) | (refine caseB_false ?_; conv => whnf) | ((with_reducible refine caseB_dec (fun h => ?_) (fun h => ?_)) <;> conv => whnf) | ((with_reducible refine caseB_ndec (fun h => ?_) (fun h => ?_)) <;> conv => whnf) | ((with_reducible refine caseB_not (fun h => ?_) (fun h => ?_)) <;> conv => whnf) | (with_reducible refine @And.intro (guardVC _ _ _ _ _) _ ?_ ?_) <;> conv => whnf | (refine caseB_intro (fun h => ?_) (fun h => ?_) <;> (try simp only [Bool.not_eq_true', Bool.not_eq_false', decide_eq_true_eq, decide_eq_false_iff_not] at h) <;> conv => whnf))
  · have hi' : i < ws.length := by omega
    have hw : IntKind.i64.wrap ((i : Int) + 1) = (i : Int) + 1 := wr_id (by omega) (by omega)
    obtain ⟨hA, _, hc⟩ := (hs.mono hT.le).get hi'
    refine ⟨by omega, by omega, hA, ?_⟩
    conv => whnf
    refine ⟨_, cells_cut hc 0 rfl, ?_⟩
    conv => whnf
    refine caseB_ndec (fun hx => ?_) (fun hx => ?_)
    · obtain ⟨e1, e2⟩ := goneW_no (p := p) hi' (by rw [hp]; exact decide_eq_false hx)
      conv => whnf
      refine ⟨by omega, by omega, hA, ?_⟩
      conv => whnf
      refine ⟨ws[i].cs, hc, rfl, ?_⟩
      conv => whnf
      intro g0 hg0
      conv => whnf
      have l1 := PH.Le.set (.cells ([ws[i]].flatMap Wt.cs).toArray 67 (0, 0)) hg0
      have hS := sl_full Wt.len M1 g0 [ws[i]] 67 (0, 0)
      refine app_sl (te := ti67) (f := Wt.cs) (xs := leftW p (ws.take i)) (ys := [ws[i]]) (o := o2) hS (hT.ow.mono l1) Wt.len Wt.one rfl (wt_fits1 _ _ (by omega)) (by simp; omega) fun o' A' c' M' hO hK hF => ?_
      conv => whnf
      exact ⟨(i + 1, o', A', c'), ⟨by simp [slots, leT, hw, e2], ⟨_, rfl⟩, Nat.le_refl _, rfl, rfl⟩, ⟨hi', by show New _ _ _ _ _ _ _ _; rw [e2]; exact hT.more l1 hK hO hF⟩, by show _ - (i + 1) < _ - i; omega⟩
    · obtain ⟨e1, e2⟩ := goneW_yes (p := p) hi' (by rw [hp]; exact decide_eq_true hx)
      conv => whnf
      exact ⟨(i + 1, o2, A2, c2), ⟨by simp [slots, leT, hw, e2], ⟨_, rfl⟩, Nat.le_refl _, rfl, rfl⟩, ⟨hi', by show New _ _ _ _ _ _ _ _; rw [e2]; exact hT⟩, by show _ - (i + 1) < _ - i; omega⟩
  · have hi' : i = ws.length := by omega
    subst hi'
    rw [List.take_length] at hT
    exact ⟨_, PH.Le.refl _, rfl, o2, A2, c2, by rw [List.take_length]; rfl, hT⟩
end Go.Proofs.Ytpiakjcmbnfdlaa
