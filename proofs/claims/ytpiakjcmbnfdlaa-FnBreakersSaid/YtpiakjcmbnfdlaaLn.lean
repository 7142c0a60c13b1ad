/-
  CONTRACTS: what is wrong with a bulkhead.
-/
import Derived.Test.YtpiakjcmbnfdlaaLm
import Derived.Test.YtpiakjcmbnfdlaaLb
namespace Go.Proofs.Ytpiakjcmbnfdlaa
set_option maxRecDepth 100000
set_option linter.unusedSimpArgs false
set_option linter.unusedVariables false
open Go.Xe
/-- A proposition as a Bool. -/
noncomputable def asB (p : Prop) : Bool := @decide p (Classical.propDecidable _)
theorem asB_true {p : Prop} (h : p) : asB p = true := @decide_eq_true _ (Classical.propDecidable _) h
theorem asB_false {p : Prop} (h : ¬ p) : asB p = false := @decide_eq_false _ (Classical.propDecidable _) h
theorem asB_iff {p : Prop} : asB p = true ↔ p := @decide_eq_true_iff p (Classical.propDecidable _)
def okW (w : Wt) : Bool := isT w.a && isT w.b
def Apt (ws : List Wt) : Prop := ws.Pairwise fun x y => x.a ≠ y.a
noncomputable def bulkFault (k : Int) (ws : List Wt) (l : Ln) : Int :=
  if lanesFault l ≠ 0 then lanesFault l else if inB k 0 l.a = false then 3 else if l.b < ws.length then 2 else if ws.any (fun w => !okW w) then 3 else if asB (Apt ws) then 0 else 6
theorem bulkFault1_ret (w : Wt) (M : PH) : Ret 78 [w.v] M (B (!okW w)) := by
  refine xcall_of_vc Try.func78 rfl _ Try.ntmps78 _ rfl (fun _ _ => Try.call78 _ _) rfl (fun w0 ρ0 => ?_)
  conv => whnf
  repeat' (first | (refine ⟨⟨[], rfl⟩, _, PH.Le.refl _, PH.Le.refl _, ?_⟩; conv => whnf) | (refine caseB_true ?_; conv => whnf) | (refine caseB_false ?_; conv => whnf) | ((with_reducible refine caseB_dec (fun h => ?_) (fun h => ?_)) <;> conv => whnf) | ((with_reducible refine caseB_ndec (fun h => ?_) (fun h => ?_)) <;> conv => whnf) | ((with_reducible refine caseB_not (fun h => ?_) (fun h => ?_)) <;> conv => whnf) | (refine Ret.go (isTime_ret _ _) ?_; conv => whnf) | (with_reducible refine @And.intro (guardVC _ _ _ _ _) _ ?_ ?_) <;> conv => whnf | (refine caseB_intro (fun h => ?_) (fun h => ?_) <;> (try simp only [Bool.not_eq_true', Bool.not_eq_false', decide_eq_true_eq, decide_eq_false_iff_not] at h) <;> conv => whnf))
  all_goals exact ⟨_, PH.Le.refl _, by simp_all [resV, okW], rfl⟩
theorem waits1_ret (x : Int) (w : Wt) (M : PH) : XCall env 119 [.v w.v, .bp 0 0] [⟨2, [.v (I x)]⟩] M fun r b M' => r = B (decide (w.a = x)) ∧ b = [⟨2, [.v (I x)]⟩] ∧ M' = M := by
  refine xcall_of_vc Try.func119 rfl _ Try.ntmps119 _ rfl (fun _ _ => Try.call119 _ _) rfl (fun w0 ρ0 => ?_)
  conv => whnf
  exact ⟨_, PH.Le.refl _, rfl, rfl, rfl⟩
def findW (ws : List Wt) (x : Int) : Int := idxF (fun w => decide (w.a = x)) ws
theorem waits_ret (k : Int) (A : Option Addr) (c : Nat) (ws : List Wt) (x : Int) (M : PH) (hs : Sl M A 2 Wt.cs ws) (hn : ws.length ≤ 1048576) : Ret 79 [bulkV k A ws.length c, I x] M (I (findW ws x)) := by
  refine xcall_of_vc Try.func79 rfl _ Try.ntmps79 _ rfl (fun _ _ => Try.call79 _ _) rfl (fun w0 ρ0 => ?_)
  conv => whnf
  refine XCall.lift (indexFuncWt1 2 (I x) 119 (fun w => decide (w.a = x)) A c ws M hs (by omega) fun w _ => waits1_ret x w M) [1] ?_ (by simp) (by simp) (by simp [AV.plain]) ?_
  · simp [ren, AV.plain]
  rintro r bs' M' ⟨rfl, rfl, rfl⟩
  refine ⟨by simp [AV.plain], ?_⟩
  conv => whnf
  exact ⟨_, PH.Le.refl _, rfl, rfl⟩
theorem any_no {ws : List Wt} (h : ∀ j, ∀ hj : j < ws.length, okW ws[j] = true) : ws.any (fun w => !okW w) = false := by
  rw [List.any_eq_false]
  intro w hw
  obtain ⟨j, hj, rfl⟩ := List.getElem_of_mem hw
  simp [h j hj]
theorem any_yes {ws : List Wt} {j : Nat} (hj : j < ws.length) (h : okW ws[j] = false) : ws.any (fun w => !okW w) = true := by
  rw [List.any_eq_true]
  exact ⟨_, List.getElem_mem hj, by simp [h]⟩
theorem apt_yes {ws : List Wt} (h : ∀ i, ∀ hi : i < ws.length, ∀ j, ∀ hj : j < i, ws[i].a ≠ ws[j].a) : Apt ws := by
  unfold Apt
  rw [List.pairwise_iff_getElem]
  exact fun i j hi hj hij e => h j hj i hij e.symm
theorem apt_no {ws : List Wt} {i j : Nat} (hi : i < ws.length) (hj : j < i) (h : ws[i].a = ws[j].a) : ¬ Apt ws := by
  unfold Apt
  rw [List.pairwise_iff_getElem]
  exact fun hp => hp j i (by omega) hi hj h.symm
abbrev bulkB (k : Int) (A : Option Addr) (n c : Nat) : Box := ⟨42, [.v (I k), .v (.slice A n c)]⟩
abbrev Ln.box (l : Ln) : Box := ⟨44, [.v (I l.a), .v (I l.b), .v (I l.c)]⟩
theorem bulkFault_spec (k : Int) (A : Option Addr) (c : Nat) (ws : List Wt) (l : Ln) (M : PH) (hs : Sl M A 2 Wt.cs ws) (hn : ws.length ≤ 1048576) : Ret 20 [bulkV k A ws.length c, l.v] M (I (bulkFault k ws l)) := by
  refine xcall_of_vc Try.func20 rfl _ Try.ntmps20 _ rfl (fun _ _ => Try.call20 _ _) rfl (fun w0 ρ0 => ?_)
  conv => whnf
  repeat' (first | (refine ⟨⟨[], rfl⟩, _, PH.Le.refl _, PH.Le.refl _, ?_⟩; conv => whnf) | (refine caseB_true ?_; conv => whnf) | (refine caseB_false ?_; conv => whnf) | ((with_reducible refine caseB_dec (fun h => ?_) (fun h => ?_)) <;> conv => whnf) | ((with_reducible refine caseB_ndec (fun h => ?_) (fun h => ?_)) <;> conv => whnf) | ((with_reducible refine caseB_not (fun h => ?_) (fun h => ?_)) <;> conv => whnf) | (refine Ret.go (lanesFault_spec l _) ?_; conv => whnf) | (refine Ret.go (l1In_ret _ _ _ _) ?_; conv => whnf) | (with_reducible refine @And.intro (guardVC _ _ _ _ _) _ ?_ ?_) <;> conv => whnf | (refine caseB_intro (fun h => ?_) (fun h => ?_) <;> (try simp only [Bool.not_eq_true', Bool.not_eq_false', decide_eq_true_eq, decide_eq_false_iff_not] at h) <;> conv => whnf))
  all_goals try (refine ⟨_, PH.Le.refl _, ?_, rfl⟩; simp [resV, bulkFault, *]; done)
  rename_i h0 h1
  have e0 : bulkFault k ws l = if ws.any (fun w => !okW w) then 3 else if asB (Apt ws) then 0 else 6 := by simp [bulkFault, h0, h1, h]
  refine loop_rule (fun i : Nat => ⟨slots 76 [(2, .bp 0 0), (3, .bp 1 0), (4, .v (I 0)), (6, .v (I i))], [bulkB k A ws.length c, l.box]⟩) (fun i M' => i ≤ ws.length ∧ (∀ j, j < i → ∀ hj : j < ws.length, okW ws[j] = true) ∧ M' = M) (fun i => ws.length - i) 0 ?_ ?_ ?_
  · exact ⟨by simp [slots, leT], ⟨[], rfl⟩, Nat.zero_le _, rfl, rfl⟩
  · exact ⟨Nat.zero_le _, fun j hj => absurd hj (Nat.not_lt_zero _), rfl⟩
  rintro i M' ⟨hi, hp, rfl⟩
  conv => whnf
  repeat' (first | (refine ⟨⟨[], rfl⟩, _, PH.Le.refl _, PH.Le.refl _, ?_⟩; conv => whnf) | (refine caseB_true ?_; conv => whnf) | (refine caseB_false ?_; conv => whnf) | ((with_reducible refine caseB_dec (fun h => ?_) (fun h => ?_)) <;> conv => whnf) | ((with_reducible refine caseB_ndec (fun h => ?_) (fun h => ?_)) <;> conv => whnf) | ((with_reducible refine caseB_not (fun h => ?_) (fun h => ?_)) <;> conv => whnf) | (with_reducible refine @And.intro (guardVC _ _ _ _ _) _ ?_ ?_) <;> conv => whnf | (refine caseB_intro (fun h => ?_) (fun h => ?_) <;> (try simp only [Bool.not_eq_true', Bool.not_eq_false', decide_eq_true_eq, decide_eq_false_iff_not] at h) <;> conv => whnf))
  · have hi' : i < ws.length := by omega
    have hw : IntKind.i64.wrap ((i : Int) + 1) = (i : Int) + 1 := wr_id (by omega) (by omega)
    obtain ⟨hA, _, hc⟩ := hs.get hi'
    repeat' (first | (refine ⟨⟨[], rfl⟩, _, PH.Le.refl _, PH.Le.refl _, ?_⟩; conv => whnf) | (refine ⟨_, cells_cut hc 1 rfl, ?_⟩; conv => whnf) | (refine ⟨_, cells_cut hc 0 rfl, ?_⟩; conv => whnf) | (refine ⟨by omega, by omega, hA, ?_⟩; conv => whnf) | (refine caseB_true ?_; conv => whnf) | (refine caseB_false ?_; conv => whnf) | ((with_reducible refine caseB_dec (fun h => ?_) (fun h => ?_)) <;> conv => whnf) | ((with_reducible refine caseB_ndec (fun h => ?_) (fun h => ?_)) <;> conv => whnf) | ((with_reducible refine caseB_not (fun h => ?_) (fun h => ?_)) <;> conv => whnf) | (refine Ret.go (l1Time_ret _ _) ?_; conv => whnf) | (with_reducible refine @And.intro (guardVC _ _ _ _ _) _ ?_ ?_) <;> conv => whnf | (refine caseB_intro (fun h => ?_) (fun h => ?_) <;> (try simp only [Bool.not_eq_true', Bool.not_eq_false', decide_eq_true_eq, decide_eq_false_iff_not] at h) <;> conv => whnf))
    all_goals first | (refine ⟨_, PH.Le.refl _, ?_, rfl⟩; rw [e0, any_yes hi' (by simp [okW, *])]; rfl) | exact ⟨i + 1, ⟨by simp [slots, leT, hw], ⟨[], rfl⟩, Nat.zero_le _, rfl, rfl⟩, ⟨by omega, fun j hj h => by
          rcases Nat.lt_succ_iff_lt_or_eq.1 hj with h1 | h1
          · exact hp j h1 h
          · subst h1; simp [okW, *], rfl⟩, by omega⟩
  rw [any_no (fun j hj => hp j (by omega) hj)] at e0
  refine loop_rule (fun i : Nat => ⟨slots 76 [(2, .bp 0 0), (3, .bp 1 0), (4, .v (I 0)), (7, .v (I i))], [bulkB k A ws.length c, l.box]⟩) (fun i M1 => i ≤ ws.length ∧ (∀ a, a < i → ∀ ha : a < ws.length, ∀ b, ∀ hb : b < a, ws[a].a ≠ ws[b].a) ∧ M1 = M') (fun i => ws.length - i) 0 ?_ ?_ ?_
  · exact ⟨by simp [slots, leT], ⟨[], rfl⟩, Nat.zero_le _, rfl, rfl⟩
  · exact ⟨Nat.zero_le _, fun j hj => absurd hj (Nat.not_lt_zero _), rfl⟩
  rintro i M1 ⟨hi, hq, rfl⟩
  conv => whnf
  repeat' (first | (refine ⟨⟨[], rfl⟩, _, PH.Le.refl _, PH.Le.refl _, ?_⟩; conv => whnf) | (refine caseB_true ?_; conv => whnf) | (refine caseB_false ?_; conv => whnf) | ((with_reducible refine caseB_dec (fun h => ?_) (fun h => ?_)) <;> conv => whnf) | ((with_reducible refine caseB_ndec (fun h => ?_) (fun h => ?_)) <;> conv => whnf) | ((with_reducible refine caseB_not (fun h => ?_) (fun h => ?_)) <;> conv => whnf) | (with_reducible refine @And.intro (guardVC _ _ _ _ _) _ ?_ ?_) <;> conv => whnf | (refine caseB_intro (fun h => ?_) (fun h => ?_) <;> (try simp only [Bool.not_eq_true', Bool.not_eq_false', decide_eq_true_eq, decide_eq_false_iff_not] at h) <;> conv => whnf))
  · have hi' : i < ws.length := by omega
    have hw : IntKind.i64.wrap ((i : Int) + 1) = (i : Int) + 1 := wr_id (by omega) (by omega)
    obtain ⟨hA, _, hc⟩ := hs.get hi'
    refine loop_rule (fun j : Nat => ⟨slots 76 [(2, .bp 0 0), (3, .bp 1 0), (4, .v (I 0)), (7, .v (I i)), (8, .v (I j))], [bulkB k A ws.length c, l.box]⟩) (fun j M' => j ≤ i ∧ (∀ b, ∀ hb : b < j, ∀ hb : b < ws.length, ws[i].a ≠ ws[b].a) ∧ M' = M1) (fun j => i - j) 0 ?_ ?_ ?_
    · exact ⟨by simp [slots, leT], ⟨[], rfl⟩, Nat.zero_le _, rfl, rfl⟩
    · exact ⟨Nat.zero_le _, fun j hj => absurd hj (Nat.not_lt_zero _), rfl⟩
    rintro j M2 ⟨hj, hr, rfl⟩
    conv => whnf
    repeat' (first | (refine ⟨⟨[], rfl⟩, _, PH.Le.refl _, PH.Le.refl _, ?_⟩; conv => whnf) | (refine caseB_true ?_; conv => whnf) | (refine caseB_false ?_; conv => whnf) | ((with_reducible refine caseB_dec (fun h => ?_) (fun h => ?_)) <;> conv => whnf) | ((with_reducible refine caseB_ndec (fun h => ?_) (fun h => ?_)) <;> conv => whnf) | ((with_reducible refine caseB_not (fun h => ?_) (fun h => ?_)) <;> conv => whnf) | (with_reducible refine @And.intro (guardVC _ _ _ _ _) _ ?_ ?_) <;> conv => whnf | (refine caseB_intro (fun h => ?_) (fun h => ?_) <;> (try simp only [Bool.not_eq_true', Bool.not_eq_false', decide_eq_true_eq, decide_eq_false_iff_not] at h) <;> conv => whnf))
    · have hj' : j < i := by omega
      have hj2 : j < ws.length := by omega
      have hw2 : IntKind.i64.wrap ((j : Int) + 1) = (j : Int) + 1 := wr_id (by omega) (by omega)
      obtain ⟨_, _, hc2⟩ := hs.get hj2
      repeat' (first | (refine ⟨⟨[], rfl⟩, _, PH.Le.refl _, PH.Le.refl _, ?_⟩; conv => whnf) | (refine ⟨_, cells_cut hc2 0 rfl, ?_⟩; conv => whnf) | (refine ⟨_, cells_cut hc 0 rfl, ?_⟩; conv => whnf) | (refine ⟨by omega, by omega, hA, ?_⟩; conv => whnf) | (refine caseB_true ?_; conv => whnf) | (refine caseB_false ?_; conv => whnf) | ((with_reducible refine caseB_dec (fun h => ?_) (fun h => ?_)) <;> conv => whnf) | ((with_reducible refine caseB_ndec (fun h => ?_) (fun h => ?_)) <;> conv => whnf) | ((with_reducible refine caseB_not (fun h => ?_) (fun h => ?_)) <;> conv => whnf) | (refine draw_rule (.light 0 <| .light 1 <| .light 2 <| .light 3 <| .light 4 <| .light 5 <| .light 6 <| .light 7 <| .light 8 <| .light 9 <| .light 10 <| .light 11 <| .light 12 <| .done) (by decide +kernel) ?_; conv => whnf) | (with_reducible refine @And.intro (guardVC _ _ _ _ _) _ ?_ ?_) <;> conv => whnf | (refine caseB_intro (fun h => ?_) (fun h => ?_) <;> (try simp only [Bool.not_eq_true', Bool.not_eq_false', decide_eq_true_eq, decide_eq_false_iff_not] at h) <;> conv => whnf))
      · refine ⟨_, PH.Le.refl _, ?_, rfl⟩
        rw [e0, asB_false (apt_no hi' hj' (by assumption))]; rfl
      · exact ⟨j + 1, ⟨by simp [slots, leT, hw2], ⟨[], rfl⟩, Nat.zero_le _, rfl, rfl⟩, ⟨by omega, fun b hb hb' => by
          rcases Nat.lt_succ_iff_lt_or_eq.1 hb with h1 | h1
          · exact hr b h1 hb'
          · subst h1; assumption, rfl⟩, by omega⟩
    · have : j = i := by omega
      subst this
      exact ⟨j + 1, ⟨by simp [slots, leT, hw], ⟨[], rfl⟩, Nat.zero_le _, rfl, rfl⟩, ⟨by omega, fun a ha ha' b hb => by
          rcases Nat.lt_succ_iff_lt_or_eq.1 ha with h1 | h1
          · exact hq a h1 ha' b hb
          · subst h1; exact hr b hb (by omega), rfl⟩, by omega⟩
  · refine ⟨_, PH.Le.refl _, ?_, rfl⟩
    rw [e0, asB_true (apt_yes fun a ha => hq a (by omega) ha)]; rfl
theorem findW_at {ws : List Wt} {i : Nat} (hi : i < ws.length) (h : findW ws ws[i].a ≠ i) : ¬ Apt ws := by
  intro hp
  apply h
  unfold Apt at hp
  rw [List.pairwise_iff_getElem] at hp
  exact idxF_at _ ws i hi (fun j hj hj' => by simpa using hp j i hj' hi hj) (by simp)
theorem findW_apt {ws : List Wt} (h : ∀ i, ∀ hi : i < ws.length, findW ws ws[i].a = i) : Apt ws := by
  refine apt_yes fun i hi j hj e => ?_
  have h1 := h i hi
  have h2 := h j (by omega)
  rw [e] at h1
  omega
theorem bulkFault_impl (k : Int) (A : Option Addr) (c : Nat) (ws : List Wt) (l : Ln) (M : PH) (hs : Sl M A 2 Wt.cs ws) (hn : ws.length ≤ 1048576) : Ret 23 [bulkV k A ws.length c, l.v] M (I (bulkFault k ws l)) := by
  refine xcall_of_vc Try.func23 rfl _ Try.ntmps23 _ rfl (fun _ _ => Try.call23 _ _) rfl (fun w0 ρ0 => ?_)
  conv => whnf
  repeat' (first | (refine ⟨⟨[], rfl⟩, _, PH.Le.refl _, PH.Le.refl _, ?_⟩; conv => whnf) | (refine caseB_true ?_; conv => whnf) | (refine caseB_false ?_; conv => whnf) | ((with_reducible refine caseB_dec (fun h => ?_) (fun h => ?_)) <;> conv => whnf) | ((with_reducible refine caseB_ndec (fun h => ?_) (fun h => ?_)) <;> conv => whnf) | ((with_reducible refine caseB_not (fun h => ?_) (fun h => ?_)) <;> conv => whnf) | (refine Ret.go (lanesFault_impl l _) ?_; conv => whnf) | (refine Ret.go (within_ret _ _ _ _) ?_; conv => whnf) | (with_reducible refine @And.intro (guardVC _ _ _ _ _) _ ?_ ?_) <;> conv => whnf | (refine caseB_intro (fun h => ?_) (fun h => ?_) <;> (try simp only [Bool.not_eq_true', Bool.not_eq_false', decide_eq_true_eq, decide_eq_false_iff_not] at h) <;> conv => whnf))
  all_goals try (refine ⟨_, PH.Le.refl _, ?_, rfl⟩; simp [resV, bulkFault, *]; done)
  rename_i h0 h1
  have e0 : bulkFault k ws l = if ws.any (fun w => !okW w) then 3 else if asB (Apt ws) then 0 else 6 := by simp [bulkFault, h0, h1, h]
  refine XCall.go0 (containsFuncWt0 78 (fun w => !okW w) A c ws M hs (by omega) fun w _ => (bulkFault1_ret w M).x) rfl ?_
  conv => whnf
  repeat' (first | (refine ⟨⟨[], rfl⟩, _, PH.Le.refl _, PH.Le.refl _, ?_⟩; conv => whnf) | (refine caseB_true ?_; conv => whnf) | (refine caseB_false ?_; conv => whnf) | ((with_reducible refine caseB_dec (fun h => ?_) (fun h => ?_)) <;> conv => whnf) | ((with_reducible refine caseB_ndec (fun h => ?_) (fun h => ?_)) <;> conv => whnf) | ((with_reducible refine caseB_not (fun h => ?_) (fun h => ?_)) <;> conv => whnf) | (with_reducible refine @And.intro (guardVC _ _ _ _ _) _ ?_ ?_) <;> conv => whnf | (refine caseB_intro (fun h => ?_) (fun h => ?_) <;> (try simp only [Bool.not_eq_true', Bool.not_eq_false', decide_eq_true_eq, decide_eq_false_iff_not] at h) <;> conv => whnf))
  · refine ⟨_, PH.Le.refl _, ?_, rfl⟩
    rw [e0, h]; rfl
  rw [h] at e0
  refine loop_rule (fun i : Nat => ⟨slots 46 [(2, .bp 0 0), (3, .bp 1 0), (4, .v (I 0)), (32, .v (.slice A ws.length c)), (33, .v (I ws.length)), (34, .v (I i))], [bulkB k A ws.length c, l.box]⟩) (fun i M1 => i ≤ ws.length ∧ (∀ a, a < i → ∀ ha : a < ws.length, findW ws ws[a].a = a) ∧ M1 = M) (fun i => ws.length - i) 0 ?_ ?_ ?_
  · exact ⟨by simp [slots, leT], ⟨[], rfl⟩, Nat.zero_le _, rfl, rfl⟩
  · exact ⟨Nat.zero_le _, fun j hj => absurd hj (Nat.not_lt_zero _), rfl⟩
  rintro i M1 ⟨hi, hq, rfl⟩
  conv => whnf
  repeat' (first | (refine ⟨⟨[], rfl⟩, _, PH.Le.refl _, PH.Le.refl _, ?_⟩; conv => whnf) | (refine caseB_true ?_; conv => whnf) | (refine caseB_false ?_; conv => whnf) | ((with_reducible refine caseB_dec (fun h => ?_) (fun h => ?_)) <;> conv => whnf) | ((with_reducible refine caseB_ndec (fun h => ?_) (fun h => ?_)) <;> conv => whnf) | ((with_reducible refine caseB_not (fun h => ?_) (fun h => ?_)) <;> conv => whnf) | (with_reducible refine @And.intro (guardVC _ _ _ _ _) _ ?_ ?_) <;> conv => whnf | (refine caseB_intro (fun h => ?_) (fun h => ?_) <;> (try simp only [Bool.not_eq_true', Bool.not_eq_false', decide_eq_true_eq, decide_eq_false_iff_not] at h) <;> conv => whnf))
  · have hi' : i < ws.length := by omega
    have hw : IntKind.i64.wrap ((i : Int) + 1) = (i : Int) + 1 := wr_id (by omega) (by omega)
    obtain ⟨hA, _, hc⟩ := hs.get hi'
    refine ⟨by omega, by omega, hA, ?_⟩
    conv => whnf
    refine ⟨ws[i].cs, hc, rfl, ?_⟩
    conv => whnf
    repeat' (first | (refine ⟨⟨[], rfl⟩, _, PH.Le.refl _, PH.Le.refl _, ?_⟩; conv => whnf) | (refine caseB_true ?_; conv => whnf) | (refine caseB_false ?_; conv => whnf) | ((with_reducible refine caseB_dec (fun h => ?_) (fun h => ?_)) <;> conv => whnf) | ((with_reducible refine caseB_ndec (fun h => ?_) (fun h => ?_)) <;> conv => whnf) | ((with_reducible refine caseB_not (fun h => ?_) (fun h => ?_)) <;> conv => whnf) | (refine Ret.go (waits_ret k A c ws ws[i].a _ hs hn) ?_; conv => whnf) | (with_reducible refine @And.intro (guardVC _ _ _ _ _) _ ?_ ?_) <;> conv => whnf | (refine caseB_intro (fun h => ?_) (fun h => ?_) <;> (try simp only [Bool.not_eq_true', Bool.not_eq_false', decide_eq_true_eq, decide_eq_false_iff_not] at h) <;> conv => whnf))
    · refine ⟨_, PH.Le.refl _, ?_, rfl⟩
      rw [e0, asB_false (findW_at hi' (by assumption))]; rfl
    · exact ⟨i + 1, ⟨by simp [slots, leT, hw], ⟨_, rfl⟩, Nat.zero_le _, rfl, rfl⟩, ⟨by omega, fun a ha ha' => by
          rcases Nat.lt_succ_iff_lt_or_eq.1 ha with h1 | h1
          · exact hq a h1 ha'
          · subst h1; assumption, rfl⟩, by omega⟩
  · refine ⟨_, PH.Le.refl _, ?_, rfl⟩
    rw [e0, asB_true (findW_apt fun a ha => hq a (by omega) ha)]; rfl
end Go.Proofs.Ytpiakjcmbnfdlaa
