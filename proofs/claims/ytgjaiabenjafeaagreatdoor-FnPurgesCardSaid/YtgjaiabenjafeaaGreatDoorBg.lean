/-
  CONTRACTS: what is wrong with a store.
-/
import Derived.Test.YtgjaiabenjafeaaGreatDoorBf
namespace Go.Proofs.YtgjaiabenjafeaaGreatDoor
set_option maxRecDepth 100000
set_option linter.unusedSimpArgs false
set_option linter.unusedVariables false
open Go.Xe
theorem firstF_map {α β : Type} (g : α → β) (f : β → Int) : ∀ ws : List α, firstF f (ws.map g) = firstF (fun x => f (g x)) ws
  | [] => rfl
  | x :: r => by rw [List.map_cons, firstF, firstF, firstF_map g f r]
theorem keyE_apt {ws : List EnA} : AptG En.key (conts ws) ↔ AptG (fun x : EnA => x.c.key) ws := by
  unfold AptG conts
  rw [List.pairwise_map]
def Sc.all (s : Sc) : List En := s.tr ++ s.kp
noncomputable def stFault (s : Sc) : Int :=
  if inB s.bud 0 1000000 = false then 3 else if inB s.gd 0 s.bud = false then 3 else if 40 < (s.all.length : Int) then 2 else
  if firstF enFault s.all ≠ 0 then firstF enFault s.all else if asB (AptG En.key s.all) = false then 6 else if s.bud < (eCosts s.all : Int) then 7 else if s.gd < (eCosts s.kp : Int) then 7 else 0
theorem all_conts (x : StA) : x.c.all = conts (x.tr ++ x.kp) := by
  unfold Sc.all StA.c conts
  rw [List.map_append]
theorem storeCost_ret (x : StA) (M : PH) (hi : x.inn M) (hco : x.c.cost ≤ 1048576) : Ret 95 [x.val] M (I (eCosts x.c.all)) := by
  have hc1 : costL En.cost (conts x.tr) ≤ 1048576 := by unfold Sc.cost StA.c at hco; simp only at hco; omega
  have hc2 : costL En.cost (conts x.kp) ≤ 1048576 := by unfold Sc.cost StA.c at hco; simp only at hco; omega
  obtain ⟨n1, d1⟩ := costE hc1
  obtain ⟨n2, d2⟩ := costE hc2
  have m1 := eCosts_max (es := conts x.tr) (fun e he => by obtain ⟨y, hy, rfl⟩ := List.mem_map.1 he; exact d1 y hy)
  have m2 := eCosts_max (es := conts x.kp) (fun e he => by obtain ⟨y, hy, rfl⟩ := List.mem_map.1 he; exact d2 y hy)
  rw [List.length_map] at m1 m2
  have hw : IntKind.i64.wrap ((eCosts (conts x.tr) : Int) + (eCosts (conts x.kp) : Int)) = (eCosts x.c.all : Int) := by
    rw [wrap_id (by omega) (by omega)]
    unfold Sc.all StA.c
    rw [eCosts_app]
    simp
  refine xcall_of_vc Tryz.func95 rfl _ Tryz.ntmps95 _ rfl (fun _ _ => Tryz.call95 _ _) rfl (fun w0 ρ0 => ?_)
  conv => whnf
  repeat' (first | (refine ⟨⟨[], rfl⟩, _, PH.Le.refl _, PH.Le.refl _, ?_⟩; conv => whnf) | (refine caseB_true ?_; conv => whnf) | (refine caseB_false ?_; conv => whnf) | ((with_reducible refine caseB_dec (fun h => ?_) (fun h => ?_)) <;> conv => whnf) | ((with_reducible refine caseB_ndec (fun h => ?_) (fun h => ?_)) <;> conv => whnf) | ((with_reducible refine caseB_not (fun h => ?_) (fun h => ?_)) <;> conv => whnf) | (refine Ret.go (costOf_ret x.tA x.tc x.tr _ hi.t d1 (by omega)) ?_; conv => whnf) | (refine Ret.go (costOf_ret x.kA x.kc x.kp _ hi.k d2 (by omega)) ?_; conv => whnf) | (refine draw_rule (.light 0 <| .light 1 <| .light 3 <| .light 4 <| .alt 2 false (.alt 5 false (.light 6 <| .light 7 <| .done) .nil) .nil) (by decide +kernel) ?_; conv => whnf) | (with_reducible refine @And.intro (guardVC _ _ _ _ _) _ ?_ ?_) <;> conv => whnf | (refine caseB_intro (fun h => ?_) (fun h => ?_) <;> (try simp only [Bool.not_eq_true', Bool.not_eq_false', decide_eq_true_eq, decide_eq_false_iff_not] at h) <;> conv => whnf))
  all_goals exact ⟨_, PH.Le.refl _, by rw [← hw]; rfl, rfl⟩
abbrev stBox (x : StA) : Box := ⟨36, [.v (I x.b), .v (I x.g), .v (.slice x.tA x.tr.length x.tc), .v (.slice x.kA x.kp.length x.kc)]⟩
theorem all_ens {x : StA} {M M1 : PH} {o : Option Nat} {A : Option Addr} {c : Nat} (hi : x.inn M) (hN : New M M1 o A c 13 EnA.cs (x.tr ++ x.kp)) : Ens M1 A (x.tr ++ x.kp) :=
  ⟨hN.ow.sl EnA.len, fun y hy => (List.mem_append.1 hy).elim (fun h => (hi.t.inn y h).mono hN.le) (fun h => (hi.k.inn y h).mono hN.le)⟩
theorem stF_len {x : StA} (h1 : inB x.b 0 1000000 = true) (h2 : inB x.g 0 x.b = true) (h3 : 40 < (x.c.all.length : Int)) : stFault x.c = 2 := by
  unfold stFault
  rw [if_neg (by show ¬ inB x.b 0 1000000 = false; rw [h1]; simp), if_neg (by show ¬ inB x.g 0 x.b = false; rw [h2]; simp), if_pos h3]
theorem stF_rest {x : StA} (h1 : inB x.b 0 1000000 = true) (h2 : inB x.g 0 x.b = true) (h3 : ¬ 40 < (x.c.all.length : Int)) {es : List En} (h : x.c.all = es) : stFault x.c =
    if firstF enFault es ≠ 0 then firstF enFault es else if asB (AptG En.key es) = false then 6 else if x.b < (eCosts es : Int) then 7 else if x.g < (eCosts (conts x.kp) : Int) then 7 else 0 := by
  unfold stFault
  rw [if_neg (by show ¬ inB x.b 0 1000000 = false; rw [h1]; simp), if_neg (by show ¬ inB x.g 0 x.b = false; rw [h2]; simp), if_neg h3, h]
  rfl
set_option maxHeartbeats 2000000 in
theorem storeFault_spec (x : StA) (M : PH) (hi : x.inn M) (hco : x.c.cost ≤ 1048576) : Ret 35 [x.val] M (I (stFault x.c)) := by
  have hc1 : costL En.cost (conts x.tr) ≤ 1048576 := by unfold Sc.cost StA.c at hco; simp only at hco; omega
  have hc2 : costL En.cost (conts x.kp) ≤ 1048576 := by unfold Sc.cost StA.c at hco; simp only at hco; omega
  obtain ⟨n1, d1⟩ := costE hc1
  obtain ⟨n2, d2⟩ := costE hc2
  have hal := all_conts x
  have hlen : x.c.all.length = x.tr.length + x.kp.length := by rw [hal, List.length_map, List.length_append]
  have hwl : IntKind.i64.wrap ((x.tr.length : Int) + (x.kp.length : Int)) = (x.c.all.length : Int) := by rw [wrap_id (by omega) (by omega), hlen]; omega
  have hd : ∀ y ∈ x.tr ++ x.kp, y.c.cost ≤ 1048576 := fun y hy => (List.mem_append.1 hy).elim (fun h => d1 y h) (fun h => d2 y h)
  have hwn : (x.tr ++ x.kp).length ≤ 2097152 := by rw [List.length_append]; omega
  refine Ret.of ?_
  refine xcall_of_vc Tryz.func35 rfl _ Tryz.ntmps35 _ rfl (fun _ _ => Tryz.call35 _ _) rfl (fun w0 ρ0 => ?_)
  conv => whnf
  repeat' (first | (refine ⟨⟨[], rfl⟩, _, PH.Le.refl _, PH.Le.refl _, ?_⟩; conv => whnf) | (refine caseB_true ?_; conv => whnf) | (refine caseB_false ?_; conv => whnf) | ((with_reducible refine caseB_dec (fun h => ?_) (fun h => ?_)) <;> conv => whnf) | ((with_reducible refine caseB_ndec (fun h => ?_) (fun h => ?_)) <;> conv => whnf) | ((with_reducible refine caseB_not (fun h => ?_) (fun h => ?_)) <;> conv => whnf) | (refine Ret.go (l1In_ret _ _ _ _) ?_; conv => whnf) | (with_reducible refine @And.intro (guardVC _ _ _ _ _) _ ?_ ?_) <;> conv => whnf | (refine caseB_intro (fun h => ?_) (fun h => ?_) <;> (try simp only [Bool.not_eq_true', Bool.not_eq_false', decide_eq_true_eq, decide_eq_false_iff_not] at h) <;> conv => whnf))
  · exact ⟨_, PH.Le.refl _, by simp [resV, stFault, StA.c, *], PH.Le.refl _⟩
  · exact ⟨_, PH.Le.refl _, by simp [resV, stFault, StA.c, *], PH.Le.refl _⟩
  · rename_i h1 h2
    rw [hwl] at h
    exact ⟨_, PH.Le.refl _, by rw [stF_len h1 h2 h]; rfl, PH.Le.refl _⟩
  rename_i h1 h2
  rw [hwl] at h
  have e2 := stF_rest h1 h2 h hal
  clear h hwl hlen hal
  refine XCall.lift (l8All_ret 36 x M hi n1 n2) [0] ?_ (by simp) (by simp) (by simp [AV.plain]) ?_
  · simp [ren]
  rintro r bs' M1 ⟨⟨o, A, c, rfl, hN⟩, rfl⟩
  refine ⟨by simp [AV.plain], ?_⟩
  have hE := all_ens hi hN
  have hle := hN.le
  have hk1 := hi.k.mono hle
  have hs := hE.sl
  generalize x.tr ++ x.kp = ws at *
  conv => whnf
  refine loop_rule (fun i : Nat => ⟨slots 78 [(1, .bp 0 0), (3, .v (.slice A ws.length c)), (4, .v (I i))], [stBox x]⟩) (fun i M' => i ≤ ws.length ∧ (∀ j, j < i → ∀ h : j < ws.length, enFault ws[j].c = 0) ∧ M' = M1) (fun i => ws.length - i) 0 ?_ ?_ ?_
  · exact ⟨by simp [slots, leT], ⟨[], rfl⟩, (by first | exact Nat.zero_le _ | exact Nat.le_refl _), rfl, rfl⟩
  · exact ⟨Nat.zero_le _, fun j hj => absurd hj (Nat.not_lt_zero _), rfl⟩
  rintro i M' ⟨hi0, hp, rfl⟩
  conv => whnf
  refine caseB_dec (fun h0 => ?_) (fun h0 => ?_)
  · have h0 : (i : Int) < ws.length := h0
    have hi' : i < ws.length := by omega
    have hw : IntKind.i64.wrap ((i : Int) + 1) = (i : Int) + 1 := wr_id (by omega) (by omega)
    obtain ⟨hA, _, hc⟩ := hs.get hi'
    have hx := hE.inn ws[i] (List.getElem_mem hi')
    have hxc := hd ws[i] (List.getElem_mem hi')
    conv => whnf
    repeat' (first | (refine ⟨⟨[], rfl⟩, _, PH.Le.refl _, PH.Le.refl _, ?_⟩; conv => whnf) | (refine ⟨ws[i].cs, hc, rfl, ?_⟩; conv => whnf) | (refine ⟨by omega, by omega, hA, ?_⟩; conv => whnf) | (refine caseB_true ?_; conv => whnf) | (refine caseB_false ?_; conv => whnf) | ((with_reducible refine caseB_dec (fun h => ?_) (fun h => ?_)) <;> conv => whnf) | ((with_reducible refine caseB_ndec (fun h => ?_) (fun h => ?_)) <;> conv => whnf) | ((with_reducible refine caseB_not (fun h => ?_) (fun h => ?_)) <;> conv => whnf) | (refine Ret.go (entryFault_spec ws[i] _ hx hxc) ?_; conv => whnf) | (with_reducible refine @And.intro (guardVC _ _ _ _ _) _ ?_ ?_) <;> conv => whnf | (refine caseB_intro (fun h => ?_) (fun h => ?_) <;> (try simp only [Bool.not_eq_true', Bool.not_eq_false', decide_eq_true_eq, decide_eq_false_iff_not] at h) <;> conv => whnf))
    · rename_i h
      have e1 : firstF enFault (conts ws) = enFault ws[i].c := by rw [conts, firstF_map]; exact firstF_at hi' hp h
      exact ⟨_, PH.Le.refl _, by rw [e2, e1, if_pos h]; rfl, hle⟩
    · rename_i h
      exact ⟨i + 1, ⟨by simp [slots, leT, hw], ⟨_, rfl⟩, (by first | exact Nat.zero_le _ | exact Nat.le_refl _), rfl, rfl⟩, ⟨by omega, fun j hj hjl => (Nat.lt_succ_iff_lt_or_eq.1 hj).elim (fun h1 => hp j h1 hjl) (fun e => by subst e; exact h), rfl⟩, by omega⟩
  have hi' : i = ws.length := by have : ¬ (i : Int) < ws.length := h0; omega
  subst hi'
  rw [show firstF enFault (conts ws) = 0 by rw [conts, firstF_map]; exact firstF_no fun j h => hp j h h, if_neg (by simp)] at e2
  clear hp h0
  conv => whnf
  refine loop_rule (fun i : Nat => ⟨slots 78 [(1, .bp 0 0), (3, .v (.slice A ws.length c)), (6, .v (I i))], [stBox x]⟩) (fun i M1 => i ≤ ws.length ∧ (∀ a, a < i → ∀ ha : a < ws.length, ∀ b, ∀ hb : b < a, (fun x : EnA => x.c.key) ws[a] ≠ (fun x : EnA => x.c.key) ws[b]) ∧ M1 = M') (fun i => ws.length - i) 0 ?_ ?_ ?_
  · exact ⟨by simp [slots, leT], ⟨[], rfl⟩, (by first | exact Nat.zero_le _ | exact Nat.le_refl _), rfl, rfl⟩
  · exact ⟨Nat.zero_le _, fun j hj => absurd hj (Nat.not_lt_zero _), rfl⟩
  rintro i M1 ⟨hi, hq, rfl⟩
  conv => whnf
  repeat' (first | (refine ⟨⟨[], rfl⟩, _, PH.Le.refl _, PH.Le.refl _, ?_⟩; conv => whnf) | (refine caseB_true ?_; conv => whnf) | (refine caseB_false ?_; conv => whnf) | ((with_reducible refine caseB_dec (fun h => ?_) (fun h => ?_)) <;> conv => whnf) | ((with_reducible refine caseB_ndec (fun h => ?_) (fun h => ?_)) <;> conv => whnf) | ((with_reducible refine caseB_not (fun h => ?_) (fun h => ?_)) <;> conv => whnf) | (with_reducible refine @And.intro (guardVC _ _ _ _ _) _ ?_ ?_) <;> conv => whnf | (refine caseB_intro (fun h => ?_) (fun h => ?_) <;> (try simp only [Bool.not_eq_true', Bool.not_eq_false', decide_eq_true_eq, decide_eq_false_iff_not] at h) <;> conv => whnf))
  · have hi' : i < ws.length := by omega
    have hw : IntKind.i64.wrap ((i : Int) + 1) = (i : Int) + 1 := wr_id (by omega) (by omega)
    obtain ⟨hA, _, hc⟩ := hs.get hi'
    refine loop_rule (fun j : Nat => ⟨slots 78 [(1, .bp 0 0), (3, .v (.slice A ws.length c)), (6, .v (I i)), (7, .v (I j))], [stBox x]⟩) (fun j M' => j ≤ i ∧ (∀ b, ∀ hb : b < j, ∀ hb : b < ws.length, (fun x : EnA => x.c.key) ws[i] ≠ (fun x : EnA => x.c.key) ws[b]) ∧ M' = M1) (fun j => i - j) 0 ?_ ?_ ?_
    · exact ⟨by simp [slots, leT], ⟨[], rfl⟩, (by first | exact Nat.zero_le _ | exact Nat.le_refl _), rfl, rfl⟩
    · exact ⟨Nat.zero_le _, fun j hj => absurd hj (Nat.not_lt_zero _), rfl⟩
    rintro j M2 ⟨hj, hr, rfl⟩
    conv => whnf
    repeat' (first | (refine ⟨⟨[], rfl⟩, _, PH.Le.refl _, PH.Le.refl _, ?_⟩; conv => whnf) | (refine caseB_true ?_; conv => whnf) | (refine caseB_false ?_; conv => whnf) | ((with_reducible refine caseB_dec (fun h => ?_) (fun h => ?_)) <;> conv => whnf) | ((with_reducible refine caseB_ndec (fun h => ?_) (fun h => ?_)) <;> conv => whnf) | ((with_reducible refine caseB_not (fun h => ?_) (fun h => ?_)) <;> conv => whnf) | (with_reducible refine @And.intro (guardVC _ _ _ _ _) _ ?_ ?_) <;> conv => whnf | (refine caseB_intro (fun h => ?_) (fun h => ?_) <;> (try simp only [Bool.not_eq_true', Bool.not_eq_false', decide_eq_true_eq, decide_eq_false_iff_not] at h) <;> conv => whnf))
    · have hj' : j < i := by omega
      have hj2 : j < ws.length := by omega
      have hw2 : IntKind.i64.wrap ((j : Int) + 1) = (j : Int) + 1 := wr_id (by omega) (by omega)
      obtain ⟨_, _, hc2⟩ := hs.get hj2
      repeat' (first | (refine ⟨⟨[], rfl⟩, _, PH.Le.refl _, PH.Le.refl _, ?_⟩; conv => whnf) | (refine ⟨_, cells_cut hc2 0 rfl, ?_⟩; conv => whnf) | (refine ⟨_, cells_cut hc 0 rfl, ?_⟩; conv => whnf) | (refine ⟨by omega, by omega, hA, ?_⟩; conv => whnf) | (refine caseB_true ?_; conv => whnf) | (refine caseB_false ?_; conv => whnf) | ((with_reducible refine caseB_dec (fun h => ?_) (fun h => ?_)) <;> conv => whnf) | ((with_reducible refine caseB_ndec (fun h => ?_) (fun h => ?_)) <;> conv => whnf) | ((with_reducible refine caseB_not (fun h => ?_) (fun h => ?_)) <;> conv => whnf) | (refine draw_rule (.light 0 <| .light 1 <| .light 2 <| .light 3 <| .light 4 <| .light 5 <| .light 6 <| .light 7 <| .light 8 <| .light 9 <| .light 10 <| .done) (by decide +kernel) ?_; conv => whnf) | (refine draw_rule (.light 0 <| .light 2 <| .light 3 <| .alt 1 false (.light 4 <| .light 5 <| .light 6 <| .light 7 <| .light 9 <| .light 10 <| .alt 8 false (.light 11 <| .light 12 <| .done) .nil) .nil) (by decide +kernel) ?_; conv => whnf) | (with_reducible refine @And.intro (guardVC _ _ _ _ _) _ ?_ ?_) <;> conv => whnf | (refine caseB_intro (fun h => ?_) (fun h => ?_) <;> (try simp only [Bool.not_eq_true', Bool.not_eq_false', decide_eq_true_eq, decide_eq_false_iff_not] at h) <;> conv => whnf))
      · exact ⟨_, PH.Le.refl _, (by rw [e2, asB_false (fun hh => aptG_no hi' hj' (seq_iff.1 h) (keyE_apt.1 hh))]; rfl), hle⟩
      · exact ⟨j + 1, ⟨by simp [slots, leT, hw2], ⟨[], rfl⟩, (by first | exact Nat.zero_le _ | exact Nat.le_refl _), rfl, rfl⟩, ⟨by omega, fun b hb hb' => by
          rcases Nat.lt_succ_iff_lt_or_eq.1 hb with h1 | h1
          · exact hr b h1 hb'
          · subst h1; exact (seq_ne.1 h), rfl⟩, by omega⟩
    · have : j = i := by omega
      subst this
      exact ⟨j + 1, ⟨by simp [slots, leT, hw], ⟨[], rfl⟩, (by first | exact Nat.zero_le _ | exact Nat.le_refl _), rfl, rfl⟩, ⟨by omega, fun a ha ha' b hb => by
          rcases Nat.lt_succ_iff_lt_or_eq.1 ha with h1 | h1
          · exact hq a h1 ha' b hb
          · subst h1; exact hr b hb (by omega), rfl⟩, by omega⟩

  rw [asB_true (keyE_apt.2 (aptG_yes fun a ha => hq a (by omega) ha)), if_neg (by simp)] at e2
  repeat' (first | (refine ⟨⟨[], rfl⟩, _, PH.Le.refl _, PH.Le.refl _, ?_⟩; conv => whnf) | (refine caseB_true ?_; conv => whnf) | (refine caseB_false ?_; conv => whnf) | ((with_reducible refine caseB_dec (fun h => ?_) (fun h => ?_)) <;> conv => whnf) | ((with_reducible refine caseB_ndec (fun h => ?_) (fun h => ?_)) <;> conv => whnf) | ((with_reducible refine caseB_not (fun h => ?_) (fun h => ?_)) <;> conv => whnf) | (refine Ret.go (l8Costs_ret A c ws _ hE hd hwn) ?_; conv => whnf) | (refine Ret.go (l8Costs_ret x.kA x.kc x.kp _ hk1 d2 (by omega)) ?_; conv => whnf) | (refine draw_rule (.light 0 <| .light 1 <| .light 2 <| .light 3 <| .light 4 <| .light 5 <| .light 6 <| .light 7 <| .light 8 <| .light 9 <| .light 10 <| .done) (by decide +kernel) ?_; conv => whnf) | (refine draw_rule (.light 0 <| .light 2 <| .light 3 <| .alt 1 false (.light 4 <| .light 5 <| .light 6 <| .light 7 <| .light 9 <| .light 10 <| .alt 8 false (.light 11 <| .light 12 <| .done) .nil) .nil) (by decide +kernel) ?_; conv => whnf) | (with_reducible refine @And.intro (guardVC _ _ _ _ _) _ ?_ ?_) <;> conv => whnf | (refine caseB_intro (fun h => ?_) (fun h => ?_) <;> (try simp only [Bool.not_eq_true', Bool.not_eq_false', decide_eq_true_eq, decide_eq_false_iff_not] at h) <;> conv => whnf))
  all_goals exact ⟨_, PH.Le.refl _, by rw [e2]; simp [resV, *], hle⟩
/-- The place of the first of a slice that a function is true of; -1 if there is none. -/
theorem indexFuncEn1 (ty : TypeId) (y : EnA) (g : FuncId) (p : EnA → Bool) (A : Option Addr) (c : Nat) (ws : List EnA) (M : PH) (hs : Sl M A 13 EnA.cs ws) (hn : ws.length ≤ 4294967296)
    (hg : ∀ x ∈ ws, XCall env g (.v x.val :: [.bp 0 0]) [⟨ty, y.cs.map .v⟩] M fun r b M' => r = B (p x) ∧ b = [⟨ty, y.cs.map .v⟩] ∧ M' = M) :
    XCall env 148 [.v (.slice A ws.length c), .fn g [0]] [⟨ty, y.cs.map .v⟩] M fun r b M' => r = I (idxF p ws) ∧ b = [⟨ty, y.cs.map .v⟩] ∧ M' = M := by
  refine xcall_of_vc Tryz.func148 rfl _ Tryz.ntmps148 _ rfl (fun _ _ => Tryz.call148 _ _) rfl (fun w0 ρ0 => ?_)
  conv => whnf
  refine loop_rule (fun i : Nat => ⟨slots 19 [(0, .v (.slice A ws.length c)), (1, .fn g [0]), (4, .v (I 0)), (7, .v (I ws.length)), (8, .v (I i))], [⟨ty, y.cs.map .v⟩]⟩) (fun i M' => i ≤ ws.length ∧ (∀ j, j < i → ∀ h : j < ws.length, p ws[j] = false) ∧ M' = M) (fun i => ws.length - i) 0 ?_ ?_ ?_
  · exact ⟨by simp [slots, leT], ⟨[], rfl⟩, (by first | exact Nat.zero_le _ | exact Nat.le_refl _), rfl, rfl⟩
  · exact ⟨Nat.zero_le _, fun j hj => absurd hj (Nat.not_lt_zero _), rfl⟩
  · rintro i M' ⟨hi, hp, rfl⟩
    conv => whnf
    repeat' (first | (refine ⟨⟨[], rfl⟩, _, PH.Le.refl _, PH.Le.refl _, ?_⟩; conv => whnf) | (refine caseB_true ?_; conv => whnf) | (refine caseB_false ?_; conv => whnf) | ((with_reducible refine caseB_dec (fun h => ?_) (fun h => ?_)) <;> conv => whnf) | ((with_reducible refine caseB_ndec (fun h => ?_) (fun h => ?_)) <;> conv => whnf) | ((with_reducible refine caseB_not (fun h => ?_) (fun h => ?_)) <;> conv => whnf) | (with_reducible refine @And.intro (guardVC _ _ _ _ _) _ ?_ ?_) <;> conv => whnf | (refine caseB_intro (fun h => ?_) (fun h => ?_) <;> (try simp only [Bool.not_eq_true', Bool.not_eq_false', decide_eq_true_eq, decide_eq_false_iff_not] at h) <;> conv => whnf))
    · have hi' : i < ws.length := by omega
      have hw : IntKind.i64.wrap ((i : Int) + 1) = (i : Int) + 1 := wr_id (by omega) (by omega)
      obtain ⟨hA, _, hc⟩ := hs.get hi'
      refine ⟨by omega, by omega, hA, ?_⟩
      conv => whnf
      refine ⟨ws[i].cs, hc, rfl, ?_⟩
      conv => whnf
      refine XCall.mono (hg ws[i] (List.getElem_mem hi')) fun r b M' hh => ?_
      obtain ⟨rfl, rfl, rfl⟩ := hh
      conv => whnf
      refine caseB_intro (fun hx => ?_) (fun hx => ?_)
      · conv => whnf
        exact ⟨_, PH.Le.refl _, by rw [idxF_at p ws i hi' hp hx]; rfl, rfl, rfl⟩
      · conv => whnf
        exact ⟨i + 1, ⟨by simp [slots, leT, hw], ⟨[], rfl⟩, (by first | exact Nat.zero_le _ | exact Nat.le_refl _), rfl, rfl⟩, ⟨by omega, fun j hj h => by
          rcases Nat.lt_succ_iff_lt_or_eq.1 hj with h1 | h1
          · exact hp j h1 h
          · subst h1; exact hx, rfl⟩, by omega⟩
    · exact ⟨_, PH.Le.refl _, by rw [idxF_no p ws (fun j h => hp j (by omega) h)]; rfl, rfl, rfl⟩

theorem containsFuncEn1 (ty : TypeId) (y : EnA) (g : FuncId) (p : EnA → Bool) (A : Option Addr) (c : Nat) (ws : List EnA) (M : PH) (hs : Sl M A 13 EnA.cs ws) (hn : ws.length ≤ 4294967296)
    (hg : ∀ x ∈ ws, XCall env g (.v x.val :: [.bp 0 0]) [⟨ty, y.cs.map .v⟩] M fun r b M' => r = B (p x) ∧ b = [⟨ty, y.cs.map .v⟩] ∧ M' = M) :
    XCall env 93 [.v (.slice A ws.length c), .fn g [0]] [⟨ty, y.cs.map .v⟩] M fun r b M' => r = B (ws.any p) ∧ b = [⟨ty, y.cs.map .v⟩] ∧ M' = M := by
  refine xcall_of_vc Tryz.func93 rfl _ Tryz.ntmps93 _ rfl (fun _ _ => Tryz.call93 _ _) rfl (fun w0 ρ0 => ?_)
  conv => whnf
  refine XCall.mono (indexFuncEn1 ty y g p A c ws M hs hn hg) fun r b M' hh => ?_
  obtain ⟨rfl, rfl, rfl⟩ := hh
  conv => whnf
  exact ⟨_, PH.Le.refl _, by rw [idxF_any p ws]; rfl, rfl, rfl⟩

theorem storeF1_ret (y w : EnA) (M : PH) : XCall env 94 [.v w.val, .bp 0 0] [⟨44, y.cs.map .v⟩] M fun r b M' => r = B (seq w.c.key y.c.key) ∧ b = [⟨44, y.cs.map .v⟩] ∧ M' = M := by
  refine xcall_of_vc Tryz.func94 rfl _ Tryz.ntmps94 _ rfl (fun _ _ => Tryz.call94 _ _) rfl (fun w0 ρ0 => ?_)
  conv => whnf
  exact ⟨_, PH.Le.refl _, rfl, rfl, rfl⟩
theorem anyK_yes {ws : List EnA} {i : Nat} (hi : i < ws.length) (h : ((ws.take i).any fun w => seq w.c.key ws[i].c.key) = true) : ¬ AptG (fun x : EnA => x.c.key) ws := by
  rw [List.any_eq_true] at h
  obtain ⟨w, hw, e⟩ := h
  obtain ⟨j, hj, rfl⟩ := List.getElem_of_mem hw
  simp at hj e
  exact aptG_no hi (by omega) (seq_iff.1 e).symm
theorem anyK_no {ws : List EnA} {i : Nat} (hi : i < ws.length) (h : ((ws.take i).any fun w => seq w.c.key ws[i].c.key) = false) : ∀ b, ∀ hb : b < i, ws[i].c.key ≠ ws[b].c.key := by
  rw [List.any_eq_false] at h
  intro b hb e
  have := h ws[b] (by rw [List.mem_take_iff_getElem]; exact ⟨b, by omega, rfl⟩)
  simp [e, seq_self] at this
set_option maxHeartbeats 2000000 in
theorem storeFault_impl (x : StA) (M : PH) (hi : x.inn M) (hco : x.c.cost ≤ 1048576) : Ret 33 [x.val] M (I (stFault x.c)) := by
  have hc1 : costL En.cost (conts x.tr) ≤ 1048576 := by unfold Sc.cost StA.c at hco; simp only at hco; omega
  have hc2 : costL En.cost (conts x.kp) ≤ 1048576 := by unfold Sc.cost StA.c at hco; simp only at hco; omega
  obtain ⟨n1, d1⟩ := costE hc1
  obtain ⟨n2, d2⟩ := costE hc2
  have hal := all_conts x
  have hwl : x.c.all.length = (x.tr ++ x.kp).length := by rw [hal, List.length_map]
  have hd : ∀ y ∈ x.tr ++ x.kp, y.c.cost ≤ 1048576 := fun y hy => (List.mem_append.1 hy).elim (fun h => d1 y h) (fun h => d2 y h)
  have hwn : (x.tr ++ x.kp).length ≤ 2097152 := by rw [List.length_append]; omega
  refine Ret.of ?_
  refine xcall_of_vc Tryz.func33 rfl _ Tryz.ntmps33 _ rfl (fun _ _ => Tryz.call33 _ _) rfl (fun w0 ρ0 => ?_)
  conv => whnf
  refine ACall.step (entries_ret x M hi n1 n2) fun v M1 hh => ?_
  obtain ⟨o, A, c, rfl, hN⟩ := hh
  have hE := all_ens hi hN
  have hle := hN.le
  have hk1 := hi.k.mono hle
  have hcost := storeCost_ret x M1 (hi.mono hle) hco
  rw [hal] at hcost
  have hs := hE.sl
  have hcap := hN.ow.le
  conv => whnf
  repeat' (first | (refine ⟨⟨[], rfl⟩, _, PH.Le.refl _, PH.Le.refl _, ?_⟩; conv => whnf) | (refine caseB_true ?_; conv => whnf) | (refine caseB_false ?_; conv => whnf) | ((with_reducible refine caseB_dec (fun h => ?_) (fun h => ?_)) <;> conv => whnf) | ((with_reducible refine caseB_ndec (fun h => ?_) (fun h => ?_)) <;> conv => whnf) | ((with_reducible refine caseB_not (fun h => ?_) (fun h => ?_)) <;> conv => whnf) | (refine Ret.go (within_ret _ _ _ _) ?_; conv => whnf) | (with_reducible refine @And.intro (guardVC _ _ _ _ _) _ ?_ ?_) <;> conv => whnf | (refine caseB_intro (fun h => ?_) (fun h => ?_) <;> (try simp only [Bool.not_eq_true', Bool.not_eq_false', decide_eq_true_eq, decide_eq_false_iff_not] at h) <;> conv => whnf))
  · exact ⟨_, PH.Le.refl _, by simp [resV, stFault, StA.c, *], hle⟩
  · exact ⟨_, PH.Le.refl _, by simp [resV, stFault, StA.c, *], hle⟩
  · rename_i h1 h2
    rw [← hwl] at h
    exact ⟨_, PH.Le.refl _, by rw [stF_len h1 h2 h]; rfl, hle⟩
  rename_i h1 h2
  rw [← hwl] at h
  have e2 := stF_rest h1 h2 h hal
  clear h hwl hal
  generalize x.tr ++ x.kp = ws at *
  refine loop_rule (fun i : Nat => ⟨slots 66 [(1, .bp 0 0), (3, .v (.slice A ws.length c)), (28, .v (.slice A ws.length c)), (29, .v (I ws.length)), (30, .v (I i))], [stBox x]⟩) (fun i M' => i ≤ ws.length ∧ (∀ j, j < i → ∀ h : j < ws.length, enFault ws[j].c = 0) ∧ M' = M1) (fun i => ws.length - i) 0 ?_ ?_ ?_
  · exact ⟨by simp [slots, leT], ⟨[], rfl⟩, (by first | exact Nat.zero_le _ | exact Nat.le_refl _), rfl, rfl⟩
  · exact ⟨Nat.zero_le _, fun j hj => absurd hj (Nat.not_lt_zero _), rfl⟩
  rintro i M' ⟨hi0, hp, rfl⟩
  conv => whnf
  refine caseB_dec (fun h0 => ?_) (fun h0 => ?_)
  · have h0 : (i : Int) < ws.length := h0
    have hi' : i < ws.length := by omega
    have hw : IntKind.i64.wrap ((i : Int) + 1) = (i : Int) + 1 := wr_id (by omega) (by omega)
    obtain ⟨hA, _, hc⟩ := hs.get hi'
    have hx := hE.inn ws[i] (List.getElem_mem hi')
    have hxc := hd ws[i] (List.getElem_mem hi')
    conv => whnf
    repeat' (first | (refine ⟨⟨[], rfl⟩, _, PH.Le.refl _, PH.Le.refl _, ?_⟩; conv => whnf) | (refine ⟨ws[i].cs, hc, rfl, ?_⟩; conv => whnf) | (refine ⟨by omega, by omega, hA, ?_⟩; conv => whnf) | (refine caseB_true ?_; conv => whnf) | (refine caseB_false ?_; conv => whnf) | ((with_reducible refine caseB_dec (fun h => ?_) (fun h => ?_)) <;> conv => whnf) | ((with_reducible refine caseB_ndec (fun h => ?_) (fun h => ?_)) <;> conv => whnf) | ((with_reducible refine caseB_not (fun h => ?_) (fun h => ?_)) <;> conv => whnf) | (refine Ret.go (entryFault_impl ws[i] _ hx hxc) ?_; conv => whnf) | (with_reducible refine @And.intro (guardVC _ _ _ _ _) _ ?_ ?_) <;> conv => whnf | (refine caseB_intro (fun h => ?_) (fun h => ?_) <;> (try simp only [Bool.not_eq_true', Bool.not_eq_false', decide_eq_true_eq, decide_eq_false_iff_not] at h) <;> conv => whnf))
    · rename_i h
      have e1 : firstF enFault (conts ws) = enFault ws[i].c := by rw [conts, firstF_map]; exact firstF_at hi' hp h
      exact ⟨_, PH.Le.refl _, by rw [e2, e1, if_pos h]; rfl, hle⟩
    · rename_i h
      exact ⟨i + 1, ⟨by simp [slots, leT, hw], ⟨_, rfl⟩, (by first | exact Nat.zero_le _ | exact Nat.le_refl _), rfl, rfl⟩, ⟨by omega, fun j hj hjl => (Nat.lt_succ_iff_lt_or_eq.1 hj).elim (fun h1 => hp j h1 hjl) (fun e => by subst e; exact h), rfl⟩, by omega⟩
  have hi' : i = ws.length := by have : ¬ (i : Int) < ws.length := h0; omega
  subst hi'
  rw [show firstF enFault (conts ws) = 0 by rw [conts, firstF_map]; exact firstF_no fun j h => hp j h h, if_neg (by simp)] at e2
  clear hp h0
  conv => whnf
  refine loop_rule (fun i : Nat => ⟨slots 66 [(1, .bp 0 0), (3, .v (.slice A ws.length c)), (40, .v (.slice A ws.length c)), (41, .v (I ws.length)), (42, .v (I i))], [stBox x]⟩) (fun i M2 => i ≤ ws.length ∧ (∀ a, a < i → ∀ ha : a < ws.length, ∀ b, ∀ hb : b < a, ws[a].c.key ≠ ws[b].c.key) ∧ M2 = M') (fun i => ws.length - i) 0 ?_ ?_ ?_
  · exact ⟨by simp [slots, leT], ⟨[], rfl⟩, (by first | exact Nat.zero_le _ | exact Nat.le_refl _), rfl, rfl⟩
  · exact ⟨Nat.zero_le _, fun j hj => absurd hj (Nat.not_lt_zero _), rfl⟩
  rintro i M2 ⟨hi0, hq, rfl⟩
  conv => whnf
  refine caseB_dec (fun h0 => ?_) (fun h0 => ?_)
  · have h0 : (i : Int) < ws.length := h0
    have hi' : i < ws.length := by omega
    have hw : IntKind.i64.wrap ((i : Int) + 1) = (i : Int) + 1 := wr_id (by omega) (by omega)
    obtain ⟨hA, _, hc⟩ := hs.get hi'
    have hcut : Sl M2 (subA A 0 13 c) 13 EnA.cs (ws.take i) := by
      have := hs.cut (l := 0) (u := i) (m := c) (Nat.zero_le _) (by omega)
      simpa using this
    have hlen : (ws.take i).length = i := by simp; omega
    have hcf := containsFuncEn1 44 ws[i] 94 (fun w => seq w.c.key ws[i].c.key) (subA A 0 13 c) c (ws.take i) M2 hcut (by omega) fun w _ => storeF1_ret ws[i] w M2
    rw [hlen] at hcf
    have hyes := anyK_yes hi'
    have hno := anyK_no hi'
    generalize ((ws.take i).any fun w => seq w.c.key ws[i].c.key) = an at *
    conv => whnf
    repeat' (first | (refine ⟨⟨[], rfl⟩, _, PH.Le.refl _, PH.Le.refl _, ?_⟩; conv => whnf) | (refine ⟨⟨by omega, by omega, by omega⟩, ?_⟩; conv => whnf) | (refine ⟨ws[i].cs, hc, rfl, ?_⟩; conv => whnf) | (refine ⟨by omega, by omega, hA, ?_⟩; conv => whnf) | (refine caseB_true ?_; conv => whnf) | (refine caseB_false ?_; conv => whnf) | ((with_reducible refine caseB_dec (fun h => ?_) (fun h => ?_)) <;> conv => whnf) | ((with_reducible refine caseB_ndec (fun h => ?_) (fun h => ?_)) <;> conv => whnf) | ((with_reducible refine caseB_not (fun h => ?_) (fun h => ?_)) <;> conv => whnf) | (with_reducible refine @And.intro (guardVC _ _ _ _ _) _ ?_ ?_) <;> conv => whnf | (refine caseB_intro (fun h => ?_) (fun h => ?_) <;> (try simp only [Bool.not_eq_true', Bool.not_eq_false', decide_eq_true_eq, decide_eq_false_iff_not] at h) <;> conv => whnf))
    refine XCall.lift hcf [1] ?_ (by simp) (by simp) (by simp [AV.plain]) ?_
    · first | rfl | simp [ren, AV.plain]
    rintro r bs' M3 ⟨rfl, rfl, rfl⟩
    refine ⟨by simp [AV.plain], ?_⟩
    conv => whnf
    refine caseB_intro (fun h => ?_) (fun h => ?_)
    · conv => whnf
      exact ⟨_, PH.Le.refl _, by rw [e2, asB_false (fun hh => hyes h (keyE_apt.1 hh))]; rfl, hle⟩
    · conv => whnf
      exact ⟨i + 1, ⟨by simp [slots, leT, hw], ⟨_, rfl⟩, (by first | exact Nat.zero_le _ | exact Nat.le_refl _), rfl, rfl⟩, ⟨by omega, fun a ha ha' b hb => by
            rcases Nat.lt_succ_iff_lt_or_eq.1 ha with h1 | h1
            · exact hq a h1 ha' b hb
            · subst h1; exact hno h b hb, rfl⟩, by omega⟩
  have hi' : i = ws.length := by have : ¬ (i : Int) < ws.length := h0; omega
  subst hi'
  rw [asB_true (keyE_apt.2 (aptG_yes fun a ha => hq a ha ha)), if_neg (by simp)] at e2
  clear hq h0
  conv => whnf
  repeat' (first | (refine ⟨⟨[], rfl⟩, _, PH.Le.refl _, PH.Le.refl _, ?_⟩; conv => whnf) | (refine caseB_true ?_; conv => whnf) | (refine caseB_false ?_; conv => whnf) | ((with_reducible refine caseB_dec (fun h => ?_) (fun h => ?_)) <;> conv => whnf) | ((with_reducible refine caseB_ndec (fun h => ?_) (fun h => ?_)) <;> conv => whnf) | ((with_reducible refine caseB_not (fun h => ?_) (fun h => ?_)) <;> conv => whnf) | (refine Ret.go (costOf_ret x.kA x.kc x.kp _ hk1 d2 (by omega)) ?_; conv => whnf) | (refine Ret.go (hcost) ?_; conv => whnf) | (refine draw_rule (.light 0 <| .light 2 <| .light 3 <| .alt 1 false (.light 4 <| .light 5 <| .light 6 <| .light 7 <| .light 9 <| .light 10 <| .alt 8 false (.light 11 <| .light 12 <| .done) .nil) .nil) (by decide +kernel) ?_; conv => whnf) | (with_reducible refine @And.intro (guardVC _ _ _ _ _) _ ?_ ?_) <;> conv => whnf | (refine caseB_intro (fun h => ?_) (fun h => ?_) <;> (try simp only [Bool.not_eq_true', Bool.not_eq_false', decide_eq_true_eq, decide_eq_false_iff_not] at h) <;> conv => whnf))
  all_goals exact ⟨_, PH.Le.refl _, by rw [e2]; simp [resV, *], hle⟩
end Go.Proofs.YtgjaiabenjafeaaGreatDoor
