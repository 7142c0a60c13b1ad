/-
  CONTRACTS AND THE LAW: the same stores.
-/
import Derived.Test.YtgjaiabenjafeaaGreatDoorPa
namespace Go.Proofs.YtgjaiabenjafeaaGreatDoor
set_option maxRecDepth 100000
set_option linter.unusedSimpArgs false
set_option linter.unusedVariables false
open Go.Xe
def Ebs (ws : List EnA) : Prop := ∀ x ∈ ws, bytesOk x.c.body
theorem equalFuncEn (g : FuncId) (A A' : Option Addr) (c c' : Nat) (ws us : List EnA) (M : PH) (hs : Sl M A 13 EnA.cs ws) (hs' : Sl M A' 13 EnA.cs us) (hn : ws.length ≤ 1048576)
    (hg : ∀ x y, x ∈ ws → y ∈ us → Ret g [x.val, y.val] M (B (sameB x.c y.c))) :
    XCall env 88 [.v (.slice A ws.length c), .v (.slice A' us.length c'), .fn g []] [] M fun r b M' => r = B (sameB (ws.map (·.c)) (us.map (·.c))) ∧ b = [] ∧ M' = M := by
  have hne : ∀ i (h1 : i < ws.length) (h2 : i < us.length), ws[i].c ≠ us[i].c → ws.map (·.c) ≠ us.map (·.c) := fun i h1 h2 h e => h (by
    have := congrArg (fun l : List En => l[i]?) e
    simpa [h1, h2] using this)
  refine xcall_of_vc Tryz.func88 rfl _ Tryz.ntmps88 _ rfl (fun _ _ => Tryz.call88 _ _) rfl (fun w0 ρ0 => ?_)
  conv => whnf
  repeat' (first | (refine ⟨⟨[], rfl⟩, _, PH.Le.refl _, PH.Le.refl _, ?_⟩; conv => whnf) | (refine caseB_true ?_; conv => whnf) | (refine caseB_false ?_; conv => whnf) | ((with_reducible refine caseB_dec (fun h => ?_) (fun h => ?_)) <;> conv => whnf) | ((with_reducible refine caseB_ndec (fun h => ?_) (fun h => ?_)) <;> conv => whnf) | ((with_reducible refine caseB_not (fun h => ?_) (fun h => ?_)) <;> conv => whnf) | (with_reducible refine @And.intro (guardVC _ _ _ _ _) _ ?_ ?_) <;> conv => whnf | (refine caseB_intro (fun h => ?_) (fun h => ?_) <;> (try simp only [Bool.not_eq_true', Bool.not_eq_false', decide_eq_true_eq, decide_eq_false_iff_not] at h) <;> conv => whnf))
  · refine ⟨_, PH.Le.refl _, ?_, rfl, rfl⟩
    rw [sameB_false (fun e => by have := congrArg List.length e; simp at this; omega)]
    rfl
  refine loop_rule (fun i : Nat => ⟨slots 32 [(0, .v (.slice A ws.length c)), (1, .v (.slice A' us.length c')), (2, .fn g []), (15, .v (.slice A ws.length c)), (16, .v (I ws.length)), (17, .v (I i))], []⟩) (fun i M' => i ≤ ws.length ∧ (ws.map (·.c)).take i = (us.map (·.c)).take i ∧ M' = M) (fun i => ws.length - i) 0 ?_ ?_ ?_
  · exact ⟨by simp [slots, leT], ⟨[], rfl⟩, Nat.zero_le _, rfl, rfl⟩
  · exact ⟨Nat.zero_le _, rfl, rfl⟩
  · rintro i M' ⟨hi, ht, rfl⟩
    conv => whnf
    repeat' (first | (refine ⟨⟨[], rfl⟩, _, PH.Le.refl _, PH.Le.refl _, ?_⟩; conv => whnf) | (refine caseB_true ?_; conv => whnf) | (refine caseB_false ?_; conv => whnf) | ((with_reducible refine caseB_dec (fun h => ?_) (fun h => ?_)) <;> conv => whnf) | ((with_reducible refine caseB_ndec (fun h => ?_) (fun h => ?_)) <;> conv => whnf) | ((with_reducible refine caseB_not (fun h => ?_) (fun h => ?_)) <;> conv => whnf) | (with_reducible refine @And.intro (guardVC _ _ _ _ _) _ ?_ ?_) <;> conv => whnf | (refine caseB_intro (fun h => ?_) (fun h => ?_) <;> (try simp only [Bool.not_eq_true', Bool.not_eq_false', decide_eq_true_eq, decide_eq_false_iff_not] at h) <;> conv => whnf))
    · have hi' : i < ws.length := by omega
      have hi2 : i < us.length := by omega
      have hw : IntKind.i64.wrap ((i : Int) + 1) = (i : Int) + 1 := wr_id (by omega) (by omega)
      obtain ⟨hA, _, hc⟩ := hs.get hi'
      obtain ⟨hA', _, hc'⟩ := hs'.get hi2
      repeat' (first | (refine ⟨⟨[], rfl⟩, _, PH.Le.refl _, PH.Le.refl _, ?_⟩; conv => whnf) | (refine ⟨us[i].cs, hc', rfl, ?_⟩; conv => whnf) | (refine ⟨ws[i].cs, hc, rfl, ?_⟩; conv => whnf) | (refine ⟨by omega, by omega, hA', ?_⟩; conv => whnf) | (refine ⟨by omega, by omega, hA, ?_⟩; conv => whnf) | (refine caseB_true ?_; conv => whnf) | (refine caseB_false ?_; conv => whnf) | ((with_reducible refine caseB_dec (fun h => ?_) (fun h => ?_)) <;> conv => whnf) | ((with_reducible refine caseB_ndec (fun h => ?_) (fun h => ?_)) <;> conv => whnf) | ((with_reducible refine caseB_not (fun h => ?_) (fun h => ?_)) <;> conv => whnf) | (refine Ret.go (hg ws[i] us[i] (List.getElem_mem hi') (List.getElem_mem hi2)) ?_; conv => whnf) | (with_reducible refine @And.intro (guardVC _ _ _ _ _) _ ?_ ?_) <;> conv => whnf | (refine caseB_intro (fun h => ?_) (fun h => ?_) <;> (try simp only [Bool.not_eq_true', Bool.not_eq_false', decide_eq_true_eq, decide_eq_false_iff_not] at h) <;> conv => whnf))
      · rename_i h
        refine ⟨_, PH.Le.refl _, ?_, rfl, rfl⟩
        rw [sameB_false (hne i hi' hi2 (fun e => by rw [sameB_true e] at h; cases h))]
        rfl
      · rename_i h
        exact ⟨i + 1, ⟨by simp [slots, leT, hw], ⟨_, rfl⟩, Nat.zero_le _, rfl, rfl⟩, ⟨by omega, take_step ht (by simpa using hi') (by simpa using hi2) (by simpa using sameB_iff.1 h), rfl⟩, by omega⟩
    · refine ⟨_, PH.Le.refl _, ?_, rfl, rfl⟩
      rw [sameB_true (take_all ht (by simp; omega) (by simp; omega))]
      rfl

theorem equalEntries_ret (A A' : Option Addr) (c c' : Nat) (ws us : List EnA) (M : PH) (h : Ens M A ws) (h' : Ens M A' us) (hc : costL En.cost (conts ws) ≤ 1048576) (ob : Ebs ws) (ob' : Ebs us) :
    XCall env 88 [.v (.slice A ws.length c), .v (.slice A' us.length c'), .fn 89 []] [] M fun r b M' => r = B (sameB (conts ws) (conts us)) ∧ b = [] ∧ M' = M :=
  equalFuncEn _ A A' c c' ws us M h.sl h'.sl (costE hc).1 fun x y hx hy => sameEntries_ret x y M (ens_cost h (n := 0) hc x hx) (h'.inn y hy) (ob x hx) (ob' y hy)
theorem l8SameLists_ret (A A' : Option Addr) (c c' : Nat) (ws us : List EnA) (M : PH) (he : Ens M A ws) (he' : Ens M A' us) (hc : costL En.cost (conts ws) ≤ 1048576) (ob : Ebs ws) (ob' : Ebs us) :
    Ret 90 [.slice A ws.length c, .slice A' us.length c'] M (B (sameB (conts ws) (conts us))) := by
  have hn := (costE hc).1
  have hne : ∀ i (h1 : i < ws.length) (h2 : i < us.length), ws[i].c ≠ us[i].c → conts ws ≠ conts us := fun i h1 h2 h e => h (by
    have := congrArg (fun l : List En => l[i]?) e
    simpa [h1, h2] using this)
  refine xcall_of_vc Tryz.func90 rfl _ Tryz.ntmps90 _ rfl (fun _ _ => Tryz.call90 _ _) rfl (fun w0 ρ0 => ?_)
  conv => whnf
  repeat' (first | (refine ⟨⟨[], rfl⟩, _, PH.Le.refl _, PH.Le.refl _, ?_⟩; conv => whnf) | (refine caseB_true ?_; conv => whnf) | (refine caseB_false ?_; conv => whnf) | ((with_reducible refine caseB_dec (fun h => ?_) (fun h => ?_)) <;> conv => whnf) | ((with_reducible refine caseB_ndec (fun h => ?_) (fun h => ?_)) <;> conv => whnf) | ((with_reducible refine caseB_not (fun h => ?_) (fun h => ?_)) <;> conv => whnf) | (with_reducible refine @And.intro (guardVC _ _ _ _ _) _ ?_ ?_) <;> conv => whnf | (refine caseB_intro (fun h => ?_) (fun h => ?_) <;> (try simp only [Bool.not_eq_true', Bool.not_eq_false', decide_eq_true_eq, decide_eq_false_iff_not] at h) <;> conv => whnf))
  · refine ⟨_, PH.Le.refl _, ?_, rfl⟩
    rw [sameB_false (fun e => by have := congrArg List.length e; simp at this; omega)]
    rfl
  refine loop_rule (fun i : Nat => ⟨slots 25 [(0, .v (.slice A ws.length c)), (1, .v (.slice A' us.length c')), (4, .v (B false)), (5, .v (I i))], []⟩) (fun i M' => i ≤ ws.length ∧ (conts ws).take i = (conts us).take i ∧ M' = M) (fun i => ws.length - i) 0 ?_ ?_ ?_
  · exact ⟨by simp [slots, leT], ⟨[], rfl⟩, Nat.zero_le _, rfl, rfl⟩
  · exact ⟨Nat.zero_le _, rfl, rfl⟩
  · rintro i M' ⟨hi, ht, rfl⟩
    conv => whnf
    repeat' (first | (refine ⟨⟨[], rfl⟩, _, PH.Le.refl _, PH.Le.refl _, ?_⟩; conv => whnf) | (refine caseB_true ?_; conv => whnf) | (refine caseB_false ?_; conv => whnf) | ((with_reducible refine caseB_dec (fun h => ?_) (fun h => ?_)) <;> conv => whnf) | ((with_reducible refine caseB_ndec (fun h => ?_) (fun h => ?_)) <;> conv => whnf) | ((with_reducible refine caseB_not (fun h => ?_) (fun h => ?_)) <;> conv => whnf) | (with_reducible refine @And.intro (guardVC _ _ _ _ _) _ ?_ ?_) <;> conv => whnf | (refine caseB_intro (fun h => ?_) (fun h => ?_) <;> (try simp only [Bool.not_eq_true', Bool.not_eq_false', decide_eq_true_eq, decide_eq_false_iff_not] at h) <;> conv => whnf))
    · have hi' : i < ws.length := by omega
      have hi2 : i < us.length := by omega
      have hw : IntKind.i64.wrap ((i : Int) + 1) = (i : Int) + 1 := wr_id (by omega) (by omega)
      obtain ⟨hA, _, hk⟩ := he.sl.get hi'
      obtain ⟨hA', _, hk'⟩ := he'.sl.get hi2
      have hr := l8SameEntry_ret A A' (i * 13) (i * 13) ws[i] us[i] _ hk hk' (ens_cost he (n := 0) hc _ (List.getElem_mem hi')) (he'.inn _ (List.getElem_mem hi2)) (ob _ (List.getElem_mem hi')) (ob' _ (List.getElem_mem hi2))
      repeat' (first | (refine ⟨⟨[], rfl⟩, _, PH.Le.refl _, PH.Le.refl _, ?_⟩; conv => whnf) | (refine RetE.go hr rfl ?_; conv => whnf) | (refine ⟨by omega, by omega, hA', ?_⟩; conv => whnf) | (refine ⟨by omega, by omega, hA, ?_⟩; conv => whnf) | (refine caseB_true ?_; conv => whnf) | (refine caseB_false ?_; conv => whnf) | ((with_reducible refine caseB_dec (fun h => ?_) (fun h => ?_)) <;> conv => whnf) | ((with_reducible refine caseB_ndec (fun h => ?_) (fun h => ?_)) <;> conv => whnf) | ((with_reducible refine caseB_not (fun h => ?_) (fun h => ?_)) <;> conv => whnf) | (refine draw_rule (.light 0 <| .light 1 <| .light 2 <| .light 3 <| .light 4 <| .light 5 <| .alt 6 false (.light 7 <| .done) .nil) (by decide +kernel) ?_; conv => whnf) | (with_reducible refine @And.intro (guardVC _ _ _ _ _) _ ?_ ?_) <;> conv => whnf | (refine caseB_intro (fun h => ?_) (fun h => ?_) <;> (try simp only [Bool.not_eq_true', Bool.not_eq_false', decide_eq_true_eq, decide_eq_false_iff_not] at h) <;> conv => whnf))
      · rename_i h
        refine ⟨_, PH.Le.refl _, ?_, rfl⟩
        rw [sameB_false (hne i hi' hi2 (fun e => by rw [sameB_true e] at h; cases h))]
        rfl
      · rename_i h
        exact ⟨i + 1, ⟨by simp [slots, leT, hw], ⟨[], rfl⟩, Nat.zero_le _, rfl, rfl⟩, ⟨by omega, take_step ht (by simpa using hi') (by simpa using hi2) (by simpa using sameB_iff.1 (by simpa using h)), rfl⟩, by omega⟩
    · refine ⟨_, PH.Le.refl _, ?_, rfl⟩
      rw [sameB_true (take_all ht (by simp; omega) (by simp; omega))]
      rfl
theorem sc_same {s t : Sc} (h1 : s.bud = t.bud) (h2 : s.gd = t.gd) (h3 : s.tr = t.tr) : sameB s t = sameB s.kp t.kp := by
  obtain ⟨a1, a2, a3, a4⟩ := s
  obtain ⟨b1, b2, b3, b4⟩ := t
  simp only at h1 h2 h3
  subst h1; subst h2; subst h3
  by_cases e : a4 = b4
  · rw [sameB_true e, sameB_true (by rw [e])]
  · rw [sameB_false e, sameB_false (fun h => e (by cases h; rfl))]
structure Sob (x : StA) : Prop where
  t : Ebs x.tr
  k : Ebs x.kp
theorem sameStores_spec (x y : StA) (M : PH) (hi : x.inn M) (hi' : y.inn M) (hc : x.c.cost ≤ 1048576) (ob : Sob x) (ob' : Sob y) :
    Ret 32 [x.val, y.val] M (B (sameB x.c y.c)) := by
  have hc1 : costL En.cost (conts x.tr) ≤ 1048576 := by unfold Sc.cost StA.c at hc; simp only at hc; omega
  have hc2 : costL En.cost (conts x.kp) ≤ 1048576 := by unfold Sc.cost StA.c at hc; simp only at hc; omega
  refine xcall_of_vc Tryz.func32 rfl _ Tryz.ntmps32 _ rfl (fun _ _ => Tryz.call32 _ _) rfl (fun w0 ρ0 => ?_)
  conv => whnf
  repeat' (first | (refine ⟨⟨[], rfl⟩, _, PH.Le.refl _, PH.Le.refl _, ?_⟩; conv => whnf) | (refine caseB_true ?_; conv => whnf) | (refine caseB_false ?_; conv => whnf) | ((with_reducible refine caseB_dec (fun h => ?_) (fun h => ?_)) <;> conv => whnf) | ((with_reducible refine caseB_ndec (fun h => ?_) (fun h => ?_)) <;> conv => whnf) | ((with_reducible refine caseB_not (fun h => ?_) (fun h => ?_)) <;> conv => whnf) | (refine Ret.go (l8SameLists_ret x.tA y.tA x.tc y.tc x.tr y.tr _ hi.t hi'.t hc1 ob.t ob'.t) ?_; conv => whnf) | (refine Ret.go (l8SameLists_ret x.kA y.kA x.kc y.kc x.kp y.kp _ hi.k hi'.k hc2 ob.k ob'.k) ?_; conv => whnf) | (with_reducible refine @And.intro (guardVC _ _ _ _ _) _ ?_ ?_) <;> conv => whnf | (refine caseB_intro (fun h => ?_) (fun h => ?_) <;> (try simp only [Bool.not_eq_true', Bool.not_eq_false', decide_eq_true_eq, decide_eq_false_iff_not] at h) <;> conv => whnf))
  all_goals refine ⟨_, PH.Le.refl _, ?_, rfl⟩
  all_goals first
    | (rw [sameB_false (fun e => h (congrArg Sc.bud e))]; rfl; done)
    | (rw [sameB_false (fun e => h (congrArg Sc.gd e))]; rfl; done)
    | (rw [sameB_false (fun e => by have e' : conts x.tr = conts y.tr := congrArg Sc.tr e; rw [sameB_true e'] at h; cases h)]; rfl; done)
    | (rw [sc_same (by assumption) (by assumption) (sameB_iff.1 (by assumption))]; rfl; done)
theorem sameStores_impl (x y : StA) (M : PH) (hi : x.inn M) (hi' : y.inn M) (hc : x.c.cost ≤ 1048576) (ob : Sob x) (ob' : Sob y) :
    Ret 31 [x.val, y.val] M (B (sameB x.c y.c)) := by
  have hc1 : costL En.cost (conts x.tr) ≤ 1048576 := by unfold Sc.cost StA.c at hc; simp only at hc; omega
  have hc2 : costL En.cost (conts x.kp) ≤ 1048576 := by unfold Sc.cost StA.c at hc; simp only at hc; omega
  refine xcall_of_vc Tryz.func31 rfl _ Tryz.ntmps31 _ rfl (fun _ _ => Tryz.call31 _ _) rfl (fun w0 ρ0 => ?_)
  conv => whnf
  repeat' (first | (refine ⟨⟨[], rfl⟩, _, PH.Le.refl _, PH.Le.refl _, ?_⟩; conv => whnf) | (refine XCall.go0 (equalEntries_ret x.kA y.kA x.kc y.kc x.kp y.kp _ hi.k hi'.k hc2 ob.k ob'.k) rfl ?_; conv => whnf) | (refine XCall.go0 (equalEntries_ret x.tA y.tA x.tc y.tc x.tr y.tr _ hi.t hi'.t hc1 ob.t ob'.t) rfl ?_; conv => whnf) | (refine caseB_true ?_; conv => whnf) | (refine caseB_false ?_; conv => whnf) | ((with_reducible refine caseB_dec (fun h => ?_) (fun h => ?_)) <;> conv => whnf) | ((with_reducible refine caseB_ndec (fun h => ?_) (fun h => ?_)) <;> conv => whnf) | ((with_reducible refine caseB_not (fun h => ?_) (fun h => ?_)) <;> conv => whnf) | (with_reducible refine @And.intro (guardVC _ _ _ _ _) _ ?_ ?_) <;> conv => whnf | (refine caseB_intro (fun h => ?_) (fun h => ?_) <;> (try simp only [Bool.not_eq_true', Bool.not_eq_false', decide_eq_true_eq, decide_eq_false_iff_not] at h) <;> conv => whnf))
  all_goals refine ⟨_, PH.Le.refl _, ?_, rfl⟩
  all_goals first
    | (rw [sameB_false (fun e => h (congrArg Sc.bud e))]; rfl; done)
    | (rw [sameB_false (fun e => h (congrArg Sc.gd e))]; rfl; done)
    | (rw [sameB_false (fun e => by have e' : conts x.tr = conts y.tr := congrArg Sc.tr e; rw [sameB_true e'] at h; cases h)]; rfl; done)
    | (rw [sc_same (by assumption) (by assumption) (sameB_iff.1 (by assumption))]; rfl; done)
theorem sob_of {x y : StA} (e : y.c = x.c) (o : x.c.okl) : Sob y := by
  obtain ⟨_, _, o1, o2⟩ := o
  rw [← e] at o1 o2
  exact ⟨fun z hz => (o1 z.c (List.mem_map_of_mem hz)).2.2.2.2.2.2, fun z hz => (o2 z.c (List.mem_map_of_mem hz)).2.2.2.2.2.2⟩
end Go.Proofs.YtgjaiabenjafeaaGreatDoor
