/-
  CONTRACTS: what is drawn from the source: numbers, choices, chances, times.
-/
import Derived.Test.YtffddijdfeafnaaCi
namespace Go.Proofs.Ytffddijdfeafnaa
set_option maxRecDepth 100000
set_option linter.unusedSimpArgs false
open Go.Xe
/-- Memory kept, but for block g. -/
def Kp (g : Nat) (M M' : PH) : Prop := ∀ j o, j ≠ g → M j = some o → M' j = some o
theorem Kp.refl (g : Nat) (M : PH) : Kp g M M := fun _ _ _ h => h
theorem Kp.trans {g : Nat} {A B C : PH} (h : Kp g A B) (k : Kp g B C) : Kp g A C := fun j o hj ho => k j o hj (h j o hj ho)
theorem Kp.of_set (g : Nat) (M : PH) (o : Obj) : Kp g M (M.set g o) := fun j x hj h => by rw [PH.set_other _ _ hj]; exact h
theorem Kp.of_le {g : Nat} {M M' : PH} (h : M.Le M') : Kp g M M' := fun j o _ ho => h j o ho
theorem Kp.le {g : Nat} {M M' : PH} {o : Obj} (h : Kp g M M') (ho : M' g = some o) : (M.set g o).Le M' := fun j x hx => by
  by_cases e : j = g
  · subst e; rw [PH.set_same] at hx; cases hx; exact ho
  · rw [PH.set_other _ _ e] at hx; exact h j x e hx
theorem Kp.set {g : Nat} {M M' : PH} (h : Kp g M M') (o : Obj) : (M.set g o).Le (M'.set g o) := fun j x hx => by
  by_cases e : j = g
  · subst e; rw [PH.set_same] at hx ⊢; exact hx
  · rw [PH.set_other _ _ e] at hx ⊢; exact h j x e hx
theorem set_self {M : PH} {g : Nat} {o : Obj} (h : M g = some o) : M.set g o = M := by
  funext j
  unfold PH.set
  split
  · rename_i e; rw [e, h]
  · rfl
/-- The source stands at g, asked at most B times. -/
structure Src (B : Int) (M : PH) (g : Nat) : Prop where
  ex : ∃ (A : Option Addr) (c : Nat) (k : Int) (bs : List Int), M g = some (srcO A bs.length c k) ∧ (∀ o, Byt (M.set g o) A bs) ∧ 0 ≤ k ∧ k ≤ B
theorem Src.has {B : Int} {M : PH} {g : Nat} (h : Src B M g) : ∃ o, M g = some o := by
  obtain ⟨A, c, k, bs, h, _⟩ := h.ex
  exact ⟨_, h⟩
theorem next_ret (B : Int) (g : Nat) (n : Int) (M : PH) (h : Src B M g) (hB : B ≤ 4294967296) :
    ACall env 90 [P0 g, I n] M fun r M' => ∃ x, r = I x ∧ (1 ≤ n → 0 ≤ x ∧ x < n) ∧ Src (B + 1) M' g ∧ Kp g M M' := by
  obtain ⟨A, c, k, bs, hg, hb, h0, hk⟩ := h.ex
  have hb1 := hb (srcO A bs.length c k)
  rw [set_self hg] at hb1
  refine (l1Next_ret g A c k n bs M hg hb1 hb h0 (by omega)).mono fun r M' ⟨x, hr, hx, hM⟩ => ⟨x, hr, hx, ?_, ?_⟩
  · subst hM
    exact ⟨A, c, k + 1, bs, PH.set_same _ _ _, fun o => by rw [set_set]; exact hb o, by omega, by omega⟩
  · subst hM; exact Kp.of_set g M _
abbrev inC (x : Int) : List Value := [I x]
theorem pick_ret (B : Int) (g : Nat) (A : Option Addr) (c : Nat) (xs : List Int) (M : PH) (h : Src B M g) (hB : B ≤ 4294967296) (hs : ∀ o, Sl (M.set g o) A 1 inC xs) (hx : 1 ≤ xs.length) :
    ACall env 89 [P0 g, .slice A xs.length c] M fun r M' => ∃ x, r = I x ∧ Src (B + 1) M' g ∧ Kp g M M' := by
  refine xcall_of_vc Try.func89 rfl _ Try.ntmps89 _ rfl (fun _ _ => Try.call89 _ _) rfl (fun w0 ρ0 => ?_)
  conv => whnf
  refine ACall.step (next_ret B g xs.length M h hB) fun r M' h1 => ?_
  obtain ⟨x, rfl, hx1, hS, hK⟩ := h1
  conv => whnf
  obtain ⟨l0, u0⟩ := hx1 (by omega)
  obtain ⟨o, ho⟩ := hS.has
  have hi : x.toNat < xs.length := by omega
  obtain ⟨hA, _, hc⟩ := ((hs o).mono (hK.le ho)).get hi
  refine ⟨l0, u0, hA, ?_⟩
  conv => whnf
  refine ⟨I xs[x.toNat], hc, ?_⟩
  conv => whnf
  exact ⟨_, PH.Le.refl _, _, rfl, hS, hK⟩
theorem chance_ret (B : Int) (g : Nat) (n : Int) (M : PH) (h : Src B M g) (hB : B ≤ 4294967296) :
    ACall env 106 [P0 g, I n] M fun r M' => ∃ x : Bool, r = Value.bool x ∧ Src (B + 1) M' g ∧ Kp g M M' := by
  refine xcall_of_vc Try.func106 rfl _ Try.ntmps106 _ rfl (fun _ _ => Try.call106 _ _) rfl (fun w0 ρ0 => ?_)
  conv => whnf
  refine ACall.step (next_ret B g n M h hB) fun r M' h1 => ?_
  obtain ⟨x, rfl, _, hS, hK⟩ := h1
  conv => whnf
  exact ⟨_, PH.Le.refl _, _, rfl, hS, hK⟩
theorem Src.mono {B : Int} {M M' : PH} {g : Nat} (h : Src B M g) (l : M.Le M') : Src B M' g := by
  obtain ⟨A, c, k, bs, hg, hb, h0, hk⟩ := h.ex
  exact ⟨A, c, k, bs, l _ _ hg, fun o => (hb o).mono ((Kp.of_le (g := g) l).set o), h0, hk⟩
theorem Src.le {B B' : Int} {M : PH} {g : Nat} (h : Src B M g) (l : B ≤ B') : Src B' M g := by
  obtain ⟨A, c, k, bs, hg, hb, h0, hk⟩ := h.ex
  exact ⟨A, c, k, bs, hg, hb, h0, by omega⟩
theorem set_comm {M : PH} {g g' : Nat} (h : g' ≠ g) (o o' : Obj) : (M.set g' o').set g o = (M.set g o).set g' o' := by
  funext j
  unfold PH.set
  by_cases e : j = g
  · subst e; simp [Ne.symm h]
  · simp [e]
/-- A choice among numbers laid down just now. -/
theorem pick_new (B : Int) (g g' : Nat) (xs : List Int) (M : PH) (hg' : M g' = none) (h : Src B M g) (hB : B ≤ 4294967296) (hx : 1 ≤ xs.length) :
    ACall env 89 [P0 g, .slice (some ⟨g', 0, none⟩) xs.length xs.length] (M.set g' (.cells (xs.flatMap inC).toArray 2 (0, 0))) fun r M' => ∃ x, r = I x ∧ Src (B + 1) M' g ∧ Kp g M M' := by
  obtain ⟨o, ho⟩ := h.has
  have hne : g' ≠ g := by rintro rfl; rw [hg'] at ho; cases ho
  have l := PH.Le.set (.cells (xs.flatMap inC).toArray 2 (0, 0)) hg'
  refine (pick_ret B g _ _ xs _ (h.mono l) hB (fun o => ?_) hx).mono fun r M' ⟨x, hr, hS, hK⟩ => ⟨x, hr, hS, (Kp.of_le l).trans hK⟩
  rw [set_comm hne]
  exact sl_full (f := inC) (fun _ => rfl) _ g' xs 2 (0, 0)
theorem drawTime_ret (B : Int) (g : Nat) (M : PH) (h : Src B M g) (hB : B ≤ 4294967000) :
    ACall env 108 [P0 g] M fun r M' => ∃ x, r = I x ∧ Src (B + 3) M' g ∧ Kp g M M' := by
  refine xcall_of_vc Try.func108 rfl _ Try.ntmps108 _ rfl (fun _ _ => Try.call108 _ _) rfl (fun w0 ρ0 => ?_)
  conv => whnf
  refine ACall.step (next_ret B g 5000 M h (by omega)) fun r M1 h1 => ?_
  obtain ⟨x1, rfl, _, s1, k1⟩ := h1
  conv => whnf
  refine ACall.step (next_ret _ g 900000 M1 s1 (by omega)) fun r M2 h2 => ?_
  obtain ⟨x2, rfl, _, s2, k2⟩ := h2
  conv => whnf
  intro g' hg'
  conv => whnf
  refine ACall.step (pick_new _ g g' [0, 1, 1000, x1, x2, 1000000000000000, 999999999999999, 500000000000000, 500000000000001] M2 hg' s2 (by omega) (by simp)) fun r M3 h3 => ?_
  obtain ⟨x3, rfl, s3, k3⟩ := h3
  conv => whnf
  exact ⟨_, PH.Le.refl _, _, rfl, s3.le (by omega), (k1.trans k2).trans k3⟩
theorem l7Draw_ret (B : Int) (g : Nat) (M : PH) (h : Src B M g) (hB : B ≤ 4294960000) :
    ACall env 105 [P0 g] M fun r M' => ∃ m : Mt, r = m.v ∧ Src (B + 20) M' g ∧ Kp g M M' := by
  refine xcall_of_vc Try.func105 rfl _ Try.ntmps105 _ rfl (fun _ _ => Try.call105 _ _) rfl (fun w0 ρ0 => ?_)
  conv => whnf
  refine ACall.step (chance_ret _ g 9 M h (by omega)) fun r M1 hh => ?_
  obtain ⟨x1, rfl, s1, k1⟩ := hh
  conv => whnf
  refine caseB_intro (fun hx => ?_) (fun hx => ?_)
  · conv => whnf
    refine ACall.step (drawTime_ret _ g M1 s1 (by omega)) fun r M2 hh => ?_
    obtain ⟨x2, rfl, s2, k2⟩ := hh
    conv => whnf
    have kk2 := k1.trans k2
    refine ACall.step (drawTime_ret _ g M2 s2 (by omega)) fun r M3 hh => ?_
    obtain ⟨x3, rfl, s3, k3⟩ := hh
    conv => whnf
    have kk3 := kk2.trans k3
    refine ACall.step (drawTime_ret _ g M3 s3 (by omega)) fun r M4 hh => ?_
    obtain ⟨x4, rfl, s4, k4⟩ := hh
    conv => whnf
    have kk4 := kk3.trans k4
    refine ACall.step (drawTime_ret _ g M4 s4 (by omega)) fun r M5 hh => ?_
    obtain ⟨x5, rfl, s5, k5⟩ := hh
    conv => whnf
    have kk5 := kk4.trans k5
    refine ACall.step (drawTime_ret _ g M5 s5 (by omega)) fun r M6 hh => ?_
    obtain ⟨x6, rfl, s6, k6⟩ := hh
    conv => whnf
    have kk6 := kk5.trans k6
    refine ACall.step (chance_ret _ g 4 M6 s6 (by omega)) fun r M7 hh => ?_
    obtain ⟨x7, rfl, s7, k7⟩ := hh
    conv => whnf
    have kk7 := kk6.trans k7
    exact ⟨_, PH.Le.refl _, ⟨x2, x3, x4, x5, x6, x7, false⟩, rfl, s7.le (by omega), kk7⟩
  · conv => whnf
    refine ACall.step (next_ret _ g 900 M1 s1 (by omega)) fun r M2 hh => ?_
    obtain ⟨x2, rfl, b2, s2, k2⟩ := hh
    conv => whnf
    have kk2 := k1.trans k2
    intro g3 hg3
    conv => whnf
    refine ACall.step (pick_new _ g g3 [0, 0, 500, 1000] M2 hg3 s2 (by omega) (by simp)) fun r M3 hh => ?_
    obtain ⟨x3, rfl, s3, k3⟩ := hh
    conv => whnf
    have kk3 := kk2.trans k3
    intro g4 hg4
    conv => whnf
    refine ACall.step (pick_new _ g g4 [0, 1000, 2000, 5000] M3 hg4 s3 (by omega) (by simp)) fun r M4 hh => ?_
    obtain ⟨x4, rfl, s4, k4⟩ := hh
    conv => whnf
    have kk4 := kk3.trans k4
    intro g5 hg5
    conv => whnf
    refine ACall.step (pick_new _ g g5 [0, 1000, 3000] M4 hg5 s4 (by omega) (by simp)) fun r M5 hh => ?_
    obtain ⟨x5, rfl, s5, k5⟩ := hh
    conv => whnf
    have kk5 := kk4.trans k5
    intro g6 hg6
    conv => whnf
    refine ACall.step (pick_new _ g g6 [0, 2000, 4000] M5 hg6 s5 (by omega) (by simp)) fun r M6 hh => ?_
    obtain ⟨x6, rfl, s6, k6⟩ := hh
    conv => whnf
    have kk6 := kk5.trans k6
    refine ACall.step (chance_ret _ g 5 M6 s6 (by omega)) fun r M7 hh => ?_
    obtain ⟨x7, rfl, s7, k7⟩ := hh
    conv => whnf
    have kk7 := kk6.trans k7
    refine ACall.step (chance_ret _ g 6 M7 s7 (by omega)) fun r M8 hh => ?_
    obtain ⟨x8, rfl, s8, k8⟩ := hh
    conv => whnf
    have kk8 := kk7.trans k8
    exact ⟨_, PH.Le.refl _, ⟨x2, x3, x4, x5, x6, x7, x8⟩, rfl, s8.le (by omega), kk8⟩
theorem l7Bent_ret (B : Int) (g : Nat) (M : PH) (h : Src B M g) (hB : B ≤ 4294960000) :
    ACall env 101 [P0 g] M fun r M' => ∃ m : Mt, r = m.v ∧ Src (B + 21) M' g ∧ Kp g M M' := by
  refine xcall_of_vc Try.func101 rfl _ Try.ntmps101 _ rfl (fun _ _ => Try.call101 _ _) rfl (fun w0 ρ0 => ?_)
  conv => whnf
  refine ACall.step (l7Draw_ret B g M h hB) fun r M1 hh => ?_
  obtain ⟨m, rfl, s1, k1⟩ := hh
  conv => whnf
  refine ACall.step (next_ret _ g 20 M1 s1 (by omega)) fun r M2 hh => ?_
  obtain ⟨x, rfl, _, s2, k2⟩ := hh
  conv => whnf
  repeat' (first | (refine ⟨⟨[], rfl⟩, _, PH.Le.refl _, PH.Le.refl _, ?_⟩; conv => whnf) | (refine caseB_true ?_; conv => whnf) | (refine caseB_false ?_; conv => whnf) | ((with_reducible refine caseB_dec (fun h => ?_) (fun h => ?_)) <;> conv => whnf) | ((with_reducible refine caseB_ndec (fun h => ?_) (fun h => ?_)) <;> conv => whnf) | ((with_reducible refine caseB_not (fun h => ?_) (fun h => ?_)) <;> conv => whnf) | (refine caseB_intro (fun h => ?_) (fun h => ?_) <;> (try simp only [Bool.not_eq_true', Bool.not_eq_false', decide_eq_true_eq, decide_eq_false_iff_not] at h) <;> conv => whnf))
  · exact ⟨_, PH.Le.refl _, ⟨-1, m.age, m.life, m.swr, m.sie, m.soft, m.nocache⟩, rfl, s2.le (by omega), k1.trans k2⟩
  · exact ⟨_, PH.Le.refl _, ⟨m.at_, 1000000000000001, m.life, m.swr, m.sie, m.soft, m.nocache⟩, rfl, s2.le (by omega), k1.trans k2⟩
  · exact ⟨_, PH.Le.refl _, ⟨m.at_, m.age, m.life, m.swr, -1, m.soft, m.nocache⟩, rfl, s2.le (by omega), k1.trans k2⟩
  · exact ⟨_, PH.Le.refl _, m, rfl, s2.le (by omega), k1.trans k2⟩
theorem l6Draw_ret (B : Int) (g : Nat) (M : PH) (h : Src B M g) (hB : B ≤ 4294960000) :
    ACall env 107 [P0 g] M fun r M' => ∃ p : Pl, r = p.v ∧ Src (B + 19) M' g ∧ Kp g M M' := by
  refine xcall_of_vc Try.func107 rfl _ Try.ntmps107 _ rfl (fun _ _ => Try.call107 _ _) rfl (fun w0 ρ0 => ?_)
  conv => whnf
  refine ACall.step (chance_ret _ g 6 M h (by omega)) fun r M1 hh => ?_
  obtain ⟨x1, rfl, s1, k1⟩ := hh
  conv => whnf
  refine ACall.step (chance_ret _ g 6 M1 s1 (by omega)) fun r M2 hh => ?_
  obtain ⟨x2, rfl, s2, k2⟩ := hh
  conv => whnf
  have kk2 := k1.trans k2
  refine ACall.step (chance_ret _ g 6 M2 s2 (by omega)) fun r M3 hh => ?_
  obtain ⟨x3, rfl, s3, k3⟩ := hh
  conv => whnf
  have kk3 := kk2.trans k3
  refine ACall.step (drawTime_ret _ g M3 s3 (by omega)) fun r M4 hh => ?_
  obtain ⟨x4, rfl, s4, k4⟩ := hh
  conv => whnf
  have kk4 := kk3.trans k4
  intro g5 hg5
  conv => whnf
  refine ACall.step (pick_new _ g g5 [0, 1000, 5000, -1, x4] M4 hg5 s4 (by omega) (by simp)) fun r M5 hh => ?_
  obtain ⟨x5, rfl, s5, k5⟩ := hh
  conv => whnf
  have kk5 := kk4.trans k5
  refine ACall.step (drawTime_ret _ g M5 s5 (by omega)) fun r M6 hh => ?_
  obtain ⟨x6, rfl, s6, k6⟩ := hh
  conv => whnf
  have kk6 := kk5.trans k6
  intro g7 hg7
  conv => whnf
  refine ACall.step (pick_new _ g g7 [0, 2000, x6] M6 hg7 s6 (by omega) (by simp)) fun r M7 hh => ?_
  obtain ⟨x7, rfl, s7, k7⟩ := hh
  conv => whnf
  have kk7 := kk6.trans k7
  refine ACall.step (drawTime_ret _ g M7 s7 (by omega)) fun r M8 hh => ?_
  obtain ⟨x8, rfl, s8, k8⟩ := hh
  conv => whnf
  have kk8 := kk7.trans k8
  intro g9 hg9
  conv => whnf
  refine ACall.step (pick_new _ g g9 [0, 3000, x8] M8 hg9 s8 (by omega) (by simp)) fun r M9 hh => ?_
  obtain ⟨x9, rfl, s9, k9⟩ := hh
  conv => whnf
  have kk9 := kk8.trans k9
  refine ACall.step (drawTime_ret _ g M9 s9 (by omega)) fun r M10 hh => ?_
  obtain ⟨x10, rfl, s10, k10⟩ := hh
  conv => whnf
  have kk10 := kk9.trans k10
  intro g11 hg11
  conv => whnf
  refine ACall.step (pick_new _ g g11 [0, 0, 1000, x10] M10 hg11 s10 (by omega) (by simp)) fun r M11 hh => ?_
  obtain ⟨x11, rfl, s11, k11⟩ := hh
  conv => whnf
  have kk11 := kk10.trans k11
  exact ⟨_, PH.Le.refl _, ⟨x1, x2, x3, x5, x7, x9, x11⟩, rfl, s11.le (by omega), kk11⟩
theorem src_new {M : PH} {A : Option Addr} {bs : List Int} (h : Byt M A bs) {g : Nat} (hg : M g = none) (c : Nat) {k B : Int} (h0 : 0 ≤ k) (hk : k ≤ B) : Src B (M.set g (srcO A bs.length c k)) g :=
  ⟨A, c, k, bs, PH.set_same _ _ _, fun o => by rw [set_set]; exact h.mono (PH.Le.set o hg), h0, hk⟩
theorem Kp.new {M M' : PH} {g : Nat} {o : Obj} (hg : M g = none) (h : Kp g (M.set g o) M') : M.Le M' := fun j x hx => by
  have hne : j ≠ g := by rintro rfl; rw [hg] at hx; cases hx
  exact h j x hne (by rw [PH.set_other _ _ hne]; exact hx)
theorem drawPolicy_ret (A : Option Addr) (c : Nat) (bs : List Int) (M : PH) (hb : Byt M A bs) :
    ACall env 103 [.slice A bs.length c] M fun r M' => ∃ p : Pl, r = p.v ∧ M.Le M' := by
  refine xcall_of_vc Try.func103 rfl _ Try.ntmps103 _ rfl (fun _ _ => Try.call103 _ _) rfl (fun w0 ρ0 => ?_)
  conv => whnf
  refine ACall.step (l1Source_ret A c bs M) fun r M0 hh => ?_
  obtain ⟨g, hg, rfl, rfl⟩ := hh
  conv => whnf
  refine ACall.step (l6Draw_ret 0 g _ (src_new hb hg c (Int.le_refl 0) (Int.le_refl 0)) (by omega)) fun r M1 hh => ?_
  obtain ⟨p, rfl, s1, k1⟩ := hh
  conv => whnf
  refine ACall.step (next_ret _ g 9 M1 s1 (by omega)) fun r M2 hh => ?_
  obtain ⟨x, rfl, _, s2, k2⟩ := hh
  conv => whnf
  have l2 := (k1.trans k2).new hg
  repeat' (first | (refine ⟨⟨[], rfl⟩, _, PH.Le.refl _, PH.Le.refl _, ?_⟩; conv => whnf) | (refine caseB_true ?_; conv => whnf) | (refine caseB_false ?_; conv => whnf) | ((with_reducible refine caseB_dec (fun h => ?_) (fun h => ?_)) <;> conv => whnf) | ((with_reducible refine caseB_ndec (fun h => ?_) (fun h => ?_)) <;> conv => whnf) | ((with_reducible refine caseB_not (fun h => ?_) (fun h => ?_)) <;> conv => whnf) | (refine caseB_intro (fun h => ?_) (fun h => ?_) <;> (try simp only [Bool.not_eq_true', Bool.not_eq_false', decide_eq_true_eq, decide_eq_false_iff_not] at h) <;> conv => whnf))
  · intro g' hg'
    conv => whnf
    refine ACall.step (pick_new _ g g' [-2, 1000000000000001] M2 hg' s2 (by omega) (by simp)) fun r M3 hh => ?_
    obtain ⟨y, rfl, s3, k3⟩ := hh
    conv => whnf
    exact ⟨_, PH.Le.refl _, ⟨p.b0, p.b1, p.b2, y, p.n4, p.n5, p.n6⟩, rfl, ((k1.trans k2).trans k3).new hg⟩
  · exact ⟨_, PH.Le.refl _, ⟨p.b0, p.b1, p.b2, p.n3, -1, p.n5, p.n6⟩, rfl, l2⟩
  · exact ⟨_, PH.Le.refl _, ⟨p.b0, p.b1, p.b2, p.n3, p.n4, p.n5, 1000000000000001⟩, rfl, l2⟩
  · exact ⟨_, PH.Le.refl _, p, rfl, l2⟩
theorem drawStoreLife_ret (A : Option Addr) (c : Nat) (bs : List Int) (M : PH) (hb : Byt M A bs) :
    ACall env 91 [.slice A bs.length c] M fun r M' => ∃ (p : Pl) (a b : Int), r = .tuple #[p.v, I a, I b] ∧ M.Le M' := by
  refine xcall_of_vc Try.func91 rfl _ Try.ntmps91 _ rfl (fun _ _ => Try.call91 _ _) rfl (fun w0 ρ0 => ?_)
  conv => whnf
  refine ACall.step (l1Later_ret A c bs 1 M) fun r M0 hh => ?_
  obtain ⟨g, hg, rfl, rfl⟩ := hh
  conv => whnf
  have s0 : Src 100 _ g := src_new hb hg c (k := wr (5 + wr (7 * 1))) (by decide) (by decide)
  refine ACall.step (drawPolicy_ret A c bs _ (hb.mono (PH.Le.set _ hg))) fun r M1 hh => ?_
  obtain ⟨p, rfl, l1⟩ := hh
  conv => whnf
  have s1 := s0.mono l1
  intro g1 hg1
  conv => whnf
  refine ACall.step (pick_new _ g g1 [200, 200, 404, 410, 500, 304, 199, 600] M1 hg1 s1 (by omega) (by simp)) fun r M2 hh => ?_
  obtain ⟨x, rfl, s2, k2⟩ := hh
  conv => whnf
  intro g2 hg2
  conv => whnf
  refine ACall.step (pick_new _ g g2 [0, 1000, 1000, 1000000000000000, -1] M2 hg2 s2 (by omega) (by simp)) fun r M3 hh => ?_
  obtain ⟨y, rfl, s3, k3⟩ := hh
  conv => whnf
  exact ⟨_, PH.Le.refl _, p, x, y, rfl, (((Kp.of_le l1).trans k2).trans k3).new hg⟩
/-- Memory without block g. -/
def rm (M : PH) (g : Nat) : PH := fun j => if j = g then none else M j
theorem rm_le (M : PH) (g : Nat) : (rm M g).Le M := fun j o h => by
  unfold rm at h
  split at h
  · cases h
  · exact h
theorem Kp.rm {g : Nat} {M M' : PH} (h : Kp g M M') : (rm M g).Le M' := fun j o hj => by
  unfold Proofs.Ytffddijdfeafnaa.rm at hj
  split at hj
  · cases hj
  · rename_i e; exact h j o e hj
theorem Sl.rm {α : Type} {M : PH} {g' g : Nat} {f : α → List Value} {xs : List α} {sz : Nat} (h : Sl M (some ⟨g', 0, none⟩) sz f xs) (hne : g' ≠ g) : Sl (Proofs.Ytffddijdfeafnaa.rm M g) (some ⟨g', 0, none⟩) sz f xs := by
  refine ⟨h.ne, fun i x hx => ⟨(h.at_ i x hx).1, ?_⟩⟩
  obtain ⟨a, ha, hc⟩ := (h.at_ i x hx).2
  cases ha
  refine ⟨_, rfl, fun j v hv => ?_⟩
  have := hc j v hv
  rw [add_at] at this ⊢
  simpa [PH.cell, Proofs.Ytffddijdfeafnaa.rm, hne] using this
theorem l7Now_ret (B : Int) (g : Nat) (m : Mt) (M : PH) (h : Src B M g) (hB : B ≤ 4294960000) :
    XCall env 102 [.v (P0 g), .bp 0 0] [m.b] M fun r bs M' => ∃ x, r = I x ∧ bs = [m.b] ∧ Src (B + 5) M' g ∧ Kp g M M' := by
  refine xcall_of_vc Try.func102 rfl _ Try.ntmps102 _ rfl (fun _ _ => Try.call102 _ _) rfl (fun w0 ρ0 => ?_)
  conv => whnf
  repeat' (first | (refine ⟨⟨[], rfl⟩, _, PH.Le.refl _, PH.Le.refl _, ?_⟩; conv => whnf) | (refine caseB_true ?_; conv => whnf) | (refine caseB_false ?_; conv => whnf) | ((with_reducible refine caseB_dec (fun h => ?_) (fun h => ?_)) <;> conv => whnf) | ((with_reducible refine caseB_ndec (fun h => ?_) (fun h => ?_)) <;> conv => whnf) | ((with_reducible refine caseB_not (fun h => ?_) (fun h => ?_)) <;> conv => whnf) | (refine draw_rule (.light 0 <| .light 1 <| .light 2 <| .light 3 <| .light 4 <| .light 5 <| .light 6 <| .light 7 <| .light 8 <| .light 9 <| .light 10 <| .light 11 <| .light 12 <| .light 13 <| .light 14 <| .light 15 <| .light 16 <| .light 17 <| .light 18 <| .light 19 <| .light 20 <| .light 21 <| .light 22 <| .light 23 <| .light 24 <| .light 25 <| .light 26 <| .light 27 <| .light 28 <| .light 29 <| .alt 30 false (.light 31 <| .done) .nil) (by decide +kernel) ?_; conv => whnf) | (refine draw_rule (.light 0 <| .light 1 <| .light 2 <| .light 3 <| .light 4 <| .light 5 <| .light 10 <| .light 11 <| .light 12 <| .light 13 <| .light 15 <| .alt 6 false (.light 7 <| .light 8 <| .light 9 <| .light 14 <| .alt 16 false (.alt 17 false (.light 18 <| .light 19 <| .done) .nil) .nil) (.alt 16 false (.alt 6 false (.light 7 <| .light 8 <| .light 9 <| .light 14 <| .alt 17 false (.light 18 <| .light 19 <| .done) .nil) .nil) .nil)) (by decide +kernel) ?_; conv => whnf) | (refine caseB_intro (fun h => ?_) (fun h => ?_) <;> (try simp only [Bool.not_eq_true', Bool.not_eq_false', decide_eq_true_eq, decide_eq_false_iff_not] at h) <;> conv => whnf))
  intro g1 hg1
  have l1 := PH.Le.set (.cells (([0, m.life, IntKind.i64.wrap (m.life + m.swr), IntKind.i64.wrap (m.life + m.sie), m.swr, m.sie] : List Int).flatMap inC).toArray 2 (0, 0)) hg1
  refine ⟨⟨[], rfl⟩, _, l1, PH.Le.refl _, ?_⟩
  conv => whnf
  obtain ⟨og, hog⟩ := h.has
  have hne : g1 ≠ g := by rintro rfl; rw [hg1] at hog; cases hog
  have s1 := h.mono l1
  have hsl := Sl.rm (sl_full (f := inC) (fun _ => rfl) M g1 [0, m.life, IntKind.i64.wrap (m.life + m.swr), IntKind.i64.wrap (m.life + m.sie), m.swr, m.sie] 2 (0, 0)) hne
  refine draw_ruleF (.light 0 <| .light 1 <| .light 2 <| .light 3 <| .light 4 <| .light 5 <| .light 10 <| .light 11 <| .light 12 <| .light 13 <| .light 15 <| .alt 6 false (.light 7 <| .light 8 <| .light 9 <| .light 14 <| .alt 16 false (.alt 17 false (.light 18 <| .light 19 <| .done) .nil) .nil) (.alt 16 false (.alt 6 false (.light 7 <| .light 8 <| .light 9 <| .light 14 <| .alt 17 false (.light 18 <| .light 19 <| .done) .nil) .nil) .nil)) (by decide +kernel) (rm_le _ g) ?_
  conv => whnf
  refine ⟨?_, ?_⟩
  · refine ACall.step (next_ret B g 6 _ s1 (by omega)) fun r M2 hh => ?_
    obtain ⟨x, rfl, hx, s2, k2⟩ := hh
    obtain ⟨l0, u0⟩ := hx (by omega)
    have hi : x.toNat < 6 := by omega
    obtain ⟨_, _, hc⟩ := hsl.get hi
    refine ⟨⟨[], rfl⟩, _, PH.Le.refl _, k2.rm, ?_⟩
    conv => whnf
    refine ⟨l0, u0, rfl, ?_⟩
    conv => whnf
    refine ⟨_, hc, ?_⟩
    conv => whnf
    intro g2 hg2
    refine ⟨⟨[], rfl⟩, _, PH.Le.refl _, k2.rm.trans (PH.Le.set _ hg2), ?_⟩
    conv => whnf
    refine ACall.step (pick_new _ g g2 [0, 0, -1, 1, 300] M2 hg2 s2 (by omega) (by simp)) fun r M3 hh => ?_
    obtain ⟨y, rfl, s3, k3⟩ := hh
    refine ⟨⟨[], rfl⟩, _, PH.Le.refl _, (k2.trans k3).rm, ?_⟩
    conv => whnf
    have kk := (Kp.of_le l1).trans (k2.trans k3)
    repeat' (first | (refine ⟨⟨[], rfl⟩, _, PH.Le.refl _, PH.Le.refl _, ?_⟩; conv => whnf) | (refine ACall.step (chance_ret _ g 9 _ s3 (by omega)) fun r M7 hh => ?_; obtain ⟨cb, rfl, s7, k7⟩ := hh; conv => whnf) | (refine caseB_true ?_; conv => whnf) | (refine caseB_false ?_; conv => whnf) | ((with_reducible refine caseB_dec (fun h => ?_) (fun h => ?_)) <;> conv => whnf) | ((with_reducible refine caseB_ndec (fun h => ?_) (fun h => ?_)) <;> conv => whnf) | ((with_reducible refine caseB_not (fun h => ?_) (fun h => ?_)) <;> conv => whnf) | (refine caseB_intro (fun h => ?_) (fun h => ?_) <;> (try simp only [Bool.not_eq_true', Bool.not_eq_false', decide_eq_true_eq, decide_eq_false_iff_not] at h) <;> conv => whnf))
    all_goals first | (intro g4 hg4; (conv => whnf); refine ACall.step (pick_new _ g g4 [1000000000000000, 1000000000000000, 1000000000000000, 1000000000000000, 1000000000000001] _ hg4 s7 (by omega) (by simp)) fun r M8 hh => ?_; obtain ⟨z, rfl, s8, k8⟩ := hh; (conv => whnf); refine Ret.go (l1Min_ret _ _ _) ?_; (conv => whnf); exact ⟨_, PH.Le.refl _, _, rfl, rfl, s8.le (by omega), (kk.trans k7).trans k8⟩) | (intro g4 hg4; (conv => whnf); refine ACall.step (pick_new _ g g4 [1000000000000000, 1000000000000000, 1000000000000000, 1000000000000000, 1000000000000001] _ hg4 s3 (by omega) (by simp)) fun r M8 hh => ?_; obtain ⟨z, rfl, s8, k8⟩ := hh; (conv => whnf); refine Ret.go (l1Min_ret _ _ _) ?_; (conv => whnf); exact ⟨_, PH.Le.refl _, _, rfl, rfl, s8.le (by omega), kk.trans k8⟩)
  · intro g2 hg2
    have hne2 : g2 ≠ g := by
      rintro rfl
      exact nomatch ((l1 _ _ hog).symm.trans hg2 : some og = none)
    have l2 := PH.Le.set (.cells (([0, 0, -1, 1, 300] : List Int).flatMap inC).toArray 2 (0, 0)) hg2
    refine ⟨⟨[], rfl⟩, _, PH.Le.refl _, (rm_le _ g).trans l2, ?_⟩
    conv => whnf
    refine ACall.step (next_ret B g 6 _ (s1.mono l2) (by omega)) fun r M2 hh => ?_
    obtain ⟨x, rfl, hx, s2, k2⟩ := hh
    obtain ⟨l0, u0⟩ := hx (by omega)
    have hi : x.toNat < 6 := by omega
    obtain ⟨_, _, hc⟩ := hsl.get hi
    have k12 := (Kp.of_le l2).trans k2
    refine ⟨⟨[], rfl⟩, _, PH.Le.refl _, k12.rm, ?_⟩
    conv => whnf
    refine ⟨l0, u0, rfl, ?_⟩
    conv => whnf
    refine ⟨_, hc, ?_⟩
    conv => whnf
    refine ACall.step (pick_ret _ g (some ⟨g2, 0, none⟩) _ [0, 0, -1, 1, 300] M2 s2 (by omega) (fun o => Sl.mono (by rw [set_comm hne2]; exact sl_full (f := inC) (fun _ => rfl) _ g2 [0, 0, -1, 1, 300] 2 (0, 0)) (k2.set o)) (by simp)) fun r M3 hh => ?_
    obtain ⟨y, rfl, s3, k3⟩ := hh
    refine ⟨⟨[], rfl⟩, _, PH.Le.refl _, (k12.trans k3).rm, ?_⟩
    conv => whnf
    have kk := (Kp.of_le l1).trans (k12.trans k3)
    repeat' (first | (refine ⟨⟨[], rfl⟩, _, PH.Le.refl _, PH.Le.refl _, ?_⟩; conv => whnf) | (refine ACall.step (chance_ret _ g 9 _ s3 (by omega)) fun r M7 hh => ?_; obtain ⟨cb, rfl, s7, k7⟩ := hh; conv => whnf) | (refine caseB_true ?_; conv => whnf) | (refine caseB_false ?_; conv => whnf) | ((with_reducible refine caseB_dec (fun h => ?_) (fun h => ?_)) <;> conv => whnf) | ((with_reducible refine caseB_ndec (fun h => ?_) (fun h => ?_)) <;> conv => whnf) | ((with_reducible refine caseB_not (fun h => ?_) (fun h => ?_)) <;> conv => whnf) | (refine caseB_intro (fun h => ?_) (fun h => ?_) <;> (try simp only [Bool.not_eq_true', Bool.not_eq_false', decide_eq_true_eq, decide_eq_false_iff_not] at h) <;> conv => whnf))
    all_goals first | (intro g4 hg4; (conv => whnf); refine ACall.step (pick_new _ g g4 [1000000000000000, 1000000000000000, 1000000000000000, 1000000000000000, 1000000000000001] _ hg4 s7 (by omega) (by simp)) fun r M8 hh => ?_; obtain ⟨z, rfl, s8, k8⟩ := hh; (conv => whnf); refine Ret.go (l1Min_ret _ _ _) ?_; (conv => whnf); exact ⟨_, PH.Le.refl _, _, rfl, rfl, s8.le (by omega), (kk.trans k7).trans k8⟩) | (intro g4 hg4; (conv => whnf); refine ACall.step (pick_new _ g g4 [1000000000000000, 1000000000000000, 1000000000000000, 1000000000000000, 1000000000000001] _ hg4 s3 (by omega) (by simp)) fun r M8 hh => ?_; obtain ⟨z, rfl, s8, k8⟩ := hh; (conv => whnf); refine Ret.go (l1Min_ret _ _ _) ?_; (conv => whnf); exact ⟨_, PH.Le.refl _, _, rfl, rfl, s8.le (by omega), kk.trans k8⟩)
end Go.Proofs.Ytffddijdfeafnaa
