/-
  CONTRACTS: the source that the drawing laws draw from: a counter over the bytes that came in.
-/
import Derived.Test.YtdgipmlkkmmliaaGreatDoorOa
import Derived.Test.YtdgipmlkkmmliaaGreatDoorTd
import Derived.Test.YtdgipmlkkmmliaaGreatDoorXo
namespace Go.Proofs.YtdgipmlkkmmliaaGreatDoor
set_option maxRecDepth 100000
set_option linter.unusedSimpArgs false
set_option linter.unusedVariables false
open Go.ChangeShapes Go.WideShapes Go.RowKit Go.Xe
/-- The bytes that came in. -/
structure Byt (M : PH) (A : Option Addr) (bs : List Int) : Prop where
  sl : Sl M A 1 byC bs
  le : bs.length ≤ 2097152
  by_ : ∀ (i : Nat) b, bs[i]? = some b → 0 ≤ b ∧ b ≤ 255
theorem Byt.get {M : PH} {A : Option Addr} {bs : List Int} (h : Byt M A bs) {j : Int} (h0 : 0 ≤ j) (h1 : j < bs.length) : ∃ b, 0 ≤ b ∧ b ≤ 255 ∧ A.isSome = true ∧ M.cells A (j.toNat * 1) [.int .u8 b] := by
  have hi : j.toNat < bs.length := by omega
  obtain ⟨h2, _, h3⟩ := h.sl.get hi
  obtain ⟨h4, h5⟩ := h.by_ _ _ (List.getElem?_eq_getElem hi)
  exact ⟨_, h4, h5, h2, h3⟩
theorem Byt.mono {M M' : PH} {A : Option Addr} {bs : List Int} (h : Byt M A bs) (l : M.Le M') : Byt M' A bs := ⟨h.sl.mono l, h.le, h.by_⟩
theorem tmod_in {a n : Int} (h0 : 0 ≤ a) (h1 : 1 ≤ n) : 0 ≤ Int.tmod a n ∧ Int.tmod a n < n := ⟨Int.tmod_nonneg n h0, Int.tmod_lt_of_pos a (by omega)⟩
/-- The source at g: its bytes and how often it was asked. -/
abbrev srcO (A : Option Addr) (n c : Nat) (k : Int) : Obj := .cells [Value.slice A n c, I k].toArray 118 (0, 0)
abbrev P0 (g : Nat) : Value := .pointer (some ⟨g, 0, none⟩)
theorem l1Next_ret (g : Nat) (A : Option Addr) (c : Nat) (k n : Int) (bs : List Int) (M : PH) (hg : M g = some (srcO A bs.length c k)) (hb : Byt M A bs) (hb' : ∀ o, Byt (M.set g o) A bs) (h0 : 0 ≤ k) (hk : k ≤ 4294967296) :
    ACall env 87 [P0 g, I n] M fun r M' => ∃ x, r = I x ∧ (1 ≤ n → 0 ≤ x ∧ x < n) ∧ M' = M.set g (srcO A bs.length c (k + 1)) := by
  have e1 : IntKind.i64.wrap (k + 1) = k + 1 := wr_id (by omega) (by omega)
  have e2 : IntKind.i64.wrap (k + 1 - 1) = k := by rw [show k + 1 - 1 = k by omega]; exact wr_id (by omega) (by omega)
  have hle := hb.le
  refine xcall_of_vc Tryz.func87 rfl _ Tryz.ntmps87 _ rfl (fun _ _ => Tryz.call87 _ _) rfl (fun w0 ρ0 => ?_)
  conv => whnf
  refine ⟨_, cells1 hg rfl, ?_⟩
  conv => whnf
  refine ⟨g, 0, [Value.slice A bs.length c, I k], 118, (0, 0), rfl, hg, ⟨by simp, .inl (Nat.zero_le _)⟩, ?_⟩
  conv => whnf
  repeat' (first | (refine ⟨⟨[], rfl⟩, _, PH.Le.refl _, PH.Le.refl _, ?_⟩; conv => whnf) | (refine caseB_true ?_; conv => whnf) | (refine caseB_false ?_; conv => whnf) | ((with_reducible refine caseB_dec (fun h => ?_) (fun h => ?_)) <;> conv => whnf) | ((with_reducible refine caseB_ndec (fun h => ?_) (fun h => ?_)) <;> conv => whnf) | ((with_reducible refine caseB_not (fun h => ?_) (fun h => ?_)) <;> conv => whnf) | (with_reducible refine @And.intro (guardVC _ _ _ _ _) _ ?_ ?_) <;> conv => whnf | (refine caseB_intro (fun h => ?_) (fun h => ?_) <;> (try simp only [Bool.not_eq_true', Bool.not_eq_false', decide_eq_true_eq, decide_eq_false_iff_not] at h) <;> conv => whnf))
  · exact ⟨_, PH.Le.refl _, _, rfl, fun h => by omega, by rw [e1]; rfl⟩
  refine ⟨_, cells1 (PH.set_same _ _ _) rfl, ?_⟩
  conv => whnf
  refine ⟨_, cells1 (PH.set_same _ _ _) rfl, ?_⟩
  conv => whnf
  repeat' (first | (refine ⟨⟨[], rfl⟩, _, PH.Le.refl _, PH.Le.refl _, ?_⟩; conv => whnf) | (refine caseB_true ?_; conv => whnf) | (refine caseB_false ?_; conv => whnf) | ((with_reducible refine caseB_dec (fun h => ?_) (fun h => ?_)) <;> conv => whnf) | ((with_reducible refine caseB_ndec (fun h => ?_) (fun h => ?_)) <;> conv => whnf) | ((with_reducible refine caseB_not (fun h => ?_) (fun h => ?_)) <;> conv => whnf) | (with_reducible refine @And.intro (guardVC _ _ _ _ _) _ ?_ ?_) <;> conv => whnf | (refine caseB_intro (fun h => ?_) (fun h => ?_) <;> (try simp only [Bool.not_eq_true', Bool.not_eq_false', decide_eq_true_eq, decide_eq_false_iff_not] at h) <;> conv => whnf))
  · refine ⟨by omega, ?_⟩
    conv => whnf
    refine ⟨_, PH.Le.refl _, _, rfl, fun h => ?_, by rw [e1]; rfl⟩
    rw [e1, e2, wrap_id (n := k * 7) (by omega) (by omega)]
    exact tmod_in (by omega) (by omega)
  have hL : (1 : Int) ≤ bs.length := by omega
  have w1 : IntKind.i64.wrap (k + 1) = k + 1 := e1
  have w2 : IntKind.i64.wrap (k + 2) = k + 2 := wr_id (by omega) (by omega)
  have i0 : 0 ≤ Int.tmod (IntKind.i64.wrap (IntKind.i64.wrap (k + 1) - 1)) bs.length ∧ Int.tmod (IntKind.i64.wrap (IntKind.i64.wrap (k + 1) - 1)) bs.length < bs.length := by rw [e1, e2]; exact tmod_in h0 hL
  have i1 : 0 ≤ Int.tmod (IntKind.i64.wrap (IntKind.i64.wrap (IntKind.i64.wrap (k + 1) - 1) + 1)) bs.length ∧ Int.tmod (IntKind.i64.wrap (IntKind.i64.wrap (IntKind.i64.wrap (k + 1) - 1) + 1)) bs.length < bs.length := by rw [e1, e2, e1]; exact tmod_in (by omega) hL
  have i2 : 0 ≤ Int.tmod (IntKind.i64.wrap (IntKind.i64.wrap (IntKind.i64.wrap (k + 1) - 1) + 2)) bs.length ∧ Int.tmod (IntKind.i64.wrap (IntKind.i64.wrap (IntKind.i64.wrap (k + 1) - 1) + 2)) bs.length < bs.length := by rw [e1, e2, w2]; exact tmod_in (by omega) hL
  obtain ⟨b0, l0, u0, hA, c0⟩ := (hb' (srcO A bs.length c (IntKind.i64.wrap (k + 1)))).get i0.1 i0.2
  obtain ⟨b1, l1, u1, _, c1⟩ := (hb' (srcO A bs.length c (IntKind.i64.wrap (k + 1)))).get i1.1 i1.2
  obtain ⟨b2, l2, u2, _, c2⟩ := (hb' (srcO A bs.length c (IntKind.i64.wrap (k + 1)))).get i2.1 i2.2
  have q0 : 0 ≤ Int.tdiv k bs.length ∧ Int.tdiv k bs.length ≤ k := ⟨Int.tdiv_nonneg h0 (by omega), Int.tdiv_le_self _ h0⟩
  repeat' (first | (refine ⟨⟨[], rfl⟩, _, PH.Le.refl _, PH.Le.refl _, ?_⟩; conv => whnf) | (refine ⟨.int .u8 b2, c2, ?_⟩; conv => whnf) | (refine ⟨.int .u8 b1, c1, ?_⟩; conv => whnf) | (refine ⟨.int .u8 b0, c0, ?_⟩; conv => whnf) | (refine ⟨i2.1, i2.2, hA, ?_⟩; conv => whnf) | (refine ⟨i1.1, i1.2, hA, ?_⟩; conv => whnf) | (refine ⟨i0.1, i0.2, hA, ?_⟩; conv => whnf) | (refine And.intro (by omega) ?_; conv => whnf) | (refine ⟨_, cells1 (PH.set_same _ _ _) rfl, ?_⟩; conv => whnf) | (refine caseB_true ?_; conv => whnf) | (refine caseB_false ?_; conv => whnf) | ((with_reducible refine caseB_dec (fun h => ?_) (fun h => ?_)) <;> conv => whnf) | ((with_reducible refine caseB_ndec (fun h => ?_) (fun h => ?_)) <;> conv => whnf) | ((with_reducible refine caseB_not (fun h => ?_) (fun h => ?_)) <;> conv => whnf) | (refine draw_rule (.light 0 <| .light 1 <| .light 2 <| .light 3 <| .light 4 <| .light 5 <| .light 6 <| .light 7 <| .light 8 <| .light 9 <| .light 10 <| .light 11 <| .light 12 <| .light 13 <| .light 14 <| .light 15 <| .done) (by decide +kernel) ?_; conv => whnf) | (refine draw_rule (.light 0 <| .light 1 <| .light 2 <| .light 3 <| .light 4 <| .light 5 <| .light 6 <| .light 7 <| .light 8 <| .light 9 <| .light 10 <| .light 11 <| .light 12 <| .light 13 <| .light 14 <| .light 15 <| .light 16 <| .light 17 <| .done) (by decide +kernel) ?_; conv => whnf) | (refine draw_rule (.light 0 <| .light 1 <| .light 2 <| .light 3 <| .light 4 <| .light 5 <| .light 6 <| .light 7 <| .light 8 <| .light 9 <| .light 10 <| .light 11 <| .light 12 <| .light 13 <| .light 14 <| .done) (by decide +kernel) ?_; conv => whnf) | (with_reducible refine @And.intro (guardVC _ _ _ _ _) _ ?_ ?_) <;> conv => whnf | (refine caseB_intro (fun h => ?_) (fun h => ?_) <;> (try simp only [Bool.not_eq_true', Bool.not_eq_false', decide_eq_true_eq, decide_eq_false_iff_not] at h) <;> conv => whnf))
  all_goals refine ⟨_, PH.Le.refl _, _, rfl, fun h => ?_, by rw [e1]; rfl⟩
  all_goals simp (disch := omega) only [e1, e2, w2, wrap_id]
  all_goals exact tmod_in (by omega) h
theorem l1Source_ret (A : Option Addr) (c : Nat) (bs : List Int) (M : PH) : ACall env 38 [.slice A bs.length c] M fun r M' => ∃ g, M g = none ∧ r = P0 g ∧ M' = M.set g (srcO A bs.length c 0) := by
  refine xcall_of_vc Tryz.func38 rfl _ Tryz.ntmps38 _ rfl (fun _ _ => Tryz.call38 _ _) rfl (fun w0 ρ0 => ?_)
  conv => whnf
  intro g hg
  exact ⟨_, PH.Le.refl _, g, hg, rfl, rfl⟩
theorem l1Later_ret (A : Option Addr) (c : Nat) (bs : List Int) (j : Int) (M : PH) : ACall env 42 [.slice A bs.length c, I j] M fun r M' => ∃ g, M g = none ∧ r = P0 g ∧ M' = M.set g (srcO A bs.length c (wr (5 + wr (7 * j)))) := by
  refine xcall_of_vc Tryz.func42 rfl _ Tryz.ntmps42 _ rfl (fun _ _ => Tryz.call42 _ _) rfl (fun w0 ρ0 => ?_)
  conv => whnf
  intro g hg
  exact ⟨_, PH.Le.refl _, g, hg, rfl, rfl⟩
theorem lwBig_ret (A : Option Addr) (c : Nat) (bs : List Int) (M : PH) : Ret 12 [.slice A bs.length c] M (B (decide (1048576 < (bs.length : Int)))) := by
  refine xcall_of_vc Tryz.func12 rfl _ Tryz.ntmps12 _ rfl (fun _ _ => Tryz.call12 _ _) rfl (fun w0 ρ0 => ?_)
  conv => whnf
  all_goals first | (refine ⟨M, PH.Le.refl _, ?_, rfl⟩; simp [resV, *]; done) | (refine ⟨M, PH.Le.refl _, ?_, rfl, rfl⟩; simp [resV, *]; done) | (exfalso; simp_all; done)
theorem openBytes {H : Type} {enc : TypeId × Value → H} {W : World} {base : Nat} {v : Value} {d : DataW H} {p : List MemPlace} (hv : Value.okWide Tryz.prog W .any base 34 v)
    (h : DataW.Trod enc Tryz.prog W 0 (fun _ => true) true 34 v d p) : ∃ (A : Option Addr) (c : Nat) (bs : List Int), v = .slice A bs.length c ∧ Sl (whole W) A 1 byC bs ∧ (∀ (i : Nat) b, bs[i]? = some b → 0 ≤ b ∧ b ≤ 255) := by
  obtain ⟨cs, rfl, hs⟩ := open_arg env 9 (ti := ti34) (by kernel_rfl) (s := .slice (.int .u8) 1) (by kernel_rfl) hv h
  obtain ⟨A, c, ws, rfl, hS, hl⟩ := open_sl (fun b : {b : Int // 0 ≤ b ∧ b ≤ 255} => byC b.1) (fun es h => by
    obtain ⟨n, hw, rfl⟩ := h
    have h2 : 0 ≤ n ∧ n ≤ 255 := by
      simp [Lit.wf] at hw
      have e1 : IntKind.u8.min = 0 := by decide
      have e2 : IntKind.u8.max = 255 := by decide
      rw [e1, e2] at hw
      exact hw
    exact ⟨⟨n, h2⟩, rfl⟩) hs
  refine ⟨A, c, ws.map (·.1), by rw [List.length_map]; rfl, ⟨fun hne => hS.ne (by intro e; apply hne; rw [e]; rfl), fun i x hx => ?_⟩, fun i b hb => ?_⟩
  · rw [List.getElem?_map] at hx
    cases hw : ws[i]? with
    | none => rw [hw] at hx; cases hx
    | some y => rw [hw] at hx; cases hx; exact hS.at_ i y hw
  · rw [List.getElem?_map] at hb
    cases hw : ws[i]? with
    | none => rw [hw] at hb; cases hb
    | some y => rw [hw] at hb; cases hb; exact y.2
/-- Memory kept, but for block g. -/
def Kp (g : Nat) (M M' : PH) : Prop := ∀ j o, j ≠ g → M j = some o → M' j = some o
theorem Kp.refl (g : Nat) (M : PH) : Kp g M M := fun _ _ _ h => h
theorem Kp.trans {g : Nat} {A B C : PH} (h : Kp g A B) (k : Kp g B C) : Kp g A C := fun j o hj ho => k j o hj (h j o hj ho)
theorem Kp.of_set (g : Nat) (M : PH) (o : Obj) : Kp g M (M.set g o) := fun j x hj h => by rw [PH.set_other _ _ hj]; exact h
theorem Kp.of_le {g : Nat} {M M' : PH} (h : M.Le M') : Kp g M M' := fun j o _ ho => h j o ho
theorem Kp.le {g : Nat} {M M' : PH} {o : Obj} (h : Kp g M M') (ho : M' g = some o) : (M.set g o).Le M' := fun j x hx => by
  by_cases e : j = g
  · subst e; rw [PH.set_same] at hx; cases hx; exact ho
  · rw [PH.set_other _ _ e] at hx; exact h j x e hx
theorem Kp.set {g : Nat} {M M' : PH} (h : Kp g M M') (o : Obj) : (M.set g o).Le (M'.set g o) := fun j x hx => by
  by_cases e : j = g
  · subst e; rw [PH.set_same] at hx ⊢; exact hx
  · rw [PH.set_other _ _ e] at hx ⊢; exact h j x e hx
theorem set_self {M : PH} {g : Nat} {o : Obj} (h : M g = some o) : M.set g o = M := by
  funext j
  unfold PH.set
  split
  · rename_i e; rw [e, h]
  · rfl
/-- The source stands at g, asked at most B times. -/
structure Src (B : Int) (M : PH) (g : Nat) : Prop where
  ex : ∃ (A : Option Addr) (c : Nat) (k : Int) (bs : List Int), M g = some (srcO A bs.length c k) ∧ (∀ o, Byt (M.set g o) A bs) ∧ 0 ≤ k ∧ k ≤ B
theorem Src.has {B : Int} {M : PH} {g : Nat} (h : Src B M g) : ∃ o, M g = some o := by
  obtain ⟨A, c, k, bs, h, _⟩ := h.ex
  exact ⟨_, h⟩
theorem next_ret (B : Int) (g : Nat) (n : Int) (M : PH) (h : Src B M g) (hB : B ≤ 4294967296) :
    ACall env 87 [P0 g, I n] M fun r M' => ∃ x, r = I x ∧ (1 ≤ n → 0 ≤ x ∧ x < n) ∧ Src (B + 1) M' g ∧ Kp g M M' := by
  obtain ⟨A, c, k, bs, hg, hb, h0, hk⟩ := h.ex
  have hb1 := hb (srcO A bs.length c k)
  rw [set_self hg] at hb1
  refine (l1Next_ret g A c k n bs M hg hb1 hb h0 (by omega)).mono fun r M' ⟨x, hr, hx, hM⟩ => ⟨x, hr, hx, ?_, ?_⟩
  · subst hM
    exact ⟨A, c, k + 1, bs, PH.set_same _ _ _, fun o => by rw [set_set]; exact hb o, by omega, by omega⟩
  · subst hM; exact Kp.of_set g M _
abbrev inC (x : Int) : List Value := [I x]
theorem pick_mem (B : Int) (g : Nat) (A : Option Addr) (c : Nat) (xs : List Int) (M : PH) (h : Src B M g) (hB : B ≤ 4294967296) (hs : ∀ o, Sl (M.set g o) A 1 inC xs) (hx : 1 ≤ xs.length) :
    ACall env 44 [P0 g, .slice A xs.length c] M fun r M' => ∃ x, r = I x ∧ x ∈ xs ∧ Src (B + 1) M' g ∧ Kp g M M' := by
  refine xcall_of_vc Tryz.func44 rfl _ Tryz.ntmps44 _ rfl (fun _ _ => Tryz.call44 _ _) rfl (fun w0 ρ0 => ?_)
  conv => whnf
  refine ACall.step (next_ret B g xs.length M h hB) fun r M' h1 => ?_
  obtain ⟨x, rfl, hx1, hS, hK⟩ := h1
  conv => whnf
  obtain ⟨l0, u0⟩ := hx1 (by omega)
  obtain ⟨o, ho⟩ := hS.has
  have hi : x.toNat < xs.length := by omega
  obtain ⟨hA, _, hc⟩ := ((hs o).mono (hK.le ho)).get hi
  refine ⟨l0, u0, hA, ?_⟩
  conv => whnf
  refine ⟨I xs[x.toNat], hc, ?_⟩
  conv => whnf
  exact ⟨_, PH.Le.refl _, _, rfl, List.getElem_mem hi, hS, hK⟩
theorem pick_ret (B : Int) (g : Nat) (A : Option Addr) (c : Nat) (xs : List Int) (M : PH) (h : Src B M g) (hB : B ≤ 4294967296) (hs : ∀ o, Sl (M.set g o) A 1 inC xs) (hx : 1 ≤ xs.length) :
    ACall env 44 [P0 g, .slice A xs.length c] M fun r M' => ∃ x, r = I x ∧ Src (B + 1) M' g ∧ Kp g M M' :=
  (pick_mem B g A c xs M h hB hs hx).mono fun r M' ⟨x, hr, _, hS, hK⟩ => ⟨x, hr, hS, hK⟩
theorem chance_ret (B : Int) (g : Nat) (n : Int) (M : PH) (h : Src B M g) (hB : B ≤ 4294967296) :
    ACall env 40 [P0 g, I n] M fun r M' => ∃ x : Bool, r = Value.bool x ∧ Src (B + 1) M' g ∧ Kp g M M' := by
  refine xcall_of_vc Tryz.func40 rfl _ Tryz.ntmps40 _ rfl (fun _ _ => Tryz.call40 _ _) rfl (fun w0 ρ0 => ?_)
  conv => whnf
  refine ACall.step (next_ret B g n M h hB) fun r M' h1 => ?_
  obtain ⟨x, rfl, _, hS, hK⟩ := h1
  conv => whnf
  exact ⟨_, PH.Le.refl _, _, rfl, hS, hK⟩
theorem Src.mono {B : Int} {M M' : PH} {g : Nat} (h : Src B M g) (l : M.Le M') : Src B M' g := by
  obtain ⟨A, c, k, bs, hg, hb, h0, hk⟩ := h.ex
  exact ⟨A, c, k, bs, l _ _ hg, fun o => (hb o).mono ((Kp.of_le (g := g) l).set o), h0, hk⟩
theorem Src.le {B B' : Int} {M : PH} {g : Nat} (h : Src B M g) (l : B ≤ B') : Src B' M g := by
  obtain ⟨A, c, k, bs, hg, hb, h0, hk⟩ := h.ex
  exact ⟨A, c, k, bs, hg, hb, h0, by omega⟩
theorem set_comm {M : PH} {g g' : Nat} (h : g' ≠ g) (o o' : Obj) : (M.set g' o').set g o = (M.set g o).set g' o' := by
  funext j
  unfold PH.set
  by_cases e : j = g
  · subst e; simp [Ne.symm h]
  · simp [e]
/-- A choice among numbers laid down just now. -/
theorem pick_new (B : Int) (g g' : Nat) (xs : List Int) (M : PH) (hg' : M g' = none) (h : Src B M g) (hB : B ≤ 4294967296) (hx : 1 ≤ xs.length) :
    ACall env 44 [P0 g, .slice (some ⟨g', 0, none⟩) xs.length xs.length] (M.set g' (.cells (xs.flatMap inC).toArray 2 (0, 0))) fun r M' => ∃ x, r = I x ∧ Src (B + 1) M' g ∧ Kp g M M' := by
  obtain ⟨o, ho⟩ := h.has
  have hne : g' ≠ g := by rintro rfl; rw [hg'] at ho; cases ho
  have l := PH.Le.set (.cells (xs.flatMap inC).toArray 2 (0, 0)) hg'
  refine (pick_ret B g _ _ xs _ (h.mono l) hB (fun o => ?_) hx).mono fun r M' ⟨x, hr, hS, hK⟩ => ⟨x, hr, hS, (Kp.of_le l).trans hK⟩
  rw [set_comm hne]
  exact sl_full (f := inC) (fun _ => rfl) _ g' xs 2 (0, 0)
theorem src_new {M : PH} {A : Option Addr} {bs : List Int} (h : Byt M A bs) {g : Nat} (hg : M g = none) (c : Nat) {k B : Int} (h0 : 0 ≤ k) (hk : k ≤ B) : Src B (M.set g (srcO A bs.length c k)) g :=
  ⟨A, c, k, bs, PH.set_same _ _ _, fun o => by rw [set_set]; exact h.mono (PH.Le.set o hg), h0, hk⟩
theorem Kp.new {M M' : PH} {g : Nat} {o : Obj} (hg : M g = none) (h : Kp g (M.set g o) M') : M.Le M' := fun j x hx => by
  have hne : j ≠ g := by rintro rfl; rw [hg] at hx; cases hx
  exact h j x hne (by rw [PH.set_other _ _ hne]; exact hx)
theorem Kp.rm {g : Nat} {M M' : PH} (h : Kp g M M') : (rm M g).Le M' := fun j o hj => by
  unfold Go.Xe.rm at hj
  split at hj
  · cases hj
  · rename_i e; exact h j o e hj
end Go.Proofs.YtdgipmlkkmmliaaGreatDoor
