/-
  DRAWS: how a walk goes on where the source is asked, numbers are laid down to choose from, another function is called beside the source.
-/
import Derived.Test.YtdgipmlkkmmliaaGreatDoorLi
import Derived.Test.YtdgipmlkkmmliaaGreatDoorMa
namespace Go.Proofs.YtdgipmlkkmmliaaGreatDoor
set_option maxRecDepth 100000
set_option linter.unusedSimpArgs false
set_option linter.unusedVariables false
open Go.Xe
theorem Kp.rms {g : Nat} {M M' : PH} (h : Kp g M M') : (Go.Xe.rm M g).Le (Go.Xe.rm M' g) := fun j o hj => by
  unfold Go.Xe.rm at hj ⊢
  split at hj
  · cases hj
  · rename_i e; rw [if_neg e]; exact h j o e hj
theorem rm_mono {g : Nat} {M M' : PH} (h : M.Le M') : (rm M g).Le (rm M' g) := (Kp.of_le h).rms
theorem rm_set {g : Nat} {M : PH} (o : Obj) : (rm M g).Le (M.set g o) := fun j x hj => by
  unfold rm at hj
  split at hj
  · cases hj
  · rename_i e; rw [PH.set_other _ _ e]; exact hj
theorem rm_in {g : Nat} {M M' : PH} (h : M.Le M') (hg : M g = none) : M.Le (rm M' g) := fun j o hj => by
  unfold rm
  split
  · rename_i e; rw [e, hg] at hj; cases hj
  · exact h j o hj
theorem rm_none (M : PH) (g : Nat) : rm M g g = none := if_pos rfl
theorem rm_other {M : PH} {g k : Nat} (h : k ≠ g) : rm M g k = M k := if_neg h
/-- The source stands at g, asked at most B times; what stood ahead of it (M0) stands, the bytes among it. -/
structure Sx (B : Int) (M0 M : PH) (g : Nat) (A : Option Addr) (c : Nat) (bs : List Int) : Prop where
  at_ : ∃ k, M g = some (srcO A bs.length c k) ∧ 0 ≤ k ∧ k ≤ B
  le : M0.Le (rm M g)
  by_ : Byt M0 A bs
section
variable {B : Int} {g g' : Nat} {M0 M : PH} {A : Option Addr} {c : Nat} {bs : List Int}
theorem Sx.has (h : Sx B M0 M g A c bs) : ∃ o, M g = some o := by
  obtain ⟨k, h, _⟩ := h.at_
  exact ⟨_, h⟩
theorem Sx.src (h : Sx B M0 M g A c bs) : Src B M g := by
  obtain ⟨k, h1, h2, h3⟩ := h.at_
  exact ⟨A, c, k, bs, h1, fun o => h.by_.mono (h.le.trans (rm_set o)), h2, h3⟩
theorem Sx.below (h : Sx B M0 M g A c bs) {B' : Int} (l : B ≤ B') : Sx B' M0 M g A c bs := by
  obtain ⟨k, h1, h2, h3⟩ := h.at_
  exact ⟨⟨k, h1, h2, by omega⟩, h.le, h.by_⟩
theorem Sx.to {M' : PH} (h : Sx B M0 M g A c bs) (hg : M' g = M g) (l : (rm M g).Le (rm M' g)) : Sx B M0 M' g A c bs := by
  obtain ⟨k, h1, h2, h3⟩ := h.at_
  exact ⟨⟨k, by rw [hg]; exact h1, h2, h3⟩, h.le.trans l, h.by_⟩
theorem nextX (n : Int) (S : Sx B M0 M g A c bs) (hB : B ≤ 4294967296) : ACall env 87 [P0 g, I n] M fun r M' => ∃ x, r = I x ∧ (1 ≤ n → 0 ≤ x ∧ x < n) ∧ Sx (B + 1) M0 M' g A c bs ∧ (rm M g).Le (rm M' g) := by
  obtain ⟨k, h1, h2, h3⟩ := S.at_
  have hb : ∀ o, Byt (M.set g o) A bs := fun o => S.by_.mono (S.le.trans (rm_set o))
  have hb1 := hb (srcO A bs.length c k)
  rw [set_self h1] at hb1
  refine (l1Next_ret g A c k n bs M h1 hb1 hb h2 (by omega)).mono fun r M' ⟨x, hr, hx, hM⟩ => ?_
  subst hM
  have l := (Kp.of_set g M (srcO A bs.length c (k + 1))).rms
  exact ⟨x, hr, hx, ⟨⟨k + 1, PH.set_same _ _ _, by omega, by omega⟩, S.le.trans l, S.by_⟩, l⟩
/-- A number is drawn. -/
theorem nextD (n : Int) (S : Sx B M0 M g A c bs) (hB : B ≤ 4294967296) {bx : List Box} {K : Value → List Box → PH → Prop}
    (h : ∀ x M', (1 ≤ n → 0 ≤ x ∧ x < n) → Sx (B + 1) M0 M' g A c bs → (rm M g).Le (rm M' g) → K (I x) bx M') : XCall env 87 [.v (P0 g), .v (I n)] bx M K :=
  ACall.step (nextX n S hB) fun r M' ⟨x, hr, hx, hS, hK⟩ => by subst hr; exact h x M' hx hS hK
theorem chanceX (n : Int) (S : Sx B M0 M g A c bs) (hB : B ≤ 4294967296) : ACall env 40 [P0 g, I n] M fun r M' => ∃ x : Bool, r = Value.bool x ∧ Sx (B + 1) M0 M' g A c bs ∧ (rm M g).Le (rm M' g) := by
  refine xcall_of_vc Tryz.func40 rfl _ Tryz.ntmps40 _ rfl (fun _ _ => Tryz.call40 _ _) rfl (fun w0 ρ0 => ?_)
  conv => whnf
  refine ACall.step (nextX n S hB) fun r M' hh => ?_
  obtain ⟨x, rfl, _, hS, hK⟩ := hh
  conv => whnf
  exact ⟨_, PH.Le.refl _, _, rfl, hS, hK⟩
theorem chanceD {n : Int} (S : Sx B M0 M g A c bs) (hB : B ≤ 4294967296) {bx : List Box} {K : Value → List Box → PH → Prop}
    (h : ∀ (x : Bool) M', Sx (B + 1) M0 M' g A c bs → (rm M g).Le (rm M' g) → K (.bool x) bx M') : XCall env 40 [.v (P0 g), .v (I n)] bx M K :=
  ACall.step (chanceX n S hB) fun r M' ⟨x, hr, hS, hK⟩ => by subst hr; exact h x M' hS hK
theorem pickX {D : Option Addr} {d : Nat} (xs : List Int) (S : Sx B M0 M g A c bs) (hB : B ≤ 4294967296) (hs : Sl (rm M g) D 1 inC xs) (hx : 1 ≤ xs.length) :
    ACall env 44 [P0 g, .slice D xs.length d] M fun r M' => ∃ x, r = I x ∧ x ∈ xs ∧ Sx (B + 1) M0 M' g A c bs ∧ (rm M g).Le (rm M' g) := by
  refine xcall_of_vc Tryz.func44 rfl _ Tryz.ntmps44 _ rfl (fun _ _ => Tryz.call44 _ _) rfl (fun w0 ρ0 => ?_)
  conv => whnf
  refine ACall.step (nextX xs.length S hB) fun r M' h1 => ?_
  obtain ⟨x, rfl, hx1, hS, hK⟩ := h1
  conv => whnf
  obtain ⟨l0, u0⟩ := hx1 (by omega)
  have hi : x.toNat < xs.length := by omega
  obtain ⟨hA, _, hc⟩ := (hs.mono (hK.trans (rm_le M' g))).get hi
  refine ⟨l0, u0, hA, ?_⟩
  conv => whnf
  refine ⟨I xs[x.toNat], hc, ?_⟩
  conv => whnf
  exact ⟨_, PH.Le.refl _, _, rfl, List.getElem_mem hi, hS, hK⟩
theorem pickD {D : Option Addr} {n d : Nat} (xs : List Int) (hl : n = xs.length) (S : Sx B M0 M g A c bs) (hs : Sl (rm M g) D 1 inC xs) (hx : 1 ≤ xs.length) (hB : B ≤ 4294967296) {bx : List Box} {K : Value → List Box → PH → Prop}
    (h : ∀ x M', x ∈ xs → Sx (B + 1) M0 M' g A c bs → (rm M g).Le (rm M' g) → K (I x) bx M') : XCall env 44 [.v (P0 g), .v (.slice D n d)] bx M K := by
  subst hl
  refine ACall.step (pickX xs S hB hs hx) fun r M' hh => ?_
  obtain ⟨x, rfl, hm, hS, hK⟩ := hh
  exact h x M' hm hS hK
/-- Numbers are laid down. -/
theorem buildF {t : TypeId} {cs : List Value} (xs : List Int) (hcs : cs = xs.flatMap inC) (S : Sx B M0 M g A c bs) (hg' : M g' = none) :
    ∃ M', M' = M.set g' (.cells cs.toArray t (0, 0)) ∧ Sx B M0 M' g A c bs ∧ (rm M g).Le (rm M' g) ∧ Sl (rm M' g) (some ⟨g', 0, none⟩) 1 inC xs := by
  subst hcs
  obtain ⟨o, ho⟩ := S.has
  have hne : g' ≠ g := by rintro rfl; rw [hg'] at ho; cases ho
  have l := PH.Le.set (.cells (xs.flatMap inC).toArray t (0, 0)) hg'
  exact ⟨_, rfl, S.to (PH.set_other _ _ (Ne.symm hne)) (rm_mono l), rm_mono l, Go.Xe.Sl.rm (sl_full (f := inC) (fun _ => rfl) M g' xs t (0, 0)) hne⟩
/-- A row of one is laid down. -/
theorem rowF {α : Type} {f : α → List Value} {sz : Nat} {t : TypeId} {cs : List Value} (x : α) (hf : ∀ x, (f x).length = sz) (hcs : cs = [x].flatMap f) (S : Sx B M0 M g A c bs) (hg' : M g' = none) :
    ∃ M', M' = M.set g' (.cells cs.toArray t (0, 0)) ∧ Sx B M0 M' g A c bs ∧ (rm M g).Le (rm M' g) ∧ New M0 (rm M' g) (some g') (some ⟨g', 0, none⟩) 1 sz f [x] := by
  subst hcs
  obtain ⟨o, ho⟩ := S.has
  have hne : g' ≠ g := by rintro rfl; rw [hg'] at ho; cases ho
  have l := PH.Le.set (.cells ([x].flatMap f).toArray t (0, 0)) hg'
  refine ⟨_, rfl, S.to (PH.set_other _ _ (Ne.symm hne)) (rm_mono l), rm_mono l, (Ow.new hf M g' [x] t).keep fun k ob e hk => ?_, S.le.trans (rm_mono l), fun k e => ?_⟩
  · cases e; rw [rm_other hne]; exact hk
  · cases e; exact none_of_le (S.le.trans (rm_le M g)) hg'
/-- Another function is called, beside the source. -/
theorem besideD {f : FuncId} {args : List AV} {bx : List Box} {R K : Value → List Box → PH → Prop} (S : Sx B M0 M g A c bs) (hc : XCall env f args bx (rm M g) R) (hR : ∀ r b M1, R r b M1 → M0.Le M1)
    (h : ∀ r b M1 M', R r b M1 → M1.Le (rm M' g) → Sx B M0 M' g A c bs → K r b M') : XCall env f args bx M K := by
  refine (hc.frame (rm_le M g)).mono fun r b M' hh => ?_
  obtain ⟨M1, hr, l1, hk⟩ := hh
  obtain ⟨k, h1, h2, h3⟩ := S.at_
  have hg := hk g _ h1 (rm_none M g)
  have lM := rm_in l1 hg.1
  exact h r b M1 M' hr lM ⟨⟨k, hg.2, h2, h3⟩, (hR r b M1 hr).trans lM, S.by_⟩
theorem besideA {f : FuncId} {args : List Value} {bx : List Box} {R : Value → PH → Prop} {K : Value → List Box → PH → Prop} (S : Sx B M0 M g A c bs) (hc : ACall env f args (rm M g) R) (hR : ∀ r M1, R r M1 → M0.Le M1)
    (h : ∀ r M1 M', R r M1 → M1.Le (rm M' g) → Sx B M0 M' g A c bs → K r bx M') : XCall env f (args.map .v) bx M K :=
  besideD (R := fun r b M1 => R r M1 ∧ b = bx) S (ACall.step hc fun r M' hr => ⟨hr, rfl⟩) (fun r b M1 hh => hR r M1 hh.1) fun r b M1 M' hh l1 S' => by rw [hh.2]; exact h r M1 M' hh.1 l1 S'
/-- Another function is called with a pointer to a box, beside the source. -/
theorem besideP {f : FuncId} {args : List Value} {b0 : Box} {bx : List Box} {j : Nat} {R K : Value → List Box → PH → Prop} (S : Sx B M0 M g A c bs) (hc : XCall env f (.bp 0 0 :: args.map .v) [b0] (rm M g) R) (hj : bx[j]? = some b0) (hp : b0.cs.all AV.plain = true)
    (hR : ∀ r b M1, R r b M1 → M0.Le M1 ∧ ∃ b1 : Box, b = [b1] ∧ b1.cs.all AV.plain = true) (h : ∀ r b1 M1 M', R r [b1] M1 → M1.Le (rm M' g) → Sx B M0 M' g A c bs → K r (bx.set j b1) M') : XCall env f (.bp j 0 :: args.map .v) bx M K := by
  refine XCall.lift (hc.frame (rm_le M g)) [j] (by simp [ren, Function.comp_def]) (by simp [hj]) (by simp) (by simpa using hp) fun r b M' hh => ?_
  obtain ⟨M1, hr, l1, hk⟩ := hh
  obtain ⟨hm, b1, rfl, hb1⟩ := hR r b M1 hr
  obtain ⟨k, h1, h2, h3⟩ := S.at_
  have hg := hk g _ h1 (rm_none M g)
  have lM := rm_in l1 hg.1
  exact ⟨by simpa using hb1, h r b1 M1 M' hr lM ⟨⟨k, hg.2, h2, h3⟩, hm.trans lM, S.by_⟩⟩
theorem byt_cons {M M1 : PH} {A D : Option Addr} {bs : List Int} (hb : Byt M A bs) (hs : Sl M1 D 1 byC ([2] ++ bs)) (hl : bs.length ≤ 1048576) : Byt M1 D ([2] ++ bs) := by
  refine ⟨hs, by simp; omega, fun i b hi => ?_⟩
  cases i with
  | zero => simp at hi; omega
  | succ i => exact hb.by_ i b (by simpa using hi)
/-- The source is opened. -/
theorem sourceD (c : Nat) (hb : Byt M A bs) {bx : List Box} {K : Value → List Box → PH → Prop} (h : ∀ g M', M g = none → Sx 0 M M' g A c bs → K (P0 g) bx M') : XCall env 38 [.v (.slice A bs.length c)] bx M K :=
  ACall.step (l1Source_ret A c bs M) fun r M' ⟨g, hg, hr, hM⟩ => by
    subst hr; subst hM
    exact h g _ hg ⟨⟨0, PH.set_same _ _ _, Int.le_refl _, Int.le_refl _⟩, rm_in (PH.Le.set _ hg) hg, hb⟩
/-- An append onto a slice of one's own, beside the source. -/
theorem appendD {α : Type} {f : α → List Value} {te : TI} {e : TypeId} {C D : Option Addr} {d : Nat} {o : Option Nat} {xs ys : List α} {K : AV → PH → Prop} (S : Sx B M0 M g A c bs) (hs : Sl (rm M g) D te.size f ys) (ho : New M0 (rm M g) o C d te.size f xs) (hf : ∀ x, (f x).length = te.size) (h1 : ∀ x, ∀ v ∈ f x, v.oneCell' = true)
    (hz : te.zero.cells.size = te.size) (hb : (xs.length + ys.length) * te.bytes ≤ 140737488355328) (h63 : xs.length + ys.length ≤ 9223372036854775807)
    (hk : ∀ o' C' d' M', New M0 (rm M' g) o' C' d' te.size f (xs ++ ys) → Sx B M0 M' g A c bs → Keeps o (rm M g) (rm M' g) → K (.v (.slice C' (xs ++ ys).length d')) M') :
    ∃ news : List Value, news.length = ys.length * te.size ∧ (ys.length = 0 ∨ M.cells D 0 news) ∧ appVC te e C xs.length d ys.length news M K := by
  refine app_sl (hs.mono (rm_le M g)) (ho.ow.mono (rm_le M g)) hf h1 hz hb h63 fun o' C' d' M' hO hK hF => ?_
  have hne : ∀ k, o = some k → k ≠ g := fun k e => by
    rintro rfl
    obtain ⟨ob, hob⟩ := ho.ow.known _ e
    rw [rm_none] at hob; cases hob
  obtain ⟨ob, hob⟩ := S.has
  have hg' : M' g = M g := by rw [hob]; exact hK g ob hob (fun e => hne g e rfl)
  have hne' : ∀ k, o' = some k → k ≠ g ∧ M0 k = none := fun k e => by
    rcases hF with h2 | ⟨k', h2, h3⟩
    · rw [h2] at e; exact ⟨hne k e, ho.fr k e⟩
    · rw [h2] at e; cases e
      refine ⟨fun e2 => ?_, none_of_le (S.le.trans (rm_le M g)) h3⟩
      rw [e2, hob] at h3; cases h3
  have l0 : M0.Le (rm M' g) := fun k ob2 hk2 => by
    have h3 := S.le k ob2 hk2
    have hkg : k ≠ g := by
      rintro rfl
      rw [rm_none] at h3; cases h3
    rw [rm_other hkg] at h3 ⊢
    exact hK k ob2 h3 (fun e2 => by have := ho.fr k e2; rw [hk2] at this; cases this)
  obtain ⟨k, a1, a2, a3⟩ := S.at_
  exact hk o' C' d' M' ⟨hO.keep fun k ob2 e h3 => by rw [rm_other (hne' k e).1]; exact h3, l0, fun k e => (hne' k e).2⟩ ⟨⟨k, by rw [hg']; exact a1, a2, a3⟩, l0, S.by_⟩ (fun j ob hj hne => by
    have hjg : j ≠ g := by
      rintro rfl
      rw [rm_none] at hj; cases hj
    rw [rm_other hjg] at hj ⊢
    exact hK j ob hj hne)
end
end Go.Proofs.YtdgipmlkkmmliaaGreatDoor
