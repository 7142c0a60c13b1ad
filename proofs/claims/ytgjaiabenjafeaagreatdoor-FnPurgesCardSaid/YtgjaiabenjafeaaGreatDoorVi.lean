/-
  CONTRACTS AND THE LAW: the keys with a tag.
-/
import Derived.Test.YtgjaiabenjafeaaGreatDoorVh
namespace Go.Proofs.YtgjaiabenjafeaaGreatDoor
set_option maxRecDepth 100000
set_option linter.unusedSimpArgs false
set_option linter.unusedVariables false
open Go.Xe
theorem stF_40 {s : Sc} (h : stFault s = 0) : s.all.length ≤ 40 := by
  unfold stFault at h
  repeat' (split at h <;> try (first | cases h | contradiction))
  all_goals first | omega | skip
noncomputable def kt (s : Sc) (t : ByteArray) : List ByteArray := if stFault s = 0 then keysL (fun e => tagT e.tags t) s.all else []
theorem kt_len (s : Sc) (t : ByteArray) : (kt s t).length ≤ 40 := by
  unfold kt
  split
  · rename_i h
    exact Nat.le_trans (keysL_le _ _) (stF_40 h)
  · simp
abbrev nrV (k : Int) (A : Option Addr) (n c : Nat) : Value := .agg #[I k, .slice A n c]
theorem st_split {x : StA} (hco : x.c.cost ≤ 1048576) : x.tr.length ≤ 1048576 ∧ x.kp.length ≤ 1048576 ∧ ∀ y ∈ x.tr ++ x.kp, y.c.cost ≤ 1048576 := by
  have hc1 : costL En.cost (conts x.tr) ≤ 1048576 := by unfold Sc.cost StA.c at hco; simp only at hco; omega
  have hc2 : costL En.cost (conts x.kp) ≤ 1048576 := by unfold Sc.cost StA.c at hco; simp only at hco; omega
  obtain ⟨n1, d1⟩ := costE hc1
  obtain ⟨n2, d2⟩ := costE hc2
  exact ⟨n1, n2, fun y hy => (List.mem_append.1 hy).elim (fun h => d1 y h) (fun h => d2 y h)⟩
theorem keysTagged_impl (x : StA) (t : ByteArray) (M : PH) (hi : x.inn M) (hco : x.c.cost ≤ 1048576) :
    ACall env 24 [x.val, Tx t] M fun r M' => ∃ o A c, r = nrV (stFault x.c) A (kt x.c t).length c ∧ New M M' o A c 1 stC (kt x.c t) := by
  obtain ⟨n1, n2, hd⟩ := st_split hco
  refine xcall_of_vc Tryz.func24 rfl _ Tryz.ntmps24 _ rfl (fun _ _ => Tryz.call24 _ _) rfl (fun w0 ρ0 => ?_)
  conv => whnf
  refine Ret.go (storeFault_impl x _ hi hco) ?_
  conv => whnf
  refine caseB_ndec (fun h => ?_) (fun h => ?_)
  · conv => whnf
    have e : kt x.c t = [] := by unfold kt; rw [if_neg h]
    exact ⟨_, PH.Le.refl _, none, none, 0, by rw [e]; rfl, by rw [e]; exact New.nil M none⟩
  have e : kt x.c t = keysL (fun e => tagT e.tags t) x.c.all := by unfold kt; rw [if_pos h]
  rw [e, h]
  clear e
  conv => whnf
  repeat' (first | (refine ⟨⟨[], rfl⟩, _, PH.Le.refl _, PH.Le.refl _, ?_⟩; conv => whnf) | (refine caseB_true ?_; conv => whnf) | (refine caseB_false ?_; conv => whnf) | ((with_reducible refine caseB_dec (fun h => ?_) (fun h => ?_)) <;> conv => whnf) | ((with_reducible refine caseB_ndec (fun h => ?_) (fun h => ?_)) <;> conv => whnf) | ((with_reducible refine caseB_not (fun h => ?_) (fun h => ?_)) <;> conv => whnf) | (refine draw_rule (.light 0 <| .light 1 <| .alt 2 false (.alt 3 false (.light 4 <| .alt 5 true (.done) .nil) .nil) .nil) (by decide +kernel) ?_; conv => whnf) | (with_reducible refine @And.intro (guardVC _ _ _ _ _) _ ?_ ?_) <;> conv => whnf | (refine caseB_intro (fun h => ?_) (fun h => ?_) <;> (try simp only [Bool.not_eq_true', Bool.not_eq_false', decide_eq_true_eq, decide_eq_false_iff_not] at h) <;> conv => whnf))
  refine ACall.step (hasTag_ret t M) fun v M1 hh => ?_
  obtain ⟨g, hg, rfl, rfl⟩ := hh
  have l1 := PH.Le.set (.cells #[Tx t] 9 (0, 0)) hg
  (first | (refine ⟨⟨[], rfl⟩, _, l1, PH.Le.refl _, ?_⟩; conv => whnf) | conv => whnf)
  refine ACall.step (keysBy_ret x 134 [.pointer (some ⟨g, 0, none⟩)] (fun e => tagT e.tags t) _ (hi.mono l1) n1 n2 fun y hy M' l => hasTag1_ret y g t M' ⟨⟨g, 0, none⟩, rfl, fun j v hv => ?_⟩ ?_ (hd y hy)) fun v M2 hh => ?_
  · rw [add_at]
    have : M' g = _ := l g _ (PH.set_same _ _ _)
    cases j with
    | zero => simp [PH.cell, this] at hv ⊢; exact hv
    | succ j => simp at hv
  · exact ((List.mem_append.1 hy).elim (fun h => hi.t.inn y h) (fun h => hi.k.inn y h)).mono (l1.trans l)
  obtain ⟨o, A, c, rfl, hN⟩ := hh
  (first | (refine ⟨⟨[], rfl⟩, _, hN.le, PH.Le.refl _, ?_⟩; conv => whnf) | conv => whnf)
  exact ⟨_, PH.Le.refl _, o, A, c, rfl, hN.from l1⟩
theorem keysTagged_spec (x : StA) (t : ByteArray) (M : PH) (hi : x.inn M) (hco : x.c.cost ≤ 1048576) :
    ACall env 28 [x.val, Tx t] M fun r M' => ∃ o A c, r = nrV (stFault x.c) A (kt x.c t).length c ∧ New M M' o A c 1 stC (kt x.c t) := by
  obtain ⟨n1, n2, hd⟩ := st_split hco
  refine xcall_of_vc Tryz.func28 rfl _ Tryz.ntmps28 _ rfl (fun _ _ => Tryz.call28 _ _) rfl (fun w0 ρ0 => ?_)
  conv => whnf
  refine Ret.go (storeFault_spec x _ hi hco) ?_
  conv => whnf
  refine caseB_ndec (fun h => ?_) (fun h => ?_)
  · conv => whnf
    have e : kt x.c t = [] := by unfold kt; rw [if_neg h]
    exact ⟨_, PH.Le.refl _, none, none, 0, by rw [e]; rfl, by rw [e]; exact New.nil M none⟩
  have e : kt x.c t = keysL (fun e => tagT e.tags t) x.c.all := by unfold kt; rw [if_pos h]
  rw [e, h]
  clear e
  conv => whnf
  refine XCall.lift (l9Tagged_ret 36 x t M hi n1 n2 hd) [0] ?_ (by simp) (by simp) (by simp [AV.plain]) ?_
  · simp [ren]
  rintro r bs' M1 ⟨⟨o, A, c, rfl, hN⟩, rfl⟩
  refine ⟨by simp [AV.plain], ?_⟩
  conv => whnf
  exact ⟨_, PH.Le.refl _, o, A, c, rfl, hN⟩
theorem KeepsL.over {L : List (Option Nat)} {M₀ M M' : PH} (h : KeepsL L M M') (h0 : M₀.Le M) (hf : Fr M₀ L) : M₀.Le M' := fun k ob hk => h k ob (h0 k ob hk) fun hm => by rw [hf _ hm k rfl] at hk; cases hk
theorem ow_keepsL {α : Type} {f : α → List Value} {xs : List α} {sz : Nat} {o : Option Nat} {A : Option Addr} {c : Nat} {L : List (Option Nat)} {M M' : PH} (h : Ow M o A c sz f xs) (k : KeepsL L M M') (ha : ∀ b ∈ L, Apart o b) : Ow M' o A c sz f xs :=
  h.keep fun g ob e hg => k g ob hg fun hm => ha _ hm g e rfl
end Go.Proofs.YtgjaiabenjafeaaGreatDoor
