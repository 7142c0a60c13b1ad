/-
  CONTRACTS AND THE LAW: the keys with a tag.
-/
import Derived.Test.YtafgnmiflngjhaaGreatDoorVh
namespace Go.Proofs.YtafgnmiflngjhaaGreatDoor
set_option maxRecDepth 100000
set_option linter.unusedSimpArgs false
set_option linter.unusedVariables false
open Go.Xe
theorem stF_40 {s : Sc} (h : stFault s = 0) : s.all.length ≤ 40 := by
  unfold stFault at h
  repeat' (split at h <;> try (first | cases h | contradiction))
  all_goals first | omega | skip
noncomputable def kt (s : Sc) (t : ByteArray) : List ByteArray := if stFault s = 0 then keysL (fun e => tagT e.tags t) s.all else []
theorem kt_len (s : Sc) (t : ByteArray) : (kt s t).length ≤ 40 := by
  unfold kt
  split
  · rename_i h
    exact Nat.le_trans (keysL_le _ _) (stF_40 h)
  · simp
abbrev nrV (k : Int) (A : Option Addr) (n c : Nat) : Value := .agg #[I k, .slice A n c]
theorem st_split {x : StA} (hco : x.c.cost ≤ 1048576) : x.tr.length ≤ 1048576 ∧ x.kp.length ≤ 1048576 ∧ ∀ y ∈ x.tr ++ x.kp, y.c.cost ≤ 1048576 := by
  have hc1 : costL En.cost (conts x.tr) ≤ 1048576 := by unfold Sc.cost StA.c at hco; simp only at hco; omega
  have hc2 : costL En.cost (conts x.kp) ≤ 1048576 := by unfold Sc.cost StA.c at hco; simp only at hco; omega
  obtain ⟨n1, d1⟩ := costE hc1
  obtain ⟨n2, d2⟩ := costE hc2
  exact ⟨n1, n2, fun y hy => (List.mem_append.1 hy).elim (fun h => d1 y h) (fun h => d2 y h)⟩
theorem keysTagged_impl (x : StA) (t : ByteArray) (M : PH) (hi : x.inn M) (hco : x.c.cost ≤ 1048576) :
    ACall env 29 [x.val, Tx t] M fun r M' => ∃ o A c, r = nrV (stFault x.c) A (kt x.c t).length c ∧ New M M' o A c 1 stC (kt x.c t) := by
  obtain ⟨n1, n2, hd⟩ := st_split hco
  refine xcall_of_vc Tryz.func29 rfl _ Tryz.ntmps29 _ rfl (fun _ _ => Tryz.call29 _ _) rfl (fun w0 ρ0 => ?_)
  conv => whnf
  refine Ret.go (storeFault_impl x _ hi hco) ?_
  conv => whnf
  refine caseB_ndec (fun h => ?_) (fun h => ?_)
  · conv => whnf
    have e : kt x.c t = [] := by unfold kt; rw [if_neg h]
    exact ⟨_, PH.Le.refl _, none, none, 0, by rw [e]; rfl, by rw [e]; exact New.nil M none⟩
  have e : kt x.c t = keysL (fun e => tagT e.tags t) x.c.all := by unfold kt; rw [if_pos h]
  rw [e, h]
  clear e
  conv => whnf
  repeat' (first | (refine ⟨⟨[], rfl⟩, _, PH.Le.refl _, PH.Le.refl _, ?_⟩; conv => whnf) | (refine caseB_true ?_; conv => whnf) | (refine caseB_false ?_; conv => whnf) | ((with_reducible refine caseB_dec (fun h => ?_) (fun h => ?_)) <;> conv => whnf) | ((with_reducible refine caseB_ndec (fun h => ?_) (fun h => ?_)) <;> conv => whnf) | ((with_reducible refine caseB_not (fun h => ?_) (fun h => ?_)) <;> conv => whnf) | (refine draw_rule (.light 0 <| .light 1 <| .alt 2 false (.alt 3 false (.light 4 <| .alt 5 true (.done) .nil) .nil) .nil) (by decide +kernel) ?_; conv => whnf) | (with_reducible refine @And.intro (guardVC _ _ _ _ _) _ ?_ ?_) <;> conv => whnf | (refine caseB_intro (fun h => ?_) (fun h => ?_) <;> (try simp only [Bool.not_eq_true', Bool.not_eq_false', decide_eq_true_eq, decide_eq_false_iff_not] at h) <;> conv => whnf))
  refine ACall.step (hasTag_ret t M) fun v M1 hh => ?_
  obtain ⟨g, hg, rfl, rfl⟩ := hh
  have l1 := PH.Le.set (.cells #[Tx t] 9 (0, 0)) hg
  (first | (refine ⟨⟨[], rfl⟩, _, l1, PH.Le.refl _, ?_⟩; conv => whnf) | conv => whnf)
  refine ACall.step (keysBy_ret x 155 [.pointer (some ⟨g, 0, none⟩)] (fun e => tagT e.tags t) _ (hi.mono l1) n1 n2 fun y hy M' l => hasTag1_ret y g t M' ⟨⟨g, 0, none⟩, rfl, fun j v hv => ?_⟩ ?_ (hd y hy)) fun v M2 hh => ?_
  · rw [add_at]
    have : M' g = _ := l g _ (PH.set_same _ _ _)
    cases j with
    | zero => simp [PH.cell, this] at hv ⊢; exact hv
    | succ j => simp at hv
  · exact ((List.mem_append.1 hy).elim (fun h => hi.t.inn y h) (fun h => hi.k.inn y h)).mono (l1.trans l)
  obtain ⟨o, A, c, rfl, hN⟩ := hh
  (first | (refine ⟨⟨[], rfl⟩, _, hN.le, PH.Le.refl _, ?_⟩; conv => whnf) | conv => whnf)
  exact ⟨_, PH.Le.refl _, o, A, c, rfl, hN.from l1⟩
theorem keysTagged_spec (x : StA) (t : ByteArray) (M : PH) (hi : x.inn M) (hco : x.c.cost ≤ 1048576) :
    ACall env 28 [x.val, Tx t] M fun r M' => ∃ o A c, r = nrV (stFault x.c) A (kt x.c t).length c ∧ New M M' o A c 1 stC (kt x.c t) := by
  obtain ⟨n1, n2, hd⟩ := st_split hco
  refine xcall_of_vc Tryz.func28 rfl _ Tryz.ntmps28 _ rfl (fun _ _ => Tryz.call28 _ _) rfl (fun w0 ρ0 => ?_)
  conv => whnf
  refine Ret.go (storeFault_spec x _ hi hco) ?_
  conv => whnf
  refine caseB_ndec (fun h => ?_) (fun h => ?_)
  · conv => whnf
    have e : kt x.c t = [] := by unfold kt; rw [if_neg h]
    exact ⟨_, PH.Le.refl _, none, none, 0, by rw [e]; rfl, by rw [e]; exact New.nil M none⟩
  have e : kt x.c t = keysL (fun e => tagT e.tags t) x.c.all := by unfold kt; rw [if_pos h]
  rw [e, h]
  clear e
  conv => whnf
  refine XCall.lift (l9Tagged_ret 36 x t M hi n1 n2 hd) [0] ?_ (by simp) (by simp) (by simp [AV.plain]) ?_
  · simp [ren]
  rintro r bs' M1 ⟨⟨o, A, c, rfl, hN⟩, rfl⟩
  refine ⟨by simp [AV.plain], ?_⟩
  conv => whnf
  exact ⟨_, PH.Le.refl _, o, A, c, rfl, hN⟩
theorem eqNR_ret (k : Int) (A A' : Option Addr) (c c' : Nat) (ws : List ByteArray) (M : PH) (hs : Sl M A 1 stC ws) (hs' : Sl M A' 1 stC ws) (hn : ws.length ≤ 1048576) : Ret 30 [nrV k A ws.length c, nrV k A' ws.length c'] M (B true) := by
  refine xcall_of_vc Tryz.func30 rfl _ Tryz.ntmps30 _ rfl (fun _ _ => Tryz.call30 _ _) rfl (fun w0 ρ0 => ?_)
  conv => whnf
  repeat' (first | (refine ⟨⟨[], rfl⟩, _, PH.Le.refl _, PH.Le.refl _, ?_⟩; conv => whnf) | (refine caseB_true ?_; conv => whnf) | (refine caseB_false ?_; conv => whnf) | ((with_reducible refine caseB_dec (fun h => ?_) (fun h => ?_)) <;> conv => whnf) | ((with_reducible refine caseB_ndec (fun h => ?_) (fun h => ?_)) <;> conv => whnf) | ((with_reducible refine caseB_not (fun h => ?_) (fun h => ?_)) <;> conv => whnf) | (refine Ret.go (eqStringS_ret A A' c c' ws _ hs hs' hn) ?_; conv => whnf) | (with_reducible refine @And.intro (guardVC _ _ _ _ _) _ ?_ ?_) <;> conv => whnf | (refine caseB_intro (fun h => ?_) (fun h => ?_) <;> (try simp only [Bool.not_eq_true', Bool.not_eq_false', decide_eq_true_eq, decide_eq_false_iff_not] at h) <;> conv => whnf))
  all_goals first | (exfalso; exact h rfl; done) | exact ⟨_, PH.Le.refl _, rfl, rfl⟩
theorem markNR_ret (q : Int) (o : Option Nat) (A : Option Addr) (c : Nat) (ws : List ByteArray) (M : PH) (h : Ow M o A c 1 stC ws) (hn : ws.length ≤ 1048576) :
    ACall env 31 [nrV q A ws.length c, I 1] M fun r M' => r = I (1 + 1 * ws.length) ∧ Ow M' o A c 1 stC (marksL mText 1 1 ws.length) ∧ Keeps o M M' := by
  refine xcall_of_vc Tryz.func31 rfl _ Tryz.ntmps31 _ rfl (fun _ _ => Tryz.call31 _ _) rfl (fun w0 ρ0 => ?_)
  conv => whnf
  refine ACall.step (markStringS_ret o A c ws 1 M h (by omega) ⟨by omega, by omega⟩) fun v M1 hh => ?_
  obtain ⟨rfl, h1, h2⟩ := hh
  conv => whnf
  exact ⟨_, PH.Le.refl _, rfl, h1, h2⟩
theorem heldNR_ret (q : Int) (A : Option Addr) (c n : Nat) (M : PH) (hs : Sl M A 1 stC (marksL mText 1 1 n)) (hn : n ≤ 1048576) : Ret 32 [nrV q A n c, I 1] M (I (1 + 1 * n)) := by
  refine xcall_of_vc Tryz.func32 rfl _ Tryz.ntmps32 _ rfl (fun _ _ => Tryz.call32 _ _) rfl (fun w0 ρ0 => ?_)
  conv => whnf
  refine Ret.go (heldStringS_ret A c n 1 M hs (by omega) ⟨by omega, by omega⟩) ?_
  conv => whnf
  refine caseB_dec (fun h => ?_) (fun _ => ?_)
  · exfalso; omega
  conv => whnf
  exact ⟨_, PH.Le.refl _, rfl, rfl⟩
theorem KeepsL.over {L : List (Option Nat)} {M₀ M M' : PH} (h : KeepsL L M M') (h0 : M₀.Le M) (hf : Fr M₀ L) : M₀.Le M' := fun k ob hk => h k ob (h0 k ob hk) fun hm => by rw [hf _ hm k rfl] at hk; cases hk
theorem ow_keepsL {α : Type} {f : α → List Value} {xs : List α} {sz : Nat} {o : Option Nat} {A : Option Addr} {c : Nat} {L : List (Option Nat)} {M M' : PH} (h : Ow M o A c sz f xs) (k : KeepsL L M M') (ha : ∀ b ∈ L, Apart o b) : Ow M' o A c sz f xs :=
  h.keep fun g ob e hg => k g ob hg fun hm => ha _ hm g e rfl
theorem keysTagged_law (x : StA) (t : ByteArray) (M : PH) (hi : x.inn M) (ho : x.c.okl) :
    ACall env 4 [x.val, Tx t] M fun r M' => r = B true ∧ M.Le M' := by
  refine xcall_of_vc Tryz.func4 rfl _ Tryz.ntmps4 _ rfl (fun _ _ => Tryz.call4 _ _) rfl (fun w0 ρ0 => ?_)
  conv => whnf
  refine caseB_dec (fun h => ?_) (fun _ => ?_)
  · conv => whnf
    exact ⟨_, PH.Le.refl _, rfl, PH.Le.refl _⟩
  conv => whnf
  refine ACall.step (szStore_ret x _ M hi ho (by omega) (by omega)) fun v M0 hh => ?_
  obtain ⟨m, rfl, rfl, hm⟩ := hh
  conv => whnf
  refine caseB_dec (fun h0 => ?_) (fun h0 => ?_)
  · conv => whnf
    exact ⟨_, PH.Le.refl _, rfl, PH.Le.refl _⟩
  have hm := hm (by omega)
  have hco : x.c.cost ≤ 1048576 := by omega
  clear hm h0 ho
  conv => whnf
  refine ACall.step (toStore_ret x _ hi hco) fun v M1 hh => ?_
  obtain ⟨y1, rfl, e1, l1, i1⟩ := hh
  conv => whnf
  refine ACall.step (keysTagged_spec y1 t M1 i1 (by rw [e1]; exact hco)) fun v M2 hh => ?_
  obtain ⟨o1, A1, c1, rfl, N1⟩ := hh
  rw [e1] at N1 ⊢
  have l2 := l1.trans N1.le
  conv => whnf
  refine ACall.step (toStore_own x _ (hi.mono l2) hco) fun v M3 hh => ?_
  obtain ⟨s, rfl, es, l3, D, F⟩ := hh
  have l4 := l2.trans l3
  conv => whnf
  have hsv := s.sta_val
  have hsc := s.sta_c
  have hcs : s.sta.c.cost ≤ 1048576 := by rw [hsc, es]; exact hco
  have hI := keysTagged_impl s.sta t M3 D.inn hcs
  rw [hsv, hsc, es] at hI
  refine ACall.step hI fun v M4 hh => ?_
  obtain ⟨o2, A2, c2, rfl, N2⟩ := hh
  have l5 := l4.trans N2.le
  conv => whnf
  have hl := kt_len x.c t
  have W1 := N1.ow.mono (l3.trans N2.le)
  have W2 := N2.ow
  have f2 : Fr M3 [o2] := fun a ha g e => by simp at ha; subst ha; exact N2.fr g e
  have ap1 : ∀ b ∈ soL s, Apart o1 b := fun b hb => apart_of (L := [o1]) (fun a ha g e => by simp at ha; subst ha; exact N1.ow.known g e) F _ (by simp) b hb
  have ap2 : ∀ b ∈ soL s, Apart o2 b := fun b hb => (apart_of D.kn f2 b hb o2 (by simp)).symm
  have ap12 : Apart o2 o1 := (apart_of (L := [o1]) (fun a ha g e => by simp at ha; subst ha; exact (N1.ow.mono l3).known g e) f2 o1 (by simp) o2 (by simp)).symm
  have D := D.mono N2.le
  have fr0 : Fr M2 (soL s) := F
  refine Ret.go (eqNR_ret _ _ _ _ _ _ _ (W2.sl st_len) (W1.sl st_len) (by omega)) ?_
  conv => whnf
  refine caseB_false ?_
  conv => whnf
  repeat' (first | (refine ⟨⟨[], rfl⟩, _, PH.Le.refl _, PH.Le.refl _, ?_⟩; conv => whnf) | (refine caseB_true ?_; conv => whnf) | (refine caseB_false ?_; conv => whnf) | ((with_reducible refine caseB_dec (fun h => ?_) (fun h => ?_)) <;> conv => whnf) | ((with_reducible refine caseB_ndec (fun h => ?_) (fun h => ?_)) <;> conv => whnf) | ((with_reducible refine caseB_not (fun h => ?_) (fun h => ?_)) <;> conv => whnf) | (refine draw_rule (.light 0 <| .light 1 <| .alt 2 false (.alt 3 false (.light 4 <| .done) .nil) .nil) (by decide +kernel) ?_; conv => whnf) | (with_reducible refine @And.intro (guardVC _ _ _ _ _) _ ?_ ?_) <;> conv => whnf | (refine caseB_intro (fun h => ?_) (fun h => ?_) <;> (try simp only [Bool.not_eq_true', Bool.not_eq_false', decide_eq_true_eq, decide_eq_false_iff_not] at h) <;> conv => whnf))
  refine ACall.step (toStore_ret x _ (hi.mono l5) hco) fun v M5 hh => ?_
  obtain ⟨y5, rfl, e5, l6, i5⟩ := hh
  (first | (refine ⟨⟨[], rfl⟩, _, l6, PH.Le.refl _, ?_⟩; conv => whnf) | conv => whnf)
  have D := D.mono l6
  have W1 := W1.mono l6
  have W2 := W2.mono l6
  have hq := eqStore_ret s.sta y5 _ D.inn i5 (by rw [hsc, es, e5]) hcs
  rw [hsv] at hq
  refine Ret.go hq ?_
  (first | (refine ⟨⟨[], rfl⟩, _, PH.Le.refl _, PH.Le.refl _, ?_⟩; conv => whnf) | conv => whnf)
  refine caseB_false ?_
  conv => whnf
  have mok : Mok 1 s := Mok.of (by omega) (by rw [← hsc]; omega)
  refine ACall.step (markStore_ret s 1 _ D mok) fun v M6 hh => ?_
  obtain ⟨s', rfl, _, _, K6⟩ := hh
  have hps := posS_end mok
  have W1 := ow_keepsL W1 K6 ap1
  have W2 := ow_keepsL W2 K6 ap2
  have L6 : M0.Le M6 := K6.over (l5.trans l6) (fr0.le l2)
  conv => whnf
  refine caseB_dec (fun h => ?_) (fun _ => ?_)
  · exfalso; omega
  conv => whnf
  repeat (refine caseB_false ?_; conv => whnf)
  refine Ret.go (eqNR_ret _ _ _ _ _ _ _ (W2.sl st_len) (W1.sl st_len) (by omega)) ?_
  conv => whnf
  repeat (refine caseB_false ?_; conv => whnf)
  refine ACall.step (markNR_ret _ _ _ _ _ _ W2 (by omega)) fun v M7 hh => ?_
  obtain ⟨rfl, W2, K7⟩ := hh
  have W1 := W1.keeps K7 (fun g e e' => ap12 g e' e)
  have L7 : M0.Le M7 := K7.over L6 (fun k e => none_of_le l4 (N2.fr k e))
  conv => whnf
  refine Ret.go (heldNR_ret _ _ _ _ _ (W2.sl st_len) (by omega)) ?_
  conv => whnf
  refine caseB_dec (fun h => ?_) (fun _ => ?_)
  · exfalso; omega
  conv => whnf
  refine caseB_ndec (fun h => absurd rfl h) (fun _ => ?_)
  conv => whnf
  refine ACall.step (toStore_ret x _ (hi.mono L7) hco) fun v M8 hh => ?_
  obtain ⟨y8, rfl, e8, l8, i8⟩ := hh
  conv => whnf
  refine ACall.step (keysTagged_impl y8 t M8 i8 (by rw [e8]; exact hco)) fun v M9 hh => ?_
  obtain ⟨o9, A9, c9, rfl, N9⟩ := hh
  rw [e8] at N9 ⊢
  conv => whnf
  have W1 := (W1.mono l8).mono N9.le
  have W2 := (W2.mono l8).mono N9.le
  refine Ret.go (eqNR_ret _ _ _ _ _ _ _ (N9.ow.sl st_len) (W1.sl st_len) (by omega)) ?_
  conv => whnf
  refine caseB_false ?_
  conv => whnf
  refine Ret.go (heldNR_ret _ _ _ _ _ (W2.sl st_len) (by omega)) ?_
  conv => whnf
  refine caseB_dec (fun h => ?_) (fun _ => ?_)
  · exfalso; omega
  conv => whnf
  refine caseB_ndec (fun h => absurd rfl h) (fun _ => ?_)
  conv => whnf
  exact ⟨_, PH.Le.refl _, rfl, (L7.trans l8).trans N9.le⟩
end Go.Proofs.YtafgnmiflngjhaaGreatDoor
