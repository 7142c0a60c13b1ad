/-
  THE LAW: TagsOf answers as the reference does, in memory of its own.
-/
import Derived.Test.YtdgipmlkkmmliaaDoorSs
import Derived.Test.YtdgipmlkkmmliaaDoorVb
import Derived.Test.YtdgipmlkkmmliaaDoorOc
namespace Go.Proofs.YtdgipmlkkmmliaaDoor
set_option maxRecDepth 100000
set_option linter.unusedSimpArgs false
set_option linter.unusedVariables false
open Go.Xe
theorem eqNW_ret (k : Int) (A A' : Option Addr) (c c' : Nat) (ws : List ByteArray) (M : PH) (hs : Sl M A 1 stC ws) (hs' : Sl M A' 1 stC ws) (hn : ws.length ≤ 1048576) : Ret 9 [nrW k A ws.length c, nrW k A' ws.length c'] M (B true) := by
  refine xcall_of_vc Tryd.func9 rfl _ Tryd.ntmps9 _ rfl (fun _ _ => Tryd.call9 _ _) rfl (fun w0 ρ0 => ?_)
  conv => whnf
  repeat' (first | (refine ⟨⟨[], rfl⟩, _, PH.Le.refl _, PH.Le.refl _, ?_⟩; conv => whnf) | (refine caseB_true ?_; conv => whnf) | (refine caseB_false ?_; conv => whnf) | ((with_reducible refine caseB_dec (fun h => ?_) (fun h => ?_)) <;> conv => whnf) | ((with_reducible refine caseB_ndec (fun h => ?_) (fun h => ?_)) <;> conv => whnf) | ((with_reducible refine caseB_not (fun h => ?_) (fun h => ?_)) <;> conv => whnf) | (refine Ret.go (eqStringS_ret A A' c c' ws _ hs hs' hn) ?_; conv => whnf) | (with_reducible refine @And.intro (guardVC _ _ _ _ _) _ ?_ ?_) <;> conv => whnf | (refine caseB_intro (fun h => ?_) (fun h => ?_) <;> (try simp only [Bool.not_eq_true', Bool.not_eq_false', decide_eq_true_eq, decide_eq_false_iff_not] at h) <;> conv => whnf))
  all_goals first | (exfalso; exact h rfl; done) | exact ⟨_, PH.Le.refl _, rfl, rfl⟩
theorem markNW_ret (q : Int) (o : Option Nat) (A : Option Addr) (c : Nat) (ws : List ByteArray) (M : PH) (h : Ow M o A c 1 stC ws) (hn : ws.length ≤ 1048576) :
    ACall env 12 [nrW q A ws.length c, I 1] M fun r M' => r = I (1 + 1 * ws.length) ∧ Ow M' o A c 1 stC (marksL mText 1 1 ws.length) ∧ Keeps o M M' := by
  refine xcall_of_vc Tryd.func12 rfl _ Tryd.ntmps12 _ rfl (fun _ _ => Tryd.call12 _ _) rfl (fun w0 ρ0 => ?_)
  conv => whnf
  refine ACall.step (markStringS_ret o A c ws 1 M h (by omega) ⟨by omega, by omega⟩) fun v M1 hh => ?_
  obtain ⟨rfl, h1, h2⟩ := hh
  conv => whnf
  exact ⟨_, PH.Le.refl _, rfl, h1, h2⟩
theorem heldNW_ret (q : Int) (A : Option Addr) (c n : Nat) (M : PH) (hs : Sl M A 1 stC (marksL mText 1 1 n)) (hn : n ≤ 1048576) : Ret 13 [nrW q A n c, I 1] M (I (1 + 1 * n)) := by
  refine xcall_of_vc Tryd.func13 rfl _ Tryd.ntmps13 _ rfl (fun _ _ => Tryd.call13 _ _) rfl (fun w0 ρ0 => ?_)
  conv => whnf
  refine Ret.go (heldStringS_ret A c n 1 M hs (by omega) ⟨by omega, by omega⟩) ?_
  conv => whnf
  refine caseB_dec (fun h => ?_) (fun _ => ?_)
  · exfalso; omega
  conv => whnf
  exact ⟨_, PH.Le.refl _, rfl, rfl⟩
theorem toHeaderS_own (A : Option Addr) (c : Nat) (ws : List Hd) (M : PH) (hs : Sl M A 2 Hd.cs ws) (hn : ws.length ≤ 1048576) :
    ACall env 7 [.slice A ws.length c] M fun r M' => ∃ g, r = .slice (some ⟨g, 0, none⟩) ws.length ws.length ∧ New M M' (some g) (some ⟨g, 0, none⟩) ws.length 2 Hd.cs ws :=
  (toHeaderS_ret A c ws M hs hn).mono fun r M' ⟨g, hg, hr, hM⟩ => by
    subst hM
    exact ⟨g, hr, Ow.new Hd.len M g ws 45, PH.Le.set _ hg, fun k e => by cases e; exact hg⟩
theorem ow_ne {α : Type} {f : α → List Value} {sz : Nat} {M : PH} {o : Option Nat} {A : Option Addr} {c : Nat} {ws : List α} (h : Ow M o A c sz f ws) {o' : Option Nat} (hf : ∀ g, o' = some g → M g = none) : ∀ g, o = some g → o' ≠ some g := fun g e e2 => by
  obtain ⟨ob, hob⟩ := h.known g e
  rw [hf g e2] at hob
  cases hob
theorem openHdS {H : Type} {enc : TypeId × Value → H} {W : World} {base : Nat} {v : Value} {d : DataW H} {p : List MemPlace} (hv : Value.okWide Tryd.prog W .any base 22 v)
    (h : DataW.Trod enc Tryd.prog W 0 (fun _ => true) true 22 v d p) : ∃ (A : Option Addr) (c : Nat) (ws : List Hd), v = .slice A ws.length c ∧ Sl (whole W) A 2 Hd.cs ws ∧ ws.length ≤ maxLen ∧ (∀ x ∈ ws, x.okl) := by
  obtain ⟨cs, rfl, hs⟩ := open_arg env 9 (ti := ti22) (by kernel_rfl) (s := .slice shHd 2) (by kernel_rfl) hv h
  obtain ⟨A, c, ws, rfl, hS, hl, hx⟩ := open_sld Hd.cs Hd.okl (fun es h => open_hd h) hs
  exact ⟨A, c, ws, rfl, hS, hl, hx⟩
set_option maxHeartbeats 4000000 in
theorem tagsOf_law (A : Option Addr) (c : Nat) (ws : List Hd) (M : PH) (hs : Sl M A 2 Hd.cs ws) (h63 : ws.length ≤ maxLen) (ho : ∀ x ∈ ws, x.okl) :
    ACall env 3 [.slice A ws.length c] M fun r M' => r = B true ∧ M.Le M' := by
  refine xcall_of_vc Tryd.func3 rfl _ Tryd.ntmps3 _ rfl (fun _ _ => Tryd.call3 _ _) rfl (fun w0 ρ0 => ?_)
  conv => whnf
  refine ACall.step (szHeaderS_ret A c ws _ M hs ho h63 (by omega) (by omega)) fun v M0 hh => ?_
  obtain ⟨m, rfl, rfl, hm⟩ := hh
  conv => whnf
  refine caseB_dec (fun h0 => ?_) (fun h0 => ?_)
  · conv => whnf
    exact ⟨_, PH.Le.refl _, rfl, PH.Le.refl _⟩
  have hm := hm (by omega)
  have hco : costL Hd.cost ws ≤ 1048576 := by omega
  have hn := Nat.le_trans (costL_len Hd.cost ws) hco
  have hR := tagR_len ws
  clear hm h0
  conv => whnf
  refine ACall.step (toHeaderS_new A c ws _ hs hn) fun v M1 hh => ?_
  obtain ⟨g1, hg1, rfl, l1, s1⟩ := hh
  conv => whnf
  refine ACall.step (tagsOf_spec _ _ ws M1 s1 hco ho) fun v M2 hh => ?_
  obtain ⟨o2, A2, c2, rfl, N2⟩ := hh
  have l2 := l1.trans N2.le
  conv => whnf
  refine ACall.step (toHeaderS_own A c ws M2 (hs.mono l2) hn) fun v M3 hh => ?_
  obtain ⟨g3, rfl, N3⟩ := hh
  have l3 := l2.trans N3.le
  conv => whnf
  refine ACall.step (tagsOf_impl _ _ ws M3 (N3.ow.sl Hd.len) hco ho) fun v M4 hh => ?_
  obtain ⟨o4, A4, c4, rfl, N4⟩ := hh
  have l4 := l3.trans N4.le
  conv => whnf
  have W2 := (N2.ow.mono N3.le).mono N4.le
  have W3 := N3.ow.mono N4.le
  have W4 := N4.ow
  have d23 : ∀ g, o2 = some g → (some g3) ≠ some g := ow_ne N2.ow fun g e => N3.fr g e
  have d24 : ∀ g, o2 = some g → o4 ≠ some g := ow_ne (N2.ow.mono N3.le) N4.fr
  have d43 : ∀ g, o4 = some g → (some g3) ≠ some g := fun g e e2 => ow_ne N3.ow N4.fr g e2 e
  refine Ret.go (eqNW_ret _ _ _ _ _ _ _ (W4.sl st_len) (W2.sl st_len) (by omega)) ?_
  conv => whnf
  refine caseB_false ?_
  conv => whnf
  repeat' (first | (refine ⟨⟨[], rfl⟩, _, PH.Le.refl _, PH.Le.refl _, ?_⟩; conv => whnf) | (refine ACall.step (toHeaderS_new A c ws _ (hs.mono l4) hn) fun v M5 hh => ?_; obtain ⟨g5, hg5, rfl, l5, s5⟩ := hh; (first | (refine ⟨⟨[], rfl⟩, _, l5, PH.Le.refl _, ?_⟩; conv => whnf) | conv => whnf)) | (refine caseB_true ?_; conv => whnf) | (refine caseB_false ?_; conv => whnf) | ((with_reducible refine caseB_dec (fun h => ?_) (fun h => ?_)) <;> conv => whnf) | ((with_reducible refine caseB_ndec (fun h => ?_) (fun h => ?_)) <;> conv => whnf) | ((with_reducible refine caseB_not (fun h => ?_) (fun h => ?_)) <;> conv => whnf) | (refine Ret.go (eqHeaderS_ret _ _ _ _ ws _ ((W3.mono l5).sl Hd.len) s5 hn) ?_; conv => whnf) | (with_reducible refine @And.intro (guardVC _ _ _ _ _) _ ?_ ?_) <;> conv => whnf | (refine caseB_intro (fun h => ?_) (fun h => ?_) <;> (try simp only [Bool.not_eq_true', Bool.not_eq_false', decide_eq_true_eq, decide_eq_false_iff_not] at h) <;> conv => whnf))
  have L5 := l4.trans l5
  refine ACall.step (markHeaderS_ret (some g3) _ _ ws 1 _ (W3.mono l5) (by omega) ⟨by omega, by omega⟩) fun v M6 hh => ?_
  obtain ⟨rfl, _, K6⟩ := hh
  have L6 : M0.Le M6 := K6.over L5 fun k e => none_of_le l2 (N3.fr k e)
  have W2 := (W2.mono l5).keeps K6 d23
  have W4 := (W4.mono l5).keeps K6 d43
  conv => whnf
  refine caseB_dec (fun h => ?_) (fun _ => ?_)
  · exfalso
    have h : (1 : Int) + 2 * ws.length < 0 := h
    omega
  conv => whnf
  repeat (refine caseB_false ?_; conv => whnf)
  refine Ret.go (eqNW_ret _ _ _ _ _ _ _ (W4.sl st_len) (W2.sl st_len) (by omega)) ?_
  conv => whnf
  repeat (refine caseB_false ?_; conv => whnf)
  refine ACall.step (markNW_ret _ o4 _ _ _ _ W4 (by omega)) fun v M7 hh => ?_
  obtain ⟨rfl, W7, K7⟩ := hh
  have L7 : M0.Le M7 := K7.over L6 fun k e => none_of_le l3 (N4.fr k e)
  have W2 := W2.keeps K7 d24
  conv => whnf
  refine Ret.go (heldNW_ret _ _ _ _ _ (W7.sl st_len) (by omega)) ?_
  conv => whnf
  refine caseB_dec (fun h => ?_) (fun _ => ?_)
  · exfalso
    have h : (1 : Int) + 1 * (tagR ws).length < 0 := h
    omega
  conv => whnf
  refine caseB_ndec (fun h => ?_) (fun h => ?_)
  · exact absurd rfl h
  · conv => whnf
    refine ACall.step (toHeaderS_new A c ws _ (hs.mono L7) hn) fun v M8 hh => ?_
    obtain ⟨g8, hg8, rfl, l8, s8⟩ := hh
    conv => whnf
    refine ACall.step (tagsOf_impl _ _ ws M8 s8 hco ho) fun v M9 hh => ?_
    obtain ⟨o9, A9, c9, rfl, N9⟩ := hh
    have l9 := l8.trans N9.le
    conv => whnf
    refine Ret.go (eqNW_ret _ _ _ _ _ _ _ (N9.ow.sl st_len) ((W2.mono l9).sl st_len) (by omega)) ?_
    conv => whnf
    refine caseB_false ?_
    conv => whnf
    refine Ret.go (heldNW_ret _ _ _ _ _ ((W7.mono l9).sl st_len) (by omega)) ?_
    conv => whnf
    refine caseB_dec (fun h => ?_) (fun _ => ?_)
    · exfalso
      have h : (1 : Int) + 1 * (tagR ws).length < 0 := h
      omega
    conv => whnf
    refine caseB_ndec (fun h => ?_) (fun h => ?_)
    · exact absurd rfl h
    · conv => whnf
      exact ⟨_, PH.Le.refl _, rfl, L7.trans l9⟩
end Go.Proofs.YtdgipmlkkmmliaaDoor
