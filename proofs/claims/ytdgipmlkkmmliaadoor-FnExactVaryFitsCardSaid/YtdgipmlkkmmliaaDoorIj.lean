/-
  THE LAW: VaryFits answers as the reference does.
-/
import Derived.Test.YtdgipmlkkmmliaaDoorIi
import Derived.Test.YtdgipmlkkmmliaaDoorOc
namespace Go.Proofs.YtdgipmlkkmmliaaDoor
set_option maxRecDepth 100000
set_option linter.unusedSimpArgs false
set_option linter.unusedVariables false
open Go.Xe
theorem openHdV {H : Type} {enc : TypeId × Value → H} {W : World} {base : Nat} {v : Value} {d : DataW H} {p : List MemPlace} (hv : Value.okWide Tryd.prog W .any base 22 v)
    (h : DataW.Trod enc Tryd.prog W 0 (fun _ => true) true 22 v d p) : ∃ (A : Option Addr) (c : Nat) (ws : List Hd), v = .slice A ws.length c ∧ Sl (whole W) A 2 Hd.cs ws ∧ ws.length ≤ maxLen ∧ (∀ x ∈ ws, x.okl) := by
  obtain ⟨cs, rfl, hs⟩ := open_arg env 9 (ti := ti22) (by kernel_rfl) (s := .slice shHd 2) (by kernel_rfl) hv h
  obtain ⟨A, c, ws, rfl, hS, hl, hx⟩ := open_sld Hd.cs Hd.okl (fun es h => open_hd h) hs
  exact ⟨A, c, ws, rfl, hS, hl, hx⟩
theorem openStV {H : Type} {enc : TypeId × Value → H} {W : World} {base : Nat} {v : Value} {d : DataW H} {p : List MemPlace} (hv : Value.okWide Tryd.prog W .any base 24 v)
    (h : DataW.Trod enc Tryd.prog W 0 (fun _ => true) true 24 v d p) : ∃ (A : Option Addr) (c : Nat) (ws : List ByteArray), v = .slice A ws.length c ∧ Sl (whole W) A 1 stC ws ∧ ws.length ≤ maxLen ∧ (∀ x ∈ ws, x.size ≤ maxLen) := by
  obtain ⟨cs, rfl, hs⟩ := open_arg env 9 (ti := ti24) (by kernel_rfl) (s := .slice .str 1) (by kernel_rfl) hv h
  obtain ⟨A, c, ws, rfl, hS, hl, hx⟩ := open_sld stC (fun b => b.size ≤ maxLen) (fun es h => by obtain ⟨s, h1, rfl⟩ := h; exact ⟨s, rfl, h1⟩) hs
  exact ⟨A, c, ws, rfl, hS, hl, hx⟩
theorem varyFits_law (A A' : Option Addr) (c c' : Nat) (ws : List Hd) (ns : List ByteArray) (M : PH) (hs : Sl M A 2 Hd.cs ws) (h63 : ws.length ≤ maxLen) (ho : ∀ x ∈ ws, x.okl) (hns : Sl M A' 1 stC ns) (h63' : ns.length ≤ maxLen) (hno : ∀ x ∈ ns, x.size ≤ maxLen) :
    ACall env 4 [.slice A ws.length c, .slice A' ns.length c'] M fun r M' => r = B true ∧ M.Le M' := by
  refine xcall_of_vc Tryd.func4 rfl _ Tryd.ntmps4 _ rfl (fun _ _ => Tryd.call4 _ _) rfl (fun w0 ρ0 => ?_)
  conv => whnf
  refine ACall.step (szHeaderS_ret A c ws _ M hs ho h63 (by omega) (by omega)) fun v M0 hh => ?_
  obtain ⟨m, rfl, rfl, hm⟩ := hh
  conv => whnf
  refine caseB_dec (fun h0 => ?_) (fun h0 => ?_)
  · conv => whnf
    exact ⟨_, PH.Le.refl _, rfl, PH.Le.refl _⟩
  have hm := hm (by omega)
  have hco : costL Hd.cost ws ≤ 1048576 := by omega
  have hn := Nat.le_trans (costL_len Hd.cost ws) hco
  conv => whnf
  refine ACall.step (szStringS_ret A' c' ns _ M0 hns hno h63' (by omega) (by omega)) fun v M0 hh => ?_
  obtain ⟨m2, rfl, rfl, hm2⟩ := hh
  conv => whnf
  refine caseB_dec (fun h1 => ?_) (fun h1 => ?_)
  · conv => whnf
    exact ⟨_, PH.Le.refl _, rfl, PH.Le.refl _⟩
  have hm2 := hm2 (by omega)
  have hn2 : ns.length ≤ 1048576 := by
    have := costL_len stSz ns
    omega
  clear hm hm2 h0 h1
  conv => whnf
  refine ACall.step (toHeaderS_new A c ws _ hs hn) fun v M1 hh => ?_
  obtain ⟨g1, hg1, rfl, l1, s1⟩ := hh
  conv => whnf
  refine ACall.step (toStringS_new A' c' ns _ (hns.mono l1) hn2) fun v M2 hh => ?_
  obtain ⟨g2, hg2, rfl, l2, s2⟩ := hh
  conv => whnf
  refine Ret.go (varyFits_spec _ _ _ _ ws ns _ (s1.mono l2) s2 hco ho hn2 hno) ?_
  conv => whnf
  refine ACall.step (toHeaderS_new A c ws _ ((hs.mono l1).mono l2) hn) fun v M3 hh => ?_
  obtain ⟨g3, hg3, rfl, l3, s3⟩ := hh
  conv => whnf
  refine ACall.step (toStringS_new A' c' ns _ (((hns.mono l1).mono l2).mono l3) hn2) fun v M4 hh => ?_
  obtain ⟨g4, hg4, rfl, l4, s4⟩ := hh
  have L4 := ((l1.trans l2).trans l3).trans l4
  conv => whnf
  refine Ret.go (varyFits_impl _ _ _ _ ws ns _ (s3.mono l4) s4 hco ho hn2 hno) ?_
  generalize fitsB ws ns = fb
  conv => whnf
  repeat' (first | (refine ⟨⟨[], rfl⟩, _, PH.Le.refl _, PH.Le.refl _, ?_⟩; conv => whnf) | (refine ACall.step (toStringS_new A' c' ns _ (hns.mono (L4.trans l5)) hn2) fun v M6 hh => ?_; obtain ⟨g6, hg6, rfl, l6, s6⟩ := hh; (first | (refine ⟨⟨[], rfl⟩, _, l6, PH.Le.refl _, ?_⟩; conv => whnf) | conv => whnf)) | (refine ACall.step (toHeaderS_new A c ws _ (hs.mono L4) hn) fun v M5 hh => ?_; obtain ⟨g5, hg5, rfl, l5, s5⟩ := hh; (first | (refine ⟨⟨[], rfl⟩, _, l5, PH.Le.refl _, ?_⟩; conv => whnf) | conv => whnf)) | (refine caseB_true ?_; conv => whnf) | (refine caseB_false ?_; conv => whnf) | ((with_reducible refine caseB_dec (fun h => ?_) (fun h => ?_)) <;> conv => whnf) | ((with_reducible refine caseB_ndec (fun h => ?_) (fun h => ?_)) <;> conv => whnf) | ((with_reducible refine caseB_not (fun h => ?_) (fun h => ?_)) <;> conv => whnf) | (refine Ret.go (eqHeaderS_ret _ _ _ _ ws _ ((s3.mono l4).mono l5) s5 hn) ?_; conv => whnf) | (refine Ret.go (eqStringS_ret _ _ _ _ ns _ ((s4.mono l5).mono l6) s6 hn2) ?_; conv => whnf) | (with_reducible refine @And.intro (guardVC _ _ _ _ _) _ ?_ ?_) <;> conv => whnf | (refine caseB_intro (fun h => ?_) (fun h => ?_) <;> (try simp only [Bool.not_eq_true', Bool.not_eq_false', decide_eq_true_eq, decide_eq_false_iff_not] at h) <;> conv => whnf))
  · exfalso
    rw [beq_self_eq_true] at h
    cases h
  · exact ⟨_, PH.Le.refl _, rfl, (L4.trans l5).trans l6⟩
end Go.Proofs.YtdgipmlkkmmliaaDoor
