/-
  THE LAW: PolicyOf answers as the reference does.
-/
import Derived.Test.YtdgipmlkkmmliaaGreatDoorRk
namespace Go.Proofs.YtdgipmlkkmmliaaGreatDoor
set_option maxRecDepth 100000
set_option linter.unusedSimpArgs false
set_option linter.unusedVariables false
open Go.Xe
abbrev prV (k : Int) (p : Pol) : Value := .agg #[I k, B p.ns, B p.nc, B p.mu, I p.life, I p.swr, I p.sie, I p.age]
def pol0 : Pol := ⟨false, false, false, 0, 0, 0, 0⟩
noncomputable def polR (ws : List Hd) : Pol := if hdsFault ws = 0 then polV ws else pol0
theorem policy_impl (A : Option Addr) (c : Nat) (ws : List Hd) (M : PH) (hL : Lw M) (hs : Sl M A 2 Hd.cs ws) (hco : costL Hd.cost ws ≤ 1048576) : Ret 9 [.slice A ws.length c] M (prV (hdsFault ws) (polR ws)) := by
  have hn := Nat.le_trans (costL_len Hd.cost ws) hco
  have hp := policyOf_ret A c ws M hL hs hco
  unfold polR
  generalize polV ws = p at *
  refine xcall_of_vc Tryz.func9 rfl _ Tryz.ntmps9 _ rfl (fun _ _ => Tryz.call9 _ _) rfl (fun w0 ρ0 => ?_)
  conv => whnf
  repeat' (first | (refine ⟨⟨[], rfl⟩, _, PH.Le.refl _, PH.Le.refl _, ?_⟩; conv => whnf) | (refine caseB_true ?_; conv => whnf) | (refine caseB_false ?_; conv => whnf) | ((with_reducible refine caseB_dec (fun h => ?_) (fun h => ?_)) <;> conv => whnf) | ((with_reducible refine caseB_ndec (fun h => ?_) (fun h => ?_)) <;> conv => whnf) | ((with_reducible refine caseB_not (fun h => ?_) (fun h => ?_)) <;> conv => whnf) | (refine Ret.go (headersFault_impl A c ws _ hs hn (hd_okl hco)) ?_; conv => whnf) | (refine Ret.go (hp) ?_; conv => whnf) | (with_reducible refine @And.intro (guardVC _ _ _ _ _) _ ?_ ?_) <;> conv => whnf | (refine caseB_intro (fun h => ?_) (fun h => ?_) <;> (try simp only [Bool.not_eq_true', Bool.not_eq_false', decide_eq_true_eq, decide_eq_false_iff_not] at h) <;> conv => whnf))
  · exact ⟨_, PH.Le.refl _, by rw [if_neg h]; rfl, rfl⟩
  · have h : hdsFault ws = 0 := by first | exact h | (have h : ¬ ¬ hdsFault ws = 0 := h; omega)
    exact ⟨_, PH.Le.refl _, by rw [if_pos h, h]; rfl, rfl⟩
theorem policy_spec (A : Option Addr) (c : Nat) (ws : List Hd) (M : PH) (hs : Sl M A 2 Hd.cs ws) (hco : costL Hd.cost ws ≤ 1048576) : Ret 7 [.slice A ws.length c] M (prV (hdsFault ws) (polR ws)) := by
  have hn := Nat.le_trans (costL_len Hd.cost ws) hco
  have hp := l6Policy_ret A c ws M hs hco
  unfold polR
  generalize polV ws = p at *
  refine xcall_of_vc Tryz.func7 rfl _ Tryz.ntmps7 _ rfl (fun _ _ => Tryz.call7 _ _) rfl (fun w0 ρ0 => ?_)
  conv => whnf
  repeat' (first | (refine ⟨⟨[], rfl⟩, _, PH.Le.refl _, PH.Le.refl _, ?_⟩; conv => whnf) | (refine caseB_true ?_; conv => whnf) | (refine caseB_false ?_; conv => whnf) | ((with_reducible refine caseB_dec (fun h => ?_) (fun h => ?_)) <;> conv => whnf) | ((with_reducible refine caseB_ndec (fun h => ?_) (fun h => ?_)) <;> conv => whnf) | ((with_reducible refine caseB_not (fun h => ?_) (fun h => ?_)) <;> conv => whnf) | (refine Ret.go (headersFault_spec A c ws _ hs hn (hd_okl hco)) ?_; conv => whnf) | (refine Ret.go (hp) ?_; conv => whnf) | (with_reducible refine @And.intro (guardVC _ _ _ _ _) _ ?_ ?_) <;> conv => whnf | (refine caseB_intro (fun h => ?_) (fun h => ?_) <;> (try simp only [Bool.not_eq_true', Bool.not_eq_false', decide_eq_true_eq, decide_eq_false_iff_not] at h) <;> conv => whnf))
  · exact ⟨_, PH.Le.refl _, by rw [if_neg h]; rfl, rfl⟩
  · have h : hdsFault ws = 0 := by first | exact h | (have h : ¬ ¬ hdsFault ws = 0 := h; omega)
    exact ⟨_, PH.Le.refl _, by rw [if_pos h, h]; rfl, rfl⟩
theorem eqPolicy_ret (p : Pol) (M : PH) : Ret 36 [p.val, p.val] M (B true) := by
  refine xcall_of_vc Tryz.func36 rfl _ Tryz.ntmps36 _ rfl (fun _ _ => Tryz.call36 _ _) rfl (fun w0 ρ0 => ?_)
  conv => whnf
  repeat' (first | (refine ⟨⟨[], rfl⟩, _, PH.Le.refl _, PH.Le.refl _, ?_⟩; conv => whnf) | (refine caseB_true ?_; conv => whnf) | (refine caseB_false ?_; conv => whnf) | ((with_reducible refine caseB_dec (fun h => ?_) (fun h => ?_)) <;> conv => whnf) | ((with_reducible refine caseB_ndec (fun h => ?_) (fun h => ?_)) <;> conv => whnf) | ((with_reducible refine caseB_not (fun h => ?_) (fun h => ?_)) <;> conv => whnf) | (with_reducible refine @And.intro (guardVC _ _ _ _ _) _ ?_ ?_) <;> conv => whnf | (refine caseB_intro (fun h => ?_) (fun h => ?_) <;> (try simp only [Bool.not_eq_true', Bool.not_eq_false', decide_eq_true_eq, decide_eq_false_iff_not] at h) <;> conv => whnf))
  all_goals first | (exfalso; exact h rfl; done) | (exfalso; rw [beq_self_eq_true] at h; cases h; done) | exact ⟨_, PH.Le.refl _, rfl, rfl⟩
theorem eqPolicyResult_ret (k : Int) (p : Pol) (M : PH) : Ret 10 [prV k p, prV k p] M (B true) := by
  refine xcall_of_vc Tryz.func10 rfl _ Tryz.ntmps10 _ rfl (fun _ _ => Tryz.call10 _ _) rfl (fun w0 ρ0 => ?_)
  conv => whnf
  repeat' (first | (refine ⟨⟨[], rfl⟩, _, PH.Le.refl _, PH.Le.refl _, ?_⟩; conv => whnf) | (refine caseB_true ?_; conv => whnf) | (refine caseB_false ?_; conv => whnf) | ((with_reducible refine caseB_dec (fun h => ?_) (fun h => ?_)) <;> conv => whnf) | ((with_reducible refine caseB_ndec (fun h => ?_) (fun h => ?_)) <;> conv => whnf) | ((with_reducible refine caseB_not (fun h => ?_) (fun h => ?_)) <;> conv => whnf) | (refine Ret.go (eqPolicy_ret p _) ?_; conv => whnf) | (with_reducible refine @And.intro (guardVC _ _ _ _ _) _ ?_ ?_) <;> conv => whnf | (refine caseB_intro (fun h => ?_) (fun h => ?_) <;> (try simp only [Bool.not_eq_true', Bool.not_eq_false', decide_eq_true_eq, decide_eq_false_iff_not] at h) <;> conv => whnf))
  all_goals first | (exfalso; exact h rfl; done) | exact ⟨_, PH.Le.refl _, rfl, rfl⟩
theorem policyOf_law (A : Option Addr) (c : Nat) (ws : List Hd) (M : PH) (hL : Lw M) (hs : Sl M A 2 Hd.cs ws) (h63 : ws.length ≤ maxLen) (ho : ∀ x ∈ ws, x.okl) :
    ACall env 3 [.slice A ws.length c] M fun r M' => r = B true ∧ M.Le M' := by
  refine xcall_of_vc Tryz.func3 rfl _ Tryz.ntmps3 _ rfl (fun _ _ => Tryz.call3 _ _) rfl (fun w0 ρ0 => ?_)
  conv => whnf
  refine ACall.step (szHeaderS_ret A c ws _ M hs ho h63 (by omega) (by omega)) fun v M2 hh => ?_
  obtain ⟨m, rfl, rfl, hm⟩ := hh
  conv => whnf
  refine caseB_dec (fun h0 => ?_) (fun h0 => ?_)
  · conv => whnf
    exact ⟨_, PH.Le.refl _, rfl, PH.Le.refl _⟩
  have hm := hm (by omega)
  have hco : costL Hd.cost ws ≤ 1048576 := by omega
  have hn := Nat.le_trans (costL_len Hd.cost ws) hco
  clear hm h0
  conv => whnf
  refine ACall.step (toHeaderS_new A c ws _ hs hn) fun v M1 hh => ?_
  obtain ⟨g1, hg1, rfl, l1, s1⟩ := hh
  conv => whnf
  refine Ret.go (policy_spec _ _ ws _ s1 hco) ?_
  conv => whnf
  refine ACall.step (toHeaderS_new A c ws _ (hs.mono l1) hn) fun v M3 hh => ?_
  obtain ⟨g2, hg2, rfl, l2, s2⟩ := hh
  conv => whnf
  refine Ret.go (policy_impl _ _ ws _ ((hL.mono l1).mono l2) s2 hco) ?_
  conv => whnf
  refine Ret.go (eqPolicyResult_ret (hdsFault ws) (polR ws) _) ?_
  conv => whnf
  refine caseB_false ?_
  conv => whnf
  repeat' (first | (refine ⟨⟨[], rfl⟩, _, PH.Le.refl _, PH.Le.refl _, ?_⟩; conv => whnf) | (refine ACall.step (toHeaderS_new A c ws _ ((hs.mono l1).mono l2) hn) fun v M4 hh => ?_; obtain ⟨g3, hg3, rfl, l3, s3⟩ := hh; (first | (refine ⟨⟨[], rfl⟩, _, l3, PH.Le.refl _, ?_⟩; conv => whnf) | conv => whnf)) | (refine caseB_true ?_; conv => whnf) | (refine caseB_false ?_; conv => whnf) | ((with_reducible refine caseB_dec (fun h => ?_) (fun h => ?_)) <;> conv => whnf) | ((with_reducible refine caseB_ndec (fun h => ?_) (fun h => ?_)) <;> conv => whnf) | ((with_reducible refine caseB_not (fun h => ?_) (fun h => ?_)) <;> conv => whnf) | (refine Ret.go (eqHeaderS_ret _ _ _ _ ws _ (s2.mono l3) s3 hn) ?_; conv => whnf) | (with_reducible refine @And.intro (guardVC _ _ _ _ _) _ ?_ ?_) <;> conv => whnf | (refine caseB_intro (fun h => ?_) (fun h => ?_) <;> (try simp only [Bool.not_eq_true', Bool.not_eq_false', decide_eq_true_eq, decide_eq_false_iff_not] at h) <;> conv => whnf))
  all_goals exact ⟨_, PH.Le.refl _, rfl, (l1.trans l2).trans l3⟩
end Go.Proofs.YtdgipmlkkmmliaaGreatDoor
