/-
  NAMES, and what varies.
-/
import Derived.Test.YtdgipmlkkmmliaaGreatDoorIe
namespace Go.Proofs.YtdgipmlkkmmliaaGreatDoor
set_option maxRecDepth 100000
set_option linter.unusedSimpArgs false
set_option linter.unusedVariables false
open Go.Xe
theorem containsFuncSt0  (g : FuncId) (p : ByteArray → Bool) (A : Option Addr) (c : Nat) (ws : List ByteArray) (M : PH) (hs : Sl M A 1 stC ws) (hn : ws.length ≤ 4294967296)
    (hg : ∀ x ∈ ws, XCall env g (.v (Value.string x) :: []) [] M fun r b M' => r = B (p x) ∧ b = [] ∧ M' = M) :
    XCall env 61 [.v (.slice A ws.length c), .fn g []] [] M fun r b M' => r = B (ws.any p) ∧ b = [] ∧ M' = M := by
  refine xcall_of_vc Tryz.func61 rfl _ Tryz.ntmps61 _ rfl (fun _ _ => Tryz.call61 _ _) rfl (fun w0 ρ0 => ?_)
  conv => whnf
  refine XCall.mono (indexFuncSt0  g p A c ws M hs hn hg) fun r b M' hh => ?_
  obtain ⟨rfl, rfl, rfl⟩ := hh
  conv => whnf
  exact ⟨_, PH.Le.refl _, by rw [idxF_any p ws]; rfl, rfl, rfl⟩

def nmsC (ns : List ByteArray) : Int := if 4 < (ns.length : Int) then 2 else if ns.any (fun n => !wordT n) = true then 5 else 0
theorem areNames1_ret (t : ByteArray) (M : PH) (ht : t.size ≤ maxLen) : XCall env 97 [.v (Tx t)] [] M fun r b M' => r = B (!wordT t) ∧ b = [] ∧ M' = M := by
  refine xcall_of_vc Tryz.func97 rfl _ Tryz.ntmps97 _ rfl (fun _ _ => Tryz.call97 _ _) rfl (fun w0 ρ0 => ?_)
  conv => whnf
  repeat' (first | (refine ⟨⟨[], rfl⟩, _, PH.Le.refl _, PH.Le.refl _, ?_⟩; conv => whnf) | (refine caseB_true ?_; conv => whnf) | (refine caseB_false ?_; conv => whnf) | ((with_reducible refine caseB_dec (fun h => ?_) (fun h => ?_)) <;> conv => whnf) | ((with_reducible refine caseB_ndec (fun h => ?_) (fun h => ?_)) <;> conv => whnf) | ((with_reducible refine caseB_not (fun h => ?_) (fun h => ?_)) <;> conv => whnf) | (refine Ret.go (isWord_impl _ _ ht) ?_; conv => whnf) | (with_reducible refine @And.intro (guardVC _ _ _ _ _) _ ?_ ?_) <;> conv => whnf | (refine caseB_intro (fun h => ?_) (fun h => ?_) <;> (try simp only [Bool.not_eq_true', Bool.not_eq_false', decide_eq_true_eq, decide_eq_false_iff_not] at h) <;> conv => whnf))
  exact ⟨_, PH.Le.refl _, rfl, rfl, rfl⟩
theorem areNames_ret (A : Option Addr) (c : Nat) (ns : List ByteArray) (M : PH) (hs : Sl M A 1 stC ns) (hn : ns.length ≤ 1048576) (ho : ∀ x ∈ ns, x.size ≤ maxLen) : Ret 57 [.slice A ns.length c] M (I (nmsC ns)) := by
  refine xcall_of_vc Tryz.func57 rfl _ Tryz.ntmps57 _ rfl (fun _ _ => Tryz.call57 _ _) rfl (fun w0 ρ0 => ?_)
  conv => whnf
  refine caseB_dec (fun h => ?_) (fun h => ?_)
  · conv => whnf
    exact ⟨_, PH.Le.refl _, by rw [nmsC, if_pos h]; rfl, rfl⟩
  conv => whnf
  refine XCall.go0 (containsFuncSt0 97 (fun n => !wordT n) A c ns M hs (by omega) fun w hw => areNames1_ret w M (ho w hw)) rfl ?_
  conv => whnf
  refine caseB_intro (fun h2 => ?_) (fun h2 => ?_)
  · conv => whnf
    exact ⟨_, PH.Le.refl _, by rw [nmsC, if_neg h, if_pos h2]; rfl, rfl⟩
  · conv => whnf
    exact ⟨_, PH.Le.refl _, by rw [nmsC, if_neg h, if_neg (by rw [h2]; decide)]; rfl, rfl⟩
theorem l5Names_ret (A : Option Addr) (c : Nat) (ns : List ByteArray) (M : PH) (hs : Sl M A 1 stC ns) (hn : ns.length ≤ 1048576) (ho : ∀ x ∈ ns, x.size ≤ maxLen) : Ret 64 [.slice A ns.length c] M (I (nmsC ns)) := by
  refine xcall_of_vc Tryz.func64 rfl _ Tryz.ntmps64 _ rfl (fun _ _ => Tryz.call64 _ _) rfl (fun w0 ρ0 => ?_)
  conv => whnf
  refine caseB_dec (fun h => ?_) (fun h => ?_)
  · conv => whnf
    exact ⟨_, PH.Le.refl _, by rw [nmsC, if_pos h]; rfl, rfl⟩
  conv => whnf
  refine loop_rule (fun i : Nat => ⟨slots 19 [(0, .v (.slice A ns.length c)), (2, .v (I 0)), (3, .v (I i))], []⟩) (fun i M1 => i ≤ ns.length ∧ (∀ j, j < i → ∀ hj : j < ns.length, (!wordT ns[j]) = false) ∧ M1 = M) (fun i => ns.length - i) 0 ?_ ?_ ?_
  · exact ⟨by simp [slots, leT], ⟨[], rfl⟩, Nat.zero_le _, rfl, rfl⟩
  · exact ⟨Nat.zero_le _, fun j hj => absurd hj (Nat.not_lt_zero _), rfl⟩
  rintro i M1 ⟨hi, hq, rfl⟩
  conv => whnf
  refine caseB_dec (fun h0 => ?_) (fun h0 => ?_)
  · have h0 : (i : Int) < ns.length := h0
    have hi' : i < ns.length := by omega
    have hw : IntKind.i64.wrap ((i : Int) + 1) = (i : Int) + 1 := wr_id (by omega) (by omega)
    obtain ⟨hA, _, hc⟩ := hs.get hi'
    have hok := ho _ (List.getElem_mem hi')
    conv => whnf
    refine ⟨by omega, h0, hA, ?_⟩
    conv => whnf
    refine ⟨_, hc, ?_⟩
    conv => whnf
    refine Ret.go (isWord_spec ns[i] _ hok) ?_
    conv => whnf
    refine caseB_intro (fun h1 => ?_) (fun h1 => ?_)
    · conv => whnf
      exact ⟨_, PH.Le.refl _, by rw [nmsC, if_neg h, if_pos (anyG_yes hi' h1)]; rfl, rfl⟩
    · conv => whnf
      exact ⟨i + 1, ⟨by simp [slots, leT, hw], ⟨[], rfl⟩, Nat.zero_le _, rfl, rfl⟩, ⟨by omega, fun j hj hj2 => by
        rcases Nat.lt_succ_iff_lt_or_eq.1 hj with h2 | h2
        · exact hq j h2 hj2
        · subst h2; exact h1, rfl⟩, by omega⟩
  · have hi' : i = ns.length := by have : ¬ (i : Int) < ns.length := h0; omega
    subst hi'
    conv => whnf
    exact ⟨_, PH.Le.refl _, by rw [nmsC, if_neg h, if_neg (by rw [anyG_no fun j hj => hq j hj hj]; decide)]; rfl, rfl⟩
end Go.Proofs.YtdgipmlkkmmliaaGreatDoor
