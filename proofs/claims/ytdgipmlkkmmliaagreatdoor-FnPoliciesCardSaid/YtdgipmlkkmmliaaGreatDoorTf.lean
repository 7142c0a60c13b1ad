/-
  CONTRACTS: what is wrong with a request; who waits twice.
-/
import Derived.Test.YtdgipmlkkmmliaaGreatDoorTe
import Derived.Test.YtdgipmlkkmmliaaGreatDoorNb
namespace Go.Proofs.YtdgipmlkkmmliaaGreatDoor
set_option maxRecDepth 100000
set_option linter.unusedSimpArgs false
set_option linter.unusedVariables false
open Go.Xe
def hostU : ByteArray := ⟨#[72, 111, 115, 116]⟩
def hostL : ByteArray := ⟨#[104, 111, 115, 116]⟩
def getS : ByteArray := ⟨#[71, 69, 84]⟩
def headS : ByteArray := ⟨#[72, 69, 65, 68]⟩
theorem host_eq (ws : List Hd) : vals ws hostU = vals ws hostL := by
  have : lowerB hostU = lowerB hostL := by decide +kernel
  unfold vals alikeT
  rw [this]
theorem Rq.facts {r : Rq} (h : r.cost ≤ 1048576) : r.m.size ≤ maxLen ∧ r.h.size ≤ maxLen ∧ r.p.size ≤ maxLen ∧ r.hs.length ≤ 1048576 ∧ costL Hd.cost r.hs ≤ 2097152 ∧ ∀ x ∈ r.hs, x.okl := by
  have e63 : maxLen = 9223372036854775807 := rfl
  have := costL_len Hd.cost r.hs
  unfold Rq.cost at h
  refine ⟨by omega, by omega, by omega, by omega, by omega, fun x hx => ?_⟩
  have h1 : Hd.cost x ≤ costL Hd.cost r.hs := costL_le hx
  have e : Hd.cost x = x.n.size + x.v.size := rfl
  exact ⟨by omega, by omega⟩
def rqFault (r : Rq) : Int := if (seq r.m getS || seq r.m headS) = false then 5 else if hostT r.h = false then 5 else if pathT r.p = false then 5 else if hdsFault r.hs ≠ 0 then hdsFault r.hs else if (vals r.hs hostL).isEmpty = false then 6 else if 20 ≤ (r.hs.length : Int) then 2 else 0
theorem hds_le {ws : List Hd} (h : hdsFault ws = 0) : (ws.length : Int) ≤ 20 := by
  unfold hdsFault at h
  split at h
  · cases h
  · omega
theorem requestFault_spec (r : Rq) (A : Option Addr) (c : Nat) (M : PH) (hs : Sl M A 2 Hd.cs r.hs) (hco : r.cost ≤ 1048576) : Ret 71 [rqV r A c] M (I (rqFault r)) := by
  obtain ⟨o1, o2, o3, o4, o5, o6⟩ := Rq.facts hco
  refine xcall_of_vc Tryz.func71 rfl _ Tryz.ntmps71 _ rfl (fun _ _ => Tryz.call71 _ _) rfl (fun w0 ρ0 => ?_)
  conv => whnf
  repeat' (first | (refine ⟨⟨[], rfl⟩, _, PH.Le.refl _, PH.Le.refl _, ?_⟩; conv => whnf) | (refine caseB_true ?_; conv => whnf) | (refine caseB_false ?_; conv => whnf) | ((with_reducible refine caseB_dec (fun h => ?_) (fun h => ?_)) <;> conv => whnf) | ((with_reducible refine caseB_ndec (fun h => ?_) (fun h => ?_)) <;> conv => whnf) | ((with_reducible refine caseB_not (fun h => ?_) (fun h => ?_)) <;> conv => whnf) | (refine Ret.go (l5Host_ret _ _ o2) ?_; conv => whnf) | (refine Ret.go (l5Path_ret _ _ o3) ?_; conv => whnf) | (refine Ret.go (headersFault_spec A c r.hs _ hs o4 o6) ?_; conv => whnf) | (refine Ret.go (l4Join_ret A c r.hs hostL _ hs o5 o6 (by decide)) ?_; conv => whnf) | (with_reducible refine @And.intro (guardVC _ _ _ _ _) _ ?_ ?_) <;> conv => whnf | (refine caseB_intro (fun h => ?_) (fun h => ?_) <;> (try simp only [Bool.not_eq_true', Bool.not_eq_false', decide_eq_true_eq, decide_eq_false_iff_not] at h) <;> conv => whnf))
  all_goals refine ⟨M, PH.Le.refl _, ?_, rfl⟩
  all_goals first | (simp [resV, rqFault, getS, headS, *]; done) | skip
def twice (ws : List Wr) : Prop := ¬ AptG Wr.a ws
theorem Wr.one (x : Wr) : ∀ v ∈ x.cs, v.oneCell' = true := by intro v hv; simp at hv; rcases hv with rfl | rfl | rfl | rfl <;> rfl
def waitsT (ws : List Wr) (x : Int) : Bool := ws.any fun w => decide (w.a = x)
end Go.Proofs.YtdgipmlkkmmliaaGreatDoor
