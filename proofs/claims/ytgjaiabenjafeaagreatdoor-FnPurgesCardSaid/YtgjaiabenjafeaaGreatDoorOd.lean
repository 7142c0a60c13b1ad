/-
  CONTRACTS: what is wrong with an entry; THE LAW over it.
-/
import Derived.Test.YtgjaiabenjafeaaGreatDoorOc
import Derived.Test.YtgjaiabenjafeaaGreatDoorTd
namespace Go.Proofs.YtgjaiabenjafeaaGreatDoor
set_option maxRecDepth 100000
set_option linter.unusedSimpArgs false
set_option linter.unusedVariables false
open Go.Xe
def keyT (b : ByteArray) : Bool := decide (1 ≤ (b.size : Int)) && decide ((b.size : Int) ≤ 500)
theorem isKey_ret (b : ByteArray) (M : PH) : Ret 104 [Tx b] M (B (keyT b)) := by
  refine xcall_of_vc Tryz.func104 rfl _ Tryz.ntmps104 _ rfl (fun _ _ => Tryz.call104 _ _) rfl (fun w0 ρ0 => ?_)
  conv => whnf
  repeat' (first | (refine ⟨⟨[], rfl⟩, _, PH.Le.refl _, PH.Le.refl _, ?_⟩; conv => whnf) | (refine caseB_true ?_; conv => whnf) | (refine caseB_false ?_; conv => whnf) | ((with_reducible refine caseB_dec (fun h => ?_) (fun h => ?_)) <;> conv => whnf) | ((with_reducible refine caseB_ndec (fun h => ?_) (fun h => ?_)) <;> conv => whnf) | ((with_reducible refine caseB_not (fun h => ?_) (fun h => ?_)) <;> conv => whnf) | (with_reducible refine @And.intro (guardVC _ _ _ _ _) _ ?_ ?_) <;> conv => whnf | (refine caseB_intro (fun h => ?_) (fun h => ?_) <;> (try simp only [Bool.not_eq_true', Bool.not_eq_false', decide_eq_true_eq, decide_eq_false_iff_not] at h) <;> conv => whnf))
  all_goals first | (refine ⟨M, PH.Le.refl _, ?_, rfl⟩; simp [resV, keyT, *]; done) | (refine ⟨M, PH.Le.refl _, ?_, rfl, rfl⟩; simp [resV, keyT, *]; done) | (exfalso; simp_all; done)
def stOk (n : Int) : Bool := decide (n = 200) || decide (n = 404) || decide (n = 410)
def enFault (e : En) : Int := if keyT e.key = false then 2 else if stOk e.st = false then 3 else if inB e.pins 0 20 = false then 3 else if hdsFault e.hs ≠ 0 then hdsFault e.hs else if 2000 < (e.body.length : Int) then 2 else if 10 < (e.tags.length : Int) then 2 else metaFault e.mt
theorem En.oks {e : En} (h : e.cost ≤ 1048576) : ∀ x ∈ e.hs, x.okl := by
  obtain ⟨_, h1, _⟩ := En.hn h
  intro x hx
  have e63 : maxLen = 9223372036854775807 := rfl
  have h2 : Hd.cost x ≤ costL Hd.cost e.hs := costL_le hx
  have e : Hd.cost x = x.n.size + x.v.size := rfl
  exact ⟨by omega, by omega⟩
theorem entryFault_impl (x : EnA) (M : PH) (hi : x.inn M) (hco : x.c.cost ≤ 1048576) : Ret 36 [x.val] M (I (enFault x.c)) := by
  obtain ⟨_, _, hn1, hn2, hn3⟩ := En.hn hco
  have ho := En.oks hco
  refine xcall_of_vc Tryz.func36 rfl _ Tryz.ntmps36 _ rfl (fun _ _ => Tryz.call36 _ _) rfl (fun w0 ρ0 => ?_)
  conv => whnf
  repeat' (first | (refine ⟨⟨[], rfl⟩, _, PH.Le.refl _, PH.Le.refl _, ?_⟩; conv => whnf) | (refine caseB_true ?_; conv => whnf) | (refine caseB_false ?_; conv => whnf) | ((with_reducible refine caseB_dec (fun h => ?_) (fun h => ?_)) <;> conv => whnf) | ((with_reducible refine caseB_ndec (fun h => ?_) (fun h => ?_)) <;> conv => whnf) | ((with_reducible refine caseB_not (fun h => ?_) (fun h => ?_)) <;> conv => whnf) | (refine Ret.go (isKey_ret _ _) ?_; conv => whnf) | (refine Ret.go (within_ret _ _ _ _) ?_; conv => whnf) | (refine Ret.go (headersFault_impl x.hA x.hc x.c.hs _ hi.h hn1 ho) ?_; conv => whnf) | (refine Ret.go (metaFault_impl x.c.mt _) ?_; conv => whnf) | (with_reducible refine @And.intro (guardVC _ _ _ _ _) _ ?_ ?_) <;> conv => whnf | (refine caseB_intro (fun h => ?_) (fun h => ?_) <;> (try simp only [Bool.not_eq_true', Bool.not_eq_false', decide_eq_true_eq, decide_eq_false_iff_not] at h) <;> conv => whnf))
  all_goals refine ⟨_, PH.Le.refl _, ?_, rfl⟩
  all_goals simp [resV, enFault, stOk, *]
theorem entryFault_spec (x : EnA) (M : PH) (hi : x.inn M) (hco : x.c.cost ≤ 1048576) : Ret 37 [x.val] M (I (enFault x.c)) := by
  obtain ⟨_, _, hn1, hn2, hn3⟩ := En.hn hco
  have ho := En.oks hco
  refine xcall_of_vc Tryz.func37 rfl _ Tryz.ntmps37 _ rfl (fun _ _ => Tryz.call37 _ _) rfl (fun w0 ρ0 => ?_)
  conv => whnf
  repeat' (first | (refine ⟨⟨[], rfl⟩, _, PH.Le.refl _, PH.Le.refl _, ?_⟩; conv => whnf) | (refine caseB_true ?_; conv => whnf) | (refine caseB_false ?_; conv => whnf) | ((with_reducible refine caseB_dec (fun h => ?_) (fun h => ?_)) <;> conv => whnf) | ((with_reducible refine caseB_ndec (fun h => ?_) (fun h => ?_)) <;> conv => whnf) | ((with_reducible refine caseB_not (fun h => ?_) (fun h => ?_)) <;> conv => whnf) | (refine Ret.go (l1In_ret _ _ _ _) ?_; conv => whnf) | (refine Ret.go (headersFault_spec x.hA x.hc x.c.hs _ hi.h hn1 ho) ?_; conv => whnf) | (refine Ret.go (metaFault_spec x.c.mt _) ?_; conv => whnf) | (with_reducible refine @And.intro (guardVC _ _ _ _ _) _ ?_ ?_) <;> conv => whnf | (refine caseB_intro (fun h => ?_) (fun h => ?_) <;> (try simp only [Bool.not_eq_true', Bool.not_eq_false', decide_eq_true_eq, decide_eq_false_iff_not] at h) <;> conv => whnf))
  all_goals refine ⟨_, PH.Le.refl _, ?_, rfl⟩
  all_goals first | (have hk : keyT x.c.key = true := (by simp [keyT]; omega); simp [resV, enFault, stOk, *]; done) | (have hk : keyT x.c.key = false := (by simp [keyT]; omega); simp [resV, enFault, stOk, *]; done)
end Go.Proofs.YtgjaiabenjafeaaGreatDoor
