/-
  CONTRACTS: what is wrong with an entry; THE LAW over it.
-/
import Derived.Test.YtafgnmiflngjhaaDoorOc
import Derived.Test.YtafgnmiflngjhaaDoorTd
namespace Go.Proofs.YtafgnmiflngjhaaDoor
set_option maxRecDepth 100000
set_option linter.unusedSimpArgs false
set_option linter.unusedVariables false
open Go.Xe
def keyT (b : ByteArray) : Bool := decide (1 ≤ (b.size : Int)) && decide ((b.size : Int) ≤ 500)
theorem isKey_ret (b : ByteArray) (M : PH) : Ret 38 [Tx b] M (B (keyT b)) := by
  refine xcall_of_vc Tryd.func38 rfl _ Tryd.ntmps38 _ rfl (fun _ _ => Tryd.call38 _ _) rfl (fun w0 ρ0 => ?_)
  conv => whnf
  repeat' (first | (refine ⟨⟨[], rfl⟩, _, PH.Le.refl _, PH.Le.refl _, ?_⟩; conv => whnf) | (refine caseB_true ?_; conv => whnf) | (refine caseB_false ?_; conv => whnf) | ((with_reducible refine caseB_dec (fun h => ?_) (fun h => ?_)) <;> conv => whnf) | ((with_reducible refine caseB_ndec (fun h => ?_) (fun h => ?_)) <;> conv => whnf) | ((with_reducible refine caseB_not (fun h => ?_) (fun h => ?_)) <;> conv => whnf) | (with_reducible refine @And.intro (guardVC _ _ _ _ _) _ ?_ ?_) <;> conv => whnf | (refine caseB_intro (fun h => ?_) (fun h => ?_) <;> (try simp only [Bool.not_eq_true', Bool.not_eq_false', decide_eq_true_eq, decide_eq_false_iff_not] at h) <;> conv => whnf))
  all_goals first | (refine ⟨M, PH.Le.refl _, ?_, rfl⟩; simp [resV, keyT, *]; done) | (refine ⟨M, PH.Le.refl _, ?_, rfl, rfl⟩; simp [resV, keyT, *]; done) | (exfalso; simp_all; done)
def stOk (n : Int) : Bool := decide (n = 200) || decide (n = 404) || decide (n = 410)
def enFault (e : En) : Int := if keyT e.key = false then 2 else if stOk e.st = false then 3 else if inB e.pins 0 20 = false then 3 else if hdsFault e.hs ≠ 0 then hdsFault e.hs else if 2000 < (e.body.length : Int) then 2 else if 10 < (e.tags.length : Int) then 2 else metaFault e.mt
theorem En.oks {e : En} (h : e.cost ≤ 1048576) : ∀ x ∈ e.hs, x.okl := by
  obtain ⟨_, h1, _⟩ := En.hn h
  intro x hx
  have e63 : maxLen = 9223372036854775807 := rfl
  have h2 : Hd.cost x ≤ costL Hd.cost e.hs := costL_le hx
  have e : Hd.cost x = x.n.size + x.v.size := rfl
  exact ⟨by omega, by omega⟩
theorem entryFault_impl (x : EnA) (M : PH) (hi : x.inn M) (hco : x.c.cost ≤ 1048576) : Ret 11 [x.val] M (I (enFault x.c)) := by
  obtain ⟨_, _, hn1, hn2, hn3⟩ := En.hn hco
  have ho := En.oks hco
  refine xcall_of_vc Tryd.func11 rfl _ Tryd.ntmps11 _ rfl (fun _ _ => Tryd.call11 _ _) rfl (fun w0 ρ0 => ?_)
  conv => whnf
  repeat' (first | (refine ⟨⟨[], rfl⟩, _, PH.Le.refl _, PH.Le.refl _, ?_⟩; conv => whnf) | (refine caseB_true ?_; conv => whnf) | (refine caseB_false ?_; conv => whnf) | ((with_reducible refine caseB_dec (fun h => ?_) (fun h => ?_)) <;> conv => whnf) | ((with_reducible refine caseB_ndec (fun h => ?_) (fun h => ?_)) <;> conv => whnf) | ((with_reducible refine caseB_not (fun h => ?_) (fun h => ?_)) <;> conv => whnf) | (refine Ret.go (isKey_ret _ _) ?_; conv => whnf) | (refine Ret.go (within_ret _ _ _ _) ?_; conv => whnf) | (refine Ret.go (headersFault_impl x.hA x.hc x.c.hs _ hi.h hn1 ho) ?_; conv => whnf) | (refine Ret.go (metaFault_impl x.c.mt _) ?_; conv => whnf) | (with_reducible refine @And.intro (guardVC _ _ _ _ _) _ ?_ ?_) <;> conv => whnf | (refine caseB_intro (fun h => ?_) (fun h => ?_) <;> (try simp only [Bool.not_eq_true', Bool.not_eq_false', decide_eq_true_eq, decide_eq_false_iff_not] at h) <;> conv => whnf))
  all_goals refine ⟨_, PH.Le.refl _, ?_, rfl⟩
  all_goals simp [resV, enFault, stOk, *]
theorem entryFault_spec (x : EnA) (M : PH) (hi : x.inn M) (hco : x.c.cost ≤ 1048576) : Ret 9 [x.val] M (I (enFault x.c)) := by
  obtain ⟨_, _, hn1, hn2, hn3⟩ := En.hn hco
  have ho := En.oks hco
  refine xcall_of_vc Tryd.func9 rfl _ Tryd.ntmps9 _ rfl (fun _ _ => Tryd.call9 _ _) rfl (fun w0 ρ0 => ?_)
  conv => whnf
  repeat' (first | (refine ⟨⟨[], rfl⟩, _, PH.Le.refl _, PH.Le.refl _, ?_⟩; conv => whnf) | (refine caseB_true ?_; conv => whnf) | (refine caseB_false ?_; conv => whnf) | ((with_reducible refine caseB_dec (fun h => ?_) (fun h => ?_)) <;> conv => whnf) | ((with_reducible refine caseB_ndec (fun h => ?_) (fun h => ?_)) <;> conv => whnf) | ((with_reducible refine caseB_not (fun h => ?_) (fun h => ?_)) <;> conv => whnf) | (refine Ret.go (l1In_ret _ _ _ _) ?_; conv => whnf) | (refine Ret.go (headersFault_spec x.hA x.hc x.c.hs _ hi.h hn1 ho) ?_; conv => whnf) | (refine Ret.go (metaFault_spec x.c.mt _) ?_; conv => whnf) | (with_reducible refine @And.intro (guardVC _ _ _ _ _) _ ?_ ?_) <;> conv => whnf | (refine caseB_intro (fun h => ?_) (fun h => ?_) <;> (try simp only [Bool.not_eq_true', Bool.not_eq_false', decide_eq_true_eq, decide_eq_false_iff_not] at h) <;> conv => whnf))
  all_goals refine ⟨_, PH.Le.refl _, ?_, rfl⟩
  all_goals first | (have hk : keyT x.c.key = true := (by simp [keyT]; omega); simp [resV, enFault, stOk, *]; done) | (have hk : keyT x.c.key = false := (by simp [keyT]; omega); simp [resV, enFault, stOk, *]; done)
theorem entryFault_law (x : EnA) (M : PH) (hi : x.inn M) (ho : x.c.okl) :
    ACall env 3 [x.val] M fun r M' => r = B true ∧ M.Le M' := by
  refine xcall_of_vc Tryd.func3 rfl _ Tryd.ntmps3 _ rfl (fun _ _ => Tryd.call3 _ _) rfl (fun w0 ρ0 => ?_)
  conv => whnf
  refine ACall.step (szEntry_ret x _ M ⟨hi, ho⟩ (by omega) (by omega)) fun v M2 hh => ?_
  obtain ⟨m, rfl, rfl, hm⟩ := hh
  conv => whnf
  refine caseB_dec (fun h0 => ?_) (fun h0 => ?_)
  · conv => whnf
    exact ⟨_, PH.Le.refl _, rfl, PH.Le.refl _⟩
  have hm := hm (by omega)
  have hco : x.c.cost ≤ 1048576 := by omega
  clear hm h0 ho
  conv => whnf
  refine ACall.step (toEntry_ret x _ hi hco) fun v M1 hh => ?_
  obtain ⟨y1, rfl, e1, l1, i1, p1⟩ := hh
  conv => whnf
  refine Ret.go (entryFault_spec y1 _ i1 (by rw [e1]; exact hco)) ?_
  conv => whnf
  refine ACall.step (toEntry_ret x _ (hi.mono l1) hco) fun v M3 hh => ?_
  obtain ⟨y2, rfl, e2, l2, i2, p2⟩ := hh
  conv => whnf
  refine Ret.go (entryFault_impl y2 _ i2 (by rw [e2]; exact hco)) ?_
  conv => whnf
  refine caseB_ndec (fun h => absurd (by rw [e1, e2]) h) (fun _ => ?_)
  conv => whnf
  repeat' (first | (refine ⟨⟨[], rfl⟩, _, PH.Le.refl _, PH.Le.refl _, ?_⟩; conv => whnf) | (refine ACall.step (toEntry_ret x _ ((hi.mono l1).mono l2) hco) fun v M4 hh => ?_; obtain ⟨y3, rfl, e3, l3, i3, p3⟩ := hh; (first | (refine ⟨⟨[], rfl⟩, _, l3, PH.Le.refl _, ?_⟩; conv => whnf) | conv => whnf)) | (refine caseB_true ?_; conv => whnf) | (refine caseB_false ?_; conv => whnf) | ((with_reducible refine caseB_dec (fun h => ?_) (fun h => ?_)) <;> conv => whnf) | ((with_reducible refine caseB_ndec (fun h => ?_) (fun h => ?_)) <;> conv => whnf) | ((with_reducible refine caseB_not (fun h => ?_) (fun h => ?_)) <;> conv => whnf) | (refine draw_rule (.light 0 <| .light 1 <| .alt 2 false (.alt 3 false (.light 4 <| .done) .nil) .nil) (by decide +kernel) ?_; conv => whnf) | (refine Ret.go (eqEntry_ret y2 y3 _ (i2.mono l3) i3 (by rw [e2, e3]) (by rw [e2]; exact hco)) ?_; conv => whnf) | (with_reducible refine @And.intro (guardVC _ _ _ _ _) _ ?_ ?_) <;> conv => whnf | (refine caseB_intro (fun h => ?_) (fun h => ?_) <;> (try simp only [Bool.not_eq_true', Bool.not_eq_false', decide_eq_true_eq, decide_eq_false_iff_not] at h) <;> conv => whnf))
  all_goals exact ⟨_, PH.Le.refl _, rfl, (l1.trans l2).trans l3⟩
end Go.Proofs.YtafgnmiflngjhaaDoor
