/-
  CONTRACTS: what the small functions compute (the tests of numbers and times, the rows' own copies).
-/
import Derived.Test.YtffddijdfeafnaaTab
namespace Go.Proofs.Ytffddijdfeafnaa
set_option maxRecDepth 100000
set_option linter.unusedSimpArgs false
open Go.Xe
/-- A call by plain values that hands back v and does nothing else. -/
def Ret (f : FuncId) (args : List Value) (M : PH) (v : Value) : Prop := ACall env f args M fun r M' => r = v ∧ M' = M
theorem Ret.go {f : FuncId} {args : List Value} {bx : List Box} {M : PH} {v : Value} {K : Value → List Box → PH → Prop} (h : Ret f args M v) (hk : K v bx M) : XCall env f (args.map .v) bx M K :=
  ACall.step h fun r M' ⟨h1, h2⟩ => by subst h1; subst h2; exact hk
theorem Ret.to {f : FuncId} {args : List Value} {M : PH} {v v' : Value} (h : Ret f args M v) (e : v = v') : Ret f args M v' := e ▸ h

/-- A call of a function that takes a pointer to a box of plain values ahead of its other arguments: it hands back v and does nothing else. -/
def RetP (f : FuncId) (b : Box) (args : List Value) (M : PH) (v : Value) : Prop := XCall env f (.bp 0 0 :: args.map .v) [b] M fun r bs M' => r = v ∧ bs = [b] ∧ M' = M
theorem RetP.go {f : FuncId} {b : Box} {args : List Value} {bx : List Box} {M : PH} {v : Value} {i : Nat} {K : Value → List Box → PH → Prop} (h : RetP f b args M v) (hi : bx[i]? = some b) (hp : b.cs.all AV.plain = true) (hk : K v bx M) : XCall env f (.bp i 0 :: args.map .v) bx M K := by
  refine XCall.lift h [i] ?_ (by simp [hi]) (by simp) (by simpa using hp) ?_
  · simp [ren, Function.comp_def]
  · rintro r bs' M' ⟨rfl, rfl, rfl⟩
    refine ⟨by simpa using hp, ?_⟩
    have e : putAll bx [i] [b] = bx := by
      simp only [putAll]
      exact List.ext_getElem? fun j => by
        rw [List.getElem?_set]
        split
        · rename_i e; subst e; rw [hi]; simp [(List.getElem?_eq_some_iff.1 hi).1]
        · rfl
    rw [e]; exact hk

abbrev I (n : Int) : Value := .int .i64 n
abbrev B (b : Bool) : Value := .bool b
abbrev wr (n : Int) : Int := IntKind.i64.wrap n
theorem wr_id {n : Int} (h1 : -9223372036854775808 ≤ n) (h2 : n ≤ 9223372036854775807) : wr n = n := by
  simp only [wr, IntKind.wrap, IntKind.bits, IntKind.signed]
  simp only [Bool.true_and, decide_eq_true_eq, show (2 : Int) ^ 64 = 18446744073709551616 from rfl, show (2 : Int) ^ (64 - 1) = 9223372036854775808 from rfl]
  split <;> omega
def inB (v lo hi : Int) : Bool := decide (lo ≤ v ∧ v ≤ hi)
def isT (v : Int) : Bool := inB v 0 1000000000000000

theorem l1In_ret (v lo hi : Int) (M : PH) : Ret 56 [I v, I lo, I hi] M (B (inB v lo hi)) := by
  refine xcall_of_vc Try.func56 rfl _ Try.ntmps56 _ rfl (fun _ _ => Try.call56 _ _) rfl (fun w0 ρ0 => ?_)
  conv => whnf
  repeat' (first | (refine ⟨⟨[], rfl⟩, _, PH.Le.refl _, PH.Le.refl _, ?_⟩; conv => whnf) | (refine caseB_true ?_; conv => whnf) | (refine caseB_false ?_; conv => whnf) | ((with_reducible refine caseB_dec (fun h => ?_) (fun h => ?_)) <;> conv => whnf) | ((with_reducible refine caseB_ndec (fun h => ?_) (fun h => ?_)) <;> conv => whnf) | ((with_reducible refine caseB_not (fun h => ?_) (fun h => ?_)) <;> conv => whnf) | (refine caseB_intro (fun h => ?_) (fun h => ?_) <;> (try simp only [Bool.not_eq_true', Bool.not_eq_false', decide_eq_true_eq, decide_eq_false_iff_not] at h) <;> conv => whnf))
  all_goals first | (refine ⟨M, PH.Le.refl _, ?_, rfl⟩; simp [resV, inB, *]; done) | (refine ⟨M, PH.Le.refl _, ?_, rfl, rfl⟩; simp [resV, inB, *]; done) | (exfalso; simp_all; done)
theorem within_ret (v lo hi : Int) (M : PH) : Ret 57 [I v, I lo, I hi] M (B (inB v lo hi)) := by
  refine xcall_of_vc Try.func57 rfl _ Try.ntmps57 _ rfl (fun _ _ => Try.call57 _ _) rfl (fun w0 ρ0 => ?_)
  conv => whnf
  repeat' (first | (refine ⟨⟨[], rfl⟩, _, PH.Le.refl _, PH.Le.refl _, ?_⟩; conv => whnf) | (refine caseB_true ?_; conv => whnf) | (refine caseB_false ?_; conv => whnf) | ((with_reducible refine caseB_dec (fun h => ?_) (fun h => ?_)) <;> conv => whnf) | ((with_reducible refine caseB_ndec (fun h => ?_) (fun h => ?_)) <;> conv => whnf) | ((with_reducible refine caseB_not (fun h => ?_) (fun h => ?_)) <;> conv => whnf) | (refine caseB_intro (fun h => ?_) (fun h => ?_) <;> (try simp only [Bool.not_eq_true', Bool.not_eq_false', decide_eq_true_eq, decide_eq_false_iff_not] at h) <;> conv => whnf))
  all_goals first | (refine ⟨M, PH.Le.refl _, ?_, rfl⟩; simp [resV, inB, *]; done) | (refine ⟨M, PH.Le.refl _, ?_, rfl, rfl⟩; simp [resV, inB, *]; done) | (exfalso; simp_all; done)
theorem l1Time_ret (v : Int) (M : PH) : Ret 58 [I v] M (B (isT v)) := by
  refine xcall_of_vc Try.func58 rfl _ Try.ntmps58 _ rfl (fun _ _ => Try.call58 _ _) rfl (fun w0 ρ0 => ?_)
  conv => whnf
  repeat' (first | (refine ⟨⟨[], rfl⟩, _, PH.Le.refl _, PH.Le.refl _, ?_⟩; conv => whnf) | (refine caseB_true ?_; conv => whnf) | (refine caseB_false ?_; conv => whnf) | ((with_reducible refine caseB_dec (fun h => ?_) (fun h => ?_)) <;> conv => whnf) | ((with_reducible refine caseB_ndec (fun h => ?_) (fun h => ?_)) <;> conv => whnf) | ((with_reducible refine caseB_not (fun h => ?_) (fun h => ?_)) <;> conv => whnf) | (refine Ret.go (l1In_ret _ _ _ _) ?_; conv => whnf) | (refine caseB_intro (fun h => ?_) (fun h => ?_) <;> (try simp only [Bool.not_eq_true', Bool.not_eq_false', decide_eq_true_eq, decide_eq_false_iff_not] at h) <;> conv => whnf))
  all_goals first | (refine ⟨M, PH.Le.refl _, ?_, rfl⟩; simp [resV, isT, *]; done) | (refine ⟨M, PH.Le.refl _, ?_, rfl, rfl⟩; simp [resV, isT, *]; done) | (exfalso; simp_all; done)
theorem isTime_ret (v : Int) (M : PH) : Ret 59 [I v] M (B (isT v)) := by
  refine xcall_of_vc Try.func59 rfl _ Try.ntmps59 _ rfl (fun _ _ => Try.call59 _ _) rfl (fun w0 ρ0 => ?_)
  conv => whnf
  repeat' (first | (refine ⟨⟨[], rfl⟩, _, PH.Le.refl _, PH.Le.refl _, ?_⟩; conv => whnf) | (refine caseB_true ?_; conv => whnf) | (refine caseB_false ?_; conv => whnf) | ((with_reducible refine caseB_dec (fun h => ?_) (fun h => ?_)) <;> conv => whnf) | ((with_reducible refine caseB_ndec (fun h => ?_) (fun h => ?_)) <;> conv => whnf) | ((with_reducible refine caseB_not (fun h => ?_) (fun h => ?_)) <;> conv => whnf) | (refine Ret.go (within_ret _ _ _ _) ?_; conv => whnf) | (refine caseB_intro (fun h => ?_) (fun h => ?_) <;> (try simp only [Bool.not_eq_true', Bool.not_eq_false', decide_eq_true_eq, decide_eq_false_iff_not] at h) <;> conv => whnf))
  all_goals first | (refine ⟨M, PH.Le.refl _, ?_, rfl⟩; simp [resV, isT, *]; done) | (refine ⟨M, PH.Le.refl _, ?_, rfl, rfl⟩; simp [resV, isT, *]; done) | (exfalso; simp_all; done)

structure Mt where
  at_ : Int
  age : Int
  life : Int
  swr : Int
  sie : Int
  soft : Bool
  nocache : Bool
abbrev Mt.v (m : Mt) : Value := .agg #[I m.at_, I m.age, I m.life, I m.swr, I m.sie, B m.soft, B m.nocache]
theorem toMeta_ret (m : Mt) (M : PH) : Ret 23 [m.v] M m.v := by
  refine xcall_of_vc Try.func23 rfl _ Try.ntmps23 _ rfl (fun _ _ => Try.call23 _ _) rfl (fun w0 ρ0 => ?_)
  conv => whnf
  all_goals first | (refine ⟨M, PH.Le.refl _, ?_, rfl⟩; simp [resV, *]; done) | (refine ⟨M, PH.Le.refl _, ?_, rfl, rfl⟩; simp [resV, *]; done) | (exfalso; simp_all; done)
def metaOk (m : Mt) : Bool := isT m.at_ && isT m.age && isT m.life && isT m.swr && isT m.sie
def metaFault (m : Mt) : Int := if metaOk m then 0 else 3
theorem metaFault_spec (m : Mt) (M : PH) : Ret 22 [m.v] M (I (metaFault m)) := by
  refine xcall_of_vc Try.func22 rfl _ Try.ntmps22 _ rfl (fun _ _ => Try.call22 _ _) rfl (fun w0 ρ0 => ?_)
  conv => whnf
  repeat' (first | (refine ⟨⟨[], rfl⟩, _, PH.Le.refl _, PH.Le.refl _, ?_⟩; conv => whnf) | (refine caseB_true ?_; conv => whnf) | (refine caseB_false ?_; conv => whnf) | ((with_reducible refine caseB_dec (fun h => ?_) (fun h => ?_)) <;> conv => whnf) | ((with_reducible refine caseB_ndec (fun h => ?_) (fun h => ?_)) <;> conv => whnf) | ((with_reducible refine caseB_not (fun h => ?_) (fun h => ?_)) <;> conv => whnf) | (refine Ret.go (l1Time_ret _ _) ?_; conv => whnf) | (refine caseB_intro (fun h => ?_) (fun h => ?_) <;> (try simp only [Bool.not_eq_true', Bool.not_eq_false', decide_eq_true_eq, decide_eq_false_iff_not] at h) <;> conv => whnf))
  all_goals first | (refine ⟨M, PH.Le.refl _, ?_, rfl⟩; simp [resV, metaFault, metaOk, *]; done) | (refine ⟨M, PH.Le.refl _, ?_, rfl, rfl⟩; simp [resV, metaFault, metaOk, *]; done) | (exfalso; simp_all; done)
theorem metaFault_impl (m : Mt) (M : PH) : Ret 24 [m.v] M (I (metaFault m)) := by
  refine xcall_of_vc Try.func24 rfl _ Try.ntmps24 _ rfl (fun _ _ => Try.call24 _ _) rfl (fun w0 ρ0 => ?_)
  conv => whnf
  refine unroll_rule 6 ?_
  conv => whnf
  repeat' (first | (refine ⟨⟨[], rfl⟩, _, PH.Le.refl _, PH.Le.refl _, ?_⟩; conv => whnf) | (refine ⟨by decide, by decide, _, rfl, ?_⟩; conv => whnf) | (refine caseB_true ?_; conv => whnf) | (refine caseB_false ?_; conv => whnf) | ((with_reducible refine caseB_dec (fun h => ?_) (fun h => ?_)) <;> conv => whnf) | ((with_reducible refine caseB_ndec (fun h => ?_) (fun h => ?_)) <;> conv => whnf) | ((with_reducible refine caseB_not (fun h => ?_) (fun h => ?_)) <;> conv => whnf) | (refine Ret.go (isTime_ret _ _) ?_; conv => whnf) | (refine caseB_intro (fun h => ?_) (fun h => ?_) <;> (try simp only [Bool.not_eq_true', Bool.not_eq_false', decide_eq_true_eq, decide_eq_false_iff_not] at h) <;> conv => whnf))
  all_goals first | (refine ⟨M, PH.Le.refl _, ?_, rfl⟩; simp [resV, metaFault, metaOk, *]; done) | (refine ⟨M, PH.Le.refl _, ?_, rfl, rfl⟩; simp [resV, metaFault, metaOk, *]; done) | (exfalso; simp_all; done)
theorem metaFault_law (m : Mt) (M : PH) : Ret 5 [m.v] M (B true) := by
  refine xcall_of_vc Try.func5 rfl _ Try.ntmps5 _ rfl (fun _ _ => Try.call5 _ _) rfl (fun w0 ρ0 => ?_)
  conv => whnf
  repeat' (first | (refine ⟨⟨[], rfl⟩, _, PH.Le.refl _, PH.Le.refl _, ?_⟩; conv => whnf) | (refine caseB_true ?_; conv => whnf) | (refine caseB_false ?_; conv => whnf) | ((with_reducible refine caseB_dec (fun h => ?_) (fun h => ?_)) <;> conv => whnf) | ((with_reducible refine caseB_ndec (fun h => ?_) (fun h => ?_)) <;> conv => whnf) | ((with_reducible refine caseB_not (fun h => ?_) (fun h => ?_)) <;> conv => whnf) | (refine Ret.go (toMeta_ret _ _) ?_; conv => whnf) | (refine Ret.go (metaFault_spec _ _) ?_; conv => whnf) | (refine Ret.go (metaFault_impl _ _) ?_; conv => whnf) | (refine caseB_intro (fun h => ?_) (fun h => ?_) <;> (try simp only [Bool.not_eq_true', Bool.not_eq_false', decide_eq_true_eq, decide_eq_false_iff_not] at h) <;> conv => whnf))
  all_goals first | (refine ⟨M, PH.Le.refl _, ?_, rfl⟩; simp [resV, *]; done) | (refine ⟨M, PH.Le.refl _, ?_, rfl, rfl⟩; simp [resV, *]; done) | (exfalso; simp_all; done)

/-! ### The row -/
theorem own : ownKnob Try.prog.godebug = none := by kernel_rfl
theorem laidOut : laidOutB Try.prog = true := by kernel_rfl
end Go.Proofs.Ytffddijdfeafnaa
