/-
  CONTRACTS: what the small functions compute (the tests of numbers and times, the rows' own copies).
-/
import Derived.Test.YtdgipmlkkmmliaaGreatDoorTab
namespace Go.Proofs.YtdgipmlkkmmliaaGreatDoor
set_option maxRecDepth 100000
set_option linter.unusedSimpArgs false
set_option linter.unusedVariables false
open Go.Xe
/-- A call by plain values that hands back v and does nothing else. -/
def Ret (f : FuncId) (args : List Value) (M : PH) (v : Value) : Prop := ACall env f args M fun r M' => r = v ∧ M' = M
theorem Ret.go {f : FuncId} {args : List Value} {bx : List Box} {M : PH} {v : Value} {K : Value → List Box → PH → Prop} (h : Ret f args M v) (hk : K v bx M) : XCall env f (args.map .v) bx M K :=
  ACall.step h fun r M' ⟨h1, h2⟩ => by subst h1; subst h2; exact hk
theorem Ret.to {f : FuncId} {args : List Value} {M : PH} {v v' : Value} (h : Ret f args M v) (e : v = v') : Ret f args M v' := e ▸ h

/-- A call of a function that takes a pointer to a box of plain values ahead of its other arguments: it hands back v and does nothing else. -/
def RetP (f : FuncId) (b : Box) (args : List Value) (M : PH) (v : Value) : Prop := XCall env f (.bp 0 0 :: args.map .v) [b] M fun r bs M' => r = v ∧ bs = [b] ∧ M' = M
theorem RetP.go {f : FuncId} {b : Box} {args : List Value} {bx : List Box} {M : PH} {v : Value} {i : Nat} {K : Value → List Box → PH → Prop} (h : RetP f b args M v) (hi : bx[i]? = some b) (hp : b.cs.all AV.plain = true) (hk : K v bx M) : XCall env f (.bp i 0 :: args.map .v) bx M K := by
  refine XCall.lift h [i] ?_ (by simp [hi]) (by simp) (by simpa using hp) ?_
  · simp [ren, Function.comp_def]
  · rintro r bs' M' ⟨rfl, rfl, rfl⟩
    refine ⟨by simpa using hp, ?_⟩
    have e : putAll bx [i] [b] = bx := by
      simp only [putAll]
      exact List.ext_getElem? fun j => by
        rw [List.getElem?_set]
        split
        · rename_i e; subst e; rw [hi]; simp [(List.getElem?_eq_some_iff.1 hi).1]
        · rfl
    rw [e]; exact hk

abbrev I (n : Int) : Value := .int .i64 n
abbrev Tx (b : ByteArray) : Value := .string b
abbrev Y (n : Int) : Value := .int .u8 n
abbrev B (b : Bool) : Value := .bool b
abbrev wr (n : Int) : Int := IntKind.i64.wrap n
theorem wr_id {n : Int} (h1 : -9223372036854775808 ≤ n) (h2 : n ≤ 9223372036854775807) : wr n = n := by
  simp only [wr, IntKind.wrap, IntKind.bits, IntKind.signed]
  simp only [Bool.true_and, decide_eq_true_eq, show (2 : Int) ^ 64 = 18446744073709551616 from rfl, show (2 : Int) ^ (64 - 1) = 9223372036854775808 from rfl]
  split <;> omega
def inB (v lo hi : Int) : Bool := decide (lo ≤ v ∧ v ≤ hi)
def isT (v : Int) : Bool := inB v 0 1000000000000000

theorem l1In_ret (v lo hi : Int) (M : PH) : Ret 48 [I v, I lo, I hi] M (B (inB v lo hi)) := by
  refine xcall_of_vc Tryz.func48 rfl _ Tryz.ntmps48 _ rfl (fun _ _ => Tryz.call48 _ _) rfl (fun w0 ρ0 => ?_)
  conv => whnf
  repeat' (first | (refine ⟨⟨[], rfl⟩, _, PH.Le.refl _, PH.Le.refl _, ?_⟩; conv => whnf) | (refine caseB_true ?_; conv => whnf) | (refine caseB_false ?_; conv => whnf) | ((with_reducible refine caseB_dec (fun h => ?_) (fun h => ?_)) <;> conv => whnf) | ((with_reducible refine caseB_ndec (fun h => ?_) (fun h => ?_)) <;> conv => whnf) | ((with_reducible refine caseB_not (fun h => ?_) (fun h => ?_)) <;> conv => whnf) | (with_reducible refine @And.intro (guardVC _ _ _ _ _) _ ?_ ?_) <;> conv => whnf | (refine caseB_intro (fun h => ?_) (fun h => ?_) <;> (try simp only [Bool.not_eq_true', Bool.not_eq_false', decide_eq_true_eq, decide_eq_false_iff_not] at h) <;> conv => whnf))
  all_goals first | (refine ⟨M, PH.Le.refl _, ?_, rfl⟩; simp [resV, inB, *]; done) | (refine ⟨M, PH.Le.refl _, ?_, rfl, rfl⟩; simp [resV, inB, *]; done) | (exfalso; simp_all; done)
theorem within_ret (v lo hi : Int) (M : PH) : Ret 91 [I v, I lo, I hi] M (B (inB v lo hi)) := by
  refine xcall_of_vc Tryz.func91 rfl _ Tryz.ntmps91 _ rfl (fun _ _ => Tryz.call91 _ _) rfl (fun w0 ρ0 => ?_)
  conv => whnf
  repeat' (first | (refine ⟨⟨[], rfl⟩, _, PH.Le.refl _, PH.Le.refl _, ?_⟩; conv => whnf) | (refine caseB_true ?_; conv => whnf) | (refine caseB_false ?_; conv => whnf) | ((with_reducible refine caseB_dec (fun h => ?_) (fun h => ?_)) <;> conv => whnf) | ((with_reducible refine caseB_ndec (fun h => ?_) (fun h => ?_)) <;> conv => whnf) | ((with_reducible refine caseB_not (fun h => ?_) (fun h => ?_)) <;> conv => whnf) | (with_reducible refine @And.intro (guardVC _ _ _ _ _) _ ?_ ?_) <;> conv => whnf | (refine caseB_intro (fun h => ?_) (fun h => ?_) <;> (try simp only [Bool.not_eq_true', Bool.not_eq_false', decide_eq_true_eq, decide_eq_false_iff_not] at h) <;> conv => whnf))
  all_goals first | (refine ⟨M, PH.Le.refl _, ?_, rfl⟩; simp [resV, inB, *]; done) | (refine ⟨M, PH.Le.refl _, ?_, rfl, rfl⟩; simp [resV, inB, *]; done) | (exfalso; simp_all; done)
theorem l1Time_ret (v : Int) (M : PH) : Ret 49 [I v] M (B (isT v)) := by
  refine xcall_of_vc Tryz.func49 rfl _ Tryz.ntmps49 _ rfl (fun _ _ => Tryz.call49 _ _) rfl (fun w0 ρ0 => ?_)
  conv => whnf
  repeat' (first | (refine ⟨⟨[], rfl⟩, _, PH.Le.refl _, PH.Le.refl _, ?_⟩; conv => whnf) | (refine caseB_true ?_; conv => whnf) | (refine caseB_false ?_; conv => whnf) | ((with_reducible refine caseB_dec (fun h => ?_) (fun h => ?_)) <;> conv => whnf) | ((with_reducible refine caseB_ndec (fun h => ?_) (fun h => ?_)) <;> conv => whnf) | ((with_reducible refine caseB_not (fun h => ?_) (fun h => ?_)) <;> conv => whnf) | (refine Ret.go (l1In_ret _ _ _ _) ?_; conv => whnf) | (with_reducible refine @And.intro (guardVC _ _ _ _ _) _ ?_ ?_) <;> conv => whnf | (refine caseB_intro (fun h => ?_) (fun h => ?_) <;> (try simp only [Bool.not_eq_true', Bool.not_eq_false', decide_eq_true_eq, decide_eq_false_iff_not] at h) <;> conv => whnf))
  all_goals first | (refine ⟨M, PH.Le.refl _, ?_, rfl⟩; simp [resV, isT, *]; done) | (refine ⟨M, PH.Le.refl _, ?_, rfl, rfl⟩; simp [resV, isT, *]; done) | (exfalso; simp_all; done)
theorem isTime_ret (v : Int) (M : PH) : Ret 46 [I v] M (B (isT v)) := by
  refine xcall_of_vc Tryz.func46 rfl _ Tryz.ntmps46 _ rfl (fun _ _ => Tryz.call46 _ _) rfl (fun w0 ρ0 => ?_)
  conv => whnf
  repeat' (first | (refine ⟨⟨[], rfl⟩, _, PH.Le.refl _, PH.Le.refl _, ?_⟩; conv => whnf) | (refine caseB_true ?_; conv => whnf) | (refine caseB_false ?_; conv => whnf) | ((with_reducible refine caseB_dec (fun h => ?_) (fun h => ?_)) <;> conv => whnf) | ((with_reducible refine caseB_ndec (fun h => ?_) (fun h => ?_)) <;> conv => whnf) | ((with_reducible refine caseB_not (fun h => ?_) (fun h => ?_)) <;> conv => whnf) | (refine Ret.go (within_ret _ _ _ _) ?_; conv => whnf) | (with_reducible refine @And.intro (guardVC _ _ _ _ _) _ ?_ ?_) <;> conv => whnf | (refine caseB_intro (fun h => ?_) (fun h => ?_) <;> (try simp only [Bool.not_eq_true', Bool.not_eq_false', decide_eq_true_eq, decide_eq_false_iff_not] at h) <;> conv => whnf))
  all_goals first | (refine ⟨M, PH.Le.refl _, ?_, rfl⟩; simp [resV, isT, *]; done) | (refine ⟨M, PH.Le.refl _, ?_, rfl, rfl⟩; simp [resV, isT, *]; done) | (exfalso; simp_all; done)

def min' (a b : Int) : Int := if b < a then b else a
theorem l1Min_ret (a b : Int) (M : PH) : Ret 116 [I a, I b] M (I (min' a b)) := by
  refine xcall_of_vc Tryz.func116 rfl _ Tryz.ntmps116 _ rfl (fun _ _ => Tryz.call116 _ _) rfl (fun w0 ρ0 => ?_)
  conv => whnf
  repeat' (first | (refine ⟨⟨[], rfl⟩, _, PH.Le.refl _, PH.Le.refl _, ?_⟩; conv => whnf) | (refine caseB_true ?_; conv => whnf) | (refine caseB_false ?_; conv => whnf) | ((with_reducible refine caseB_dec (fun h => ?_) (fun h => ?_)) <;> conv => whnf) | ((with_reducible refine caseB_ndec (fun h => ?_) (fun h => ?_)) <;> conv => whnf) | ((with_reducible refine caseB_not (fun h => ?_) (fun h => ?_)) <;> conv => whnf) | (with_reducible refine @And.intro (guardVC _ _ _ _ _) _ ?_ ?_) <;> conv => whnf | (refine caseB_intro (fun h => ?_) (fun h => ?_) <;> (try simp only [Bool.not_eq_true', Bool.not_eq_false', decide_eq_true_eq, decide_eq_false_iff_not] at h) <;> conv => whnf))
  all_goals refine ⟨M, PH.Le.refl _, ?_, rfl⟩; simp [resV, min']; omega
def add' (a b : Int) : Int := min' (wr (a + b)) 1000000000000000
structure IR where
  why : Int
  n : Int
abbrev IR.v (r : IR) : Value := .agg #[I r.why, I r.n]
theorem wrap_id {n : Int} (h1 : -9223372036854775808 ≤ n) (h2 : n ≤ 9223372036854775807) : IntKind.i64.wrap n = n := wr_id h1 h2
theorem isT_iff (n : Int) : isT n = true ↔ 0 ≤ n ∧ n ≤ 1000000000000000 := by simp [isT, inB]
theorem Ret.x {f : FuncId} {args : List Value} {M : PH} {v : Value} (h : Ret f args M v) : XCall env f (args.map .v) [] M fun r b M' => r = v ∧ b = [] ∧ M' = M := ACall.step h fun r M' ⟨h1, h2⟩ => ⟨h1, rfl, h2⟩
/-- A contract without boxes, amid boxes. -/
theorem XCall.go0 {f : FuncId} {args : List AV} {bx : List Box} {M : PH} {v : Value} {K : Value → List Box → PH → Prop} (h : XCall env f args [] M fun r b M' => r = v ∧ b = [] ∧ M' = M) (ha : args.map (ren []) = args) (hk : K v bx M) : XCall env f args bx M K :=
  XCall.lift h [] ha.symm rfl (by simp) rfl fun r bs' M' ⟨h1, h2, h3⟩ => by subst h1; subst h2; subst h3; exact ⟨rfl, hk⟩
theorem own : ownKnob Tryz.prog.godebug = none := by kernel_rfl
theorem laidOut : laidOutB Tryz.prog = true := by kernel_rfl
end Go.Proofs.YtdgipmlkkmmliaaGreatDoor
