/-
  TEXTS: bytes of a text; words, plain texts, small letters; what the library's functions on texts give.
-/
import Derived.Test.YtafgnmiflngjhaaGreatDoorLa
import Derived.Test.YtafgnmiflngjhaaGreatDoorXo
import Derived.Test.YtafgnmiflngjhaaGreatDoorSh
namespace Go.Proofs.YtafgnmiflngjhaaGreatDoor
set_option maxRecDepth 100000
set_option linter.unusedSimpArgs false
set_option linter.unusedVariables false
open Go.ChangeShapes Go.WideShapes Go.RowKit Go.Xe
/-- What was made and is not handed on is forgotten. -/
theorem XCall.forget {f : FuncId} {args : List AV} {bx : List Box} {M : PH} {R : Value → List Box → Prop} (h : XCall env f args bx M fun r b M' => R r b ∧ M.Le M') : XCall env f args bx M fun r b M' => R r b ∧ M' = M := by
  refine ⟨h.en, fun ρ w vs h1 h2 h3 h4 h5 => (h.run ρ w vs h1 h2 h3 h4 h5).mono fun e w' hh => ?_⟩
  obtain ⟨r, bx', M', rfl, hl, hb, hp, hR, hle⟩ := hh
  exact ⟨r, bx', M, rfl, hl, hb, ⟨hp.os, hp.tape, hp.output, hp.size, fun k o hk => hp.inn k o (hle k o hk), fun k o hk => .inl ⟨o, hk⟩, hp.frame⟩, hR, rfl⟩
theorem Ret.of {f : FuncId} {args : List Value} {M : PH} {v : Value} (h : ACall env f args M fun r M' => r = v ∧ M.Le M') : Ret f args M v :=
  XCall.mono (XCall.forget (R := fun r _ => r = v) h) fun r b M' hh => hh
/-- A contract of the shelf's: what stood stands. -/
theorem ret_of_calls {f : FuncId} {args : List Value} {M : PH} {v : Value} (en : ∀ (vs : Array Value) (w : World), (callFunc f vs).run env.P w = .ok (.enter f vs) w)
    (h : ∀ w, M.In w → Calls env.P f args.toArray w fun e w' => e = .returned v ∧ Below w.heap.size w w') : Ret f args M v :=
  ⟨en, fun ρ w vs h1 h2 h3 h4 h5 => by
    have := RelL.vs_eq h5
    subst this
    refine (h w h4).mono fun e w' ⟨he, hb⟩ => ⟨v, [], M, he, rfl, fun i b hi => (by rw [List.getElem?_nil] at hi; cases hi), ⟨hb.os, hb.tape, hb.output, hb.size, fun k o hk => ?_, fun k o hk => .inl ⟨o, hk⟩, fun k hk _ _ => hb.block k hk⟩, rfl, rfl⟩
    rw [hb.block k (h4.lt hk)]
    exact h4 k o hk⟩
/-! ### The bytes of a text -/
theorem bt_in (b : ByteArray) (i : Int) : 0 ≤ bt b i ∧ bt b i ≤ 255 := by
  unfold bt
  have := UInt8.toNat_lt (b.data.toList.getD i.toNat 0)
  omega
theorem size_list (b : ByteArray) : b.size = b.data.toList.length := Array.length_toList.symm
theorem bt_get {b : ByteArray} {i : Nat} (h : i < b.data.toList.length) : bt b i = ((b.data.toList[i]).toNat : Int) := by
  unfold bt
  rw [Int.toNat_natCast, List.getD_eq_getElem?_getD, List.getElem?_eq_getElem h]
  rfl
def allB (p : Int → Bool) (b : ByteArray) : Bool := (List.range b.size).all fun i => p (bt b i)
theorem allB_true {p : Int → Bool} {b : ByteArray} (h : ∀ j : Nat, j < b.size → p (bt b j) = true) : allB p b = true := by
  unfold allB
  rw [List.all_eq_true]
  intro i hi
  exact h i (List.mem_range.1 hi)
theorem allB_false {p : Int → Bool} {b : ByteArray} {i : Nat} (hi : i < b.size) (h : p (bt b i) = false) : allB p b = false := by
  unfold allB
  rw [List.all_eq_false]
  exact ⟨i, List.mem_range.2 hi, by simp [h]⟩
theorem allB_congr {p q : Int → Bool} {b : ByteArray} (h : ∀ c, 0 ≤ c → c ≤ 255 → p c = q c) : allB p b = allB q b := by
  unfold allB
  congr 1
  funext i
  exact h _ (bt_in b i).1 (bt_in b i).2
def setB (l : List UInt8) (c : Int) : Bool := decide (0 ≤ Lib.indexByte l c.toNat.toUInt8)
theorem setB_nil (c : Int) : setB [] c = false := by simp [setB, Lib.indexByte]
theorem setB_cons (x : UInt8) (l : List UInt8) {c : Int} (h0 : 0 ≤ c) (h1 : c ≤ 255) : setB (x :: l) c = (decide (c = x.toNat) || setB l c) := by
  have e : (x == c.toNat.toUInt8) = decide (c = x.toNat) := by
    have hx := UInt8.toNat_lt x
    by_cases h : c = x.toNat
    · subst h
      simp
    · rw [decide_eq_false h]
      simp only [beq_eq_false_iff_ne, ne_eq]
      intro e
      apply h
      rw [e]
      simp
      omega
  unfold setB
  rw [Lib.indexByte, e]
  have := Lib.indexByte_ge l c.toNat.toUInt8
  generalize Lib.indexByte l c.toNat.toUInt8 = z at *
  by_cases h : c = x.toNat
  · simp [h]
  · rw [decide_eq_false h]
    simp only [Bool.false_eq_true, if_false, Bool.false_or]
    congr 1
    apply propext
    split <;> rename_i h2
    · simp at h2; rw [h2]
    · simp at h2; omega
theorem indexByte_ret (s : ByteArray) (c : Int) (M : PH) : Ret 236 [Tx s, Y c] M (I (Lib.indexByte s.data.toList c.toNat.toUInt8)) :=
  ret_of_calls (fun _ _ => Tryz.call236 _ _) fun w _ => (Any.strings_IndexByte sh137 s c w).mono fun e w' ⟨h1, h2⟩ => ⟨h1, h2 ▸ Below.refl _ _⟩
def trimB (b : ByteArray) : ByteArray := ⟨(Lib.trimS b.data.toList [32, 9]).toArray⟩
theorem trim_ret (s : ByteArray) (M : PH) (hs : s.size ≤ maxLen) : Ret 209 [Tx s, Tx ⟨#[32, 9]⟩] M (Tx (trimB s)) :=
  ret_of_calls (fun _ _ => Tryz.call209 _ _) fun w _ => Any.strings_Trim_laid sh160 (by kernel_rfl) s ⟨#[32, 9]⟩ w hs (by decide) (ascii_of_all (by decide))
/-! ### Words -/
def letterB (c : Int) : Bool := (decide (97 ≤ c) && decide (c ≤ 122)) || (decide (65 ≤ c) && decide (c ≤ 90))
def digitB (c : Int) : Bool := decide (48 ≤ c) && decide (c ≤ 57)
def wordS : List UInt8 := [33, 35, 36, 37, 38, 39, 42, 43, 45, 46, 94, 95, 124, 126]
def wordB (c : Int) : Bool := letterB c || digitB c || setB wordS c
theorem l1Letter_ret (c : Int) (M : PH) : Ret 241 [Y c] M (B (letterB c)) := by
  refine xcall_of_vc Tryz.func241 rfl _ Tryz.ntmps241 _ rfl (fun _ _ => Tryz.call241 _ _) rfl (fun w0 ρ0 => ?_)
  conv => whnf
  repeat' (first | (refine ⟨⟨[], rfl⟩, _, PH.Le.refl _, PH.Le.refl _, ?_⟩; conv => whnf) | (refine caseB_true ?_; conv => whnf) | (refine caseB_false ?_; conv => whnf) | ((with_reducible refine caseB_dec (fun h => ?_) (fun h => ?_)) <;> conv => whnf) | ((with_reducible refine caseB_ndec (fun h => ?_) (fun h => ?_)) <;> conv => whnf) | ((with_reducible refine caseB_not (fun h => ?_) (fun h => ?_)) <;> conv => whnf) | (with_reducible refine @And.intro (guardVC _ _ _ _ _) _ ?_ ?_) <;> conv => whnf | (refine caseB_intro (fun h => ?_) (fun h => ?_) <;> (try simp only [Bool.not_eq_true', Bool.not_eq_false', decide_eq_true_eq, decide_eq_false_iff_not] at h) <;> conv => whnf))
  all_goals refine ⟨_, PH.Le.refl _, ?_, rfl⟩
  all_goals simp [resV, letterB, *] <;> omega
theorem l1Digit_ret (c : Int) (M : PH) : Ret 242 [Y c] M (B (digitB c)) := by
  refine xcall_of_vc Tryz.func242 rfl _ Tryz.ntmps242 _ rfl (fun _ _ => Tryz.call242 _ _) rfl (fun w0 ρ0 => ?_)
  conv => whnf
  repeat' (first | (refine ⟨⟨[], rfl⟩, _, PH.Le.refl _, PH.Le.refl _, ?_⟩; conv => whnf) | (refine caseB_true ?_; conv => whnf) | (refine caseB_false ?_; conv => whnf) | ((with_reducible refine caseB_dec (fun h => ?_) (fun h => ?_)) <;> conv => whnf) | ((with_reducible refine caseB_ndec (fun h => ?_) (fun h => ?_)) <;> conv => whnf) | ((with_reducible refine caseB_not (fun h => ?_) (fun h => ?_)) <;> conv => whnf) | (with_reducible refine @And.intro (guardVC _ _ _ _ _) _ ?_ ?_) <;> conv => whnf | (refine caseB_intro (fun h => ?_) (fun h => ?_) <;> (try simp only [Bool.not_eq_true', Bool.not_eq_false', decide_eq_true_eq, decide_eq_false_iff_not] at h) <;> conv => whnf))
  all_goals refine ⟨_, PH.Le.refl _, ?_, rfl⟩
  all_goals simp [resV, digitB, *] <;> omega
theorem isLetter_ret (c : Int) (M : PH) : Ret 234 [Y c] M (B (letterB c)) := by
  refine xcall_of_vc Tryz.func234 rfl _ Tryz.ntmps234 _ rfl (fun _ _ => Tryz.call234 _ _) rfl (fun w0 ρ0 => ?_)
  conv => whnf
  repeat' (first | (refine ⟨⟨[], rfl⟩, _, PH.Le.refl _, PH.Le.refl _, ?_⟩; conv => whnf) | (refine caseB_true ?_; conv => whnf) | (refine caseB_false ?_; conv => whnf) | ((with_reducible refine caseB_dec (fun h => ?_) (fun h => ?_)) <;> conv => whnf) | ((with_reducible refine caseB_ndec (fun h => ?_) (fun h => ?_)) <;> conv => whnf) | ((with_reducible refine caseB_not (fun h => ?_) (fun h => ?_)) <;> conv => whnf) | (with_reducible refine @And.intro (guardVC _ _ _ _ _) _ ?_ ?_) <;> conv => whnf | (refine caseB_intro (fun h => ?_) (fun h => ?_) <;> (try simp only [Bool.not_eq_true', Bool.not_eq_false', decide_eq_true_eq, decide_eq_false_iff_not] at h) <;> conv => whnf))
  all_goals refine ⟨_, PH.Le.refl _, ?_, rfl⟩
  all_goals simp [resV, letterB, *] <;> omega
theorem isDigit_ret (c : Int) (M : PH) : Ret 235 [Y c] M (B (digitB c)) := by
  refine xcall_of_vc Tryz.func235 rfl _ Tryz.ntmps235 _ rfl (fun _ _ => Tryz.call235 _ _) rfl (fun w0 ρ0 => ?_)
  conv => whnf
  repeat' (first | (refine ⟨⟨[], rfl⟩, _, PH.Le.refl _, PH.Le.refl _, ?_⟩; conv => whnf) | (refine caseB_true ?_; conv => whnf) | (refine caseB_false ?_; conv => whnf) | ((with_reducible refine caseB_dec (fun h => ?_) (fun h => ?_)) <;> conv => whnf) | ((with_reducible refine caseB_ndec (fun h => ?_) (fun h => ?_)) <;> conv => whnf) | ((with_reducible refine caseB_not (fun h => ?_) (fun h => ?_)) <;> conv => whnf) | (with_reducible refine @And.intro (guardVC _ _ _ _ _) _ ?_ ?_) <;> conv => whnf | (refine caseB_intro (fun h => ?_) (fun h => ?_) <;> (try simp only [Bool.not_eq_true', Bool.not_eq_false', decide_eq_true_eq, decide_eq_false_iff_not] at h) <;> conv => whnf))
  all_goals refine ⟨_, PH.Le.refl _, ?_, rfl⟩
  all_goals simp [resV, digitB, *] <;> omega
theorem isWordByte_ret (c : Int) (M : PH) : Ret 220 [Y c] M (B (wordB c)) := by
  refine xcall_of_vc Tryz.func220 rfl _ Tryz.ntmps220 _ rfl (fun _ _ => Tryz.call220 _ _) rfl (fun w0 ρ0 => ?_)
  conv => whnf
  repeat' (first | (refine ⟨⟨[], rfl⟩, _, PH.Le.refl _, PH.Le.refl _, ?_⟩; conv => whnf) | (refine caseB_true ?_; conv => whnf) | (refine caseB_false ?_; conv => whnf) | ((with_reducible refine caseB_dec (fun h => ?_) (fun h => ?_)) <;> conv => whnf) | ((with_reducible refine caseB_ndec (fun h => ?_) (fun h => ?_)) <;> conv => whnf) | ((with_reducible refine caseB_not (fun h => ?_) (fun h => ?_)) <;> conv => whnf) | (refine Ret.go (isLetter_ret _ _) ?_; conv => whnf) | (refine Ret.go (isDigit_ret _ _) ?_; conv => whnf) | (refine Ret.go (indexByte_ret _ _ _) ?_; conv => whnf) | (with_reducible refine @And.intro (guardVC _ _ _ _ _) _ ?_ ?_) <;> conv => whnf | (refine caseB_intro (fun h => ?_) (fun h => ?_) <;> (try simp only [Bool.not_eq_true', Bool.not_eq_false', decide_eq_true_eq, decide_eq_false_iff_not] at h) <;> conv => whnf))
  all_goals refine ⟨_, PH.Le.refl _, ?_, rfl⟩
  all_goals simp [resV, wordB, setB, wordS, *]
theorem wordS_eq {c : Int} (h0 : 0 ≤ c) (h1 : c ≤ 255) : setB wordS c = (decide (c = 33) || (decide (c = 35) || (decide (c = 36) || (decide (c = 37) || (decide (c = 38) || (decide (c = 39) || (decide (c = 42) || (decide (c = 43) || (decide (c = 45) || (decide (c = 46) || (decide (c = 94) || (decide (c = 95) || (decide (c = 124) || (decide (c = 126) || false)))))))))))))) := by
  unfold wordS
  simp only [setB_cons _ _ h0 h1, setB_nil]
  rfl
theorem l1WordByte_ret (c : Int) (M : PH) (h0 : 0 ≤ c) (h1 : c ≤ 255) : Ret 229 [Y c] M (B (wordB c)) := by
  unfold wordB
  rw [wordS_eq h0 h1]
  refine xcall_of_vc Tryz.func229 rfl _ Tryz.ntmps229 _ rfl (fun _ _ => Tryz.call229 _ _) rfl (fun w0 ρ0 => ?_)
  conv => whnf
  repeat' (first | (refine ⟨⟨[], rfl⟩, _, PH.Le.refl _, PH.Le.refl _, ?_⟩; conv => whnf) | (refine caseB_true ?_; conv => whnf) | (refine caseB_false ?_; conv => whnf) | ((with_reducible refine caseB_dec (fun h => ?_) (fun h => ?_)) <;> conv => whnf) | ((with_reducible refine caseB_ndec (fun h => ?_) (fun h => ?_)) <;> conv => whnf) | ((with_reducible refine caseB_not (fun h => ?_) (fun h => ?_)) <;> conv => whnf) | (refine Ret.go (l1Letter_ret _ _) ?_; conv => whnf) | (refine Ret.go (l1Digit_ret _ _) ?_; conv => whnf) | (with_reducible refine @And.intro (guardVC _ _ _ _ _) _ ?_ ?_) <;> conv => whnf | (refine caseB_intro (fun h => ?_) (fun h => ?_) <;> (try simp only [Bool.not_eq_true', Bool.not_eq_false', decide_eq_true_eq, decide_eq_false_iff_not] at h) <;> conv => whnf))
  all_goals first | (exfalso; omega) | refine ⟨_, PH.Le.refl _, ?_, rfl⟩
  all_goals first | (have e := ‹c = _›; subst e; rfl) | (simp [resV, *]; done)
end Go.Proofs.YtafgnmiflngjhaaGreatDoor
