/-
  TEXTS: bytes of a text; words, plain texts, small letters; what the library's functions on texts give. TEXTS: words, plain texts, hosts, paths; small letters; blanks at both ends. TEXTS: small letters; blanks at both ends. CONTRACTS: what is wrong with head lines; the values of a name.
-/
import Derived.Test.YtdgipmlkkmmliaaGreatDoorLa
import Derived.Test.YtdgipmlkkmmliaaGreatDoorXo
import Derived.Test.YtdgipmlkkmmliaaGreatDoorSh
import Derived.Test.YtdgipmlkkmmliaaGreatDoorMa
import Derived.Test.YtdgipmlkkmmliaaGreatDoorNa
namespace Go.Proofs.YtdgipmlkkmmliaaGreatDoor
set_option maxRecDepth 100000
set_option linter.unusedSimpArgs false
set_option linter.unusedVariables false
open Go.ChangeShapes Go.WideShapes Go.RowKit Go.Xe
/-- What was made and is not handed on is forgotten. -/
theorem XCall.forget {f : FuncId} {args : List AV} {bx : List Box} {M : PH} {R : Value → List Box → Prop} (h : XCall env f args bx M fun r b M' => R r b ∧ M.Le M') : XCall env f args bx M fun r b M' => R r b ∧ M' = M := by
  refine ⟨h.en, fun ρ w vs h1 h2 h3 h4 h5 => (h.run ρ w vs h1 h2 h3 h4 h5).mono fun e w' hh => ?_⟩
  obtain ⟨r, bx', M', rfl, hl, hb, hp, hR, hle⟩ := hh
  exact ⟨r, bx', M, rfl, hl, hb, ⟨hp.os, hp.tape, hp.output, hp.size, fun k o hk => hp.inn k o (hle k o hk), fun k o hk => .inl ⟨o, hk⟩, hp.frame⟩, hR, rfl⟩
theorem Ret.of {f : FuncId} {args : List Value} {M : PH} {v : Value} (h : ACall env f args M fun r M' => r = v ∧ M.Le M') : Ret f args M v :=
  XCall.mono (XCall.forget (R := fun r _ => r = v) h) fun r b M' hh => hh
/-- A contract of the shelf's: what stood stands. -/
theorem ret_of_calls {f : FuncId} {args : List Value} {M : PH} {v : Value} (en : ∀ (vs : Array Value) (w : World), (callFunc f vs).run env.P w = .ok (.enter f vs) w)
    (h : ∀ w, M.In w → Calls env.P f args.toArray w fun e w' => e = .returned v ∧ Below w.heap.size w w') : Ret f args M v :=
  ⟨trivial, fun ρ w vs h1 h2 h3 h4 h5 => by
    have := RelL.vs_eq h5
    subst this
    refine .inl ⟨en _ _, ?_⟩
    refine (h w h4).mono fun e w' ⟨he, hb⟩ => ⟨v, [], M, he, rfl, fun i b hi => (by rw [List.getElem?_nil] at hi; cases hi), ⟨hb.os, hb.tape, hb.output, hb.size, fun k o hk => ?_, fun k o hk => .inl ⟨o, hk⟩, fun k hk _ _ => hb.block k hk⟩, rfl, rfl⟩
    rw [hb.block k (h4.lt hk)]
    exact h4 k o hk⟩
/-! ### The bytes of a text -/
theorem bt_in (b : ByteArray) (i : Int) : 0 ≤ bt b i ∧ bt b i ≤ 255 := by
  unfold bt
  have := UInt8.toNat_lt (b.data.toList.getD i.toNat 0)
  omega
theorem size_list (b : ByteArray) : b.size = b.data.toList.length := Array.length_toList.symm
theorem bt_get {b : ByteArray} {i : Nat} (h : i < b.data.toList.length) : bt b i = ((b.data.toList[i]).toNat : Int) := by
  unfold bt
  rw [Int.toNat_natCast, List.getD_eq_getElem?_getD, List.getElem?_eq_getElem h]
  rfl
def allB (p : Int → Bool) (b : ByteArray) : Bool := (List.range b.size).all fun i => p (bt b i)
theorem allB_true {p : Int → Bool} {b : ByteArray} (h : ∀ j : Nat, j < b.size → p (bt b j) = true) : allB p b = true := by
  unfold allB
  rw [List.all_eq_true]
  intro i hi
  exact h i (List.mem_range.1 hi)
theorem allB_false {p : Int → Bool} {b : ByteArray} {i : Nat} (hi : i < b.size) (h : p (bt b i) = false) : allB p b = false := by
  unfold allB
  rw [List.all_eq_false]
  exact ⟨i, List.mem_range.2 hi, by simp [h]⟩
theorem allB_congr {p q : Int → Bool} {b : ByteArray} (h : ∀ c, 0 ≤ c → c ≤ 255 → p c = q c) : allB p b = allB q b := by
  unfold allB
  congr 1
  funext i
  exact h _ (bt_in b i).1 (bt_in b i).2
def setB (l : List UInt8) (c : Int) : Bool := decide (0 ≤ Lib.indexByte l c.toNat.toUInt8)
theorem setB_nil (c : Int) : setB [] c = false := by simp [setB, Lib.indexByte]
theorem setB_cons (x : UInt8) (l : List UInt8) {c : Int} (h0 : 0 ≤ c) (h1 : c ≤ 255) : setB (x :: l) c = (decide (c = x.toNat) || setB l c) := by
  have e : (x == c.toNat.toUInt8) = decide (c = x.toNat) := by
    have hx := UInt8.toNat_lt x
    by_cases h : c = x.toNat
    · subst h
      simp
    · rw [decide_eq_false h]
      simp only [beq_eq_false_iff_ne, ne_eq]
      intro e
      apply h
      rw [e]
      simp
      omega
  unfold setB
  rw [Lib.indexByte, e]
  have := Lib.indexByte_ge l c.toNat.toUInt8
  generalize Lib.indexByte l c.toNat.toUInt8 = z at *
  by_cases h : c = x.toNat
  · simp [h]
  · rw [decide_eq_false h]
    simp only [Bool.false_eq_true, if_false, Bool.false_or]
    congr 1
    apply propext
    split <;> rename_i h2
    · simp at h2; rw [h2]
    · simp at h2; omega
theorem indexByte_ret (s : ByteArray) (c : Int) (M : PH) : Ret 165 [Tx s, Y c] M (I (Lib.indexByte s.data.toList c.toNat.toUInt8)) :=
  ret_of_calls (fun _ _ => Tryz.call165 _ _) fun w _ => (Any.strings_IndexByte sh137 s c w).mono fun e w' ⟨h1, h2⟩ => ⟨h1, h2 ▸ Below.refl _ _⟩
def trimB (b : ByteArray) : ByteArray := ⟨(Lib.trimS b.data.toList [32, 9]).toArray⟩
theorem trim_ret (s : ByteArray) (M : PH) (hs : s.size ≤ maxLen) : Ret 100 [Tx s, Tx ⟨#[32, 9]⟩] M (Tx (trimB s)) :=
  ret_of_calls (fun _ _ => Tryz.call100 _ _) fun w _ => Any.strings_Trim_laid sh160 (by kernel_rfl) s ⟨#[32, 9]⟩ w hs (by decide) (ascii_of_all (by decide))
/-! ### Words -/
def letterB (c : Int) : Bool := (decide (97 ≤ c) && decide (c ≤ 122)) || (decide (65 ≤ c) && decide (c ≤ 90))
def digitB (c : Int) : Bool := decide (48 ≤ c) && decide (c ≤ 57)
def wordS : List UInt8 := [33, 35, 36, 37, 38, 39, 42, 43, 45, 46, 94, 95, 124, 126]
def wordB (c : Int) : Bool := letterB c || digitB c || setB wordS c
theorem l1Letter_ret (c : Int) (M : PH) : Ret 145 [Y c] M (B (letterB c)) := by
  refine xcall_of_vc Tryz.func145 rfl _ Tryz.ntmps145 _ rfl (fun _ _ => Tryz.call145 _ _) rfl (fun w0 ρ0 => ?_)
  conv => whnf
  repeat' (first | (refine ⟨⟨[], rfl⟩, _, PH.Le.refl _, PH.Le.refl _, ?_⟩; conv => whnf) | (refine caseB_true ?_; conv => whnf) | (refine caseB_false ?_; conv => whnf) | ((with_reducible refine caseB_dec (fun h => ?_) (fun h => ?_)) <;> conv => whnf) | ((with_reducible refine caseB_ndec (fun h => ?_) (fun h => ?_)) <;> conv => whnf) | ((with_reducible refine caseB_not (fun h => ?_) (fun h => ?_)) <;> conv => whnf) | (with_reducible refine @And.intro (guardVC _ _ _ _ _) _ ?_ ?_) <;> conv => whnf | (refine caseB_intro (fun h => ?_) (fun h => ?_) <;> (try simp only [Bool.not_eq_true', Bool.not_eq_false', decide_eq_true_eq, decide_eq_false_iff_not] at h) <;> conv => whnf))
  all_goals refine ⟨_, PH.Le.refl _, ?_, rfl⟩
  all_goals simp [resV, letterB, *] <;> omega
theorem l1Digit_ret (c : Int) (M : PH) : Ret 115 [Y c] M (B (digitB c)) := by
  refine xcall_of_vc Tryz.func115 rfl _ Tryz.ntmps115 _ rfl (fun _ _ => Tryz.call115 _ _) rfl (fun w0 ρ0 => ?_)
  conv => whnf
  repeat' (first | (refine ⟨⟨[], rfl⟩, _, PH.Le.refl _, PH.Le.refl _, ?_⟩; conv => whnf) | (refine caseB_true ?_; conv => whnf) | (refine caseB_false ?_; conv => whnf) | ((with_reducible refine caseB_dec (fun h => ?_) (fun h => ?_)) <;> conv => whnf) | ((with_reducible refine caseB_ndec (fun h => ?_) (fun h => ?_)) <;> conv => whnf) | ((with_reducible refine caseB_not (fun h => ?_) (fun h => ?_)) <;> conv => whnf) | (with_reducible refine @And.intro (guardVC _ _ _ _ _) _ ?_ ?_) <;> conv => whnf | (refine caseB_intro (fun h => ?_) (fun h => ?_) <;> (try simp only [Bool.not_eq_true', Bool.not_eq_false', decide_eq_true_eq, decide_eq_false_iff_not] at h) <;> conv => whnf))
  all_goals refine ⟨_, PH.Le.refl _, ?_, rfl⟩
  all_goals simp [resV, digitB, *] <;> omega
theorem isLetter_ret (c : Int) (M : PH) : Ret 164 [Y c] M (B (letterB c)) := by
  refine xcall_of_vc Tryz.func164 rfl _ Tryz.ntmps164 _ rfl (fun _ _ => Tryz.call164 _ _) rfl (fun w0 ρ0 => ?_)
  conv => whnf
  repeat' (first | (refine ⟨⟨[], rfl⟩, _, PH.Le.refl _, PH.Le.refl _, ?_⟩; conv => whnf) | (refine caseB_true ?_; conv => whnf) | (refine caseB_false ?_; conv => whnf) | ((with_reducible refine caseB_dec (fun h => ?_) (fun h => ?_)) <;> conv => whnf) | ((with_reducible refine caseB_ndec (fun h => ?_) (fun h => ?_)) <;> conv => whnf) | ((with_reducible refine caseB_not (fun h => ?_) (fun h => ?_)) <;> conv => whnf) | (with_reducible refine @And.intro (guardVC _ _ _ _ _) _ ?_ ?_) <;> conv => whnf | (refine caseB_intro (fun h => ?_) (fun h => ?_) <;> (try simp only [Bool.not_eq_true', Bool.not_eq_false', decide_eq_true_eq, decide_eq_false_iff_not] at h) <;> conv => whnf))
  all_goals refine ⟨_, PH.Le.refl _, ?_, rfl⟩
  all_goals simp [resV, letterB, *] <;> omega
theorem isDigit_ret (c : Int) (M : PH) : Ret 125 [Y c] M (B (digitB c)) := by
  refine xcall_of_vc Tryz.func125 rfl _ Tryz.ntmps125 _ rfl (fun _ _ => Tryz.call125 _ _) rfl (fun w0 ρ0 => ?_)
  conv => whnf
  repeat' (first | (refine ⟨⟨[], rfl⟩, _, PH.Le.refl _, PH.Le.refl _, ?_⟩; conv => whnf) | (refine caseB_true ?_; conv => whnf) | (refine caseB_false ?_; conv => whnf) | ((with_reducible refine caseB_dec (fun h => ?_) (fun h => ?_)) <;> conv => whnf) | ((with_reducible refine caseB_ndec (fun h => ?_) (fun h => ?_)) <;> conv => whnf) | ((with_reducible refine caseB_not (fun h => ?_) (fun h => ?_)) <;> conv => whnf) | (with_reducible refine @And.intro (guardVC _ _ _ _ _) _ ?_ ?_) <;> conv => whnf | (refine caseB_intro (fun h => ?_) (fun h => ?_) <;> (try simp only [Bool.not_eq_true', Bool.not_eq_false', decide_eq_true_eq, decide_eq_false_iff_not] at h) <;> conv => whnf))
  all_goals refine ⟨_, PH.Le.refl _, ?_, rfl⟩
  all_goals simp [resV, digitB, *] <;> omega
theorem isWordByte_ret (c : Int) (M : PH) : Ret 134 [Y c] M (B (wordB c)) := by
  refine xcall_of_vc Tryz.func134 rfl _ Tryz.ntmps134 _ rfl (fun _ _ => Tryz.call134 _ _) rfl (fun w0 ρ0 => ?_)
  conv => whnf
  repeat' (first | (refine ⟨⟨[], rfl⟩, _, PH.Le.refl _, PH.Le.refl _, ?_⟩; conv => whnf) | (refine caseB_true ?_; conv => whnf) | (refine caseB_false ?_; conv => whnf) | ((with_reducible refine caseB_dec (fun h => ?_) (fun h => ?_)) <;> conv => whnf) | ((with_reducible refine caseB_ndec (fun h => ?_) (fun h => ?_)) <;> conv => whnf) | ((with_reducible refine caseB_not (fun h => ?_) (fun h => ?_)) <;> conv => whnf) | (refine Ret.go (isLetter_ret _ _) ?_; conv => whnf) | (refine Ret.go (isDigit_ret _ _) ?_; conv => whnf) | (refine Ret.go (indexByte_ret _ _ _) ?_; conv => whnf) | (with_reducible refine @And.intro (guardVC _ _ _ _ _) _ ?_ ?_) <;> conv => whnf | (refine caseB_intro (fun h => ?_) (fun h => ?_) <;> (try simp only [Bool.not_eq_true', Bool.not_eq_false', decide_eq_true_eq, decide_eq_false_iff_not] at h) <;> conv => whnf))
  all_goals refine ⟨_, PH.Le.refl _, ?_, rfl⟩
  all_goals simp [resV, wordB, setB, wordS, *]
theorem wordS_eq {c : Int} (h0 : 0 ≤ c) (h1 : c ≤ 255) : setB wordS c = (decide (c = 33) || (decide (c = 35) || (decide (c = 36) || (decide (c = 37) || (decide (c = 38) || (decide (c = 39) || (decide (c = 42) || (decide (c = 43) || (decide (c = 45) || (decide (c = 46) || (decide (c = 94) || (decide (c = 95) || (decide (c = 124) || (decide (c = 126) || false)))))))))))))) := by
  unfold wordS
  simp only [setB_cons _ _ h0 h1, setB_nil]
  rfl
theorem l1WordByte_ret (c : Int) (M : PH) (h0 : 0 ≤ c) (h1 : c ≤ 255) : Ret 144 [Y c] M (B (wordB c)) := by
  unfold wordB
  rw [wordS_eq h0 h1]
  refine xcall_of_vc Tryz.func144 rfl _ Tryz.ntmps144 _ rfl (fun _ _ => Tryz.call144 _ _) rfl (fun w0 ρ0 => ?_)
  conv => whnf
  repeat' (first | (refine ⟨⟨[], rfl⟩, _, PH.Le.refl _, PH.Le.refl _, ?_⟩; conv => whnf) | (refine caseB_true ?_; conv => whnf) | (refine caseB_false ?_; conv => whnf) | ((with_reducible refine caseB_dec (fun h => ?_) (fun h => ?_)) <;> conv => whnf) | ((with_reducible refine caseB_ndec (fun h => ?_) (fun h => ?_)) <;> conv => whnf) | ((with_reducible refine caseB_not (fun h => ?_) (fun h => ?_)) <;> conv => whnf) | (refine Ret.go (l1Letter_ret _ _) ?_; conv => whnf) | (refine Ret.go (l1Digit_ret _ _) ?_; conv => whnf) | (with_reducible refine @And.intro (guardVC _ _ _ _ _) _ ?_ ?_) <;> conv => whnf | (refine caseB_intro (fun h => ?_) (fun h => ?_) <;> (try simp only [Bool.not_eq_true', Bool.not_eq_false', decide_eq_true_eq, decide_eq_false_iff_not] at h) <;> conv => whnf))
  all_goals first | (exfalso; omega) | refine ⟨_, PH.Le.refl _, ?_, rfl⟩
  all_goals first | (have e := ‹c = _›; subst e; rfl) | (simp [resV, *]; done)
theorem areBytes_ret (g : FuncId) (p : Int → Bool) (b : ByteArray) (lo hi : Int) (M : PH) (hb : b.size ≤ maxLen) (hg : ∀ c, 0 ≤ c → c ≤ 255 → Ret g [Y c] M (B (p c))) :
    XCall env 124 [.v (Tx b), .v (I lo), .v (I hi), .fn g []] [] M fun r bx M' => r = B (decide (lo ≤ (b.size : Int)) && (decide ((b.size : Int) ≤ hi) && allB p b)) ∧ bx = [] ∧ M' = M := by
  have e63 : maxLen = 9223372036854775807 := rfl
  refine xcall_of_vc Tryz.func124 rfl _ Tryz.ntmps124 _ rfl (fun _ _ => Tryz.call124 _ _) rfl (fun w0 ρ0 => ?_)
  conv => whnf
  repeat' (first | (refine ⟨⟨[], rfl⟩, _, PH.Le.refl _, PH.Le.refl _, ?_⟩; conv => whnf) | (refine caseB_true ?_; conv => whnf) | (refine caseB_false ?_; conv => whnf) | ((with_reducible refine caseB_dec (fun h => ?_) (fun h => ?_)) <;> conv => whnf) | ((with_reducible refine caseB_ndec (fun h => ?_) (fun h => ?_)) <;> conv => whnf) | ((with_reducible refine caseB_not (fun h => ?_) (fun h => ?_)) <;> conv => whnf) | (with_reducible refine @And.intro (guardVC _ _ _ _ _) _ ?_ ?_) <;> conv => whnf | (refine caseB_intro (fun h => ?_) (fun h => ?_) <;> (try simp only [Bool.not_eq_true', Bool.not_eq_false', decide_eq_true_eq, decide_eq_false_iff_not] at h) <;> conv => whnf))
  · exact ⟨_, PH.Le.refl _, by rw [decide_eq_false (by omega)]; rfl, rfl, rfl⟩
  · exact ⟨_, PH.Le.refl _, by rw [decide_eq_false (p := (b.size : Int) ≤ hi) (by omega)]; simp [resV], rfl, rfl⟩
  rename_i h2
  rw [decide_eq_true (p := lo ≤ (b.size : Int)) (by omega), decide_eq_true (p := (b.size : Int) ≤ hi) (by omega), Bool.true_and, Bool.true_and]
  refine loop_rule (fun i : Nat => ⟨slots 32 [(0, .v (Tx b)), (3, .fn g []), (21, .v (I b.size)), (22, .v (I i))], []⟩) (fun i M' => i ≤ b.size ∧ (∀ j : Nat, j < i → p (bt b j) = true) ∧ M' = M) (fun i => b.size - i) 0 ?_ ?_ ?_
  · exact ⟨by simp [slots, leT], ⟨[], rfl⟩, Nat.zero_le _, rfl, rfl⟩
  · exact ⟨Nat.zero_le _, fun j hj => absurd hj (Nat.not_lt_zero _), rfl⟩
  rintro i M' ⟨hi0, hp, rfl⟩
  conv => whnf
  refine caseB_dec (fun h0 => ?_) (fun h0 => ?_)
  · have h0 : (i : Int) < b.size := h0
    have hi' : i < b.size := by omega
    have hw : IntKind.i64.wrap ((i : Int) + 1) = (i : Int) + 1 := wr_id (by omega) (by omega)
    have hbt := bt_in b i
    conv => whnf
    refine ⟨by omega, by omega, ?_⟩
    conv => whnf
    refine Ret.go (hg _ hbt.1 hbt.2) ?_
    conv => whnf
    refine caseB_not (fun h => ?_) (fun h => ?_)
    · conv => whnf
      exact ⟨_, PH.Le.refl _, by rw [allB_false hi' h]; rfl, rfl, rfl⟩
    · conv => whnf
      exact ⟨i + 1, ⟨by simp [slots, leT, hw], ⟨_, rfl⟩, Nat.zero_le _, rfl, rfl⟩, ⟨by omega, fun j hj => (Nat.lt_succ_iff_lt_or_eq.1 hj).elim (hp j) (fun e => by subst e; exact h), rfl⟩, by omega⟩
  · have hi' : i = b.size := by have : ¬ (i : Int) < b.size := h0; omega
    subst hi'
    conv => whnf
    exact ⟨_, PH.Le.refl _, by rw [allB_true hp]; rfl, rfl, rfl⟩
def wordT (b : ByteArray) : Bool := decide (1 ≤ (b.size : Int)) && (decide ((b.size : Int) ≤ 64) && allB wordB b)
theorem isWord_impl (b : ByteArray) (M : PH) (hb : b.size ≤ maxLen) : Ret 98 [Tx b] M (B (wordT b)) := by
  refine xcall_of_vc Tryz.func98 rfl _ Tryz.ntmps98 _ rfl (fun _ _ => Tryz.call98 _ _) rfl (fun w0 ρ0 => ?_)
  conv => whnf
  refine XCall.go0 (areBytes_ret _ wordB b 1 64 _ hb (fun c _ _ => isWordByte_ret c _)) rfl ?_
  conv => whnf
  exact ⟨_, PH.Le.refl _, rfl, rfl⟩
theorem isWord_spec (b : ByteArray) (M : PH) (hb : b.size ≤ maxLen) : Ret 104 [Tx b] M (B (wordT b)) := by
  have e63 : maxLen = 9223372036854775807 := rfl
  unfold wordT
  refine xcall_of_vc Tryz.func104 rfl _ Tryz.ntmps104 _ rfl (fun _ _ => Tryz.call104 _ _) rfl (fun w0 ρ0 => ?_)
  conv => whnf
  repeat' (first | (refine ⟨⟨[], rfl⟩, _, PH.Le.refl _, PH.Le.refl _, ?_⟩; conv => whnf) | (refine caseB_true ?_; conv => whnf) | (refine caseB_false ?_; conv => whnf) | ((with_reducible refine caseB_dec (fun h => ?_) (fun h => ?_)) <;> conv => whnf) | ((with_reducible refine caseB_ndec (fun h => ?_) (fun h => ?_)) <;> conv => whnf) | ((with_reducible refine caseB_not (fun h => ?_) (fun h => ?_)) <;> conv => whnf) | (with_reducible refine @And.intro (guardVC _ _ _ _ _) _ ?_ ?_) <;> conv => whnf | (refine caseB_intro (fun h => ?_) (fun h => ?_) <;> (try simp only [Bool.not_eq_true', Bool.not_eq_false', decide_eq_true_eq, decide_eq_false_iff_not] at h) <;> conv => whnf))
  · exact ⟨_, PH.Le.refl _, by simp [resV, wordT]; omega, rfl⟩
  · exact ⟨_, PH.Le.refl _, by simp [resV, wordT]; omega, rfl⟩
  refine loop_rule (fun i : Nat => ⟨slots 23 [(0, .v (Tx b)), (3, .v (I i))], []⟩) (fun i M' => i ≤ b.size ∧ (∀ j : Nat, j < i → wordB (bt b j) = true) ∧ M' = M) (fun i => b.size - i) 0 ?_ ?_ ?_
  · exact ⟨by simp [slots, leT], ⟨[], rfl⟩, Nat.zero_le _, rfl, rfl⟩
  · exact ⟨Nat.zero_le _, fun j hj => absurd hj (Nat.not_lt_zero _), rfl⟩
  rintro i M' ⟨hi, hp, rfl⟩
  conv => whnf
  refine caseB_dec (fun h0 => ?_) (fun h0 => ?_)
  · have h0 : (i : Int) < b.size := h0
    have hi' : i < b.size := by omega
    have hw : IntKind.i64.wrap ((i : Int) + 1) = (i : Int) + 1 := wr_id (by omega) (by omega)
    have hbt := bt_in b i
    conv => whnf
    repeat' (first | (refine ⟨⟨[], rfl⟩, _, PH.Le.refl _, PH.Le.refl _, ?_⟩; conv => whnf) | (refine ⟨by omega, by omega, ?_⟩; conv => whnf) | (refine caseB_true ?_; conv => whnf) | (refine caseB_false ?_; conv => whnf) | ((with_reducible refine caseB_dec (fun h => ?_) (fun h => ?_)) <;> conv => whnf) | ((with_reducible refine caseB_ndec (fun h => ?_) (fun h => ?_)) <;> conv => whnf) | ((with_reducible refine caseB_not (fun h => ?_) (fun h => ?_)) <;> conv => whnf) | (refine Ret.go (l1WordByte_ret _ _ hbt.1 hbt.2) ?_; conv => whnf) | (with_reducible refine @And.intro (guardVC _ _ _ _ _) _ ?_ ?_) <;> conv => whnf | (refine caseB_intro (fun h => ?_) (fun h => ?_) <;> (try simp only [Bool.not_eq_true', Bool.not_eq_false', decide_eq_true_eq, decide_eq_false_iff_not] at h) <;> conv => whnf))
    all_goals first
      | exact ⟨i + 1, ⟨by simp [slots, leT, hw], ⟨_, rfl⟩, Nat.zero_le _, rfl, rfl⟩, ⟨by omega, fun j hj => (Nat.lt_succ_iff_lt_or_eq.1 hj).elim (hp j) (fun e => by subst e; first | assumption | (simp [wordB, *]; done)), rfl⟩, by omega⟩
      | (refine ⟨_, PH.Le.refl _, ?_, rfl⟩; rw [allB_false hi' (p := wordB) (by first | assumption | (simp [wordB, *]; done))]; simp [resV]; done)
  · have hi' : i = b.size := by have : ¬ (i : Int) < b.size := h0; omega
    subst hi'
    conv => whnf
    refine ⟨_, PH.Le.refl _, ?_, rfl⟩
    rw [allB_true (p := wordB) hp]
    (simp [resV, wordT]; omega)

def plainB (c : Int) : Bool := decide (c = 9) || (decide (32 ≤ c) && decide (c ≤ 126))
theorem l2Plain_ret (c : Int) (M : PH) : Ret 148 [Y c] M (B (plainB c)) := by
  refine xcall_of_vc Tryz.func148 rfl _ Tryz.ntmps148 _ rfl (fun _ _ => Tryz.call148 _ _) rfl (fun w0 ρ0 => ?_)
  conv => whnf
  repeat' (first | (refine ⟨⟨[], rfl⟩, _, PH.Le.refl _, PH.Le.refl _, ?_⟩; conv => whnf) | (refine caseB_true ?_; conv => whnf) | (refine caseB_false ?_; conv => whnf) | ((with_reducible refine caseB_dec (fun h => ?_) (fun h => ?_)) <;> conv => whnf) | ((with_reducible refine caseB_ndec (fun h => ?_) (fun h => ?_)) <;> conv => whnf) | ((with_reducible refine caseB_not (fun h => ?_) (fun h => ?_)) <;> conv => whnf) | (with_reducible refine @And.intro (guardVC _ _ _ _ _) _ ?_ ?_) <;> conv => whnf | (refine caseB_intro (fun h => ?_) (fun h => ?_) <;> (try simp only [Bool.not_eq_true', Bool.not_eq_false', decide_eq_true_eq, decide_eq_false_iff_not] at h) <;> conv => whnf))
  all_goals refine ⟨_, PH.Le.refl _, ?_, rfl⟩
  all_goals simp [resV, plainB, *] <;> omega
theorem isPlain_ret (c : Int) (M : PH) : Ret 155 [Y c] M (B (plainB c)) := by
  refine xcall_of_vc Tryz.func155 rfl _ Tryz.ntmps155 _ rfl (fun _ _ => Tryz.call155 _ _) rfl (fun w0 ρ0 => ?_)
  conv => whnf
  repeat' (first | (refine ⟨⟨[], rfl⟩, _, PH.Le.refl _, PH.Le.refl _, ?_⟩; conv => whnf) | (refine caseB_true ?_; conv => whnf) | (refine caseB_false ?_; conv => whnf) | ((with_reducible refine caseB_dec (fun h => ?_) (fun h => ?_)) <;> conv => whnf) | ((with_reducible refine caseB_ndec (fun h => ?_) (fun h => ?_)) <;> conv => whnf) | ((with_reducible refine caseB_not (fun h => ?_) (fun h => ?_)) <;> conv => whnf) | (with_reducible refine @And.intro (guardVC _ _ _ _ _) _ ?_ ?_) <;> conv => whnf | (refine caseB_intro (fun h => ?_) (fun h => ?_) <;> (try simp only [Bool.not_eq_true', Bool.not_eq_false', decide_eq_true_eq, decide_eq_false_iff_not] at h) <;> conv => whnf))
  all_goals refine ⟨_, PH.Le.refl _, ?_, rfl⟩
  all_goals simp [resV, plainB, *] <;> omega
theorem plain_spec (b : ByteArray) (M : PH) (hb : b.size ≤ maxLen) : Ret 113 [Tx b] M (B (allB plainB b)) := by
  have e63 : maxLen = 9223372036854775807 := rfl
  refine xcall_of_vc Tryz.func113 rfl _ Tryz.ntmps113 _ rfl (fun _ _ => Tryz.call113 _ _) rfl (fun w0 ρ0 => ?_)
  conv => whnf
  refine loop_rule (fun i : Nat => ⟨slots 15 [(0, .v (Tx b)), (3, .v (I i))], []⟩) (fun i M' => i ≤ b.size ∧ (∀ j : Nat, j < i → plainB (bt b j) = true) ∧ M' = M) (fun i => b.size - i) 0 ?_ ?_ ?_
  · exact ⟨by simp [slots, leT], ⟨[], rfl⟩, Nat.zero_le _, rfl, rfl⟩
  · exact ⟨Nat.zero_le _, fun j hj => absurd hj (Nat.not_lt_zero _), rfl⟩
  rintro i M' ⟨hi, hp, rfl⟩
  conv => whnf
  refine caseB_dec (fun h0 => ?_) (fun h0 => ?_)
  · have h0 : (i : Int) < b.size := h0
    have hi' : i < b.size := by omega
    have hw : IntKind.i64.wrap ((i : Int) + 1) = (i : Int) + 1 := wr_id (by omega) (by omega)
    have hbt := bt_in b i
    conv => whnf
    repeat' (first | (refine ⟨⟨[], rfl⟩, _, PH.Le.refl _, PH.Le.refl _, ?_⟩; conv => whnf) | (refine ⟨by omega, by omega, ?_⟩; conv => whnf) | (refine caseB_true ?_; conv => whnf) | (refine caseB_false ?_; conv => whnf) | ((with_reducible refine caseB_dec (fun h => ?_) (fun h => ?_)) <;> conv => whnf) | ((with_reducible refine caseB_ndec (fun h => ?_) (fun h => ?_)) <;> conv => whnf) | ((with_reducible refine caseB_not (fun h => ?_) (fun h => ?_)) <;> conv => whnf) | (refine Ret.go (l2Plain_ret _ _) ?_; conv => whnf) | (with_reducible refine @And.intro (guardVC _ _ _ _ _) _ ?_ ?_) <;> conv => whnf | (refine caseB_intro (fun h => ?_) (fun h => ?_) <;> (try simp only [Bool.not_eq_true', Bool.not_eq_false', decide_eq_true_eq, decide_eq_false_iff_not] at h) <;> conv => whnf))
    all_goals first
      | exact ⟨i + 1, ⟨by simp [slots, leT, hw], ⟨_, rfl⟩, Nat.zero_le _, rfl, rfl⟩, ⟨by omega, fun j hj => (Nat.lt_succ_iff_lt_or_eq.1 hj).elim (hp j) (fun e => by subst e; first | assumption | (simp [plainB, *]; done)), rfl⟩, by omega⟩
      | (refine ⟨_, PH.Le.refl _, ?_, rfl⟩; rw [allB_false hi' (p := plainB) (by first | assumption | (simp [plainB, *]; done))]; simp [resV]; done)
  · have hi' : i = b.size := by have : ¬ (i : Int) < b.size := h0; omega
    subst hi'
    conv => whnf
    refine ⟨_, PH.Le.refl _, ?_, rfl⟩
    rw [allB_true (p := plainB) hp]
    simp [resV]

theorem plain_impl (b : ByteArray) (M : PH) (hb : b.size ≤ maxLen) : Ret 120 [Tx b] M (B (allB plainB b)) := by
  refine xcall_of_vc Tryz.func120 rfl _ Tryz.ntmps120 _ rfl (fun _ _ => Tryz.call120 _ _) rfl (fun w0 ρ0 => ?_)
  conv => whnf
  refine XCall.go0 (areBytes_ret _ plainB b 0 b.size _ hb (fun c _ _ => isPlain_ret c _)) rfl ?_
  conv => whnf
  exact ⟨_, PH.Le.refl _, by simp [resV], rfl⟩
def hostB (c : Int) : Bool := letterB c || (digitB c || (decide (c = 46) || decide (c = 45)))
def hostT (b : ByteArray) : Bool := decide (1 ≤ (b.size : Int)) && (decide ((b.size : Int) ≤ 60) && allB hostB b)
theorem l5Host_ret (b : ByteArray) (M : PH) (hb : b.size ≤ maxLen) : Ret 109 [Tx b] M (B (hostT b)) := by
  have e63 : maxLen = 9223372036854775807 := rfl
  unfold hostT
  refine xcall_of_vc Tryz.func109 rfl _ Tryz.ntmps109 _ rfl (fun _ _ => Tryz.call109 _ _) rfl (fun w0 ρ0 => ?_)
  conv => whnf
  repeat' (first | (refine ⟨⟨[], rfl⟩, _, PH.Le.refl _, PH.Le.refl _, ?_⟩; conv => whnf) | (refine caseB_true ?_; conv => whnf) | (refine caseB_false ?_; conv => whnf) | ((with_reducible refine caseB_dec (fun h => ?_) (fun h => ?_)) <;> conv => whnf) | ((with_reducible refine caseB_ndec (fun h => ?_) (fun h => ?_)) <;> conv => whnf) | ((with_reducible refine caseB_not (fun h => ?_) (fun h => ?_)) <;> conv => whnf) | (with_reducible refine @And.intro (guardVC _ _ _ _ _) _ ?_ ?_) <;> conv => whnf | (refine caseB_intro (fun h => ?_) (fun h => ?_) <;> (try simp only [Bool.not_eq_true', Bool.not_eq_false', decide_eq_true_eq, decide_eq_false_iff_not] at h) <;> conv => whnf))
  · exact ⟨_, PH.Le.refl _, by simp [resV, hostT]; omega, rfl⟩
  · exact ⟨_, PH.Le.refl _, by simp [resV, hostT]; omega, rfl⟩
  refine loop_rule (fun i : Nat => ⟨slots 42 [(0, .v (Tx b)), (3, .v (I i))], []⟩) (fun i M' => i ≤ b.size ∧ (∀ j : Nat, j < i → hostB (bt b j) = true) ∧ M' = M) (fun i => b.size - i) 0 ?_ ?_ ?_
  · exact ⟨by simp [slots, leT], ⟨[], rfl⟩, Nat.zero_le _, rfl, rfl⟩
  · exact ⟨Nat.zero_le _, fun j hj => absurd hj (Nat.not_lt_zero _), rfl⟩
  rintro i M' ⟨hi, hp, rfl⟩
  conv => whnf
  refine caseB_dec (fun h0 => ?_) (fun h0 => ?_)
  · have h0 : (i : Int) < b.size := h0
    have hi' : i < b.size := by omega
    have hw : IntKind.i64.wrap ((i : Int) + 1) = (i : Int) + 1 := wr_id (by omega) (by omega)
    have hbt := bt_in b i
    conv => whnf
    repeat' (first | (refine ⟨⟨[], rfl⟩, _, PH.Le.refl _, PH.Le.refl _, ?_⟩; conv => whnf) | (refine ⟨by omega, by omega, ?_⟩; conv => whnf) | (refine caseB_true ?_; conv => whnf) | (refine caseB_false ?_; conv => whnf) | ((with_reducible refine caseB_dec (fun h => ?_) (fun h => ?_)) <;> conv => whnf) | ((with_reducible refine caseB_ndec (fun h => ?_) (fun h => ?_)) <;> conv => whnf) | ((with_reducible refine caseB_not (fun h => ?_) (fun h => ?_)) <;> conv => whnf) | (refine Ret.go (l1Letter_ret _ _) ?_; conv => whnf) | (refine Ret.go (l1Digit_ret _ _) ?_; conv => whnf) | (with_reducible refine @And.intro (guardVC _ _ _ _ _) _ ?_ ?_) <;> conv => whnf | (refine caseB_intro (fun h => ?_) (fun h => ?_) <;> (try simp only [Bool.not_eq_true', Bool.not_eq_false', decide_eq_true_eq, decide_eq_false_iff_not] at h) <;> conv => whnf))
    all_goals first
      | exact ⟨i + 1, ⟨by simp [slots, leT, hw], ⟨_, rfl⟩, Nat.zero_le _, rfl, rfl⟩, ⟨by omega, fun j hj => (Nat.lt_succ_iff_lt_or_eq.1 hj).elim (hp j) (fun e => by subst e; first | assumption | (simp [hostB, *]; done)), rfl⟩, by omega⟩
      | (refine ⟨_, PH.Le.refl _, ?_, rfl⟩; rw [allB_false hi' (p := hostB) (by first | assumption | (simp [hostB, *]; done))]; simp [resV]; done)
  · have hi' : i = b.size := by have : ¬ (i : Int) < b.size := h0; omega
    subst hi'
    conv => whnf
    refine ⟨_, PH.Le.refl _, ?_, rfl⟩
    rw [allB_true (p := hostB) hp]
    (simp [resV, hostT]; omega)

def pathS : List UInt8 := [47, 63, 61, 38, 58, 64, 44, 59, 40, 41]
def pathB (c : Int) : Bool := wordB c || setB pathS c
theorem pathS_eq {c : Int} (h0 : 0 ≤ c) (h1 : c ≤ 255) : setB pathS c = (decide (c = 47) || (decide (c = 63) || (decide (c = 61) || (decide (c = 38) || (decide (c = 58) || (decide (c = 64) || (decide (c = 44) || (decide (c = 59) || (decide (c = 40) || (decide (c = 41) || false)))))))))) := by
  unfold pathS
  simp only [setB_cons _ _ h0 h1, setB_nil]
  rfl
theorem l5PathByte_ret (c : Int) (M : PH) (h0 : 0 ≤ c) (h1 : c ≤ 255) : Ret 146 [Y c] M (B (pathB c)) := by
  unfold pathB
  rw [pathS_eq h0 h1]
  refine xcall_of_vc Tryz.func146 rfl _ Tryz.ntmps146 _ rfl (fun _ _ => Tryz.call146 _ _) rfl (fun w0 ρ0 => ?_)
  conv => whnf
  repeat' (first | (refine ⟨⟨[], rfl⟩, _, PH.Le.refl _, PH.Le.refl _, ?_⟩; conv => whnf) | (refine caseB_true ?_; conv => whnf) | (refine caseB_false ?_; conv => whnf) | ((with_reducible refine caseB_dec (fun h => ?_) (fun h => ?_)) <;> conv => whnf) | ((with_reducible refine caseB_ndec (fun h => ?_) (fun h => ?_)) <;> conv => whnf) | ((with_reducible refine caseB_not (fun h => ?_) (fun h => ?_)) <;> conv => whnf) | (refine Ret.go (l1WordByte_ret _ _ h0 h1) ?_; conv => whnf) | (with_reducible refine @And.intro (guardVC _ _ _ _ _) _ ?_ ?_) <;> conv => whnf | (refine caseB_intro (fun h => ?_) (fun h => ?_) <;> (try simp only [Bool.not_eq_true', Bool.not_eq_false', decide_eq_true_eq, decide_eq_false_iff_not] at h) <;> conv => whnf))
  all_goals first | (exfalso; omega) | refine ⟨_, PH.Le.refl _, ?_, rfl⟩
  all_goals first | (have e := ‹c = _›; subst e; simp [resV]; done) | (simp [resV, *]; done)
def pathT (b : ByteArray) : Bool := decide (1 ≤ (b.size : Int)) && (decide ((b.size : Int) ≤ 100) && (decide (bt b 0 = 47) && allB pathB b))
theorem l5Path_ret (b : ByteArray) (M : PH) (hb : b.size ≤ maxLen) : Ret 110 [Tx b] M (B (pathT b)) := by
  have e63 : maxLen = 9223372036854775807 := rfl
  unfold pathT
  refine xcall_of_vc Tryz.func110 rfl _ Tryz.ntmps110 _ rfl (fun _ _ => Tryz.call110 _ _) rfl (fun w0 ρ0 => ?_)
  conv => whnf
  repeat' (first | (refine ⟨⟨[], rfl⟩, _, PH.Le.refl _, PH.Le.refl _, ?_⟩; conv => whnf) | (refine ⟨by omega, by omega, ?_⟩; conv => whnf) | (refine caseB_true ?_; conv => whnf) | (refine caseB_false ?_; conv => whnf) | ((with_reducible refine caseB_dec (fun h => ?_) (fun h => ?_)) <;> conv => whnf) | ((with_reducible refine caseB_ndec (fun h => ?_) (fun h => ?_)) <;> conv => whnf) | ((with_reducible refine caseB_not (fun h => ?_) (fun h => ?_)) <;> conv => whnf) | (with_reducible refine @And.intro (guardVC _ _ _ _ _) _ ?_ ?_) <;> conv => whnf | (refine caseB_intro (fun h => ?_) (fun h => ?_) <;> (try simp only [Bool.not_eq_true', Bool.not_eq_false', decide_eq_true_eq, decide_eq_false_iff_not] at h) <;> conv => whnf))
  · exact ⟨_, PH.Le.refl _, by simp [resV, pathT]; omega, rfl⟩
  · exact ⟨_, PH.Le.refl _, by simp [resV, pathT]; omega, rfl⟩
  · exact ⟨_, PH.Le.refl _, by simp [resV, pathT, *], rfl⟩
  refine loop_rule (fun i : Nat => ⟨slots 28 [(0, .v (Tx b)), (3, .v (I i))], []⟩) (fun i M' => i ≤ b.size ∧ (∀ j : Nat, j < i → pathB (bt b j) = true) ∧ M' = M) (fun i => b.size - i) 0 ?_ ?_ ?_
  · exact ⟨by simp [slots, leT], ⟨[], rfl⟩, Nat.zero_le _, rfl, rfl⟩
  · exact ⟨Nat.zero_le _, fun j hj => absurd hj (Nat.not_lt_zero _), rfl⟩
  rintro i M' ⟨hi, hp, rfl⟩
  conv => whnf
  refine caseB_dec (fun h0 => ?_) (fun h0 => ?_)
  · have h0 : (i : Int) < b.size := h0
    have hi' : i < b.size := by omega
    have hw : IntKind.i64.wrap ((i : Int) + 1) = (i : Int) + 1 := wr_id (by omega) (by omega)
    have hbt := bt_in b i
    conv => whnf
    repeat' (first | (refine ⟨⟨[], rfl⟩, _, PH.Le.refl _, PH.Le.refl _, ?_⟩; conv => whnf) | (refine ⟨by omega, by omega, ?_⟩; conv => whnf) | (refine caseB_true ?_; conv => whnf) | (refine caseB_false ?_; conv => whnf) | ((with_reducible refine caseB_dec (fun h => ?_) (fun h => ?_)) <;> conv => whnf) | ((with_reducible refine caseB_ndec (fun h => ?_) (fun h => ?_)) <;> conv => whnf) | ((with_reducible refine caseB_not (fun h => ?_) (fun h => ?_)) <;> conv => whnf) | (refine Ret.go (l5PathByte_ret _ _ hbt.1 hbt.2) ?_; conv => whnf) | (with_reducible refine @And.intro (guardVC _ _ _ _ _) _ ?_ ?_) <;> conv => whnf | (refine caseB_intro (fun h => ?_) (fun h => ?_) <;> (try simp only [Bool.not_eq_true', Bool.not_eq_false', decide_eq_true_eq, decide_eq_false_iff_not] at h) <;> conv => whnf))
    all_goals first
      | exact ⟨i + 1, ⟨by simp [slots, leT, hw], ⟨_, rfl⟩, Nat.zero_le _, rfl, rfl⟩, ⟨by omega, fun j hj => (Nat.lt_succ_iff_lt_or_eq.1 hj).elim (hp j) (fun e => by subst e; first | assumption | (simp [pathB, *]; done)), rfl⟩, by omega⟩
      | (refine ⟨_, PH.Le.refl _, ?_, rfl⟩; rw [allB_false hi' (p := pathB) (by first | assumption | (simp [pathB, *]; done))]; simp [resV]; done)
  · have hi' : i = b.size := by have : ¬ (i : Int) < b.size := h0; omega
    subst hi'
    conv => whnf
    refine ⟨_, PH.Le.refl _, ?_, rfl⟩
    rw [allB_true (p := pathB) hp]
    (simp [resV, pathT, *]; omega)

def byI (b : ByteArray) : List Int := b.data.toList.map fun x => (x.toNat : Int)
theorem byI_length (b : ByteArray) : (byI b).length = b.size := by rw [byI, List.length_map, size_list]
def lowI (c : Int) : Int := if 65 ≤ c ∧ c ≤ 90 then c + 32 else c
def lowerB (b : ByteArray) : ByteArray := strOfNums ((byI b).map lowI)
/-- The first i bytes are small, the others as they were; behind them the room. -/
def lowC (b : ByteArray) (i z : Nat) : List Value := (((byI b).take i).map lowI ++ (byI b).drop i).map Y ++ List.replicate z (Y 0)
theorem lowC_zero (b : ByteArray) (z : Nat) : lowC b 0 z = b.data.toList.map (fun (x : UInt8) => Value.int .u8 (x.toNat : Int)) ++ List.replicate z (Y 0) := by
  simp [lowC, byI]
theorem lowC_length (b : ByteArray) (i z : Nat) (h : i ≤ b.size) : (lowC b i z).length = b.size + z := by
  have := byI_length b
  simp [lowC]; omega
theorem byI_get {b : ByteArray} {i : Nat} (h : i < b.size) : (byI b)[i]? = some (bt b i) := by
  rw [size_list] at h
  rw [byI, List.getElem?_map, List.getElem?_eq_getElem h, bt_get h]
  rfl
theorem lowC_get (b : ByteArray) (i z : Nat) (h : i < b.size) : (lowC b i z)[i]? = some (Y (bt b i)) := by
  have hl := byI_length b
  unfold lowC
  rw [List.getElem?_append_left (by simp; omega), List.getElem?_map, List.getElem?_append_right (by simp; omega), List.getElem?_drop]
  simp only [List.length_map, List.length_take]
  rw [show i + (i - min i (byI b).length) = i by omega, byI_get h]
  rfl
theorem lowC_next {b : ByteArray} {i : Nat} (h : i < b.size) : ((byI b).take (i + 1)).map lowI ++ (byI b).drop (i + 1) = (((byI b).take i).map lowI ++ (byI b).drop i).set i (lowI (bt b i)) := by
  have hl := byI_length b
  have hi : i < (byI b).length := by omega
  have he : (byI b)[i] = bt b i := by
    have := byI_get h
    rw [List.getElem?_eq_getElem hi] at this
    simpa using this
  rw [List.take_succ_eq_append_getElem hi, List.map_append, he, List.set_append_right _ _ (by simp; omega)]
  rw [List.drop_eq_getElem_cons hi]
  simp only [List.length_map, List.length_take]
  rw [show i - min i (byI b).length = 0 by omega, List.set_cons_zero]
  simp
theorem lowC_same {b : ByteArray} {i z : Nat} (h : i < b.size) (e : lowI (bt b i) = bt b i) : lowC b i z = lowC b (i + 1) z := by
  unfold lowC
  rw [lowC_next h, e]
  congr 2
  refine (List.ext_getElem? fun j => ?_)
  rw [List.getElem?_set]
  split
  · rename_i hj
    subst hj
    have hl := byI_length b
    rw [List.getElem?_append_right (by simp; omega), List.getElem?_drop]
    simp only [List.length_map, List.length_take]
    rw [show i + (i - min i (byI b).length) = i by omega, byI_get h]
    rw [if_pos (by simp; omega)]
  · rfl
theorem lowC_step {b : ByteArray} {i z : Nat} (h : i < b.size) {v : Int} (e : v = lowI (bt b i)) : spl (lowC b i z) (0 + i * 1) [Y v] = lowC b (i + 1) z := by
  have hl := byI_length b
  rw [Nat.zero_add, Nat.mul_one, e]
  unfold lowC
  rw [lowC_next h]
  generalize hxs : ((byI b).take i).map lowI ++ (byI b).drop i = xs
  have hx : xs.length = b.size := by rw [← hxs]; simp; omega
  unfold spl
  rw [List.set_eq_take_append_cons_drop, if_pos (by omega)]
  rw [List.take_append_of_le_length (by simp; omega), List.drop_append_of_le_length (by simp; omega)]
  simp [List.map_take, List.map_drop]
theorem low_sum {c : Int} (h0 : 65 ≤ c) (h1 : c ≤ 90) : IntKind.u8.wrap (IntKind.u8.wrap (c + 97) - 65) = lowI c := by
  unfold lowI
  rw [if_pos ⟨h0, h1⟩]
  simp only [IntKind.wrap, IntKind.bits, IntKind.signed, Bool.false_and, Bool.false_eq_true, if_false]
  omega
theorem low_sum' {c : Int} (h0 : 65 ≤ c) (h1 : c ≤ 90) : IntKind.u8.wrap (c + 32) = lowI c := by
  unfold lowI
  rw [if_pos ⟨h0, h1⟩]
  simp only [IntKind.wrap, IntKind.bits, IntKind.signed, Bool.false_and, Bool.false_eq_true, if_false]
  omega
theorem cells1 {M : PH} {g : Nat} {c : List Value} {ty : TypeId} {fz : Nat × Nat} (h : M g = some (.cells c.toArray ty fz)) {o : Nat} {x : Value} (hx : c[o]? = some x) : M.cells (some ⟨g, 0, none⟩) o [x] := by
  refine ⟨_, rfl, fun j y hy => ?_⟩
  match j, hy with
  | 0, hy =>
    simp at hy; subst hy
    rw [add_at]
    simp [PH.cell, h, hx]
theorem lowC_all {M : PH} {g z : Nat} {ty : TypeId} {fz : Nat × Nat} (b : ByteArray) (h : M g = some (.cells (lowC b b.size z).toArray ty fz)) : M.cells (some ⟨g, 0, none⟩) 0 (((byI b).map lowI).map Y) := by
  have hl := byI_length b
  refine ⟨_, rfl, fun j y hy => ?_⟩
  rw [add_at]
  simp only [PH.cell, h, Option.isSome_none, Bool.false_eq_true, if_false, List.getElem?_toArray]
  have hj := (List.getElem?_eq_some_iff.1 hy).1
  unfold lowC
  rw [List.drop_of_length_le (by omega), List.take_of_length_le (by omega), List.append_nil, Nat.zero_add, Nat.zero_add, List.getElem?_append_left hj]
  exact hy
theorem lower_ret (b : ByteArray) (M : PH) (hb : b.size ≤ maxLen) : Ret 103 [Tx b] M (Tx (lowerB b)) := by
  have e63 : maxLen = 9223372036854775807 := rfl
  refine Ret.of ?_
  refine xcall_of_vc Tryz.func103 rfl _ Tryz.ntmps103 _ rfl (fun _ _ => Tryz.call103 _ _) rfl (fun w0 ρ0 => ?_)
  conv => whnf
  intro g c hg hc
  conv => whnf
  have hl : (byI b).length = b.size := byI_length b
  refine loop_rule (fun i : Nat => ⟨slots 30 [(0, .v (Tx b)), (3, .v (.slice (some ⟨g, 0, none⟩) b.size c)), (8, .v (.slice (some ⟨g, 0, none⟩) b.size c)), (9, .v (I b.size)), (10, .v (I i))], []⟩) (fun i M' => i ≤ b.size ∧ M' = M.set g (.cells (lowC b i (c - b.size)).toArray 5 (c, c + 1))) (fun i => b.size - i) 0 ?_ ?_ ?_
  · exact ⟨by simp [slots, leT], ⟨[], rfl⟩, Nat.zero_le _, rfl, rfl⟩
  · refine ⟨Nat.zero_le _, ?_⟩
    rw [lowC_zero]
  rintro i M' ⟨hi, rfl⟩
  conv => whnf
  refine caseB_dec (fun h0 => ?_) (fun h0 => ?_)
  · have h0 : (i : Int) < b.size := h0
    have hi' : i < b.size := by omega
    have hw : IntKind.i64.wrap ((i : Int) + 1) = (i : Int) + 1 := wr_id (by omega) (by omega)
    have hx := lowC_get b i (c - b.size) hi'
    have hc1 := cells1 (g := g) (ty := 5) (fz := (c, c + 1)) (PH.set_same M g _) hx
    have hc2 : PH.cells (M.set g (.cells (lowC b i (c - b.size)).toArray 5 (c, c + 1))) (some ⟨g, 0, none⟩) (i * 1) [Y (bt b i)] := by rw [Nat.mul_one]; exact hc1
    have hlen := lowC_length b i (c - b.size) (by omega)
    conv => whnf
    repeat' (first | (refine ⟨⟨[], rfl⟩, _, PH.Le.refl _, PH.Le.refl _, ?_⟩; conv => whnf) | (refine ⟨g, 0, lowC b i (c - b.size), 5, (c, c + 1), rfl, PH.set_same _ _ _, ⟨by show 0 + i * 1 + 1 ≤ _; omega, .inr (by show 0 + i * 1 + 1 ≤ c; omega)⟩, ?_⟩; conv => whnf) | (refine ⟨_, hc2, ?_⟩; conv => whnf) | (refine ⟨by omega, by omega, rfl, ?_⟩; conv => whnf) | (refine caseB_true ?_; conv => whnf) | (refine caseB_false ?_; conv => whnf) | ((with_reducible refine caseB_dec (fun h => ?_) (fun h => ?_)) <;> conv => whnf) | ((with_reducible refine caseB_ndec (fun h => ?_) (fun h => ?_)) <;> conv => whnf) | ((with_reducible refine caseB_not (fun h => ?_) (fun h => ?_)) <;> conv => whnf) | (with_reducible refine @And.intro (guardVC _ _ _ _ _) _ ?_ ?_) <;> conv => whnf | (refine caseB_intro (fun h => ?_) (fun h => ?_) <;> (try simp only [Bool.not_eq_true', Bool.not_eq_false', decide_eq_true_eq, decide_eq_false_iff_not] at h) <;> conv => whnf))
    · refine ⟨i + 1, ⟨by simp [slots, leT, hw], ⟨[], rfl⟩, Nat.zero_le _, rfl, rfl⟩, ⟨by omega, ?_⟩, by omega⟩
      rw [set_set]
      refine congrArg (fun x : List Value => M.set g (.cells x.toArray 5 (c, c + 1))) ?_
      exact lowC_step hi' (by first | exact low_sum ‹_› ‹_› | exact low_sum' ‹_› ‹_›)
    all_goals refine ⟨i + 1, ⟨by simp [slots, leT, hw], ⟨[], rfl⟩, Nat.zero_le _, rfl, rfl⟩, ⟨by omega, ?_⟩, by omega⟩
    all_goals exact congrArg (fun x : List Value => M.set g (.cells x.toArray 5 (c, c + 1))) (lowC_same hi' (by unfold lowI; rw [if_neg (by omega)]))
  · have hi' : i = b.size := by have : ¬ (i : Int) < b.size := h0; omega
    subst hi'
    conv => whnf
    refine ⟨(byI b).map lowI, ⟨by rw [List.length_map, hl], .inr ?_⟩, ?_⟩
    · exact lowC_all b (PH.set_same _ _ _)
    conv => whnf
    exact ⟨_, PH.Le.refl _, rfl, PH.Le.set _ hg⟩

theorem l1Lower_ret (b : ByteArray) (M : PH) (hb : b.size ≤ maxLen) : Ret 112 [Tx b] M (Tx (lowerB b)) := by
  have e63 : maxLen = 9223372036854775807 := rfl
  refine Ret.of ?_
  refine xcall_of_vc Tryz.func112 rfl _ Tryz.ntmps112 _ rfl (fun _ _ => Tryz.call112 _ _) rfl (fun w0 ρ0 => ?_)
  conv => whnf
  intro g c hg hc
  conv => whnf
  have hl : (byI b).length = b.size := byI_length b
  refine loop_rule (fun i : Nat => ⟨slots 35 [(0, .v (Tx b)), (3, .v (.slice (some ⟨g, 0, none⟩) b.size c)), (4, .v (I i))], []⟩) (fun i M' => i ≤ b.size ∧ M' = M.set g (.cells (lowC b i (c - b.size)).toArray 5 (c, c + 1))) (fun i => b.size - i) 0 ?_ ?_ ?_
  · exact ⟨by simp [slots, leT], ⟨[], rfl⟩, Nat.zero_le _, rfl, rfl⟩
  · refine ⟨Nat.zero_le _, ?_⟩
    rw [lowC_zero]
  rintro i M' ⟨hi, rfl⟩
  conv => whnf
  refine caseB_dec (fun h0 => ?_) (fun h0 => ?_)
  · have h0 : (i : Int) < b.size := h0
    have hi' : i < b.size := by omega
    have hw : IntKind.i64.wrap ((i : Int) + 1) = (i : Int) + 1 := wr_id (by omega) (by omega)
    have hx := lowC_get b i (c - b.size) hi'
    have hc1 := cells1 (g := g) (ty := 5) (fz := (c, c + 1)) (PH.set_same M g _) hx
    have hc2 : PH.cells (M.set g (.cells (lowC b i (c - b.size)).toArray 5 (c, c + 1))) (some ⟨g, 0, none⟩) (i * 1) [Y (bt b i)] := by rw [Nat.mul_one]; exact hc1
    have hlen := lowC_length b i (c - b.size) (by omega)
    conv => whnf
    repeat' (first | (refine ⟨⟨[], rfl⟩, _, PH.Le.refl _, PH.Le.refl _, ?_⟩; conv => whnf) | (refine ⟨g, 0, lowC b i (c - b.size), 5, (c, c + 1), rfl, PH.set_same _ _ _, ⟨by show 0 + i * 1 + 1 ≤ _; omega, .inr (by show 0 + i * 1 + 1 ≤ c; omega)⟩, ?_⟩; conv => whnf) | (refine ⟨_, hc2, ?_⟩; conv => whnf) | (refine ⟨by omega, by omega, rfl, ?_⟩; conv => whnf) | (refine caseB_true ?_; conv => whnf) | (refine caseB_false ?_; conv => whnf) | ((with_reducible refine caseB_dec (fun h => ?_) (fun h => ?_)) <;> conv => whnf) | ((with_reducible refine caseB_ndec (fun h => ?_) (fun h => ?_)) <;> conv => whnf) | ((with_reducible refine caseB_not (fun h => ?_) (fun h => ?_)) <;> conv => whnf) | (with_reducible refine @And.intro (guardVC _ _ _ _ _) _ ?_ ?_) <;> conv => whnf | (refine caseB_intro (fun h => ?_) (fun h => ?_) <;> (try simp only [Bool.not_eq_true', Bool.not_eq_false', decide_eq_true_eq, decide_eq_false_iff_not] at h) <;> conv => whnf))
    · refine ⟨i + 1, ⟨by simp [slots, leT, hw], ⟨[], rfl⟩, Nat.zero_le _, rfl, rfl⟩, ⟨by omega, ?_⟩, by omega⟩
      rw [set_set]
      refine congrArg (fun x : List Value => M.set g (.cells x.toArray 5 (c, c + 1))) ?_
      exact lowC_step hi' (by first | exact low_sum ‹_› ‹_› | exact low_sum' ‹_› ‹_›)
    all_goals refine ⟨i + 1, ⟨by simp [slots, leT, hw], ⟨[], rfl⟩, Nat.zero_le _, rfl, rfl⟩, ⟨by omega, ?_⟩, by omega⟩
    all_goals exact congrArg (fun x : List Value => M.set g (.cells x.toArray 5 (c, c + 1))) (lowC_same hi' (by unfold lowI; rw [if_neg (by omega)]))
  · have hi' : i = b.size := by have : ¬ (i : Int) < b.size := h0; omega
    subst hi'
    conv => whnf
    refine ⟨(byI b).map lowI, ⟨by rw [List.length_map, hl], .inr ?_⟩, ?_⟩
    · exact lowC_all b (PH.set_same _ _ _)
    conv => whnf
    exact ⟨_, PH.Le.refl _, rfl, PH.Le.set _ hg⟩

def alikeT (a b : ByteArray) : Bool := seq (lowerB a) (lowerB b)
theorem alike_ret (a b : ByteArray) (M : PH) (ha : a.size ≤ maxLen) (hb : b.size ≤ maxLen) : Ret 63 [Tx a, Tx b] M (B (alikeT a b)) := by
  refine xcall_of_vc Tryz.func63 rfl _ Tryz.ntmps63 _ rfl (fun _ _ => Tryz.call63 _ _) rfl (fun w0 ρ0 => ?_)
  conv => whnf
  repeat' (first | (refine ⟨⟨[], rfl⟩, _, PH.Le.refl _, PH.Le.refl _, ?_⟩; conv => whnf) | (refine caseB_true ?_; conv => whnf) | (refine caseB_false ?_; conv => whnf) | ((with_reducible refine caseB_dec (fun h => ?_) (fun h => ?_)) <;> conv => whnf) | ((with_reducible refine caseB_ndec (fun h => ?_) (fun h => ?_)) <;> conv => whnf) | ((with_reducible refine caseB_not (fun h => ?_) (fun h => ?_)) <;> conv => whnf) | (refine Ret.go (lower_ret _ _ ha) ?_; conv => whnf) | (refine Ret.go (lower_ret _ _ hb) ?_; conv => whnf) | (with_reducible refine @And.intro (guardVC _ _ _ _ _) _ ?_ ?_) <;> conv => whnf | (refine caseB_intro (fun h => ?_) (fun h => ?_) <;> (try simp only [Bool.not_eq_true', Bool.not_eq_false', decide_eq_true_eq, decide_eq_false_iff_not] at h) <;> conv => whnf))
  all_goals first | (refine ⟨M, PH.Le.refl _, ?_, rfl⟩; simp [resV, alikeT, *]; done) | (refine ⟨M, PH.Le.refl _, ?_, rfl, rfl⟩; simp [resV, alikeT, *]; done) | (exfalso; simp_all; done)
theorem l4Alike_ret (a b : ByteArray) (M : PH) (ha : a.size ≤ maxLen) (hb : b.size ≤ maxLen) : Ret 105 [Tx a, Tx b] M (B (alikeT a b)) := by
  refine xcall_of_vc Tryz.func105 rfl _ Tryz.ntmps105 _ rfl (fun _ _ => Tryz.call105 _ _) rfl (fun w0 ρ0 => ?_)
  conv => whnf
  repeat' (first | (refine ⟨⟨[], rfl⟩, _, PH.Le.refl _, PH.Le.refl _, ?_⟩; conv => whnf) | (refine caseB_true ?_; conv => whnf) | (refine caseB_false ?_; conv => whnf) | ((with_reducible refine caseB_dec (fun h => ?_) (fun h => ?_)) <;> conv => whnf) | ((with_reducible refine caseB_ndec (fun h => ?_) (fun h => ?_)) <;> conv => whnf) | ((with_reducible refine caseB_not (fun h => ?_) (fun h => ?_)) <;> conv => whnf) | (refine Ret.go (l1Lower_ret _ _ ha) ?_; conv => whnf) | (refine Ret.go (l1Lower_ret _ _ hb) ?_; conv => whnf) | (with_reducible refine @And.intro (guardVC _ _ _ _ _) _ ?_ ?_) <;> conv => whnf | (refine caseB_intro (fun h => ?_) (fun h => ?_) <;> (try simp only [Bool.not_eq_true', Bool.not_eq_false', decide_eq_true_eq, decide_eq_false_iff_not] at h) <;> conv => whnf))
  all_goals first | (refine ⟨M, PH.Le.refl _, ?_, rfl⟩; simp [resV, alikeT, *]; done) | (refine ⟨M, PH.Le.refl _, ?_, rfl, rfl⟩; simp [resV, alikeT, *]; done) | (exfalso; simp_all; done)
/-! ### Blanks at both ends -/
def blankB (c : Int) : Bool := decide (c = 32) || decide (c = 9)
theorem l1Blank_ret (c : Int) (M : PH) : Ret 149 [Y c] M (B (blankB c)) := by
  refine xcall_of_vc Tryz.func149 rfl _ Tryz.ntmps149 _ rfl (fun _ _ => Tryz.call149 _ _) rfl (fun w0 ρ0 => ?_)
  conv => whnf
  repeat' (first | (refine ⟨⟨[], rfl⟩, _, PH.Le.refl _, PH.Le.refl _, ?_⟩; conv => whnf) | (refine caseB_true ?_; conv => whnf) | (refine caseB_false ?_; conv => whnf) | ((with_reducible refine caseB_dec (fun h => ?_) (fun h => ?_)) <;> conv => whnf) | ((with_reducible refine caseB_ndec (fun h => ?_) (fun h => ?_)) <;> conv => whnf) | ((with_reducible refine caseB_not (fun h => ?_) (fun h => ?_)) <;> conv => whnf) | (with_reducible refine @And.intro (guardVC _ _ _ _ _) _ ?_ ?_) <;> conv => whnf | (refine caseB_intro (fun h => ?_) (fun h => ?_) <;> (try simp only [Bool.not_eq_true', Bool.not_eq_false', decide_eq_true_eq, decide_eq_false_iff_not] at h) <;> conv => whnf))
  all_goals refine ⟨_, PH.Le.refl _, ?_, rfl⟩
  all_goals simp [resV, blankB, *]
theorem blank_iff {b : ByteArray} {j : Nat} {x : UInt8} (h : b.data.toList[j]? = some x) : ([32, 9] : List UInt8).contains x = blankB (bt b j) := by
  obtain ⟨hj, e⟩ := List.getElem?_eq_some_iff.1 h
  rw [bt_get hj, e]
  have hx := UInt8.toNat_lt x
  unfold blankB
  rw [Bool.eq_iff_iff]
  simp only [List.contains_cons, List.contains_nil, Bool.or_false, Bool.or_eq_true, beq_iff_eq, decide_eq_true_eq, ← UInt8.toNat_inj]
  show x.toNat = 32 ∨ x.toNat = 9 ↔ _
  omega
theorem extract_list (b : ByteArray) (l h : Nat) : (b.extract l h).data.toList = (b.data.toList.take h).drop l := by
  simp [List.drop_take]
theorem trim_of {b : ByteArray} {l h : Nat} (h0 : l ≤ h) (h1 : h ≤ b.size) (hl : ∀ j : Nat, j < l → blankB (bt b j) = true) (hr : ∀ j : Nat, h ≤ j → j < b.size → blankB (bt b j) = true)
    (el : l < h → blankB (bt b l) = false) (er : l < h → blankB (bt b (h - 1 : Nat)) = false) : b.extract l h = trimB b := by
  have hs := size_list b
  have hlt : ∀ {j : Nat} {x : UInt8}, b.data.toList[j]? = some x → j < b.size := fun hx => by rw [hs]; exact (List.getElem?_eq_some_iff.1 hx).1
  have key : Lib.trimS b.data.toList [32, 9] = (b.data.toList.take h).drop l := by
    unfold Lib.trimS
    by_cases hlh : l < h
    · rw [Lib.trimRightS_take _ _ h (by omega) (fun j x hj hx => by rw [blank_iff hx]; exact hr j hj (hlt hx)) (fun x hp hx => by rw [blank_iff hx]; exact er hlh)]
      refine Lib.trimLeftS_drop _ _ l (by simp; omega) (fun j x hj hx => ?_) (fun x hx => ?_)
      · rw [List.getElem?_take_of_lt (by omega)] at hx
        rw [blank_iff hx]; exact hl j hj
      · rw [List.getElem?_take_of_lt (by omega)] at hx
        rw [blank_iff hx]; exact el hlh
    · have : l = h := by omega
      subst this
      have ha : ∀ (j : Nat) x, b.data.toList[j]? = some x → ([32, 9] : List UInt8).contains x = true := fun j x hx => by
        rw [blank_iff hx]
        by_cases hj : j < l
        · exact hl j hj
        · exact hr j (by omega) (hlt hx)
      rw [Lib.trimRightS_take _ _ 0 (Nat.zero_le _) (fun j x _ hx => ha j x hx) (fun x hp hx => absurd hp (by omega))]
      rw [List.take_zero, Lib.trimLeftS_nil, List.drop_of_length_le (by simp; omega)]
  unfold trimB
  rw [key, ← extract_list]
theorem l1Trim_ret (b : ByteArray) (M : PH) (hb : b.size ≤ maxLen) : Ret 114 [Tx b] M (Tx (trimB b)) := by
  have e63 : maxLen = 9223372036854775807 := rfl
  refine xcall_of_vc Tryz.func114 rfl _ Tryz.ntmps114 _ rfl (fun _ _ => Tryz.call114 _ _) rfl (fun w0 ρ0 => ?_)
  conv => whnf
  refine loop_rule (fun i : Nat => ⟨slots 34 [(0, .v (Tx b)), (3, .v (I i)), (4, .v (I b.size))], []⟩) (fun i M' => i ≤ b.size ∧ (∀ j : Nat, j < i → blankB (bt b j) = true) ∧ M' = M) (fun i => b.size - i) 0 ?_ ?_ ?_
  · exact ⟨by simp [slots, leT], ⟨[], rfl⟩, Nat.zero_le _, rfl, rfl⟩
  · exact ⟨Nat.zero_le _, fun j hj => absurd hj (Nat.not_lt_zero _), rfl⟩
  rintro i M' ⟨hi, hp, rfl⟩
  have hw : i < b.size → IntKind.i64.wrap ((i : Int) + 1) = (i : Int) + 1 := fun h => wr_id (by omega) (by omega)
  conv => whnf
  repeat' (first | (refine ⟨⟨[], rfl⟩, _, PH.Le.refl _, PH.Le.refl _, ?_⟩; conv => whnf) | (refine ⟨by omega, by omega, ?_⟩; conv => whnf) | (refine caseB_true ?_; conv => whnf) | (refine caseB_false ?_; conv => whnf) | ((with_reducible refine caseB_dec (fun h => ?_) (fun h => ?_)) <;> conv => whnf) | ((with_reducible refine caseB_ndec (fun h => ?_) (fun h => ?_)) <;> conv => whnf) | ((with_reducible refine caseB_not (fun h => ?_) (fun h => ?_)) <;> conv => whnf) | (refine Ret.go (l1Blank_ret _ _) ?_; conv => whnf) | (with_reducible refine @And.intro (guardVC _ _ _ _ _) _ ?_ ?_) <;> conv => whnf | (refine caseB_intro (fun h => ?_) (fun h => ?_) <;> (try simp only [Bool.not_eq_true', Bool.not_eq_false', decide_eq_true_eq, decide_eq_false_iff_not] at h) <;> conv => whnf))
  · exact ⟨i + 1, ⟨by simp [slots, leT, hw (by omega)], ⟨_, rfl⟩, Nat.zero_le _, rfl, rfl⟩, ⟨by omega, fun j hj => (Nat.lt_succ_iff_lt_or_eq.1 hj).elim (hp j) (fun e => by subst e; exact h), rfl⟩, by omega⟩
  all_goals have hx : i < b.size → blankB (bt b i) = false := (by first | (intro _; assumption) | (intro _; omega))
  all_goals clear hw
  all_goals refine loop_rule (fun h : Nat => ⟨slots 34 [(0, .v (Tx b)), (3, .v (I i)), (4, .v (I h))], []⟩) (fun h M'' => i ≤ h ∧ h ≤ b.size ∧ (∀ j : Nat, h ≤ j → j < b.size → blankB (bt b j) = true) ∧ M'' = M') (fun h => h) b.size ?_ ?_ ?_
  all_goals first
    | exact ⟨by simp [slots, leT], ⟨[], rfl⟩, Nat.zero_le _, rfl, rfl⟩
    | exact ⟨hi, Nat.le_refl _, fun j hj hj2 => absurd hj2 (by omega), rfl⟩
    | skip
  all_goals rintro k M'' ⟨hk1, hk2, hq, rfl⟩
  all_goals have hw : i < k → IntKind.i64.wrap ((k : Int) - 1) = ((k - 1 : Nat) : Int) := (fun h => by rw [wrap_id (by omega) (by omega)]; omega)
  all_goals conv => whnf
  all_goals (repeat' (first | (refine ⟨⟨[], rfl⟩, _, PH.Le.refl _, PH.Le.refl _, ?_⟩; conv => whnf) | (refine ⟨⟨by omega, by omega, by omega⟩, ?_⟩; conv => whnf) | (refine ⟨by rw [hw (by omega)]; omega, by rw [hw (by omega)]; omega, ?_⟩; conv => whnf) | (refine caseB_true ?_; conv => whnf) | (refine caseB_false ?_; conv => whnf) | ((with_reducible refine caseB_dec (fun h => ?_) (fun h => ?_)) <;> conv => whnf) | ((with_reducible refine caseB_ndec (fun h => ?_) (fun h => ?_)) <;> conv => whnf) | ((with_reducible refine caseB_not (fun h => ?_) (fun h => ?_)) <;> conv => whnf) | (refine Ret.go (l1Blank_ret _ _) ?_; conv => whnf) | (with_reducible refine @And.intro (guardVC _ _ _ _ _) _ ?_ ?_) <;> conv => whnf | (refine caseB_intro (fun h => ?_) (fun h => ?_) <;> (try simp only [Bool.not_eq_true', Bool.not_eq_false', decide_eq_true_eq, decide_eq_false_iff_not] at h) <;> conv => whnf)))
  all_goals first
    | (have hw1 := hw (by omega); exact ⟨k - 1, ⟨by simp [slots, leT, hw1], ⟨_, rfl⟩, Nat.zero_le _, rfl, rfl⟩, ⟨by omega, by omega, fun j hj hj2 => if e : j = k - 1 then (by subst e; rw [← hw1]; assumption) else hq j (by omega) hj2, rfl⟩, by omega⟩)
    | (refine ⟨_, PH.Le.refl _, ?_, rfl⟩; exact congrArg Tx (trim_of (l := i) (h := k) hk1 hk2 hp hq (fun _ => hx (by omega)) (fun h => by first | (rw [← hw h]; assumption) | omega)))
def hdFault (x : Hd) : Int := if wordT x.n = false then 5 else if 200 < (x.v.size : Int) then 2 else if allB plainB x.v = false then 5 else if seq (trimB x.v) x.v = false then 5 else 0
theorem headerFault_impl (x : Hd) (M : PH) (ho : x.okl) : Ret 81 [x.val] M (I (hdFault x)) := by
  refine xcall_of_vc Tryz.func81 rfl _ Tryz.ntmps81 _ rfl (fun _ _ => Tryz.call81 _ _) rfl (fun w0 ρ0 => ?_)
  conv => whnf
  repeat' (first | (refine ⟨⟨[], rfl⟩, _, PH.Le.refl _, PH.Le.refl _, ?_⟩; conv => whnf) | (refine caseB_true ?_; conv => whnf) | (refine caseB_false ?_; conv => whnf) | ((with_reducible refine caseB_dec (fun h => ?_) (fun h => ?_)) <;> conv => whnf) | ((with_reducible refine caseB_ndec (fun h => ?_) (fun h => ?_)) <;> conv => whnf) | ((with_reducible refine caseB_not (fun h => ?_) (fun h => ?_)) <;> conv => whnf) | (refine Ret.go (isWord_impl _ _ ho.1) ?_; conv => whnf) | (refine Ret.go (plain_impl _ _ ho.2) ?_; conv => whnf) | (refine Ret.go (trim_ret _ _ ho.2) ?_; conv => whnf) | (refine draw_rule (.light 0 <| .light 1 <| .alt 2 false (.light 3 <| .light 4 <| .light 5 <| .light 6 <| .light 8 <| .light 9 <| .alt 7 false (.light 10 <| .light 11 <| .light 12 <| .done) .nil) .nil) (by decide +kernel) ?_; conv => whnf) | (with_reducible refine @And.intro (guardVC _ _ _ _ _) _ ?_ ?_) <;> conv => whnf | (refine caseB_intro (fun h => ?_) (fun h => ?_) <;> (try simp only [Bool.not_eq_true', Bool.not_eq_false', decide_eq_true_eq, decide_eq_false_iff_not] at h) <;> conv => whnf))
  all_goals first | (refine ⟨M, PH.Le.refl _, ?_, rfl⟩; simp [resV, hdFault, *]; done) | (refine ⟨M, PH.Le.refl _, ?_, rfl, rfl⟩; simp [resV, hdFault, *]; done) | (exfalso; simp_all; done)
theorem headerFault_spec (x : Hd) (M : PH) (ho : x.okl) : Ret 73 [x.val] M (I (hdFault x)) := by
  refine xcall_of_vc Tryz.func73 rfl _ Tryz.ntmps73 _ rfl (fun _ _ => Tryz.call73 _ _) rfl (fun w0 ρ0 => ?_)
  conv => whnf
  repeat' (first | (refine ⟨⟨[], rfl⟩, _, PH.Le.refl _, PH.Le.refl _, ?_⟩; conv => whnf) | (refine caseB_true ?_; conv => whnf) | (refine caseB_false ?_; conv => whnf) | ((with_reducible refine caseB_dec (fun h => ?_) (fun h => ?_)) <;> conv => whnf) | ((with_reducible refine caseB_ndec (fun h => ?_) (fun h => ?_)) <;> conv => whnf) | ((with_reducible refine caseB_not (fun h => ?_) (fun h => ?_)) <;> conv => whnf) | (refine Ret.go (isWord_spec _ _ ho.1) ?_; conv => whnf) | (refine Ret.go (plain_spec _ _ ho.2) ?_; conv => whnf) | (refine Ret.go (l1Trim_ret _ _ ho.2) ?_; conv => whnf) | (with_reducible refine @And.intro (guardVC _ _ _ _ _) _ ?_ ?_) <;> conv => whnf | (refine caseB_intro (fun h => ?_) (fun h => ?_) <;> (try simp only [Bool.not_eq_true', Bool.not_eq_false', decide_eq_true_eq, decide_eq_false_iff_not] at h) <;> conv => whnf))
  all_goals first | (refine ⟨M, PH.Le.refl _, ?_, rfl⟩; simp [resV, hdFault, *]; done) | (refine ⟨M, PH.Le.refl _, ?_, rfl, rfl⟩; simp [resV, hdFault, *]; done) | (exfalso; simp_all; done)
def hdsFault (ws : List Hd) : Int := if 20 < (ws.length : Int) then 2 else firstF hdFault ws
theorem headersFault_impl (A : Option Addr) (c : Nat) (ws : List Hd) (M : PH) (hs : Sl M A 2 Hd.cs ws) (hn : ws.length ≤ 1048576) (ho : ∀ x ∈ ws, x.okl) : Ret 34 [.slice A ws.length c] M (I (hdsFault ws)) := by
  refine xcall_of_vc Tryz.func34 rfl _ Tryz.ntmps34 _ rfl (fun _ _ => Tryz.call34 _ _) rfl (fun w0 ρ0 => ?_)
  conv => whnf
  repeat' (first | (refine ⟨⟨[], rfl⟩, _, PH.Le.refl _, PH.Le.refl _, ?_⟩; conv => whnf) | (refine caseB_true ?_; conv => whnf) | (refine caseB_false ?_; conv => whnf) | ((with_reducible refine caseB_dec (fun h => ?_) (fun h => ?_)) <;> conv => whnf) | ((with_reducible refine caseB_ndec (fun h => ?_) (fun h => ?_)) <;> conv => whnf) | ((with_reducible refine caseB_not (fun h => ?_) (fun h => ?_)) <;> conv => whnf) | (with_reducible refine @And.intro (guardVC _ _ _ _ _) _ ?_ ?_) <;> conv => whnf | (refine caseB_intro (fun h => ?_) (fun h => ?_) <;> (try simp only [Bool.not_eq_true', Bool.not_eq_false', decide_eq_true_eq, decide_eq_false_iff_not] at h) <;> conv => whnf))
  · exact ⟨_, PH.Le.refl _, by simp [resV, hdsFault, *], rfl⟩
  rw [hdsFault, if_neg (by assumption)]
  refine loop_rule (fun i : Nat => ⟨slots 21 [(0, .v (.slice A ws.length c)), (9, .v (.slice A ws.length c)), (10, .v (I ws.length)), (11, .v (I i))], []⟩) (fun i M' => i ≤ ws.length ∧ (∀ j, j < i → ∀ h : j < ws.length, hdFault ws[j] = 0) ∧ M' = M) (fun i => ws.length - i) 0 ?_ ?_ ?_
  · exact ⟨by simp [slots, leT], ⟨[], rfl⟩, (by first | exact Nat.zero_le _ | exact Nat.le_refl _), rfl, rfl⟩
  · exact ⟨Nat.zero_le _, fun j hj => absurd hj (Nat.not_lt_zero _), rfl⟩
  rintro i M' ⟨hi, hp, rfl⟩
  conv => whnf
  refine caseB_dec (fun h0 => ?_) (fun h0 => ?_)
  · have h0 : (i : Int) < ws.length := h0
    have hi' : i < ws.length := by omega
    have hw : IntKind.i64.wrap ((i : Int) + 1) = (i : Int) + 1 := wr_id (by omega) (by omega)
    obtain ⟨hA, _, hc⟩ := hs.get hi'
    have hx := ho ws[i] (List.getElem_mem hi')
    conv => whnf
    repeat' (first | (refine ⟨⟨[], rfl⟩, _, PH.Le.refl _, PH.Le.refl _, ?_⟩; conv => whnf) | (refine ⟨ws[i].cs, hc, rfl, ?_⟩; conv => whnf) | (refine ⟨by omega, by omega, hA, ?_⟩; conv => whnf) | (refine caseB_true ?_; conv => whnf) | (refine caseB_false ?_; conv => whnf) | ((with_reducible refine caseB_dec (fun h => ?_) (fun h => ?_)) <;> conv => whnf) | ((with_reducible refine caseB_ndec (fun h => ?_) (fun h => ?_)) <;> conv => whnf) | ((with_reducible refine caseB_not (fun h => ?_) (fun h => ?_)) <;> conv => whnf) | (refine Ret.go (headerFault_impl _ _ hx) ?_; conv => whnf) | (with_reducible refine @And.intro (guardVC _ _ _ _ _) _ ?_ ?_) <;> conv => whnf | (refine caseB_intro (fun h => ?_) (fun h => ?_) <;> (try simp only [Bool.not_eq_true', Bool.not_eq_false', decide_eq_true_eq, decide_eq_false_iff_not] at h) <;> conv => whnf))
    · rename_i h
      exact ⟨_, PH.Le.refl _, by rw [firstF_at hi' hp h]; rfl, rfl⟩
    · rename_i h
      exact ⟨i + 1, ⟨by simp [slots, leT, hw], ⟨_, rfl⟩, (by first | exact Nat.zero_le _ | exact Nat.le_refl _), rfl, rfl⟩, ⟨by omega, fun j hj hjl => (Nat.lt_succ_iff_lt_or_eq.1 hj).elim (fun h1 => hp j h1 hjl) (fun e => by subst e; exact h), rfl⟩, by omega⟩
  · have hi' : i = ws.length := by have : ¬ (i : Int) < ws.length := h0; omega
    subst hi'
    conv => whnf

    exact ⟨_, PH.Le.refl _, by rw [firstF_no (fun j h => hp j h h)]; rfl, rfl⟩
theorem headersFault_spec (A : Option Addr) (c : Nat) (ws : List Hd) (M : PH) (hs : Sl M A 2 Hd.cs ws) (hn : ws.length ≤ 1048576) (ho : ∀ x ∈ ws, x.okl) : Ret 31 [.slice A ws.length c] M (I (hdsFault ws)) := by
  refine xcall_of_vc Tryz.func31 rfl _ Tryz.ntmps31 _ rfl (fun _ _ => Tryz.call31 _ _) rfl (fun w0 ρ0 => ?_)
  conv => whnf
  repeat' (first | (refine ⟨⟨[], rfl⟩, _, PH.Le.refl _, PH.Le.refl _, ?_⟩; conv => whnf) | (refine caseB_true ?_; conv => whnf) | (refine caseB_false ?_; conv => whnf) | ((with_reducible refine caseB_dec (fun h => ?_) (fun h => ?_)) <;> conv => whnf) | ((with_reducible refine caseB_ndec (fun h => ?_) (fun h => ?_)) <;> conv => whnf) | ((with_reducible refine caseB_not (fun h => ?_) (fun h => ?_)) <;> conv => whnf) | (with_reducible refine @And.intro (guardVC _ _ _ _ _) _ ?_ ?_) <;> conv => whnf | (refine caseB_intro (fun h => ?_) (fun h => ?_) <;> (try simp only [Bool.not_eq_true', Bool.not_eq_false', decide_eq_true_eq, decide_eq_false_iff_not] at h) <;> conv => whnf))
  · exact ⟨_, PH.Le.refl _, by simp [resV, hdsFault, *], rfl⟩
  rw [hdsFault, if_neg (by assumption)]
  refine loop_rule (fun i : Nat => ⟨slots 22 [(0, .v (.slice A ws.length c)), (3, .v (I i))], []⟩) (fun i M' => i ≤ ws.length ∧ (∀ j, j < i → ∀ h : j < ws.length, hdFault ws[j] = 0) ∧ M' = M) (fun i => ws.length - i) 0 ?_ ?_ ?_
  · exact ⟨by simp [slots, leT], ⟨[], rfl⟩, (by first | exact Nat.zero_le _ | exact Nat.le_refl _), rfl, rfl⟩
  · exact ⟨Nat.zero_le _, fun j hj => absurd hj (Nat.not_lt_zero _), rfl⟩
  rintro i M' ⟨hi, hp, rfl⟩
  conv => whnf
  refine caseB_dec (fun h0 => ?_) (fun h0 => ?_)
  · have h0 : (i : Int) < ws.length := h0
    have hi' : i < ws.length := by omega
    have hw : IntKind.i64.wrap ((i : Int) + 1) = (i : Int) + 1 := wr_id (by omega) (by omega)
    obtain ⟨hA, _, hc⟩ := hs.get hi'
    have hx := ho ws[i] (List.getElem_mem hi')
    conv => whnf
    repeat' (first | (refine ⟨⟨[], rfl⟩, _, PH.Le.refl _, PH.Le.refl _, ?_⟩; conv => whnf) | (refine ⟨ws[i].cs, hc, rfl, ?_⟩; conv => whnf) | (refine ⟨by omega, by omega, hA, ?_⟩; conv => whnf) | (refine caseB_true ?_; conv => whnf) | (refine caseB_false ?_; conv => whnf) | ((with_reducible refine caseB_dec (fun h => ?_) (fun h => ?_)) <;> conv => whnf) | ((with_reducible refine caseB_ndec (fun h => ?_) (fun h => ?_)) <;> conv => whnf) | ((with_reducible refine caseB_not (fun h => ?_) (fun h => ?_)) <;> conv => whnf) | (refine Ret.go (headerFault_spec _ _ hx) ?_; conv => whnf) | (with_reducible refine @And.intro (guardVC _ _ _ _ _) _ ?_ ?_) <;> conv => whnf | (refine caseB_intro (fun h => ?_) (fun h => ?_) <;> (try simp only [Bool.not_eq_true', Bool.not_eq_false', decide_eq_true_eq, decide_eq_false_iff_not] at h) <;> conv => whnf))
    · rename_i h
      exact ⟨_, PH.Le.refl _, by rw [firstF_at hi' hp h]; rfl, rfl⟩
    · rename_i h
      exact ⟨i + 1, ⟨by simp [slots, leT, hw], ⟨_, rfl⟩, (by first | exact Nat.zero_le _ | exact Nat.le_refl _), rfl, rfl⟩, ⟨by omega, fun j hj hjl => (Nat.lt_succ_iff_lt_or_eq.1 hj).elim (fun h1 => hp j h1 hjl) (fun e => by subst e; exact h), rfl⟩, by omega⟩
  · have hi' : i = ws.length := by have : ¬ (i : Int) < ws.length := h0; omega
    subst hi'
    conv => whnf

    exact ⟨_, PH.Le.refl _, by rw [firstF_no (fun j h => hp j h h)]; rfl, rfl⟩
end Go.Proofs.YtdgipmlkkmmliaaGreatDoor
