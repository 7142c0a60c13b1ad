/-
  CONTRACTS: breakers and their marks: copied, compared.
-/
import Derived.Test.YtpiakjcmbnfdlaaLg
namespace Go.Proofs.Ytpiakjcmbnfdlaa
set_option maxRecDepth 100000
set_option linter.unusedSimpArgs false
set_option linter.unusedVariables false
open Go.Xe
structure Mk where
  a : Int
  b : Bool
abbrev Mk.cs (x : Mk) : List Value := [I x.a, B x.b]
abbrev Mk.v (x : Mk) : Value := .agg #[I x.a, B x.b]
theorem Mk.len (x : Mk) : x.cs.length = 2 := rfl
theorem toMark_ret (x : Mk) (M : PH) : Ret 114 [x.v] M x.v := by
  refine xcall_of_vc Try.func114 rfl _ Try.ntmps114 _ rfl (fun _ _ => Try.call114 _ _) rfl (fun w0 ρ0 => ?_)
  conv => whnf
  all_goals first | (refine ⟨M, PH.Le.refl _, ?_, rfl⟩; simp [resV, *]; done) | (refine ⟨M, PH.Le.refl _, ?_, rfl, rfl⟩; simp [resV, *]; done) | (exfalso; simp_all; done)
theorem eqMark_ret (x : Mk) (M : PH) : Ret 116 [x.v, x.v] M (B true) := by
  refine xcall_of_vc Try.func116 rfl _ Try.ntmps116 _ rfl (fun _ _ => Try.call116 _ _) rfl (fun w0 ρ0 => ?_)
  conv => whnf
  repeat' (first | (refine ⟨⟨[], rfl⟩, _, PH.Le.refl _, PH.Le.refl _, ?_⟩; conv => whnf) | (refine caseB_true ?_; conv => whnf) | (refine caseB_false ?_; conv => whnf) | ((with_reducible refine caseB_dec (fun h => ?_) (fun h => ?_)) <;> conv => whnf) | ((with_reducible refine caseB_ndec (fun h => ?_) (fun h => ?_)) <;> conv => whnf) | ((with_reducible refine caseB_not (fun h => ?_) (fun h => ?_)) <;> conv => whnf) | (with_reducible refine @And.intro (guardVC _ _ _ _ _) _ ?_ ?_) <;> conv => whnf | (refine caseB_intro (fun h => ?_) (fun h => ?_) <;> (try simp only [Bool.not_eq_true', Bool.not_eq_false', decide_eq_true_eq, decide_eq_false_iff_not] at h) <;> conv => whnf))
  all_goals first | (refine ⟨M, PH.Le.refl _, ?_, rfl⟩; simp [resV, *]; done) | (refine ⟨M, PH.Le.refl _, ?_, rfl, rfl⟩; simp [resV, *]; done) | (exfalso; simp_all; done)
abbrev J0 : List Value := [I 0, B false]
theorem toMarkS_ret (A : Option Addr) (c : Nat) (ws : List Mk) (M : PH) (hs : Sl M A 2 Mk.cs ws) (hn : ws.length ≤ 1048576) :
    ACall env 67 [.slice A ws.length c] M fun r M' => ∃ g, M g = none ∧ r = .slice (some ⟨g, 0, none⟩) ws.length ws.length ∧ M' = M.set g (.cells (ws.flatMap Mk.cs).toArray 99 (0, 0)) := by
  refine xcall_of_vc Try.func67 rfl _ Try.ntmps67 _ rfl (fun _ _ => Try.call67 _ _) rfl (fun w0 ρ0 => ?_)
  conv => whnf
  refine ⟨rfl, by omega, ?_, by omega, fun g hg => ?_⟩
  · show (16 : Int) * _ ≤ _
    omega
  conv => whnf
  refine loop_rule (fun i : Nat => ⟨slots 23 [(0, .v (.slice A ws.length c)), (2, .v (.slice none 0 0)), (3, .v (.slice (some ⟨g, 0, none⟩) ws.length ws.length)), (4, .v (I i))], []⟩)
    (fun i M' => i ≤ ws.length ∧ M' = M.set g (.cells (rowsL Mk.cs J0 (ws.take i) ws.length).toArray 99 (0, 0))) (fun i => ws.length - i) 0 ?_ ?_ ?_
  · exact ⟨by simp [slots, leT], ⟨[], rfl⟩, Nat.zero_le _, rfl, rfl⟩
  · refine ⟨Nat.zero_le _, ?_⟩
    show M.set g (.cells (madeCells #[I 0, B false] (Int.toNat ws.length * 2)) 99 (0, 0)) = _
    rw [Int.toNat_natCast]
    exact congrArg (fun x => M.set g (.cells x 99 (0, 0))) (made_rows' Mk.cs #[I 0, B false] ws.length)
  · rintro i M' ⟨hi, rfl⟩
    conv => whnf
    repeat' (first | (refine ⟨⟨[], rfl⟩, _, PH.Le.refl _, PH.Le.refl _, ?_⟩; conv => whnf) | (refine caseB_true ?_; conv => whnf) | (refine caseB_false ?_; conv => whnf) | ((with_reducible refine caseB_dec (fun h => ?_) (fun h => ?_)) <;> conv => whnf) | ((with_reducible refine caseB_ndec (fun h => ?_) (fun h => ?_)) <;> conv => whnf) | ((with_reducible refine caseB_not (fun h => ?_) (fun h => ?_)) <;> conv => whnf) | (with_reducible refine @And.intro (guardVC _ _ _ _ _) _ ?_ ?_) <;> conv => whnf | (refine caseB_intro (fun h => ?_) (fun h => ?_) <;> (try simp only [Bool.not_eq_true', Bool.not_eq_false', decide_eq_true_eq, decide_eq_false_iff_not] at h) <;> conv => whnf))
    · have hi' : i < ws.length := by omega
      have hw : IntKind.i64.wrap ((i : Int) + 1) = (i : Int) + 1 := wr_id (by omega) (by omega)
      obtain ⟨hA, _, hc⟩ := hs.get hi'
      refine ⟨by omega, by omega, hA, ?_⟩
      conv => whnf
      refine ⟨ws[i].cs, (PH.Le.set _ hg).cells hc, rfl, ?_⟩
      conv => whnf
      refine Ret.go (toMark_ret ws[i] _) ?_
      conv => whnf
      refine ⟨by omega, by omega, rfl, ?_⟩
      conv => whnf
      refine ⟨g, 0, rowsL Mk.cs J0 (ws.take i) ws.length, 99, rfl, PH.set_same _ _ _, ?_, ?_⟩
      · show 0 + i * 2 + 2 ≤ _
        rw [rowsL_length Mk.len rfl _ _ (by simp; omega)]
        omega
      conv => whnf
      refine ⟨i + 1, ⟨by simp [slots, leT, hw], ⟨[], rfl⟩, Nat.zero_le _, rfl, rfl⟩, ⟨by omega, ?_⟩, by omega⟩
      rw [set_set]
      show M.set g (.cells (spl (rowsL Mk.cs J0 (ws.take i) ws.length) (0 + i * 2) ws[i].cs).toArray 99 (0, 0)) = _
      rw [Nat.zero_add, rowsL_take Mk.len rfl ws hi']
    · have hi' : i = ws.length := by omega
      subst hi'
      refine ⟨_, PH.Le.refl _, g, hg, rfl, ?_⟩
      rw [List.take_length, rowsL_full]
theorem eqMarkS_ret (A A' : Option Addr) (c c' : Nat) (ws : List Mk) (M : PH) (hs : Sl M A 2 Mk.cs ws) (hs' : Sl M A' 2 Mk.cs ws) (hn : ws.length ≤ 1048576) :
    Ret 74 [.slice A ws.length c, .slice A' ws.length c'] M (B true) := by
  refine xcall_of_vc Try.func74 rfl _ Try.ntmps74 _ rfl (fun _ _ => Try.call74 _ _) rfl (fun w0 ρ0 => ?_)
  conv => whnf
  repeat' (first | (refine ⟨⟨[], rfl⟩, _, PH.Le.refl _, PH.Le.refl _, ?_⟩; conv => whnf) | (refine caseB_true ?_; conv => whnf) | (refine caseB_false ?_; conv => whnf) | ((with_reducible refine caseB_dec (fun h => ?_) (fun h => ?_)) <;> conv => whnf) | ((with_reducible refine caseB_ndec (fun h => ?_) (fun h => ?_)) <;> conv => whnf) | ((with_reducible refine caseB_not (fun h => ?_) (fun h => ?_)) <;> conv => whnf) | (with_reducible refine @And.intro (guardVC _ _ _ _ _) _ ?_ ?_) <;> conv => whnf | (refine caseB_intro (fun h => ?_) (fun h => ?_) <;> (try simp only [Bool.not_eq_true', Bool.not_eq_false', decide_eq_true_eq, decide_eq_false_iff_not] at h) <;> conv => whnf))
  · exact absurd rfl ‹_›
  refine loop_rule (fun i : Nat => ⟨slots 27 [(0, .v (.slice A ws.length c)), (1, .v (.slice A' ws.length c')), (4, .v (B false)), (5, .v (I i))], []⟩) (fun i M' => i ≤ ws.length ∧ M' = M) (fun i => ws.length - i) 0 ?_ ?_ ?_
  · exact ⟨by simp [slots, leT], ⟨[], rfl⟩, Nat.zero_le _, rfl, rfl⟩
  · exact ⟨Nat.zero_le _, rfl⟩
  · rintro i M' ⟨hi, rfl⟩
    conv => whnf
    repeat' (first | (refine ⟨⟨[], rfl⟩, _, PH.Le.refl _, PH.Le.refl _, ?_⟩; conv => whnf) | (refine caseB_true ?_; conv => whnf) | (refine caseB_false ?_; conv => whnf) | ((with_reducible refine caseB_dec (fun h => ?_) (fun h => ?_)) <;> conv => whnf) | ((with_reducible refine caseB_ndec (fun h => ?_) (fun h => ?_)) <;> conv => whnf) | ((with_reducible refine caseB_not (fun h => ?_) (fun h => ?_)) <;> conv => whnf) | (with_reducible refine @And.intro (guardVC _ _ _ _ _) _ ?_ ?_) <;> conv => whnf | (refine caseB_intro (fun h => ?_) (fun h => ?_) <;> (try simp only [Bool.not_eq_true', Bool.not_eq_false', decide_eq_true_eq, decide_eq_false_iff_not] at h) <;> conv => whnf))
    · have hi' : i < ws.length := by omega
      have hw : IntKind.i64.wrap ((i : Int) + 1) = (i : Int) + 1 := wr_id (by omega) (by omega)
      obtain ⟨hA, _, hc⟩ := hs.get hi'
      obtain ⟨hA', _, hc'⟩ := hs'.get hi'
      repeat' (first | (refine ⟨⟨[], rfl⟩, _, PH.Le.refl _, PH.Le.refl _, ?_⟩; conv => whnf) | (refine ⟨ws[i].cs, hc', rfl, ?_⟩; conv => whnf) | (refine ⟨ws[i].cs, hc, rfl, ?_⟩; conv => whnf) | (refine ⟨by omega, by omega, hA', ?_⟩; conv => whnf) | (refine ⟨by omega, by omega, hA, ?_⟩; conv => whnf) | (refine caseB_true ?_; conv => whnf) | (refine caseB_false ?_; conv => whnf) | ((with_reducible refine caseB_dec (fun h => ?_) (fun h => ?_)) <;> conv => whnf) | ((with_reducible refine caseB_ndec (fun h => ?_) (fun h => ?_)) <;> conv => whnf) | ((with_reducible refine caseB_not (fun h => ?_) (fun h => ?_)) <;> conv => whnf) | (refine draw_rule (.light 0 <| .light 1 <| .light 2 <| .light 3 <| .light 4 <| .light 5 <| .light 6 <| .light 7 <| .alt 8 false (.light 9 <| .done) .nil) (by decide +kernel) ?_; conv => whnf) | (refine Ret.go (eqMark_ret ws[i] _) ?_; conv => whnf) | (with_reducible refine @And.intro (guardVC _ _ _ _ _) _ ?_ ?_) <;> conv => whnf | (refine caseB_intro (fun h => ?_) (fun h => ?_) <;> (try simp only [Bool.not_eq_true', Bool.not_eq_false', decide_eq_true_eq, decide_eq_false_iff_not] at h) <;> conv => whnf))
      exact ⟨i + 1, ⟨by simp [slots, leT, hw], ⟨[], rfl⟩, Nat.zero_le _, rfl, rfl⟩, ⟨by omega, rfl⟩, by omega⟩
    · exact ⟨_, PH.Le.refl _, rfl, rfl⟩
theorem mk_eq (x y : Mk) : (decide (x.a = y.a) && ((x.b == y.b) && true)) = true ↔ x = y := by
  cases x; cases y; simp
theorem szMarkS_ret (A : Option Addr) (c : Nat) (ws : List Mk) (n : Int) (M : PH) : Ret 64 [.slice A ws.length c, I n] M (I (sz n ws.length)) := by
  refine xcall_of_vc Try.func64 rfl _ Try.ntmps64 _ rfl (fun _ _ => Try.call64 _ _) rfl (fun w0 ρ0 => ?_)
  conv => whnf
  repeat' (first | (refine ⟨⟨[], rfl⟩, _, PH.Le.refl _, PH.Le.refl _, ?_⟩; conv => whnf) | (refine caseB_true ?_; conv => whnf) | (refine caseB_false ?_; conv => whnf) | ((with_reducible refine caseB_dec (fun h => ?_) (fun h => ?_)) <;> conv => whnf) | ((with_reducible refine caseB_ndec (fun h => ?_) (fun h => ?_)) <;> conv => whnf) | ((with_reducible refine caseB_not (fun h => ?_) (fun h => ?_)) <;> conv => whnf) | (with_reducible refine @And.intro (guardVC _ _ _ _ _) _ ?_ ?_) <;> conv => whnf | (refine caseB_intro (fun h => ?_) (fun h => ?_) <;> (try simp only [Bool.not_eq_true', Bool.not_eq_false', decide_eq_true_eq, decide_eq_false_iff_not] at h) <;> conv => whnf))
  all_goals first | (refine ⟨M, PH.Le.refl _, ?_, rfl⟩; simp [resV, sz, *]; done) | (refine ⟨M, PH.Le.refl _, ?_, rfl, rfl⟩; simp [resV, sz, *]; done) | (exfalso; simp_all; done)
structure K3 where
  p : Int
  q : Int
  r : Int
abbrev brV (k : K3) (A : Option Addr) (n c : Nat) : Value := .agg #[I k.p, I k.q, I k.r, .slice A n c]
theorem szBreaker_ret (k : K3) (A : Option Addr) (c : Nat) (ws : List Mk) (n : Int) (M : PH) : Ret 14 [brV k A ws.length c, I n] M (I (sz n ws.length)) := by
  refine xcall_of_vc Try.func14 rfl _ Try.ntmps14 _ rfl (fun _ _ => Try.call14 _ _) rfl (fun w0 ρ0 => ?_)
  conv => whnf
  repeat' (first | (refine ⟨⟨[], rfl⟩, _, PH.Le.refl _, PH.Le.refl _, ?_⟩; conv => whnf) | (refine caseB_true ?_; conv => whnf) | (refine caseB_false ?_; conv => whnf) | ((with_reducible refine caseB_dec (fun h => ?_) (fun h => ?_)) <;> conv => whnf) | ((with_reducible refine caseB_ndec (fun h => ?_) (fun h => ?_)) <;> conv => whnf) | ((with_reducible refine caseB_not (fun h => ?_) (fun h => ?_)) <;> conv => whnf) | (refine Ret.go (szMarkS_ret A c ws n _) ?_; conv => whnf) | (with_reducible refine @And.intro (guardVC _ _ _ _ _) _ ?_ ?_) <;> conv => whnf | (refine caseB_intro (fun h => ?_) (fun h => ?_) <;> (try simp only [Bool.not_eq_true', Bool.not_eq_false', decide_eq_true_eq, decide_eq_false_iff_not] at h) <;> conv => whnf))
  all_goals refine ⟨M, PH.Le.refl _, ?_, rfl⟩
  all_goals simp only [resV]
  · have : sz n ws.length = -1 := by unfold sz at *; split at * <;> omega
    rw [this]
theorem toBreaker_ret (k : K3) (A : Option Addr) (c : Nat) (ws : List Mk) (M : PH) (hs : Sl M A 2 Mk.cs ws) (hn : ws.length ≤ 1048576) :
    ACall env 16 [brV k A ws.length c] M fun r M' => ∃ g, M g = none ∧ r = brV k (some ⟨g, 0, none⟩) ws.length ws.length ∧ M' = M.set g (.cells (ws.flatMap Mk.cs).toArray 99 (0, 0)) := by
  refine xcall_of_vc Try.func16 rfl _ Try.ntmps16 _ rfl (fun _ _ => Try.call16 _ _) rfl (fun w0 ρ0 => ?_)
  conv => whnf
  refine ACall.step (toMarkS_ret A c ws M hs hn) fun r M' h => ?_
  obtain ⟨g, hg, rfl, rfl⟩ := h
  conv => whnf
  exact ⟨_, PH.Le.refl _, g, hg, rfl, rfl⟩
theorem toBreaker_new (k : K3) (A : Option Addr) (c : Nat) (ws : List Mk) (M : PH) (hs : Sl M A 2 Mk.cs ws) (hn : ws.length ≤ 1048576) :
    ACall env 16 [brV k A ws.length c] M fun r M' => ∃ g, r = brV k (some ⟨g, 0, none⟩) ws.length ws.length ∧ M.Le M' ∧ Sl M' (some ⟨g, 0, none⟩) 2 Mk.cs ws :=
  (toBreaker_ret k A c ws M hs hn).mono fun r M' ⟨g, hg, hr, hM⟩ => by
    subst hM
    exact ⟨g, hr, PH.Le.set _ hg, sl_full Mk.len _ g ws 99 (0, 0)⟩
theorem eqBreaker_ret (k : K3) (A A' : Option Addr) (c c' : Nat) (ws : List Mk) (M : PH) (hs : Sl M A 2 Mk.cs ws) (hs' : Sl M A' 2 Mk.cs ws) (hn : ws.length ≤ 1048576) :
    Ret 18 [brV k A ws.length c, brV k A' ws.length c'] M (B true) := by
  refine xcall_of_vc Try.func18 rfl _ Try.ntmps18 _ rfl (fun _ _ => Try.call18 _ _) rfl (fun w0 ρ0 => ?_)
  conv => whnf
  repeat' (first | (refine ⟨⟨[], rfl⟩, _, PH.Le.refl _, PH.Le.refl _, ?_⟩; conv => whnf) | (refine caseB_true ?_; conv => whnf) | (refine caseB_false ?_; conv => whnf) | ((with_reducible refine caseB_dec (fun h => ?_) (fun h => ?_)) <;> conv => whnf) | ((with_reducible refine caseB_ndec (fun h => ?_) (fun h => ?_)) <;> conv => whnf) | ((with_reducible refine caseB_not (fun h => ?_) (fun h => ?_)) <;> conv => whnf) | (refine Ret.go (eqMarkS_ret A A' c c' ws _ hs hs' hn) ?_; conv => whnf) | (with_reducible refine @And.intro (guardVC _ _ _ _ _) _ ?_ ?_) <;> conv => whnf | (refine caseB_intro (fun h => ?_) (fun h => ?_) <;> (try simp only [Bool.not_eq_true', Bool.not_eq_false', decide_eq_true_eq, decide_eq_false_iff_not] at h) <;> conv => whnf))
  all_goals first | (refine ⟨M, PH.Le.refl _, ?_, rfl⟩; simp [resV, *]; done) | (refine ⟨M, PH.Le.refl _, ?_, rfl, rfl⟩; simp [resV, *]; done) | (exfalso; simp_all; done)
theorem openBreaker {H : Type} {enc : TypeId × Value → H} {W : World} {base : Nat} {v : Value} {d : DataW H} {p : List MemPlace} (hv : Value.okWide Try.prog W .any base 24 v)
    (h : DataW.Trod enc Try.prog W 0 (fun _ => true) true 24 v d p) : ∃ (k : K3) (A : Option Addr) (c : Nat) (ws : List Mk), v = brV k A ws.length c ∧ Sl (whole W) A 2 Mk.cs ws ∧ ws.length ≤ maxLen := by
  obtain ⟨cs, rfl, hs⟩ := open_arg env 9 (ti := ti24) (by kernel_rfl) (s := .fcons (.int .i64) 1 <| .fcons (.int .i64) 1 <| .fcons (.int .i64) 1 (.fcons (.slice (.fcons (.int .i64) 1 (.fcons .bool 1 .fnil)) 2) 1 .fnil)) (by kernel_rfl) hv h
  obtain ⟨_, _, _, ⟨n0, _, rfl⟩, ⟨_, _, _, ⟨n1, _, rfl⟩, ⟨_, _, _, ⟨n2, _, rfl⟩, ⟨_, _, _, hsl, rfl, rfl⟩, rfl⟩, rfl⟩, rfl⟩ := hs
  obtain ⟨A, c, ws, rfl, hS, hl⟩ := open_sl Mk.cs (fun es h => by
    obtain ⟨_, _, _, ⟨a, _, rfl⟩, ⟨_, _, _, ⟨b, rfl⟩, rfl, rfl⟩, rfl⟩ := h
    exact ⟨⟨a, b⟩, rfl⟩) hsl
  exact ⟨⟨n0, n1, n2⟩, A, c, ws, rfl, hS, hl⟩
end Go.Proofs.Ytpiakjcmbnfdlaa
