/-
  CONTRACTS: head lines and waiters, copied, compared, measured.
-/
import Derived.Test.YtdgipmlkkmmliaaGreatDoorLa
import Derived.Test.YtdgipmlkkmmliaaGreatDoorXo
namespace Go.Proofs.YtdgipmlkkmmliaaGreatDoor
set_option maxRecDepth 100000
set_option linter.unusedSimpArgs false
set_option linter.unusedVariables false
open Go.Xe
theorem ACall.beside {f : FuncId} {args : List Value} {M : PH} {g : Nat} {o : Obj} {R : Value → PH → Prop} (hc : ACall env f args (rm M g) R) (hg : M g = some o) :
    ACall env f args M fun r M' => ∃ M1, R r M1 ∧ M1.Le (rm M' g) ∧ M' g = some o := by
  refine (XCall.frame hc (rm_le M g)).mono fun r b M' hh => ?_
  obtain ⟨M1, hr, l1, hk⟩ := hh
  obtain ⟨h1, h2⟩ := hk g o hg (rm_at M g)
  exact ⟨M1, hr, rm_up l1 h1, h2⟩
structure Hd where
  n : ByteArray
  v : ByteArray
abbrev Hd.cs (x : Hd) : List Value := [Tx x.n, Tx x.v]
abbrev Hd.val (x : Hd) : Value := .agg #[Tx x.n, Tx x.v]
theorem Hd.len (x : Hd) : x.cs.length = 2 := rfl
def Hd.cost (x : Hd) : Nat := x.n.size + x.v.size
def Hd.okl (x : Hd) : Prop := x.n.size ≤ maxLen ∧ x.v.size ≤ maxLen
theorem hd_eq (x y : Hd) : (seq x.n y.n && (seq x.v y.v && true)) = true ↔ x = y := by
  cases x; cases y; simp [seq_iff]
abbrev TT : List Value := [Tx ByteArray.empty, Tx ByteArray.empty]
theorem toHeader_ret (x : Hd) (M : PH) : Ret 33 [x.val] M x.val := by
  refine xcall_of_vc Tryz.func33 rfl _ Tryz.ntmps33 _ rfl (fun _ _ => Tryz.call33 _ _) rfl (fun w0 ρ0 => ?_)
  conv => whnf
  all_goals first | (refine ⟨M, PH.Le.refl _, ?_, rfl⟩; simp [resV, *]; done) | (refine ⟨M, PH.Le.refl _, ?_, rfl, rfl⟩; simp [resV, *]; done) | (exfalso; simp_all; done)
theorem eqHeader_ret (x : Hd) (M : PH) : Ret 37 [x.val, x.val] M (B true) := by
  refine xcall_of_vc Tryz.func37 rfl _ Tryz.ntmps37 _ rfl (fun _ _ => Tryz.call37 _ _) rfl (fun w0 ρ0 => ?_)
  conv => whnf
  repeat' (first | (refine ⟨⟨[], rfl⟩, _, PH.Le.refl _, PH.Le.refl _, ?_⟩; conv => whnf) | (refine caseB_true ?_; conv => whnf) | (refine caseB_false ?_; conv => whnf) | ((with_reducible refine caseB_dec (fun h => ?_) (fun h => ?_)) <;> conv => whnf) | ((with_reducible refine caseB_ndec (fun h => ?_) (fun h => ?_)) <;> conv => whnf) | ((with_reducible refine caseB_not (fun h => ?_) (fun h => ?_)) <;> conv => whnf) | (with_reducible refine @And.intro (guardVC _ _ _ _ _) _ ?_ ?_) <;> conv => whnf | (refine caseB_intro (fun h => ?_) (fun h => ?_) <;> (try simp only [Bool.not_eq_true', Bool.not_eq_false', decide_eq_true_eq, decide_eq_false_iff_not] at h) <;> conv => whnf))
  all_goals first | (exfalso; exact h rfl; done) | (exfalso; simp [seq_self] at h; done) | exact ⟨_, PH.Le.refl _, rfl, rfl⟩
theorem toHeaderS_ret (A : Option Addr) (c : Nat) (ws : List Hd) (M : PH) (hs : Sl M A 2 Hd.cs ws) (hn : ws.length ≤ 1048576) :
    ACall env 8 [.slice A ws.length c] M fun r M' => ∃ g, M g = none ∧ r = .slice (some ⟨g, 0, none⟩) ws.length ws.length ∧ M' = M.set g (.cells (ws.flatMap Hd.cs).toArray 65 (0, 0)) := by
  refine xcall_of_vc Tryz.func8 rfl _ Tryz.ntmps8 _ rfl (fun _ _ => Tryz.call8 _ _) rfl (fun w0 ρ0 => ?_)
  conv => whnf
  refine ⟨rfl, by omega, ?_, by omega, fun g hg => ?_⟩
  · show (32 : Int) * _ ≤ _
    omega
  conv => whnf
  refine loop_rule (fun i : Nat => ⟨slots 23 [(0, .v (.slice A ws.length c)), (2, .v (.slice none 0 0)), (3, .v (.slice (some ⟨g, 0, none⟩) ws.length ws.length)), (4, .v (I i))], []⟩)
    (fun i M' => i ≤ ws.length ∧ M' = M.set g (.cells (rowsL Hd.cs TT (ws.take i) ws.length).toArray 65 (0, 0))) (fun i => ws.length - i) 0 ?_ ?_ ?_
  · exact ⟨by simp [slots, leT], ⟨[], rfl⟩, Nat.zero_le _, rfl, rfl⟩
  · refine ⟨Nat.zero_le _, ?_⟩
    show M.set g (.cells (madeCells (TT : List Value).toArray (Int.toNat ws.length * 2)) 65 (0, 0)) = _
    rw [Int.toNat_natCast]
    exact congrArg (fun x => M.set g (.cells x 65 (0, 0))) (made_rows' Hd.cs (TT : List Value).toArray ws.length)
  · rintro i M' ⟨hi, rfl⟩
    conv => whnf
    repeat' (first | (refine ⟨⟨[], rfl⟩, _, PH.Le.refl _, PH.Le.refl _, ?_⟩; conv => whnf) | (refine caseB_true ?_; conv => whnf) | (refine caseB_false ?_; conv => whnf) | ((with_reducible refine caseB_dec (fun h => ?_) (fun h => ?_)) <;> conv => whnf) | ((with_reducible refine caseB_ndec (fun h => ?_) (fun h => ?_)) <;> conv => whnf) | ((with_reducible refine caseB_not (fun h => ?_) (fun h => ?_)) <;> conv => whnf) | (with_reducible refine @And.intro (guardVC _ _ _ _ _) _ ?_ ?_) <;> conv => whnf | (refine caseB_intro (fun h => ?_) (fun h => ?_) <;> (try simp only [Bool.not_eq_true', Bool.not_eq_false', decide_eq_true_eq, decide_eq_false_iff_not] at h) <;> conv => whnf))
    · have hi' : i < ws.length := by omega
      have hw : IntKind.i64.wrap ((i : Int) + 1) = (i : Int) + 1 := wr_id (by omega) (by omega)
      obtain ⟨hA, _, hc⟩ := hs.get hi'
      refine ⟨by omega, by omega, hA, ?_⟩
      conv => whnf
      refine ⟨ws[i].cs, (PH.Le.set _ hg).cells hc, rfl, ?_⟩
      conv => whnf
      refine Ret.go (toHeader_ret ws[i] _) ?_
      conv => whnf
      refine ⟨by omega, by omega, rfl, ?_⟩
      conv => whnf
      refine ⟨g, 0, rowsL Hd.cs TT (ws.take i) ws.length, 65, (0, 0), rfl, PH.set_same _ _ _, ⟨?_, .inl (Nat.zero_le _)⟩, ?_⟩
      · show 0 + i * 2 + 2 ≤ _
        rw [rowsL_length Hd.len rfl _ _ (by simp; omega)]
        omega
      conv => whnf
      refine ⟨i + 1, ⟨by simp [slots, leT, hw], ⟨[], rfl⟩, Nat.zero_le _, rfl, rfl⟩, ⟨by omega, ?_⟩, by omega⟩
      rw [set_set]
      show M.set g (.cells (spl (rowsL Hd.cs TT (ws.take i) ws.length) (0 + i * 2) ws[i].cs).toArray 65 (0, 0)) = _
      rw [Nat.zero_add, rowsL_take Hd.len rfl ws hi']
    · have hi' : i = ws.length := by omega
      subst hi'
      refine ⟨_, PH.Le.refl _, g, hg, rfl, ?_⟩
      rw [List.take_length, rowsL_full]
theorem toHeaderS_new (A : Option Addr) (c : Nat) (ws : List Hd) (M : PH) (hs : Sl M A 2 Hd.cs ws) (hn : ws.length ≤ 1048576) :
    ACall env 8 [.slice A ws.length c] M fun r M' => ∃ g, M g = none ∧ r = .slice (some ⟨g, 0, none⟩) ws.length ws.length ∧ M.Le M' ∧ Sl M' (some ⟨g, 0, none⟩) 2 Hd.cs ws :=
  (toHeaderS_ret A c ws M hs hn).mono fun r M' ⟨g, hg, hr, hM⟩ => by
    subst hM
    exact ⟨g, hg, hr, PH.Le.set _ hg, sl_full Hd.len _ g ws 65 (0, 0)⟩
theorem eqHeaderS_ret (A A' : Option Addr) (c c' : Nat) (ws : List Hd) (M : PH) (hs : Sl M A 2 Hd.cs ws) (hs' : Sl M A' 2 Hd.cs ws) (hn : ws.length ≤ 1048576) :
    Ret 11 [.slice A ws.length c, .slice A' ws.length c'] M (B true) := by
  refine xcall_of_vc Tryz.func11 rfl _ Tryz.ntmps11 _ rfl (fun _ _ => Tryz.call11 _ _) rfl (fun w0 ρ0 => ?_)
  conv => whnf
  repeat' (first | (refine ⟨⟨[], rfl⟩, _, PH.Le.refl _, PH.Le.refl _, ?_⟩; conv => whnf) | (refine caseB_true ?_; conv => whnf) | (refine caseB_false ?_; conv => whnf) | ((with_reducible refine caseB_dec (fun h => ?_) (fun h => ?_)) <;> conv => whnf) | ((with_reducible refine caseB_ndec (fun h => ?_) (fun h => ?_)) <;> conv => whnf) | ((with_reducible refine caseB_not (fun h => ?_) (fun h => ?_)) <;> conv => whnf) | (with_reducible refine @And.intro (guardVC _ _ _ _ _) _ ?_ ?_) <;> conv => whnf | (refine caseB_intro (fun h => ?_) (fun h => ?_) <;> (try simp only [Bool.not_eq_true', Bool.not_eq_false', decide_eq_true_eq, decide_eq_false_iff_not] at h) <;> conv => whnf))
  · exact absurd rfl ‹_›
  refine loop_rule (fun i : Nat => ⟨slots 27 [(0, .v (.slice A ws.length c)), (1, .v (.slice A' ws.length c')), (4, .v (B false)), (5, .v (I i))], []⟩) (fun i M' => i ≤ ws.length ∧ M' = M) (fun i => ws.length - i) 0 ?_ ?_ ?_
  · exact ⟨by simp [slots, leT], ⟨[], rfl⟩, Nat.zero_le _, rfl, rfl⟩
  · exact ⟨Nat.zero_le _, rfl⟩
  · rintro i M' ⟨hi, rfl⟩
    conv => whnf
    repeat' (first | (refine ⟨⟨[], rfl⟩, _, PH.Le.refl _, PH.Le.refl _, ?_⟩; conv => whnf) | (refine caseB_true ?_; conv => whnf) | (refine caseB_false ?_; conv => whnf) | ((with_reducible refine caseB_dec (fun h => ?_) (fun h => ?_)) <;> conv => whnf) | ((with_reducible refine caseB_ndec (fun h => ?_) (fun h => ?_)) <;> conv => whnf) | ((with_reducible refine caseB_not (fun h => ?_) (fun h => ?_)) <;> conv => whnf) | (with_reducible refine @And.intro (guardVC _ _ _ _ _) _ ?_ ?_) <;> conv => whnf | (refine caseB_intro (fun h => ?_) (fun h => ?_) <;> (try simp only [Bool.not_eq_true', Bool.not_eq_false', decide_eq_true_eq, decide_eq_false_iff_not] at h) <;> conv => whnf))
    · have hi' : i < ws.length := by omega
      have hw : IntKind.i64.wrap ((i : Int) + 1) = (i : Int) + 1 := wr_id (by omega) (by omega)
      obtain ⟨hA, _, hc⟩ := hs.get hi'
      obtain ⟨hA', _, hc'⟩ := hs'.get hi'
      repeat' (first | (refine ⟨⟨[], rfl⟩, _, PH.Le.refl _, PH.Le.refl _, ?_⟩; conv => whnf) | (refine ⟨ws[i].cs, hc', rfl, ?_⟩; conv => whnf) | (refine ⟨ws[i].cs, hc, rfl, ?_⟩; conv => whnf) | (refine ⟨by omega, by omega, hA', ?_⟩; conv => whnf) | (refine ⟨by omega, by omega, hA, ?_⟩; conv => whnf) | (refine caseB_true ?_; conv => whnf) | (refine caseB_false ?_; conv => whnf) | ((with_reducible refine caseB_dec (fun h => ?_) (fun h => ?_)) <;> conv => whnf) | ((with_reducible refine caseB_ndec (fun h => ?_) (fun h => ?_)) <;> conv => whnf) | ((with_reducible refine caseB_not (fun h => ?_) (fun h => ?_)) <;> conv => whnf) | (refine draw_rule (.light 0 <| .light 1 <| .light 2 <| .light 3 <| .light 4 <| .light 5 <| .light 6 <| .light 7 <| .alt 8 false (.light 9 <| .done) .nil) (by decide +kernel) ?_; conv => whnf) | (refine Ret.go (eqHeader_ret ws[i] _) ?_; conv => whnf) | (with_reducible refine @And.intro (guardVC _ _ _ _ _) _ ?_ ?_) <;> conv => whnf | (refine caseB_intro (fun h => ?_) (fun h => ?_) <;> (try simp only [Bool.not_eq_true', Bool.not_eq_false', decide_eq_true_eq, decide_eq_false_iff_not] at h) <;> conv => whnf))
      exact ⟨i + 1, ⟨by simp [slots, leT, hw], ⟨[], rfl⟩, Nat.zero_le _, rfl, rfl⟩, ⟨by omega, rfl⟩, by omega⟩
    · exact ⟨_, PH.Le.refl _, rfl, rfl⟩

theorem szHeader_ret (x : Hd) (n : Int) (M : PH) (h : x.okl) (h0 : 0 ≤ n) (h1 : n ≤ 1048576) :
    ACall env 30 [x.val, I n] M fun r M' => ∃ m, r = I m ∧ M' = M ∧ (0 ≤ m → m = n - x.cost) := by
  have e63 : maxLen = 9223372036854775807 := rfl
  obtain ⟨hn, hv⟩ := h
  have e1 : IntKind.i64.wrap (n - x.n.size) = n - x.n.size := wrap_id (by omega) (by omega)
  have e2 : 0 ≤ n - x.n.size → IntKind.i64.wrap (IntKind.i64.wrap (n - x.n.size) - x.v.size) = n - x.n.size - x.v.size := fun h => by rw [e1]; exact wrap_id (by omega) (by omega)
  refine xcall_of_vc Tryz.func30 rfl _ Tryz.ntmps30 _ rfl (fun _ _ => Tryz.call30 _ _) rfl (fun w0 ρ0 => ?_)
  conv => whnf
  repeat' (first | (refine ⟨⟨[], rfl⟩, _, PH.Le.refl _, PH.Le.refl _, ?_⟩; conv => whnf) | (refine caseB_true ?_; conv => whnf) | (refine caseB_false ?_; conv => whnf) | ((with_reducible refine caseB_dec (fun h => ?_) (fun h => ?_)) <;> conv => whnf) | ((with_reducible refine caseB_ndec (fun h => ?_) (fun h => ?_)) <;> conv => whnf) | ((with_reducible refine caseB_not (fun h => ?_) (fun h => ?_)) <;> conv => whnf) | (with_reducible refine @And.intro (guardVC _ _ _ _ _) _ ?_ ?_) <;> conv => whnf | (refine caseB_intro (fun h => ?_) (fun h => ?_) <;> (try simp only [Bool.not_eq_true', Bool.not_eq_false', decide_eq_true_eq, decide_eq_false_iff_not] at h) <;> conv => whnf))
  all_goals exact ⟨_, PH.Le.refl _, _, rfl, rfl, by unfold Hd.cost; omega⟩
theorem szHeaderS_ret (A : Option Addr) (c : Nat) (ws : List Hd) (n : Int) (M : PH) (hs : Sl M A 2 Hd.cs ws) (hi : ∀ x ∈ ws, x.okl) (hl : ws.length ≤ maxLen) (h0 : 0 ≤ n) (h1 : n ≤ 1048576) :
    ACall env 6 [.slice A ws.length c, I n] M fun r M' => ∃ m, r = I m ∧ M' = M ∧ (0 ≤ m → m = n - costL Hd.cost ws) := by
  have e63 : maxLen = 9223372036854775807 := rfl
  have e1 : IntKind.i64.wrap (n - ws.length) = n - ws.length := wrap_id (by omega) (by omega)
  refine xcall_of_vc Tryz.func6 rfl _ Tryz.ntmps6 _ rfl (fun _ _ => Tryz.call6 _ _) rfl (fun w0 ρ0 => ?_)
  conv => whnf
  refine caseB_dec (fun hb => ?_) (fun hb => ?_)
  · conv => whnf
    exact ⟨_, PH.Le.refl _, -1, rfl, rfl, by omega⟩
  conv => whnf
  refine loop_rule (fun i : Nat => ⟨slots 27 [(0, .v (.slice A ws.length c)), (1, .v (I (n - ws.length - (costT Hd.cost ws i : Nat)))), (4, .v (I 0)), (5, .v (I i))], []⟩)
    (fun i M' => i ≤ ws.length ∧ M' = M ∧ (0 : Int) ≤ n - ws.length - (costT Hd.cost ws i : Nat)) (fun i => ws.length - i) 0 ?_ ?_ ?_
  · exact ⟨by simp [slots, leT, costT, e1], ⟨[], rfl⟩, Nat.zero_le _, rfl, rfl⟩
  · refine ⟨Nat.zero_le _, rfl, ?_⟩
    simp [costT]; omega
  rintro i M' ⟨hi1, rfl, hp⟩
  conv => whnf
  refine caseB_dec (fun h2 => ?_) (fun h2 => ?_)
  · conv => whnf
    have hi' : i < ws.length := by omega
    have hw : IntKind.i64.wrap ((i : Int) + 1) = (i : Int) + 1 := wr_id (by omega) (by omega)
    obtain ⟨hA, _, hc⟩ := hs.get hi'
    have hx := hi ws[i] (List.getElem_mem hi')
    have ht := costT_step Hd.cost hi'
    repeat' (first | (refine ⟨⟨[], rfl⟩, _, PH.Le.refl _, PH.Le.refl _, ?_⟩; conv => whnf) | (refine ACall.step (szHeader_ret ws[i] _ _ hx hp (by omega)) fun r M2 hh => ?_; obtain ⟨m, rfl, rfl, hm⟩ := hh; (first | (refine ⟨⟨[], rfl⟩, _, PH.Le.refl _, PH.Le.refl _, ?_⟩; conv => whnf) | conv => whnf)) | (refine ⟨ws[i].cs, hc, rfl, ?_⟩; conv => whnf) | (refine ⟨by omega, by omega, hA, ?_⟩; conv => whnf) | (refine caseB_true ?_; conv => whnf) | (refine caseB_false ?_; conv => whnf) | ((with_reducible refine caseB_dec (fun h => ?_) (fun h => ?_)) <;> conv => whnf) | ((with_reducible refine caseB_ndec (fun h => ?_) (fun h => ?_)) <;> conv => whnf) | ((with_reducible refine caseB_not (fun h => ?_) (fun h => ?_)) <;> conv => whnf) | (with_reducible refine @And.intro (guardVC _ _ _ _ _) _ ?_ ?_) <;> conv => whnf | (refine caseB_intro (fun h => ?_) (fun h => ?_) <;> (try simp only [Bool.not_eq_true', Bool.not_eq_false', decide_eq_true_eq, decide_eq_false_iff_not] at h) <;> conv => whnf))
    · exact ⟨_, PH.Le.refl _, -1, rfl, rfl, by omega⟩
    · have hm := hm (by omega)
      refine ⟨i + 1, ⟨?_, ⟨[], rfl⟩, Nat.zero_le _, rfl, rfl⟩, ⟨by omega, rfl, ?_⟩, by omega⟩
      · have e : n - ws.length - ((costT Hd.cost ws (i + 1) : Nat) : Int) = m := by rw [ht, hm]; omega
        rw [e]
        simp [slots, leT, hw]
      · rw [ht]; omega
  · conv => whnf
    have hi' : i = ws.length := by omega
    subst hi'
    have := costT_all Hd.cost ws
    exact ⟨_, PH.Le.refl _, _, rfl, rfl, by omega⟩

structure Wr where
  a : Int
  h : Bool
  d : Int
  l : Bool
abbrev Wr.cs (x : Wr) : List Value := [I x.a, B x.h, I x.d, B x.l]
abbrev Wr.val (x : Wr) : Value := .agg #[I x.a, B x.h, I x.d, B x.l]
theorem Wr.len (x : Wr) : x.cs.length = 4 := rfl
theorem wr_eq (x y : Wr) : (decide (x.a = y.a) && ((x.h == y.h) && (decide (x.d = y.d) && ((x.l == y.l) && true)))) = true ↔ x = y := by
  cases x; cases y; simp
abbrev W0 : List Value := [I 0, B false, I 0, B false]
end Go.Proofs.YtdgipmlkkmmliaaGreatDoor
