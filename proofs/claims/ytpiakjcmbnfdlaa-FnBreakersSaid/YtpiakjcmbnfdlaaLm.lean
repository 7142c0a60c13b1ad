/-
  CONTRACTS: rows of waiting places and of marks, numbered anew ('mark'), and read again ('held').
-/
import Derived.Test.YtpiakjcmbnfdlaaLf
namespace Go.Proofs.Ytpiakjcmbnfdlaa
set_option maxRecDepth 100000
set_option linter.unusedSimpArgs false
set_option linter.unusedVariables false
open Go.Xe
def mkW (k : Int) : Wt := ⟨k, k + 1⟩
abbrev marksW (k : Int) (n : Nat) : List Wt := marksL mkW 2 k n
theorem Wt.one (x : Wt) : ∀ v ∈ x.cs, v.oneCell' = true := by intro v hv; simp at hv; rcases hv with rfl | rfl <;> rfl
theorem Mk.one (x : Mk) : ∀ v ∈ x.cs, v.oneCell' = true := by intro v hv; simp at hv; rcases hv with rfl | rfl <;> rfl
theorem cells_cut {M : PH} {A : Option Addr} {o : Nat} {cs : List Value} (h : M.cells A o cs) (j : Nat) {v : Value} (hv : cs[j]? = some v) : M.cells A (o + j) [v] := by
  obtain ⟨a, ha, hx⟩ := h
  refine ⟨a, ha, fun n x hn => ?_⟩
  match n, hn with
  | 0, hn =>
    simp at hn; subst hn
    rw [Nat.add_zero]
    exact hx j _ hv
theorem markWaitS_ret (o : Option Nat) (A : Option Addr) (c : Nat) (ws : List Wt) (k : Int) (M : PH) (h : Ow M o A c 2 Wt.cs ws) (hn : ws.length ≤ 4294967296) (hk : 0 ≤ k ∧ k ≤ 1000000000000) :
    ACall env 87 [.slice A ws.length c, I k] M fun r M' => r = I (k + 2 * ws.length) ∧ Ow M' o A c 2 Wt.cs (marksW k ws.length) ∧ Keeps o M M' := by
  refine xcall_of_vc Try.func87 rfl _ Try.ntmps87 _ rfl (fun _ _ => Try.call87 _ _) rfl (fun w0 ρ0 => ?_)
  conv => whnf
  refine loop_rule (fun i : Nat => ⟨slots 27 [(0, .v (.slice A ws.length c)), (1, .v (I (k + 2 * i))), (5, .v (I i))], []⟩) (fun i M' => i ≤ ws.length ∧ Ow M' o A c 2 Wt.cs (markT mkW 2 k ws i) ∧ Keeps o M M') (fun i => ws.length - i) 0 ?_ ?_ ?_
  · exact ⟨by simp [slots, leT], ⟨[], rfl⟩, Nat.zero_le _, rfl, rfl⟩
  · exact ⟨Nat.zero_le _, by rw [markT_zero]; exact h, Keeps.refl M⟩
  · rintro i M1 ⟨hi, h1, k1⟩
    conv => whnf
    repeat' (first | (refine ⟨⟨[], rfl⟩, _, PH.Le.refl _, PH.Le.refl _, ?_⟩; conv => whnf) | (refine caseB_true ?_; conv => whnf) | (refine caseB_false ?_; conv => whnf) | ((with_reducible refine caseB_dec (fun h => ?_) (fun h => ?_)) <;> conv => whnf) | ((with_reducible refine caseB_ndec (fun h => ?_) (fun h => ?_)) <;> conv => whnf) | ((with_reducible refine caseB_not (fun h => ?_) (fun h => ?_)) <;> conv => whnf) | (with_reducible refine @And.intro (guardVC _ _ _ _ _) _ ?_ ?_) <;> conv => whnf | (refine caseB_intro (fun h => ?_) (fun h => ?_) <;> (try simp only [Bool.not_eq_true', Bool.not_eq_false', decide_eq_true_eq, decide_eq_false_iff_not] at h) <;> conv => whnf))
    · have hi' : i < ws.length := by omega
      have hl1 := markT_length mkW 2 k ws hi
      have hw : IntKind.i64.wrap ((i : Int) + 1) = (i : Int) + 1 := wr_id (by omega) (by omega)
      have hw1 : IntKind.i64.wrap (k + 2 * i + 1) = k + 2 * i + 1 := wr_id (by omega) (by omega)
      have hw2 : IntKind.i64.wrap (k + 2 * i + 1 + 1) = k + 2 * (i + 1) := by rw [wrap_id (by omega) (by omega)]; omega
      have hA := ((h1.sl Wt.len).get (i := i) (by omega)).1
      refine ⟨by omega, by omega, hA, ?_⟩
      conv => whnf
      refine own_store (i := i) (j := 0) h1 Wt.len (by omega) (by simp) ⟨k + 2 * i, (markT mkW 2 k ws i)[i].b⟩ rfl fun M2 h2 k2 => ?_
      conv => whnf
      refine ⟨by omega, by omega, hA, ?_⟩
      conv => whnf
      refine own_store (i := i) (j := 1) h2 Wt.len (by simp; omega) (by simp) (mkW (k + 2 * i)) (by simp [mkW, spl, hw1]) fun M3 h3 k3 => ?_
      conv => whnf
      rw [List.set_set, markT_set mkW 2 k ws hi'] at h3
      exact ⟨i + 1, ⟨by simp [slots, leT, hw, hw1, hw2], ⟨[], rfl⟩, Nat.zero_le _, rfl, rfl⟩, ⟨by omega, h3, (k1.trans k2).trans k3⟩, by omega⟩
    · have hi' : i = ws.length := by omega
      subst hi'
      rw [markT_all] at h1
      exact ⟨_, PH.Le.refl _, rfl, h1, k1⟩
theorem heldWaitS_ret (A : Option Addr) (c n : Nat) (k : Int) (M : PH) (hM : Sl M A 2 Wt.cs (marksW k n)) (hn : n ≤ 4294967296) (hk : 0 ≤ k ∧ k ≤ 1000000000000) :
    Ret 122 [.slice A n c, I k] M (I (k + 2 * n)) := by
  refine xcall_of_vc Try.func122 rfl _ Try.ntmps122 _ rfl (fun _ _ => Try.call122 _ _) rfl (fun w0 ρ0 => ?_)
  conv => whnf
  refine loop_rule (fun i : Nat => ⟨slots 31 [(0, .v (.slice A n c)), (1, .v (I (k + 2 * i))), (4, .v (I 0)), (5, .v (I i))], []⟩) (fun i M' => i ≤ n ∧ M' = M) (fun i => n - i) 0 ?_ ?_ ?_
  · exact ⟨by simp [slots, leT], ⟨[], rfl⟩, Nat.zero_le _, rfl, rfl⟩
  · exact ⟨Nat.zero_le _, rfl⟩
  · rintro i M' ⟨hi, rfl⟩
    conv => whnf
    repeat' (first | (refine ⟨⟨[], rfl⟩, _, PH.Le.refl _, PH.Le.refl _, ?_⟩; conv => whnf) | (refine caseB_true ?_; conv => whnf) | (refine caseB_false ?_; conv => whnf) | ((with_reducible refine caseB_dec (fun h => ?_) (fun h => ?_)) <;> conv => whnf) | ((with_reducible refine caseB_ndec (fun h => ?_) (fun h => ?_)) <;> conv => whnf) | ((with_reducible refine caseB_not (fun h => ?_) (fun h => ?_)) <;> conv => whnf) | (with_reducible refine @And.intro (guardVC _ _ _ _ _) _ ?_ ?_) <;> conv => whnf | (refine caseB_intro (fun h => ?_) (fun h => ?_) <;> (try simp only [Bool.not_eq_true', Bool.not_eq_false', decide_eq_true_eq, decide_eq_false_iff_not] at h) <;> conv => whnf))
    · have hi' : i < n := by omega
      have hl : (marksW k n).length = n := marksL_length mkW 2 k n
      have hw : IntKind.i64.wrap ((i : Int) + 1) = (i : Int) + 1 := wr_id (by omega) (by omega)
      have hw1 : IntKind.i64.wrap (k + 2 * i + 1) = k + 2 * i + 1 := wr_id (by omega) (by omega)
      have hw2 : IntKind.i64.wrap (k + 2 * i + 1 + 1) = k + 2 * (i + 1) := by rw [wrap_id (by omega) (by omega)]; omega
      obtain ⟨hA, _, hc⟩ := hM.get (i := i) (by omega)
      rw [marksL_get] at hc
      repeat' (first | (refine ⟨⟨[], rfl⟩, _, PH.Le.refl _, PH.Le.refl _, ?_⟩; conv => whnf) | (refine ⟨_, cells_cut hc 1 rfl, ?_⟩; conv => whnf) | (refine ⟨_, cells_cut hc 0 rfl, ?_⟩; conv => whnf) | (refine ⟨by omega, by omega, hA, ?_⟩; conv => whnf) | (refine caseB_true ?_; conv => whnf) | (refine caseB_false ?_; conv => whnf) | ((with_reducible refine caseB_dec (fun h => ?_) (fun h => ?_)) <;> conv => whnf) | ((with_reducible refine caseB_ndec (fun h => ?_) (fun h => ?_)) <;> conv => whnf) | ((with_reducible refine caseB_not (fun h => ?_) (fun h => ?_)) <;> conv => whnf) | (with_reducible refine @And.intro (guardVC _ _ _ _ _) _ ?_ ?_) <;> conv => whnf | (refine caseB_intro (fun h => ?_) (fun h => ?_) <;> (try simp only [Bool.not_eq_true', Bool.not_eq_false', decide_eq_true_eq, decide_eq_false_iff_not] at h) <;> conv => whnf))
      all_goals first | (exfalso; simp [mkW, hw1] at h; done) | (exfalso; exact h (by simp [mkW, hw1])) | skip
      exact ⟨i + 1, ⟨by simp [slots, leT, hw, hw1, hw2], ⟨[], rfl⟩, Nat.zero_le _, rfl, rfl⟩, ⟨by omega, rfl⟩, by omega⟩
    · have hi' : i = n := by omega
      subst hi'
      exact ⟨_, PH.Le.refl _, rfl, rfl⟩
end Go.Proofs.Ytpiakjcmbnfdlaa
