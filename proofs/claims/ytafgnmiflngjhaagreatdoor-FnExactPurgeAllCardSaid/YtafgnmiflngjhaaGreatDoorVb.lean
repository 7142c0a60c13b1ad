/-
  MARKS of rows of texts, bytes, head lines.
-/
import Derived.Test.YtafgnmiflngjhaaGreatDoorVa
namespace Go.Proofs.YtafgnmiflngjhaaGreatDoor
set_option maxRecDepth 100000
set_option linter.unusedSimpArgs false
set_option linter.unusedVariables false
open Go.Xe
theorem stC_one (x : ByteArray) : ∀ v ∈ stC x, v.oneCell' = true := by intro v hv; simp at hv; subst hv; rfl
theorem byC_one (x : Int) : ∀ v ∈ byC x, v.oneCell' = true := by intro v hv; simp at hv; subst hv; rfl
theorem Hd_one (x : Hd) : ∀ v ∈ x.cs, v.oneCell' = true := by intro v hv; simp at hv; rcases hv with rfl | rfl <;> rfl
def mkB (k : Int) : Int := IntKind.u8.wrap k
def mkH (k : Int) : Hd := ⟨mText k, mText (IntKind.i64.wrap (k + 1))⟩
abbrev marksS (k : Int) (n : Nat) : List ByteArray := marksL mText 1 k n
abbrev marksB (k : Int) (n : Nat) : List Int := marksL mkB 1 k n
abbrev marksH (k : Int) (n : Nat) : List Hd := marksL mkH 2 k n
theorem markStringS_ret (o : Option Nat) (A : Option Addr) (c : Nat) (ws : List ByteArray) (k : Int) (M : PH) (h : Ow M o A c 1 stC ws) (hn : ws.length ≤ 4294967296) (hk : 0 ≤ k ∧ k ≤ 900000000000) :
    ACall env 92 [.slice A ws.length c, I k] M fun r M' => r = I (k + 1 * ws.length) ∧ Ow M' o A c 1 stC (marksL mText 1 k ws.length) ∧ Keeps o M M' := by
  refine xcall_of_vc Tryz.func92 rfl _ Tryz.ntmps92 _ rfl (fun _ _ => Tryz.call92 _ _) rfl (fun w0 ρ0 => ?_)
  conv => whnf
  refine loop_rule (fun i : Nat => ⟨slots 20 [(0, .v (.slice A ws.length c)), (1, .v (I (k + 1 * i))), (5, .v (I i))], []⟩) (fun i M' => i ≤ ws.length ∧ Ow M' o A c 1 stC (markT mText 1 k ws i) ∧ Keeps o M M') (fun i => ws.length - i) 0 ?_ ?_ ?_
  · exact ⟨by simp [slots, leT], ⟨[], rfl⟩, Nat.zero_le _, rfl, rfl⟩
  · exact ⟨Nat.zero_le _, by rw [markT_zero]; exact h, Keeps.refl M⟩
  · rintro i M1 ⟨hi, h1, k1⟩
    conv => whnf
    repeat' (first | (refine ⟨⟨[], rfl⟩, _, PH.Le.refl _, PH.Le.refl _, ?_⟩; conv => whnf) | (refine caseB_true ?_; conv => whnf) | (refine caseB_false ?_; conv => whnf) | ((with_reducible refine caseB_dec (fun h => ?_) (fun h => ?_)) <;> conv => whnf) | ((with_reducible refine caseB_ndec (fun h => ?_) (fun h => ?_)) <;> conv => whnf) | ((with_reducible refine caseB_not (fun h => ?_) (fun h => ?_)) <;> conv => whnf) | (with_reducible refine @And.intro (guardVC _ _ _ _ _) _ ?_ ?_) <;> conv => whnf | (refine caseB_intro (fun h => ?_) (fun h => ?_) <;> (try simp only [Bool.not_eq_true', Bool.not_eq_false', decide_eq_true_eq, decide_eq_false_iff_not] at h) <;> conv => whnf))
    · have hi' : i < ws.length := by omega
      have hl1 := markT_length mText 1 k ws hi
      have hw : IntKind.i64.wrap ((i : Int) + 1) = (i : Int) + 1 := wr_id (by omega) (by omega)
      have hw1 : IntKind.i64.wrap (k + 1 * i + 1) = k + 1 * (i + 1) := by rw [wrap_id (by omega) (by omega)]; omega
      have hw3 : IntKind.i64.wrap (k + i + 1) = k + (i + 1) := by rw [wrap_id (by omega) (by omega)]; omega
      have hA := ((h1.sl st_len).get (i := i) (by omega)).1
      refine Ret.go (markText_ret _ _ (by omega)) ?_
      conv => whnf
      refine ⟨by omega, by omega, hA, ?_⟩
      conv => whnf
      refine own_store (i := i) (j := 0) h1 st_len (by omega) (by simp) (mText (k + 1 * i)) rfl fun M2 h2 k2 => ?_
      conv => whnf
      rw [markT_set mText 1 k ws hi'] at h2
      exact ⟨i + 1, ⟨by simp [slots, leT, hw, hw1, hw3], ⟨[], rfl⟩, Nat.zero_le _, rfl, rfl⟩, ⟨by omega, h2, k1.trans k2⟩, by omega⟩
    · have hi' : i = ws.length := by omega
      subst hi'
      rw [markT_all] at h1
      exact ⟨_, PH.Le.refl _, rfl, h1, k1⟩
theorem heldStringS_ret (A : Option Addr) (c n : Nat) (k : Int) (M : PH) (hM : Sl M A 1 stC (marksL mText 1 k n)) (hn : n ≤ 4294967296) (hk : 0 ≤ k ∧ k ≤ 900000000000) :
    Ret 94 [.slice A n c, I k] M (I (k + 1 * n)) := by
  refine xcall_of_vc Tryz.func94 rfl _ Tryz.ntmps94 _ rfl (fun _ _ => Tryz.call94 _ _) rfl (fun w0 ρ0 => ?_)
  conv => whnf
  refine loop_rule (fun i : Nat => ⟨slots 22 [(0, .v (.slice A n c)), (1, .v (I (k + 1 * i))), (4, .v (I 0)), (5, .v (I i))], []⟩) (fun i M' => i ≤ n ∧ M' = M) (fun i => n - i) 0 ?_ ?_ ?_
  · exact ⟨by simp [slots, leT], ⟨[], rfl⟩, Nat.zero_le _, rfl, rfl⟩
  · exact ⟨Nat.zero_le _, rfl⟩
  · rintro i M' ⟨hi, rfl⟩
    conv => whnf
    repeat' (first | (refine ⟨⟨[], rfl⟩, _, PH.Le.refl _, PH.Le.refl _, ?_⟩; conv => whnf) | (refine caseB_true ?_; conv => whnf) | (refine caseB_false ?_; conv => whnf) | ((with_reducible refine caseB_dec (fun h => ?_) (fun h => ?_)) <;> conv => whnf) | ((with_reducible refine caseB_ndec (fun h => ?_) (fun h => ?_)) <;> conv => whnf) | ((with_reducible refine caseB_not (fun h => ?_) (fun h => ?_)) <;> conv => whnf) | (with_reducible refine @And.intro (guardVC _ _ _ _ _) _ ?_ ?_) <;> conv => whnf | (refine caseB_intro (fun h => ?_) (fun h => ?_) <;> (try simp only [Bool.not_eq_true', Bool.not_eq_false', decide_eq_true_eq, decide_eq_false_iff_not] at h) <;> conv => whnf))
    · have hi' : i < n := by omega
      have hl : (marksL mText 1 k n).length = n := marksL_length mText 1 k n
      have hw : IntKind.i64.wrap ((i : Int) + 1) = (i : Int) + 1 := wr_id (by omega) (by omega)
      have hw1 : IntKind.i64.wrap (k + 1 * i + 1) = k + 1 * (i + 1) := by rw [wrap_id (by omega) (by omega)]; omega
      have hw3 : IntKind.i64.wrap (k + i + 1) = k + (i + 1) := by rw [wrap_id (by omega) (by omega)]; omega
      obtain ⟨hA, _, hc⟩ := hM.get (i := i) (by omega)
      rw [marksL_get] at hc
      repeat' (first | (refine ⟨⟨[], rfl⟩, _, PH.Le.refl _, PH.Le.refl _, ?_⟩; conv => whnf) | (refine ⟨_, hc, ?_⟩; conv => whnf) | (refine ⟨by omega, by omega, hA, ?_⟩; conv => whnf) | (refine caseB_true ?_; conv => whnf) | (refine caseB_false ?_; conv => whnf) | ((with_reducible refine caseB_dec (fun h => ?_) (fun h => ?_)) <;> conv => whnf) | ((with_reducible refine caseB_ndec (fun h => ?_) (fun h => ?_)) <;> conv => whnf) | ((with_reducible refine caseB_not (fun h => ?_) (fun h => ?_)) <;> conv => whnf) | (refine Ret.go (markText_ret _ _ (by omega)) ?_; conv => whnf) | (refine draw_rule (.light 0 <| .light 1 <| .light 2 <| .light 3 <| .light 4 <| .alt 5 false (.light 6 <| .done) .nil) (by decide +kernel) ?_; conv => whnf) | (with_reducible refine @And.intro (guardVC _ _ _ _ _) _ ?_ ?_) <;> conv => whnf | (refine caseB_intro (fun h => ?_) (fun h => ?_) <;> (try simp only [Bool.not_eq_true', Bool.not_eq_false', decide_eq_true_eq, decide_eq_false_iff_not] at h) <;> conv => whnf))
      all_goals first | (exfalso; exact h rfl; done) | (exfalso; simp [seq_self] at h; done) | skip
      exact ⟨i + 1, ⟨by simp [slots, leT, hw, hw1, hw3], ⟨[], rfl⟩, Nat.zero_le _, rfl, rfl⟩, ⟨by omega, rfl⟩, by omega⟩
    · have hi' : i = n := by omega
      subst hi'
      exact ⟨_, PH.Le.refl _, rfl, rfl⟩
theorem markByteS_ret (o : Option Nat) (A : Option Addr) (c : Nat) (ws : List Int) (k : Int) (M : PH) (h : Ow M o A c 1 byC ws) (hn : ws.length ≤ 4294967296) (hk : 0 ≤ k ∧ k ≤ 900000000000) :
    ACall env 91 [.slice A ws.length c, I k] M fun r M' => r = I (k + 1 * ws.length) ∧ Ow M' o A c 1 byC (marksL mkB 1 k ws.length) ∧ Keeps o M M' := by
  refine xcall_of_vc Tryz.func91 rfl _ Tryz.ntmps91 _ rfl (fun _ _ => Tryz.call91 _ _) rfl (fun w0 ρ0 => ?_)
  conv => whnf
  refine loop_rule (fun i : Nat => ⟨slots 20 [(0, .v (.slice A ws.length c)), (1, .v (I (k + 1 * i))), (5, .v (I i))], []⟩) (fun i M' => i ≤ ws.length ∧ Ow M' o A c 1 byC (markT mkB 1 k ws i) ∧ Keeps o M M') (fun i => ws.length - i) 0 ?_ ?_ ?_
  · exact ⟨by simp [slots, leT], ⟨[], rfl⟩, Nat.zero_le _, rfl, rfl⟩
  · exact ⟨Nat.zero_le _, by rw [markT_zero]; exact h, Keeps.refl M⟩
  · rintro i M1 ⟨hi, h1, k1⟩
    conv => whnf
    repeat' (first | (refine ⟨⟨[], rfl⟩, _, PH.Le.refl _, PH.Le.refl _, ?_⟩; conv => whnf) | (refine caseB_true ?_; conv => whnf) | (refine caseB_false ?_; conv => whnf) | ((with_reducible refine caseB_dec (fun h => ?_) (fun h => ?_)) <;> conv => whnf) | ((with_reducible refine caseB_ndec (fun h => ?_) (fun h => ?_)) <;> conv => whnf) | ((with_reducible refine caseB_not (fun h => ?_) (fun h => ?_)) <;> conv => whnf) | (with_reducible refine @And.intro (guardVC _ _ _ _ _) _ ?_ ?_) <;> conv => whnf | (refine caseB_intro (fun h => ?_) (fun h => ?_) <;> (try simp only [Bool.not_eq_true', Bool.not_eq_false', decide_eq_true_eq, decide_eq_false_iff_not] at h) <;> conv => whnf))
    · have hi' : i < ws.length := by omega
      have hl1 := markT_length mkB 1 k ws hi
      have hw : IntKind.i64.wrap ((i : Int) + 1) = (i : Int) + 1 := wr_id (by omega) (by omega)
      have hw1 : IntKind.i64.wrap (k + 1 * i + 1) = k + 1 * (i + 1) := by rw [wrap_id (by omega) (by omega)]; omega
      have hw3 : IntKind.i64.wrap (k + i + 1) = k + (i + 1) := by rw [wrap_id (by omega) (by omega)]; omega
      have hA := ((h1.sl by_len).get (i := i) (by omega)).1
      refine ⟨by omega, by omega, hA, ?_⟩
      conv => whnf
      refine own_store (i := i) (j := 0) h1 by_len (by omega) (by simp) (mkB (k + 1 * i)) rfl fun M2 h2 k2 => ?_
      conv => whnf
      rw [markT_set mkB 1 k ws hi'] at h2
      exact ⟨i + 1, ⟨by simp [slots, leT, hw, hw1, hw3], ⟨[], rfl⟩, Nat.zero_le _, rfl, rfl⟩, ⟨by omega, h2, k1.trans k2⟩, by omega⟩
    · have hi' : i = ws.length := by omega
      subst hi'
      rw [markT_all] at h1
      exact ⟨_, PH.Le.refl _, rfl, h1, k1⟩
theorem heldByteS_ret (A : Option Addr) (c n : Nat) (k : Int) (M : PH) (hM : Sl M A 1 byC (marksL mkB 1 k n)) (hn : n ≤ 4294967296) (hk : 0 ≤ k ∧ k ≤ 900000000000) :
    Ret 163 [.slice A n c, I k] M (I (k + 1 * n)) := by
  refine xcall_of_vc Tryz.func163 rfl _ Tryz.ntmps163 _ rfl (fun _ _ => Tryz.call163 _ _) rfl (fun w0 ρ0 => ?_)
  conv => whnf
  refine loop_rule (fun i : Nat => ⟨slots 22 [(0, .v (.slice A n c)), (1, .v (I (k + 1 * i))), (4, .v (I 0)), (5, .v (I i))], []⟩) (fun i M' => i ≤ n ∧ M' = M) (fun i => n - i) 0 ?_ ?_ ?_
  · exact ⟨by simp [slots, leT], ⟨[], rfl⟩, Nat.zero_le _, rfl, rfl⟩
  · exact ⟨Nat.zero_le _, rfl⟩
  · rintro i M' ⟨hi, rfl⟩
    conv => whnf
    repeat' (first | (refine ⟨⟨[], rfl⟩, _, PH.Le.refl _, PH.Le.refl _, ?_⟩; conv => whnf) | (refine caseB_true ?_; conv => whnf) | (refine caseB_false ?_; conv => whnf) | ((with_reducible refine caseB_dec (fun h => ?_) (fun h => ?_)) <;> conv => whnf) | ((with_reducible refine caseB_ndec (fun h => ?_) (fun h => ?_)) <;> conv => whnf) | ((with_reducible refine caseB_not (fun h => ?_) (fun h => ?_)) <;> conv => whnf) | (with_reducible refine @And.intro (guardVC _ _ _ _ _) _ ?_ ?_) <;> conv => whnf | (refine caseB_intro (fun h => ?_) (fun h => ?_) <;> (try simp only [Bool.not_eq_true', Bool.not_eq_false', decide_eq_true_eq, decide_eq_false_iff_not] at h) <;> conv => whnf))
    · have hi' : i < n := by omega
      have hl : (marksL mkB 1 k n).length = n := marksL_length mkB 1 k n
      have hw : IntKind.i64.wrap ((i : Int) + 1) = (i : Int) + 1 := wr_id (by omega) (by omega)
      have hw1 : IntKind.i64.wrap (k + 1 * i + 1) = k + 1 * (i + 1) := by rw [wrap_id (by omega) (by omega)]; omega
      have hw3 : IntKind.i64.wrap (k + i + 1) = k + (i + 1) := by rw [wrap_id (by omega) (by omega)]; omega
      obtain ⟨hA, _, hc⟩ := hM.get (i := i) (by omega)
      rw [marksL_get] at hc
      repeat' (first | (refine ⟨⟨[], rfl⟩, _, PH.Le.refl _, PH.Le.refl _, ?_⟩; conv => whnf) | (refine ⟨_, hc, ?_⟩; conv => whnf) | (refine ⟨by omega, by omega, hA, ?_⟩; conv => whnf) | (refine caseB_true ?_; conv => whnf) | (refine caseB_false ?_; conv => whnf) | ((with_reducible refine caseB_dec (fun h => ?_) (fun h => ?_)) <;> conv => whnf) | ((with_reducible refine caseB_ndec (fun h => ?_) (fun h => ?_)) <;> conv => whnf) | ((with_reducible refine caseB_not (fun h => ?_) (fun h => ?_)) <;> conv => whnf) | (with_reducible refine @And.intro (guardVC _ _ _ _ _) _ ?_ ?_) <;> conv => whnf | (refine caseB_intro (fun h => ?_) (fun h => ?_) <;> (try simp only [Bool.not_eq_true', Bool.not_eq_false', decide_eq_true_eq, decide_eq_false_iff_not] at h) <;> conv => whnf))
      all_goals first | (exfalso; exact h rfl; done) | (exfalso; simp [seq_self] at h; done) | skip
      exact ⟨i + 1, ⟨by simp [slots, leT, hw, hw1, hw3], ⟨[], rfl⟩, Nat.zero_le _, rfl, rfl⟩, ⟨by omega, rfl⟩, by omega⟩
    · have hi' : i = n := by omega
      subst hi'
      exact ⟨_, PH.Le.refl _, rfl, rfl⟩
theorem markHeaderS_ret (o : Option Nat) (A : Option Addr) (c : Nat) (ws : List Hd) (k : Int) (M : PH) (h : Ow M o A c 2 Hd.cs ws) (hn : ws.length ≤ 4294967296) (hk : 0 ≤ k ∧ k ≤ 900000000000) :
    ACall env 90 [.slice A ws.length c, I k] M fun r M' => r = I (k + 2 * ws.length) ∧ Ow M' o A c 2 Hd.cs (marksL mkH 2 k ws.length) ∧ Keeps o M M' := by
  refine xcall_of_vc Tryz.func90 rfl _ Tryz.ntmps90 _ rfl (fun _ _ => Tryz.call90 _ _) rfl (fun w0 ρ0 => ?_)
  conv => whnf
  refine loop_rule (fun i : Nat => ⟨slots 29 [(0, .v (.slice A ws.length c)), (1, .v (I (k + 2 * i))), (5, .v (I i))], []⟩) (fun i M' => i ≤ ws.length ∧ Ow M' o A c 2 Hd.cs (markT mkH 2 k ws i) ∧ Keeps o M M') (fun i => ws.length - i) 0 ?_ ?_ ?_
  · exact ⟨by simp [slots, leT], ⟨[], rfl⟩, Nat.zero_le _, rfl, rfl⟩
  · exact ⟨Nat.zero_le _, by rw [markT_zero]; exact h, Keeps.refl M⟩
  · rintro i M1 ⟨hi, h1, k1⟩
    conv => whnf
    repeat' (first | (refine ⟨⟨[], rfl⟩, _, PH.Le.refl _, PH.Le.refl _, ?_⟩; conv => whnf) | (refine caseB_true ?_; conv => whnf) | (refine caseB_false ?_; conv => whnf) | ((with_reducible refine caseB_dec (fun h => ?_) (fun h => ?_)) <;> conv => whnf) | ((with_reducible refine caseB_ndec (fun h => ?_) (fun h => ?_)) <;> conv => whnf) | ((with_reducible refine caseB_not (fun h => ?_) (fun h => ?_)) <;> conv => whnf) | (with_reducible refine @And.intro (guardVC _ _ _ _ _) _ ?_ ?_) <;> conv => whnf | (refine caseB_intro (fun h => ?_) (fun h => ?_) <;> (try simp only [Bool.not_eq_true', Bool.not_eq_false', decide_eq_true_eq, decide_eq_false_iff_not] at h) <;> conv => whnf))
    · have hi' : i < ws.length := by omega
      have hl1 := markT_length mkH 2 k ws hi
      have hw : IntKind.i64.wrap ((i : Int) + 1) = (i : Int) + 1 := wr_id (by omega) (by omega)
      have hw1 : IntKind.i64.wrap (k + 2 * i + 1) = k + 2 * i + 1 := wr_id (by omega) (by omega)
      have hw2 : IntKind.i64.wrap (k + 2 * i + 1 + 1) = k + 2 * (i + 1) := by rw [wrap_id (by omega) (by omega)]; omega
      have hA := ((h1.sl Hd.len).get (i := i) (by omega)).1
      refine Ret.go (markText_ret _ _ (by omega)) ?_
      conv => whnf
      refine ⟨by omega, by omega, hA, ?_⟩
      conv => whnf
      refine own_store (i := i) (j := 0) h1 Hd.len (by omega) (by simp) ⟨mText (k + 2 * i), (markT mkH 2 k ws i)[i].v⟩ rfl fun M2 h2 k2 => ?_
      conv => whnf
      refine Ret.go (markText_ret _ _ (by rw [hw1]; omega)) ?_
      conv => whnf
      refine ⟨by omega, by omega, hA, ?_⟩
      conv => whnf
      refine own_store (i := i) (j := 1) h2 Hd.len (by simp; omega) (by simp) (mkH (k + 2 * i)) (by simp [mkH, spl]) fun M3 h3 k3 => ?_
      conv => whnf
      rw [List.set_set, markT_set mkH 2 k ws hi'] at h3
      exact ⟨i + 1, ⟨by simp [slots, leT, hw, hw1, hw2], ⟨[], rfl⟩, Nat.zero_le _, rfl, rfl⟩, ⟨by omega, h3, (k1.trans k2).trans k3⟩, by omega⟩
    · have hi' : i = ws.length := by omega
      subst hi'
      rw [markT_all] at h1
      exact ⟨_, PH.Le.refl _, rfl, h1, k1⟩
theorem heldHeaderS_ret (A : Option Addr) (c n : Nat) (k : Int) (M : PH) (hM : Sl M A 2 Hd.cs (marksL mkH 2 k n)) (hn : n ≤ 4294967296) (hk : 0 ≤ k ∧ k ≤ 900000000000) :
    Ret 162 [.slice A n c, I k] M (I (k + 2 * n)) := by
  refine xcall_of_vc Tryz.func162 rfl _ Tryz.ntmps162 _ rfl (fun _ _ => Tryz.call162 _ _) rfl (fun w0 ρ0 => ?_)
  conv => whnf
  refine loop_rule (fun i : Nat => ⟨slots 33 [(0, .v (.slice A n c)), (1, .v (I (k + 2 * i))), (4, .v (I 0)), (5, .v (I i))], []⟩) (fun i M' => i ≤ n ∧ M' = M) (fun i => n - i) 0 ?_ ?_ ?_
  · exact ⟨by simp [slots, leT], ⟨[], rfl⟩, Nat.zero_le _, rfl, rfl⟩
  · exact ⟨Nat.zero_le _, rfl⟩
  · rintro i M' ⟨hi, rfl⟩
    conv => whnf
    repeat' (first | (refine ⟨⟨[], rfl⟩, _, PH.Le.refl _, PH.Le.refl _, ?_⟩; conv => whnf) | (refine caseB_true ?_; conv => whnf) | (refine caseB_false ?_; conv => whnf) | ((with_reducible refine caseB_dec (fun h => ?_) (fun h => ?_)) <;> conv => whnf) | ((with_reducible refine caseB_ndec (fun h => ?_) (fun h => ?_)) <;> conv => whnf) | ((with_reducible refine caseB_not (fun h => ?_) (fun h => ?_)) <;> conv => whnf) | (with_reducible refine @And.intro (guardVC _ _ _ _ _) _ ?_ ?_) <;> conv => whnf | (refine caseB_intro (fun h => ?_) (fun h => ?_) <;> (try simp only [Bool.not_eq_true', Bool.not_eq_false', decide_eq_true_eq, decide_eq_false_iff_not] at h) <;> conv => whnf))
    · have hi' : i < n := by omega
      have hl : (marksL mkH 2 k n).length = n := marksL_length mkH 2 k n
      have hw : IntKind.i64.wrap ((i : Int) + 1) = (i : Int) + 1 := wr_id (by omega) (by omega)
      have hw1 : IntKind.i64.wrap (k + 2 * i + 1) = k + 2 * i + 1 := wr_id (by omega) (by omega)
      have hw2 : IntKind.i64.wrap (k + 2 * i + 1 + 1) = k + 2 * (i + 1) := by rw [wrap_id (by omega) (by omega)]; omega
      obtain ⟨hA, _, hc⟩ := hM.get (i := i) (by omega)
      rw [marksL_get] at hc
      repeat' (first | (refine ⟨⟨[], rfl⟩, _, PH.Le.refl _, PH.Le.refl _, ?_⟩; conv => whnf) | (refine ⟨_, cells_cut hc 1 rfl, ?_⟩; conv => whnf) | (refine ⟨_, cells_cut hc 0 rfl, ?_⟩; conv => whnf) | (refine ⟨by omega, by omega, hA, ?_⟩; conv => whnf) | (refine caseB_true ?_; conv => whnf) | (refine caseB_false ?_; conv => whnf) | ((with_reducible refine caseB_dec (fun h => ?_) (fun h => ?_)) <;> conv => whnf) | ((with_reducible refine caseB_ndec (fun h => ?_) (fun h => ?_)) <;> conv => whnf) | ((with_reducible refine caseB_not (fun h => ?_) (fun h => ?_)) <;> conv => whnf) | (refine Ret.go (markText_ret _ _ (by first | omega | (rw [hw1]; omega))) ?_; conv => whnf) | (refine draw_rule (.light 0 <| .light 1 <| .light 2 <| .light 3 <| .light 4 <| .light 5 <| .alt 6 false (.light 7 <| .done) .nil) (by decide +kernel) ?_; conv => whnf) | (refine draw_rule (.light 0 <| .light 1 <| .light 2 <| .light 3 <| .light 4 <| .light 5 <| .alt 6 false (.light 7 <| .done) .nil) (by decide +kernel) ?_; conv => whnf) | (with_reducible refine @And.intro (guardVC _ _ _ _ _) _ ?_ ?_) <;> conv => whnf | (refine caseB_intro (fun h => ?_) (fun h => ?_) <;> (try simp only [Bool.not_eq_true', Bool.not_eq_false', decide_eq_true_eq, decide_eq_false_iff_not] at h) <;> conv => whnf))

      all_goals first | (exfalso; exact h rfl; done) | (exfalso; simp [seq_self, mkH] at h; done) | skip
      exact ⟨i + 1, ⟨by simp [slots, leT, hw, hw1, hw2], ⟨[], rfl⟩, Nat.zero_le _, rfl, rfl⟩, ⟨by omega, rfl⟩, by omega⟩
    · have hi' : i = n := by omega
      subst hi'
      exact ⟨_, PH.Le.refl _, rfl, rfl⟩
end Go.Proofs.YtafgnmiflngjhaaGreatDoor
