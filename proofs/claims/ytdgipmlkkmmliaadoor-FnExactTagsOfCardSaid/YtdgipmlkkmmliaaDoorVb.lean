/-
  MARKS: texts of numbers; rows of texts, bytes, head lines, numbered anew ('mark'), and read again ('held'). MARKS of rows of texts, bytes, head lines.
-/
import Derived.Test.YtdgipmlkkmmliaaDoorOa
import Derived.Test.YtdgipmlkkmmliaaDoorTd
import Derived.Test.YtdgipmlkkmmliaaDoorMa
namespace Go.Proofs.YtdgipmlkkmmliaaDoor
set_option maxRecDepth 100000
set_option linter.unusedSimpArgs false
set_option linter.unusedVariables false
open Go.Xe
theorem cat_fits' {a b : ByteArray} (h : a.size + b.size ≤ 9223372036854775807) : ((a.size + b.size : Nat) : Int) ≤ IntKind.i64.max := by
  have : IntKind.i64.max = 9223372036854775807 := by decide
  omega
def mDig (k : Int) : ByteArray := strOfNums [IntKind.u8.wrap (IntKind.i64.wrap (48 + k.tmod 10))]
theorem mDig_size (k : Int) : (mDig k).size = 1 := by unfold mDig; rw [strOfNums_size]; rfl
def mGo : Nat → Int → ByteArray → ByteArray
  | 0, _, out => out
  | f + 1, k, out => if 0 < k then mGo f (k / 10) (mDig k ++ out) else out
theorem mGo_end {k : Int} (h : ¬ 0 < k) : ∀ f out, mGo f k out = out
  | 0, _ => rfl
  | f + 1, out => by rw [mGo, if_neg h]
theorem mGo_step {k : Int} (h : 0 < k) (f : Nat) (out : ByteArray) : mGo (f + 1) k out = mGo f (k / 10) (mDig k ++ out) := by rw [mGo, if_pos h]
def mText (k : Int) : ByteArray := if k ≤ 0 then ⟨#[109, 48]⟩ else ⟨#[109]⟩ ++ mGo k.toNat k ByteArray.empty
theorem markText_ret (k : Int) (M : PH) (hk : k ≤ 1000000000000) : Ret 29 [I k] M (Tx (mText k)) := by
  refine Ret.of ?_
  refine xcall_of_vc Tryd.func29 rfl _ Tryd.ntmps29 _ rfl (fun _ _ => Tryd.call29 _ _) rfl (fun w0 ρ0 => ?_)
  conv => whnf
  refine caseB_dec (fun h0 => ?_) (fun h0 => ?_)
  · conv => whnf
    exact ⟨_, PH.Le.refl _, by rw [mText, if_pos h0]; rfl, PH.Le.refl _⟩
  conv => whnf
  refine loop_rule (fun z : Int × ByteArray => ⟨slots 20 [(0, .v (I z.1)), (3, .v (Tx z.2))], []⟩) (fun z M' => 0 ≤ z.1 ∧ z.2.size + z.1 ≤ 1000000000000 ∧ (∃ f : Nat, z.1.toNat ≤ f ∧ mGo f z.1 z.2 = mGo k.toNat k ByteArray.empty) ∧ M.Le M') (fun z => z.1.toNat) (k, ByteArray.empty) ?_ ?_ ?_
  · exact ⟨by simp [slots, leT]; rfl, ⟨[], rfl⟩, Nat.zero_le _, rfl, rfl⟩
  · exact ⟨by show 0 ≤ k; omega, by show (0 : Nat) + k ≤ _; omega, ⟨_, Nat.le_refl _, rfl⟩, PH.Le.refl _⟩
  rintro ⟨j, out⟩ M1 ⟨hj, hsz, ⟨f, hf, hg⟩, hl⟩
  have hj : 0 ≤ j := hj
  have hsz : out.size + j ≤ 1000000000000 := hsz
  have hf : j.toNat ≤ f := hf
  have hg : mGo f j out = mGo k.toNat k ByteArray.empty := hg
  conv => whnf
  refine caseB_dec (fun h1 => ?_) (fun h1 => ?_)
  · have h1 : 0 < j := h1
    obtain ⟨f', rfl⟩ : ∃ f', f = f' + 1 := ⟨f - 1, by omega⟩
    rw [mGo_step h1] at hg
    have hq : IntKind.i64.wrap (j.tdiv 10) = j / 10 := by rw [Int.tdiv_eq_ediv_of_nonneg hj, wrap_id (by omega) (by omega)]
    have h48 : IntKind.i64.wrap (48 + j.tmod 10) = 48 + j.tmod 10 := by rw [Int.tmod_eq_emod_of_nonneg hj, wrap_id (by omega) (by omega)]
    conv => whnf
    refine ⟨by decide, ?_⟩
    conv => whnf
    intro g hg0
    conv => whnf
    refine ⟨[IntKind.u8.wrap (IntKind.i64.wrap (48 + j.tmod 10))], ⟨rfl, .inr ⟨⟨g, 0, none⟩, rfl, fun i x hx => ?_⟩⟩, ?_⟩
    · rw [add_at]
      simp only [PH.cell, PH.set_same]
      cases i with
      | zero => simpa using hx
      | succ i => simp at hx
    conv => whnf
    refine ⟨cat_fits' (by show (mDig j).size + _ ≤ _; rw [mDig_size]; omega), ?_⟩
    conv => whnf
    refine ⟨by decide, ?_⟩
    conv => whnf
    refine ⟨(j / 10, mDig j ++ out), ⟨by simp [slots, leT, hq, mDig], ⟨[], rfl⟩, Nat.zero_le _, rfl, rfl⟩, ⟨by show 0 ≤ j / 10; omega, ?_, ⟨f', by show (j / 10).toNat ≤ f'; omega, hg⟩, hl.trans (PH.Le.set _ hg0)⟩, by show (j / 10).toNat < j.toNat; omega⟩
    show ((mDig j ++ out).size : Int) + j / 10 ≤ _
    rw [ByteArray.size_append, mDig_size]
    omega
  · have h1 : ¬ 0 < j := h1
    rw [mGo_end h1] at hg
    conv => whnf
    refine ⟨cat_fits' (by show 1 + _ ≤ _; omega), ?_⟩
    conv => whnf
    exact ⟨_, PH.Le.refl _, by rw [mText, if_neg h0, ← hg]; rfl, hl⟩
theorem stC_one (x : ByteArray) : ∀ v ∈ stC x, v.oneCell' = true := by intro v hv; simp at hv; subst hv; rfl
theorem byC_one (x : Int) : ∀ v ∈ byC x, v.oneCell' = true := by intro v hv; simp at hv; subst hv; rfl
theorem Hd_one (x : Hd) : ∀ v ∈ x.cs, v.oneCell' = true := by intro v hv; simp at hv; rcases hv with rfl | rfl <;> rfl
def mkB (k : Int) : Int := IntKind.u8.wrap k
def mkH (k : Int) : Hd := ⟨mText k, mText (IntKind.i64.wrap (k + 1))⟩
abbrev marksS (k : Int) (n : Nat) : List ByteArray := marksL mText 1 k n
abbrev marksB (k : Int) (n : Nat) : List Int := marksL mkB 1 k n
abbrev marksH (k : Int) (n : Nat) : List Hd := marksL mkH 2 k n
theorem markStringS_ret (o : Option Nat) (A : Option Addr) (c : Nat) (ws : List ByteArray) (k : Int) (M : PH) (h : Ow M o A c 1 stC ws) (hn : ws.length ≤ 4294967296) (hk : 0 ≤ k ∧ k ≤ 900000000000) :
    ACall env 30 [.slice A ws.length c, I k] M fun r M' => r = I (k + 1 * ws.length) ∧ Ow M' o A c 1 stC (marksL mText 1 k ws.length) ∧ Keeps o M M' := by
  refine xcall_of_vc Tryd.func30 rfl _ Tryd.ntmps30 _ rfl (fun _ _ => Tryd.call30 _ _) rfl (fun w0 ρ0 => ?_)
  conv => whnf
  refine loop_rule (fun i : Nat => ⟨slots 20 [(0, .v (.slice A ws.length c)), (1, .v (I (k + 1 * i))), (5, .v (I i))], []⟩) (fun i M' => i ≤ ws.length ∧ Ow M' o A c 1 stC (markT mText 1 k ws i) ∧ Keeps o M M') (fun i => ws.length - i) 0 ?_ ?_ ?_
  · exact ⟨by simp [slots, leT], ⟨[], rfl⟩, Nat.zero_le _, rfl, rfl⟩
  · exact ⟨Nat.zero_le _, by rw [markT_zero]; exact h, Keeps.refl M⟩
  · rintro i M1 ⟨hi, h1, k1⟩
    conv => whnf
    repeat' (first | (refine ⟨⟨[], rfl⟩, _, PH.Le.refl _, PH.Le.refl _, ?_⟩; conv => whnf) | (refine caseB_true ?_; conv => whnf) | (refine caseB_false ?_; conv => whnf) | ((with_reducible refine caseB_dec (fun h => ?_) (fun h => ?_)) <;> conv => whnf) | ((with_reducible refine caseB_ndec (fun h => ?_) (fun h => ?_)) <;> conv => whnf) | ((with_reducible refine caseB_not (fun h => ?_) (fun h => ?_)) <;> conv => whnf) | (with_reducible refine @And.intro (guardVC _ _ _ _ _) _ ?_ ?_) <;> conv => whnf | (refine caseB_intro (fun h => ?_) (fun h => ?_) <;> (try simp only [Bool.not_eq_true', Bool.not_eq_false', decide_eq_true_eq, decide_eq_false_iff_not] at h) <;> conv => whnf))
    · have hi' : i < ws.length := by omega
      have hl1 := markT_length mText 1 k ws hi
      have hw : IntKind.i64.wrap ((i : Int) + 1) = (i : Int) + 1 := wr_id (by omega) (by omega)
      have hw1 : IntKind.i64.wrap (k + 1 * i + 1) = k + 1 * (i + 1) := by rw [wrap_id (by omega) (by omega)]; omega
      have hw3 : IntKind.i64.wrap (k + i + 1) = k + (i + 1) := by rw [wrap_id (by omega) (by omega)]; omega
      have hA := ((h1.sl st_len).get (i := i) (by omega)).1
      refine Ret.go (markText_ret _ _ (by omega)) ?_
      conv => whnf
      refine ⟨by omega, by omega, hA, ?_⟩
      conv => whnf
      refine own_store (i := i) (j := 0) h1 st_len (by omega) (by simp) (mText (k + 1 * i)) rfl fun M2 h2 k2 => ?_
      conv => whnf
      rw [markT_set mText 1 k ws hi'] at h2
      exact ⟨i + 1, ⟨by simp [slots, leT, hw, hw1, hw3], ⟨[], rfl⟩, Nat.zero_le _, rfl, rfl⟩, ⟨by omega, h2, k1.trans k2⟩, by omega⟩
    · have hi' : i = ws.length := by omega
      subst hi'
      rw [markT_all] at h1
      exact ⟨_, PH.Le.refl _, rfl, h1, k1⟩
theorem heldStringS_ret (A : Option Addr) (c n : Nat) (k : Int) (M : PH) (hM : Sl M A 1 stC (marksL mText 1 k n)) (hn : n ≤ 4294967296) (hk : 0 ≤ k ∧ k ≤ 900000000000) :
    Ret 31 [.slice A n c, I k] M (I (k + 1 * n)) := by
  refine xcall_of_vc Tryd.func31 rfl _ Tryd.ntmps31 _ rfl (fun _ _ => Tryd.call31 _ _) rfl (fun w0 ρ0 => ?_)
  conv => whnf
  refine loop_rule (fun i : Nat => ⟨slots 22 [(0, .v (.slice A n c)), (1, .v (I (k + 1 * i))), (4, .v (I 0)), (5, .v (I i))], []⟩) (fun i M' => i ≤ n ∧ M' = M) (fun i => n - i) 0 ?_ ?_ ?_
  · exact ⟨by simp [slots, leT], ⟨[], rfl⟩, Nat.zero_le _, rfl, rfl⟩
  · exact ⟨Nat.zero_le _, rfl⟩
  · rintro i M' ⟨hi, rfl⟩
    conv => whnf
    repeat' (first | (refine ⟨⟨[], rfl⟩, _, PH.Le.refl _, PH.Le.refl _, ?_⟩; conv => whnf) | (refine caseB_true ?_; conv => whnf) | (refine caseB_false ?_; conv => whnf) | ((with_reducible refine caseB_dec (fun h => ?_) (fun h => ?_)) <;> conv => whnf) | ((with_reducible refine caseB_ndec (fun h => ?_) (fun h => ?_)) <;> conv => whnf) | ((with_reducible refine caseB_not (fun h => ?_) (fun h => ?_)) <;> conv => whnf) | (with_reducible refine @And.intro (guardVC _ _ _ _ _) _ ?_ ?_) <;> conv => whnf | (refine caseB_intro (fun h => ?_) (fun h => ?_) <;> (try simp only [Bool.not_eq_true', Bool.not_eq_false', decide_eq_true_eq, decide_eq_false_iff_not] at h) <;> conv => whnf))
    · have hi' : i < n := by omega
      have hl : (marksL mText 1 k n).length = n := marksL_length mText 1 k n
      have hw : IntKind.i64.wrap ((i : Int) + 1) = (i : Int) + 1 := wr_id (by omega) (by omega)
      have hw1 : IntKind.i64.wrap (k + 1 * i + 1) = k + 1 * (i + 1) := by rw [wrap_id (by omega) (by omega)]; omega
      have hw3 : IntKind.i64.wrap (k + i + 1) = k + (i + 1) := by rw [wrap_id (by omega) (by omega)]; omega
      obtain ⟨hA, _, hc⟩ := hM.get (i := i) (by omega)
      rw [marksL_get] at hc
      repeat' (first | (refine ⟨⟨[], rfl⟩, _, PH.Le.refl _, PH.Le.refl _, ?_⟩; conv => whnf) | (refine ⟨_, hc, ?_⟩; conv => whnf) | (refine ⟨by omega, by omega, hA, ?_⟩; conv => whnf) | (refine caseB_true ?_; conv => whnf) | (refine caseB_false ?_; conv => whnf) | ((with_reducible refine caseB_dec (fun h => ?_) (fun h => ?_)) <;> conv => whnf) | ((with_reducible refine caseB_ndec (fun h => ?_) (fun h => ?_)) <;> conv => whnf) | ((with_reducible refine caseB_not (fun h => ?_) (fun h => ?_)) <;> conv => whnf) | (refine Ret.go (markText_ret _ _ (by omega)) ?_; conv => whnf) | (refine draw_rule (.light 0 <| .light 1 <| .light 2 <| .light 3 <| .light 4 <| .alt 5 false (.light 6 <| .done) .nil) (by decide +kernel) ?_; conv => whnf) | (with_reducible refine @And.intro (guardVC _ _ _ _ _) _ ?_ ?_) <;> conv => whnf | (refine caseB_intro (fun h => ?_) (fun h => ?_) <;> (try simp only [Bool.not_eq_true', Bool.not_eq_false', decide_eq_true_eq, decide_eq_false_iff_not] at h) <;> conv => whnf))
      all_goals first | (exfalso; exact h rfl; done) | (exfalso; simp [seq_self] at h; done) | skip
      exact ⟨i + 1, ⟨by simp [slots, leT, hw, hw1, hw3], ⟨[], rfl⟩, Nat.zero_le _, rfl, rfl⟩, ⟨by omega, rfl⟩, by omega⟩
    · have hi' : i = n := by omega
      subst hi'
      exact ⟨_, PH.Le.refl _, rfl, rfl⟩
theorem markHeaderS_ret (o : Option Nat) (A : Option Addr) (c : Nat) (ws : List Hd) (k : Int) (M : PH) (h : Ow M o A c 2 Hd.cs ws) (hn : ws.length ≤ 4294967296) (hk : 0 ≤ k ∧ k ≤ 900000000000) :
    ACall env 11 [.slice A ws.length c, I k] M fun r M' => r = I (k + 2 * ws.length) ∧ Ow M' o A c 2 Hd.cs (marksL mkH 2 k ws.length) ∧ Keeps o M M' := by
  refine xcall_of_vc Tryd.func11 rfl _ Tryd.ntmps11 _ rfl (fun _ _ => Tryd.call11 _ _) rfl (fun w0 ρ0 => ?_)
  conv => whnf
  refine loop_rule (fun i : Nat => ⟨slots 29 [(0, .v (.slice A ws.length c)), (1, .v (I (k + 2 * i))), (5, .v (I i))], []⟩) (fun i M' => i ≤ ws.length ∧ Ow M' o A c 2 Hd.cs (markT mkH 2 k ws i) ∧ Keeps o M M') (fun i => ws.length - i) 0 ?_ ?_ ?_
  · exact ⟨by simp [slots, leT], ⟨[], rfl⟩, Nat.zero_le _, rfl, rfl⟩
  · exact ⟨Nat.zero_le _, by rw [markT_zero]; exact h, Keeps.refl M⟩
  · rintro i M1 ⟨hi, h1, k1⟩
    conv => whnf
    repeat' (first | (refine ⟨⟨[], rfl⟩, _, PH.Le.refl _, PH.Le.refl _, ?_⟩; conv => whnf) | (refine caseB_true ?_; conv => whnf) | (refine caseB_false ?_; conv => whnf) | ((with_reducible refine caseB_dec (fun h => ?_) (fun h => ?_)) <;> conv => whnf) | ((with_reducible refine caseB_ndec (fun h => ?_) (fun h => ?_)) <;> conv => whnf) | ((with_reducible refine caseB_not (fun h => ?_) (fun h => ?_)) <;> conv => whnf) | (with_reducible refine @And.intro (guardVC _ _ _ _ _) _ ?_ ?_) <;> conv => whnf | (refine caseB_intro (fun h => ?_) (fun h => ?_) <;> (try simp only [Bool.not_eq_true', Bool.not_eq_false', decide_eq_true_eq, decide_eq_false_iff_not] at h) <;> conv => whnf))
    · have hi' : i < ws.length := by omega
      have hl1 := markT_length mkH 2 k ws hi
      have hw : IntKind.i64.wrap ((i : Int) + 1) = (i : Int) + 1 := wr_id (by omega) (by omega)
      have hw1 : IntKind.i64.wrap (k + 2 * i + 1) = k + 2 * i + 1 := wr_id (by omega) (by omega)
      have hw2 : IntKind.i64.wrap (k + 2 * i + 1 + 1) = k + 2 * (i + 1) := by rw [wrap_id (by omega) (by omega)]; omega
      have hA := ((h1.sl Hd.len).get (i := i) (by omega)).1
      refine Ret.go (markText_ret _ _ (by omega)) ?_
      conv => whnf
      refine ⟨by omega, by omega, hA, ?_⟩
      conv => whnf
      refine own_store (i := i) (j := 0) h1 Hd.len (by omega) (by simp) ⟨mText (k + 2 * i), (markT mkH 2 k ws i)[i].v⟩ rfl fun M2 h2 k2 => ?_
      conv => whnf
      refine Ret.go (markText_ret _ _ (by rw [hw1]; omega)) ?_
      conv => whnf
      refine ⟨by omega, by omega, hA, ?_⟩
      conv => whnf
      refine own_store (i := i) (j := 1) h2 Hd.len (by simp; omega) (by simp) (mkH (k + 2 * i)) (by simp [mkH, spl]) fun M3 h3 k3 => ?_
      conv => whnf
      rw [List.set_set, markT_set mkH 2 k ws hi'] at h3
      exact ⟨i + 1, ⟨by simp [slots, leT, hw, hw1, hw2], ⟨[], rfl⟩, Nat.zero_le _, rfl, rfl⟩, ⟨by omega, h3, (k1.trans k2).trans k3⟩, by omega⟩
    · have hi' : i = ws.length := by omega
      subst hi'
      rw [markT_all] at h1
      exact ⟨_, PH.Le.refl _, rfl, h1, k1⟩
end Go.Proofs.YtdgipmlkkmmliaaDoor
