/-
  MARKS: texts of numbers; rows of texts, bytes, head lines, numbered anew ('mark'), and read again ('held').
-/
import Derived.Test.YtafgnmiflngjhaaGreatDoorOa
import Derived.Test.YtafgnmiflngjhaaGreatDoorTa
import Derived.Test.YtafgnmiflngjhaaGreatDoorMa
namespace Go.Proofs.YtafgnmiflngjhaaGreatDoor
set_option maxRecDepth 100000
set_option linter.unusedSimpArgs false
set_option linter.unusedVariables false
open Go.Xe
theorem cat_fits' {a b : ByteArray} (h : a.size + b.size ≤ 9223372036854775807) : ((a.size + b.size : Nat) : Int) ≤ IntKind.i64.max := by
  have : IntKind.i64.max = 9223372036854775807 := by decide
  omega
def mDig (k : Int) : ByteArray := strOfNums [IntKind.u8.wrap (IntKind.i64.wrap (48 + k.tmod 10))]
theorem mDig_size (k : Int) : (mDig k).size = 1 := by unfold mDig; rw [strOfNums_size]; rfl
def mGo : Nat → Int → ByteArray → ByteArray
  | 0, _, out => out
  | f + 1, k, out => if 0 < k then mGo f (k / 10) (mDig k ++ out) else out
theorem mGo_end {k : Int} (h : ¬ 0 < k) : ∀ f out, mGo f k out = out
  | 0, _ => rfl
  | f + 1, out => by rw [mGo, if_neg h]
theorem mGo_step {k : Int} (h : 0 < k) (f : Nat) (out : ByteArray) : mGo (f + 1) k out = mGo f (k / 10) (mDig k ++ out) := by rw [mGo, if_pos h]
def mText (k : Int) : ByteArray := if k ≤ 0 then ⟨#[109, 48]⟩ else ⟨#[109]⟩ ++ mGo k.toNat k ByteArray.empty
theorem markText_ret (k : Int) (M : PH) (hk : k ≤ 1000000000000) : Ret 152 [I k] M (Tx (mText k)) := by
  refine Ret.of ?_
  refine xcall_of_vc Tryz.func152 rfl _ Tryz.ntmps152 _ rfl (fun _ _ => Tryz.call152 _ _) rfl (fun w0 ρ0 => ?_)
  conv => whnf
  refine caseB_dec (fun h0 => ?_) (fun h0 => ?_)
  · conv => whnf
    exact ⟨_, PH.Le.refl _, by rw [mText, if_pos h0]; rfl, PH.Le.refl _⟩
  conv => whnf
  refine loop_rule (fun z : Int × ByteArray => ⟨slots 20 [(0, .v (I z.1)), (3, .v (Tx z.2))], []⟩) (fun z M' => 0 ≤ z.1 ∧ z.2.size + z.1 ≤ 1000000000000 ∧ (∃ f : Nat, z.1.toNat ≤ f ∧ mGo f z.1 z.2 = mGo k.toNat k ByteArray.empty) ∧ M.Le M') (fun z => z.1.toNat) (k, ByteArray.empty) ?_ ?_ ?_
  · exact ⟨by simp [slots, leT]; rfl, ⟨[], rfl⟩, Nat.zero_le _, rfl, rfl⟩
  · exact ⟨by show 0 ≤ k; omega, by show (0 : Nat) + k ≤ _; omega, ⟨_, Nat.le_refl _, rfl⟩, PH.Le.refl _⟩
  rintro ⟨j, out⟩ M1 ⟨hj, hsz, ⟨f, hf, hg⟩, hl⟩
  have hj : 0 ≤ j := hj
  have hsz : out.size + j ≤ 1000000000000 := hsz
  have hf : j.toNat ≤ f := hf
  have hg : mGo f j out = mGo k.toNat k ByteArray.empty := hg
  conv => whnf
  refine caseB_dec (fun h1 => ?_) (fun h1 => ?_)
  · have h1 : 0 < j := h1
    obtain ⟨f', rfl⟩ : ∃ f', f = f' + 1 := ⟨f - 1, by omega⟩
    rw [mGo_step h1] at hg
    have hq : IntKind.i64.wrap (j.tdiv 10) = j / 10 := by rw [Int.tdiv_eq_ediv_of_nonneg hj, wrap_id (by omega) (by omega)]
    have h48 : IntKind.i64.wrap (48 + j.tmod 10) = 48 + j.tmod 10 := by rw [Int.tmod_eq_emod_of_nonneg hj, wrap_id (by omega) (by omega)]
    conv => whnf
    refine ⟨by decide, ?_⟩
    conv => whnf
    intro g hg0
    conv => whnf
    refine ⟨[IntKind.u8.wrap (IntKind.i64.wrap (48 + j.tmod 10))], ⟨rfl, .inr ⟨⟨g, 0, none⟩, rfl, fun i x hx => ?_⟩⟩, ?_⟩
    · rw [add_at]
      simp only [PH.cell, PH.set_same]
      cases i with
      | zero => simpa using hx
      | succ i => simp at hx
    conv => whnf
    refine ⟨cat_fits' (by show (mDig j).size + _ ≤ _; rw [mDig_size]; omega), ?_⟩
    conv => whnf
    refine ⟨by decide, ?_⟩
    conv => whnf
    refine ⟨(j / 10, mDig j ++ out), ⟨by simp [slots, leT, hq, mDig], ⟨[], rfl⟩, Nat.zero_le _, rfl, rfl⟩, ⟨by show 0 ≤ j / 10; omega, ?_, ⟨f', by show (j / 10).toNat ≤ f'; omega, hg⟩, hl.trans (PH.Le.set _ hg0)⟩, by show (j / 10).toNat < j.toNat; omega⟩
    show ((mDig j ++ out).size : Int) + j / 10 ≤ _
    rw [ByteArray.size_append, mDig_size]
    omega
  · have h1 : ¬ 0 < j := h1
    rw [mGo_end h1] at hg
    conv => whnf
    refine ⟨cat_fits' (by show 1 + _ ≤ _; omega), ?_⟩
    conv => whnf
    exact ⟨_, PH.Le.refl _, by rw [mText, if_neg h0, ← hg]; rfl, hl⟩
end Go.Proofs.YtafgnmiflngjhaaGreatDoor
