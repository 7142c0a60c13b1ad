/-
  FROM WHAT THE ROW LISTS to what the walks ask of the library's variables.
-/
import Derived.Test.YtdgipmlkkmmliaaGreatDoorRows
import Derived.Test.YtdgipmlkkmmliaaGreatDoorRc
import Derived.Test.YtdgipmlkkmmliaaGreatDoorXr
import Derived.Stop.LaidErr
import Derived.Lib.LaidTab
namespace Go.Proofs.YtdgipmlkkmmliaaGreatDoor
set_option maxRecDepth 100000
set_option linter.unusedSimpArgs false
set_option linter.unusedVariables false
open Go.RowKit Go.Xe
theorem var_at {n : String} {g : Nat} {W : World} {cs : Array Value} (hg : Tryz.prog.globalNamed n = some g) (h : W.var? Tryz.prog n = some cs) : ∃ t fz, whole W g = some (.cells cs t fz) := by
  unfold World.var? at h
  rw [hg] at h
  simp only [Option.bind_some] at h
  split at h
  · rename_i c t fz hc
    cases h
    exact ⟨t, fz, hc⟩
  · cases h
theorem gSyn : Tryz.prog.globalNamed "strconv.ErrSyntax" = some 3 := by kernel_rfl
theorem gRng : Tryz.prog.globalNamed "strconv.ErrRange" = some 4 := by kernel_rfl
theorem gSynT : (Tryz.prog.globals[3]?).map (·.type) = some 149 := by kernel_rfl
theorem gRngT : (Tryz.prog.globals[4]?).map (·.type) = some 149 := by kernel_rfl
theorem starS : "*" ++ "errors.errorString" = "*errors.errorString" := by decide
theorem rowErr (u : TypeId) (h : Tryz.prog.typeName? 3 u = some "*errors.errorString") : u = 220 :=
  typeName_ptr_named (nm := "errors.errorString") (by rw [starS]; kernel_rfl) (by kernel_rfl) (by decide) u (by rw [starS]; exact h)
theorem lw_of_laid {W : World} {a b c : String × DataW Unit} {r : List (String × DataW Unit)} (h : laidMet Tryz.prog (a :: b :: ("internal/strconv.uint64pow10", Rows.laid_internal_strconv_uint64pow10) :: c :: ("strconv.ErrRange", Rows.laid_strconv_ErrRange) :: ("strconv.ErrSyntax", Rows.laid_strconv_ErrSyntax) :: r) W) : Lw (whole W) := by
  have h2 := h.tail.tail
  have h4 := h2.tail.tail
  have h5 := h4.tail
  obtain ⟨a0, s0, hv0, -, -, -⟩ := laid_sentinel h4 gRng gRngT Tryz.underlying149 rowErr Tryz.underlying220 Tryz.underlying222 rfl rfl Tryz.underlying9 (by kernel_rfl) (by kernel_rfl)
  obtain ⟨a1, s1, hv1, -, -, -⟩ := laid_sentinel h5 gSyn gSynT Tryz.underlying149 rowErr Tryz.underlying220 Tryz.underlying222 rfl rfl Tryz.underlying9 (by kernel_rfl) (by kernel_rfl)
  obtain ⟨t0, z0, e0⟩ := var_at gRng hv0
  obtain ⟨t1, z1, e1⟩ := var_at gSyn hv1
  have hd : (Rows.laid_internal_strconv_uint64pow10 : DataW Unit) = Lib.tabData .u64 Lib.pow10Tab := by rfl
  rw [hd] at h2
  have ht := Lib.tabIs_of_head (t := 224) (e := 204) (n := 20) gTab (by kernel_rfl) (by kernel_rfl) (by kernel_rfl) (by kernel_rfl) (by kernel_rfl) h2
  obtain ⟨t2, z2, e2⟩ := var_at gTab ht
  exact ⟨⟨_, _, t1, z1, e1⟩, ⟨_, _, t0, z0, e0⟩, ⟨t2, z2, e2⟩⟩
end Go.Proofs.YtdgipmlkkmmliaaGreatDoor
