/-
  THE ROW OF 'FnExactMetaFault': whatever the bookkeeping that comes in, the law returns true and changes nothing.
-/
import Derived.Test.YtffddijdfeafnaaRows
import Derived.Test.YtffddijdfeafnaaCa
import Derived.Test.YtffddijdfeafnaaXr
import Derived.ProofKit
import Derived.OpenShut
import Derived.ShutString
import Derived.ChangeOld
import Derived.Below
namespace Go.Proofs.Ytffddijdfeafnaa
open Go.ChangeShapes Go.WideShapes Go.ChangeAt Go.RowKit Go.Xe
set_option linter.unusedVariables false
set_option maxRecDepth 100000 in
theorem openMeta {H : Type} {enc : TypeId × Value → H} {W : World} {base : Nat} {v : Value} {d : DataW H} {p : List MemPlace} (hv : Value.okWide Try.prog W .any base 35 v)
    (h : DataW.Trod enc Try.prog W 0 (fun _ => true) true 35 v d p) : ∃ m : Mt, v = m.v := by
  obtain ⟨cs, rfl, hs⟩ := open_arg env 9 (ti := ti35) (by kernel_rfl) (s := .fcons (.int .i64) 1 <| .fcons (.int .i64) 1 <| .fcons (.int .i64) 1 <| .fcons (.int .i64) 1 <| .fcons (.int .i64) 1 <| .fcons .bool 1 <| .fcons .bool 1 .fnil) (by kernel_rfl) hv h
  obtain ⟨_, _, _, ⟨n0, _, rfl⟩, ⟨_, _, _, ⟨n1, _, rfl⟩, ⟨_, _, _, ⟨n2, _, rfl⟩, ⟨_, _, _, ⟨n3, _, rfl⟩, ⟨_, _, _, ⟨n4, _, rfl⟩, ⟨_, _, _, ⟨b5, rfl⟩, ⟨_, _, _, ⟨b6, rfl⟩, rfl, rfl⟩, rfl⟩, rfl⟩, rfl⟩, rfl⟩, rfl⟩, rfl⟩ := hs
  exact ⟨⟨n0, n1, n2, n3, n4, b5, b6⟩, rfl⟩

set_option maxRecDepth 100000 in
theorem metaFault_lifted (os : Os) (started : os.Started) (H : Type) (enc : TypeId × Value → H) :
    ReturnsInHanded {} Try.checked os 5 .any (Rows.fnExactMetaFaultSpec.pre6 enc Try.prog Try.f5 Rows.fnExactMetaFaultRow.domain false) (Rows.fnExactMetaFaultSpec.post enc Try.prog Try.f5 false true false false) := by
  refine returnsInHanded_of_change (C := Try.checked) own started (by kernel_rfl) Try.func5
    (ChangeSpec.witness6 (enc := enc) (C := Try.checked) false ⟨#[], #[.agg #[.int .i64 0, .int .i64 0, .int .i64 0, .int .i64 0, .int .i64 0, .bool false, .bool false]], []⟩ 8 (by kernel_rfl) (by kernel_rfl) (by kernel_rfl) (by kernel_rfl)) ?_
  intro W base args ds gs before hval0 hW hcnd _
  have hval : ∀ (j : Nat) t v, Try.f5.params[j]? = some t → args[j]? = some v → Value.okWide Try.prog W .any base t v := hval0
  have hW' := hW
  obtain ⟨p, q, hA0, hV, rfl, hfz, hnd⟩ := hW
  have hA : DataW.TrodAll enc Try.prog W 0 (fun _ => true) true Try.f5.params.toList args.toList ds p := hA0
  rw [Try.params5] at hA hval
  obtain ⟨v0, vs0, d0, ds0, p0, q0, hargs, rfl, rfl, h0, r0⟩ := trodAll_cons hA
  obtain ⟨rfl, rfl, rfl⟩ := trodAll_nil r0
  obtain rfl : args = #[v0] := by cases args; simp_all
  obtain ⟨rfl, rfl⟩ := trodVars_none hV
  have k0 := h0
  have lt0 : ∀ x ∈ p0, x.block < W.heap.size := by obtain ⟨m, hm⟩ := k0; exact DataW.trod_lt m _ _ _ hm
  obtain ⟨m0, rfl⟩ := openMeta (hval 0 35 v0 rfl rfl) h0
  clear hA0 hval0
  refine (calls_of_acall (E := env) (R := fun r => r = .bool true) ((metaFault_law m0 (whole W)).mono fun r M' h => ⟨h.1, by rw [h.2]; exact PH.Le.refl _⟩)).mono fun e W' ⟨r, he, hr, bel⟩ => ?_
  subst he; subst hr
  exact ⟨_, rfl, _, _, _, [], _, [], hW', trodAll_mk1 (shut_bool Try.underlying4 _), (trodAll_cons_mk (Below.trod laidOut (by kernel_rfl) (of_decide_eq_true (by kernel_rfl)) k0 bel lt0) trodAll_mk0), rfl, bel.frame _, fun h => by cases h⟩

theorem fnExactMetaFault_holds : Rows.FnExactMetaFaultSaid :=
  OpenClaim.holds_of_wide 5 Try.f5 rfl rfl rfl rfl rfl rfl rfl ⟨rfl, rfl, rfl, rfl, rfl⟩ rfl rfl rfl rfl rfl (by kernel_rfl) Try.func5 (by kernel_rfl)
    (of_decide_eq_true (by kernel_rfl)) (by unfold Func.isWrapper; first | (rw [if_pos (by decide +kernel)]; kernel_rfl) | (rw [if_neg (by decide +kernel)]; exact ⟨rfl, rfl⟩))
    (fun os started H enc _ => metaFault_lifted os started H enc)
#print axioms fnExactMetaFault_holds
end Go.Proofs.Ytffddijdfeafnaa
