/-
  THE ROW OF 'FnExactCancelBulk': whatever the arguments that come in, the law returns true and changes nothing that stood. Written by a small program (lrow.py).
-/
import Derived.Test.YtpiakjcmbnfdlaaRows
import Derived.Test.YtpiakjcmbnfdlaaLy
import Derived.Test.YtpiakjcmbnfdlaaXr
import Derived.ProofKit
import Derived.OpenShut
import Derived.ShutString
import Derived.ChangeOld
import Derived.Below
namespace Go.Proofs.Ytpiakjcmbnfdlaa
open Go.ChangeShapes Go.WideShapes Go.ChangeAt Go.RowKit Go.Xe
set_option linter.unusedVariables false
set_option maxRecDepth 100000 in
theorem fnExactCancelBulk_open37 {H : Type} {enc : TypeId × Value → H} {W : World} {base : Nat} {v : Value} {d : DataW H} {p : List MemPlace} (hv : Value.okWide Try.prog W .any base 37 v)
    (h : DataW.Trod enc Try.prog W 0 (fun _ => true) true 37 v d p) : ∃ m : Ln, v = m.v := by
  obtain ⟨cs, rfl, hs⟩ := open_arg env 9 (ti := ti37) (by kernel_rfl) (s := .fcons (.int .i64) 1 (.fcons (.int .i64) 1 (.fcons (.int .i64) 1 .fnil))) (by kernel_rfl) hv h
  obtain ⟨_, _, _, ⟨n0, _, rfl⟩, ⟨_, _, _, ⟨n1, _, rfl⟩, ⟨_, _, _, ⟨n2, _, rfl⟩, rfl, rfl⟩, rfl⟩, rfl⟩ := hs
  exact ⟨⟨n0, n1, n2⟩, rfl⟩
set_option maxRecDepth 100000 in
theorem fnExactCancelBulk_lifted (os : Os) (started : os.Started) (H : Type) (enc : TypeId × Value → H) :
    ReturnsInHanded {} Try.checked os 10 .any (Rows.fnExactCancelBulkSpec.pre6 enc Try.prog Try.f10 Rows.fnExactCancelBulkRow.domain false) (Rows.fnExactCancelBulkSpec.post enc Try.prog Try.f10 false true false false) := by
  refine returnsInHanded_of_change (C := Try.checked) own started (by kernel_rfl) Try.func10
    (ChangeSpec.witness6 (enc := enc) (C := Try.checked) false ⟨#[], #[.agg #[.int .i64 0, .slice none 0 0], .agg #[.int .i64 0, .int .i64 0, .int .i64 0], .int .i64 0], []⟩ 8 (by kernel_rfl) (by kernel_rfl) (by kernel_rfl) (by kernel_rfl)) ?_
  intro W base args ds gs before hval0 hW hcnd _
  have hval : ∀ (j : Nat) t v, Try.f10.params[j]? = some t → args[j]? = some v → Value.okWide Try.prog W .any base t v := hval0
  have hW' := hW
  obtain ⟨p, q, hA0, hV, rfl, hfz, hnd⟩ := hW
  have hA : DataW.TrodAll enc Try.prog W 0 (fun _ => true) true Try.f10.params.toList args.toList ds p := hA0
  rw [Try.params10] at hA hval
  obtain ⟨v0, vs0, d0, ds0, p0, q0, hargs, rfl, rfl, h0, r0⟩ := trodAll_cons hA
  obtain ⟨v1, vs1, d1, ds1, p1, q1, rfl, rfl, rfl, h1, r1⟩ := trodAll_cons r0
  obtain ⟨v2, vs2, d2, ds2, p2, q2, rfl, rfl, rfl, h2, r2⟩ := trodAll_cons r1
  obtain ⟨rfl, rfl, rfl⟩ := trodAll_nil r2
  obtain rfl : args = #[v0, v1, v2] := by cases args; simp_all
  obtain ⟨rfl, rfl⟩ := trodVars_none hV
  have k0 := h0
  have lt0 : ∀ x ∈ p0, x.block < W.heap.size := by obtain ⟨m, hm⟩ := k0; exact DataW.trod_lt m _ _ _ hm
  have k1 := h1
  have lt1 : ∀ x ∈ p1, x.block < W.heap.size := by obtain ⟨m, hm⟩ := k1; exact DataW.trod_lt m _ _ _ hm
  have k2 := h2
  have lt2 : ∀ x ∈ p2, x.block < W.heap.size := by obtain ⟨m, hm⟩ := k2; exact DataW.trod_lt m _ _ _ hm
  obtain ⟨b0, A0, c0, ws0, rfl, hs0, hl0⟩ := openBulk (hval 0 35 v0 rfl rfl) h0
  obtain ⟨m1, rfl⟩ := fnExactCancelBulk_open37 (hval 1 37 v1 rfl rfl) h1
  obtain ⟨m2, rfl, _, _, _⟩ := open_int Try.underlying2 (hval 2 2 v2 rfl rfl) h2
  clear hA0 hval0
  refine (calls_of_acall (E := env) (R := fun r => r = .bool true) (cancelBulk_law b0 m1 m2 A0 c0 ws0 (whole W) hs0 hl0)).mono fun e W' ⟨r, he, hr, bel⟩ => ?_
  subst he; subst hr
  exact ⟨_, rfl, _, _, _, [], _, [], hW', trodAll_mk1 (shut_bool Try.underlying4 _), (trodAll_cons_mk (Below.trod laidOut (by kernel_rfl) (of_decide_eq_true (by kernel_rfl)) k0 bel lt0) (trodAll_cons_mk (Below.trod laidOut (by kernel_rfl) (of_decide_eq_true (by kernel_rfl)) k1 bel lt1) (trodAll_cons_mk (Below.trod laidOut (by kernel_rfl) (of_decide_eq_true (by kernel_rfl)) k2 bel lt2) trodAll_mk0))), rfl, bel.frame _, fun h => by cases h⟩
theorem fnExactCancelBulk_holds : Rows.FnExactCancelBulkSaid :=
  OpenClaim.holds_of_wide 10 Try.f10 rfl rfl rfl rfl rfl rfl rfl ⟨rfl, rfl, rfl, rfl, rfl⟩ rfl rfl rfl rfl rfl (by kernel_rfl) Try.func10 (by kernel_rfl)
    (of_decide_eq_true (by kernel_rfl)) (by unfold Func.isWrapper; first | (rw [if_pos (by decide +kernel)]; kernel_rfl) | (rw [if_neg (by decide +kernel)]; exact ⟨rfl, rfl⟩))
    (fun os started H enc _ => fnExactCancelBulk_lifted os started H enc)
#print axioms fnExactCancelBulk_holds
end Go.Proofs.Ytpiakjcmbnfdlaa
