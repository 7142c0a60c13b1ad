/-
  CONTRACTS: purged, the given program's way.
-/
import Derived.Test.YtafgnmiflngjhaaGreatDoorWh
namespace Go.Proofs.YtafgnmiflngjhaaGreatDoor
set_option maxRecDepth 100000
set_option linter.unusedSimpArgs false
set_option linter.unusedVariables false
open Go.ChangeShapes Go.WideShapes Go.RowKit Go.Xe
theorem XCall.args {E : Env} {f : FuncId} {args args' : List AV} {bx : List Box} {M : PH} {R : Value → List Box → PH → Prop} (h : XCall E f args bx M R) (hr : ∀ ρ vs, RelL ρ args' vs → RelL ρ args vs) : XCall E f args' bx M R :=
  ⟨h.en, fun ρ w vs h1 h2 h3 h4 h5 => h.run ρ w vs h1 h2 h3 h4 (hr ρ vs h5)⟩
theorem hasKey_calls (t : ByteArray) (w : World) : Calls Tryz.prog 109 #[.string t] w fun e w' => e = .returned (.func (.func 168) #[] #[.pointer (some ⟨w.heap.size, 0, none⟩)]) ∧ w' = w.alloc (.cells #[.string t] 9 (0, 0)) := by
  go_enter Tryz.func109, Tryz.ntmps109
  go_wp2
  go_ret
  exact ⟨rfl, rfl⟩
theorem hasKey_ret (t : ByteArray) (M : PH) : ACall env 109 [Tx t] M fun r M' => ∃ g, M g = none ∧ r = .func (.func 168) #[] #[.pointer (some ⟨g, 0, none⟩)] ∧ M' = M.set g (.cells #[Tx t] 9 (0, 0)) :=
  new_of_calls (fun g => .func (.func 168) #[] #[.pointer (some ⟨g, 0, none⟩)]) _ (fun _ _ => Tryz.call109 _ _) fun w => hasKey_calls t w
theorem hasKey1_ret (y : EnA) (g : Nat) (t : ByteArray) (M : PH) (hg : M.cells (some ⟨g, 0, none⟩) 0 [Tx t]) : Ret 168 [y.val, .pointer (some ⟨g, 0, none⟩)] M (B (seq y.c.key t)) := by
  refine xcall_of_vc Tryz.func168 rfl _ Tryz.ntmps168 _ rfl (fun _ _ => Tryz.call168 _ _) rfl (fun w0 ρ0 => ?_)
  conv => whnf
  repeat' (first | (refine ⟨⟨[], rfl⟩, _, PH.Le.refl _, PH.Le.refl _, ?_⟩; conv => whnf) | (refine ⟨_, hg, ?_⟩; conv => whnf) | (refine caseB_true ?_; conv => whnf) | (refine caseB_false ?_; conv => whnf) | ((with_reducible refine caseB_dec (fun h => ?_) (fun h => ?_)) <;> conv => whnf) | ((with_reducible refine caseB_ndec (fun h => ?_) (fun h => ?_)) <;> conv => whnf) | ((with_reducible refine caseB_not (fun h => ?_) (fun h => ?_)) <;> conv => whnf) | (with_reducible refine @And.intro (guardVC _ _ _ _ _) _ ?_ ?_) <;> conv => whnf | (refine caseB_intro (fun h => ?_) (fun h => ?_) <;> (try simp only [Bool.not_eq_true', Bool.not_eq_false', decide_eq_true_eq, decide_eq_false_iff_not] at h) <;> conv => whnf))
  exact ⟨_, PH.Le.refl _, rfl, rfl⟩
theorem isAny_ret (y : EnA) (M : PH) : Ret 107 [y.val] M (B true) := by
  refine xcall_of_vc Tryz.func107 rfl _ Tryz.ntmps107 _ rfl (fun _ _ => Tryz.call107 _ _) rfl (fun w0 ρ0 => ?_)
  conv => whnf
  exact ⟨_, PH.Le.refl _, rfl, rfl⟩
def soft1 (e : En) : En := { e with mt := { e.mt with soft := true } }
def softK (es : List En) (ks : List ByteArray) : List En := es.map fun e => if tagT ks e.key then soft1 e else e
def softS (s : Sc) (ks : List ByteArray) : Sc := ⟨s.bud, s.gd, softK s.tr ks, softK s.kp ks⟩
def purgeS (s : Sc) (ks : List ByteArray) (hard : Bool) : Sc := if hard then ks.foldl dropS s else softS s ks
theorem softK_nil (es : List En) : softK es [] = es := by
  unfold softK
  have : (fun e : En => if tagT [] e.key = true then soft1 e else e) = id := by funext e; simp [tagT]
  rw [this, List.map_id]
theorem soft_soft (e : En) : soft1 (soft1 e) = soft1 e := rfl
theorem tagT_snoc (ks : List ByteArray) (k t : ByteArray) : tagT (ks ++ [k]) t = (tagT ks t || seq k t) := by unfold tagT; simp
theorem softK_key (es : List En) (ks : List ByteArray) : (softK es ks).map (·.key) = es.map (·.key) := by
  unfold softK
  rw [List.map_map]
  apply List.map_congr_left
  intro e _
  simp only [Function.comp]
  split <;> rfl
/-- One more key: no entry has it. -/
theorem softK_no {es : List En} {ks : List ByteArray} {k : ByteArray} (h : ∀ e ∈ es, seq e.key k = false) : softK es (ks ++ [k]) = softK es ks := by
  unfold softK
  apply List.map_congr_left
  intro e he
  rw [tagT_snoc, seq_comm, h e he, Bool.or_false]
/-- One more key: entry j alone has it. -/
theorem softK_at {es : List En} {ks : List ByteArray} {k : ByteArray} {j : Nat} (hj : j < es.length) (h1 : seq es[j].key k = true) (h2 : ∀ i, ∀ hi : i < es.length, i ≠ j → seq es[i].key k = false) :
    (softK es ks).set j (soft1 ((softK es ks)[j]'(by unfold softK; simpa using hj))) = softK es (ks ++ [k]) := by
  apply List.ext_getElem?
  intro i
  rw [List.getElem?_set]
  by_cases e : j = i
  · subst e
    have hl : j < (softK es ks).length := by unfold softK; simpa using hj
    rw [if_pos rfl, if_pos hl]
    unfold softK
    rw [List.getElem?_map, List.getElem?_eq_getElem hj, Option.map_some, List.getElem_map, tagT_snoc, seq_comm k, h1, Bool.or_true]
    congr 1
    simp only [if_true]
    split <;> rfl
  · rw [if_neg e]
    unfold softK
    rw [List.getElem?_map, List.getElem?_map]
    cases hx : es[i]? with
    | none => rfl
    | some x =>
      obtain ⟨hi, rfl⟩ := List.getElem?_eq_some_iff.1 hx
      simp only [Option.map_some]
      rw [tagT_snoc, seq_comm k, h2 i hi (fun e2 => e e2.symm), Bool.or_false]
theorem aptK_ne {es : List En} {k : ByteArray} {j : Nat} (h : AptG En.key es) (hj : j < es.length) (h1 : seq es[j].key k = true) : ∀ i, ∀ hi : i < es.length, i ≠ j → seq es[i].key k = false := by
  intro i hi hne
  rw [seq_ne]
  intro e
  have e1 := seq_iff.1 h1
  rcases Nat.lt_or_gt_of_ne hne with h3 | h3
  · exact aptG_no hj h3 (e1.trans e.symm) h
  · exact aptG_no hi h3 (e.trans e1.symm) h
end Go.Proofs.YtafgnmiflngjhaaGreatDoor
