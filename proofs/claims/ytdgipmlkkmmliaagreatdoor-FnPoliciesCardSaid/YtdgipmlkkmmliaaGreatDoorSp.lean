/-
  THE LIBRARY'S TEXTS: Join, Split at a byte.
-/
import Derived.Test.YtdgipmlkkmmliaaGreatDoorTe
import Derived.Room.Shelf.Join48
import Derived.Shelf.Strings.Split
import Derived.ProofKit
namespace Go.Proofs.YtdgipmlkkmmliaaGreatDoor
set_option maxRecDepth 100000
set_option linter.unusedSimpArgs false
set_option linter.unusedVariables false
open Go.Shelf Go.RowKit Go.Xe
/-- A contract of the shelf's that lays one block. -/
theorem acall_alloc {f : FuncId} {args : List Value} {M : PH} {v : Nat → Value} {o : Obj} (en : ∀ (vs : Array Value) (w : World), (callFunc f vs).run env.P w = .ok (.enter f vs) w)
    (h : ∀ w, M.In w → Calls env.P f args.toArray w fun e w' => e = .returned (v w.heap.size) ∧ w' = w.alloc o) : ACall env f args M fun r M' => ∃ g, M g = none ∧ r = v g ∧ M' = M.set g o :=
  ⟨trivial, fun ρ w vs h1 h2 h3 h4 h5 => by
    have := RelL.vs_eq h5
    subst this
    refine .inl ⟨en _ _, ?_⟩
    have hg : M w.heap.size = none := by
      cases hm : M w.heap.size with
      | none => rfl
      | some x => exact absurd (h4.lt hm) (Nat.lt_irrefl _)
    refine (h w h4).mono fun e w' ⟨he, hb⟩ => ⟨v w.heap.size, [], M.set w.heap.size o, he, rfl, fun i b hi => (by rw [List.getElem?_nil] at hi; cases hi), ?_, w.heap.size, hg, rfl, rfl⟩
    subst hb
    refine ⟨rfl, rfl, rfl, by show w.heap.size ≤ (w.heap.push _).size; rw [Array.size_push]; omega, fun k x hk => ?_, fun k x hk => ?_, fun k hk _ _ => ?_⟩
    · show (w.heap.push o)[k]? = some x
      by_cases e : k = w.heap.size
      · subst e
        rw [PH.set_same] at hk
        cases hk
        rw [Array.getElem?_push_size]
      · rw [PH.set_other _ _ e] at hk
        rw [Array.getElem?_push_lt (h4.lt hk)]
        exact (Array.getElem?_eq_getElem (h4.lt hk)).symm.trans (h4 k x hk)
    · by_cases e : k = w.heap.size
      · exact .inr (by omega)
      · rw [PH.set_other _ _ e] at hk; exact .inl ⟨x, hk⟩
    · show (w.heap.push o)[k]? = w.heap[k]?
      rw [Array.getElem?_push_lt hk, Array.getElem?_eq_getElem hk]⟩
/-- Where a row that isn't empty lies. -/
theorem sl_place {α : Type} {f : α → List Value} {sz : Nat} {M : PH} {A : Option Addr} {ws : List α} (hs : Sl M A sz f ws) (hne : ws ≠ []) (hf : ∀ x, f x ≠ []) :
    ∃ b o, A = some ⟨b, o, none⟩ ∧ (∃ ob, M b = some ob) ∧ ∀ (j : Nat) x v, ws[j]? = some x → (f x)[0]? = some v → M.cell ⟨b, o + j * sz, none⟩ = some v := by
  cases ws with
  | nil => exact absurd rfl hne
  | cons x r =>
    obtain ⟨_, a, rfl, hc⟩ := hs.at_ 0 x rfl
    obtain ⟨v, l, hfx⟩ : ∃ v l, f x = v :: l := by
      cases h : f x with
      | nil => exact absurd h (hf x)
      | cons v l => exact ⟨v, l, rfl⟩
    have h0 := hc 0 v (by rw [hfx]; rfl)
    have e : a.add (0 * sz + 0) = a := by rw [Nat.zero_mul]; rfl
    rw [e] at h0
    obtain ⟨pb, po, ps⟩ := a
    cases ps with
    | some s => unfold PH.cell at h0; split at h0 <;> simp at h0
    | none =>
      refine ⟨pb, po, rfl, ?_, fun j y u hj hu => ?_⟩
      · unfold PH.cell at h0
        cases hm : M pb with
        | none => simp only [hm] at h0; cases h0
        | some ob => exact ⟨ob, rfl⟩
      · obtain ⟨_, a, ha', hc⟩ := hs.at_ j y hj
        cases ha'
        have := hc 0 u hu
        rw [add_at] at this
        exact this
def jnS (xs : List ByteArray) (sep : ByteArray) : ByteArray := ⟨(Lib.join (xs.map (·.data.toList)) sep.data.toList).toArray⟩
theorem join_ret (A : Option Addr) (c : Nat) (ws : List ByteArray) (sep : ByteArray) (M : PH) (hs : Sl M A 1 stC ws) (hcap : ws.length ≤ c) (hn : ws.length ≤ 1048576) (hz : (jnS ws sep).size ≤ 281474976710656) :
    Ret 94 [.slice A ws.length c, Tx sep] M (Tx (jnS ws sep)) := by
  by_cases he : ws = []
  · subst he
    refine xcall_of_vc Tryz.func94 rfl _ Tryz.ntmps94 _ rfl (fun _ _ => Tryz.call94 _ _) rfl (fun w0 ρ0 => ?_)
    conv => whnf
    repeat' (first | (refine ⟨⟨[], rfl⟩, _, PH.Le.refl _, PH.Le.refl _, ?_⟩; conv => whnf) | (refine caseB_true ?_; conv => whnf) | (refine caseB_false ?_; conv => whnf) | ((with_reducible refine caseB_dec (fun h => ?_) (fun h => ?_)) <;> conv => whnf) | ((with_reducible refine caseB_ndec (fun h => ?_) (fun h => ?_)) <;> conv => whnf) | ((with_reducible refine caseB_not (fun h => ?_) (fun h => ?_)) <;> conv => whnf) | (with_reducible refine @And.intro (guardVC _ _ _ _ _) _ ?_ ?_) <;> conv => whnf | (refine caseB_intro (fun h => ?_) (fun h => ?_) <;> (try simp only [Bool.not_eq_true', Bool.not_eq_false', decide_eq_true_eq, decide_eq_false_iff_not] at h) <;> conv => whnf))
    exact ⟨_, PH.Le.refl _, rfl, rfl⟩
  · obtain ⟨b, o, rfl, ⟨ob, hob⟩, hc⟩ := sl_place hs he (fun x => by simp)
    exact ret_of_calls (fun _ _ => Tryz.call94 _ _) fun w hM => Any.strings_Join_48 sh156 sh156X b o c ws sep w (fun j x hj => by
      have := hc j x (Tx x) hj rfl
      rw [Nat.mul_one] at this
      exact hM.cell this) (hM.lt hob) (by omega) hcap (by
      have : (jnS ws sep).size = (Lib.join (ws.map (·.data.toList)) sep.data.toList).length := by
        rw [size_list]; rfl
      omega)
theorem infoStr : (Tryz.prog.info? 9).map (fun i => (i.zero, i.size, i.bytes)) = some (some (.string ByteArray.empty), 1, 16) := by kernel_rfl
/-- A text split at a byte. -/
def splB (s : ByteArray) (c : UInt8) : List ByteArray := Lib.splitB ⟨#[c]⟩ 0 (Lib.countB s ⟨#[c]⟩) s
theorem splB_len (s : ByteArray) (c : UInt8) : (splB s c).length = Lib.countB s ⟨#[c]⟩ + 1 := Lib.splitB_all ⟨#[c]⟩ (Nat.le_refl 1) 0 _ s rfl
set_option maxHeartbeats 1000000 in
theorem split1_gen {P : Program} {ρ : Ren} (L : Lays.n146 P ρ) (hi9 : (P.info? (ρ.t 9)).map (fun i => (i.zero, i.size, i.bytes)) = some (some (.string ByteArray.empty), 1, 16)) (s : ByteArray) (b : UInt8) (w : World)
    (hs : s.size < 4294967281) :
    Calls P (ρ.f 146) #[.string s, .string ⟨#[b]⟩] w fun e w' =>
      e = .returned (.slice (some ⟨w.heap.size, 0, none⟩) (splB s b).length (splB s b).length) ∧ w' = w.alloc (.cells ((splB s b).map Value.string).toArray (ρ.t 9)) := by
  have h1 : 1 ≤ (⟨#[b]⟩ : ByteArray).size := Nat.le_refl 1
  have hle := Lib.countB_le ⟨#[b]⟩ h1 s.size s (Nat.le_refl _)
  have hlen := Lib.splitB_all ⟨#[b]⟩ h1 0 _ s rfl
  have hI : ∀ (x : ByteArray) (w : World), Calls P (ρ.f 143) #[.string x, .string ⟨#[b]⟩] w fun e w' => e = .returned (.int .i64 (Lib.indexB x ⟨#[b]⟩)) ∧ w' = w := fun x w => by
    refine (Any.strings_Index_one { L with } x b w).mono fun e w' ⟨he, hw⟩ => ⟨?_, hw⟩
    rw [he]
    show _ = Ending.returned (Value.int .i64 (Lib.index x.data.toList [b]))
    rw [Lib.index_one]
  have hC : Calls P (ρ.f 138) #[.string s, .string ⟨#[b]⟩] w fun e w' => e = .returned (.int .i64 (Lib.countB s ⟨#[b]⟩)) ∧ w' = w := by
    refine (Any.strings_Count_one { L with } s b w).mono fun e w' ⟨he, hw⟩ => ⟨?_, hw⟩
    rw [he]
    show _ = Ending.returned (Value.int .i64 ((Lib.count s.data.toList [b] : Nat) : Int))
    rw [Lib.count_one]
    rfl
  have c := Any.strings_genSplit_core { L with } hi9 s ⟨#[b]⟩ 0 (-1) (Lib.countB s ⟨#[b]⟩ + 1) w hs h1 (Nat.zero_le _) (fun x c _ => hI x _) hC (by decide) (by decide) (by rw [if_pos (by decide)]; omega)
  rw [Nat.add_sub_cancel, hlen] at c
  have e2 : Lib.cellsOf (Lib.splitB ⟨#[b]⟩ 0 (Lib.countB s ⟨#[b]⟩) s) (Lib.countB s ⟨#[b]⟩ + 1) = ((Lib.splitB ⟨#[b]⟩ 0 (Lib.countB s ⟨#[b]⟩) s).map Value.string).toArray := by rw [← hlen]; exact Lib.cellsOf_full _
  rw [e2] at c
  rw [splB_len]
  have t3 := L.t3; have t9 := L.t9; have t31 := L.t31
  have a3 := L.a3; have a9 := L.a9; have a31 := L.a31
  have z3 := L.z3; have v3 := L.v3; have z9 := L.z9; have v9 := L.v9; have z31 := L.z31; have v31 := L.v31
  have e221 : ∀ args w, (callFunc (ρ.f 221) args).run P w = .ok (.enter (ρ.f 221) args) w := enters_of L.f221 (by kernel_rfl) rfl
  go_enter L.f146, Body.n146_ntmps ρ
  go_wp2_with (go_at_fn (ρ.f 221); refine c.mono ?_; rintro e w' ⟨rfl, hw⟩; rw [hw])
  go_ret
  exact ⟨rfl, rfl⟩
theorem split1_ret (s : ByteArray) (b : UInt8) (M : PH) (hs : s.size < 4294967281) :
    ACall env 55 [Tx s, Tx ⟨#[b]⟩] M fun r M' => ∃ g, r = .slice (some ⟨g, 0, none⟩) (splB s b).length (splB s b).length ∧ New M M' (some g) (some ⟨g, 0, none⟩) (splB s b).length 1 stC (splB s b) := by
  refine (acall_alloc (v := fun g => .slice (some ⟨g, 0, none⟩) (splB s b).length (splB s b).length) (fun _ _ => Tryz.call55 _ _) fun w _ => split1_gen sh146 infoStr s b w hs).mono ?_
  rintro r M' ⟨g, hg, rfl, rfl⟩
  refine ⟨g, rfl, ?_, PH.Le.set _ hg, fun k e => by cases e; exact hg⟩
  have := Ow.new (f := stC) st_len M g (splB s b) 9
  have e : (splB s b).flatMap stC = (splB s b).map Value.string := by
    induction splB s b with
    | nil => rfl
    | cons x r ih => rw [List.flatMap_cons, List.map_cons, ih]; rfl
  rw [e] at this
  exact this
end Go.Proofs.YtdgipmlkkmmliaaGreatDoor
