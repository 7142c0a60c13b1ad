/-
  TEXTS: the text of head lines.
-/
import Derived.Test.YtafgnmiflngjhaaGreatDoorBa
namespace Go.Proofs.YtafgnmiflngjhaaGreatDoor
set_option maxRecDepth 100000
set_option linter.unusedSimpArgs false
set_option linter.unusedVariables false
open Go.Xe
def lineB (x : Hd) : ByteArray := x.n ++ ⟨#[58, 32]⟩ ++ x.v ++ ⟨#[13, 10]⟩
def packL (ws : List Hd) : List UInt8 := ws.flatMap fun x => (lineB x).data.toList
def pack (ws : List Hd) : ByteArray := ⟨(packL ws).toArray⟩
theorem line_size (x : Hd) : (lineB x).size = x.n.size + x.v.size + 4 := by
  unfold lineB
  rw [ByteArray.size_append, ByteArray.size_append, ByteArray.size_append]
  show x.n.size + 2 + x.v.size + 2 = _
  omega
theorem packL_len (ws : List Hd) : (packL ws).length ≤ 4 * costL Hd.cost ws := by
  unfold packL costL
  induction ws with
  | nil => simp
  | cons x r ih =>
    rw [List.flatMap_cons, List.length_append, ← size_list, line_size]
    simp only [List.map_cons, List.sum_cons, List.length_cons, Hd.cost] at ih ⊢
    omega
theorem packL_snoc {ws : List Hd} {i : Nat} (h : i < ws.length) : packL (ws.take (i + 1)) = packL (ws.take i) ++ (lineB ws[i]).data.toList := by
  unfold packL
  rw [List.take_succ_eq_append_getElem h, List.flatMap_append]
  simp
theorem lineText_ret (x : Hd) (M : PH) (hx : x.cost ≤ 4194304) : Ret 214 [x.val] M (Tx (lineB x)) := by
  have h1 : x.n.size + x.v.size ≤ 4194304 := hx
  refine xcall_of_vc Tryz.func214 rfl _ Tryz.ntmps214 _ rfl (fun _ _ => Tryz.call214 _ _) rfl (fun w0 ρ0 => ?_)
  conv => whnf
  repeat' (first | (refine ⟨⟨[], rfl⟩, _, PH.Le.refl _, PH.Le.refl _, ?_⟩; conv => whnf) | (refine ⟨cat_fits (by (try rw [ByteArray.size_append]); (try rw [ByteArray.size_append]); (try show _ + 2 + _ + 2 ≤ _); (try show _ + 2 + _ ≤ _); (try show _ + 2 ≤ _); omega), ?_⟩; conv => whnf) | (refine caseB_true ?_; conv => whnf) | (refine caseB_false ?_; conv => whnf) | ((with_reducible refine caseB_dec (fun h => ?_) (fun h => ?_)) <;> conv => whnf) | ((with_reducible refine caseB_ndec (fun h => ?_) (fun h => ?_)) <;> conv => whnf) | ((with_reducible refine caseB_not (fun h => ?_) (fun h => ?_)) <;> conv => whnf) | (with_reducible refine @And.intro (guardVC _ _ _ _ _) _ ?_ ?_) <;> conv => whnf | (refine caseB_intro (fun h => ?_) (fun h => ?_) <;> (try simp only [Bool.not_eq_true', Bool.not_eq_false', decide_eq_true_eq, decide_eq_false_iff_not] at h) <;> conv => whnf))
  exact ⟨_, PH.Le.refl _, rfl, rfl⟩
theorem l4Pack_ret (A : Option Addr) (c : Nat) (ws : List Hd) (M : PH) (hs : Sl M A 2 Hd.cs ws) (hco : costL Hd.cost ws ≤ 4194304) :
    Ret 206 [.slice A ws.length c] M (Tx (pack ws)) := by
  have hn := Nat.le_trans (costL_len Hd.cost ws) hco
  have hcoT : ∀ i, costL Hd.cost (ws.take i) ≤ 4194304 := fun i => Nat.le_trans (costL_take _ _ _) hco
  refine xcall_of_vc Tryz.func206 rfl _ Tryz.ntmps206 _ rfl (fun _ _ => Tryz.call206 _ _) rfl (fun w0 ρ0 => ?_)
  conv => whnf
  refine loop_rule (fun i : Nat => ⟨slots 27 [(0, .v (.slice A ws.length c)), (3, .v (Tx (pack (ws.take i)))), (4, .v (I i))], []⟩) (fun i M' => i ≤ ws.length ∧ M' = M) (fun i => ws.length - i) 0 ?_ ?_ ?_
  · exact ⟨by simp [slots, leT, pack, packL], ⟨[], rfl⟩, Nat.zero_le _, rfl, rfl⟩
  · exact ⟨Nat.zero_le _, rfl⟩
  rintro i M' ⟨hi, rfl⟩
  conv => whnf
  refine caseB_dec (fun h0 => ?_) (fun h0 => ?_)
  · have h0 : (i : Int) < ws.length := h0
    have hi' : i < ws.length := by omega
    have hw : IntKind.i64.wrap ((i : Int) + 1) = (i : Int) + 1 := wr_id (by omega) (by omega)
    obtain ⟨hA, _, hc⟩ := hs.get hi'
    have hz : (pack (ws.take i)).size ≤ 4 * 4194304 := by
      have h2 := packL_len (ws.take i)
      have h3 := hcoT i
      rw [size_list]
      show (packL _).length ≤ _
      omega
    have hv : ws[i].n.size + ws[i].v.size ≤ 4194304 := by
      have := costL_le (f := Hd.cost) (List.getElem_mem hi')
      have e : Hd.cost ws[i] = ws[i].n.size + ws[i].v.size := rfl
      omega
    have ey : pack (ws.take (i + 1)) = pack (ws.take i) ++ ws[i].n ++ ⟨#[58, 32]⟩ ++ ws[i].v ++ ⟨#[13, 10]⟩ := ba_ext (by
      show (packL _) = _
      rw [packL_snoc hi']
      simp [pack, lineB])
    generalize pack (ws.take i) = us at *
    generalize ws[i] = x at *
    conv => whnf
    repeat' (first | (refine ⟨⟨[], rfl⟩, _, PH.Le.refl _, PH.Le.refl _, ?_⟩; conv => whnf) | (refine ⟨cat_fits (by (try rw [ByteArray.size_append]); (try rw [ByteArray.size_append]); (try rw [ByteArray.size_append]); (try show _ + _ + 2 + _ + 2 ≤ _); (try show _ + _ + 2 + _ ≤ _); (try show _ + _ + 2 ≤ _); omega), ?_⟩; conv => whnf) | (refine ⟨_, cells_cut hc 1 rfl, ?_⟩; conv => whnf) | (refine ⟨_, cells_cut hc 0 rfl, ?_⟩; conv => whnf) | (refine ⟨by omega, by omega, hA, ?_⟩; conv => whnf) | (refine caseB_true ?_; conv => whnf) | (refine caseB_false ?_; conv => whnf) | ((with_reducible refine caseB_dec (fun h => ?_) (fun h => ?_)) <;> conv => whnf) | ((with_reducible refine caseB_ndec (fun h => ?_) (fun h => ?_)) <;> conv => whnf) | ((with_reducible refine caseB_not (fun h => ?_) (fun h => ?_)) <;> conv => whnf) | (refine draw_rule (.light 0 <| .light 1 <| .light 2 <| .light 3 <| .light 4 <| .light 5 <| .light 6 <| .light 7 <| .light 8 <| .light 9 <| .light 10 <| .light 11 <| .light 12 <| .light 13 <| .light 14 <| .light 15 <| .done) (by decide +kernel) ?_; conv => whnf) | (with_reducible refine @And.intro (guardVC _ _ _ _ _) _ ?_ ?_) <;> conv => whnf | (refine caseB_intro (fun h => ?_) (fun h => ?_) <;> (try simp only [Bool.not_eq_true', Bool.not_eq_false', decide_eq_true_eq, decide_eq_false_iff_not] at h) <;> conv => whnf))
    exact ⟨i + 1, ⟨by simp [slots, leT, hw, ey], ⟨_, rfl⟩, Nat.zero_le _, rfl, rfl⟩, ⟨by omega, rfl⟩, by omega⟩
  · have hi' : i = ws.length := by have : ¬ (i : Int) < ws.length := h0; omega
    subst hi'
    conv => whnf
    exact ⟨_, PH.Le.refl _, by rw [List.take_length]; rfl, rfl⟩
end Go.Proofs.YtafgnmiflngjhaaGreatDoor
