/-
  CONTRACTS: what is wrong with head lines; the values of a name.
-/
import Derived.Test.YtafgnmiflngjhaaGreatDoorTc
import Derived.Test.YtafgnmiflngjhaaGreatDoorMa
import Derived.Test.YtafgnmiflngjhaaGreatDoorNa
namespace Go.Proofs.YtafgnmiflngjhaaGreatDoor
set_option maxRecDepth 100000
set_option linter.unusedSimpArgs false
set_option linter.unusedVariables false
open Go.Xe
def hdFault (x : Hd) : Int := if wordT x.n = false then 5 else if 200 < (x.v.size : Int) then 2 else if allB plainB x.v = false then 5 else if seq (trimB x.v) x.v = false then 5 else 0
theorem headerFault_impl (x : Hd) (M : PH) (ho : x.okl) : Ret 180 [x.val] M (I (hdFault x)) := by
  refine xcall_of_vc Tryz.func180 rfl _ Tryz.ntmps180 _ rfl (fun _ _ => Tryz.call180 _ _) rfl (fun w0 ρ0 => ?_)
  conv => whnf
  repeat' (first | (refine ⟨⟨[], rfl⟩, _, PH.Le.refl _, PH.Le.refl _, ?_⟩; conv => whnf) | (refine caseB_true ?_; conv => whnf) | (refine caseB_false ?_; conv => whnf) | ((with_reducible refine caseB_dec (fun h => ?_) (fun h => ?_)) <;> conv => whnf) | ((with_reducible refine caseB_ndec (fun h => ?_) (fun h => ?_)) <;> conv => whnf) | ((with_reducible refine caseB_not (fun h => ?_) (fun h => ?_)) <;> conv => whnf) | (refine Ret.go (isWord_impl _ _ ho.1) ?_; conv => whnf) | (refine Ret.go (plain_impl _ _ ho.2) ?_; conv => whnf) | (refine Ret.go (trim_ret _ _ ho.2) ?_; conv => whnf) | (refine draw_rule (.light 0 <| .light 1 <| .alt 2 false (.light 3 <| .light 4 <| .light 5 <| .light 6 <| .light 8 <| .light 9 <| .alt 7 false (.light 10 <| .light 11 <| .light 12 <| .done) .nil) .nil) (by decide +kernel) ?_; conv => whnf) | (with_reducible refine @And.intro (guardVC _ _ _ _ _) _ ?_ ?_) <;> conv => whnf | (refine caseB_intro (fun h => ?_) (fun h => ?_) <;> (try simp only [Bool.not_eq_true', Bool.not_eq_false', decide_eq_true_eq, decide_eq_false_iff_not] at h) <;> conv => whnf))
  all_goals first | (refine ⟨M, PH.Le.refl _, ?_, rfl⟩; simp [resV, hdFault, *]; done) | (refine ⟨M, PH.Le.refl _, ?_, rfl, rfl⟩; simp [resV, hdFault, *]; done) | (exfalso; simp_all; done)
theorem headerFault_spec (x : Hd) (M : PH) (ho : x.okl) : Ret 182 [x.val] M (I (hdFault x)) := by
  refine xcall_of_vc Tryz.func182 rfl _ Tryz.ntmps182 _ rfl (fun _ _ => Tryz.call182 _ _) rfl (fun w0 ρ0 => ?_)
  conv => whnf
  repeat' (first | (refine ⟨⟨[], rfl⟩, _, PH.Le.refl _, PH.Le.refl _, ?_⟩; conv => whnf) | (refine caseB_true ?_; conv => whnf) | (refine caseB_false ?_; conv => whnf) | ((with_reducible refine caseB_dec (fun h => ?_) (fun h => ?_)) <;> conv => whnf) | ((with_reducible refine caseB_ndec (fun h => ?_) (fun h => ?_)) <;> conv => whnf) | ((with_reducible refine caseB_not (fun h => ?_) (fun h => ?_)) <;> conv => whnf) | (refine Ret.go (isWord_spec _ _ ho.1) ?_; conv => whnf) | (refine Ret.go (plain_spec _ _ ho.2) ?_; conv => whnf) | (refine Ret.go (l1Trim_ret _ _ ho.2) ?_; conv => whnf) | (with_reducible refine @And.intro (guardVC _ _ _ _ _) _ ?_ ?_) <;> conv => whnf | (refine caseB_intro (fun h => ?_) (fun h => ?_) <;> (try simp only [Bool.not_eq_true', Bool.not_eq_false', decide_eq_true_eq, decide_eq_false_iff_not] at h) <;> conv => whnf))
  all_goals first | (refine ⟨M, PH.Le.refl _, ?_, rfl⟩; simp [resV, hdFault, *]; done) | (refine ⟨M, PH.Le.refl _, ?_, rfl, rfl⟩; simp [resV, hdFault, *]; done) | (exfalso; simp_all; done)
def hdsFault (ws : List Hd) : Int := if 20 < (ws.length : Int) then 2 else firstF hdFault ws
theorem headersFault_impl (A : Option Addr) (c : Nat) (ws : List Hd) (M : PH) (hs : Sl M A 2 Hd.cs ws) (hn : ws.length ≤ 1048576) (ho : ∀ x ∈ ws, x.okl) : Ret 127 [.slice A ws.length c] M (I (hdsFault ws)) := by
  refine xcall_of_vc Tryz.func127 rfl _ Tryz.ntmps127 _ rfl (fun _ _ => Tryz.call127 _ _) rfl (fun w0 ρ0 => ?_)
  conv => whnf
  repeat' (first | (refine ⟨⟨[], rfl⟩, _, PH.Le.refl _, PH.Le.refl _, ?_⟩; conv => whnf) | (refine caseB_true ?_; conv => whnf) | (refine caseB_false ?_; conv => whnf) | ((with_reducible refine caseB_dec (fun h => ?_) (fun h => ?_)) <;> conv => whnf) | ((with_reducible refine caseB_ndec (fun h => ?_) (fun h => ?_)) <;> conv => whnf) | ((with_reducible refine caseB_not (fun h => ?_) (fun h => ?_)) <;> conv => whnf) | (with_reducible refine @And.intro (guardVC _ _ _ _ _) _ ?_ ?_) <;> conv => whnf | (refine caseB_intro (fun h => ?_) (fun h => ?_) <;> (try simp only [Bool.not_eq_true', Bool.not_eq_false', decide_eq_true_eq, decide_eq_false_iff_not] at h) <;> conv => whnf))
  · exact ⟨_, PH.Le.refl _, by simp [resV, hdsFault, *], rfl⟩
  rw [hdsFault, if_neg (by assumption)]
  refine loop_rule (fun i : Nat => ⟨slots 21 [(0, .v (.slice A ws.length c)), (9, .v (.slice A ws.length c)), (10, .v (I ws.length)), (11, .v (I i))], []⟩) (fun i M' => i ≤ ws.length ∧ (∀ j, j < i → ∀ h : j < ws.length, hdFault ws[j] = 0) ∧ M' = M) (fun i => ws.length - i) 0 ?_ ?_ ?_
  · exact ⟨by simp [slots, leT], ⟨[], rfl⟩, (by first | exact Nat.zero_le _ | exact Nat.le_refl _), rfl, rfl⟩
  · exact ⟨Nat.zero_le _, fun j hj => absurd hj (Nat.not_lt_zero _), rfl⟩
  rintro i M' ⟨hi, hp, rfl⟩
  conv => whnf
  refine caseB_dec (fun h0 => ?_) (fun h0 => ?_)
  · have h0 : (i : Int) < ws.length := h0
    have hi' : i < ws.length := by omega
    have hw : IntKind.i64.wrap ((i : Int) + 1) = (i : Int) + 1 := wr_id (by omega) (by omega)
    obtain ⟨hA, _, hc⟩ := hs.get hi'
    have hx := ho ws[i] (List.getElem_mem hi')
    conv => whnf
    repeat' (first | (refine ⟨⟨[], rfl⟩, _, PH.Le.refl _, PH.Le.refl _, ?_⟩; conv => whnf) | (refine ⟨ws[i].cs, hc, rfl, ?_⟩; conv => whnf) | (refine ⟨by omega, by omega, hA, ?_⟩; conv => whnf) | (refine caseB_true ?_; conv => whnf) | (refine caseB_false ?_; conv => whnf) | ((with_reducible refine caseB_dec (fun h => ?_) (fun h => ?_)) <;> conv => whnf) | ((with_reducible refine caseB_ndec (fun h => ?_) (fun h => ?_)) <;> conv => whnf) | ((with_reducible refine caseB_not (fun h => ?_) (fun h => ?_)) <;> conv => whnf) | (refine Ret.go (headerFault_impl _ _ hx) ?_; conv => whnf) | (with_reducible refine @And.intro (guardVC _ _ _ _ _) _ ?_ ?_) <;> conv => whnf | (refine caseB_intro (fun h => ?_) (fun h => ?_) <;> (try simp only [Bool.not_eq_true', Bool.not_eq_false', decide_eq_true_eq, decide_eq_false_iff_not] at h) <;> conv => whnf))
    · rename_i h
      exact ⟨_, PH.Le.refl _, by rw [firstF_at hi' hp h]; rfl, rfl⟩
    · rename_i h
      exact ⟨i + 1, ⟨by simp [slots, leT, hw], ⟨_, rfl⟩, (by first | exact Nat.zero_le _ | exact Nat.le_refl _), rfl, rfl⟩, ⟨by omega, fun j hj hjl => (Nat.lt_succ_iff_lt_or_eq.1 hj).elim (fun h1 => hp j h1 hjl) (fun e => by subst e; exact h), rfl⟩, by omega⟩
  · have hi' : i = ws.length := by have : ¬ (i : Int) < ws.length := h0; omega
    subst hi'
    conv => whnf

    exact ⟨_, PH.Le.refl _, by rw [firstF_no (fun j h => hp j h h)]; rfl, rfl⟩
theorem headersFault_spec (A : Option Addr) (c : Nat) (ws : List Hd) (M : PH) (hs : Sl M A 2 Hd.cs ws) (hn : ws.length ≤ 1048576) (ho : ∀ x ∈ ws, x.okl) : Ret 129 [.slice A ws.length c] M (I (hdsFault ws)) := by
  refine xcall_of_vc Tryz.func129 rfl _ Tryz.ntmps129 _ rfl (fun _ _ => Tryz.call129 _ _) rfl (fun w0 ρ0 => ?_)
  conv => whnf
  repeat' (first | (refine ⟨⟨[], rfl⟩, _, PH.Le.refl _, PH.Le.refl _, ?_⟩; conv => whnf) | (refine caseB_true ?_; conv => whnf) | (refine caseB_false ?_; conv => whnf) | ((with_reducible refine caseB_dec (fun h => ?_) (fun h => ?_)) <;> conv => whnf) | ((with_reducible refine caseB_ndec (fun h => ?_) (fun h => ?_)) <;> conv => whnf) | ((with_reducible refine caseB_not (fun h => ?_) (fun h => ?_)) <;> conv => whnf) | (with_reducible refine @And.intro (guardVC _ _ _ _ _) _ ?_ ?_) <;> conv => whnf | (refine caseB_intro (fun h => ?_) (fun h => ?_) <;> (try simp only [Bool.not_eq_true', Bool.not_eq_false', decide_eq_true_eq, decide_eq_false_iff_not] at h) <;> conv => whnf))
  · exact ⟨_, PH.Le.refl _, by simp [resV, hdsFault, *], rfl⟩
  rw [hdsFault, if_neg (by assumption)]
  refine loop_rule (fun i : Nat => ⟨slots 22 [(0, .v (.slice A ws.length c)), (3, .v (I i))], []⟩) (fun i M' => i ≤ ws.length ∧ (∀ j, j < i → ∀ h : j < ws.length, hdFault ws[j] = 0) ∧ M' = M) (fun i => ws.length - i) 0 ?_ ?_ ?_
  · exact ⟨by simp [slots, leT], ⟨[], rfl⟩, (by first | exact Nat.zero_le _ | exact Nat.le_refl _), rfl, rfl⟩
  · exact ⟨Nat.zero_le _, fun j hj => absurd hj (Nat.not_lt_zero _), rfl⟩
  rintro i M' ⟨hi, hp, rfl⟩
  conv => whnf
  refine caseB_dec (fun h0 => ?_) (fun h0 => ?_)
  · have h0 : (i : Int) < ws.length := h0
    have hi' : i < ws.length := by omega
    have hw : IntKind.i64.wrap ((i : Int) + 1) = (i : Int) + 1 := wr_id (by omega) (by omega)
    obtain ⟨hA, _, hc⟩ := hs.get hi'
    have hx := ho ws[i] (List.getElem_mem hi')
    conv => whnf
    repeat' (first | (refine ⟨⟨[], rfl⟩, _, PH.Le.refl _, PH.Le.refl _, ?_⟩; conv => whnf) | (refine ⟨ws[i].cs, hc, rfl, ?_⟩; conv => whnf) | (refine ⟨by omega, by omega, hA, ?_⟩; conv => whnf) | (refine caseB_true ?_; conv => whnf) | (refine caseB_false ?_; conv => whnf) | ((with_reducible refine caseB_dec (fun h => ?_) (fun h => ?_)) <;> conv => whnf) | ((with_reducible refine caseB_ndec (fun h => ?_) (fun h => ?_)) <;> conv => whnf) | ((with_reducible refine caseB_not (fun h => ?_) (fun h => ?_)) <;> conv => whnf) | (refine Ret.go (headerFault_spec _ _ hx) ?_; conv => whnf) | (with_reducible refine @And.intro (guardVC _ _ _ _ _) _ ?_ ?_) <;> conv => whnf | (refine caseB_intro (fun h => ?_) (fun h => ?_) <;> (try simp only [Bool.not_eq_true', Bool.not_eq_false', decide_eq_true_eq, decide_eq_false_iff_not] at h) <;> conv => whnf))
    · rename_i h
      exact ⟨_, PH.Le.refl _, by rw [firstF_at hi' hp h]; rfl, rfl⟩
    · rename_i h
      exact ⟨i + 1, ⟨by simp [slots, leT, hw], ⟨_, rfl⟩, (by first | exact Nat.zero_le _ | exact Nat.le_refl _), rfl, rfl⟩, ⟨by omega, fun j hj hjl => (Nat.lt_succ_iff_lt_or_eq.1 hj).elim (fun h1 => hp j h1 hjl) (fun e => by subst e; exact h), rfl⟩, by omega⟩
  · have hi' : i = ws.length := by have : ¬ (i : Int) < ws.length := h0; omega
    subst hi'
    conv => whnf

    exact ⟨_, PH.Le.refl _, by rw [firstF_no (fun j h => hp j h h)]; rfl, rfl⟩
end Go.Proofs.YtafgnmiflngjhaaGreatDoor
