/-
  CONTRACTS: what is wrong with a policy; for how long an answer is fresh.
-/
import Derived.Test.YtdgipmlkkmmliaaGreatDoorRl
namespace Go.Proofs.YtdgipmlkkmmliaaGreatDoor
set_option maxRecDepth 100000
set_option linter.unusedSimpArgs false
set_option linter.unusedVariables false
open Go.Xe
def polFault (p : Pol) : Int := if (isT p.life = false ∧ ¬ p.life = -1) ∨ isT p.swr = false ∨ isT p.sie = false ∨ isT p.age = false then 3 else 0
theorem policyFault_impl (p : Pol) (M : PH) : Ret 17 [p.val] M (I (polFault p)) := by
  refine xcall_of_vc Tryz.func17 rfl _ Tryz.ntmps17 _ rfl (fun _ _ => Tryz.call17 _ _) rfl (fun w0 ρ0 => ?_)
  conv => whnf
  repeat' (first | (refine ⟨⟨[], rfl⟩, _, PH.Le.refl _, PH.Le.refl _, ?_⟩; conv => whnf) | (refine caseB_true ?_; conv => whnf) | (refine caseB_false ?_; conv => whnf) | ((with_reducible refine caseB_dec (fun h => ?_) (fun h => ?_)) <;> conv => whnf) | ((with_reducible refine caseB_ndec (fun h => ?_) (fun h => ?_)) <;> conv => whnf) | ((with_reducible refine caseB_not (fun h => ?_) (fun h => ?_)) <;> conv => whnf) | (refine Ret.go (isTime_ret _ _) ?_; conv => whnf) | (with_reducible refine @And.intro (guardVC _ _ _ _ _) _ ?_ ?_) <;> conv => whnf | (refine caseB_intro (fun h => ?_) (fun h => ?_) <;> (try simp only [Bool.not_eq_true', Bool.not_eq_false', decide_eq_true_eq, decide_eq_false_iff_not] at h) <;> conv => whnf))
  all_goals first | (refine ⟨M, PH.Le.refl _, ?_, rfl⟩; simp [resV, polFault, *]; done) | (refine ⟨M, PH.Le.refl _, ?_, rfl, rfl⟩; simp [resV, polFault, *]; done) | (exfalso; simp_all; done)
theorem policyFault_spec (p : Pol) (M : PH) : Ret 18 [p.val] M (I (polFault p)) := by
  refine xcall_of_vc Tryz.func18 rfl _ Tryz.ntmps18 _ rfl (fun _ _ => Tryz.call18 _ _) rfl (fun w0 ρ0 => ?_)
  conv => whnf
  repeat' (first | (refine ⟨⟨[], rfl⟩, _, PH.Le.refl _, PH.Le.refl _, ?_⟩; conv => whnf) | (refine caseB_true ?_; conv => whnf) | (refine caseB_false ?_; conv => whnf) | ((with_reducible refine caseB_dec (fun h => ?_) (fun h => ?_)) <;> conv => whnf) | ((with_reducible refine caseB_ndec (fun h => ?_) (fun h => ?_)) <;> conv => whnf) | ((with_reducible refine caseB_not (fun h => ?_) (fun h => ?_)) <;> conv => whnf) | (refine Ret.go (l1Time_ret _ _) ?_; conv => whnf) | (with_reducible refine @And.intro (guardVC _ _ _ _ _) _ ?_ ?_) <;> conv => whnf | (refine caseB_intro (fun h => ?_) (fun h => ?_) <;> (try simp only [Bool.not_eq_true', Bool.not_eq_false', decide_eq_true_eq, decide_eq_false_iff_not] at h) <;> conv => whnf))
  all_goals first | (refine ⟨M, PH.Le.refl _, ?_, rfl⟩; simp [resV, polFault, *]; done) | (refine ⟨M, PH.Le.refl _, ?_, rfl, rfl⟩; simp [resV, polFault, *]; done) | (exfalso; simp_all; done)
theorem isStatus_ret' (v : Int) (M : PH) : Ret 45 [I v] M (B (inB v 200 599)) := by
  refine xcall_of_vc Tryz.func45 rfl _ Tryz.ntmps45 _ rfl (fun _ _ => Tryz.call45 _ _) rfl (fun w0 ρ0 => ?_)
  conv => whnf
  repeat' (first | (refine ⟨⟨[], rfl⟩, _, PH.Le.refl _, PH.Le.refl _, ?_⟩; conv => whnf) | (refine caseB_true ?_; conv => whnf) | (refine caseB_false ?_; conv => whnf) | ((with_reducible refine caseB_dec (fun h => ?_) (fun h => ?_)) <;> conv => whnf) | ((with_reducible refine caseB_ndec (fun h => ?_) (fun h => ?_)) <;> conv => whnf) | ((with_reducible refine caseB_not (fun h => ?_) (fun h => ?_)) <;> conv => whnf) | (refine Ret.go (within_ret _ _ _ _) ?_; conv => whnf) | (with_reducible refine @And.intro (guardVC _ _ _ _ _) _ ?_ ?_) <;> conv => whnf | (refine caseB_intro (fun h => ?_) (fun h => ?_) <;> (try simp only [Bool.not_eq_true', Bool.not_eq_false', decide_eq_true_eq, decide_eq_false_iff_not] at h) <;> conv => whnf))
  exact ⟨_, PH.Le.refl _, rfl, rfl⟩
def badS (p : Pol) (st : Int) : Prop := p.ns = true ∨ (¬ st = 200 ∧ ¬ st = 404 ∧ ¬ st = 410)
instance (p : Pol) (st : Int) : Decidable (badS p st) := by unfold badS; infer_instance
def slV (p : Pol) (st neg : Int) : Int := if badS p st then 0 else if p.life = -1 then neg else p.life
def slOk (p : Pol) (st : Int) : Bool := if badS p st then false else if p.life = -1 then !decide (st = 200) else true
theorem storeLife1_ret (p : Pol) (st neg : Int) (M : PH) : Ret 47 [p.val, I st, I neg] M (.tuple #[I (slV p st neg), B (slOk p st)]) := by
  refine xcall_of_vc Tryz.func47 rfl _ Tryz.ntmps47 _ rfl (fun _ _ => Tryz.call47 _ _) rfl (fun w0 ρ0 => ?_)
  conv => whnf
  repeat' (first | (refine ⟨⟨[], rfl⟩, _, PH.Le.refl _, PH.Le.refl _, ?_⟩; conv => whnf) | (refine caseB_true ?_; conv => whnf) | (refine caseB_false ?_; conv => whnf) | ((with_reducible refine caseB_dec (fun h => ?_) (fun h => ?_)) <;> conv => whnf) | ((with_reducible refine caseB_ndec (fun h => ?_) (fun h => ?_)) <;> conv => whnf) | ((with_reducible refine caseB_not (fun h => ?_) (fun h => ?_)) <;> conv => whnf) | (with_reducible refine @And.intro (guardVC _ _ _ _ _) _ ?_ ?_) <;> conv => whnf | (refine caseB_intro (fun h => ?_) (fun h => ?_) <;> (try simp only [Bool.not_eq_true', Bool.not_eq_false', decide_eq_true_eq, decide_eq_false_iff_not] at h) <;> conv => whnf))
  all_goals refine ⟨_, PH.Le.refl _, ?_, rfl⟩
  all_goals first
    | (have hb : badS p st := (by unfold badS; simp [*]); unfold slV slOk; rw [if_pos hb, if_pos hb]; rfl)
    | (have hb : ¬ badS p st := (by unfold badS; simp [*]); unfold slV slOk; rw [if_neg hb, if_neg hb, if_pos (by assumption), if_pos (by assumption)]; rfl)
    | (have hb : ¬ badS p st := (by unfold badS; simp [*]); unfold slV slOk; rw [if_neg hb, if_neg hb, if_neg (by assumption), if_neg (by assumption)]; rfl)
def slS (p : Pol) (st neg : Int) : Int := if slOk p st = true then slV p st neg else 0
theorem l6Life_ret (p : Pol) (st neg : Int) (M : PH) : XCall env 50 [.bp 0 0, .v (I st), .v (I neg)] [p.box] M fun r b M' => r = .tuple #[I (slS p st neg), B (slOk p st)] ∧ b = [p.box] ∧ M' = M := by
  refine xcall_of_vc Tryz.func50 rfl _ Tryz.ntmps50 _ rfl (fun _ _ => Tryz.call50 _ _) rfl (fun w0 ρ0 => ?_)
  conv => whnf
  repeat' (first | (refine ⟨⟨[], rfl⟩, _, PH.Le.refl _, PH.Le.refl _, ?_⟩; conv => whnf) | (refine caseB_true ?_; conv => whnf) | (refine caseB_false ?_; conv => whnf) | ((with_reducible refine caseB_dec (fun h => ?_) (fun h => ?_)) <;> conv => whnf) | ((with_reducible refine caseB_ndec (fun h => ?_) (fun h => ?_)) <;> conv => whnf) | ((with_reducible refine caseB_not (fun h => ?_) (fun h => ?_)) <;> conv => whnf) | (with_reducible refine @And.intro (guardVC _ _ _ _ _) _ ?_ ?_) <;> conv => whnf | (refine caseB_intro (fun h => ?_) (fun h => ?_) <;> (try simp only [Bool.not_eq_true', Bool.not_eq_false', decide_eq_true_eq, decide_eq_false_iff_not] at h) <;> conv => whnf))
  all_goals refine ⟨_, PH.Le.refl _, ?_, rfl, rfl⟩
  all_goals first
    | (exfalso; omega)
    | (have hb : badS p st := (by unfold badS; first | exact .inl (by assumption) | exact .inr ⟨by assumption, by assumption, by assumption⟩)
       have e1 : slOk p st = false := (by unfold slOk; rw [if_pos hb])
       unfold slS; rw [e1]; rfl)
    | (have hb : ¬ badS p st := (by unfold badS; rintro (h1 | h1) <;> simp_all)
       have hl : ¬ p.life = -1 := by assumption
       have e1 : slOk p st = true := (by unfold slOk; rw [if_neg hb, if_neg hl])
       have e2 : slV p st neg = p.life := (by unfold slV; rw [if_neg hb, if_neg hl])
       unfold slS; rw [e1, e2]; rfl)
    | (have hb : ¬ badS p st := (by unfold badS; rintro (h1 | h1) <;> simp_all)
       have hl : p.life = -1 := by assumption
       have h2 : st = 200 := by assumption
       have e1 : slOk p st = false := (by unfold slOk; rw [if_neg hb, if_pos hl, decide_eq_true h2]; rfl)
       unfold slS; rw [e1]; rfl)
    | (have hb : ¬ badS p st := (by unfold badS; rintro (h1 | h1) <;> simp_all)
       have hl : p.life = -1 := by assumption
       have h2 : ¬ st = 200 := by assumption
       have e1 : slOk p st = true := (by unfold slOk; rw [if_neg hb, if_pos hl, decide_eq_false h2]; rfl)
       have e2 : slV p st neg = neg := (by unfold slV; rw [if_neg hb, if_pos hl])
       unfold slS; rw [e1, e2]; rfl)
def lfC (p : Pol) (st neg : Int) : Int := if ¬ polFault p = 0 then 3 else if inB st 200 599 = false then 3 else if isT neg = false then 3 else if slOk p st = false then 4 else 0
def lfV (p : Pol) (st neg : Int) : Int := if lfC p st neg = 0 then slV p st neg else 0
abbrev irW (k v : Int) : Value := .agg #[I k, I v]
theorem polFault_3 {p : Pol} (h : ¬ polFault p = 0) : polFault p = 3 := by
  unfold polFault at h ⊢
  split
  · rfl
  · rename_i h1; rw [if_neg h1] at h; exact absurd rfl h
theorem lfV_0 {p : Pol} {st neg : Int} (h : ¬ lfC p st neg = 0) : lfV p st neg = 0 := if_neg h
theorem st_bad {p : Pol} {st neg k : Int} (h : lfC p st neg = k) (hk : ¬ k = 0) : irW k 0 = irW (lfC p st neg) (lfV p st neg) := by
  rw [lfV_0 (by rw [h]; exact hk), h]
theorem st_good {p : Pol} {st neg : Int} (h : lfC p st neg = 0) : irW 0 (slV p st neg) = irW (lfC p st neg) (lfV p st neg) := by
  unfold lfV
  rw [if_pos h, h]
theorem storeLife_impl (p : Pol) (st neg : Int) (M : PH) : Ret 15 [p.val, I st, I neg] M (irW (lfC p st neg) (lfV p st neg)) := by
  have hsl := storeLife1_ret p st neg M
  have hpf := policyFault_impl p M
  have hst := isStatus_ret' st M
  have htm := isTime_ret neg M
  have e : lfC p st neg = if ¬ polFault p = 0 then 3 else if inB st 200 599 = false then 3 else if isT neg = false then 3 else if slOk p st = false then 4 else 0 := rfl
  have hb := fun k => st_bad (p := p) (st := st) (neg := neg) (k := k)
  have hg := st_good (p := p) (st := st) (neg := neg)
  generalize slOk p st = ok at *
  generalize polFault p = pf at *
  generalize inB st 200 599 = sb at *
  generalize isT neg = tn at *
  refine xcall_of_vc Tryz.func15 rfl _ Tryz.ntmps15 _ rfl (fun _ _ => Tryz.call15 _ _) rfl (fun w0 ρ0 => ?_)
  conv => whnf
  repeat' (first | (refine ⟨⟨[], rfl⟩, _, PH.Le.refl _, PH.Le.refl _, ?_⟩; conv => whnf) | (refine caseB_true ?_; conv => whnf) | (refine caseB_false ?_; conv => whnf) | ((with_reducible refine caseB_dec (fun h => ?_) (fun h => ?_)) <;> conv => whnf) | ((with_reducible refine caseB_ndec (fun h => ?_) (fun h => ?_)) <;> conv => whnf) | ((with_reducible refine caseB_not (fun h => ?_) (fun h => ?_)) <;> conv => whnf) | (refine Ret.go (hpf) ?_; conv => whnf) | (refine Ret.go (hst) ?_; conv => whnf) | (refine Ret.go (htm) ?_; conv => whnf) | (refine Ret.go (hsl) ?_; conv => whnf) | (with_reducible refine @And.intro (guardVC _ _ _ _ _) _ ?_ ?_) <;> conv => whnf | (refine caseB_intro (fun h => ?_) (fun h => ?_) <;> (try simp only [Bool.not_eq_true', Bool.not_eq_false', decide_eq_true_eq, decide_eq_false_iff_not] at h) <;> conv => whnf))
  all_goals refine ⟨_, PH.Le.refl _, ?_, rfl⟩
  all_goals first
    | exact hb 3 (by rw [e]; simp [*]) (by decide)
    | exact hb 4 (by rw [e]; simp [*]) (by decide)
    | exact hg (by rw [e]; simp [*])
theorem storeLife_spec (p : Pol) (st neg : Int) (M : PH) : Ret 16 [p.val, I st, I neg] M (irW (lfC p st neg) (lfV p st neg)) := by
  have hsl := l6Life_ret p st neg M
  have hpf := policyFault_spec p M
  have hp3 := polFault_3 (p := p)
  have hst := l1In_ret st 200 599 M
  have htm := l1Time_ret neg M
  have e : lfC p st neg = if ¬ polFault p = 0 then 3 else if inB st 200 599 = false then 3 else if isT neg = false then 3 else if slOk p st = false then 4 else 0 := rfl
  have hb := fun k => st_bad (p := p) (st := st) (neg := neg) (k := k)
  have hg := st_good (p := p) (st := st) (neg := neg)
  have hs : slOk p st = true → slS p st neg = slV p st neg := fun h => if_pos h
  generalize slOk p st = ok at *
  generalize polFault p = pf at *
  generalize inB st 200 599 = sb at *
  generalize isT neg = tn at *
  refine xcall_of_vc Tryz.func16 rfl _ Tryz.ntmps16 _ rfl (fun _ _ => Tryz.call16 _ _) rfl (fun w0 ρ0 => ?_)
  conv => whnf
  repeat' (first | (refine ⟨⟨[], rfl⟩, _, PH.Le.refl _, PH.Le.refl _, ?_⟩; conv => whnf) | (refine caseB_true ?_; conv => whnf) | (refine caseB_false ?_; conv => whnf) | ((with_reducible refine caseB_dec (fun h => ?_) (fun h => ?_)) <;> conv => whnf) | ((with_reducible refine caseB_ndec (fun h => ?_) (fun h => ?_)) <;> conv => whnf) | ((with_reducible refine caseB_not (fun h => ?_) (fun h => ?_)) <;> conv => whnf) | (refine Ret.go (hpf) ?_; conv => whnf) | (refine Ret.go (hst) ?_; conv => whnf) | (refine Ret.go (htm) ?_; conv => whnf) | (with_reducible refine @And.intro (guardVC _ _ _ _ _) _ ?_ ?_) <;> conv => whnf | (refine caseB_intro (fun h => ?_) (fun h => ?_) <;> (try simp only [Bool.not_eq_true', Bool.not_eq_false', decide_eq_true_eq, decide_eq_false_iff_not] at h) <;> conv => whnf))
  all_goals first
    | exact ⟨_, PH.Le.refl _, (by have h3 := hp3 (by assumption); subst h3; exact hb 3 (by rw [e]; simp) (by decide)), rfl⟩
    | exact ⟨_, PH.Le.refl _, hb 3 (by rw [e]; simp [*]) (by decide), rfl⟩
    | skip
  refine XCall.lift hsl [0] ?_ (by simp) (by simp) (by simp [AV.plain]) ?_
  · simp [ren, AV.plain]
  rintro r b M2 ⟨rfl, rfl, rfl⟩
  refine ⟨by simp [AV.plain], ?_⟩
  conv => whnf
  repeat' (first | (refine ⟨⟨[], rfl⟩, _, PH.Le.refl _, PH.Le.refl _, ?_⟩; conv => whnf) | (refine caseB_true ?_; conv => whnf) | (refine caseB_false ?_; conv => whnf) | ((with_reducible refine caseB_dec (fun h => ?_) (fun h => ?_)) <;> conv => whnf) | ((with_reducible refine caseB_ndec (fun h => ?_) (fun h => ?_)) <;> conv => whnf) | ((with_reducible refine caseB_not (fun h => ?_) (fun h => ?_)) <;> conv => whnf) | (with_reducible refine @And.intro (guardVC _ _ _ _ _) _ ?_ ?_) <;> conv => whnf | (refine caseB_intro (fun h => ?_) (fun h => ?_) <;> (try simp only [Bool.not_eq_true', Bool.not_eq_false', decide_eq_true_eq, decide_eq_false_iff_not] at h) <;> conv => whnf))
  all_goals refine ⟨_, PH.Le.refl _, ?_, rfl⟩
  all_goals first
    | exact hb 4 (by rw [e]; simp [*]) (by decide)
    | (rw [← hg (by rw [e]; simp [*]), ← hs (by assumption)]; rfl)
end Go.Proofs.YtdgipmlkkmmliaaGreatDoor
