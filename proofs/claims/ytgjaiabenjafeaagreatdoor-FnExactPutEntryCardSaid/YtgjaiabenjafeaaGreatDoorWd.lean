/-
  RESULTS that hold a store: compared, marked, read again; what l8Ask gives.
-/
import Derived.Test.YtgjaiabenjafeaaGreatDoorWc
namespace Go.Proofs.YtgjaiabenjafeaaGreatDoor
set_option maxRecDepth 100000
set_option linter.unusedSimpArgs false
set_option linter.unusedVariables false
open Go.Xe
abbrev srS (k : Int) (s : So) : Value := .agg #[I k, I s.b, I s.g, .slice s.A1 s.p1.length s.c1, .slice s.A2 s.p2.length s.c2]
theorem eqSRS_ret (k : Int) (s s' : So) (M : PH) (h : Dso M s) (h' : Dso M s') (e : s.c = s'.c) (hco : s.c.cost ≤ 1048576) : Ret 48 [srS k s, srS k s'] M (B true) := by
  have hq := eqStore_ret s.sta s'.sta M h.inn h'.inn (by rw [s.sta_c, s'.sta_c]; exact e) (by rw [s.sta_c]; exact hco)
  rw [s.sta_val, s'.sta_val] at hq
  refine xcall_of_vc Tryz.func48 rfl _ Tryz.ntmps48 _ rfl (fun _ _ => Tryz.call48 _ _) rfl (fun w0 ρ0 => ?_)
  conv => whnf
  refine caseB_ndec (fun h => absurd rfl h) (fun _ => ?_)
  conv => whnf
  refine Ret.go hq ?_
  conv => whnf
  refine caseB_false ?_
  conv => whnf
  exact ⟨_, PH.Le.refl _, rfl, rfl⟩
theorem markSRS_ret (k : Int) (s : So) (M : PH) (h : Dso M s) (hk : Mok 1 s) :
    ACall env 49 [srS k s, I 1] M fun r M' => ∃ s', r = I (posS 1 s) ∧ Mks 1 s s' ∧ Dso M' s' ∧ KeepsL (soL s) M M' := by
  refine xcall_of_vc Tryz.func49 rfl _ Tryz.ntmps49 _ rfl (fun _ _ => Tryz.call49 _ _) rfl (fun w0 ρ0 => ?_)
  conv => whnf
  refine ACall.step (markStore_ret s 1 M h hk) fun v M1 hh => ?_
  obtain ⟨s', rfl, h1, h2, h3⟩ := hh
  conv => whnf
  exact ⟨_, PH.Le.refl _, s', rfl, h1, h2, h3⟩
theorem heldSRS_ret (k : Int) (s s' : So) (M : PH) (h : Dso M s') (hk : Mok 1 s) (hm : Mks 1 s s') : Ret 50 [srS k s, I 1] M (I (posS 1 s)) := by
  have hps := posS_end hk
  refine xcall_of_vc Tryz.func50 rfl _ Tryz.ntmps50 _ rfl (fun _ _ => Tryz.call50 _ _) rfl (fun w0 ρ0 => ?_)
  conv => whnf
  refine Ret.go (heldStore_ret s s' 1 M h hk hm hm.a) ?_
  conv => whnf
  refine caseB_dec (fun h => ?_) (fun _ => ?_)
  · exfalso; have h : posS 1 s < 0 := h; omega
  conv => whnf
  exact ⟨_, PH.Le.refl _, rfl, rfl⟩
def zSo : So := ⟨0, 0, none, none, 0, [], none, none, 0, []⟩
def zSc : Sc := ⟨0, 0, [], []⟩
theorem zDw (M : PH) : Dw M none none 0 [] := (NewD.nil M M none (PH.Le.refl M)).d
theorem zSo_new (M : PH) : NewS M M zSo := ⟨⟨zDw M, zDw M, fun a ha b hb => by simp [dwL, zSo] at ha; subst ha; intro g e; cases e⟩, PH.Le.refl M, fun b hb g e => by simp [soL, dwL, zSo] at hb; subst hb; cases e⟩
def askS (s : Sc) (ok : Bool) : Sc := if ok then s else zSc
theorem l8Ask_ret (x : StA) (k : ByteArray) (M : PH) (hi : x.inn M) (hco : x.c.cost ≤ 1048576) :
    XCall env 114 [.bp 0 0, .v (Tx k)] [stBox x] M fun r b M' => (∃ s : So, r = .tuple #[s.val, I (swF x.c k)] ∧ s.c = (if swF x.c k = 0 then x.c else zSc) ∧ NewS M M' s) ∧ b = [stBox x] := by
  refine xcall_of_vc Tryz.func114 rfl _ Tryz.ntmps114 _ rfl (fun _ _ => Tryz.call114 _ _) rfl (fun w0 ρ0 => ?_)
  conv => whnf
  refine Ret.go (storeFault_spec x _ hi hco) ?_
  conv => whnf
  refine caseB_ndec (fun h => ?_) (fun h => ?_)
  · conv => whnf
    have e : swF x.c k = stFault x.c := by unfold swF; rw [if_pos h]
    exact ⟨_, PH.Le.refl _, ⟨zSo, by rw [e]; rfl, by rw [e, if_neg h]; rfl, zSo_new M⟩, rfl⟩
  conv => whnf
  refine XCall.lift (l8Peek_ret x k M hi hco) [0] ?_ (by simp) (by simp) (by simp [AV.plain]) ?_
  · simp [ren]
  rintro r bs' M1 ⟨⟨y, rfl, ey, hy⟩, rfl⟩
  refine ⟨by simp [AV.plain], ?_⟩
  cases hl : look x.c.all k with
  | none =>
    have e : swF x.c k = 4 := by unfold swF; rw [if_neg (by simpa using h), if_pos hl]
    conv => whnf
    refine caseB_true ?_
    conv => whnf
    exact ⟨M, hy.le, ⟨zSo, by rw [e]; rfl, by rw [e]; rfl, zSo_new M⟩, rfl⟩
  | some e0 =>
    have e : swF x.c k = 0 := by unfold swF; rw [if_neg (by simpa using h), if_neg (by rw [hl]; simp)]
    conv => whnf
    refine caseB_false ?_
    conv => whnf
    refine XCall.lift (l8Copy_ret x M1 (hi.mono hy.le) hco) [0] ?_ (by simp) (by simp) (by simp [AV.plain]) ?_
    · simp [ren]
    rintro r bs' M2 ⟨⟨s, rfl, es, hs⟩, rfl⟩
    refine ⟨by simp [AV.plain], ?_⟩
    conv => whnf
    exact ⟨_, PH.Le.refl _, ⟨s, by rw [e]; rfl, by rw [es, if_pos e], ⟨hs.d, hy.le.trans hs.le, hs.fr.le hy.le⟩⟩, rfl⟩
end Go.Proofs.YtgjaiabenjafeaaGreatDoor
