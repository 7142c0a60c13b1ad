/-
  THE ITEMS of any text; names.
-/
import Derived.Test.YtdgipmlkkmmliaaGreatDoorId
namespace Go.Proofs.YtdgipmlkkmmliaaGreatDoor
set_option maxRecDepth 100000
set_option linter.unusedSimpArgs false
set_option linter.unusedVariables false
open Go.Xe
theorem parseItems_impl (t : ByteArray) (M : PH) :
    ACall env 58 [Tx t] M fun r M' => ∃ o A c, r = nrW (parC t) A (parR t).length c ∧ New M M' o A c 3 It.cs (parR t) := by
  by_cases ht : t.size ≤ 1000
  · exact parseItems_ret t M ht
  · have e : parC t = 2 := if_pos (by omega)
    have e2 : parR t = [] := by unfold parR; rw [e]; rfl
    refine xcall_of_vc Tryz.func58 rfl _ Tryz.ntmps58 _ rfl (fun _ _ => Tryz.call58 _ _) rfl (fun w0 ρ0 => ?_)
    conv => whnf
    refine caseB_dec (fun h => ?_) (fun h => ?_)
    · conv => whnf
      exact ⟨_, PH.Le.refl _, none, none, 0, by rw [e, e2]; rfl, by rw [e2]; exact New.nil M none⟩
    · exfalso
      omega
theorem parseItems_spec (t : ByteArray) (M : PH) :
    ACall env 117 [Tx t] M fun r M' => ∃ o A c, r = nrW (parC t) A (parR t).length c ∧ New M M' o A c 3 It.cs (parR t) := by
  by_cases ht : t.size ≤ 1000
  · refine xcall_of_vc Tryz.func117 rfl _ Tryz.ntmps117 _ rfl (fun _ _ => Tryz.call117 _ _) rfl (fun w0 ρ0 => ?_)
    conv => whnf
    refine caseB_dec (fun h => ?_) (fun h => ?_)
    · exfalso
      omega
    conv => whnf
    refine ACall.step (l2Parse_ret t _ ht) fun r M1 hh => ?_
    obtain ⟨o, A, c, rfl, N⟩ := hh
    conv => whnf
    exact ⟨_, PH.Le.refl _, o, A, c, rfl, N⟩
  · have e : parC t = 2 := if_pos (by omega)
    have e2 : parR t = [] := by unfold parR; rw [e]; rfl
    refine xcall_of_vc Tryz.func117 rfl _ Tryz.ntmps117 _ rfl (fun _ _ => Tryz.call117 _ _) rfl (fun w0 ρ0 => ?_)
    conv => whnf
    refine caseB_dec (fun h => ?_) (fun h => ?_)
    · conv => whnf
      exact ⟨_, PH.Le.refl _, none, none, 0, by rw [e, e2]; rfl, by rw [e2]; exact New.nil M none⟩
    · exfalso
      omega
theorem l6Items_ret (A : Option Addr) (c : Nat) (ws : List Hd) (nm : ByteArray) (M : PH) (hs : Sl M A 2 Hd.cs ws) (hco : costL Hd.cost ws ≤ 1048576) (ho : ∀ x ∈ ws, x.okl) (hnm : nm.size ≤ maxLen) :
    ACall env 77 [.slice A ws.length c, Tx nm] M fun r M' => ∃ A' c', r = .tuple #[.slice A' (parR (jn (vals ws nm))).length c', B (decide (parC (jn (vals ws nm)) = 0))] ∧ Sl M' A' 3 It.cs (parR (jn (vals ws nm))) ∧ M.Le M' := by
  have hj := l4Join_ret A c ws nm M hs (by omega) ho hnm
  have hp := parseItems_spec (jn (vals ws nm)) M
  by_cases hv : vals ws nm = []
  · have e : parC (jn []) = 0 ∧ parR (jn []) = [] := by
      have h1 : parL (jn []) = some [] := by
        unfold parL
        rw [pcs_ge (by decide), itsG, if_pos (by decide +kernel)]
        rfl
      have h2 : parC (jn []) = 0 := by unfold parC; rw [if_neg (by decide), h1]; rfl
      exact ⟨h2, by unfold parR; rw [if_pos h2, h1]; rfl⟩
    rw [hv] at hj hp ⊢
    refine xcall_of_vc Tryz.func77 rfl _ Tryz.ntmps77 _ rfl (fun _ _ => Tryz.call77 _ _) rfl (fun w0 ρ0 => ?_)
    conv => whnf
    refine Ret.go hj ?_
    conv => whnf
    repeat' (first | (refine ⟨⟨[], rfl⟩, _, PH.Le.refl _, PH.Le.refl _, ?_⟩; conv => whnf) | (refine caseB_true ?_; conv => whnf) | (refine caseB_false ?_; conv => whnf) | ((with_reducible refine caseB_dec (fun h => ?_) (fun h => ?_)) <;> conv => whnf) | ((with_reducible refine caseB_ndec (fun h => ?_) (fun h => ?_)) <;> conv => whnf) | ((with_reducible refine caseB_not (fun h => ?_) (fun h => ?_)) <;> conv => whnf) | (with_reducible refine @And.intro (guardVC _ _ _ _ _) _ ?_ ?_) <;> conv => whnf | (refine caseB_intro (fun h => ?_) (fun h => ?_) <;> (try simp only [Bool.not_eq_true', Bool.not_eq_false', decide_eq_true_eq, decide_eq_false_iff_not] at h) <;> conv => whnf))
    exact ⟨_, PH.Le.refl _, none, 0, by rw [e.1, e.2]; rfl, by rw [e.2]; exact Sl.nil, PH.Le.refl _⟩
  · have hb : (!(vals ws nm).isEmpty) = true := by
      cases h : vals ws nm with
      | nil => exact absurd h hv
      | cons x r => rfl
    rw [hb] at hj
    refine xcall_of_vc Tryz.func77 rfl _ Tryz.ntmps77 _ rfl (fun _ _ => Tryz.call77 _ _) rfl (fun w0 ρ0 => ?_)
    conv => whnf
    refine Ret.go hj ?_
    conv => whnf
    repeat' (first | (refine ⟨⟨[], rfl⟩, _, PH.Le.refl _, PH.Le.refl _, ?_⟩; conv => whnf) | (refine caseB_true ?_; conv => whnf) | (refine caseB_false ?_; conv => whnf) | ((with_reducible refine caseB_dec (fun h => ?_) (fun h => ?_)) <;> conv => whnf) | ((with_reducible refine caseB_ndec (fun h => ?_) (fun h => ?_)) <;> conv => whnf) | ((with_reducible refine caseB_not (fun h => ?_) (fun h => ?_)) <;> conv => whnf) | (with_reducible refine @And.intro (guardVC _ _ _ _ _) _ ?_ ?_) <;> conv => whnf | (refine caseB_intro (fun h => ?_) (fun h => ?_) <;> (try simp only [Bool.not_eq_true', Bool.not_eq_false', decide_eq_true_eq, decide_eq_false_iff_not] at h) <;> conv => whnf))
    refine ACall.step hp fun r M1 hh => ?_
    obtain ⟨o, A1, c1, rfl, N⟩ := hh
    conv => whnf
    repeat' (first | (refine ⟨⟨[], rfl⟩, _, PH.Le.refl _, bot_le _, ?_⟩; conv => whnf) | (refine ⟨⟨_, rfl⟩, _, PH.Le.refl _, bot_le _, ?_⟩; conv => whnf) | (refine caseB_true ?_; conv => whnf) | (refine caseB_false ?_; conv => whnf) | ((with_reducible refine caseB_dec (fun h => ?_) (fun h => ?_)) <;> conv => whnf) | ((with_reducible refine caseB_ndec (fun h => ?_) (fun h => ?_)) <;> conv => whnf) | ((with_reducible refine caseB_not (fun h => ?_) (fun h => ?_)) <;> conv => whnf) | (refine draw_ruleJ (some [0]) (.light 0 <| .light 1 <| .light 2 <| .light 3 <| .light 4 <| .light 5 <| .light 6 <| .done) (by decide +kernel) (bot_le _) ?_; conv => whnf) | (with_reducible refine @And.intro (guardVC _ _ _ _ _) _ ?_ ?_) <;> conv => whnf | (refine caseB_intro (fun h => ?_) (fun h => ?_) <;> (try simp only [Bool.not_eq_true', Bool.not_eq_false', decide_eq_true_eq, decide_eq_false_iff_not] at h) <;> conv => whnf))
    exact ⟨_, PH.Le.refl _, A1, c1, rfl, N.ow.sl It.len, N.le⟩
end Go.Proofs.YtdgipmlkkmmliaaGreatDoor
