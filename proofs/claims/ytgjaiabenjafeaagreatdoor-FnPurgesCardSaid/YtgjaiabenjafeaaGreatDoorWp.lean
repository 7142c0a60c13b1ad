/-
  CONTRACTS: the model's own entry for slices.overlaps, slices.Insert at a row's head. CONTRACTS: slices.Insert at a row's head.
-/
import Derived.Test.YtgjaiabenjafeaaGreatDoorWn
import Derived.Lib.Overlaps
namespace Go.Proofs.YtgjaiabenjafeaaGreatDoor
set_option maxRecDepth 100000
set_option linter.unusedSimpArgs false
set_option linter.unusedVariables false
open Go.Xe
theorem overlaps_ret (a b : Nat) (off la ca lb cb : Nat) (csA csB : Array Value) (tyA tyB : TypeId) (fz : Nat × Nat) (M : PH) (ha : M a = some (.cells csA tyA (0, 0))) (hb : M b = some (.cells csB tyB fz)) (hab : a ≠ b) (hn : csB.size ≠ 0) :
    Ret 167 [.slice (some ⟨a, 0, none⟩) la ca, .slice (some ⟨b, off, none⟩) lb cb] M (B false) := by
  refine ⟨trivial, fun ρ w vs h1 h2 h3 h4 h5 => ?_⟩
  have := RelL.vs_eq h5
  subst this
  have hwa := h4 a _ ha
  have hwb := h4 b _ hb
  have hr := Lib.run_overlaps_apart w 34 4 44 Tryz.underlying34 13 (fun w => Tryz.sizeOf44 w) ⟨a, 0, none⟩ ⟨b, off, none⟩ la ca lb cb hab tyA tyB csA.size csB.size (by simp [World.shape?, hwa]) (by simp [World.shape?, hwb]) hn (by simp [World.frozen?, hwa]) (by simp [World.frozen?, hwa])
  refine .inr ⟨.bool false, w, ?_, ⟨_, [], M, rfl, rfl, fun i b hi => (by rw [List.getElem?_nil] at hi; cases hi), Post.refl h4, rfl, rfl⟩⟩
  show (callFunc 167 #[.slice (some ⟨a, 0, none⟩) la ca, .slice (some ⟨b, off, none⟩) lb cb]).run Tryz.prog w = _
  rw [run_callFunc_extern Tryz.func167 (by kernel_rfl) (by kernel_rfl) (by kernel_rfl) (e := Extern.SlicesOverlaps.overlaps #[34, 34] #[4]) (by kernel_rfl), hr]
  rfl
theorem two_puts {Z : List Value} {y : EP} {ps : List EP} (hz : (ps.length + 1) * 13 ≤ Z.length) : (spl (spl Z 0 (EP.cs y)) 13 (ps.flatMap EP.cs)).length = Z.length ∧ ∀ (i : Nat) (x : EP), (y :: ps)[i]? = some x → ∀ (j : Nat) (v : Value), (EP.cs x)[j]? = some v → (spl (spl Z 0 (EP.cs y)) 13 (ps.flatMap EP.cs))[0 + i * 13 + j]? = some v := by
  have hl := flatMap_length EP.len ps
  have e1 : (spl Z 0 (EP.cs y)).length = Z.length := spl_length (by rw [EP.len]; omega)
  refine ⟨(spl_length (by rw [e1, hl]; omega)).trans e1, fun i x hx j v hv => ?_⟩
  have hj : j < 13 := by rw [← EP.len x]; exact (List.getElem?_eq_some_iff.1 hv).1
  cases i with
  | zero =>
    have hx : y = x := by simpa using hx
    subst hx
    rw [spl_lt (by rw [e1]; omega) (by omega)]
    have := spl_mid (cells := Z) (l := EP.cs y) (off := 0) (Nat.zero_le _) (j := j) (by rw [EP.len]; exact hj)
    rw [show 0 + 0 * 13 + j = 0 + j by omega, this, hv]
  | succ i =>
    have hx : ps[i]? = some x := by simpa using hx
    have hi := (List.getElem?_eq_some_iff.1 hx).1
    rw [show 0 + (i + 1) * 13 + j = 13 + (i * 13 + j) by omega, spl_mid (by rw [e1]; omega) (by rw [hl]; omega)]
    exact flatMap_get EP.len ps i x hx j v hv
theorem le_set2 {M : PH} {g : Nat} (hg : M g = none) (a b : Obj) : M.Le ((M.set g a).set g b) := fun k ob hk => by
  have e : k ≠ g := fun e => by rw [e, hg] at hk; cases hk
  rw [PH.set_other _ _ e, PH.set_other _ _ e]
  exact hk
theorem sl_of_obj {M : PH} {gv : Nat} {y : EP} (hv : M gv = some (.cells (EP.cs y).toArray 44 (0, 0))) : Sl M (some ⟨gv, 0, none⟩) 13 EP.cs [y] := by
  have e : M = M.set gv (.cells ([y].flatMap EP.cs).toArray 44 (0, 0)) := by
    funext k
    by_cases hk : k = gv
    · rw [hk, PH.set_same, hv]
      simp
    · rw [PH.set_other _ _ hk]
  rw [e]
  exact sl_full EP.len M gv [y] _ _
theorem puts_in {Z : List Value} {off : Nat} {y : EP} {ps : List EP} (hz : off + (ps.length + 1) * 13 ≤ Z.length) : (spl (spl Z (off + 13) (ps.flatMap EP.cs)) off (EP.cs y)).length = Z.length ∧ ∀ (i : Nat) (x : EP), (y :: ps)[i]? = some x → ∀ (j : Nat) (v : Value), (EP.cs x)[j]? = some v → (spl (spl Z (off + 13) (ps.flatMap EP.cs)) off (EP.cs y))[off + i * 13 + j]? = some v := by
  have hl := flatMap_length EP.len ps
  have e1 : (spl Z (off + 13) (ps.flatMap EP.cs)).length = Z.length := spl_length (by rw [hl]; omega)
  refine ⟨(spl_length (by rw [e1, EP.len]; omega)).trans e1, fun i x hx j v hv => ?_⟩
  have hj : j < 13 := by rw [← EP.len x]; exact (List.getElem?_eq_some_iff.1 hv).1
  cases i with
  | zero =>
    have hx : y = x := by simpa using hx
    subst hx
    rw [show off + 0 * 13 + j = off + j by omega, spl_mid (by rw [e1]; omega) (by rw [EP.len]; exact hj), hv]
  | succ i =>
    have hx : ps[i]? = some x := by simpa using hx
    have hi := (List.getElem?_eq_some_iff.1 hx).1
    rw [spl_ge (by rw [e1]; omega) (by rw [EP.len]; omega), show off + (i + 1) * 13 + j = off + 13 + (i * 13 + j) by omega, spl_mid (by omega) (by rw [hl]; omega)]
    exact flatMap_get EP.len ps i x hx j v hv
theorem insert_ret (o : Option Nat) (A : Option Addr) (c : Nat) (ps : List EP) (y : EP) (gv : Nat) (M : PH) (h : Ow M o A c 13 EP.cs ps) (hv : M gv = some (.cells (EP.cs y).toArray 44 (0, 0))) (hg : o ≠ some gv) (hn : ps.length ≤ 1048576) :
    ACall env 125 [.slice A ps.length c, I 0, .slice (some ⟨gv, 0, none⟩) 1 1] M fun r M' => ∃ o' A' c', r = .slice A' (ps.length + 1) c' ∧ Ow M' o' A' c' 13 EP.cs (y :: ps) ∧ Keeps o M M' ∧ (o' = o ∨ ∃ g, o' = some g ∧ M g = none) := by
  have hcap := h.le
  have hS : Sl M (some ⟨gv, 0, none⟩) 13 EP.cs [y] := by
    have e : M = M.set gv (.cells ([y].flatMap EP.cs).toArray 44 (0, 0)) := by
      funext k
      by_cases hk : k = gv
      · rw [hk, PH.set_same, hv]
        simp
      · rw [PH.set_other _ _ hk]
    rw [e]
    exact sl_full EP.len M gv [y] _ _
  refine xcall_of_vc Tryz.func125 rfl _ Tryz.ntmps125 _ rfl (fun _ _ => Tryz.call125 _ _) rfl (fun w0 ρ0 => ?_)
  conv => whnf
  refine ⟨by omega, ?_⟩
  conv => whnf
  refine caseB_dec (fun h0 => ?_) (fun h0 => ?_)
  · exact absurd h0 (by decide)
  conv => whnf
  refine caseB_dec (fun h0 => ?_) (fun h0 => ?_)
  · have h0 : (0 : Int) = ps.length := h0
    have e0 : ps = [] := List.length_eq_zero_iff.1 (by omega)
    subst e0
    conv => whnf
    refine app_sl (te := ti44) (f := EP.cs) (xs := []) (ys := [y]) (o := o) hS h EP.len EP.one rfl (en_fits _ _ (by show 0 + 1 ≤ _; omega)) (by show 0 + 1 ≤ _; omega) fun o' A' c' M' hO hK hF => ?_
    conv => whnf
    exact ⟨_, PH.Le.refl _, o', A', c', rfl, hO, hK, hF⟩
  have h0 : ¬ (0 : Int) = ps.length := h0
  conv => whnf
  have hw : IntKind.i64.wrap ((ps.length : Int) + 1) = (ps.length : Int) + 1 := wr_id (by omega) (by omega)
  have hw0 : IntKind.i64.wrap ((ps.length : Int) + 1 - 0) = (ps.length : Int) + 1 := wr_id (by omega) (by omega)
  refine caseB_dec (fun h1 => ?_) (fun h1 => ?_)
  · have e2 : IntKind.i64.wrap (IntKind.i64.wrap ((ps.length : Int) + ((1 : Nat) : Int)) - 0) = ((ps.length + 1 : Nat) : Int) := by
      rw [show IntKind.i64.wrap ((ps.length : Int) + ((1 : Nat) : Int)) = (ps.length : Int) + 1 from hw]
      rw [hw0]
      omega
    have hcl : c < ps.length + 1 := by
      have h1 : (c : Int) < IntKind.i64.wrap ((ps.length : Int) + 1) := h1
      rw [hw] at h1
      omega
    conv => whnf
    refine ⟨⟨by omega, by omega, by omega⟩, ?_⟩
    conv => whnf
    rw [e2]
    refine ⟨⟨by omega, by omega⟩, ([] : List Value), rfl, .inl rfl, en_fits _ _ (by show 0 + ((ps.length + 1 : Nat) : Int).toNat ≤ _; omega), by show 0 + ((ps.length + 1 : Nat) : Int).toNat ≤ _; omega, fun hlt g c' hgf hc => ?_, fun hle => absurd hle (by show ¬ 0 + ((ps.length + 1 : Nat) : Int).toNat ≤ c; omega)⟩
    conv => whnf
    refine ⟨by omega, ?_⟩
    conv => whnf
    have hc0 : ps.length + 1 ≤ c' := by have : 0 + ((ps.length + 1 : Nat) : Int).toNat ≤ c' := hc; omega
    have hz := zeros_room (ps.length + 1) c' (by omega)
    have hmn : Nat.min 1 (Int.toNat 0 - Int.toNat 0 + ((ps.length + 1 : Nat) : Int).toNat - Int.toNat 0) = 1 := Nat.min_eq_left (by show 1 ≤ 0 - 0 + ((ps.length + 1 : Nat) : Int).toNat - 0; omega)
    refine ⟨EP.cs y, by rw [hmn]; exact EP.len y, .inr ((hS.mono (PH.Le.set _ hgf)).get (i := 0) (by simp)).2.2, ?_⟩
    conv => whnf
    refine .inr ⟨g, 0, _, _, subA_zero g _ _, PH.set_same _ _ _, Nat.le_trans (by rw [EP.len y]; omega : 0 + (EP.cs y).length ≤ 0 + c' * 13) hz, List.all_eq_true.2 (EP.one y), ?_⟩
    conv => whnf
    repeat' (first | (refine ⟨⟨[], rfl⟩, _, PH.Le.refl _, bot_le _, ?_⟩; conv => whnf) | (refine ⟨⟨_, rfl⟩, _, PH.Le.refl _, bot_le _, ?_⟩; conv => whnf) | (refine caseB_true ?_; conv => whnf) | (refine caseB_false ?_; conv => whnf) | ((with_reducible refine caseB_dec (fun h => ?_) (fun h => ?_)) <;> conv => whnf) | ((with_reducible refine caseB_ndec (fun h => ?_) (fun h => ?_)) <;> conv => whnf) | ((with_reducible refine caseB_not (fun h => ?_) (fun h => ?_)) <;> conv => whnf) | (refine draw_ruleJ (none) (.light 0 <| .light 1 <| .light 2 <| .light 3 <| .light 4 <| .light 5 <| .light 6 <| .light 7 <| .alt 8 false (.done) .nil) (by decide +kernel) (bot_le _) ?_; conv => whnf) | (refine draw_ruleJ (none) (.light 0 <| .light 1 <| .light 2 <| .light 3 <| .light 4 <| .light 5 <| .light 6 <| .light 7 <| .alt 8 false (.done) .nil) (by decide +kernel) (bot_le _) ?_; conv => whnf) | (with_reducible refine @And.intro (guardVC _ _ _ _ _) _ ?_ ?_) <;> conv => whnf | (refine caseB_intro (fun h => ?_) (fun h => ?_) <;> (try simp only [Bool.not_eq_true', Bool.not_eq_false', decide_eq_true_eq, decide_eq_false_iff_not] at h) <;> conv => whnf))
    have w1 : IntKind.i64.wrap ((0 : Int) + ((1 : Nat) : Int)) = 1 := by decide
    rw [w1]
    refine ⟨⟨by omega, by show (1 : Int) ≤ ((0 - 0 + ((ps.length + 1 : Nat) : Int).toNat : Nat) : Int); omega⟩, ?_⟩
    conv => whnf
    refine ⟨by omega, ?_⟩
    conv => whnf
    have hmn2 : Nat.min (ps.length - Int.toNat 0) (Int.toNat 0 - Int.toNat 0 + ((ps.length + 1 : Nat) : Int).toNat - Int.toNat 1) = ps.length := Nat.min_eq_left (by show ps.length - 0 ≤ 0 - 0 + ((ps.length + 1 : Nat) : Int).toNat - 1; omega)
    have hs13 : subA (some ⟨g, 0, none⟩) (Int.toNat 1) ti44.size c' = some ⟨g, 13, none⟩ := by
      unfold subA
      rw [if_neg (by show ¬ c' = 1; omega)]
      rfl
    refine ⟨ps.flatMap EP.cs, by rw [hmn2]; exact flatMap_length EP.len ps, ?_, ?_⟩
    · rw [hmn2]
      rw [show subA A (Int.toNat 0) ti44.size c = A from subA0 A 13 c]
      exact ((h.mono (le_set2 hgf _ _)).sl EP.len).flat EP.len
    · conv => whnf
      refine .inr ⟨g, 13, _, _, hs13, PH.set_same _ _ _, ?_, ?_, ?_⟩
      · refine Nat.le_trans ?_ (Nat.le_of_eq (spl_length (Nat.le_trans (by rw [EP.len y]; omega : 0 + (EP.cs y).length ≤ 0 + c' * 13) hz)).symm)
        refine Nat.le_trans ?_ hz
        rw [flatMap_length EP.len ps]
        omega
      · exact List.all_eq_true.2 fun v hv' => by
          obtain ⟨p, hp, hm⟩ := List.mem_flatMap.1 hv'
          exact EP.one p v hm
      conv => whnf
      refine ⟨⟨_, rfl⟩, _, PH.Le.refl _, bot_le _, ?_⟩
      conv => whnf
      refine ⟨_, PH.Le.refl _, some g, some ⟨g, 0, none⟩, c', ?_, ⟨0, _, _, rfl, PH.set_same _ _ _, ?_, by show ps.length + 1 ≤ c'; omega, ?_⟩, fun k ob hk _ => ?_, .inr ⟨g, rfl, hgf⟩⟩
      · show Value.slice _ (0 - 0 + ((ps.length + 1 : Nat) : Int).toNat) _ = _
        rw [Int.toNat_natCast, Nat.sub_self, Nat.zero_add]
      · refine Nat.le_trans ?_ (Nat.le_of_eq (two_puts (Nat.le_trans (by omega) hz)).1.symm)
        exact hz
      · exact (two_puts (Nat.le_trans (by omega) hz)).2
      · have e : k ≠ g := fun e => by rw [e, hgf] at hk; cases hk
        rw [PH.set_other _ _ e, PH.set_other _ _ e, PH.set_other _ _ e]
        exact hk
  · have hw' : IntKind.i64.wrap ((ps.length : Int) + ((1 : Nat) : Int)) = ((ps.length + 1 : Nat) : Int) := by
      rw [show IntKind.i64.wrap ((ps.length : Int) + ((1 : Nat) : Int)) = (ps.length : Int) + 1 from hw]
      omega
    have w1 : IntKind.i64.wrap ((0 : Int) + ((1 : Nat) : Int)) = 1 := by decide
    have hcl : ps.length + 1 ≤ c := by
      have h1 : ¬ (c : Int) < IntKind.i64.wrap ((ps.length : Int) + 1) := h1
      rw [hw] at h1
      omega
    have hflat := (h.sl EP.len).flat EP.len
    cases o with
    | none => exact absurd (by rw [h.1]; rfl) h0
    | some g0 =>
    obtain ⟨off, cells, ty, rfl, hM, hroom, hle, hrow⟩ := h
    have hgg : gv ≠ g0 := fun e => hg (by rw [e])
    conv => whnf
    rw [hw']
    refine ⟨⟨Int.le_refl _, by omega, by omega⟩, ?_⟩
    conv => whnf
    rw [w1]
    refine ⟨by omega, ?_⟩
    conv => whnf
    have hps : 1 ≤ ps.length := by
      have h0 : ¬ (0 : Int) = ps.length := h0
      omega
    have hs0 : subA (some ⟨g0, off, none⟩) (Int.toNat 0) ti44.size c = some ⟨g0, off, none⟩ := subA0 _ 13 c
    have hs1 : subA (some ⟨g0, off, none⟩) (Int.toNat 1) ti44.size (c - Int.toNat 0) = some ⟨g0, off + 13, none⟩ := by
      unfold subA
      rw [if_neg (by show ¬ c - 0 = 1; omega)]
      rfl
    rw [hs0, hs1]
    refine Ret.go (overlaps_ret gv g0 (off + 13) _ _ _ _ _ _ _ _ _ M hv hM hgg (by rw [List.size_toArray]; omega)) ?_
    conv => whnf
    refine caseB_not (fun _ => ?_) (fun h => nomatch h)
    conv => whnf
    repeat' (first | (refine ⟨⟨[], rfl⟩, _, PH.Le.refl _, bot_le _, ?_⟩; conv => whnf) | (refine ⟨⟨_, rfl⟩, _, PH.Le.refl _, bot_le _, ?_⟩; conv => whnf) | (refine caseB_true ?_; conv => whnf) | (refine caseB_false ?_; conv => whnf) | ((with_reducible refine caseB_dec (fun h => ?_) (fun h => ?_)) <;> conv => whnf) | ((with_reducible refine caseB_ndec (fun h => ?_) (fun h => ?_)) <;> conv => whnf) | ((with_reducible refine caseB_not (fun h => ?_) (fun h => ?_)) <;> conv => whnf) | (refine draw_ruleJ (none) (.light 0 <| .light 1 <| .light 2 <| .light 3 <| .light 4 <| .light 5 <| .light 6 <| .light 7 <| .alt 8 false (.done) .nil) (by decide +kernel) (bot_le _) ?_; conv => whnf) | (refine draw_ruleJ (none) (.light 0 <| .light 1 <| .light 2 <| .light 3 <| .light 4 <| .light 5 <| .light 6 <| .light 7 <| .alt 8 false (.done) .nil) (by decide +kernel) (bot_le _) ?_; conv => whnf) | (with_reducible refine @And.intro (guardVC _ _ _ _ _) _ ?_ ?_) <;> conv => whnf | (refine caseB_intro (fun h => ?_) (fun h => ?_) <;> (try simp only [Bool.not_eq_true', Bool.not_eq_false', decide_eq_true_eq, decide_eq_false_iff_not] at h) <;> conv => whnf))
    rw [w1]
    refine ⟨⟨by omega, by show (1 : Int) ≤ ((((ps.length + 1 : Nat) : Int).toNat - 0 : Nat) : Int); omega⟩, ?_⟩
    conv => whnf
    refine ⟨by omega, ?_⟩
    conv => whnf
    have hmn3 : Nat.min (((ps.length + 1 : Nat) : Int).toNat - Int.toNat 0 - Int.toNat 0) (((ps.length + 1 : Nat) : Int).toNat - Int.toNat 0 - Int.toNat 1) = ps.length :=
      (Nat.min_eq_right (by show _ - 0 - 1 ≤ _ - 0 - 0; omega)).trans (by show ((ps.length + 1 : Nat) : Int).toNat - 0 - 1 = ps.length; omega)
    have hs00 : subA (some ⟨g0, off, none⟩) (Int.toNat 0) ti44.size (c - Int.toNat 0) = some ⟨g0, off, none⟩ := subA0 _ 13 _
    have hl := flatMap_length EP.len ps
    refine ⟨ps.flatMap EP.cs, by rw [hmn3]; exact hl, by rw [hmn3, hs00]; exact hflat, ?_⟩
    conv => whnf
    refine .inr ⟨g0, off + 13, cells, ty, hs1, hM, by rw [hl]; omega, List.all_eq_true.2 fun v hv' => by
      obtain ⟨p, hp, hm⟩ := List.mem_flatMap.1 hv'
      exact EP.one p v hm, ?_⟩
    conv => whnf
    refine ⟨⟨_, rfl⟩, _, PH.Le.refl _, bot_le _, ?_⟩
    conv => whnf
    refine ⟨by omega, ?_⟩
    conv => whnf
    have hmn4 : Nat.min 1 (((ps.length + 1 : Nat) : Int).toNat - Int.toNat 0 - Int.toNat 0) = 1 := Nat.min_eq_left (by show 1 ≤ ((ps.length + 1 : Nat) : Int).toNat - 0 - 0; omega)
    refine ⟨EP.cs y, by rw [hmn4]; exact EP.len y, ?_, ?_⟩
    · exact .inr ((sl_of_obj (y := y) (by rw [PH.set_other _ _ hgg]; exact hv)).get (i := 0) (by simp)).2.2
    · have hpi := puts_in (Z := cells) (off := off) (y := y) (ps := ps) (by omega)
      conv => whnf
      refine .inr ⟨g0, off, _, _, hs00, PH.set_same _ _ _, by rw [spl_length (by rw [hl]; omega), EP.len]; omega, List.all_eq_true.2 (EP.one y), ?_⟩
      conv => whnf
      refine ⟨_, PH.Le.refl _, some g0, some ⟨g0, off, none⟩, c, ?_, ⟨off, _, ty, rfl, PH.set_same _ _ _, by rw [hpi.1]; exact hroom, hcl, hpi.2⟩, fun k ob hk hne => ?_, .inl rfl⟩
      · show Value.slice _ (((ps.length + 1 : Nat) : Int).toNat - 0) (c - 0) = _
        rw [Int.toNat_natCast]
        rfl
      · have e : k ≠ g0 := fun e => hne (by rw [e])
        rw [PH.set_other _ _ e, PH.set_other _ _ e]
        exact hk
end Go.Proofs.YtgjaiabenjafeaaGreatDoor
