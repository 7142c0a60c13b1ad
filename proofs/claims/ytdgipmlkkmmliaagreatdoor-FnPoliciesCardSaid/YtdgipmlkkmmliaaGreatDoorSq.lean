/-
  TEXTS among texts: those that a function is true of go.
-/
import Derived.Test.YtdgipmlkkmmliaaGreatDoorSp
namespace Go.Proofs.YtdgipmlkkmmliaaGreatDoor
set_option maxRecDepth 100000
set_option linter.unusedSimpArgs false
set_option linter.unusedVariables false
open Go.Xe
/-- The place of the first of a slice that a function is true of; -1 if there is none. -/
theorem indexFuncSt0  (g : FuncId) (p : ByteArray → Bool) (A : Option Addr) (c : Nat) (ws : List ByteArray) (M : PH) (hs : Sl M A 1 stC ws) (hn : ws.length ≤ 4294967296)
    (hg : ∀ x ∈ ws, XCall env g (.v (Value.string x) :: []) [] M fun r b M' => r = B (p x) ∧ b = [] ∧ M' = M) :
    XCall env 95 [.v (.slice A ws.length c), .fn g []] [] M fun r b M' => r = I (idxF p ws) ∧ b = [] ∧ M' = M := by
  refine xcall_of_vc Tryz.func95 rfl _ Tryz.ntmps95 _ rfl (fun _ _ => Tryz.call95 _ _) rfl (fun w0 ρ0 => ?_)
  conv => whnf
  refine loop_rule (fun i : Nat => ⟨slots 19 [(0, .v (.slice A ws.length c)), (1, .fn g []), (4, .v (I 0)), (7, .v (I ws.length)), (8, .v (I i))], []⟩) (fun i M' => i ≤ ws.length ∧ (∀ j, j < i → ∀ h : j < ws.length, p ws[j] = false) ∧ M' = M) (fun i => ws.length - i) 0 ?_ ?_ ?_
  · exact ⟨by simp [slots, leT], ⟨[], rfl⟩, (by first | exact Nat.zero_le _ | exact Nat.le_refl _), rfl, rfl⟩
  · exact ⟨Nat.zero_le _, fun j hj => absurd hj (Nat.not_lt_zero _), rfl⟩
  · rintro i M' ⟨hi, hp, rfl⟩
    conv => whnf
    repeat' (first | (refine ⟨⟨[], rfl⟩, _, PH.Le.refl _, PH.Le.refl _, ?_⟩; conv => whnf) | (refine caseB_true ?_; conv => whnf) | (refine caseB_false ?_; conv => whnf) | ((with_reducible refine caseB_dec (fun h => ?_) (fun h => ?_)) <;> conv => whnf) | ((with_reducible refine caseB_ndec (fun h => ?_) (fun h => ?_)) <;> conv => whnf) | ((with_reducible refine caseB_not (fun h => ?_) (fun h => ?_)) <;> conv => whnf) | (with_reducible refine @And.intro (guardVC _ _ _ _ _) _ ?_ ?_) <;> conv => whnf | (refine caseB_intro (fun h => ?_) (fun h => ?_) <;> (try simp only [Bool.not_eq_true', Bool.not_eq_false', decide_eq_true_eq, decide_eq_false_iff_not] at h) <;> conv => whnf))
    · have hi' : i < ws.length := by omega
      have hw : IntKind.i64.wrap ((i : Int) + 1) = (i : Int) + 1 := wr_id (by omega) (by omega)
      obtain ⟨hA, _, hc⟩ := hs.get hi'
      refine ⟨by omega, by omega, hA, ?_⟩
      conv => whnf
      refine ⟨Tx ws[i], hc, ?_⟩
      conv => whnf
      refine XCall.mono (hg ws[i] (List.getElem_mem hi')) fun r b M' hh => ?_
      obtain ⟨rfl, rfl, rfl⟩ := hh
      conv => whnf
      refine caseB_intro (fun hx => ?_) (fun hx => ?_)
      · conv => whnf
        exact ⟨_, PH.Le.refl _, by rw [idxF_at p ws i hi' hp hx]; rfl, rfl, rfl⟩
      · conv => whnf
        exact ⟨i + 1, ⟨by simp [slots, leT, hw], ⟨[], rfl⟩, (by first | exact Nat.zero_le _ | exact Nat.le_refl _), rfl, rfl⟩, ⟨by omega, fun j hj h => by
          rcases Nat.lt_succ_iff_lt_or_eq.1 hj with h1 | h1
          · exact hp j h1 h
          · subst h1; exact hx, rfl⟩, by omega⟩
    · exact ⟨_, PH.Le.refl _, by rw [idxF_no p ws (fun j h => hp j (by omega) h)]; rfl, rfl, rfl⟩

theorem getE_setlt {α : Type} {l : List α} {i j : Nat} {x : α} (h : i < j) : (l.set i x).drop j = l.drop j := by
  apply List.ext_getElem?
  intro n
  rw [List.getElem?_drop, List.getElem?_drop, List.getElem?_set, if_neg (by omega)]
theorem take_set_succ {α : Type} {l : List α} {i : Nat} {x : α} (h : i < l.length) : (l.set i x).take (i + 1) = l.take i ++ [x] := by
  rw [List.take_succ_eq_append_getElem (by simpa using h)]
  congr 1
  · apply List.ext_getElem?
    intro n
    rw [List.getElem?_take, List.getElem?_take]
    split
    · rw [List.getElem?_set, if_neg (by omega)]
    · rfl
  · simp
theorem subA0 (A : Option Addr) (sz m : Nat) : subA A 0 sz m = A := by
  unfold subA
  split
  · rfl
  · cases A <;> simp [Addr.add]
theorem filter_take {α : Type} (p : α → Bool) {l : List α} {i : Nat} (h : i < l.length) : (l.take (i + 1)).filter p = (l.take i).filter p ++ if p l[i] then [l[i]] else [] := by
  rw [List.take_succ_eq_append_getElem h, List.filter_append]
  congr 1
  by_cases e : p l[i] <;> simp [e]
theorem deleteFuncS_ret (g : FuncId) (p : ByteArray → Bool) (o : Option Nat) (A : Option Addr) (c : Nat) (ps : List ByteArray) (M : PH) (h : Ow M o A c 1 stC ps) (hn : ps.length ≤ 4194304)
    (hg : ∀ y ∈ ps, ∀ M, XCall env g [.v (Tx y)] [] M fun r b M' => r = B (p y) ∧ b = [] ∧ M' = M) :
    XCall env 54 [.v (.slice A ps.length c), .fn g []] [] M fun r b M' => r = .slice A (ps.filter fun y => !p y).length c ∧ b = [] ∧ Ow M' o A c 1 stC (ps.filter fun y => !p y) ∧ Keeps o M M' := by
  refine xcall_of_vc Tryz.func54 rfl _ Tryz.ntmps54 _ rfl (fun _ _ => Tryz.call54 _ _) rfl (fun w0 ρ0 => ?_)
  conv => whnf
  refine XCall.mono (indexFuncSt0 g p A c ps M (h.sl st_len) (by omega) fun y hy => hg y hy M) fun r b Ms hh => ?_
  obtain ⟨rfl, rfl, rfl⟩ := hh
  have hcap := h.le
  conv => whnf
  refine caseB_dec (fun h0 => ?_) (fun h0 => ?_)
  · have hf : ps.filter (fun y => !p y) = ps := by
      have ha := idxF_any p ps
      rw [h0] at ha
      rw [List.filter_eq_self]
      intro y hy
      have hb : ps.any p = false := by rw [ha]; rfl
      rw [List.any_eq_false] at hb
      simp [hb y hy]
    conv => whnf
    exact ⟨_, PH.Le.refl _, by rw [hf]; rfl, rfl, by rw [hf]; exact h, Keeps.refl _⟩
  obtain ⟨i0, hi0, e0, hp0, hbef⟩ : ∃ i, ∃ h : i < ps.length, idxF p ps = i ∧ p ps[i] = true ∧ ∀ j, ∀ h2 : j < i, p (ps[j]'(by omega)) = false := by
    unfold idxF at h0 ⊢
    cases hx : ps.findIdx? p with
    | none => rw [hx] at h0; exact absurd rfl h0
    | some i =>
      rw [List.findIdx?_eq_some_iff_getElem] at hx
      obtain ⟨h1, h2, h3⟩ := hx
      exact ⟨i, h1, rfl, h2, fun j hj => by simpa using h3 j hj⟩
  rw [e0]
  have hw0 : IntKind.i64.wrap ((i0 : Int) + 1) = ((i0 + 1 : Nat) : Int) := by rw [wrap_id (by omega) (by omega)]; omega
  conv => whnf
  refine loop_rule (fun z : Nat × Nat × List ByteArray => ⟨slots 42 [(0, .v (.slice A ps.length c)), (1, .fn g []), (5, .v (I z.1)), (6, .v (I z.2.1))], []⟩)
    (fun z M' => z.2.1 ≤ ps.length ∧ z.1 < z.2.1 ∧ z.2.2.length = ps.length ∧ z.2.2.take z.1 = (ps.take z.2.1).filter (fun y => !p y) ∧ z.2.2.drop z.2.1 = ps.drop z.2.1 ∧ Ow M' o A c 1 stC z.2.2 ∧ Keeps o M' M' ∧ Keeps o Ms M') (fun z => ps.length - z.2.1) (i0, i0 + 1, ps) ?_ ?_ ?_
  · exact ⟨by simp [slots, leT, hw0], ⟨[], rfl⟩, (by first | exact Nat.zero_le _ | exact Nat.le_refl _), rfl, rfl⟩
  · refine ⟨hi0, Nat.lt_succ_self _, rfl, ?_, rfl, h, Keeps.refl _, Keeps.refl _⟩
    show ps.take i0 = _
    rw [filter_take _ hi0, hp0]
    have : (ps.take i0).filter (fun y => !p y) = ps.take i0 := by
      rw [List.filter_eq_self]
      intro y hy
      obtain ⟨j, hj, rfl⟩ := List.getElem_of_mem hy
      simp at hj
      simp [hbef j (by omega)]
    rw [this]; simp
  rintro ⟨i, j, qs⟩ M1 ⟨hj, hij, hql, htk, hdr, hO, _, hK⟩
  have hj : j ≤ ps.length := hj
  have hij : i < j := hij
  have hql : qs.length = ps.length := hql
  have htk : qs.take i = (ps.take j).filter (fun y => !p y) := htk
  have hdr : qs.drop j = ps.drop j := hdr
  have hO : Ow M1 o A c 1 stC qs := hO
  conv => whnf
  refine caseB_dec (fun hb => ?_) (fun hb => ?_)
  · have hb : (j : Int) < ps.length := hb
    have hjl : j < ps.length := by omega
    have hw : IntKind.i64.wrap ((j : Int) + 1) = (j : Int) + 1 := wr_id (by omega) (by omega)
    have hwi : IntKind.i64.wrap ((i : Int) + 1) = (i : Int) + 1 := wr_id (by omega) (by omega)
    have hqj : qs[j]? = some ps[j] := by
      have := congrArg (fun l : List ByteArray => l[0]?) hdr
      simpa [hjl] using this
    obtain ⟨_, hc⟩ := (hO.sl st_len).at_ j _ hqj
    have hA : A.isSome = true := (hO.sl st_len).ne (fun e => by rw [e] at hql; simp at hql; omega)
    have hgy := hg ps[j] (List.getElem_mem hjl) M1
    have hft := filter_take (fun y => !p y) hjl
    have hdr2 : qs.drop (j + 1) = ps.drop (j + 1) := by
      have := congrArg (List.drop 1) hdr
      simpa [List.drop_drop, Nat.add_comm] using this
    generalize ps[j] = y at *
    conv => whnf
    refine ⟨by omega, by omega, hA, ?_⟩
    conv => whnf
    refine ⟨Tx y, hc, ?_⟩
    conv => whnf
    refine XCall.mono hgy fun r bs' M2 hh => ?_
    obtain ⟨rfl, rfl, rfl⟩ := hh
    conv => whnf
    refine caseB_not (fun hp => ?_) (fun hp => ?_)
    · conv => whnf
      refine ⟨by omega, by omega, hA, ?_⟩
      conv => whnf
      refine own_store (i := i) (j := 0) (vs := stC y) hO st_len (by omega) (by simp) y (by rfl) fun M3 hO3 hK3 => ?_
      conv => whnf
      refine ⟨(i + 1, j + 1, qs.set i y), ⟨by simp [slots, leT, hw, hwi], ⟨_, rfl⟩, (by first | exact Nat.zero_le _ | exact Nat.le_refl _), rfl, rfl⟩, ⟨hjl, Nat.succ_lt_succ hij, by rw [List.length_set]; exact hql, ?_, ?_, hO3, Keeps.refl _, hK.trans hK3⟩, by show _ - (j + 1) < _ - j; omega⟩
      · show (qs.set i y).take (i + 1) = _
        rw [take_set_succ (by omega), htk, hft, hp]
        simp
      · show (qs.set i y).drop (j + 1) = ps.drop (j + 1)
        rw [getE_setlt (by omega)]
        exact hdr2
    · conv => whnf
      refine ⟨(i, j + 1, qs), ⟨by simp [slots, leT, hw], ⟨_, rfl⟩, (by first | exact Nat.zero_le _ | exact Nat.le_refl _), rfl, rfl⟩, ⟨hjl, Nat.lt_succ_of_lt hij, hql, ?_, hdr2, hO, Keeps.refl _, hK⟩, by show _ - (j + 1) < _ - j; omega⟩
      show qs.take i = _
      rw [htk, hft, hp]
      simp
  · have hje : j = ps.length := by have : ¬ (j : Int) < ps.length := hb; omega
    subst hje
    rw [List.take_length] at htk
    have hlen : (ps.filter fun y => !p y).length = i := by rw [← htk, List.length_take]; omega
    conv => whnf
    refine ⟨⟨by omega, by omega⟩, ?_⟩
    conv => whnf
    cases o with
    | none => obtain ⟨rfl, _⟩ := hO; simp at hql; omega
    | some g' =>
      obtain ⟨off, cells, tyr, rfl, hg', h1, h2, hx⟩ := hO
      have hzl : (zerosL ti9 (ps.length - i)).length = (ps.length - i) * 1 := by
        unfold zerosL
        rw [repl_length (sz := 1) (by kernel_rfl)]
      have hone : (zerosL ti9 (ps.length - i)).all Value.oneCell' = true := by
        have hz : (ti9.zero.cells.toList).all Value.oneCell' = true := by kernel_rfl
        unfold zerosL
        rw [List.all_eq_true] at hz ⊢
        intro v hv
        obtain ⟨l, hl, hv⟩ := List.mem_flatten.1 hv
        rw [List.eq_of_mem_replicate hl] at hv
        exact hz v hv
      have hsub : subA (some ⟨g', off, none⟩) i 1 c = some ⟨g', off + i * 1, none⟩ := by
        unfold subA
        rw [if_neg (by omega)]
        simp [add_at]
      have hcl : off + c * 1 ≤ cells.length := h1
      have hbd : off + i * 1 + (zerosL ti9 (ps.length - i)).length ≤ cells.length := by rw [hzl]; omega
      refine .inr ⟨by show ps.length - i ≠ 0; omega, .inr ⟨g', off + i * 1, cells, tyr, hsub, hg', hbd, hone, ?_⟩⟩
      conv => whnf
      refine ⟨⟨by omega, by omega, by show (i : Int) ≤ (c : Int); omega⟩, ?_⟩
      conv => whnf
      have hO2 : Ow (M1.set g' (.cells (spl cells (off + i * 1) (zerosL ti9 (ps.length - i))).toArray tyr (0, 0))) (some g') (some ⟨g', off, none⟩) c 1 stC (ps.filter fun y => !p y) := by
        refine ⟨off, _, tyr, rfl, PH.set_same _ _ _, by rw [spl_length hbd]; exact h1, by rw [hlen]; omega, fun n y hn2 j2 v hv => ?_⟩
        have hni : n < i := by rw [← hlen]; exact (List.getElem?_eq_some_iff.1 hn2).1
        have hj2 : j2 < 1 := (List.getElem?_eq_some_iff.1 hv).1
        rw [spl_lt (by omega) (by omega)]
        refine hx n y ?_ j2 v hv
        rw [← htk, List.getElem?_take, if_pos hni] at hn2
        exact hn2
      refine ⟨_, PH.Le.refl _, ?_, rfl, hO2, fun k ob hk hne => ?_⟩
      · rw [hlen]
        show Value.slice (subA (some ⟨g', off, none⟩) 0 1 c) _ _ = _
        rw [subA0]
        rfl
      · have := hK k ob hk hne
        rw [PH.set_other _ _ (fun e => hne (by rw [e]))]
        exact this
end Go.Proofs.YtdgipmlkkmmliaaGreatDoor
