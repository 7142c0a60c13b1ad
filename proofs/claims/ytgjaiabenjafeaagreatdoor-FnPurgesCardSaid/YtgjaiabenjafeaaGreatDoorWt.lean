/-
  CONTRACTS: an entry taken out at a place; the last entry that may go.
-/
import Derived.Test.YtgjaiabenjafeaaGreatDoorWs
namespace Go.Proofs.YtgjaiabenjafeaaGreatDoor
set_option maxRecDepth 100000
set_option linter.unusedSimpArgs false
set_option linter.unusedVariables false
open Go.Xe
/-- An append that fits the room of a row of one's own. -/
theorem app_fit {α : Type} {f : α → List Value} {te : TI} {e : TypeId} {A B : Option Addr} {c : Nat} {M : PH} {o : Option Nat} {xs : List α} {ys : List α} {K : AV → PH → Prop} (hs : Sl M B te.size f ys) (ho : Ow M o A c te.size f xs) (hf : ∀ x, (f x).length = te.size) (h1 : ∀ x, ∀ v ∈ f x, v.oneCell' = true)
    (hb : (xs.length + ys.length) * te.bytes ≤ 140737488355328) (h63 : xs.length + ys.length ≤ 9223372036854775807) (hfit : xs.length + ys.length ≤ c)
    (hk : ∀ M', Ow M' o A c te.size f (xs ++ ys) → Keeps o M M' → K (.v (.slice A (xs ++ ys).length c)) M') :
    ∃ news : List Value, news.length = ys.length * te.size ∧ (ys.length = 0 ∨ M.cells B 0 news) ∧ appVC te e A xs.length c ys.length news M K := by
  refine ⟨ys.flatMap f, flatMap_length hf ys, hs.flat hf, xs.flatMap f, flatMap_length hf xs, (ho.sl hf).flat hf, hb, h63, fun hc => absurd hc (by omega), fun hc => ?_⟩
  cases o with
  | none =>
    have hx := ho.1
    have hy : ys = [] := List.eq_nil_of_length_eq_zero (by have := ho.2; omega)
    subst hx; subst hy
    exact .inl ⟨rfl, hk M ho (Keeps.refl M)⟩
  | some g =>
    obtain ⟨off, cells, ty, rfl, hg, hl, _, hx⟩ := ho
    have e2 := flatMap_length hf ys
    have hle : off + (xs.length + ys.length) * te.size ≤ cells.length := by
      have := Nat.mul_le_mul_right te.size hc
      omega
    rw [Nat.add_mul] at hle
    refine .inr ⟨g, off, cells, ty, (0, 0), rfl, hg, ⟨by rw [Nat.add_mul]; exact hle, .inl (Nat.zero_le _)⟩, ?_, ?_⟩
    · rw [List.all_eq_true]
      intro v hv
      obtain ⟨y, _, hy⟩ := List.mem_flatMap.1 hv
      exact h1 y v hy
    · have := hk (M.set g (.cells (spl cells (off + xs.length * te.size) (ys.flatMap f)).toArray ty (0, 0)))
        ⟨off, _, ty, rfl, PH.set_same _ _ _, ?_, by rw [List.length_append]; exact hc, fun i x hi j v hv => ?_⟩ (fun k ob hk' hne => ?_)
      · rwa [List.length_append] at this
      · rw [spl_length (by rw [e2]; omega)]; exact hl
      · have hj : j < te.size := by rw [← hf x]; exact (List.getElem?_eq_some_iff.1 hv).1
        rw [List.getElem?_append] at hi
        split at hi
        · rename_i hlt
          have : i * te.size + te.size ≤ xs.length * te.size := by rw [← Nat.succ_mul]; exact Nat.mul_le_mul_right _ hlt
          rw [spl_lt (by omega) (by omega)]
          exact hx i x hi j v hv
        · rename_i hge
          have hw := flatMap_get hf ys (i - xs.length) x hi j v hv
          have hwl := (List.getElem?_eq_some_iff.1 hw).1
          have : i * te.size = xs.length * te.size + (i - xs.length) * te.size := by rw [← Nat.add_mul]; congr 1; omega
          rw [show off + i * te.size + j = off + xs.length * te.size + ((i - xs.length) * te.size + j) by omega, spl_mid (by omega) hwl]
          exact hw
      · rw [PH.set_other _ _ (fun e => hne (by rw [e]))]; exact hk'
theorem app_fitN {α : Type} {f : α → List Value} {te : TI} {e : TypeId} {A B : Option Addr} {c n m : Nat} {M : PH} {o : Option Nat} {xs : List α} {ys : List α} {K : AV → PH → Prop} (hn : n = xs.length) (hm : m = ys.length) (hs : Sl M B te.size f ys) (ho : Ow M o A c te.size f xs) (hf : ∀ x, (f x).length = te.size) (h1 : ∀ x, ∀ v ∈ f x, v.oneCell' = true)
    (hb : (xs.length + ys.length) * te.bytes ≤ 140737488355328) (h63 : xs.length + ys.length ≤ 9223372036854775807) (hfit : xs.length + ys.length ≤ c)
    (hk : ∀ M', Ow M' o A c te.size f (xs ++ ys) → Keeps o M M' → K (.v (.slice A (xs ++ ys).length c)) M') :
    ∃ news : List Value, news.length = m * te.size ∧ (m = 0 ∨ M.cells B 0 news) ∧ appVC te e A n c m news M K := by
  subst hn; subst hm
  exact app_fit hs ho hf h1 hb h63 hfit hk
theorem erase_eq {α : Type} (l : List α) (i : Nat) : l.eraseIdx i = l.take i ++ l.drop (i + 1) := List.eraseIdx_eq_take_drop_succ l i
theorem delete_ret (o : Option Nat) (A : Option Addr) (c : Nat) (ps : List EP) (i : Nat) (M : PH) (h : Ow M o A c 13 EP.cs ps) (hi : i < ps.length) (hn : ps.length ≤ 1048576) :
    ACall env 127 [.slice A ps.length c, I i, I (i + 1 : Nat)] M fun r M' => r = .slice A (ps.eraseIdx i).length c ∧ Ow M' o A c 13 EP.cs (ps.eraseIdx i) ∧ Keeps o M M' := by
  have hcap := h.le
  refine xcall_of_vc Tryz.func127 rfl _ Tryz.ntmps127 _ rfl (fun _ _ => Tryz.call127 _ _) rfl (fun w0 ρ0 => ?_)
  conv => whnf
  refine ⟨by omega, ?_⟩
  conv => whnf
  refine caseB_dec (fun h0 => absurd h0 (by omega)) (fun _ => ?_)
  conv => whnf
  repeat' (first | (refine ⟨⟨[], rfl⟩, _, PH.Le.refl _, bot_le _, ?_⟩; conv => whnf) | (refine ⟨⟨_, rfl⟩, _, PH.Le.refl _, bot_le _, ?_⟩; conv => whnf) | (refine caseB_true ?_; conv => whnf) | (refine caseB_false ?_; conv => whnf) | ((with_reducible refine caseB_dec (fun h => ?_) (fun h => ?_)) <;> conv => whnf) | ((with_reducible refine caseB_ndec (fun h => ?_) (fun h => ?_)) <;> conv => whnf) | ((with_reducible refine caseB_not (fun h => ?_) (fun h => ?_)) <;> conv => whnf) | (refine draw_ruleJ (none) (.light 0 <| .light 1 <| .light 2 <| .light 3 <| .light 4 <| .light 5 <| .alt 6 false (.light 7 <| .done) .nil) (by decide +kernel) (bot_le _) ?_; conv => whnf) | (with_reducible refine @And.intro (guardVC _ _ _ _ _) _ ?_ ?_) <;> conv => whnf | (refine caseB_intro (fun h => ?_) (fun h => ?_) <;> (try simp only [Bool.not_eq_true', Bool.not_eq_false', decide_eq_true_eq, decide_eq_false_iff_not] at h) <;> conv => whnf))
  refine ⟨⟨by omega, by omega, by omega⟩, ?_⟩
  conv => whnf
  refine ⟨⟨by omega, by omega⟩, ?_⟩
  conv => whnf
  rw [show subA A (Int.toNat 0) ti44.size c = A from subA0 _ 13 _]
  have hl1 : (ps.take i).length = i := by rw [List.length_take]; omega
  have hl2 : (ps.drop (i + 1)).length = ps.length - (i + 1) := List.length_drop
  have hsub : Sl M (subA A (i + 1) 13 c) 13 EP.cs (ps.drop (i + 1)) := (h.sl EP.len).cutD (l := i + 1) (m := c) hcap (by omega)
  refine app_fitN (te := ti44) (f := EP.cs) (xs := ps.take i) (ys := ps.drop (i + 1)) (o := o) (by rw [hl1]; rfl) (by rw [hl2]; rfl) hsub (ow_take h i) EP.len EP.one (en_fits _ _ (by omega)) (by omega) (by omega) fun M1 hO hK => ?_
  rw [← erase_eq] at hO ⊢
  have hle : (ps.eraseIdx i).length = ps.length - 1 := List.length_eraseIdx_of_lt hi
  conv => whnf
  refine ⟨⟨[], rfl⟩, _, PH.Le.refl _, bot_le _, ?_⟩
  conv => whnf
  have hlc : ((ps.eraseIdx i).length : Int) ≤ ps.length := by omega
  refine ⟨⟨by omega, by omega⟩, ?_⟩
  conv => whnf
  cases o with
  | none => obtain ⟨e, _⟩ := h; rw [e] at hi; simp at hi
  | some g' =>
    obtain ⟨off, cells, tyr, rfl, hg', h1, h2, hx⟩ := hO
    have h1 : off + c * 13 ≤ cells.length := h1
    have e1 : ((ps.eraseIdx i).length : Int).toNat = ps.length - 1 := by rw [Int.toNat_natCast]; exact hle
    have hz1 : ((ps.length : Int)).toNat - ((ps.eraseIdx i).length : Int).toNat = 1 := by rw [e1, Int.toNat_natCast]; omega
    have hsub2 : subA (some ⟨g', off, none⟩) ((ps.eraseIdx i).length : Int).toNat ti44.size (c - Int.toNat 0) = some ⟨g', off + (ps.length - 1) * 13, none⟩ := by
      rw [e1]
      unfold subA
      rw [if_neg (by show ¬ c - 0 = _; omega)]
      show some (Addr.add _ _) = _
      rw [add_at]
      rfl
    have hz : (zerosL ti44 1).length = 13 := by
      unfold zerosL
      rw [repl_length (sz := 13) (by kernel_rfl)]
    have hone : (zerosL ti44 1).all Value.oneCell' = true := by
      have hz : (ti44.zero.cells.toList).all Value.oneCell' = true := by kernel_rfl
      unfold zerosL
      rw [List.all_eq_true] at hz ⊢
      intro v hv
      obtain ⟨l, hl, hv⟩ := List.mem_flatten.1 hv
      rw [List.eq_of_mem_replicate hl] at hv
      exact hz v hv
    have hbd : off + (ps.length - 1) * 13 + (zerosL ti44 1).length ≤ cells.length := by rw [hz]; omega
    rw [hsub2, hz1]
    refine .inr ⟨by decide, .inr ⟨g', off + (ps.length - 1) * 13, cells, tyr, rfl, hg', hbd, hone, ?_⟩⟩
    conv => whnf
    refine ⟨_, PH.Le.refl _, rfl, ⟨off, _, tyr, rfl, PH.set_same _ _ _, by rw [spl_length hbd]; exact h1, by omega, fun n y hn2 j2 v hv => ?_⟩, fun k ob hk hne => ?_⟩
    · have hni : n < ps.length - 1 := by rw [← hle]; exact (List.getElem?_eq_some_iff.1 hn2).1
      have hj2 : j2 < 13 := (List.getElem?_eq_some_iff.1 hv).1
      rw [spl_lt (by omega) (by omega)]
      exact hx n y hn2 j2 v hv
    · rw [PH.set_other _ _ (fun e => hne (by rw [e]))]
      exact hK k ob hk hne
/-- The place of the last that may go, -1: none; its key, none: the empty text. -/
def lastI (k : ByteArray) (es : List En) : Int := match lastE (canGo k) es with | some q => q.1 | none => -1
def lastK (k : ByteArray) (es : List En) : ByteArray := match lastE (canGo k) es with | some q => q.2.key | none => ByteArray.empty
theorem canGo_is (k : ByteArray) (e : En) : canGo k e = (!seq e.key k && decide (e.pins = 0)) := rfl
theorem last_ret (A : Option Addr) (c : Nat) (ws : List EP) (k : ByteArray) (M : PH) (hs : Sl M A 13 EP.cs ws) (hn : ws.length ≤ 1048576) : Ret 126 [.slice A ws.length c, Tx k] M (I (lastI k (ws.map (·.1.c)))) := by
  have hwl : (ws.map (·.1.c)).length = ws.length := List.length_map _
  have hw0 : IntKind.i64.wrap ((ws.length : Int) - 1) = (ws.length : Int) - 1 := wr_id (by omega) (by omega)
  refine xcall_of_vc Tryz.func126 rfl _ Tryz.ntmps126 _ rfl (fun _ _ => Tryz.call126 _ _) rfl (fun w0 ρ0 => ?_)
  conv => whnf
  rw [hw0]
  refine loop_rule (fun m : Nat => ⟨slots 29 [(0, .v (.slice A ws.length c)), (1, .v (Tx k)), (5, .v (I ((m : Int) - 1)))], []⟩) (fun m M' => m ≤ ws.length ∧ (∀ j, m ≤ j → ∀ h : j < (ws.map (·.1.c)).length, canGo k (ws.map (·.1.c))[j] = false) ∧ M' = M) (fun m => m) ws.length ?_ ?_ ?_
  · exact ⟨by simp [slots, leT], ⟨[], rfl⟩, Nat.zero_le _, rfl, rfl⟩
  · exact ⟨Nat.le_refl _, fun j hj h => absurd h (by omega), rfl⟩
  rintro m M' ⟨hm, hp, rfl⟩
  conv => whnf
  refine caseB_dec (fun h0 => ?_) (fun h0 => ?_)
  · have h0 : (0 : Int) ≤ (m : Int) - 1 := h0
    obtain ⟨i, rfl⟩ : ∃ i, m = i + 1 := ⟨m - 1, by omega⟩
    have ei : ((i + 1 : Nat) : Int) - 1 = (i : Int) := by omega
    have hi : i < ws.length := by omega
    have hw : IntKind.i64.wrap ((i : Int) - 1) = (i : Int) - 1 := wr_id (by omega) (by omega)
    obtain ⟨hA, _, hc⟩ := hs.get hi
    have hgi : (ws.map (·.1.c))[i]'(by omega) = ws[i].1.c := by simp
    have hat : canGo k ws[i].1.c = true → lastI k (ws.map (·.1.c)) = i := fun h => by
      unfold lastI
      rw [lastE_at (i := i) (by omega) (by rw [hgi]; exact h) (fun j hj hl => hp j (by omega) hl)]
    have hno : canGo k ws[i].1.c = false → ∀ j, i ≤ j → ∀ h : j < (ws.map (·.1.c)).length, canGo k (ws.map (·.1.c))[j] = false := fun h j hj hl => by
      rcases Nat.lt_or_eq_of_le hj with h1 | rfl
      · exact hp j h1 hl
      · rw [hgi]; exact h
    generalize ws[i] = y at *
    rw [ei]
    have hb1 : (0 : Int) ≤ (i : Int) := by omega
    have hb2 : (i : Int) < (ws.length : Int) := by omega
    conv => whnf
    refine ⟨hb1, hb2, hA, ?_⟩
    conv => whnf
    refine ⟨_, cells_cut hc 0 rfl, ?_⟩
    conv => whnf
    repeat' (first | (refine ⟨⟨[], rfl⟩, _, PH.Le.refl _, PH.Le.refl _, ?_⟩; conv => whnf) | (refine ⟨_, cells_cut hc 12 rfl, ?_⟩; conv => whnf) | (refine ⟨hb1, hb2, hA, ?_⟩; conv => whnf) | (refine caseB_true ?_; conv => whnf) | (refine caseB_false ?_; conv => whnf) | ((with_reducible refine caseB_dec (fun h => ?_) (fun h => ?_)) <;> conv => whnf) | ((with_reducible refine caseB_ndec (fun h => ?_) (fun h => ?_)) <;> conv => whnf) | ((with_reducible refine caseB_not (fun h => ?_) (fun h => ?_)) <;> conv => whnf) | (with_reducible refine @And.intro (guardVC _ _ _ _ _) _ ?_ ?_) <;> conv => whnf | (refine caseB_intro (fun h => ?_) (fun h => ?_) <;> (try simp only [Bool.not_eq_true', Bool.not_eq_false', decide_eq_true_eq, decide_eq_false_iff_not] at h) <;> conv => whnf))
    · rename_i h1
      exact ⟨_, PH.Le.refl _, by rw [hat (by rw [canGo_is, h1]; simp [h])]; rfl, rfl⟩
    · rename_i h1
      exact ⟨i, ⟨by simp [slots, leT, hw], ⟨[], rfl⟩, Nat.zero_le _, rfl, rfl⟩, ⟨by omega, hno (by rw [canGo_is, h1]; simp [h]), rfl⟩, by omega⟩
    · exact ⟨i, ⟨by simp [slots, leT, hw], ⟨[], rfl⟩, Nat.zero_le _, rfl, rfl⟩, ⟨by omega, hno (by rw [canGo_is, h]; rfl), rfl⟩, by omega⟩
  · have h0 : ¬ (0 : Int) ≤ (m : Int) - 1 := h0
    have hm0 : m = 0 := by omega
    subst hm0
    have hn : lastE (canGo k) (ws.map (·.1.c)) = none := lastE_no fun e he => by
      obtain ⟨j, hj, rfl⟩ := List.getElem_of_mem he
      exact hp j (Nat.zero_le _) hj
    conv => whnf
    exact ⟨_, PH.Le.refl _, by unfold lastI; rw [hn]; rfl, rfl⟩
theorem l8Victim_ret (A : Option Addr) (c : Nat) (ws : List EP) (k : ByteArray) (M : PH) (hs : Sl M A 13 EP.cs ws) (hn : ws.length ≤ 1048576) : Ret 122 [.slice A ws.length c, Tx k] M (Tx (lastK k (ws.map (·.1.c)))) := by
  have hwl : (ws.map (·.1.c)).length = ws.length := List.length_map _
  have hw0 : IntKind.i64.wrap ((ws.length : Int) - 1) = (ws.length : Int) - 1 := wr_id (by omega) (by omega)
  refine xcall_of_vc Tryz.func122 rfl _ Tryz.ntmps122 _ rfl (fun _ _ => Tryz.call122 _ _) rfl (fun w0 ρ0 => ?_)
  conv => whnf
  rw [hw0]
  refine loop_rule (fun m : Nat => ⟨slots 33 [(0, .v (.slice A ws.length c)), (1, .v (Tx k)), (5, .v (I ((m : Int) - 1)))], []⟩) (fun m M' => m ≤ ws.length ∧ (∀ j, m ≤ j → ∀ h : j < (ws.map (·.1.c)).length, canGo k (ws.map (·.1.c))[j] = false) ∧ M' = M) (fun m => m) ws.length ?_ ?_ ?_
  · exact ⟨by simp [slots, leT], ⟨[], rfl⟩, Nat.zero_le _, rfl, rfl⟩
  · exact ⟨Nat.le_refl _, fun j hj h => absurd h (by omega), rfl⟩
  rintro m M' ⟨hm, hp, rfl⟩
  conv => whnf
  refine caseB_dec (fun h0 => ?_) (fun h0 => ?_)
  · have h0 : (0 : Int) ≤ (m : Int) - 1 := h0
    obtain ⟨i, rfl⟩ : ∃ i, m = i + 1 := ⟨m - 1, by omega⟩
    have ei : ((i + 1 : Nat) : Int) - 1 = (i : Int) := by omega
    have hi : i < ws.length := by omega
    have hw : IntKind.i64.wrap ((i : Int) - 1) = (i : Int) - 1 := wr_id (by omega) (by omega)
    obtain ⟨hA, _, hc⟩ := hs.get hi
    have hgi : (ws.map (·.1.c))[i]'(by omega) = ws[i].1.c := by simp
    have hat : canGo k ws[i].1.c = true → lastK k (ws.map (·.1.c)) = ws[i].1.c.key := fun h => by
      unfold lastK
      rw [lastE_at (i := i) (by omega) (by rw [hgi]; exact h) (fun j hj hl => hp j (by omega) hl), hgi]
    have hno : canGo k ws[i].1.c = false → ∀ j, i ≤ j → ∀ h : j < (ws.map (·.1.c)).length, canGo k (ws.map (·.1.c))[j] = false := fun h j hj hl => by
      rcases Nat.lt_or_eq_of_le hj with h1 | rfl
      · exact hp j h1 hl
      · rw [hgi]; exact h
    generalize ws[i] = y at *
    rw [ei]
    have hb1 : (0 : Int) ≤ (i : Int) := by omega
    have hb2 : (i : Int) < (ws.length : Int) := by omega
    conv => whnf
    refine ⟨hb1, hb2, hA, ?_⟩
    conv => whnf
    refine ⟨_, cells_cut hc 0 rfl, ?_⟩
    conv => whnf
    repeat' (first | (refine ⟨⟨[], rfl⟩, _, PH.Le.refl _, PH.Le.refl _, ?_⟩; conv => whnf) | (refine ⟨_, cells_cut hc 0 rfl, ?_⟩; conv => whnf) | (refine ⟨_, cells_cut hc 12 rfl, ?_⟩; conv => whnf) | (refine ⟨hb1, hb2, hA, ?_⟩; conv => whnf) | (refine caseB_true ?_; conv => whnf) | (refine caseB_false ?_; conv => whnf) | ((with_reducible refine caseB_dec (fun h => ?_) (fun h => ?_)) <;> conv => whnf) | ((with_reducible refine caseB_ndec (fun h => ?_) (fun h => ?_)) <;> conv => whnf) | ((with_reducible refine caseB_not (fun h => ?_) (fun h => ?_)) <;> conv => whnf) | (with_reducible refine @And.intro (guardVC _ _ _ _ _) _ ?_ ?_) <;> conv => whnf | (refine caseB_intro (fun h => ?_) (fun h => ?_) <;> (try simp only [Bool.not_eq_true', Bool.not_eq_false', decide_eq_true_eq, decide_eq_false_iff_not] at h) <;> conv => whnf))
    · rename_i h1
      exact ⟨_, PH.Le.refl _, by rw [hat (by rw [canGo_is, h1]; simp [h])]; rfl, rfl⟩
    · rename_i h1
      exact ⟨i, ⟨by simp [slots, leT, hw], ⟨[], rfl⟩, Nat.zero_le _, rfl, rfl⟩, ⟨by omega, hno (by rw [canGo_is, h1]; simp [h]), rfl⟩, by omega⟩
    · exact ⟨i, ⟨by simp [slots, leT, hw], ⟨[], rfl⟩, Nat.zero_le _, rfl, rfl⟩, ⟨by omega, hno (by rw [canGo_is, h]; rfl), rfl⟩, by omega⟩
  · have h0 : ¬ (0 : Int) ≤ (m : Int) - 1 := h0
    have hm0 : m = 0 := by omega
    subst hm0
    have hn : lastE (canGo k) (ws.map (·.1.c)) = none := lastE_no fun e he => by
      obtain ⟨j, hj, rfl⟩ := List.getElem_of_mem he
      exact hp j (Nat.zero_le _) hj
    conv => whnf
    exact ⟨_, PH.Le.refl _, by unfold lastK; rw [hn]; rfl, rfl⟩
end Go.Proofs.YtgjaiabenjafeaaGreatDoor
