/-
  THE LAW: what is told by heads: marks, tags and what varies.
-/
import Derived.Test.YtdgipmlkkmmliaaGreatDoorKb
namespace Go.Proofs.YtdgipmlkkmmliaaGreatDoor
set_option maxRecDepth 100000
set_option linter.unusedSimpArgs false
set_option linter.unusedVariables false
open Go.Xe
theorem par_none : parC (jn []) = 0 ∧ parR (jn []) = [] := by
  have e : jn [] = ByteArray.empty := rfl
  rw [e]
  have hp : pcs ByteArray.empty 0 0 false = [ByteArray.empty] := by
    rw [pcs_ge (by decide)]; rfl
  have hl : parL ByteArray.empty = some [] := by
    unfold parL
    rw [hp]
    unfold itsG
    rw [if_pos (by decide +kernel)]
    rfl
  have hc : parC ByteArray.empty = 0 := by
    unfold parC
    rw [hl]
    rfl
  refine ⟨hc, ?_⟩
  unfold parR
  rw [if_pos hc, hl]
  rfl
theorem vals_drop (ws : List Hd) (nm : ByteArray) : vals (dropL ws nm) nm = [] := by
  unfold vals dropL
  rw [List.filter_filter]
  have : (ws.filter fun a => alikeT a.n nm && !alikeT a.n nm) = [] := by
    rw [List.filter_eq_nil_iff]
    intro a _
    cases alikeT a.n nm <;> simp
  rw [this]
  rfl
theorem firstF_all {α : Type} {f : α → Int} : ∀ {ws : List α}, firstF f ws = 0 → ∀ x ∈ ws, f x = 0
  | [], _, x, hx => by cases hx
  | y :: r, h, x, hx => by
    rw [firstF] at h
    split at h
    · rename_i h0
      rcases List.mem_cons.1 hx with rfl | hx
      · exact h0
      · exact firstF_all h x hx
    · contradiction
theorem drop_fault {ws : List Hd} {nm : ByteArray} (h : hdsFault ws = 0) : hdsFault (dropL ws nm) = 0 := by
  unfold hdsFault at h ⊢
  split at h
  · cases h
  rename_i h1
  have hl : (dropL ws nm).length ≤ ws.length := List.length_filter_le _ _
  rw [if_neg (by omega)]
  exact firstF_no fun j hj => firstF_all h _ (List.mem_filter.1 (List.getElem_mem hj)).1
theorem bare_fits (ws : List Hd) (ns : List ByteArray) (h : hdsFault ws = 0) : fitsB (dropL ws varyL) ns = decide (nmsC ns = 0) := by
  unfold fitsB varyT
  rw [drop_fault h, vals_drop, par_none.1, par_none.2]
  simp
theorem tagR_full {ws : List Hd} {t : ByteArray} (h : t ∈ tagR ws) : fullT t = true := by
  unfold tagR at h
  split at h
  · exact (List.mem_filter.1 h).2
  · cases h
theorem seq_refl (t : ByteArray) : seq t t = true := seq_self t
theorem tagT_mem {ts : List ByteArray} {t : ByteArray} (h : t ∈ ts) : tagT ts t = true := List.any_eq_true.2 ⟨t, h, seq_self t⟩
theorem hdB_cost {ws : List Hd} (h : HdB ws) (hl : ws.length ≤ 31) : costL Hd.cost ws ≤ 1048576 := by
  have := costHdB ws h
  omega
abbrev etB (x : TR) : Box := ⟨47, [.v (I x.why), .v (Tx x.t)]⟩
abbrev nrB (k : Int) (A : Option Addr) (n c : Nat) : Box := ⟨50, [.v (I k), .v (.slice A n c)]⟩
set_option maxHeartbeats 8000000 in
theorem names_law (A : Option Addr) (c : Nat) (bs : List Int) (M : PH) (hs : Sl M A 1 byC bs) (hby : ∀ (i : Nat) b, bs[i]? = some b → 0 ≤ b ∧ b ≤ 255) :
    ACall env 5 [.slice A bs.length c] M fun r M' => r = B true ∧ M.Le M' := by
  refine xcall_of_vc Tryz.func5 rfl _ Tryz.ntmps5 _ rfl (fun _ _ => Tryz.call5 _ _) rfl (fun w0 ρ0 => ?_)
  conv => whnf
  repeat' (first | (refine ⟨⟨[], rfl⟩, _, PH.Le.refl _, PH.Le.refl _, ?_⟩; conv => whnf) | (refine caseB_true ?_; conv => whnf) | (refine caseB_false ?_; conv => whnf) | ((with_reducible refine caseB_dec (fun h => ?_) (fun h => ?_)) <;> conv => whnf) | ((with_reducible refine caseB_ndec (fun h => ?_) (fun h => ?_)) <;> conv => whnf) | ((with_reducible refine caseB_not (fun h => ?_) (fun h => ?_)) <;> conv => whnf) | (refine Ret.go (lwBig_ret A c bs _) ?_; conv => whnf) | (with_reducible refine @And.intro (guardVC _ _ _ _ _) _ ?_ ?_) <;> conv => whnf | (refine caseB_intro (fun h => ?_) (fun h => ?_) <;> (try simp only [Bool.not_eq_true', Bool.not_eq_false', decide_eq_true_eq, decide_eq_false_iff_not] at h) <;> conv => whnf))
  · exact ⟨_, PH.Le.refl _, rfl, PH.Le.refl _⟩
  have hb : Byt M A bs := ⟨hs, by omega, hby⟩
  refine ACall.step (drawVaryFits_ret A c bs M hb) fun r M1 hh => ?_
  obtain ⟨A1, c1, ws, A2, c2, ns, rfl, sw, hw, hwz, sn, hn, hnz, l1⟩ := hh
  have hwc := hdB_cost hwz hw
  have hwo := hd_okl hwc
  have hno : ∀ x ∈ ns, x.size ≤ maxLen := fun x hx => by have := hnz x hx; unfold maxLen; omega
  conv => whnf
  refine Ret.go (etagOf_impl A1 c1 ws M1 sw (by omega) hwo) ?_
  conv => whnf
  refine ACall.step (drawTagsOf_ret A c bs M1 (hb.mono l1)) fun r M2 hh => ?_
  obtain ⟨A3, c3, us, rfl, su, hu, huz, l2⟩ := hh
  have huc := hdB_cost huz hu
  have huo := hd_okl huc
  conv => whnf
  refine ACall.step (tagsOf_impl A3 c3 us M2 su huc huo) fun r M3 hh => ?_
  obtain ⟨o4, A4, c4, rfl, N4⟩ := hh
  have l3 := N4.le
  have L3 := (l1.trans l2).trans l3
  have st := N4.ow.sl st_len
  have hR := tagR_len us
  have sw := (sw.mono l2).mono l3
  have sn := (sn.mono l2).mono l3
  have su := su.mono l3
  clear hb hs hby h N4
  have ts : ∀ N, M3.Le N → ACall env 26 [.slice A3 us.length c3] N fun r M' => ∃ (A' : Option Addr) (c' : Nat), r = nrW (tagC us) A' (tagR us).length c' ∧ N.Le M' := fun N l => (tagsOf_spec A3 c3 us N (su.mono l) huc huo).mono fun r M' ⟨o, A', c', h1, h2⟩ => ⟨A', c', h1, h2.le⟩
  have v1 : ∀ N, M3.Le N → Ret 23 [.slice A1 ws.length c1, .slice A2 ns.length c2] N (B (fitsB ws ns)) := fun N l => varyFits_impl A1 A2 c1 c2 ws ns N (sw.mono l) (sn.mono l) hwc hwo (by omega) hno
  have v2 : ∀ N, M3.Le N → Ret 24 [.slice A1 ws.length c1, .slice A2 ns.length c2] N (B (fitsB ws ns)) := fun N l => varyFits_spec A1 A2 c1 c2 ws ns N (sw.mono l) (sn.mono l) hwc hwo (by omega) hno
  have e1 : ∀ N, M3.Le N → Ret 25 [.slice A1 ws.length c1] N (etagOf ws).v := fun N l => etagOf_spec A1 c1 ws N (sw.mono l) (by omega) hwo
  have hfb := bare_fits ws ns
  generalize fitsB ws ns = fb at *
  generalize etagOf ws = et at *
  conv => whnf
  repeat' (first | (refine ⟨⟨[], rfl⟩, _, PH.Le.refl _, PH.Le.refl _, ?_⟩; conv => whnf) | (refine ACall.step (ts _ (by repeat (first | exact PH.Le.refl _ | assumption | (apply PH.Le.trans; · assumption)))) fun r M5 hh => ?_; obtain ⟨A5, c5, rfl, l5⟩ := hh; (first | (refine ⟨⟨[], rfl⟩, _, l5, PH.Le.refl _, ?_⟩; conv => whnf) | conv => whnf)) | (refine caseB_true ?_; conv => whnf) | (refine caseB_false ?_; conv => whnf) | ((with_reducible refine caseB_dec (fun h => ?_) (fun h => ?_)) <;> conv => whnf) | ((with_reducible refine caseB_ndec (fun h => ?_) (fun h => ?_)) <;> conv => whnf) | ((with_reducible refine caseB_not (fun h => ?_) (fun h => ?_)) <;> conv => whnf) | (refine draw_rule (.light 0 <| .light 1 <| .light 3 <| .light 4 <| .alt 2 false (.alt 5 false (.light 6 <| .light 7 <| .light 8 <| .light 9 <| .light 10 <| .alt 11 false (.light 12 <| .light 13 <| .light 14 <| .light 15 <| .light 16 <| .light 17 <| .light 18 <| .alt 19 false (.light 20 <| .light 21 <| .light 22 <| .light 23 <| .light 24 <| .light 25 <| .light 26 <| .light 27 <| .alt 28 false (.light 29 <| .light 30 <| .light 31 <| .light 32 <| .done) .nil) .nil) .nil) .nil) .nil) (by decide +kernel) ?_; conv => whnf) | (refine draw_rule (.light 0 <| .light 1 <| .light 2 <| .light 3 <| .light 4 <| .light 5 <| .light 6 <| .alt 7 false (.light 8 <| .light 9 <| .light 10 <| .light 11 <| .light 12 <| .light 13 <| .light 14 <| .light 15 <| .light 16 <| .done) .nil) (by decide +kernel) ?_; conv => whnf) | (refine draw_rule (.light 0 <| .light 1 <| .light 2 <| .alt 3 false (.light 4 <| .light 5 <| .light 6 <| .light 7 <| .light 8 <| .light 9 <| .light 10 <| .light 11 <| .light 12 <| .light 13 <| .light 15 <| .light 16 <| .alt 14 false (.alt 17 false (.light 18 <| .light 19 <| .light 20 <| .light 21 <| .light 22 <| .light 23 <| .done) .nil) .nil) .nil) (by decide +kernel) ?_; conv => whnf) | (refine Ret.go (v1 _ (by repeat (first | exact PH.Le.refl _ | assumption | (apply PH.Le.trans; · assumption)))) ?_; conv => whnf) | (refine Ret.go (v2 _ (by repeat (first | exact PH.Le.refl _ | assumption | (apply PH.Le.trans; · assumption)))) ?_; conv => whnf) | (refine Ret.go (e1 _ (by repeat (first | exact PH.Le.refl _ | assumption | (apply PH.Le.trans; · assumption)))) ?_; conv => whnf) | (with_reducible refine @And.intro (guardVC _ _ _ _ _) _ ?_ ?_) <;> conv => whnf | (refine caseB_intro (fun h => ?_) (fun h => ?_) <;> (try simp only [Bool.not_eq_true', Bool.not_eq_false', decide_eq_true_eq, decide_eq_false_iff_not] at h) <;> conv => whnf))
  all_goals first
    | (exfalso; first | exact absurd rfl h | (rw [beq_self_eq_true] at h; cases h); done)
    | skip
  have lN : M3.Le M5 := (by repeat (first | exact PH.Le.refl _ | assumption | (apply PH.Le.trans; · assumption)))
  have st5 := st.mono lN
  generalize hts : tagR us = tg at *
  refine loop_rule (fun i : Nat => ⟨slots 105 [(2, .v (B false)), (3, .v (.slice A1 ws.length c1)), (4, .v (.slice A2 ns.length c2)), (5, .bp 0 0), (7, .bp 1 0), (8, .v (I i))], [etB et, nrB (tagC us) A4 tg.length c4]⟩)
    (fun i M' => i ≤ tg.length ∧ M' = M5) (fun i => tg.length - i) 0 ?_ ?_ ?_
  · exact ⟨by simp [slots, leT], ⟨[], rfl⟩, by simp, rfl, rfl⟩
  · exact ⟨Nat.zero_le _, rfl⟩
  rintro i M7 ⟨hi, rfl⟩
  conv => whnf
  refine caseB_dec (fun hb => ?_) (fun hb => ?_)
  · have hb : (i : Int) < tg.length := hb
    have hi' : i < tg.length := by omega
    have hw : IntKind.i64.wrap ((i : Int) + 1) = (i : Int) + 1 := wr_id (by omega) (by omega)
    obtain ⟨hA, _, hc⟩ := st5.get hi'
    have ht : tagT tg tg[i] = true := tagT_mem (List.getElem_mem hi')
    have hf : fullT tg[i] = true := tagR_full (ws := us) (by rw [hts]; exact List.getElem_mem hi')
    have hit := isTagged_impl A4 c4 tg tg[i] M7 st5 (by omega)
    rw [ht] at hit
    generalize tg[i] = p at *
    have lr := PH.Le.refl M7
    conv => whnf
    repeat' (first | (refine ⟨⟨[], rfl⟩, _, PH.Le.refl _, bot_le _, ?_⟩; conv => whnf) | (refine ⟨⟨_, rfl⟩, _, PH.Le.refl _, bot_le _, ?_⟩; conv => whnf) | (refine ⟨⟨_, rfl⟩, _, PH.Le.refl _, lr, ?_⟩; conv => whnf) | (refine ⟨_, hc, ?_⟩; conv => whnf) | (refine ⟨by omega, hb, hA, ?_⟩; conv => whnf) | (refine caseB_true ?_; conv => whnf) | (refine caseB_false ?_; conv => whnf) | ((with_reducible refine caseB_dec (fun h => ?_) (fun h => ?_)) <;> conv => whnf) | ((with_reducible refine caseB_ndec (fun h => ?_) (fun h => ?_)) <;> conv => whnf) | ((with_reducible refine caseB_not (fun h => ?_) (fun h => ?_)) <;> conv => whnf) | (refine draw_ruleJ (none) (.light 0 <| .light 1 <| .light 3 <| .light 4 <| .alt 2 false (.alt 5 false (.light 6 <| .light 7 <| .light 8 <| .light 9 <| .light 10 <| .alt 11 false (.light 12 <| .light 13 <| .light 14 <| .light 15 <| .light 16 <| .light 17 <| .light 18 <| .alt 19 false (.light 20 <| .light 21 <| .light 22 <| .light 23 <| .light 24 <| .light 25 <| .light 26 <| .light 27 <| .alt 28 false (.light 29 <| .light 30 <| .light 31 <| .light 32 <| .done) .nil) .nil) .nil) .nil) .nil) (by decide +kernel) (lr) ?_; conv => whnf) | (refine draw_ruleJ (none) (.light 0 <| .light 1 <| .light 2 <| .light 3 <| .light 4 <| .light 5 <| .light 6 <| .alt 7 false (.light 8 <| .light 9 <| .light 10 <| .light 11 <| .light 12 <| .light 13 <| .light 14 <| .light 15 <| .light 16 <| .done) .nil) (by decide +kernel) (lr) ?_; conv => whnf) | (refine draw_ruleJ (none) (.light 0 <| .light 1 <| .light 2 <| .alt 3 false (.light 4 <| .light 5 <| .light 6 <| .light 7 <| .light 8 <| .light 9 <| .light 10 <| .light 11 <| .light 12 <| .light 13 <| .light 15 <| .light 16 <| .alt 14 false (.alt 17 false (.light 18 <| .light 19 <| .light 20 <| .light 21 <| .light 22 <| .light 23 <| .done) .nil) .nil) .nil) (by decide +kernel) (lr) ?_; conv => whnf) | (refine Ret.go (hit) ?_; conv => whnf) | (with_reducible refine @And.intro (guardVC _ _ _ _ _) _ ?_ ?_) <;> conv => whnf | (refine caseB_intro (fun h => ?_) (fun h => ?_) <;> (try simp only [Bool.not_eq_true', Bool.not_eq_false', decide_eq_true_eq, decide_eq_false_iff_not] at h) <;> conv => whnf))
    · exfalso
      have hf : (!seq p ⟨#[]⟩) = true := hf
      rw [h] at hf
      cases hf
    · exact ⟨i + 1, ⟨by simp [slots, leT, hw], ⟨[], rfl⟩, by simp, rfl, rfl⟩, ⟨hi', rfl⟩, by omega⟩
  clear st st5 ts
  conv => whnf
  refine ACall.step (dropHeader_impl A1 c1 ws varyL M7 (sw.mono lN) (by omega) hwo (by decide +kernel)) fun r M8 hh => ?_
  obtain ⟨A8, c8, n8, rfl, hd, l8⟩ := hh
  have lN8 : M3.Le M8 := lN.trans l8
  have fk := fullKey_ret A2 c2 ns M8 (sn.mono lN8) hn hnz
  have e8 := e1 M8 lN8
  have v8 : namedF ws varyL = 0 → Ret 23 [.slice A8 n8 c8, .slice A2 ns.length c2] M8 (B (decide (nmsC ns = 0))) := fun h0 => by
    obtain ⟨rfl, s8⟩ := hd h0
    have hds : hdsFault ws = 0 := by
      unfold namedF at h0
      split at h0
      · contradiction
      · rename_i h9; simpa using h9
    rw [← hfb hds]
    have hlen : (dropL ws varyL).length ≤ ws.length := List.length_filter_le _ _
    have hz : HdB (dropL ws varyL) := fun x hx => hwz x (List.mem_filter.1 hx).1
    have hc8 := hdB_cost hz (by omega)
    exact varyFits_impl A8 A2 c8 c2 (dropL ws varyL) ns M8 s8 (sn.mono lN8) hc8 (hd_okl hc8) (by omega) hno
  have lR := PH.Le.refl M8
  conv => whnf
  repeat' (first | (refine ⟨⟨[], rfl⟩, _, PH.Le.refl _, bot_le _, ?_⟩; conv => whnf) | (refine ⟨⟨_, rfl⟩, _, PH.Le.refl _, bot_le _, ?_⟩; conv => whnf) | (refine ⟨⟨_, rfl⟩, _, PH.Le.refl _, lR, ?_⟩; conv => whnf) | (refine ACall.step fk fun r M9 hh => ?_; obtain ⟨t9, rfl, rfl⟩ := hh; (first | (refine ⟨⟨[], rfl⟩, _, PH.Le.refl _, PH.Le.refl _, ?_⟩; conv => whnf) | conv => whnf)) | (refine caseB_true ?_; conv => whnf) | (refine caseB_false ?_; conv => whnf) | ((with_reducible refine caseB_dec (fun h => ?_) (fun h => ?_)) <;> conv => whnf) | ((with_reducible refine caseB_ndec (fun h => ?_) (fun h => ?_)) <;> conv => whnf) | ((with_reducible refine caseB_not (fun h => ?_) (fun h => ?_)) <;> conv => whnf) | (refine draw_ruleJ (none) (.light 0 <| .light 1 <| .light 3 <| .light 4 <| .alt 2 false (.alt 5 false (.light 6 <| .light 7 <| .light 8 <| .light 9 <| .light 10 <| .alt 11 false (.light 12 <| .light 13 <| .light 14 <| .light 15 <| .light 16 <| .light 17 <| .light 18 <| .alt 19 false (.light 20 <| .light 21 <| .light 22 <| .light 23 <| .light 24 <| .light 25 <| .light 26 <| .light 27 <| .alt 28 false (.light 29 <| .light 30 <| .light 31 <| .light 32 <| .done) .nil) .nil) .nil) .nil) .nil) (by decide +kernel) (lR) ?_; conv => whnf) | (refine draw_ruleJ (none) (.light 0 <| .light 1 <| .light 2 <| .light 3 <| .light 4 <| .light 5 <| .light 6 <| .alt 7 false (.light 8 <| .light 9 <| .light 10 <| .light 11 <| .light 12 <| .light 13 <| .light 14 <| .light 15 <| .light 16 <| .done) .nil) (by decide +kernel) (lR) ?_; conv => whnf) | (refine draw_ruleJ (none) (.light 0 <| .light 1 <| .light 2 <| .alt 3 false (.light 4 <| .light 5 <| .light 6 <| .light 7 <| .light 8 <| .light 9 <| .light 10 <| .light 11 <| .light 12 <| .light 13 <| .light 15 <| .light 16 <| .alt 14 false (.alt 17 false (.light 18 <| .light 19 <| .light 20 <| .light 21 <| .light 22 <| .light 23 <| .done) .nil) .nil) .nil) (by decide +kernel) (lR) ?_; conv => whnf) | (refine Ret.go (e8) ?_; conv => whnf) | (refine Ret.go (v8 (by assumption)) ?_; conv => whnf) | (with_reducible refine @And.intro (guardVC _ _ _ _ _) _ ?_ ?_) <;> conv => whnf | (refine caseB_intro (fun h => ?_) (fun h => ?_) <;> (try simp only [Bool.not_eq_true', Bool.not_eq_false', decide_eq_true_eq, decide_eq_false_iff_not] at h) <;> conv => whnf))
  all_goals first
    | (exfalso; rw [seq_self] at h; cases h; done)
    | (refine ⟨_, PH.Le.refl _, ?_, L3.trans lN8⟩; first | rfl | (simp [resV]; done))
end Go.Proofs.YtdgipmlkkmmliaaGreatDoor
