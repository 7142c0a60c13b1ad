/-
  CONTRACTS: purged, the reference's way.
-/
import Derived.Test.YtafgnmiflngjhaaGreatDoorWk
namespace Go.Proofs.YtafgnmiflngjhaaGreatDoor
set_option maxRecDepth 100000
set_option linter.unusedSimpArgs false
set_option linter.unusedVariables false
open Go.Xe
theorem l9Soft_ret (o : Option Nat) (A : Option Addr) (c : Nat) (ps : List EP) (B' : Option Addr) (d : Nat) (ks : List ByteArray) (ow : Option Nat) (M : PH) (h : Dw M o A c ps) (hw : Ow M ow B' d 1 stC ks) (hap : Apart ow o) (hn : ps.length ≤ 1048576) (hk : ks.length ≤ 1048576) :
    ACall env 196 [.slice A ps.length c, .slice B' ks.length d] M fun r M' => r = .tuple #[] ∧ ∃ qs, qs.length = ps.length ∧ Dw M' o A c qs ∧ qs.map (·.1.c) = softK (ps.map (·.1.c)) ks ∧ dwL o qs = dwL o ps ∧ Keeps o M M' := by
  refine xcall_of_vc Tryz.func196 rfl _ Tryz.ntmps196 _ rfl (fun _ _ => Tryz.call196 _ _) rfl (fun w0 ρ0 => ?_)
  conv => whnf
  refine loop_rule (fun z : Nat × List EP => ⟨slots 23 [(0, .v (.slice A ps.length c)), (1, .v (.slice B' ks.length d)), (4, .v (I z.1))], []⟩)
    (fun z M' => z.1 ≤ ps.length ∧ z.2.length = ps.length ∧ Dw M' o A c z.2 ∧ (z.2.map (·.1.c)).take z.1 = (softK (ps.map (·.1.c)) ks).take z.1 ∧ (z.2.map (·.1.c)).drop z.1 = (ps.map (·.1.c)).drop z.1 ∧ dwL o z.2 = dwL o ps ∧ Keeps o M M') (fun z => ps.length - z.1) (0, ps) ?_ ?_ ?_
  · exact ⟨by simp [slots, leT], ⟨[], rfl⟩, Nat.zero_le _, rfl, rfl⟩
  · exact ⟨Nat.zero_le _, rfl, h, rfl, rfl, rfl, Keeps.refl _⟩
  rintro ⟨i, qs⟩ M1 ⟨hi, hql, hD, ht, hdr, hL, hK⟩
  have hi : i ≤ ps.length := hi
  have hql : qs.length = ps.length := hql
  have hD : Dw M1 o A c qs := hD
  have ht : (qs.map (·.1.c)).take i = (softK (ps.map (·.1.c)) ks).take i := ht
  have hdr : (qs.map (·.1.c)).drop i = (ps.map (·.1.c)).drop i := hdr
  have hsl : (softK (ps.map (·.1.c)) ks).length = ps.length := by unfold softK; rw [List.length_map, List.length_map]
  conv => whnf
  refine caseB_dec (fun hb => ?_) (fun hb => ?_)
  · have hb : (i : Int) < ps.length := hb
    have hi' : i < ps.length := by omega
    have hi2 : i < qs.length := by omega
    have hb1 : (0 : Int) ≤ (i : Int) := by omega
    have hw1 : IntKind.i64.wrap ((i : Int) + 1) = (i : Int) + 1 := wr_id (by omega) (by omega)
    obtain ⟨hA, _, hc⟩ := (hD.row.sl EP.len).get hi2
    have hqc : qs[i].1.c = ps[i].1.c := by
      have := congrArg (fun l : List En => l[0]?) hdr
      simpa [hi', hi2] using this
    have hsi : (softK (ps.map (·.1.c)) ks)[i]? = some (if tagT ks ps[i].1.c.key then soft1 ps[i].1.c else ps[i].1.c) := by
      unfold softK
      rw [List.getElem?_map, List.getElem?_map, List.getElem?_eq_getElem hi']
      rfl
    have hdr2 : ∀ l : List En, l.drop i = (ps.map (·.1.c)).drop i → l.drop (i + 1) = (ps.map (·.1.c)).drop (i + 1) := fun l hl => by
      have := congrArg (List.drop 1) hl
      simpa [List.drop_drop, Nat.add_comm] using this
    have hW := (hw.keeps hK fun g e e' => hap g e e').sl st_len
    conv => whnf
    refine ⟨hb1, hb, hA, ?_⟩
    conv => whnf
    refine ⟨_, cells_cut hc 0 rfl, ?_⟩
    conv => whnf
    refine Ret.go (isTagged_spec B' d ks _ _ hW hk) ?_
    conv => whnf
    refine caseB_intro (fun hp => ?_) (fun hp => ?_)
    · conv => whnf
      refine ⟨hb1, hb, hA, ?_⟩
      conv => whnf
      have hT : Dw M1 o A c (qs.set i qs[i]) := by rw [List.set_getElem_self]; exact hD
      refine Dw.store (j := 9) hT hi2 (by simp) (qs[i].wth (soft1 qs[i].1.c)) rfl rfl (fun M h => ⟨h.h, h.y, h.t⟩) fun M2 D2 k2 => ?_
      conv => whnf
      refine ⟨(i + 1, qs.set i (qs[i].wth (soft1 qs[i].1.c))), ⟨by simp [slots, leT, hw1], ⟨[], rfl⟩, Nat.zero_le _, rfl, rfl⟩, ⟨hi', by rw [List.length_set]; exact hql, D2, ?_, ?_, by rw [dwL_set hi2]; exact hL, hK.trans k2⟩, by show _ - (i + 1) < _ - i; omega⟩
      · show ((qs.set i (qs[i].wth (soft1 qs[i].1.c))).map (·.1.c)).take (i + 1) = _
        rw [List.map_set, take_set_succ (by simpa using hi2), ht, List.take_succ_eq_append_getElem (l := softK (ps.map (·.1.c)) ks) (by omega)]
        congr 2
        have := List.getElem?_eq_getElem (l := softK (ps.map (·.1.c)) ks) (i := i) (by omega)
        rw [hsi] at this
        rw [hqc] at hp
        rw [hp] at this
        simp only [if_true, Option.some.injEq] at this
        rw [← this]
        show soft1 qs[i].1.c = _
        rw [hqc]
      · show ((qs.set i (qs[i].wth (soft1 qs[i].1.c))).map (·.1.c)).drop (i + 1) = _
        rw [List.map_set, getE_setlt (by omega)]
        exact hdr2 _ hdr
    · conv => whnf
      refine ⟨(i + 1, qs), ⟨by simp [slots, leT, hw1], ⟨[], rfl⟩, Nat.zero_le _, rfl, rfl⟩, ⟨hi', hql, hD, ?_, hdr2 _ hdr, hL, hK⟩, by show _ - (i + 1) < _ - i; omega⟩
      show (qs.map (·.1.c)).take (i + 1) = _
      rw [List.take_succ_eq_append_getElem (l := qs.map (·.1.c)) (by simpa using hi2), ht, List.take_succ_eq_append_getElem (l := softK (ps.map (·.1.c)) ks) (by omega)]
      congr 2
      have := List.getElem?_eq_getElem (l := softK (ps.map (·.1.c)) ks) (i := i) (by omega)
      rw [hsi] at this
      rw [hqc] at hp
      rw [hp] at this
      simp only [Bool.false_eq_true, if_false, Option.some.injEq] at this
      rw [← this, List.getElem_map]
      exact hqc
  · have hie : i = ps.length := by have : ¬ (i : Int) < ps.length := hb; omega
    subst hie
    rw [List.take_of_length_le (by rw [List.length_map]; omega), List.take_of_length_le (by omega)] at ht
    conv => whnf
    exact ⟨_, PH.Le.refl _, rfl, qs, hql, hD, ht, hL, hK⟩
end Go.Proofs.YtafgnmiflngjhaaGreatDoor
