/-
  MARKS of entries read again; stores marked and read again.
-/
import Derived.Test.YtafgnmiflngjhaaGreatDoorVd
namespace Go.Proofs.YtafgnmiflngjhaaGreatDoor
set_option maxRecDepth 100000
set_option linter.unusedSimpArgs false
set_option linter.unusedVariables false
open Go.Xe
/-- Entries that can be read, their rows too. -/
structure Es (M : PH) (A : Option Addr) (ps : List EP) : Prop where
  row : Sl M A 13 EP.cs ps
  h : ∀ (j : Nat) p, ps[j]? = some p → Sl M p.1.hA 2 Hd.cs p.1.c.hs
  y : ∀ (j : Nat) p, ps[j]? = some p → Sl M p.1.bA 1 byC p.1.c.body
  t : ∀ (j : Nat) p, ps[j]? = some p → Sl M p.1.tA 1 stC p.1.c.tags
theorem Dw.es {M : PH} {o : Option Nat} {A : Option Addr} {c : Nat} {ps : List EP} (h : Dw M o A c ps) : Es M A ps :=
  ⟨h.row.sl EP.len, fun j p hp => (h.ed j p hp).h.sl Hd.len, fun j p hp => (h.ed j p hp).y.sl by_len, fun j p hp => (h.ed j p hp).t.sl st_len⟩
set_option maxHeartbeats 4000000 in
theorem heldEntryS_ret (A : Option Addr) (c : Nat) (ps qs : List EP) (k : Int) (M : PH) (hm : Mk k ps qs ps.length) (hE : Es M A qs) (h0 : 0 ≤ k) (h1 : k + totE ps ≤ 800000000000) (hT : totE ps ≤ 4294967296) (hn : ps.length ≤ 4294967296) :
    Ret 153 [.slice A ps.length c, I k] M (I (posE k ps ps.length)) := by
  refine xcall_of_vc Tryz.func153 rfl _ Tryz.ntmps153 _ rfl (fun _ _ => Tryz.call153 _ _) rfl (fun w0 ρ0 => ?_)
  conv => whnf
  refine loop_rule (fun i : Nat => ⟨slots 142 [(0, .v (.slice A ps.length c)), (1, .v (I (posE k ps i))), (4, .v (I 0)), (5, .v (I i))], []⟩) (fun i M' => i ≤ ps.length ∧ M' = M) (fun i => ps.length - i) 0 ?_ ?_ ?_
  · exact ⟨by simp [slots, leT, posE], ⟨[], rfl⟩, Nat.zero_le _, rfl, rfl⟩
  · exact ⟨Nat.zero_le _, rfl⟩
  rintro i M' ⟨hi, rfl⟩
  conv => whnf
  refine caseB_dec (fun hb => ?_) (fun hb => ?_)
  · have hb : (i : Int) < ps.length := hb
    have hi' : i < ps.length := by omega
    have hw : IntKind.i64.wrap ((i : Int) + 1) = (i : Int) + 1 := wr_id (by omega) (by omega)
    obtain ⟨hv, _, hok⟩ := posE_val h0 h1 i hi
    have hok := hok hi'
    have hnx := posE_succ k hi'
    have htm := totE_mem hi'
    have hq := hm.all hi'
    obtain ⟨_, hc⟩ := hE.row.at_ i _ hq
    have hA := hE.row.ne (fun e => by rw [e] at hq; simp at hq)
    have sh := hE.h i _ hq
    have sy := hE.y i _ hq
    have st := hE.t i _ hq
    generalize ps[i] = q at *
    generalize posE k ps i = κ at *
    obtain ⟨v1, v2, v3, v4, v5, v6, v7, v8, v9, v10, v11, v12, v13⟩ := hok.vals
    obtain ⟨t1, t2, t3⟩ := tE_len q.1.c
    have hlo := hok.lo
    have hhi := hok.hi
    have t4 : tE q.1.c = 10 + 2 * q.1.c.hs.length + q.1.c.body.length + q.1.c.tags.length := rfl
    have hz : nxE κ q.1.c = IntKind.i64.wrap (e11 κ q.1.c + q.1.c.tags.length + 1) := by unfold nxE e12; rw [Int.one_mul]
    have hl1 : q.1.c.hs.length ≤ 4294967296 := by omega
    have hl2 : q.1.c.body.length ≤ 4294967296 := by omega
    have hl3 : q.1.c.tags.length ≤ 4294967296 := by omega
    have c0 : M'.cells A (i * 13 + 0) [Tx (mText κ)] := cells_cut hc 0 rfl
    have c1 : M'.cells A (i * 13 + 1) [I (IntKind.i64.wrap (κ + 1))] := cells_cut hc 1 rfl
    have c2 : M'.cells A (i * 13 + 2) [.slice q.1.hA q.1.c.hs.length q.1.hc] := cells_cut hc 2 (by show some _ = some _; rw [show (mkP κ q).1.c.hs.length = q.1.c.hs.length from marksL_length _ _ _ _]; rfl)
    have c3 : M'.cells A (i * 13 + 3) [.slice q.1.bA q.1.c.body.length q.1.bc] := cells_cut hc 3 (by show some _ = some _; rw [show (mkP κ q).1.c.body.length = q.1.c.body.length from marksL_length _ _ _ _]; rfl)
    have c4 : M'.cells A (i * 13 + 4) [I (e4 κ q.1.c)] := cells_cut hc 4 rfl
    have c5 : M'.cells A (i * 13 + 5) [I (e5 κ q.1.c)] := cells_cut hc 5 rfl
    have c6 : M'.cells A (i * 13 + 6) [I (e6 κ q.1.c)] := cells_cut hc 6 rfl
    have c7 : M'.cells A (i * 13 + 7) [I (e7 κ q.1.c)] := cells_cut hc 7 rfl
    have c8 : M'.cells A (i * 13 + 8) [I (e8 κ q.1.c)] := cells_cut hc 8 rfl
    have c9 : M'.cells A (i * 13 + 9) [B (decide ((e9 κ q.1.c).tmod 3 = 0))] := cells_cut hc 9 rfl
    have c10 : M'.cells A (i * 13 + 10) [B (decide ((e10 κ q.1.c).tmod 3 = 0))] := cells_cut hc 10 rfl
    have c11 : M'.cells A (i * 13 + 11) [.slice q.1.tA q.1.c.tags.length q.1.tc] := cells_cut hc 11 (by show some _ = some _; rw [show (mkP κ q).1.c.tags.length = q.1.c.tags.length from marksL_length _ _ _ _]; rfl)
    have c12 : M'.cells A (i * 13 + 12) [I (e12 κ q.1.c)] := cells_cut hc 12 rfl
    conv => whnf
    have hi1 : (0 : Int) ≤ (i : Int) := by omega
    have hi1' : (i : Int) < (ps.length : Int) := hb
    have hkt : κ ≤ 1000000000000 := by omega
    have b1 : 0 ≤ e2 κ ∧ e2 κ ≤ 900000000000 := ⟨by omega, by omega⟩
    have b2 : 0 ≤ e3 κ q.1.c ∧ e3 κ q.1.c ≤ 900000000000 := ⟨by omega, by omega⟩
    have b3 : 0 ≤ e11 κ q.1.c ∧ e11 κ q.1.c ≤ 900000000000 := ⟨by omega, by omega⟩
    repeat' (first | (refine ⟨⟨[], rfl⟩, _, PH.Le.refl _, PH.Le.refl _, ?_⟩; conv => whnf) | (refine ⟨_, c0, ?_⟩; conv => whnf) | (refine ⟨hi1, hi1', hA, ?_⟩; conv => whnf) | (refine caseB_true ?_; conv => whnf) | (refine caseB_false ?_; conv => whnf) | ((with_reducible refine caseB_dec (fun h => ?_) (fun h => ?_)) <;> conv => whnf) | ((with_reducible refine caseB_ndec (fun h => ?_) (fun h => ?_)) <;> conv => whnf) | ((with_reducible refine caseB_not (fun h => ?_) (fun h => ?_)) <;> conv => whnf) | (refine draw_rule (.light 0 <| .light 1 <| .light 2 <| .light 3 <| .light 4 <| .light 5 <| .alt 6 false (.light 7 <| .done) .nil) (by decide +kernel) ?_; conv => whnf) | (refine Ret.go (markText_ret κ _ hkt) ?_; conv => whnf) | (with_reducible refine @And.intro (guardVC _ _ _ _ _) _ ?_ ?_) <;> conv => whnf | (refine caseB_intro (fun h => ?_) (fun h => ?_) <;> (try simp only [Bool.not_eq_true', Bool.not_eq_false', decide_eq_true_eq, decide_eq_false_iff_not] at h) <;> conv => whnf))
    · exfalso; simp [seq_self] at h
    refine ⟨_, c1, ?_⟩
    conv => whnf
    refine caseB_ndec (fun h => absurd rfl h) (fun _ => ?_)
    conv => whnf
    refine ⟨hi1, hi1', hA, ?_⟩
    conv => whnf
    refine ⟨_, c2, ?_⟩
    conv => whnf
    refine Ret.go (heldHeaderS_ret q.1.hA q.1.hc q.1.c.hs.length (e2 κ) _ sh hl1 b1) ?_
    conv => whnf
    refine caseB_dec (fun h => ?_) (fun _ => ?_)
    · exfalso; omega
    conv => whnf
    refine ⟨hi1, hi1', hA, ?_⟩
    conv => whnf
    refine ⟨_, c3, ?_⟩
    conv => whnf
    refine Ret.go (heldByteS_ret q.1.bA q.1.bc q.1.c.body.length (e3 κ q.1.c) _ sy hl2 b2) ?_
    conv => whnf
    refine caseB_dec (fun h => ?_) (fun _ => ?_)
    · exfalso; omega
    conv => whnf
    refine ⟨hi1, hi1', hA, ?_⟩
    conv => whnf
    refine ⟨_, c4, ?_⟩
    conv => whnf
    refine caseB_ndec (fun h => absurd rfl h) (fun _ => ?_)
    conv => whnf
    refine ⟨hi1, hi1', hA, ?_⟩
    conv => whnf
    refine ⟨_, c5, ?_⟩
    conv => whnf
    refine caseB_ndec (fun h => absurd rfl h) (fun _ => ?_)
    conv => whnf
    refine ⟨hi1, hi1', hA, ?_⟩
    conv => whnf
    refine ⟨_, c6, ?_⟩
    conv => whnf
    refine caseB_ndec (fun h => absurd rfl h) (fun _ => ?_)
    conv => whnf
    refine ⟨hi1, hi1', hA, ?_⟩
    conv => whnf
    refine ⟨_, c7, ?_⟩
    conv => whnf
    refine caseB_ndec (fun h => absurd rfl h) (fun _ => ?_)
    conv => whnf
    refine ⟨hi1, hi1', hA, ?_⟩
    conv => whnf
    refine ⟨_, c8, ?_⟩
    conv => whnf
    refine caseB_ndec (fun h => absurd rfl h) (fun _ => ?_)
    conv => whnf
    refine ⟨hi1, hi1', hA, ?_⟩
    conv => whnf
    refine ⟨_, c9, ?_⟩
    conv => whnf
    refine ⟨by decide, ?_⟩
    conv => whnf
    refine caseB_not (fun h => ?_) (fun h => ?_)
    · exact absurd ((beq_self_eq_true (decide ((e9 κ q.1.c).tmod 3 = 0))).symm.trans h) (by simp)
    conv => whnf
    refine ⟨hi1, hi1', hA, ?_⟩
    conv => whnf
    refine ⟨_, c10, ?_⟩
    conv => whnf
    refine ⟨by decide, ?_⟩
    conv => whnf
    refine caseB_not (fun h => ?_) (fun h => ?_)
    · exact absurd ((beq_self_eq_true (decide ((e10 κ q.1.c).tmod 3 = 0))).symm.trans h) (by simp)
    conv => whnf
    refine ⟨hi1, hi1', hA, ?_⟩
    conv => whnf
    refine ⟨_, c11, ?_⟩
    conv => whnf
    refine Ret.go (heldStringS_ret q.1.tA q.1.tc q.1.c.tags.length (e11 κ q.1.c) _ st hl3 b3) ?_
    conv => whnf
    refine caseB_dec (fun h => ?_) (fun _ => ?_)
    · exfalso; omega
    conv => whnf
    refine ⟨hi1, hi1', hA, ?_⟩
    conv => whnf
    refine ⟨_, c12, ?_⟩
    conv => whnf
    refine caseB_ndec (fun h => absurd rfl h) (fun _ => ?_)
    conv => whnf
    exact ⟨i + 1, ⟨by (simp [slots, leT, hw, hnx, hz]) <;> rfl, ⟨[], rfl⟩, Nat.zero_le _, rfl, rfl⟩, ⟨by omega, rfl⟩, by omega⟩
  · have hi' : i = ps.length := by have : ¬ (i : Int) < ps.length := hb; omega
    subst hi'
    conv => whnf
    exact ⟨_, PH.Le.refl _, rfl, rfl⟩
end Go.Proofs.YtafgnmiflngjhaaGreatDoor
