/-
  MARKS of entries, stores.
-/
import Derived.Test.YtafgnmiflngjhaaGreatDoorVc
namespace Go.Proofs.YtafgnmiflngjhaaGreatDoor
set_option maxRecDepth 100000
set_option linter.unusedSimpArgs false
set_option linter.unusedVariables false
open Go.Xe
def EP.wth (q : EP) (e : En) : EP := ({ q.1 with c := e }, q.2)
section
variable {M M' : PH} {o : Option Nat} {A : Option Addr} {c : Nat} {qs : List EP} {i : Nat} {x : EP}
theorem set_at (hi : i < qs.length) : (qs.set i x)[i]? = some x := by simp [hi]
theorem Dw.at (h : Dw M o A c (qs.set i x)) (hi : i < qs.length) : Ed M x := h.ed i x (set_at hi)
theorem Dw.cell (h : Dw M o A c (qs.set i x)) (hi : i < qs.length) (j : Nat) {v : Value} (hv : (EP.cs x)[j]? = some v) : M.cells A (i * 13 + j) [v] := cells_cut ((h.row.sl EP.len).at_ i x (set_at hi)).2 j hv
theorem Dw.sm (h : Dw M o A c (qs.set i x)) (hi : i < qs.length) : A.isSome = true := (h.row.sl EP.len).ne (fun e => by have := congrArg List.length e; simp at this; subst this; simp at hi)
theorem Dw.store {K : PH → Prop} (h : Dw M o A c (qs.set i x)) (hi : i < qs.length) {j : Nat} {vs : List Value} (hj : j + vs.length ≤ 13) (x' : EP) (hx : EP.cs x' = spl (EP.cs x) j vs) (h2 : x'.2 = x.2) (hE : ∀ M, Ed M x → Ed M x')
    (hk : ∀ M', Dw M' o A c (qs.set i x') → Keeps o M M' → K M') :
    ∃ (g : Nat) (off : Nat) (cells : List Value) (ty : TypeId) (fz : Nat × Nat), A = some ⟨g, off, none⟩ ∧ M g = some (.cells cells.toArray ty fz) ∧ (off + (i * 13 + j) + vs.length ≤ cells.length ∧ (fz.2 ≤ off + (i * 13 + j) ∨ off + (i * 13 + j) + vs.length ≤ fz.1)) ∧ K (M.set g (.cells (spl cells (off + (i * 13 + j)) vs).toArray ty fz)) := by
  have hi2 : i < (qs.set i x).length := by simpa using hi
  have hg : (qs.set i x)[i] = x := by simp
  refine own_store (i := i) (j := j) h.row EP.len hi2 hj x' (by rw [hg]; exact hx) fun M2 hO hK => ?_
  have hD := Dw.put h hi2 x' hO hK (by rw [hg]; exact h2) (fun M hE' => hE M (by rw [hg] at hE'; exact hE'))
  rw [List.set_set] at hD
  exact hk M2 hD hK
theorem Dw.subs (h : Dw M o A c (qs.set i x)) (hi : i < qs.length) (x' : EP) (b : Option Nat) (hbm : b ∈ EP.blks x) (hk : Keeps b M M') (hx : x'.2 = x.2) (hcs : EP.cs x' = EP.cs x) (hE : Ed M' x') : Dw M' o A c (qs.set i x') := by
  have hi2 : i < (qs.set i x).length := by simpa using hi
  have hg : (qs.set i x)[i] = x := by simp
  have hD := Dw.sub h hi2 x' b (by rw [hg]; exact hbm) hk (by rw [hg]; exact hx) (by rw [hg]; exact hcs) hE
  rwa [List.set_set] at hD
theorem Dw.pw (h : Dw M o A c (qs.set i x)) (hi : i < qs.length) : Apart x.2.1 x.2.2.1 ∧ Apart x.2.1 x.2.2.2 ∧ Apart x.2.2.1 x.2.2.2 := by
  have := sep_in h.sep (set_at hi)
  unfold EP.blks at this
  simp only [List.pairwise_cons, List.mem_cons, List.not_mem_nil, or_false, forall_eq_or_imp, forall_eq] at this
  exact ⟨this.1.1, this.1.2, this.2.1⟩
end
theorem totE_mem {ps : List EP} {i : Nat} (hi : i < ps.length) : tE ps[i].1.c ≤ totE ps := by
  have key : ∀ (l : List EP) (x : EP), x ∈ l → tE x.1.c ≤ (l.map fun p => tE p.1.c).sum := by
    intro l
    induction l with
    | nil => intro x h; cases h
    | cons y r ih =>
      intro x h
      rcases List.mem_cons.1 h with rfl | h
      · simp
      · have := ih x h
        simp only [List.map_cons, List.sum_cons]
        omega
  exact key ps _ (List.getElem_mem hi)
theorem tE_len (e : En) : e.hs.length ≤ tE e ∧ e.body.length ≤ tE e ∧ e.tags.length ≤ tE e := by unfold tE; omega
/-- The first i are marked. -/
def Mk (k : Int) (ps qs : List EP) (i : Nat) : Prop := qs.length = ps.length ∧ ∀ (j : Nat) p, ps[j]? = some p → qs[j]? = some (if j < i then mkP (posE k ps j) p else p)
theorem Mk.zero (k : Int) (ps : List EP) : Mk k ps ps 0 := ⟨rfl, fun j p h => by simpa using h⟩
theorem Mk.step {k : Int} {ps qs : List EP} {i : Nat} (h : Mk k ps qs i) (hi : i < ps.length) : Mk k ps (qs.set i (mkP (posE k ps i) ps[i])) (i + 1) := by
  refine ⟨by rw [List.length_set]; exact h.1, fun j p hp => ?_⟩
  rw [List.getElem?_set]
  by_cases e : i = j
  · subst e
    rw [List.getElem?_eq_getElem hi] at hp
    cases hp
    simp [h.1, hi]
  · rw [if_neg e, h.2 j p hp]
    by_cases h2 : j < i
    · rw [if_pos h2, if_pos (by omega)]
    · rw [if_neg h2, if_neg (by omega)]
theorem Mk.at {k : Int} {ps qs : List EP} {i : Nat} (h : Mk k ps qs i) (hi : i < ps.length) : qs.set i ps[i] = qs := by
  have h2 := h.2 i _ (List.getElem?_eq_getElem hi)
  rw [if_neg (by omega)] at h2
  obtain ⟨h3, h4⟩ := List.getElem?_eq_some_iff.1 h2
  rw [← h4, List.set_getElem_self]
theorem Mk.all {k : Int} {ps qs : List EP} (h : Mk k ps qs ps.length) {j : Nat} (hj : j < ps.length) : qs[j]? = some (mkP (posE k ps j) ps[j]) := by
  rw [h.2 j _ (List.getElem?_eq_getElem hj), if_pos hj]
set_option maxHeartbeats 4000000 in
theorem markEntryS_ret (o : Option Nat) (A : Option Addr) (c : Nat) (ps : List EP) (k : Int) (M : PH) (h : Dw M o A c ps) (h0 : 0 ≤ k) (h1 : k + totE ps ≤ 800000000000) (hT : totE ps ≤ 4294967296) (hn : ps.length ≤ 4294967296) :
    ACall env 89 [.slice A ps.length c, I k] M fun r M' => ∃ qs, r = I (posE k ps ps.length) ∧ Mk k ps qs ps.length ∧ Dw M' o A c qs ∧ KeepsL (dwL o ps) M M' := by
  refine xcall_of_vc Tryz.func89 rfl _ Tryz.ntmps89 _ rfl (fun _ _ => Tryz.call89 _ _) rfl (fun w0 ρ0 => ?_)
  conv => whnf
  refine loop_rule (fun z : Nat × List EP => ⟨slots 116 [(0, .v (.slice A ps.length c)), (1, .v (I (posE k ps z.1))), (5, .v (I z.1))], []⟩) (fun z M' => z.1 ≤ ps.length ∧ Mk k ps z.2 z.1 ∧ Dw M' o A c z.2 ∧ KeepsL (dwL o ps) M M') (fun z => ps.length - z.1) (0, ps) ?_ ?_ ?_
  · exact ⟨by simp [slots, leT, posE], ⟨[], rfl⟩, Nat.zero_le _, rfl, rfl⟩
  · exact ⟨Nat.zero_le _, Mk.zero k ps, h, KeepsL.refl _ M⟩
  rintro ⟨i, qs⟩ M0 ⟨hi, hm, D0, K0⟩
  have hi : i ≤ ps.length := hi
  have hm : Mk k ps qs i := hm
  have D0 : Dw M0 o A c qs := D0
  conv => whnf
  refine caseB_dec (fun hb => ?_) (fun hb => ?_)
  · have hb : (i : Int) < ps.length := hb
    have hi' : i < ps.length := by omega
    have hi2 : i < qs.length := by rw [hm.1]; exact hi'
    have hw : IntKind.i64.wrap ((i : Int) + 1) = (i : Int) + 1 := wr_id (by omega) (by omega)
    obtain ⟨hv, _, hok⟩ := posE_val h0 h1 i hi
    have hok := hok hi'
    have hnx := posE_succ k hi'
    have htm := totE_mem hi'
    have hst := hm.step hi'
    have hbm : ∀ b ∈ EP.blks ps[i], b ∈ dwL o ps := fun b hb => List.mem_cons_of_mem _ (List.mem_flatMap.2 ⟨_, List.getElem_mem hi', hb⟩)
    rw [← hm.at hi'] at D0
    have hA := D0.sm hi2
    obtain ⟨P12, P13, P23⟩ := D0.pw hi2
    generalize ps[i] = q at *
    generalize posE k ps i = κ at *
    obtain ⟨v1, v2, v3, v4, v5, v6, v7, v8, v9, v10, v11, v12, v13⟩ := hok.vals
    obtain ⟨t1, t2, t3⟩ := tE_len q.1.c
    have hlo := hok.lo
    have hhi := hok.hi
    have t4 : tE q.1.c = 10 + 2 * q.1.c.hs.length + q.1.c.body.length + q.1.c.tags.length := rfl
    have D0 : Dw M0 o A c (qs.set i (q.wth q.1.c)) := D0
    have hz : nxE κ q.1.c = IntKind.i64.wrap (e11 κ q.1.c + q.1.c.tags.length + 1) := by unfold nxE e12; rw [Int.one_mul]
    have hl1 : q.1.c.hs.length ≤ 4294967296 := by omega
    have hl2 : q.1.c.body.length ≤ 4294967296 := by omega
    have hl3 : q.1.c.tags.length ≤ 4294967296 := by omega
    conv => whnf
    refine Ret.go (markText_ret _ _ (by omega)) ?_
    conv => whnf
    refine ⟨by omega, by omega, hA, ?_⟩
    conv => whnf
    refine Dw.store (j := 0) D0 hi2 (by simp) (q.wth ⟨mText κ, q.1.c.st, q.1.c.hs, q.1.c.body, ⟨q.1.c.mt.at_, q.1.c.mt.age, q.1.c.mt.life, q.1.c.mt.swr, q.1.c.mt.sie, q.1.c.mt.soft, q.1.c.mt.noc⟩, q.1.c.tags, q.1.c.pins⟩) rfl rfl (fun M h => ⟨h.h, h.y, h.t⟩) fun M1 D1 k1 => ?_
    have K1 := K0.trans (Keeps.inL k1 (by simp : o ∈ dwL o ps))
    conv => whnf
    refine ⟨by omega, by omega, hA, ?_⟩
    conv => whnf
    refine Dw.store (j := 1) D1 hi2 (by simp) (q.wth ⟨mText κ, IntKind.i64.wrap (κ + 1), q.1.c.hs, q.1.c.body, ⟨q.1.c.mt.at_, q.1.c.mt.age, q.1.c.mt.life, q.1.c.mt.swr, q.1.c.mt.sie, q.1.c.mt.soft, q.1.c.mt.noc⟩, q.1.c.tags, q.1.c.pins⟩) rfl rfl (fun M h => ⟨h.h, h.y, h.t⟩) fun M2 D2 k2 => ?_
    have K2 := K1.trans (Keeps.inL k2 (by simp : o ∈ dwL o ps))
    conv => whnf
    refine ⟨by omega, by omega, hA, ?_⟩
    conv => whnf
    refine ⟨_, D2.cell hi2 2 rfl, ?_⟩
    conv => whnf
    have E2 := D2.at hi2
    refine ACall.step (markHeaderS_ret _ _ _ _ (e2 κ) M2 E2.h hl1 ⟨by omega, by omega⟩) fun v M3 hh => ?_
    obtain ⟨rfl, O3, k3⟩ := hh
    have D3 : Dw M3 o A c (qs.set i (q.wth ⟨mText κ, IntKind.i64.wrap (κ + 1), marksL mkH 2 (e2 κ) q.1.c.hs.length, q.1.c.body, ⟨q.1.c.mt.at_, q.1.c.mt.age, q.1.c.mt.life, q.1.c.mt.swr, q.1.c.mt.sie, q.1.c.mt.soft, q.1.c.mt.noc⟩, q.1.c.tags, q.1.c.pins⟩)) := Dw.subs D2 hi2 _ q.2.1 (show q.2.1 ∈ [q.2.1, q.2.2.1, q.2.2.2] by simp) k3 rfl (by simp [EP.cs, EP.wth, marksL_length]) ⟨O3, E2.y.keeps k3 (Apart.symm P12), E2.t.keeps k3 (Apart.symm P13)⟩
    have K3 := K2.trans (Keeps.inL k3 (hbm _ (show q.2.1 ∈ [q.2.1, q.2.2.1, q.2.2.2] by simp)))
    conv => whnf
    refine ⟨by omega, by omega, hA, ?_⟩
    conv => whnf
    refine ⟨_, D3.cell hi2 3 rfl, ?_⟩
    conv => whnf
    have E3 := D3.at hi2
    refine ACall.step (markByteS_ret _ _ _ _ (e3 κ q.1.c) M3 E3.y hl2 ⟨by omega, by omega⟩) fun v M4 hh => ?_
    obtain ⟨rfl, O4, k4⟩ := hh
    have D4 : Dw M4 o A c (qs.set i (q.wth ⟨mText κ, IntKind.i64.wrap (κ + 1), marksL mkH 2 (e2 κ) q.1.c.hs.length, marksL mkB 1 (e3 κ q.1.c) q.1.c.body.length, ⟨q.1.c.mt.at_, q.1.c.mt.age, q.1.c.mt.life, q.1.c.mt.swr, q.1.c.mt.sie, q.1.c.mt.soft, q.1.c.mt.noc⟩, q.1.c.tags, q.1.c.pins⟩)) := Dw.subs D3 hi2 _ q.2.2.1 (show q.2.2.1 ∈ [q.2.1, q.2.2.1, q.2.2.2] by simp) k4 rfl (by simp [EP.cs, EP.wth, marksL_length]) ⟨E3.h.keeps k4 P12, O4, E3.t.keeps k4 (Apart.symm P23)⟩
    have K4 := K3.trans (Keeps.inL k4 (hbm _ (show q.2.2.1 ∈ [q.2.1, q.2.2.1, q.2.2.2] by simp)))
    conv => whnf
    refine ⟨by omega, by omega, hA, ?_⟩
    conv => whnf
    refine Dw.store (j := 4) D4 hi2 (by simp) (q.wth ⟨mText κ, IntKind.i64.wrap (κ + 1), marksL mkH 2 (e2 κ) q.1.c.hs.length, marksL mkB 1 (e3 κ q.1.c) q.1.c.body.length, ⟨e4 κ q.1.c, q.1.c.mt.age, q.1.c.mt.life, q.1.c.mt.swr, q.1.c.mt.sie, q.1.c.mt.soft, q.1.c.mt.noc⟩, q.1.c.tags, q.1.c.pins⟩) rfl rfl (fun M h => ⟨h.h, h.y, h.t⟩) fun M5 D5 k5 => ?_
    have K5 := K4.trans (Keeps.inL k5 (by simp : o ∈ dwL o ps))
    conv => whnf
    refine ⟨by omega, by omega, hA, ?_⟩
    conv => whnf
    refine Dw.store (j := 5) D5 hi2 (by simp) (q.wth ⟨mText κ, IntKind.i64.wrap (κ + 1), marksL mkH 2 (e2 κ) q.1.c.hs.length, marksL mkB 1 (e3 κ q.1.c) q.1.c.body.length, ⟨e4 κ q.1.c, e5 κ q.1.c, q.1.c.mt.life, q.1.c.mt.swr, q.1.c.mt.sie, q.1.c.mt.soft, q.1.c.mt.noc⟩, q.1.c.tags, q.1.c.pins⟩) rfl rfl (fun M h => ⟨h.h, h.y, h.t⟩) fun M6 D6 k6 => ?_
    have K6 := K5.trans (Keeps.inL k6 (by simp : o ∈ dwL o ps))
    conv => whnf
    refine ⟨by omega, by omega, hA, ?_⟩
    conv => whnf
    refine Dw.store (j := 6) D6 hi2 (by simp) (q.wth ⟨mText κ, IntKind.i64.wrap (κ + 1), marksL mkH 2 (e2 κ) q.1.c.hs.length, marksL mkB 1 (e3 κ q.1.c) q.1.c.body.length, ⟨e4 κ q.1.c, e5 κ q.1.c, e6 κ q.1.c, q.1.c.mt.swr, q.1.c.mt.sie, q.1.c.mt.soft, q.1.c.mt.noc⟩, q.1.c.tags, q.1.c.pins⟩) rfl rfl (fun M h => ⟨h.h, h.y, h.t⟩) fun M7 D7 k7 => ?_
    have K7 := K6.trans (Keeps.inL k7 (by simp : o ∈ dwL o ps))
    conv => whnf
    refine ⟨by omega, by omega, hA, ?_⟩
    conv => whnf
    refine Dw.store (j := 7) D7 hi2 (by simp) (q.wth ⟨mText κ, IntKind.i64.wrap (κ + 1), marksL mkH 2 (e2 κ) q.1.c.hs.length, marksL mkB 1 (e3 κ q.1.c) q.1.c.body.length, ⟨e4 κ q.1.c, e5 κ q.1.c, e6 κ q.1.c, e7 κ q.1.c, q.1.c.mt.sie, q.1.c.mt.soft, q.1.c.mt.noc⟩, q.1.c.tags, q.1.c.pins⟩) rfl rfl (fun M h => ⟨h.h, h.y, h.t⟩) fun M8 D8 k8 => ?_
    have K8 := K7.trans (Keeps.inL k8 (by simp : o ∈ dwL o ps))
    conv => whnf
    refine ⟨by omega, by omega, hA, ?_⟩
    conv => whnf
    refine Dw.store (j := 8) D8 hi2 (by simp) (q.wth ⟨mText κ, IntKind.i64.wrap (κ + 1), marksL mkH 2 (e2 κ) q.1.c.hs.length, marksL mkB 1 (e3 κ q.1.c) q.1.c.body.length, ⟨e4 κ q.1.c, e5 κ q.1.c, e6 κ q.1.c, e7 κ q.1.c, e8 κ q.1.c, q.1.c.mt.soft, q.1.c.mt.noc⟩, q.1.c.tags, q.1.c.pins⟩) rfl rfl (fun M h => ⟨h.h, h.y, h.t⟩) fun M9 D9 k9 => ?_
    have K9 := K8.trans (Keeps.inL k9 (by simp : o ∈ dwL o ps))
    conv => whnf
    refine ⟨by decide, ?_⟩
    conv => whnf
    refine ⟨by omega, by omega, hA, ?_⟩
    conv => whnf
    refine Dw.store (j := 9) D9 hi2 (by simp) (q.wth ⟨mText κ, IntKind.i64.wrap (κ + 1), marksL mkH 2 (e2 κ) q.1.c.hs.length, marksL mkB 1 (e3 κ q.1.c) q.1.c.body.length, ⟨e4 κ q.1.c, e5 κ q.1.c, e6 κ q.1.c, e7 κ q.1.c, e8 κ q.1.c, decide ((e9 κ q.1.c).tmod 3 = 0), q.1.c.mt.noc⟩, q.1.c.tags, q.1.c.pins⟩) rfl rfl (fun M h => ⟨h.h, h.y, h.t⟩) fun M10 D10 k10 => ?_
    have K10 := K9.trans (Keeps.inL k10 (by simp : o ∈ dwL o ps))
    conv => whnf
    refine ⟨by decide, ?_⟩
    conv => whnf
    refine ⟨by omega, by omega, hA, ?_⟩
    conv => whnf
    refine Dw.store (j := 10) D10 hi2 (by simp) (q.wth ⟨mText κ, IntKind.i64.wrap (κ + 1), marksL mkH 2 (e2 κ) q.1.c.hs.length, marksL mkB 1 (e3 κ q.1.c) q.1.c.body.length, ⟨e4 κ q.1.c, e5 κ q.1.c, e6 κ q.1.c, e7 κ q.1.c, e8 κ q.1.c, decide ((e9 κ q.1.c).tmod 3 = 0), decide ((e10 κ q.1.c).tmod 3 = 0)⟩, q.1.c.tags, q.1.c.pins⟩) rfl rfl (fun M h => ⟨h.h, h.y, h.t⟩) fun M11 D11 k11 => ?_
    have K11 := K10.trans (Keeps.inL k11 (by simp : o ∈ dwL o ps))
    conv => whnf
    refine ⟨by omega, by omega, hA, ?_⟩
    conv => whnf
    refine ⟨_, D11.cell hi2 11 rfl, ?_⟩
    conv => whnf
    have E11 := D11.at hi2
    refine ACall.step (markStringS_ret _ _ _ _ (e11 κ q.1.c) M11 E11.t hl3 ⟨by omega, by omega⟩) fun v M12 hh => ?_
    obtain ⟨rfl, O12, k12⟩ := hh
    have D12 : Dw M12 o A c (qs.set i (q.wth ⟨mText κ, IntKind.i64.wrap (κ + 1), marksL mkH 2 (e2 κ) q.1.c.hs.length, marksL mkB 1 (e3 κ q.1.c) q.1.c.body.length, ⟨e4 κ q.1.c, e5 κ q.1.c, e6 κ q.1.c, e7 κ q.1.c, e8 κ q.1.c, decide ((e9 κ q.1.c).tmod 3 = 0), decide ((e10 κ q.1.c).tmod 3 = 0)⟩, marksL mText 1 (e11 κ q.1.c) q.1.c.tags.length, q.1.c.pins⟩)) := Dw.subs D11 hi2 _ q.2.2.2 (show q.2.2.2 ∈ [q.2.1, q.2.2.1, q.2.2.2] by simp) k12 rfl (by simp [EP.cs, EP.wth, marksL_length]) ⟨E11.h.keeps k12 P13, E11.y.keeps k12 P23, O12⟩
    have K12 := K11.trans (Keeps.inL k12 (hbm _ (show q.2.2.2 ∈ [q.2.1, q.2.2.1, q.2.2.2] by simp)))
    conv => whnf
    refine ⟨by omega, by omega, hA, ?_⟩
    conv => whnf
    refine Dw.store (j := 12) D12 hi2 (by simp) (q.wth ⟨mText κ, IntKind.i64.wrap (κ + 1), marksL mkH 2 (e2 κ) q.1.c.hs.length, marksL mkB 1 (e3 κ q.1.c) q.1.c.body.length, ⟨e4 κ q.1.c, e5 κ q.1.c, e6 κ q.1.c, e7 κ q.1.c, e8 κ q.1.c, decide ((e9 κ q.1.c).tmod 3 = 0), decide ((e10 κ q.1.c).tmod 3 = 0)⟩, marksL mText 1 (e11 κ q.1.c) q.1.c.tags.length, e12 κ q.1.c⟩) rfl rfl (fun M h => ⟨h.h, h.y, h.t⟩) fun M13 D13 k13 => ?_
    have K13 := K12.trans (Keeps.inL k13 (by simp : o ∈ dwL o ps))
    conv => whnf
    refine ⟨(i + 1, qs.set i (mkP κ q)), ⟨by (simp [slots, leT, hw, hnx, hz, EP.wth]) <;> rfl, ⟨[], rfl⟩, Nat.zero_le _, rfl, rfl⟩, ⟨hi', hst, D13, K13⟩, by show _ - (i + 1) < _ - i; omega⟩
  · have hi' : i = ps.length := by have : ¬ (i : Int) < ps.length := hb; omega
    subst hi'
    conv => whnf
    exact ⟨_, PH.Le.refl _, qs, rfl, hm, D0, K0⟩
end Go.Proofs.YtafgnmiflngjhaaGreatDoor
