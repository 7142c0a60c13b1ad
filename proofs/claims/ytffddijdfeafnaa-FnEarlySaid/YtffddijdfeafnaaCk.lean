/-
  CONTRACTS: what the drawing laws draw.
-/
import Derived.Test.YtffddijdfeafnaaCj
namespace Go.Proofs.Ytffddijdfeafnaa
set_option maxRecDepth 100000
set_option linter.unusedSimpArgs false
open Go.Xe
theorem drawAgeAt_ret (A : Option Addr) (c : Nat) (bs : List Int) (M : PH) (hb : Byt M A bs) :
    ACall env 86 [.slice A bs.length c] M fun r M' => ∃ (m : Mt) (t : Int), r = .tuple #[m.v, I t] ∧ M.Le M' := by
  refine xcall_of_vc Try.func86 rfl _ Try.ntmps86 _ rfl (fun _ _ => Try.call86 _ _) rfl (fun w0 ρ0 => ?_)
  conv => whnf
  refine ACall.step (l1Source_ret A c bs M) fun r M0 hh => ?_
  obtain ⟨g, hg, rfl, rfl⟩ := hh
  conv => whnf
  refine ACall.step (l7Bent_ret 0 g _ (src_new hb hg c (Int.le_refl 0) (Int.le_refl 0)) (by omega)) fun r M1 hh => ?_
  obtain ⟨m, rfl, s1, k1⟩ := hh
  conv => whnf
  refine draw_ruleF (.light 0 <| .light 1 <| .alt 2 false (.alt 3 true (.light 4 <| .done) .nil) .nil) (by decide +kernel) (rm_le M1 g) ?_
  conv => whnf
  refine XCall.lift (l7Now_ret _ g m M1 s1 (by omega)) [1] rfl rfl (by simp) rfl fun r bs' M2 hh => ?_
  obtain ⟨t, rfl, rfl, s2, k2⟩ := hh
  refine ⟨rfl, ⟨[], rfl⟩, _, PH.Le.refl _, k2.rm, ?_⟩
  conv => whnf
  exact ⟨_, PH.Le.refl _, m, t, rfl, (k1.trans k2).new hg⟩
theorem drawPhaseOf_ret (A : Option Addr) (c : Nat) (bs : List Int) (M : PH) (hb : Byt M A bs) :
    ACall env 51 [.slice A bs.length c] M fun r M' => ∃ (m : Mt) (t : Int), r = .tuple #[m.v, I t] ∧ M.Le M' := by
  refine xcall_of_vc Try.func51 rfl _ Try.ntmps51 _ rfl (fun _ _ => Try.call51 _ _) rfl (fun w0 ρ0 => ?_)
  conv => whnf
  refine ACall.step (drawAgeAt_ret A c bs M hb) fun r M1 hh => ?_
  obtain ⟨m, t, rfl, l1⟩ := hh
  conv => whnf
  exact ⟨_, PH.Le.refl _, m, t, rfl, l1⟩
theorem lwBig_ret (A : Option Addr) (c : Nat) (bs : List Int) (M : PH) : Ret 50 [.slice A bs.length c] M (B (decide (1048576 < (bs.length : Int)))) := by
  refine xcall_of_vc Try.func50 rfl _ Try.ntmps50 _ rfl (fun _ _ => Try.call50 _ _) rfl (fun w0 ρ0 => ?_)
  conv => whnf
  all_goals first | (refine ⟨M, PH.Le.refl _, ?_, rfl⟩; simp [resV, *]; done) | (refine ⟨M, PH.Le.refl _, ?_, rfl, rfl⟩; simp [resV, *]; done) | (exfalso; simp_all; done)
def addTime2 (a b : Int) : IR := if isT a && isT b then ⟨0, add' a b⟩ else ⟨3, 0⟩
theorem addTime2_ret (a b : Int) (M : PH) : Ret 52 [I a, I b] M (addTime2 a b).v := by
  refine xcall_of_vc Try.func52 rfl _ Try.ntmps52 _ rfl (fun _ _ => Try.call52 _ _) rfl (fun w0 ρ0 => ?_)
  conv => whnf
  repeat' (first | (refine ⟨⟨[], rfl⟩, _, PH.Le.refl _, PH.Le.refl _, ?_⟩; conv => whnf) | (refine caseB_true ?_; conv => whnf) | (refine caseB_false ?_; conv => whnf) | ((with_reducible refine caseB_dec (fun h => ?_) (fun h => ?_)) <;> conv => whnf) | ((with_reducible refine caseB_ndec (fun h => ?_) (fun h => ?_)) <;> conv => whnf) | ((with_reducible refine caseB_not (fun h => ?_) (fun h => ?_)) <;> conv => whnf) | (refine Ret.go (isTime_ret _ _) ?_; conv => whnf) | (refine Ret.go (addTime_ret _ _ _) ?_; conv => whnf) | (refine caseB_intro (fun h => ?_) (fun h => ?_) <;> (try simp only [Bool.not_eq_true', Bool.not_eq_false', decide_eq_true_eq, decide_eq_false_iff_not] at h) <;> conv => whnf))
  all_goals refine ⟨M, PH.Le.refl _, ?_, rfl⟩; simp_all [resV, addTime2, IR.v]
theorem lwAt_ret (A : Option Addr) (c : Nat) (i n : Int) (bs : List Int) (M : PH) (hb : Byt M A bs) (h0 : 0 ≤ i) (hi : i ≤ 1000000) (hn : n ≤ 1000000) :
    ACall env 53 [.slice A bs.length c, I i, I n] M fun r M' => ∃ x, r = I x ∧ (1 < n → 0 ≤ x ∧ x < n) ∧ M' = M := by
  have e1 : IntKind.i64.wrap (i + 1) = i + 1 := wr_id (by omega) (by omega)
  have hle := hb.le
  refine xcall_of_vc Try.func53 rfl _ Try.ntmps53 _ rfl (fun _ _ => Try.call53 _ _) rfl (fun w0 ρ0 => ?_)
  conv => whnf
  repeat' (first | (refine ⟨⟨[], rfl⟩, _, PH.Le.refl _, PH.Le.refl _, ?_⟩; conv => whnf) | (refine caseB_true ?_; conv => whnf) | (refine caseB_false ?_; conv => whnf) | ((with_reducible refine caseB_dec (fun h => ?_) (fun h => ?_)) <;> conv => whnf) | ((with_reducible refine caseB_ndec (fun h => ?_) (fun h => ?_)) <;> conv => whnf) | ((with_reducible refine caseB_not (fun h => ?_) (fun h => ?_)) <;> conv => whnf) | (refine caseB_intro (fun h => ?_) (fun h => ?_) <;> (try simp only [Bool.not_eq_true', Bool.not_eq_false', decide_eq_true_eq, decide_eq_false_iff_not] at h) <;> conv => whnf))
  · exact ⟨_, PH.Le.refl _, _, rfl, fun h => by omega, rfl⟩
  · refine ⟨by omega, ?_⟩
    conv => whnf
    refine ⟨_, PH.Le.refl _, _, rfl, fun h => ?_, rfl⟩
    simp (disch := omega) only [wrap_id]
    exact tmod_in (by omega) (by omega)
  have hL : (1 : Int) ≤ bs.length := by omega
  have i0 : 0 ≤ Int.tmod i bs.length ∧ Int.tmod i bs.length < bs.length := tmod_in h0 hL
  have i1 : 0 ≤ Int.tmod (IntKind.i64.wrap (i + 1)) bs.length ∧ Int.tmod (IntKind.i64.wrap (i + 1)) bs.length < bs.length := by rw [e1]; exact tmod_in (by omega) hL
  obtain ⟨b0, l0, u0, hA, c0⟩ := hb.get i0.1 i0.2
  obtain ⟨b1, l1, u1, _, c1⟩ := hb.get i1.1 i1.2
  have q0 : 0 ≤ Int.tdiv i bs.length ∧ Int.tdiv i bs.length ≤ i := ⟨Int.tdiv_nonneg h0 (by omega), Int.tdiv_le_self _ h0⟩
  repeat' (first | (refine ⟨⟨[], rfl⟩, _, PH.Le.refl _, PH.Le.refl _, ?_⟩; conv => whnf) | (refine ⟨.int .u8 b1, c1, ?_⟩; conv => whnf) | (refine ⟨.int .u8 b0, c0, ?_⟩; conv => whnf) | (refine ⟨i1.1, i1.2, hA, ?_⟩; conv => whnf) | (refine ⟨i0.1, i0.2, hA, ?_⟩; conv => whnf) | (refine And.intro (by omega) ?_; conv => whnf) | (refine caseB_true ?_; conv => whnf) | (refine caseB_false ?_; conv => whnf) | ((with_reducible refine caseB_dec (fun h => ?_) (fun h => ?_)) <;> conv => whnf) | ((with_reducible refine caseB_ndec (fun h => ?_) (fun h => ?_)) <;> conv => whnf) | ((with_reducible refine caseB_not (fun h => ?_) (fun h => ?_)) <;> conv => whnf) | (refine draw_rule (.light 0 <| .light 1 <| .light 2 <| .light 3 <| .light 4 <| .light 5 <| .light 6 <| .light 7 <| .light 8 <| .light 9 <| .light 10 <| .light 11 <| .light 12 <| .done) (by decide +kernel) ?_; conv => whnf) | (refine caseB_intro (fun h => ?_) (fun h => ?_) <;> (try simp only [Bool.not_eq_true', Bool.not_eq_false', decide_eq_true_eq, decide_eq_false_iff_not] at h) <;> conv => whnf))
  all_goals refine ⟨_, PH.Le.refl _, _, rfl, fun h => ?_, rfl⟩
  all_goals simp (disch := omega) only [e1, wrap_id]
  all_goals exact tmod_in (by omega) (by omega)
theorem drawMetaOf_ret (A : Option Addr) (c : Nat) (bs : List Int) (M : PH) (hb : Byt M A bs) :
    ACall env 55 [.slice A bs.length c] M fun r M' => ∃ (p : Pl) (a b t : Int), r = .tuple #[p.v, I a, I b, I t] ∧ M.Le M' := by
  refine xcall_of_vc Try.func55 rfl _ Try.ntmps55 _ rfl (fun _ _ => Try.call55 _ _) rfl (fun w0 ρ0 => ?_)
  conv => whnf
  refine ACall.step (drawStoreLife_ret A c bs M hb) fun r M1 hh => ?_
  obtain ⟨p, a, b, rfl, l1⟩ := hh
  conv => whnf
  have hb1 := hb.mono l1
  refine draw_rule (.light 0 <| .light 1 <| .light 2 <| .light 3 <| .alt 4 false (.alt 5 false (.alt 6 false (.alt 7 true (.light 8 <| .light 9 <| .light 10 <| .done) .nil) .nil) .nil) (.alt 5 false (.alt 4 false (.alt 6 false (.alt 7 true (.light 8 <| .light 9 <| .light 10 <| .done) .nil) .nil) .nil) .nil)) (by decide +kernel) ?_
  conv => whnf
  refine ⟨?_, ?_⟩
  · refine ACall.step (l1Later_ret A c bs 3 M1) fun r M2 hh => ?_
    obtain ⟨g, hg, rfl, rfl⟩ := hh
    refine ⟨⟨[], rfl⟩, _, PH.Le.refl _, PH.Le.set _ hg, ?_⟩
    conv => whnf
    intro g2 hg2
    refine ⟨⟨[], rfl⟩, _, PH.Le.refl _, (PH.Le.set _ hg).trans (PH.Le.set _ hg2), ?_⟩
    conv => whnf
    refine ACall.step (pick_new 100 g g2 [0, 1000, 77, 1000000000000000, -1] _ hg2 (src_new hb1 hg c (k := wr (5 + wr (7 * 3))) (by decide) (by decide)) (by omega) (by simp)) fun r M3 hh => ?_
    obtain ⟨y, rfl, s3, k3⟩ := hh
    refine ⟨⟨[], rfl⟩, _, PH.Le.refl _, k3.new hg, ?_⟩
    conv => whnf
    exact ⟨_, PH.Le.refl _, p, a, b, y, rfl, l1.trans (k3.new hg)⟩
  · intro g2 hg2
    have l2 := PH.Le.set (.cells (([0, 1000, 77, 1000000000000000, -1] : List Int).flatMap inC).toArray 2 (0, 0)) hg2
    refine ⟨⟨[], rfl⟩, _, PH.Le.refl _, l2, ?_⟩
    conv => whnf
    refine ACall.step (l1Later_ret A c bs 3 _) fun r M2 hh => ?_
    obtain ⟨g, hg, rfl, rfl⟩ := hh
    have hne : g2 ≠ g := by
      rintro rfl
      exact nomatch ((PH.set_same _ _ _).symm.trans hg)
    refine ⟨⟨[], rfl⟩, _, PH.Le.refl _, l2.trans (PH.Le.set _ hg), ?_⟩
    conv => whnf
    refine ACall.step (pick_ret 100 g (some ⟨g2, 0, none⟩) _ [0, 1000, 77, 1000000000000000, -1] _ (src_new (hb1.mono l2) hg c (k := wr (5 + wr (7 * 3))) (by decide) (by decide)) (by omega) (fun o => by rw [set_set, set_comm hne]; exact sl_full (f := inC) (fun _ => rfl) _ g2 [0, 1000, 77, 1000000000000000, -1] 2 (0, 0)) (by simp)) fun r M3 hh => ?_
    obtain ⟨y, rfl, s3, k3⟩ := hh
    refine ⟨⟨[], rfl⟩, _, PH.Le.refl _, l2.trans (k3.new hg), ?_⟩
    conv => whnf
    exact ⟨_, PH.Le.refl _, p, a, b, y, rfl, l1.trans (l2.trans (k3.new hg))⟩
theorem drawEarlyDue_ret (A : Option Addr) (c : Nat) (bs : List Int) (M : PH) (hb : Byt M A bs) :
    ACall env 54 [.slice A bs.length c] M fun r M' => ∃ (m : Mt) (t l ch : Int), r = .tuple #[m.v, I t, I l, I ch] ∧ M.Le M' := by
  refine xcall_of_vc Try.func54 rfl _ Try.ntmps54 _ rfl (fun _ _ => Try.call54 _ _) rfl (fun w0 ρ0 => ?_)
  conv => whnf
  refine ACall.step (drawAgeAt_ret A c bs M hb) fun r M1 hh => ?_
  obtain ⟨m, t, rfl, l1⟩ := hh
  conv => whnf
  have hb1 := hb.mono l1
  refine ACall.step (l1Later_ret A c bs 2 M1) fun r M2 hh => ?_
  obtain ⟨g, hg, rfl, hM⟩ := hh
  have s2 : Src 100 M2 g := by
    subst hM
    exact src_new hb1 hg c (k := wr (5 + wr (7 * 2))) (by decide) (by decide)
  have k1 : M1.Le M2 := by
    subst hM
    exact PH.Le.set _ hg
  have new : ∀ M', Kp g M2 M' → M1.Le M' := by
    subst hM
    exact fun M' k => k.new hg
  clear hM
  conv => whnf
  refine draw_ruleF (.light 0 <| .light 1 <| .light 2 <| .light 5 <| .light 6 <| .alt 3 false (.alt 4 false (.alt 7 false (.alt 8 false (.alt 9 false (.alt 10 true (.light 11 <| .light 12 <| .light 13 <| .done) .nil) .nil) .nil) .nil) .nil) .nil) (by decide +kernel) (rm_le M2 g) ?_
  conv => whnf
  intro g3 hg3
  refine ⟨⟨[], rfl⟩, _, PH.Le.refl _, (rm_le M2 g).trans (PH.Le.set _ hg3), ?_⟩
  conv => whnf
  refine ACall.step (pick_new _ g g3 [0, 1000, 1000, 5000, 1000000, 1000001, -1] M2 hg3 s2 (by omega) (by simp)) fun r M3 hh => ?_
  obtain ⟨x, rfl, s3, k3⟩ := hh
  refine ⟨⟨[], rfl⟩, _, PH.Le.refl _, k3.rm, ?_⟩
  conv => whnf
  refine ACall.step (next_ret _ g 1000 M3 s3 (by omega)) fun r M4 hh => ?_
  obtain ⟨y, rfl, _, s4, k4⟩ := hh
  have k34 := k3.trans k4
  refine ⟨⟨[], rfl⟩, _, PH.Le.refl _, k34.rm, ?_⟩
  conv => whnf
  intro g5 hg5
  refine ⟨⟨[], rfl⟩, _, PH.Le.refl _, k34.rm.trans (PH.Le.set _ hg5), ?_⟩
  conv => whnf
  refine ACall.step (pick_new _ g g5 [0, 999, 500, y, 1000, -1] M4 hg5 s4 (by omega) (by simp)) fun r M5 hh => ?_
  obtain ⟨z, rfl, s5, k5⟩ := hh
  have k345 := k34.trans k5
  refine ⟨⟨[], rfl⟩, _, PH.Le.refl _, k345.rm, ?_⟩
  conv => whnf
  exact ⟨_, PH.Le.refl _, m, t, x, z, rfl, l1.trans (new _ k345)⟩
end Go.Proofs.Ytffddijdfeafnaa
