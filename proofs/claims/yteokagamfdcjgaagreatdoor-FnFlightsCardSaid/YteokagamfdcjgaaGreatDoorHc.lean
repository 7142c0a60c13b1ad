/-
  THE LAW: who joins waits behind all others, and nobody twice; who has waited long enough goes.
-/
import Derived.Test.YteokagamfdcjgaaGreatDoorHb
namespace Go.Proofs.YteokagamfdcjgaaGreatDoor
set_option maxRecDepth 100000
set_option linter.unusedSimpArgs false
set_option linter.unusedVariables false
open Go.Xe
structure Fit (f : Fc) : Prop where
  id : (isT f.id && isT f.due) = true
  key : keyT f.key = true
  get : rqFault f.get = 0
  out : ¬ (f.out = false ∧ f.due ≠ 0)
  n : (f.ws.length : Int) ≤ 10
  ok : ∀ w ∈ f.ws, okR w = true
  apt : AptG Wr.a f.ws
theorem fit_of {f : Fc} (h : flFault f = 0) : Fit f := by
  unfold flFault at h
  split at h
  · omega
  rename_i h1
  split at h
  · omega
  rename_i h2
  split at h
  · contradiction
  rename_i h3
  split at h
  · omega
  rename_i h4
  split at h
  · omega
  rename_i h5
  split at h
  · omega
  rename_i h6
  split at h
  · rename_i h7
    refine ⟨by simpa using h1, by simpa using h2, by simpa using h3, h4, by omega, fun w hw => ?_, asB_iff.1 h7⟩
    cases ho : okR w with
    | true => rfl
    | false => exact absurd (List.any_eq_true.2 ⟨w, hw, by rw [ho]; rfl⟩) h6
  · omega
theorem Fit.zero {f : Fc} (h : Fit f) : flFault f = 0 := by
  unfold flFault
  rw [if_neg (by rw [h.id]; decide), if_neg (by rw [h.key]; decide), if_neg (by rw [h.get]; decide), if_neg h.out, if_neg (by have := h.n; omega), if_neg, if_pos (asB_true h.apt)]
  intro ha
  obtain ⟨w, hw, h1⟩ := List.any_eq_true.1 ha
  rw [h.ok w hw] at h1
  cases h1
theorem left_fit {f : Fc} (n : Int) (h : Fit f) : Fit (leftF f n) :=
  ⟨h.id, h.key, h.get, h.out, Int.le_trans (by exact_mod_cast List.length_filter_le _ _) h.n, fun w hw => h.ok w (List.mem_filter.1 hw).1, h.apt.sublist List.filter_sublist⟩
theorem gone_left (ws : List Wr) (n : Int) : (goneL ws n).length + (leftL ws n).length = ws.length := by
  induction ws with
  | nil => rfl
  | cons w r ih =>
    unfold goneL leftL at *
    by_cases h : w.d ≤ n
    · rw [List.filter_cons_of_pos (by simp [h]), List.filter_cons_of_neg (by simp [h])]; simp only [List.length_cons]; omega
    · rw [List.filter_cons_of_neg (by simp [h]), List.filter_cons_of_pos (by simp [h])]; simp only [List.length_cons]; omega
theorem goneL_get {ws : List Wr} {n : Int} {i : Nat} (h : i < (goneL ws n).length) : ((goneL ws n)[i]).d ≤ n := by
  have := (List.mem_filter.1 (List.getElem_mem h)).2
  simpa using this
theorem leftL_get {ws : List Wr} {n : Int} {i : Nat} (h : i < (leftL ws n).length) : ¬ ((leftL ws n)[i]).d ≤ n := by
  have := (List.mem_filter.1 (List.getElem_mem h)).2
  simpa using this
structure Joined (f : Fc) (w : Wr) (n : Int) : Prop where
  fit : Fit f
  okr : okR w = true
  inb : inB n 1 10 = true
  new : waitsT f.ws w.a = false
  room : (f.ws.length : Int) < n
theorem joined_of {f : Fc} {w : Wr} {n : Int} (h : joinC f w n = 0) : Joined f w n := by
  unfold joinC at h
  split at h
  · contradiction
  rename_i h1
  split at h
  · omega
  rename_i h2
  split at h
  · omega
  rename_i h3
  split at h
  · omega
  rename_i h4
  split at h
  · omega
  rename_i h5
  exact ⟨fit_of (by simpa using h1), by simpa using h2, by simpa using h3, by simpa using h4, by omega⟩
theorem inB_le {n : Int} (h : inB n 1 10 = true) : 1 ≤ n ∧ n ≤ 10 := by
  unfold inB at h
  simp only [Bool.and_eq_true, decide_eq_true_eq] at h
  exact h
theorem Joined.after {f : Fc} {w : Wr} {n : Int} (h : Joined f w n) : Fit (joinF f w) := by
  have hr := h.room
  have hn := inB_le h.inb
  refine ⟨h.fit.id, h.fit.key, h.fit.get, h.fit.out, ?_, fun v hv => ?_, ?_⟩
  · show (((f.ws ++ [w]).length : Nat) : Int) ≤ 10
    simp only [List.length_append, List.length_cons, List.length_nil]
    omega
  · rcases List.mem_append.1 hv with h1 | h1
    · exact h.fit.ok v h1
    · have : v = w := by simpa using h1
      rw [this]; exact h.okr
  · show (f.ws ++ [w]).Pairwise _
    rw [List.pairwise_append]
    refine ⟨h.fit.apt, List.pairwise_singleton _ _, fun a ha b hb => ?_⟩
    have : b = w := by simpa using hb
    subst this
    intro e
    have h1 := h.new
    have : waitsT f.ws b.a = true := List.any_eq_true.2 ⟨a, ha, decide_eq_true e⟩
    rw [this] at h1
    cases h1
theorem Joined.again {f : Fc} {w : Wr} {n : Int} (h : Joined f w n) : joinC (joinF f w) w n = 6 := by
  have h1 := h.after.zero
  have h2 : waitsT (joinF f w).ws w.a = true := List.any_eq_true.2 ⟨w, List.mem_append_right _ List.mem_cons_self, decide_eq_true rfl⟩
  unfold joinC
  rw [if_neg (by rw [h1]; decide), if_neg (by rw [h.okr]; decide), if_neg (by rw [h.inb]; decide), if_pos h2]
abbrev wrB (w : Wr) : Box := ⟨31, [.v (I w.a), .v (B w.h), .v (I w.d), .v (B w.l)]⟩
abbrev frB (k : Int) (y : FlA) : Box := ⟨35, [.v (I k), .v (I y.c.id), .v (Tx y.c.key), .v (B y.c.back), .v (B y.c.out), .v (I y.c.due), .v (B y.c.doomed), .v (Tx y.c.get.m), .v (Tx y.c.get.h), .v (Tx y.c.get.p), .v (.slice y.hA y.c.get.hs.length y.hc), .v (.slice y.wA y.c.ws.length y.wc)]⟩
abbrev wsB (k : Int) (y : FlA) (A : Option Addr) (m c : Nat) : Box := ⟨40, [.v (I k), .v (I y.c.id), .v (Tx y.c.key), .v (B y.c.back), .v (B y.c.out), .v (I y.c.due), .v (B y.c.doomed), .v (Tx y.c.get.m), .v (Tx y.c.get.h), .v (Tx y.c.get.p), .v (.slice y.hA y.c.get.hs.length y.hc), .v (.slice y.wA y.c.ws.length y.wc), .v (.slice A m c)]⟩
set_option maxHeartbeats 8000000 in
theorem flights_law (A : Option Addr) (c : Nat) (bs : List Int) (M : PH) (hs : Sl M A 1 byC bs) (hby : ∀ (i : Nat) b, bs[i]? = some b → 0 ≤ b ∧ b ≤ 255) :
    ACall env 3 [.slice A bs.length c] M fun r M' => r = B true ∧ M.Le M' := by
  refine xcall_of_vc Tryz.func3 rfl _ Tryz.ntmps3 _ rfl (fun _ _ => Tryz.call3 _ _) rfl (fun w0 ρ0 => ?_)
  conv => whnf
  repeat' (first | (refine ⟨⟨[], rfl⟩, _, PH.Le.refl _, PH.Le.refl _, ?_⟩; conv => whnf) | (refine caseB_true ?_; conv => whnf) | (refine caseB_false ?_; conv => whnf) | ((with_reducible refine caseB_dec (fun h => ?_) (fun h => ?_)) <;> conv => whnf) | ((with_reducible refine caseB_ndec (fun h => ?_) (fun h => ?_)) <;> conv => whnf) | ((with_reducible refine caseB_not (fun h => ?_) (fun h => ?_)) <;> conv => whnf) | (refine Ret.go (lwBig_ret A c bs _) ?_; conv => whnf) | (with_reducible refine @And.intro (guardVC _ _ _ _ _) _ ?_ ?_) <;> conv => whnf | (refine caseB_intro (fun h => ?_) (fun h => ?_) <;> (try simp only [Bool.not_eq_true', Bool.not_eq_false', decide_eq_true_eq, decide_eq_false_iff_not] at h) <;> conv => whnf))
  · exact ⟨_, PH.Le.refl _, rfl, PH.Le.refl _⟩
  have hb : Byt M A bs := ⟨hs, by omega, hby⟩
  refine ACall.step (drawJoin_ret A c bs M hb) fun r M1 hh => ?_
  obtain ⟨x, w, d, rfl, hx, hxc, hco, hn, l1⟩ := hh
  conv => whnf
  refine ACall.step (joinFlight_impl x w d M1 hx hxc (by omega)) fun r M2 hh => ?_
  obtain ⟨j, rfl, hj, l2⟩ := hh
  conv => whnf
  refine ACall.step (drawExpire_ret A c bs M2 (hb.mono (l1.trans l2))) fun r M3 hh => ?_
  obtain ⟨z, t, rfl, hz, hzc, hzo, hzn, l3⟩ := hh
  conv => whnf
  refine ACall.step (expireWaiters_impl z t M3 hz hzc (by omega)) fun r M4 hh => ?_
  obtain ⟨e, A4, m4, c4, rfl, he, l4⟩ := hh
  clear hb hs hby h
  have hx4 := ((hx.mono l2).mono l3).mono l4
  have hz4 := hz.mono l4
  have L4 := ((l1.trans l2).trans l3).trans l4
  conv => whnf
  have js : ACall env 9 [x.val, w.val, I d] M4 fun r M' => ∃ y : FlA, r = frV (joinC x.c w d) y ∧ M4.Le M' := (joinFlight_spec x w d M4 hx4 hxc (by omega)).mono fun r M' ⟨y, h1, _, h3⟩ => ⟨y, h1, h3⟩
  have es : ∀ N, M4.Le N → ACall env 10 [z.val, I t] N fun r M' => ∃ (y : FlA) (A : Option Addr) (m c : Nat), r = wrV (expC z.c t) y A m c ∧ N.Le M' := fun N l => (expireWaiters_spec z t N (hz4.mono l) hzc (by omega)).mono fun r M' ⟨y, A, m, c, h1, _, h3⟩ => ⟨y, A, m, c, h1, h3⟩
  have f1 : ∀ N, M4.Le N → Ret 11 [x.val] N (I (flFault x.c)) := fun N l => flightFault_impl x N (hx4.mono l) (by omega) hxc
  have f2 : ∀ N, M4.Le N → Ret 12 [x.val] N (I (flFault x.c)) := fun N l => flightFault_spec x N (hx4.mono l) (by omega)
  repeat' (first | (refine ⟨⟨[], rfl⟩, _, PH.Le.refl _, PH.Le.refl _, ?_⟩; conv => whnf) | (refine ACall.step (es _ l5) fun r M6 hh => ?_; obtain ⟨y6, A6, m6, c6, rfl, l6⟩ := hh; (first | (refine ⟨⟨[], rfl⟩, _, l6, PH.Le.refl _, ?_⟩; conv => whnf) | conv => whnf)) | (refine ACall.step js fun r M5 hh => ?_; obtain ⟨y5, rfl, l5⟩ := hh; (first | (refine ⟨⟨[], rfl⟩, _, l5, PH.Le.refl _, ?_⟩; conv => whnf) | conv => whnf)) | (refine caseB_true ?_; conv => whnf) | (refine caseB_false ?_; conv => whnf) | ((with_reducible refine caseB_dec (fun h => ?_) (fun h => ?_)) <;> conv => whnf) | ((with_reducible refine caseB_ndec (fun h => ?_) (fun h => ?_)) <;> conv => whnf) | ((with_reducible refine caseB_not (fun h => ?_) (fun h => ?_)) <;> conv => whnf) | (refine Ret.go (f1 _ (l5.trans l6)) ?_; conv => whnf) | (refine Ret.go (f2 _ (l5.trans l6)) ?_; conv => whnf) | (refine draw_rule (.light 0 <| .light 1 <| .light 2 <| .light 3 <| .light 4 <| .alt 5 false (.light 6 <| .light 7 <| .light 8 <| .light 9 <| .light 10 <| .light 11 <| .light 12 <| .alt 13 false (.light 14 <| .light 15 <| .light 16 <| .light 17 <| .light 18 <| .light 20 <| .alt 19 false (.alt 21 false (.light 22 <| .light 23 <| .done) .nil) .nil) .nil) .nil) (by decide +kernel) ?_; conv => whnf) | (refine draw_rule (.light 0 <| .light 1 <| .alt 2 false (.light 3 <| .light 4 <| .light 5 <| .light 6 <| .light 7 <| .light 8 <| .light 9 <| .light 10 <| .light 11 <| .light 12 <| .light 13 <| .light 14 <| .light 15 <| .light 16 <| .light 17 <| .light 18 <| .light 19 <| .light 20 <| .light 21 <| .light 22 <| .light 23 <| .light 24 <| .light 25 <| .light 26 <| .light 27 <| .light 28 <| .light 29 <| .light 30 <| .light 31 <| .light 32 <| .alt 33 false (.light 34 <| .light 35 <| .light 36 <| .light 37 <| .done) .nil) .nil) (by decide +kernel) ?_; conv => whnf) | (with_reducible refine @And.intro (guardVC _ _ _ _ _) _ ?_ ?_) <;> conv => whnf | (refine caseB_intro (fun h => ?_) (fun h => ?_) <;> (try simp only [Bool.not_eq_true', Bool.not_eq_false', decide_eq_true_eq, decide_eq_false_iff_not] at h) <;> conv => whnf))
  all_goals first | (exfalso; exact absurd rfl h; done) | skip
  · have lA := l5.trans l6
    have h0 : expC z.c t = 0 := h
    obtain ⟨hm, hec, hei, hecap, hes⟩ := he h0
    subst hm
    have hf : Fit z.c := by
      refine fit_of ?_
      unfold expC at h0
      split at h0
      · contradiction
      · rename_i h9; simpa using h9
    have hes := hes.mono lA
    have hei := hei.mono lA
    have hlen : e.c.ws = leftL z.c.ws t := by rw [hec]; rfl
    have hgl := gone_left z.c.ws t
    refine loop_rule (fun i : Nat => ⟨slots 154 [(2, .v (B false)), (3, .bp 0 0), (4, .bp 1 0), (5, .v (I d)), (6, .bp 2 0), (7, .bp 3 0), (8, .v (I t)), (9, .bp 4 0), (10, .v (I i))], [flB x, wrB w, frB (joinC x.c w d) j, flB z, wsB (expC z.c t) e A4 (goneL z.c.ws t).length c4]⟩)
      (fun i M' => i ≤ (goneL z.c.ws t).length ∧ M' = M6) (fun i => (goneL z.c.ws t).length - i) 0 ?_ ?_ ?_
    · exact ⟨by simp [slots, leT], ⟨[], rfl⟩, by simp, rfl, rfl⟩
    · exact ⟨Nat.zero_le _, rfl⟩
    rintro i M7 ⟨hi, rfl⟩
    conv => whnf
    refine caseB_dec (fun hb => ?_) (fun hb => ?_)
    · have hb : (i : Int) < (goneL z.c.ws t).length := hb
      have hi' : i < (goneL z.c.ws t).length := by omega
      have hw : IntKind.i64.wrap ((i : Int) + 1) = (i : Int) + 1 := wr_id (by omega) (by omega)
      obtain ⟨hA, _, hc⟩ := hes.get hi'
      have hle := goneL_get hi'
      conv => whnf
      refine ⟨by omega, hb, hA, ?_⟩
      conv => whnf
      refine ⟨_, cells_cut hc 2 rfl, ?_⟩
      conv => whnf
      refine caseB_dec (fun h9 => ?_) (fun h9 => ?_)
      · exfalso
        have h9 : t < ((goneL z.c.ws t)[i]).d := h9
        omega
      · conv => whnf
        exact ⟨i + 1, ⟨by simp [slots, leT, hw], ⟨[], rfl⟩, by simp, rfl, rfl⟩, ⟨hi', rfl⟩, by omega⟩
    conv => whnf
    refine loop_rule (fun i : Nat => ⟨slots 154 [(2, .v (B false)), (3, .bp 0 0), (4, .bp 1 0), (5, .v (I d)), (6, .bp 2 0), (7, .bp 3 0), (8, .v (I t)), (9, .bp 4 0), (11, .v (I i))], [flB x, wrB w, frB (joinC x.c w d) j, flB z, wsB (expC z.c t) e A4 (goneL z.c.ws t).length c4]⟩)
      (fun i M' => i ≤ e.c.ws.length ∧ M' = M7) (fun i => e.c.ws.length - i) 0 ?_ ?_ ?_
    · exact ⟨by simp [slots, leT], ⟨[], rfl⟩, by simp, rfl, rfl⟩
    · exact ⟨Nat.zero_le _, rfl⟩
    rintro i M8 ⟨hi, rfl⟩
    conv => whnf
    refine caseB_dec (fun hb => ?_) (fun hb => ?_)
    · have hb : (i : Int) < e.c.ws.length := hb
      have hi' : i < e.c.ws.length := by omega
      have hn8 : e.c.ws.length ≤ 11 := by rw [hlen]; omega
      have hw : IntKind.i64.wrap ((i : Int) + 1) = (i : Int) + 1 := wr_id (by omega) (by omega)
      obtain ⟨hA, _, hc⟩ := hei.w.get hi'
      have hle : ¬ e.c.ws[i].d ≤ t := by
        have hi2 : i < (leftL z.c.ws t).length := by rw [← hlen]; exact hi'
        have := leftL_get hi2
        simp only [hlen]
        exact this
      conv => whnf
      refine ⟨by omega, hb, hA, ?_⟩
      conv => whnf
      refine ⟨_, cells_cut hc 2 rfl, ?_⟩
      conv => whnf
      refine caseB_dec (fun h9 => ?_) (fun h9 => ?_)
      · exact absurd h9 hle
      · conv => whnf
        exact ⟨i + 1, ⟨by simp [slots, leT, hw], ⟨[], rfl⟩, by simp, rfl, rfl⟩, ⟨hi', rfl⟩, by omega⟩
    conv => whnf
    have heco : e.c.cost ≤ 1048576 := by
      have h1 : e.c.ws.length ≤ z.c.ws.length := by rw [hlen]; omega
      have h2 : e.c.key = z.c.key ∧ e.c.get = z.c.get := by rw [hec]; exact ⟨rfl, rfl⟩
      unfold Fc.cost at hzo ⊢
      rw [h2.1, h2.2]
      omega
    have hfe := flightFault_impl e M8 hei heco hecap
    rw [hec, (left_fit t hf).zero] at hfe
    have hsum : IntKind.i64.wrap (((goneL z.c.ws t).length : Int) + (e.c.ws.length : Int)) = (z.c.ws.length : Int) := by
      rw [hlen]
      have w1 : IntKind.i64.wrap (((goneL z.c.ws t).length : Int) + ((leftL z.c.ws t).length : Int)) = ((goneL z.c.ws t).length : Int) + ((leftL z.c.ws t).length : Int) := wr_id (by omega) (by omega)
      rw [w1]
      omega
    repeat' (first | (refine ⟨⟨[], rfl⟩, _, PH.Le.refl _, PH.Le.refl _, ?_⟩; conv => whnf) | (refine caseB_true ?_; conv => whnf) | (refine caseB_false ?_; conv => whnf) | ((with_reducible refine caseB_dec (fun h => ?_) (fun h => ?_)) <;> conv => whnf) | ((with_reducible refine caseB_ndec (fun h => ?_) (fun h => ?_)) <;> conv => whnf) | ((with_reducible refine caseB_not (fun h => ?_) (fun h => ?_)) <;> conv => whnf) | (refine Ret.go (hfe) ?_; conv => whnf) | (with_reducible refine @And.intro (guardVC _ _ _ _ _) _ ?_ ?_) <;> conv => whnf | (refine caseB_intro (fun h => ?_) (fun h => ?_) <;> (try simp only [Bool.not_eq_true', Bool.not_eq_false', decide_eq_true_eq, decide_eq_false_iff_not] at h) <;> conv => whnf))
    · exact absurd hsum h
    · exact ⟨_, PH.Le.refl _, rfl, L4.trans lA⟩
    have J := joined_of h
    obtain ⟨hjc, hji, hjcap⟩ := hj h
    have hji := ((hji.mono l3).mono l4).mono lA
    have hjl : j.c.ws.length = x.c.ws.length + 1 := by rw [hjc]; show (x.c.ws ++ [w]).length = _; simp
    have hjco : j.c.cost ≤ 1000000 := by
      have : j.c.cost = x.c.cost + 1 := by rw [hjc]; show x.c.key.size + x.c.get.cost + (x.c.ws ++ [w]).length = x.c.key.size + x.c.get.cost + x.c.ws.length + 1; simp; omega
      omega
    have fj := flightFault_impl j M8 hji (by omega) hjcap
    rw [hjc, J.after.zero] at fj
    have jj := joinFlight_impl j w d M8 hji hjcap hjco
    rw [hjc, J.again] at jj
    have w1 : IntKind.i64.wrap ((x.c.ws.length : Int) + 1) = (x.c.ws.length : Int) + 1 := wr_id (by omega) (by omega)
    have w0 : IntKind.i64.wrap ((j.c.ws.length : Int) - 1) = (j.c.ws.length : Int) - 1 := wr_id (by omega) (by omega)
    have w2 : IntKind.i64.wrap ((j.c.ws.length : Int) - 1) = (x.c.ws.length : Int) := by rw [w0]; omega
    have hi9 : x.c.ws.length < j.c.ws.length := by omega
    obtain ⟨hA9, _, hc9⟩ := hji.w.get hi9
    have e9 : j.c.ws[x.c.ws.length] = w := by simp [hjc, joinF]
    rw [e9] at hc9
    have hroom := J.room
    have hl9 : PH.cells M8 j.wA ((IntKind.i64.wrap ((j.c.ws.length : Int) - 1)).toNat * 4) w.cs := by rw [w2]; exact hc9
    repeat' (first | (refine ⟨⟨[], rfl⟩, _, PH.Le.refl _, PH.Le.refl _, ?_⟩; conv => whnf) | (refine ACall.step jj fun r M9 hh => ?_; obtain ⟨y9, rfl, _, l9⟩ := hh; (first | (refine ⟨⟨[], rfl⟩, _, l9, PH.Le.refl _, ?_⟩; conv => whnf) | conv => whnf)) | (refine ⟨_, hl9, rfl, ?_⟩; conv => whnf) | (refine ⟨by rw [w2]; omega, by rw [w2]; omega, hA9, ?_⟩; conv => whnf) | (refine caseB_true ?_; conv => whnf) | (refine caseB_false ?_; conv => whnf) | ((with_reducible refine caseB_dec (fun h => ?_) (fun h => ?_)) <;> conv => whnf) | ((with_reducible refine caseB_ndec (fun h => ?_) (fun h => ?_)) <;> conv => whnf) | ((with_reducible refine caseB_not (fun h => ?_) (fun h => ?_)) <;> conv => whnf) | (refine Ret.go (fj) ?_; conv => whnf) | (refine draw_rule (.light 0 <| .light 1 <| .light 2 <| .light 3 <| .light 4 <| .alt 5 false (.light 6 <| .light 7 <| .light 8 <| .light 9 <| .light 10 <| .light 11 <| .light 12 <| .alt 13 false (.light 14 <| .light 15 <| .light 16 <| .light 17 <| .light 18 <| .light 20 <| .alt 19 false (.alt 21 false (.light 22 <| .light 23 <| .done) .nil) .nil) .nil) .nil) (by decide +kernel) ?_; conv => whnf) | (refine draw_rule (.light 0 <| .light 1 <| .alt 2 false (.light 3 <| .light 4 <| .light 5 <| .light 6 <| .light 7 <| .light 8 <| .light 9 <| .light 10 <| .light 11 <| .light 12 <| .light 13 <| .light 14 <| .light 15 <| .light 16 <| .light 17 <| .light 18 <| .light 19 <| .light 20 <| .light 21 <| .light 22 <| .light 23 <| .light 24 <| .light 25 <| .light 26 <| .light 27 <| .light 28 <| .light 29 <| .light 30 <| .light 31 <| .light 32 <| .alt 33 false (.light 34 <| .light 35 <| .light 36 <| .light 37 <| .done) .nil) .nil) (by decide +kernel) ?_; conv => whnf) | (with_reducible refine @And.intro (guardVC _ _ _ _ _) _ ?_ ?_) <;> conv => whnf | (refine caseB_intro (fun h => ?_) (fun h => ?_) <;> (try simp only [Bool.not_eq_true', Bool.not_eq_false', decide_eq_true_eq, decide_eq_false_iff_not] at h) <;> conv => whnf))
    all_goals first | (exfalso; exact absurd rfl h; done) | exact ⟨_, PH.Le.refl _, rfl, (L4.trans lA).trans l9⟩ | (exfalso; apply h; show ((j.c.ws.length : Nat) : Int) = IntKind.i64.wrap ((x.c.ws.length : Int) + 1); rw [w1]; omega) | (exfalso; apply h; show ((j.c.ws.length : Nat) : Int) ≤ d; omega) | (exfalso; have hq := (wr_eq w w).2 rfl; revert h; simp; done)

  · exact ⟨_, PH.Le.refl _, rfl, (L4.trans l5).trans l6⟩
  · have lA := l5.trans l6
    have J := joined_of h
    obtain ⟨hjc, hji, hjcap⟩ := hj h
    have hji := ((hji.mono l3).mono l4).mono lA
    have hjl : j.c.ws.length = x.c.ws.length + 1 := by rw [hjc]; show (x.c.ws ++ [w]).length = _; simp
    have hjco : j.c.cost ≤ 1000000 := by
      have : j.c.cost = x.c.cost + 1 := by rw [hjc]; show x.c.key.size + x.c.get.cost + (x.c.ws ++ [w]).length = x.c.key.size + x.c.get.cost + x.c.ws.length + 1; simp; omega
      omega
    have fj := flightFault_impl j M6 hji (by omega) hjcap
    rw [hjc, J.after.zero] at fj
    have jj := joinFlight_impl j w d M6 hji hjcap hjco
    rw [hjc, J.again] at jj
    have w1 : IntKind.i64.wrap ((x.c.ws.length : Int) + 1) = (x.c.ws.length : Int) + 1 := wr_id (by omega) (by omega)
    have w0 : IntKind.i64.wrap ((j.c.ws.length : Int) - 1) = (j.c.ws.length : Int) - 1 := wr_id (by omega) (by omega)
    have w2 : IntKind.i64.wrap ((j.c.ws.length : Int) - 1) = (x.c.ws.length : Int) := by rw [w0]; omega
    have hi9 : x.c.ws.length < j.c.ws.length := by omega
    obtain ⟨hA9, _, hc9⟩ := hji.w.get hi9
    have e9 : j.c.ws[x.c.ws.length] = w := by simp [hjc, joinF]
    rw [e9] at hc9
    have hroom := J.room
    have hl9 : PH.cells M6 j.wA ((IntKind.i64.wrap ((j.c.ws.length : Int) - 1)).toNat * 4) w.cs := by rw [w2]; exact hc9
    repeat' (first | (refine ⟨⟨[], rfl⟩, _, PH.Le.refl _, PH.Le.refl _, ?_⟩; conv => whnf) | (refine ACall.step jj fun r M9 hh => ?_; obtain ⟨y9, rfl, _, l9⟩ := hh; (first | (refine ⟨⟨[], rfl⟩, _, l9, PH.Le.refl _, ?_⟩; conv => whnf) | conv => whnf)) | (refine ⟨_, hl9, rfl, ?_⟩; conv => whnf) | (refine ⟨by rw [w2]; omega, by rw [w2]; omega, hA9, ?_⟩; conv => whnf) | (refine caseB_true ?_; conv => whnf) | (refine caseB_false ?_; conv => whnf) | ((with_reducible refine caseB_dec (fun h => ?_) (fun h => ?_)) <;> conv => whnf) | ((with_reducible refine caseB_ndec (fun h => ?_) (fun h => ?_)) <;> conv => whnf) | ((with_reducible refine caseB_not (fun h => ?_) (fun h => ?_)) <;> conv => whnf) | (refine Ret.go (fj) ?_; conv => whnf) | (refine draw_rule (.light 0 <| .light 1 <| .light 2 <| .light 3 <| .light 4 <| .alt 5 false (.light 6 <| .light 7 <| .light 8 <| .light 9 <| .light 10 <| .light 11 <| .light 12 <| .alt 13 false (.light 14 <| .light 15 <| .light 16 <| .light 17 <| .light 18 <| .light 20 <| .alt 19 false (.alt 21 false (.light 22 <| .light 23 <| .done) .nil) .nil) .nil) .nil) (by decide +kernel) ?_; conv => whnf) | (refine draw_rule (.light 0 <| .light 1 <| .alt 2 false (.light 3 <| .light 4 <| .light 5 <| .light 6 <| .light 7 <| .light 8 <| .light 9 <| .light 10 <| .light 11 <| .light 12 <| .light 13 <| .light 14 <| .light 15 <| .light 16 <| .light 17 <| .light 18 <| .light 19 <| .light 20 <| .light 21 <| .light 22 <| .light 23 <| .light 24 <| .light 25 <| .light 26 <| .light 27 <| .light 28 <| .light 29 <| .light 30 <| .light 31 <| .light 32 <| .alt 33 false (.light 34 <| .light 35 <| .light 36 <| .light 37 <| .done) .nil) .nil) (by decide +kernel) ?_; conv => whnf) | (with_reducible refine @And.intro (guardVC _ _ _ _ _) _ ?_ ?_) <;> conv => whnf | (refine caseB_intro (fun h => ?_) (fun h => ?_) <;> (try simp only [Bool.not_eq_true', Bool.not_eq_false', decide_eq_true_eq, decide_eq_false_iff_not] at h) <;> conv => whnf))
    all_goals first | (exfalso; exact absurd rfl h; done) | exact ⟨_, PH.Le.refl _, rfl, (L4.trans lA).trans l9⟩ | (exfalso; apply h; show ((j.c.ws.length : Nat) : Int) = IntKind.i64.wrap ((x.c.ws.length : Int) + 1); rw [w1]; omega) | (exfalso; apply h; show ((j.c.ws.length : Nat) : Int) ≤ d; omega) | (exfalso; have hq := (wr_eq w w).2 rfl; revert h; simp; done)

end Go.Proofs.YteokagamfdcjgaaGreatDoor
