/-
  CONTRACTS: what is wrong with a flight, with flights.
-/
import Derived.Test.YteokagamfdcjgaaGreatDoorTf
namespace Go.Proofs.YteokagamfdcjgaaGreatDoor
set_option maxRecDepth 100000
set_option linter.unusedSimpArgs false
set_option linter.unusedVariables false
open Go.Xe
theorem waitsF_retN (f : FlA) (n : Nat) (x : Int) (M : PH) (hs : Sl M f.wA 4 Wr.cs f.c.ws) (hn : f.c.ws.length ≤ 1048576) (e : n = f.c.ws.length) :
    Ret 20 [.agg #[I f.c.id, Tx f.c.key, B f.c.back, B f.c.out, I f.c.due, B f.c.doomed, Tx f.c.get.m, Tx f.c.get.h, Tx f.c.get.p, .slice f.hA f.c.get.hs.length f.hc, .slice f.wA n f.wc], I x] M (B (waitsT f.c.ws x)) := by
  subst e
  exact waitsF_ret f x M hs hn
def flOf (ws : List Wr) (A : Option Addr) (c : Nat) : FlA := ⟨⟨0, ByteArray.empty, false, false, 0, false, ⟨ByteArray.empty, ByteArray.empty, ByteArray.empty, []⟩, ws⟩, none, 0, A, c⟩
theorem waitsT_yes {ws : List Wr} {i : Nat} (hi : i < ws.length) (h : waitsT (ws.take i) ws[i].a = true) : ¬ AptG Wr.a ws := by
  unfold waitsT at h
  rw [List.any_eq_true] at h
  obtain ⟨w, hw, e⟩ := h
  obtain ⟨j, hj, rfl⟩ := List.getElem_of_mem hw
  simp at hj e
  exact aptG_no hi (by omega) e.symm
theorem waitsT_no {ws : List Wr} {i : Nat} (hi : i < ws.length) (h : waitsT (ws.take i) ws[i].a = false) : ∀ b, ∀ hb : b < i, ws[i].a ≠ ws[b].a := by
  unfold waitsT at h
  rw [List.any_eq_false] at h
  intro b hb e
  have := h ws[b] (by rw [List.mem_take_iff_getElem]; exact ⟨b, by omega, rfl⟩)
  simp [e] at this
theorem areTwice_ret (A : Option Addr) (c : Nat) (ws : List Wr) (M : PH) (hs : Sl M A 4 Wr.cs ws) (hn : ws.length ≤ 1048576) (hcap : ws.length ≤ c) : Ret 33 [.slice A ws.length c] M (B (!asB (AptG Wr.a ws))) := by
  refine xcall_of_vc Tryz.func33 rfl _ Tryz.ntmps33 _ rfl (fun _ _ => Tryz.call33 _ _) rfl (fun w0 ρ0 => ?_)
  conv => whnf
  refine loop_rule (fun i : Nat => ⟨slots 20 [(0, .v (.slice A ws.length c)), (5, .v (.slice A ws.length c)), (6, .v (I ws.length)), (7, .v (I i))], []⟩) (fun i M1 => i ≤ ws.length ∧ (∀ a, a < i → ∀ ha : a < ws.length, ∀ b, ∀ hb : b < a, ws[a].a ≠ ws[b].a) ∧ M1 = M) (fun i => ws.length - i) 0 ?_ ?_ ?_
  · exact ⟨by simp [slots, leT], ⟨[], rfl⟩, Nat.zero_le _, rfl, rfl⟩
  · exact ⟨Nat.zero_le _, fun j hj => absurd hj (Nat.not_lt_zero _), rfl⟩
  rintro i M1 ⟨hi, hq, rfl⟩
  conv => whnf
  refine caseB_dec (fun h0 => ?_) (fun h0 => ?_)
  · have h0 : (i : Int) < ws.length := h0
    have hi' : i < ws.length := by omega
    have hw : IntKind.i64.wrap ((i : Int) + 1) = (i : Int) + 1 := wr_id (by omega) (by omega)
    obtain ⟨hA, _, hc⟩ := hs.get hi'
    have hcut : Sl M1 (subA A 0 4 c) 4 Wr.cs (ws.take i) := by
      have := hs.cut (l := 0) (u := i) (m := c) (Nat.zero_le _) (by omega)
      simpa using this
    have hlen : i = (ws.take i).length := by simp; omega
    have hl2 : (ws.take i).length ≤ 1048576 := by simp; omega
    conv => whnf
    repeat' (first | (refine ⟨⟨[], rfl⟩, _, PH.Le.refl _, PH.Le.refl _, ?_⟩; conv => whnf) | (refine ⟨⟨by omega, by omega, by omega⟩, ?_⟩; conv => whnf) | (refine ⟨ws[i].cs, hc, rfl, ?_⟩; conv => whnf) | (refine ⟨by omega, by omega, hA, ?_⟩; conv => whnf) | (refine caseB_true ?_; conv => whnf) | (refine caseB_false ?_; conv => whnf) | ((with_reducible refine caseB_dec (fun h => ?_) (fun h => ?_)) <;> conv => whnf) | ((with_reducible refine caseB_ndec (fun h => ?_) (fun h => ?_)) <;> conv => whnf) | ((with_reducible refine caseB_not (fun h => ?_) (fun h => ?_)) <;> conv => whnf) | (refine draw_rule (.light 0 <| .light 1 <| .light 2 <| .light 3 <| .light 4 <| .light 5 <| .alt 6 false (.done) .nil) (by decide +kernel) ?_; conv => whnf) | (refine Ret.go (waitsF_retN (flOf (ws.take i) (subA A 0 4 c) c) i ws[i].a _ hcut hl2 hlen) ?_; conv => whnf) | (with_reducible refine @And.intro (guardVC _ _ _ _ _) _ ?_ ?_) <;> conv => whnf | (refine caseB_intro (fun h => ?_) (fun h => ?_) <;> (try simp only [Bool.not_eq_true', Bool.not_eq_false', decide_eq_true_eq, decide_eq_false_iff_not] at h) <;> conv => whnf))
    all_goals first
      | (refine ⟨_, PH.Le.refl _, ?_, rfl⟩; rw [asB_false (waitsT_yes hi' (by assumption))]; rfl; done)
      | exact ⟨i + 1, ⟨by simp [slots, leT, hw], ⟨_, rfl⟩, Nat.zero_le _, rfl, rfl⟩, ⟨by omega, fun a ha ha' b hb => by
          rcases Nat.lt_succ_iff_lt_or_eq.1 ha with h1 | h1
          · exact hq a h1 ha' b hb
          · subst h1; exact waitsT_no hi' (by assumption) b hb, rfl⟩, by omega⟩
  · have hi' : i = ws.length := by have : ¬ (i : Int) < ws.length := h0; omega
    subst hi'
    conv => whnf
    exact ⟨_, PH.Le.refl _, by rw [asB_true (aptG_yes fun a ha => hq a (by omega) ha)]; rfl, rfl⟩
theorem isT0 : isT 0 = true := by decide
def okR (w : Wr) : Bool := isT w.a && isT w.d
theorem isReq_ret (w : Wr) (M : PH) : Ret 18 [w.val] M (B (okR w)) := by
  refine xcall_of_vc Tryz.func18 rfl _ Tryz.ntmps18 _ rfl (fun _ _ => Tryz.call18 _ _) rfl (fun w0 ρ0 => ?_)
  conv => whnf
  repeat' (first | (refine ⟨⟨[], rfl⟩, _, PH.Le.refl _, PH.Le.refl _, ?_⟩; conv => whnf) | (refine caseB_true ?_; conv => whnf) | (refine caseB_false ?_; conv => whnf) | ((with_reducible refine caseB_dec (fun h => ?_) (fun h => ?_)) <;> conv => whnf) | ((with_reducible refine caseB_ndec (fun h => ?_) (fun h => ?_)) <;> conv => whnf) | ((with_reducible refine caseB_not (fun h => ?_) (fun h => ?_)) <;> conv => whnf) | (refine Ret.go (isTime_ret _ _) ?_; conv => whnf) | (with_reducible refine @And.intro (guardVC _ _ _ _ _) _ ?_ ?_) <;> conv => whnf | (refine caseB_intro (fun h => ?_) (fun h => ?_) <;> (try simp only [Bool.not_eq_true', Bool.not_eq_false', decide_eq_true_eq, decide_eq_false_iff_not] at h) <;> conv => whnf))
  all_goals first | (refine ⟨M, PH.Le.refl _, ?_, rfl⟩; simp [resV, okR, *]; done) | (refine ⟨M, PH.Le.refl _, ?_, rfl, rfl⟩; simp [resV, okR, *]; done) | (exfalso; simp_all; done)
theorem flightFault1_ret (w : Wr) (M : PH) : Ret 32 [w.val] M (B (!okR w)) := by
  refine xcall_of_vc Tryz.func32 rfl _ Tryz.ntmps32 _ rfl (fun _ _ => Tryz.call32 _ _) rfl (fun w0 ρ0 => ?_)
  conv => whnf
  repeat' (first | (refine ⟨⟨[], rfl⟩, _, PH.Le.refl _, PH.Le.refl _, ?_⟩; conv => whnf) | (refine caseB_true ?_; conv => whnf) | (refine caseB_false ?_; conv => whnf) | ((with_reducible refine caseB_dec (fun h => ?_) (fun h => ?_)) <;> conv => whnf) | ((with_reducible refine caseB_ndec (fun h => ?_) (fun h => ?_)) <;> conv => whnf) | ((with_reducible refine caseB_not (fun h => ?_) (fun h => ?_)) <;> conv => whnf) | (refine Ret.go (isReq_ret _ _) ?_; conv => whnf) | (with_reducible refine @And.intro (guardVC _ _ _ _ _) _ ?_ ?_) <;> conv => whnf | (refine caseB_intro (fun h => ?_) (fun h => ?_) <;> (try simp only [Bool.not_eq_true', Bool.not_eq_false', decide_eq_true_eq, decide_eq_false_iff_not] at h) <;> conv => whnf))
  all_goals first | (refine ⟨M, PH.Le.refl _, ?_, rfl⟩; simp [resV, *]; done) | (refine ⟨M, PH.Le.refl _, ?_, rfl, rfl⟩; simp [resV, *]; done) | (exfalso; simp_all; done)
def keyT (b : ByteArray) : Bool := decide (1 ≤ (b.size : Int)) && decide ((b.size : Int) ≤ 500)
theorem isKey_ret (b : ByteArray) (M : PH) : Ret 29 [Tx b] M (B (keyT b)) := by
  refine xcall_of_vc Tryz.func29 rfl _ Tryz.ntmps29 _ rfl (fun _ _ => Tryz.call29 _ _) rfl (fun w0 ρ0 => ?_)
  conv => whnf
  repeat' (first | (refine ⟨⟨[], rfl⟩, _, PH.Le.refl _, PH.Le.refl _, ?_⟩; conv => whnf) | (refine caseB_true ?_; conv => whnf) | (refine caseB_false ?_; conv => whnf) | ((with_reducible refine caseB_dec (fun h => ?_) (fun h => ?_)) <;> conv => whnf) | ((with_reducible refine caseB_ndec (fun h => ?_) (fun h => ?_)) <;> conv => whnf) | ((with_reducible refine caseB_not (fun h => ?_) (fun h => ?_)) <;> conv => whnf) | (with_reducible refine @And.intro (guardVC _ _ _ _ _) _ ?_ ?_) <;> conv => whnf | (refine caseB_intro (fun h => ?_) (fun h => ?_) <;> (try simp only [Bool.not_eq_true', Bool.not_eq_false', decide_eq_true_eq, decide_eq_false_iff_not] at h) <;> conv => whnf))
  all_goals first | (refine ⟨M, PH.Le.refl _, ?_, rfl⟩; simp [resV, keyT, *]; done) | (refine ⟨M, PH.Le.refl _, ?_, rfl, rfl⟩; simp [resV, keyT, *]; done) | (exfalso; simp_all; done)
noncomputable def flFault (f : Fc) : Int :=
  if (isT f.id && isT f.due) = false then 3 else if keyT f.key = false then 2 else if rqFault f.get ≠ 0 then rqFault f.get else if f.out = false ∧ f.due ≠ 0 then 8 else if 10 < (f.ws.length : Int) then 2 else
  if f.ws.any (fun w => !okR w) then 3 else if asB (AptG Wr.a f.ws) then 0 else 6
theorem flightFault_impl (x : FlA) (M : PH) (hi : x.inn M) (hco : x.c.cost ≤ 1048576) (hcap : x.c.ws.length ≤ x.wc) : Ret 11 [x.val] M (I (flFault x.c)) := by
  obtain ⟨hq, hn1, hn2⟩ := Fc.hn hco
  refine xcall_of_vc Tryz.func11 rfl _ Tryz.ntmps11 _ rfl (fun _ _ => Tryz.call11 _ _) rfl (fun w0 ρ0 => ?_)
  conv => whnf
  repeat' (first | (refine ⟨⟨[], rfl⟩, _, PH.Le.refl _, PH.Le.refl _, ?_⟩; conv => whnf) | (refine XCall.go0 (containsFuncWr0 32 (fun w => !okR w) x.wA x.wc x.c.ws M hi.w (by omega) fun w _ => (flightFault1_ret w M).x) rfl ?_; conv => whnf) | (refine caseB_true ?_; conv => whnf) | (refine caseB_false ?_; conv => whnf) | ((with_reducible refine caseB_dec (fun h => ?_) (fun h => ?_)) <;> conv => whnf) | ((with_reducible refine caseB_ndec (fun h => ?_) (fun h => ?_)) <;> conv => whnf) | ((with_reducible refine caseB_not (fun h => ?_) (fun h => ?_)) <;> conv => whnf) | (refine Ret.go (isTime_ret _ _) ?_; conv => whnf) | (refine Ret.go (isKey_ret _ _) ?_; conv => whnf) | (refine Ret.go (requestFault_impl x.c.get x.hA x.hc _ hi.h hq) ?_; conv => whnf) | (refine Ret.go (areTwice_ret x.wA x.wc x.c.ws _ hi.w hn2 hcap) ?_; conv => whnf) | (with_reducible refine @And.intro (guardVC _ _ _ _ _) _ ?_ ?_) <;> conv => whnf | (refine caseB_intro (fun h => ?_) (fun h => ?_) <;> (try simp only [Bool.not_eq_true', Bool.not_eq_false', decide_eq_true_eq, decide_eq_false_iff_not] at h) <;> conv => whnf))
  all_goals refine ⟨M, PH.Le.refl _, ?_, rfl⟩
  all_goals first | (simp [resV, flFault, isT0, *]; done)
theorem any_req {ws : List Wr} {i : Nat} (hi : i < ws.length) (h : okR ws[i] = false) : (ws.any fun w => !okR w) = true := anyG_yes hi (by simp [h])
theorem flightFault_spec (x : FlA) (M : PH) (hi : x.inn M) (hco : x.c.cost ≤ 1048576) : Ret 12 [x.val] M (I (flFault x.c)) := by
  obtain ⟨hq, hn1, hn2⟩ := Fc.hn hco
  have hs := hi.w
  refine xcall_of_vc Tryz.func12 rfl _ Tryz.ntmps12 _ rfl (fun _ _ => Tryz.call12 _ _) rfl (fun w0 ρ0 => ?_)
  conv => whnf
  repeat' (first | (refine ⟨⟨[], rfl⟩, _, PH.Le.refl _, PH.Le.refl _, ?_⟩; conv => whnf) | (refine caseB_true ?_; conv => whnf) | (refine caseB_false ?_; conv => whnf) | ((with_reducible refine caseB_dec (fun h => ?_) (fun h => ?_)) <;> conv => whnf) | ((with_reducible refine caseB_ndec (fun h => ?_) (fun h => ?_)) <;> conv => whnf) | ((with_reducible refine caseB_not (fun h => ?_) (fun h => ?_)) <;> conv => whnf) | (refine Ret.go (l1Time_ret _ _) ?_; conv => whnf) | (refine Ret.go (requestFault_spec x.c.get x.hA x.hc _ hi.h hq) ?_; conv => whnf) | (with_reducible refine @And.intro (guardVC _ _ _ _ _) _ ?_ ?_) <;> conv => whnf | (refine caseB_intro (fun h => ?_) (fun h => ?_) <;> (try simp only [Bool.not_eq_true', Bool.not_eq_false', decide_eq_true_eq, decide_eq_false_iff_not] at h) <;> conv => whnf))
  all_goals first | (refine ⟨M, PH.Le.refl _, ?_, rfl⟩; simp [resV, flFault, keyT, isT0, *]; done) | (refine ⟨M, PH.Le.refl _, ?_, rfl⟩; have hk : keyT x.c.key = false := (by simp [keyT]; omega); simp [resV, flFault, isT0, *]; done) | skip
  all_goals have hk : keyT x.c.key = true := (by simp [keyT]; omega)
  all_goals have e0 : flFault x.c = if x.c.ws.any (fun w => !okR w) then 3 else if asB (AptG Wr.a x.c.ws) then 0 else 6 := (by simp [flFault, isT0, *])
  all_goals
    refine loop_rule (fun i : Nat => ⟨slots 71 [(1, .bp 0 0), (4, .v (I i))], [⟨29, x.cs.map AV.v⟩]⟩) (fun i M' => i ≤ x.c.ws.length ∧ (∀ j, j < i → ∀ h : j < x.c.ws.length, okR x.c.ws[j] = true) ∧ M' = M) (fun i => x.c.ws.length - i) 0 ?_ ?_ ?_
    · exact ⟨by simp [slots, leT], ⟨[], rfl⟩, Nat.zero_le _, rfl, rfl⟩
    · exact ⟨Nat.zero_le _, fun j hj => absurd hj (Nat.not_lt_zero _), rfl⟩
    rintro i M' ⟨hi0, hp, rfl⟩
    conv => whnf
    refine caseB_dec (fun h0 => ?_) (fun h0 => ?_)
    · have h0 : (i : Int) < x.c.ws.length := h0
      have hi' : i < x.c.ws.length := by omega
      have hw : IntKind.i64.wrap ((i : Int) + 1) = (i : Int) + 1 := wr_id (by omega) (by omega)
      obtain ⟨hA, _, hc⟩ := hs.get hi'
      conv => whnf
      repeat' (first | (refine ⟨⟨[], rfl⟩, _, PH.Le.refl _, PH.Le.refl _, ?_⟩; conv => whnf) | (refine ⟨_, cells_cut hc 2 rfl, ?_⟩; conv => whnf) | (refine ⟨_, cells_cut hc 0 rfl, ?_⟩; conv => whnf) | (refine ⟨by omega, by omega, hA, ?_⟩; conv => whnf) | (refine caseB_true ?_; conv => whnf) | (refine caseB_false ?_; conv => whnf) | ((with_reducible refine caseB_dec (fun h => ?_) (fun h => ?_)) <;> conv => whnf) | ((with_reducible refine caseB_ndec (fun h => ?_) (fun h => ?_)) <;> conv => whnf) | ((with_reducible refine caseB_not (fun h => ?_) (fun h => ?_)) <;> conv => whnf) | (refine Ret.go (l1Time_ret _ _) ?_; conv => whnf) | (with_reducible refine @And.intro (guardVC _ _ _ _ _) _ ?_ ?_) <;> conv => whnf | (refine caseB_intro (fun h => ?_) (fun h => ?_) <;> (try simp only [Bool.not_eq_true', Bool.not_eq_false', decide_eq_true_eq, decide_eq_false_iff_not] at h) <;> conv => whnf))
      all_goals first
        | (refine ⟨_, PH.Le.refl _, ?_, rfl⟩; rw [e0, any_req hi' (by simp [okR, *])]; rfl; done)
        | exact ⟨i + 1, ⟨by simp [slots, leT, hw], ⟨_, rfl⟩, Nat.zero_le _, rfl, rfl⟩, ⟨by omega, fun j hj h => (Nat.lt_succ_iff_lt_or_eq.1 hj).elim (fun h1 => hp j h1 h) (fun e => by subst e; simp [okR, *]), rfl⟩, by omega⟩
    · have hi' : i = x.c.ws.length := by have : ¬ (i : Int) < x.c.ws.length := h0; omega
      subst hi'
      have e1 : (x.c.ws.any fun w => !okR w) = false := anyG_no fun j hj => by simp [hp j hj hj]
      conv => whnf
      repeat' (first | (refine ⟨⟨[], rfl⟩, _, PH.Le.refl _, PH.Le.refl _, ?_⟩; conv => whnf) | (refine caseB_true ?_; conv => whnf) | (refine caseB_false ?_; conv => whnf) | ((with_reducible refine caseB_dec (fun h => ?_) (fun h => ?_)) <;> conv => whnf) | ((with_reducible refine caseB_ndec (fun h => ?_) (fun h => ?_)) <;> conv => whnf) | ((with_reducible refine caseB_not (fun h => ?_) (fun h => ?_)) <;> conv => whnf) | (refine Ret.go (l12Twice_ret x.wA x.wc x.c.ws _ hs hn2) ?_; conv => whnf) | (with_reducible refine @And.intro (guardVC _ _ _ _ _) _ ?_ ?_) <;> conv => whnf | (refine caseB_intro (fun h => ?_) (fun h => ?_) <;> (try simp only [Bool.not_eq_true', Bool.not_eq_false', decide_eq_true_eq, decide_eq_false_iff_not] at h) <;> conv => whnf))
      all_goals exact ⟨_, PH.Le.refl _, by rw [e0, e1]; simp [resV, *], rfl⟩
end Go.Proofs.YteokagamfdcjgaaGreatDoor
