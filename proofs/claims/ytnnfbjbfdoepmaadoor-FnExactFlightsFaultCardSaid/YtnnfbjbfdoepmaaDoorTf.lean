/-
  CONTRACTS: what is wrong with a request; who waits twice.
-/
import Derived.Test.YtnnfbjbfdoepmaaDoorTe
import Derived.Test.YtnnfbjbfdoepmaaDoorNb
namespace Go.Proofs.YtnnfbjbfdoepmaaDoor
set_option maxRecDepth 100000
set_option linter.unusedSimpArgs false
set_option linter.unusedVariables false
open Go.Xe
def hostU : ByteArray := ⟨#[72, 111, 115, 116]⟩
def hostL : ByteArray := ⟨#[104, 111, 115, 116]⟩
def getS : ByteArray := ⟨#[71, 69, 84]⟩
def headS : ByteArray := ⟨#[72, 69, 65, 68]⟩
theorem host_eq (ws : List Hd) : vals ws hostU = vals ws hostL := by
  have : lowerB hostU = lowerB hostL := by decide +kernel
  unfold vals alikeT
  rw [this]
theorem Rq.facts {r : Rq} (h : r.cost ≤ 1048576) : r.m.size ≤ maxLen ∧ r.h.size ≤ maxLen ∧ r.p.size ≤ maxLen ∧ r.hs.length ≤ 1048576 ∧ costL Hd.cost r.hs ≤ 2097152 ∧ ∀ x ∈ r.hs, x.okl := by
  have e63 : maxLen = 9223372036854775807 := rfl
  have := costL_len Hd.cost r.hs
  unfold Rq.cost at h
  refine ⟨by omega, by omega, by omega, by omega, by omega, fun x hx => ?_⟩
  have h1 : Hd.cost x ≤ costL Hd.cost r.hs := costL_le hx
  have e : Hd.cost x = x.n.size + x.v.size := rfl
  exact ⟨by omega, by omega⟩
def rqFault (r : Rq) : Int := if (seq r.m getS || seq r.m headS) = false then 5 else if hostT r.h = false then 5 else if pathT r.p = false then 5 else if hdsFault r.hs ≠ 0 then hdsFault r.hs else if (vals r.hs hostL).isEmpty = false then 6 else if 20 ≤ (r.hs.length : Int) then 2 else 0
theorem isMethod_ret (b : ByteArray) (M : PH) : Ret 41 [Tx b] M (B (seq b getS || seq b headS)) := by
  refine xcall_of_vc Tryd.func41 rfl _ Tryd.ntmps41 _ rfl (fun _ _ => Tryd.call41 _ _) rfl (fun w0 ρ0 => ?_)
  conv => whnf
  repeat' (first | (refine ⟨⟨[], rfl⟩, _, PH.Le.refl _, PH.Le.refl _, ?_⟩; conv => whnf) | (refine caseB_true ?_; conv => whnf) | (refine caseB_false ?_; conv => whnf) | ((with_reducible refine caseB_dec (fun h => ?_) (fun h => ?_)) <;> conv => whnf) | ((with_reducible refine caseB_ndec (fun h => ?_) (fun h => ?_)) <;> conv => whnf) | ((with_reducible refine caseB_not (fun h => ?_) (fun h => ?_)) <;> conv => whnf) | (with_reducible refine @And.intro (guardVC _ _ _ _ _) _ ?_ ?_) <;> conv => whnf | (refine caseB_intro (fun h => ?_) (fun h => ?_) <;> (try simp only [Bool.not_eq_true', Bool.not_eq_false', decide_eq_true_eq, decide_eq_false_iff_not] at h) <;> conv => whnf))
  all_goals refine ⟨_, PH.Le.refl _, ?_, rfl⟩
  all_goals simp [resV, getS, headS, *]
theorem hds_le {ws : List Hd} (h : hdsFault ws = 0) : (ws.length : Int) ≤ 20 := by
  unfold hdsFault at h
  split at h
  · cases h
  · omega
theorem requestFault_impl (r : Rq) (A : Option Addr) (c : Nat) (M : PH) (hs : Sl M A 2 Hd.cs r.hs) (hco : r.cost ≤ 1048576) : Ret 24 [rqV r A c] M (I (rqFault r)) := by
  obtain ⟨o1, o2, o3, o4, o5, o6⟩ := Rq.facts hco
  refine xcall_of_vc Tryd.func24 rfl _ Tryd.ntmps24 _ rfl (fun _ _ => Tryd.call24 _ _) rfl (fun w0 ρ0 => ?_)
  conv => whnf
  repeat' (first | (refine ⟨⟨[], rfl⟩, _, PH.Le.refl _, PH.Le.refl _, ?_⟩; conv => whnf) | (refine ACall.step (valuesOf_ret A c r.hs hostU _ hs o4 o6 (by decide)) fun v M1 hh => ?_; obtain ⟨o, A', c', rfl, _, hN⟩ := hh; rw [host_eq] at *; conv => whnf) | (refine caseB_true ?_; conv => whnf) | (refine caseB_false ?_; conv => whnf) | ((with_reducible refine caseB_dec (fun h => ?_) (fun h => ?_)) <;> conv => whnf) | ((with_reducible refine caseB_ndec (fun h => ?_) (fun h => ?_)) <;> conv => whnf) | ((with_reducible refine caseB_not (fun h => ?_) (fun h => ?_)) <;> conv => whnf) | (refine Ret.go (isMethod_ret _ _) ?_; conv => whnf) | (refine Ret.go (isHost_ret _ _ o2) ?_; conv => whnf) | (refine Ret.go (isPath_ret _ _ o3) ?_; conv => whnf) | (refine Ret.go (headersFault_impl A c r.hs _ hs o4 o6) ?_; conv => whnf) | (with_reducible refine @And.intro (guardVC _ _ _ _ _) _ ?_ ?_) <;> conv => whnf | (refine caseB_intro (fun h => ?_) (fun h => ?_) <;> (try simp only [Bool.not_eq_true', Bool.not_eq_false', decide_eq_true_eq, decide_eq_false_iff_not] at h) <;> conv => whnf))
  all_goals first | (refine ⟨M, (by first | exact PH.Le.refl _ | exact hN.le), ?_, rfl⟩; simp [resV, rqFault, *]; done) | skip
  all_goals have he : (vals r.hs hostL).isEmpty = decide ((vals r.hs hostL).length = 0) := (by cases vals r.hs hostL <;> simp)
  all_goals have h20 := hds_le ‹hdsFault r.hs = 0›
  all_goals refine ⟨M, hN.le, ?_, rfl⟩
  all_goals unfold rqFault
  all_goals rw [if_neg (by simp [*]), if_neg (by simp [*]), if_neg (by simp [*]), if_neg (by simp [*]), he]
  · rw [if_pos (decide_eq_false (by omega))]; rfl
  · rw [if_neg (by rw [decide_eq_true (by omega)]; simp), if_pos (by omega)]; rfl
  · rw [if_neg (by rw [decide_eq_true (by omega)]; simp), if_neg (by omega)]; rfl
theorem requestFault_spec (r : Rq) (A : Option Addr) (c : Nat) (M : PH) (hs : Sl M A 2 Hd.cs r.hs) (hco : r.cost ≤ 1048576) : Ret 18 [rqV r A c] M (I (rqFault r)) := by
  obtain ⟨o1, o2, o3, o4, o5, o6⟩ := Rq.facts hco
  refine xcall_of_vc Tryd.func18 rfl _ Tryd.ntmps18 _ rfl (fun _ _ => Tryd.call18 _ _) rfl (fun w0 ρ0 => ?_)
  conv => whnf
  repeat' (first | (refine ⟨⟨[], rfl⟩, _, PH.Le.refl _, PH.Le.refl _, ?_⟩; conv => whnf) | (refine caseB_true ?_; conv => whnf) | (refine caseB_false ?_; conv => whnf) | ((with_reducible refine caseB_dec (fun h => ?_) (fun h => ?_)) <;> conv => whnf) | ((with_reducible refine caseB_ndec (fun h => ?_) (fun h => ?_)) <;> conv => whnf) | ((with_reducible refine caseB_not (fun h => ?_) (fun h => ?_)) <;> conv => whnf) | (refine Ret.go (l5Host_ret _ _ o2) ?_; conv => whnf) | (refine Ret.go (l5Path_ret _ _ o3) ?_; conv => whnf) | (refine Ret.go (headersFault_spec A c r.hs _ hs o4 o6) ?_; conv => whnf) | (refine Ret.go (l4Join_ret A c r.hs hostL _ hs o5 o6 (by decide)) ?_; conv => whnf) | (with_reducible refine @And.intro (guardVC _ _ _ _ _) _ ?_ ?_) <;> conv => whnf | (refine caseB_intro (fun h => ?_) (fun h => ?_) <;> (try simp only [Bool.not_eq_true', Bool.not_eq_false', decide_eq_true_eq, decide_eq_false_iff_not] at h) <;> conv => whnf))
  all_goals refine ⟨M, PH.Le.refl _, ?_, rfl⟩
  all_goals first | (simp [resV, rqFault, getS, headS, *]; done) | skip
def twice (ws : List Wr) : Prop := ¬ AptG Wr.a ws
theorem l12Twice_ret (A : Option Addr) (c : Nat) (ws : List Wr) (M : PH) (hs : Sl M A 4 Wr.cs ws) (hn : ws.length ≤ 1048576) : Ret 19 [.slice A ws.length c] M (B (!asB (AptG Wr.a ws))) := by
  refine xcall_of_vc Tryd.func19 rfl _ Tryd.ntmps19 _ rfl (fun _ _ => Tryd.call19 _ _) rfl (fun w0 ρ0 => ?_)
  conv => whnf
  refine loop_rule (fun i : Nat => ⟨slots 27 [(0, .v (.slice A ws.length c)), (3, .v (I i))], []⟩) (fun i M1 => i ≤ ws.length ∧ (∀ a, a < i → ∀ ha : a < ws.length, ∀ b, ∀ hb : b < a, Wr.a ws[a] ≠ Wr.a ws[b]) ∧ M1 = M) (fun i => ws.length - i) 0 ?_ ?_ ?_
  · exact ⟨by simp [slots, leT], ⟨[], rfl⟩, (by first | exact Nat.zero_le _ | exact Nat.le_refl _), rfl, rfl⟩
  · exact ⟨Nat.zero_le _, fun j hj => absurd hj (Nat.not_lt_zero _), rfl⟩
  rintro i M1 ⟨hi, hq, rfl⟩
  conv => whnf
  repeat' (first | (refine ⟨⟨[], rfl⟩, _, PH.Le.refl _, PH.Le.refl _, ?_⟩; conv => whnf) | (refine caseB_true ?_; conv => whnf) | (refine caseB_false ?_; conv => whnf) | ((with_reducible refine caseB_dec (fun h => ?_) (fun h => ?_)) <;> conv => whnf) | ((with_reducible refine caseB_ndec (fun h => ?_) (fun h => ?_)) <;> conv => whnf) | ((with_reducible refine caseB_not (fun h => ?_) (fun h => ?_)) <;> conv => whnf) | (with_reducible refine @And.intro (guardVC _ _ _ _ _) _ ?_ ?_) <;> conv => whnf | (refine caseB_intro (fun h => ?_) (fun h => ?_) <;> (try simp only [Bool.not_eq_true', Bool.not_eq_false', decide_eq_true_eq, decide_eq_false_iff_not] at h) <;> conv => whnf))
  · have hi' : i < ws.length := by omega
    have hw : IntKind.i64.wrap ((i : Int) + 1) = (i : Int) + 1 := wr_id (by omega) (by omega)
    obtain ⟨hA, _, hc⟩ := hs.get hi'
    refine loop_rule (fun j : Nat => ⟨slots 27 [(0, .v (.slice A ws.length c)), (3, .v (I i)), (4, .v (I j))], []⟩) (fun j M' => j ≤ i ∧ (∀ b, ∀ hb : b < j, ∀ hb : b < ws.length, Wr.a ws[i] ≠ Wr.a ws[b]) ∧ M' = M1) (fun j => i - j) 0 ?_ ?_ ?_
    · exact ⟨by simp [slots, leT], ⟨[], rfl⟩, (by first | exact Nat.zero_le _ | exact Nat.le_refl _), rfl, rfl⟩
    · exact ⟨Nat.zero_le _, fun j hj => absurd hj (Nat.not_lt_zero _), rfl⟩
    rintro j M2 ⟨hj, hr, rfl⟩
    conv => whnf
    repeat' (first | (refine ⟨⟨[], rfl⟩, _, PH.Le.refl _, PH.Le.refl _, ?_⟩; conv => whnf) | (refine caseB_true ?_; conv => whnf) | (refine caseB_false ?_; conv => whnf) | ((with_reducible refine caseB_dec (fun h => ?_) (fun h => ?_)) <;> conv => whnf) | ((with_reducible refine caseB_ndec (fun h => ?_) (fun h => ?_)) <;> conv => whnf) | ((with_reducible refine caseB_not (fun h => ?_) (fun h => ?_)) <;> conv => whnf) | (with_reducible refine @And.intro (guardVC _ _ _ _ _) _ ?_ ?_) <;> conv => whnf | (refine caseB_intro (fun h => ?_) (fun h => ?_) <;> (try simp only [Bool.not_eq_true', Bool.not_eq_false', decide_eq_true_eq, decide_eq_false_iff_not] at h) <;> conv => whnf))
    · have hj' : j < i := by omega
      have hj2 : j < ws.length := by omega
      have hw2 : IntKind.i64.wrap ((j : Int) + 1) = (j : Int) + 1 := wr_id (by omega) (by omega)
      obtain ⟨_, _, hc2⟩ := hs.get hj2
      repeat' (first | (refine ⟨⟨[], rfl⟩, _, PH.Le.refl _, PH.Le.refl _, ?_⟩; conv => whnf) | (refine ⟨_, cells_cut hc2 0 rfl, ?_⟩; conv => whnf) | (refine ⟨_, cells_cut hc 0 rfl, ?_⟩; conv => whnf) | (refine ⟨by omega, by omega, hA, ?_⟩; conv => whnf) | (refine caseB_true ?_; conv => whnf) | (refine caseB_false ?_; conv => whnf) | ((with_reducible refine caseB_dec (fun h => ?_) (fun h => ?_)) <;> conv => whnf) | ((with_reducible refine caseB_ndec (fun h => ?_) (fun h => ?_)) <;> conv => whnf) | ((with_reducible refine caseB_not (fun h => ?_) (fun h => ?_)) <;> conv => whnf) | (refine draw_rule (.light 0 <| .light 1 <| .light 2 <| .light 3 <| .light 4 <| .light 5 <| .light 6 <| .light 7 <| .light 8 <| .light 9 <| .light 10 <| .done) (by decide +kernel) ?_; conv => whnf) | (with_reducible refine @And.intro (guardVC _ _ _ _ _) _ ?_ ?_) <;> conv => whnf | (refine caseB_intro (fun h => ?_) (fun h => ?_) <;> (try simp only [Bool.not_eq_true', Bool.not_eq_false', decide_eq_true_eq, decide_eq_false_iff_not] at h) <;> conv => whnf))
      · exact ⟨_, PH.Le.refl _, (by rw [asB_false (aptG_no hi' hj' h)]; rfl), rfl⟩
      · exact ⟨j + 1, ⟨by simp [slots, leT, hw2], ⟨[], rfl⟩, (by first | exact Nat.zero_le _ | exact Nat.le_refl _), rfl, rfl⟩, ⟨by omega, fun b hb hb' => by
          rcases Nat.lt_succ_iff_lt_or_eq.1 hb with h1 | h1
          · exact hr b h1 hb'
          · subst h1; exact h, rfl⟩, by omega⟩
    · have : j = i := by omega
      subst this
      exact ⟨j + 1, ⟨by simp [slots, leT, hw], ⟨[], rfl⟩, (by first | exact Nat.zero_le _ | exact Nat.le_refl _), rfl, rfl⟩, ⟨by omega, fun a ha ha' b hb => by
          rcases Nat.lt_succ_iff_lt_or_eq.1 ha with h1 | h1
          · exact hq a h1 ha' b hb
          · subst h1; exact hr b hb (by omega), rfl⟩, by omega⟩

  · exact ⟨_, PH.Le.refl _, by rw [asB_true (aptG_yes fun a ha => hq a (by omega) ha)]; rfl, rfl⟩
theorem Wr.one (x : Wr) : ∀ v ∈ x.cs, v.oneCell' = true := by intro v hv; simp at hv; rcases hv with rfl | rfl | rfl | rfl <;> rfl
/-- The place of the first of a slice that a function is true of; -1 if there is none. -/
theorem indexFuncWr0  (g : FuncId) (p : Wr → Bool) (A : Option Addr) (c : Nat) (ws : List Wr) (M : PH) (hs : Sl M A 4 Wr.cs ws) (hn : ws.length ≤ 4294967296)
    (hg : ∀ x ∈ ws, XCall env g (.v x.val :: []) [] M fun r b M' => r = B (p x) ∧ b = [] ∧ M' = M) :
    XCall env 46 [.v (.slice A ws.length c), .fn g []] [] M fun r b M' => r = I (idxF p ws) ∧ b = [] ∧ M' = M := by
  refine xcall_of_vc Tryd.func46 rfl _ Tryd.ntmps46 _ rfl (fun _ _ => Tryd.call46 _ _) rfl (fun w0 ρ0 => ?_)
  conv => whnf
  refine loop_rule (fun i : Nat => ⟨slots 19 [(0, .v (.slice A ws.length c)), (1, .fn g []), (4, .v (I 0)), (7, .v (I ws.length)), (8, .v (I i))], []⟩) (fun i M' => i ≤ ws.length ∧ (∀ j, j < i → ∀ h : j < ws.length, p ws[j] = false) ∧ M' = M) (fun i => ws.length - i) 0 ?_ ?_ ?_
  · exact ⟨by simp [slots, leT], ⟨[], rfl⟩, (by first | exact Nat.zero_le _ | exact Nat.le_refl _), rfl, rfl⟩
  · exact ⟨Nat.zero_le _, fun j hj => absurd hj (Nat.not_lt_zero _), rfl⟩
  · rintro i M' ⟨hi, hp, rfl⟩
    conv => whnf
    repeat' (first | (refine ⟨⟨[], rfl⟩, _, PH.Le.refl _, PH.Le.refl _, ?_⟩; conv => whnf) | (refine caseB_true ?_; conv => whnf) | (refine caseB_false ?_; conv => whnf) | ((with_reducible refine caseB_dec (fun h => ?_) (fun h => ?_)) <;> conv => whnf) | ((with_reducible refine caseB_ndec (fun h => ?_) (fun h => ?_)) <;> conv => whnf) | ((with_reducible refine caseB_not (fun h => ?_) (fun h => ?_)) <;> conv => whnf) | (with_reducible refine @And.intro (guardVC _ _ _ _ _) _ ?_ ?_) <;> conv => whnf | (refine caseB_intro (fun h => ?_) (fun h => ?_) <;> (try simp only [Bool.not_eq_true', Bool.not_eq_false', decide_eq_true_eq, decide_eq_false_iff_not] at h) <;> conv => whnf))
    · have hi' : i < ws.length := by omega
      have hw : IntKind.i64.wrap ((i : Int) + 1) = (i : Int) + 1 := wr_id (by omega) (by omega)
      obtain ⟨hA, _, hc⟩ := hs.get hi'
      refine ⟨by omega, by omega, hA, ?_⟩
      conv => whnf
      refine ⟨ws[i].cs, hc, rfl, ?_⟩
      conv => whnf
      refine XCall.mono (hg ws[i] (List.getElem_mem hi')) fun r b M' hh => ?_
      obtain ⟨rfl, rfl, rfl⟩ := hh
      conv => whnf
      refine caseB_intro (fun hx => ?_) (fun hx => ?_)
      · conv => whnf
        exact ⟨_, PH.Le.refl _, by rw [idxF_at p ws i hi' hp hx]; rfl, rfl, rfl⟩
      · conv => whnf
        exact ⟨i + 1, ⟨by simp [slots, leT, hw], ⟨[], rfl⟩, (by first | exact Nat.zero_le _ | exact Nat.le_refl _), rfl, rfl⟩, ⟨by omega, fun j hj h => by
          rcases Nat.lt_succ_iff_lt_or_eq.1 hj with h1 | h1
          · exact hp j h1 h
          · subst h1; exact hx, rfl⟩, by omega⟩
    · exact ⟨_, PH.Le.refl _, by rw [idxF_no p ws (fun j h => hp j (by omega) h)]; rfl, rfl, rfl⟩

theorem containsFuncWr0  (g : FuncId) (p : Wr → Bool) (A : Option Addr) (c : Nat) (ws : List Wr) (M : PH) (hs : Sl M A 4 Wr.cs ws) (hn : ws.length ≤ 4294967296)
    (hg : ∀ x ∈ ws, XCall env g (.v x.val :: []) [] M fun r b M' => r = B (p x) ∧ b = [] ∧ M' = M) :
    XCall env 25 [.v (.slice A ws.length c), .fn g []] [] M fun r b M' => r = B (ws.any p) ∧ b = [] ∧ M' = M := by
  refine xcall_of_vc Tryd.func25 rfl _ Tryd.ntmps25 _ rfl (fun _ _ => Tryd.call25 _ _) rfl (fun w0 ρ0 => ?_)
  conv => whnf
  refine XCall.mono (indexFuncWr0  g p A c ws M hs hn hg) fun r b M' hh => ?_
  obtain ⟨rfl, rfl, rfl⟩ := hh
  conv => whnf
  exact ⟨_, PH.Le.refl _, by rw [idxF_any p ws]; rfl, rfl, rfl⟩

/-- The place of the first of a slice that a function is true of; -1 if there is none. -/
theorem indexFuncWr1 (ty : TypeId) (x0 : Value) (g : FuncId) (p : Wr → Bool) (A : Option Addr) (c : Nat) (ws : List Wr) (M : PH) (hs : Sl M A 4 Wr.cs ws) (hn : ws.length ≤ 4294967296)
    (hg : ∀ x ∈ ws, XCall env g (.v x.val :: [.bp 0 0]) [⟨ty, [.v x0]⟩] M fun r b M' => r = B (p x) ∧ b = [⟨ty, [.v x0]⟩] ∧ M' = M) :
    XCall env 46 [.v (.slice A ws.length c), .fn g [0]] [⟨ty, [.v x0]⟩] M fun r b M' => r = I (idxF p ws) ∧ b = [⟨ty, [.v x0]⟩] ∧ M' = M := by
  refine xcall_of_vc Tryd.func46 rfl _ Tryd.ntmps46 _ rfl (fun _ _ => Tryd.call46 _ _) rfl (fun w0 ρ0 => ?_)
  conv => whnf
  refine loop_rule (fun i : Nat => ⟨slots 19 [(0, .v (.slice A ws.length c)), (1, .fn g [0]), (4, .v (I 0)), (7, .v (I ws.length)), (8, .v (I i))], [⟨ty, [.v x0]⟩]⟩) (fun i M' => i ≤ ws.length ∧ (∀ j, j < i → ∀ h : j < ws.length, p ws[j] = false) ∧ M' = M) (fun i => ws.length - i) 0 ?_ ?_ ?_
  · exact ⟨by simp [slots, leT], ⟨[], rfl⟩, (by first | exact Nat.zero_le _ | exact Nat.le_refl _), rfl, rfl⟩
  · exact ⟨Nat.zero_le _, fun j hj => absurd hj (Nat.not_lt_zero _), rfl⟩
  · rintro i M' ⟨hi, hp, rfl⟩
    conv => whnf
    repeat' (first | (refine ⟨⟨[], rfl⟩, _, PH.Le.refl _, PH.Le.refl _, ?_⟩; conv => whnf) | (refine caseB_true ?_; conv => whnf) | (refine caseB_false ?_; conv => whnf) | ((with_reducible refine caseB_dec (fun h => ?_) (fun h => ?_)) <;> conv => whnf) | ((with_reducible refine caseB_ndec (fun h => ?_) (fun h => ?_)) <;> conv => whnf) | ((with_reducible refine caseB_not (fun h => ?_) (fun h => ?_)) <;> conv => whnf) | (with_reducible refine @And.intro (guardVC _ _ _ _ _) _ ?_ ?_) <;> conv => whnf | (refine caseB_intro (fun h => ?_) (fun h => ?_) <;> (try simp only [Bool.not_eq_true', Bool.not_eq_false', decide_eq_true_eq, decide_eq_false_iff_not] at h) <;> conv => whnf))
    · have hi' : i < ws.length := by omega
      have hw : IntKind.i64.wrap ((i : Int) + 1) = (i : Int) + 1 := wr_id (by omega) (by omega)
      obtain ⟨hA, _, hc⟩ := hs.get hi'
      refine ⟨by omega, by omega, hA, ?_⟩
      conv => whnf
      refine ⟨ws[i].cs, hc, rfl, ?_⟩
      conv => whnf
      refine XCall.mono (hg ws[i] (List.getElem_mem hi')) fun r b M' hh => ?_
      obtain ⟨rfl, rfl, rfl⟩ := hh
      conv => whnf
      refine caseB_intro (fun hx => ?_) (fun hx => ?_)
      · conv => whnf
        exact ⟨_, PH.Le.refl _, by rw [idxF_at p ws i hi' hp hx]; rfl, rfl, rfl⟩
      · conv => whnf
        exact ⟨i + 1, ⟨by simp [slots, leT, hw], ⟨[], rfl⟩, (by first | exact Nat.zero_le _ | exact Nat.le_refl _), rfl, rfl⟩, ⟨by omega, fun j hj h => by
          rcases Nat.lt_succ_iff_lt_or_eq.1 hj with h1 | h1
          · exact hp j h1 h
          · subst h1; exact hx, rfl⟩, by omega⟩
    · exact ⟨_, PH.Le.refl _, by rw [idxF_no p ws (fun j h => hp j (by omega) h)]; rfl, rfl, rfl⟩

theorem containsFuncWr1 (ty : TypeId) (x0 : Value) (g : FuncId) (p : Wr → Bool) (A : Option Addr) (c : Nat) (ws : List Wr) (M : PH) (hs : Sl M A 4 Wr.cs ws) (hn : ws.length ≤ 4294967296)
    (hg : ∀ x ∈ ws, XCall env g (.v x.val :: [.bp 0 0]) [⟨ty, [.v x0]⟩] M fun r b M' => r = B (p x) ∧ b = [⟨ty, [.v x0]⟩] ∧ M' = M) :
    XCall env 25 [.v (.slice A ws.length c), .fn g [0]] [⟨ty, [.v x0]⟩] M fun r b M' => r = B (ws.any p) ∧ b = [⟨ty, [.v x0]⟩] ∧ M' = M := by
  refine xcall_of_vc Tryd.func25 rfl _ Tryd.ntmps25 _ rfl (fun _ _ => Tryd.call25 _ _) rfl (fun w0 ρ0 => ?_)
  conv => whnf
  refine XCall.mono (indexFuncWr1 ty x0 g p A c ws M hs hn hg) fun r b M' hh => ?_
  obtain ⟨rfl, rfl, rfl⟩ := hh
  conv => whnf
  exact ⟨_, PH.Le.refl _, by rw [idxF_any p ws]; rfl, rfl, rfl⟩

theorem waitsF1_ret (x : Int) (w : Wr) (M : PH) : XCall env 64 [.v w.val, .bp 0 0] [⟨2, [.v (I x)]⟩] M fun r b M' => r = B (decide (w.a = x)) ∧ b = [⟨2, [.v (I x)]⟩] ∧ M' = M := by
  refine xcall_of_vc Tryd.func64 rfl _ Tryd.ntmps64 _ rfl (fun _ _ => Tryd.call64 _ _) rfl (fun w0 ρ0 => ?_)
  conv => whnf
  exact ⟨_, PH.Le.refl _, rfl, rfl, rfl⟩
def waitsT (ws : List Wr) (x : Int) : Bool := ws.any fun w => decide (w.a = x)
theorem waitsF_ret (f : FlA) (x : Int) (M : PH) (hs : Sl M f.wA 4 Wr.cs f.c.ws) (hn : f.c.ws.length ≤ 1048576) : Ret 47 [f.val, I x] M (B (waitsT f.c.ws x)) := by
  refine xcall_of_vc Tryd.func47 rfl _ Tryd.ntmps47 _ rfl (fun _ _ => Tryd.call47 _ _) rfl (fun w0 ρ0 => ?_)
  conv => whnf
  refine XCall.lift (containsFuncWr1 2 (I x) 64 (fun w => decide (w.a = x)) f.wA f.wc f.c.ws M hs (by omega) fun w _ => waitsF1_ret x w M) [1] ?_ (by simp) (by simp) (by simp [AV.plain]) ?_
  · simp [ren, AV.plain]
  rintro r bs' M' ⟨rfl, rfl, rfl⟩
  refine ⟨by simp [AV.plain], ?_⟩
  conv => whnf
  exact ⟨_, PH.Le.refl _, rfl, rfl⟩
end Go.Proofs.YtnnfbjbfdoepmaaDoor
