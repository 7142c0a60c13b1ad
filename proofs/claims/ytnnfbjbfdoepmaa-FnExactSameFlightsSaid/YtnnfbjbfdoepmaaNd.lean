/-
  CONTRACTS: what is the same: head lines, requests, waiters, flights.
-/
import Derived.Test.YtnnfbjbfdoepmaaNc
namespace Go.Proofs.Ytnnfbjbfdoepmaa
set_option maxRecDepth 100000
set_option linter.unusedSimpArgs false
set_option linter.unusedVariables false
open Go.Xe
theorem sameHeaders_spec (A A' : Option Addr) (c c' : Nat) (ws us : List Hd) (M : PH) (hs : Sl M A 2 Hd.cs ws) (hs' : Sl M A' 2 Hd.cs us) (hn : ws.length ≤ 1048576) :
    Ret 18 [.slice A ws.length c, .slice A' us.length c'] M (B (sameB ws us)) := by
  refine xcall_of_vc Try.func18 rfl _ Try.ntmps18 _ rfl (fun _ _ => Try.call18 _ _) rfl (fun w0 ρ0 => ?_)
  conv => whnf
  repeat' (first | (refine ⟨⟨[], rfl⟩, _, PH.Le.refl _, PH.Le.refl _, ?_⟩; conv => whnf) | (refine caseB_true ?_; conv => whnf) | (refine caseB_false ?_; conv => whnf) | ((with_reducible refine caseB_dec (fun h => ?_) (fun h => ?_)) <;> conv => whnf) | ((with_reducible refine caseB_ndec (fun h => ?_) (fun h => ?_)) <;> conv => whnf) | ((with_reducible refine caseB_not (fun h => ?_) (fun h => ?_)) <;> conv => whnf) | (with_reducible refine @And.intro (guardVC _ _ _ _ _) _ ?_ ?_) <;> conv => whnf | (refine caseB_intro (fun h => ?_) (fun h => ?_) <;> (try simp only [Bool.not_eq_true', Bool.not_eq_false', decide_eq_true_eq, decide_eq_false_iff_not] at h) <;> conv => whnf))
  · refine ⟨_, PH.Le.refl _, ?_, rfl⟩
    rw [sameB_false (fun e => by subst e; simp_all)]
    rfl
  refine loop_rule (fun i : Nat => ⟨slots 26 [(0, .v (.slice A ws.length c)), (1, .v (.slice A' us.length c')), (4, .v (B false)), (5, .v (I i))], []⟩) (fun i M' => i ≤ ws.length ∧ ws.take i = us.take i ∧ M' = M) (fun i => ws.length - i) 0 ?_ ?_ ?_
  · exact ⟨by simp [slots, leT], ⟨[], rfl⟩, Nat.zero_le _, rfl, rfl⟩
  · exact ⟨Nat.zero_le _, rfl, rfl⟩
  · rintro i M' ⟨hi, ht, rfl⟩
    conv => whnf
    repeat' (first | (refine ⟨⟨[], rfl⟩, _, PH.Le.refl _, PH.Le.refl _, ?_⟩; conv => whnf) | (refine caseB_true ?_; conv => whnf) | (refine caseB_false ?_; conv => whnf) | ((with_reducible refine caseB_dec (fun h => ?_) (fun h => ?_)) <;> conv => whnf) | ((with_reducible refine caseB_ndec (fun h => ?_) (fun h => ?_)) <;> conv => whnf) | ((with_reducible refine caseB_not (fun h => ?_) (fun h => ?_)) <;> conv => whnf) | (with_reducible refine @And.intro (guardVC _ _ _ _ _) _ ?_ ?_) <;> conv => whnf | (refine caseB_intro (fun h => ?_) (fun h => ?_) <;> (try simp only [Bool.not_eq_true', Bool.not_eq_false', decide_eq_true_eq, decide_eq_false_iff_not] at h) <;> conv => whnf))
    · have hi' : i < ws.length := by omega
      have hi2 : i < us.length := by omega
      have hw : IntKind.i64.wrap ((i : Int) + 1) = (i : Int) + 1 := wr_id (by omega) (by omega)
      obtain ⟨hA, _, hc⟩ := hs.get hi'
      obtain ⟨hA', _, hc'⟩ := hs'.get hi2
      repeat' (first | (refine ⟨⟨[], rfl⟩, _, PH.Le.refl _, PH.Le.refl _, ?_⟩; conv => whnf) | (refine ⟨us[i].cs, hc', rfl, ?_⟩; conv => whnf) | (refine ⟨ws[i].cs, hc, rfl, ?_⟩; conv => whnf) | (refine ⟨by omega, by omega, hA', ?_⟩; conv => whnf) | (refine ⟨by omega, by omega, hA, ?_⟩; conv => whnf) | (refine caseB_true ?_; conv => whnf) | (refine caseB_false ?_; conv => whnf) | ((with_reducible refine caseB_dec (fun h => ?_) (fun h => ?_)) <;> conv => whnf) | ((with_reducible refine caseB_ndec (fun h => ?_) (fun h => ?_)) <;> conv => whnf) | ((with_reducible refine caseB_not (fun h => ?_) (fun h => ?_)) <;> conv => whnf) | (refine draw_rule (.light 0 <| .light 1 <| .light 2 <| .light 3 <| .light 4 <| .light 5 <| .light 6 <| .light 7 <| .light 8 <| .done) (by decide +kernel) ?_; conv => whnf) | (with_reducible refine @And.intro (guardVC _ _ _ _ _) _ ?_ ?_) <;> conv => whnf | (refine caseB_intro (fun h => ?_) (fun h => ?_) <;> (try simp only [Bool.not_eq_true', Bool.not_eq_false', decide_eq_true_eq, decide_eq_false_iff_not] at h) <;> conv => whnf))
      · rename_i h
        refine ⟨_, PH.Le.refl _, ?_, rfl⟩
        rw [sameB_false (fun e => by subst e; simp [seq_self] at h)]
        rfl
      · rename_i h
        rw [hd_eq] at h
        exact ⟨i + 1, ⟨by simp [slots, leT, hw], ⟨[], rfl⟩, Nat.zero_le _, rfl, rfl⟩, ⟨by omega, take_step ht hi' hi2 h, rfl⟩, by omega⟩
    · refine ⟨_, PH.Le.refl _, ?_, rfl⟩
      rw [sameB_true (take_all ht (by omega) (by omega))]
      rfl

theorem sameWaiters_spec (A A' : Option Addr) (c c' : Nat) (ws us : List Wr) (M : PH) (hs : Sl M A 4 Wr.cs ws) (hs' : Sl M A' 4 Wr.cs us) (hn : ws.length ≤ 1048576) :
    Ret 11 [.slice A ws.length c, .slice A' us.length c'] M (B (sameB ws us)) := by
  refine xcall_of_vc Try.func11 rfl _ Try.ntmps11 _ rfl (fun _ _ => Try.call11 _ _) rfl (fun w0 ρ0 => ?_)
  conv => whnf
  repeat' (first | (refine ⟨⟨[], rfl⟩, _, PH.Le.refl _, PH.Le.refl _, ?_⟩; conv => whnf) | (refine caseB_true ?_; conv => whnf) | (refine caseB_false ?_; conv => whnf) | ((with_reducible refine caseB_dec (fun h => ?_) (fun h => ?_)) <;> conv => whnf) | ((with_reducible refine caseB_ndec (fun h => ?_) (fun h => ?_)) <;> conv => whnf) | ((with_reducible refine caseB_not (fun h => ?_) (fun h => ?_)) <;> conv => whnf) | (with_reducible refine @And.intro (guardVC _ _ _ _ _) _ ?_ ?_) <;> conv => whnf | (refine caseB_intro (fun h => ?_) (fun h => ?_) <;> (try simp only [Bool.not_eq_true', Bool.not_eq_false', decide_eq_true_eq, decide_eq_false_iff_not] at h) <;> conv => whnf))
  · refine ⟨_, PH.Le.refl _, ?_, rfl⟩
    rw [sameB_false (fun e => by subst e; simp_all)]
    rfl
  refine loop_rule (fun i : Nat => ⟨slots 26 [(0, .v (.slice A ws.length c)), (1, .v (.slice A' us.length c')), (4, .v (B false)), (5, .v (I i))], []⟩) (fun i M' => i ≤ ws.length ∧ ws.take i = us.take i ∧ M' = M) (fun i => ws.length - i) 0 ?_ ?_ ?_
  · exact ⟨by simp [slots, leT], ⟨[], rfl⟩, Nat.zero_le _, rfl, rfl⟩
  · exact ⟨Nat.zero_le _, rfl, rfl⟩
  · rintro i M' ⟨hi, ht, rfl⟩
    conv => whnf
    repeat' (first | (refine ⟨⟨[], rfl⟩, _, PH.Le.refl _, PH.Le.refl _, ?_⟩; conv => whnf) | (refine caseB_true ?_; conv => whnf) | (refine caseB_false ?_; conv => whnf) | ((with_reducible refine caseB_dec (fun h => ?_) (fun h => ?_)) <;> conv => whnf) | ((with_reducible refine caseB_ndec (fun h => ?_) (fun h => ?_)) <;> conv => whnf) | ((with_reducible refine caseB_not (fun h => ?_) (fun h => ?_)) <;> conv => whnf) | (with_reducible refine @And.intro (guardVC _ _ _ _ _) _ ?_ ?_) <;> conv => whnf | (refine caseB_intro (fun h => ?_) (fun h => ?_) <;> (try simp only [Bool.not_eq_true', Bool.not_eq_false', decide_eq_true_eq, decide_eq_false_iff_not] at h) <;> conv => whnf))
    · have hi' : i < ws.length := by omega
      have hi2 : i < us.length := by omega
      have hw : IntKind.i64.wrap ((i : Int) + 1) = (i : Int) + 1 := wr_id (by omega) (by omega)
      obtain ⟨hA, _, hc⟩ := hs.get hi'
      obtain ⟨hA', _, hc'⟩ := hs'.get hi2
      repeat' (first | (refine ⟨⟨[], rfl⟩, _, PH.Le.refl _, PH.Le.refl _, ?_⟩; conv => whnf) | (refine ⟨us[i].cs, hc', rfl, ?_⟩; conv => whnf) | (refine ⟨ws[i].cs, hc, rfl, ?_⟩; conv => whnf) | (refine ⟨by omega, by omega, hA', ?_⟩; conv => whnf) | (refine ⟨by omega, by omega, hA, ?_⟩; conv => whnf) | (refine caseB_true ?_; conv => whnf) | (refine caseB_false ?_; conv => whnf) | ((with_reducible refine caseB_dec (fun h => ?_) (fun h => ?_)) <;> conv => whnf) | ((with_reducible refine caseB_ndec (fun h => ?_) (fun h => ?_)) <;> conv => whnf) | ((with_reducible refine caseB_not (fun h => ?_) (fun h => ?_)) <;> conv => whnf) | (refine draw_rule (.light 0 <| .light 1 <| .light 2 <| .light 3 <| .light 4 <| .light 5 <| .light 6 <| .light 7 <| .light 8 <| .done) (by decide +kernel) ?_; conv => whnf) | (with_reducible refine @And.intro (guardVC _ _ _ _ _) _ ?_ ?_) <;> conv => whnf | (refine caseB_intro (fun h => ?_) (fun h => ?_) <;> (try simp only [Bool.not_eq_true', Bool.not_eq_false', decide_eq_true_eq, decide_eq_false_iff_not] at h) <;> conv => whnf))
      · rename_i h
        refine ⟨_, PH.Le.refl _, ?_, rfl⟩
        rw [sameB_false (fun e => by subst e; simp [seq_self] at h)]
        rfl
      · rename_i h
        rw [wr_eq] at h
        exact ⟨i + 1, ⟨by simp [slots, leT, hw], ⟨[], rfl⟩, Nat.zero_le _, rfl, rfl⟩, ⟨by omega, take_step ht hi' hi2 h, rfl⟩, by omega⟩
    · refine ⟨_, PH.Le.refl _, ?_, rfl⟩
      rw [sameB_true (take_all ht (by omega) (by omega))]
      rfl

theorem rq_same {r r' : Rq} (h1 : r.m = r'.m) (h2 : r.h = r'.h) (h3 : r.p = r'.p) : sameB r r' = sameB r.hs r'.hs := by
  obtain ⟨m, h, p, hs⟩ := r
  obtain ⟨m', h', p', hs'⟩ := r'
  simp only at h1 h2 h3
  subst h1; subst h2; subst h3
  by_cases e : hs = hs'
  · rw [sameB_true e, sameB_true (by rw [e])]
  · rw [sameB_false e, sameB_false (fun h => e (by cases h; rfl))]
theorem sameRequests_spec (r r' : Rq) (A A' : Option Addr) (c c' : Nat) (M : PH) (hs : Sl M A 2 Hd.cs r.hs) (hs' : Sl M A' 2 Hd.cs r'.hs) (hn : r.hs.length ≤ 1048576) :
    Ret 10 [rqV r A c, rqV r' A' c'] M (B (sameB r r')) := by
  refine xcall_of_vc Try.func10 rfl _ Try.ntmps10 _ rfl (fun _ _ => Try.call10 _ _) rfl (fun w0 ρ0 => ?_)
  conv => whnf
  repeat' (first | (refine ⟨⟨[], rfl⟩, _, PH.Le.refl _, PH.Le.refl _, ?_⟩; conv => whnf) | (refine caseB_true ?_; conv => whnf) | (refine caseB_false ?_; conv => whnf) | ((with_reducible refine caseB_dec (fun h => ?_) (fun h => ?_)) <;> conv => whnf) | ((with_reducible refine caseB_ndec (fun h => ?_) (fun h => ?_)) <;> conv => whnf) | ((with_reducible refine caseB_not (fun h => ?_) (fun h => ?_)) <;> conv => whnf) | (refine Ret.go (sameHeaders_spec A A' c c' r.hs r'.hs _ hs hs' hn) ?_; conv => whnf) | (with_reducible refine @And.intro (guardVC _ _ _ _ _) _ ?_ ?_) <;> conv => whnf | (refine caseB_intro (fun h => ?_) (fun h => ?_) <;> (try simp only [Bool.not_eq_true', Bool.not_eq_false', decide_eq_true_eq, decide_eq_false_iff_not] at h) <;> conv => whnf))
  all_goals refine ⟨_, PH.Le.refl _, ?_, rfl⟩
  all_goals first
    | (rw [sameB_false (fun e => by subst e; simp [seq_self] at h)]; rfl; done)
    | (rw [rq_same (seq_iff.1 (by assumption)) (seq_iff.1 (by assumption)) (seq_iff.1 (by assumption))]; rfl)
theorem sameRequests_impl (r r' : Rq) (A A' : Option Addr) (c c' : Nat) (M : PH) (hs : Sl M A 2 Hd.cs r.hs) (hs' : Sl M A' 2 Hd.cs r'.hs) (hn : r.hs.length ≤ 1048576) :
    Ret 21 [rqV r A c, rqV r' A' c'] M (B (sameB r r')) := by
  refine xcall_of_vc Try.func21 rfl _ Try.ntmps21 _ rfl (fun _ _ => Try.call21 _ _) rfl (fun w0 ρ0 => ?_)
  conv => whnf
  repeat' (first | (refine ⟨⟨[], rfl⟩, _, PH.Le.refl _, PH.Le.refl _, ?_⟩; conv => whnf) | (refine caseB_true ?_; conv => whnf) | (refine caseB_false ?_; conv => whnf) | ((with_reducible refine caseB_dec (fun h => ?_) (fun h => ?_)) <;> conv => whnf) | ((with_reducible refine caseB_ndec (fun h => ?_) (fun h => ?_)) <;> conv => whnf) | ((with_reducible refine caseB_not (fun h => ?_) (fun h => ?_)) <;> conv => whnf) | (refine Ret.go (equalHeader_ret A A' c c' r.hs r'.hs _ hs hs' hn) ?_; conv => whnf) | (with_reducible refine @And.intro (guardVC _ _ _ _ _) _ ?_ ?_) <;> conv => whnf | (refine caseB_intro (fun h => ?_) (fun h => ?_) <;> (try simp only [Bool.not_eq_true', Bool.not_eq_false', decide_eq_true_eq, decide_eq_false_iff_not] at h) <;> conv => whnf))
  all_goals refine ⟨_, PH.Le.refl _, ?_, rfl⟩
  all_goals first
    | (rw [sameB_false (fun e => by subst e; simp [seq_self] at h)]; rfl; done)
    | (rw [rq_same (seq_iff.1 (by assumption)) (seq_iff.1 (by assumption)) (seq_iff.1 (by assumption))]; rfl)
theorem fl_same {f f' : Fc} (h1 : f.id = f'.id) (h2 : f.key = f'.key) (h3 : f.back = f'.back) (h4 : f.out = f'.out) (h5 : f.due = f'.due) (h6 : f.doomed = f'.doomed) (h7 : f.get = f'.get) : sameB f f' = sameB f.ws f'.ws := by
  obtain ⟨a1, a2, a3, a4, a5, a6, a7, hs⟩ := f
  obtain ⟨b1, b2, b3, b4, b5, b6, b7, hs'⟩ := f'
  simp only at h1 h2 h3 h4 h5 h6 h7
  subst h1; subst h2; subst h3; subst h4; subst h5; subst h6; subst h7
  by_cases e : hs = hs'
  · rw [sameB_true e, sameB_true (by rw [e])]
  · rw [sameB_false e, sameB_false (fun h => e (by cases h; rfl))]
theorem sameFlight_ret (x y : FlA) (M : PH) (hx : x.inn M ∧ x.c.cost ≤ 1048576) (hy : y.inn M) :
    Ret 14 [x.val, y.val] M (B (sameB x.c y.c)) := by
  obtain ⟨hi, hco⟩ := hx
  obtain ⟨hq, hn1, hn2⟩ := Fc.hn hco
  refine xcall_of_vc Try.func14 rfl _ Try.ntmps14 _ rfl (fun _ _ => Try.call14 _ _) rfl (fun w0 ρ0 => ?_)
  conv => whnf
  repeat' (first | (refine ⟨⟨[], rfl⟩, _, PH.Le.refl _, PH.Le.refl _, ?_⟩; conv => whnf) | (refine caseB_true ?_; conv => whnf) | (refine caseB_false ?_; conv => whnf) | ((with_reducible refine caseB_dec (fun h => ?_) (fun h => ?_)) <;> conv => whnf) | ((with_reducible refine caseB_ndec (fun h => ?_) (fun h => ?_)) <;> conv => whnf) | ((with_reducible refine caseB_not (fun h => ?_) (fun h => ?_)) <;> conv => whnf) | (refine Ret.go (sameRequests_impl x.c.get y.c.get x.hA y.hA x.hc y.hc _ hi.h hy.h hn1) ?_; conv => whnf) | (refine Ret.go (equalWaiter_ret x.wA y.wA x.wc y.wc x.c.ws y.c.ws _ hi.w hy.w hn2) ?_; conv => whnf) | (with_reducible refine @And.intro (guardVC _ _ _ _ _) _ ?_ ?_) <;> conv => whnf | (refine caseB_intro (fun h => ?_) (fun h => ?_) <;> (try simp only [Bool.not_eq_true', Bool.not_eq_false', decide_eq_true_eq, decide_eq_false_iff_not] at h) <;> conv => whnf))
  all_goals refine ⟨_, PH.Le.refl _, ?_, rfl⟩
  all_goals first
    | (rw [sameB_false (fun e => by rw [e] at h; first | exact h rfl | (simp [seq_self, sameB_true] at h))]; rfl; done)
    | (rw [fl_same (by assumption) (seq_iff.1 (by assumption)) (by simpa using ‹(x.c.back == y.c.back) = true›) (by simpa using ‹(x.c.out == y.c.out) = true›) (by assumption) (by simpa using ‹(x.c.doomed == y.c.doomed) = true›) (sameB_iff.1 (by assumption))]; rfl)
theorem equalFuncFl (g : FuncId) (A A' : Option Addr) (c c' : Nat) (ws us : List FlA) (M : PH) (hs : Sl M A 11 FlA.cs ws) (hs' : Sl M A' 11 FlA.cs us) (hn : ws.length ≤ 1048576)
    (hg : ∀ x y, x ∈ ws → y ∈ us → Ret g [x.val, y.val] M (B (sameB x.c y.c))) :
    XCall env 13 [.v (.slice A ws.length c), .v (.slice A' us.length c'), .fn g []] [] M fun r b M' => r = B (sameB (ws.map (·.c)) (us.map (·.c))) ∧ b = [] ∧ M' = M := by
  have hne : ∀ i (h1 : i < ws.length) (h2 : i < us.length), ws[i].c ≠ us[i].c → ws.map (·.c) ≠ us.map (·.c) := fun i h1 h2 h e => h (by
    have := congrArg (fun l : List Fc => l[i]?) e
    simpa [h1, h2] using this)
  refine xcall_of_vc Try.func13 rfl _ Try.ntmps13 _ rfl (fun _ _ => Try.call13 _ _) rfl (fun w0 ρ0 => ?_)
  conv => whnf
  repeat' (first | (refine ⟨⟨[], rfl⟩, _, PH.Le.refl _, PH.Le.refl _, ?_⟩; conv => whnf) | (refine caseB_true ?_; conv => whnf) | (refine caseB_false ?_; conv => whnf) | ((with_reducible refine caseB_dec (fun h => ?_) (fun h => ?_)) <;> conv => whnf) | ((with_reducible refine caseB_ndec (fun h => ?_) (fun h => ?_)) <;> conv => whnf) | ((with_reducible refine caseB_not (fun h => ?_) (fun h => ?_)) <;> conv => whnf) | (with_reducible refine @And.intro (guardVC _ _ _ _ _) _ ?_ ?_) <;> conv => whnf | (refine caseB_intro (fun h => ?_) (fun h => ?_) <;> (try simp only [Bool.not_eq_true', Bool.not_eq_false', decide_eq_true_eq, decide_eq_false_iff_not] at h) <;> conv => whnf))
  · refine ⟨_, PH.Le.refl _, ?_, rfl, rfl⟩
    rw [sameB_false (fun e => by have := congrArg List.length e; simp at this; omega)]
    rfl
  refine loop_rule (fun i : Nat => ⟨slots 32 [(0, .v (.slice A ws.length c)), (1, .v (.slice A' us.length c')), (2, .fn g []), (15, .v (.slice A ws.length c)), (16, .v (I ws.length)), (17, .v (I i))], []⟩) (fun i M' => i ≤ ws.length ∧ (ws.map (·.c)).take i = (us.map (·.c)).take i ∧ M' = M) (fun i => ws.length - i) 0 ?_ ?_ ?_
  · exact ⟨by simp [slots, leT], ⟨[], rfl⟩, Nat.zero_le _, rfl, rfl⟩
  · exact ⟨Nat.zero_le _, rfl, rfl⟩
  · rintro i M' ⟨hi, ht, rfl⟩
    conv => whnf
    repeat' (first | (refine ⟨⟨[], rfl⟩, _, PH.Le.refl _, PH.Le.refl _, ?_⟩; conv => whnf) | (refine caseB_true ?_; conv => whnf) | (refine caseB_false ?_; conv => whnf) | ((with_reducible refine caseB_dec (fun h => ?_) (fun h => ?_)) <;> conv => whnf) | ((with_reducible refine caseB_ndec (fun h => ?_) (fun h => ?_)) <;> conv => whnf) | ((with_reducible refine caseB_not (fun h => ?_) (fun h => ?_)) <;> conv => whnf) | (with_reducible refine @And.intro (guardVC _ _ _ _ _) _ ?_ ?_) <;> conv => whnf | (refine caseB_intro (fun h => ?_) (fun h => ?_) <;> (try simp only [Bool.not_eq_true', Bool.not_eq_false', decide_eq_true_eq, decide_eq_false_iff_not] at h) <;> conv => whnf))
    · have hi' : i < ws.length := by omega
      have hi2 : i < us.length := by omega
      have hw : IntKind.i64.wrap ((i : Int) + 1) = (i : Int) + 1 := wr_id (by omega) (by omega)
      obtain ⟨hA, _, hc⟩ := hs.get hi'
      obtain ⟨hA', _, hc'⟩ := hs'.get hi2
      repeat' (first | (refine ⟨⟨[], rfl⟩, _, PH.Le.refl _, PH.Le.refl _, ?_⟩; conv => whnf) | (refine ⟨us[i].cs, hc', rfl, ?_⟩; conv => whnf) | (refine ⟨ws[i].cs, hc, rfl, ?_⟩; conv => whnf) | (refine ⟨by omega, by omega, hA', ?_⟩; conv => whnf) | (refine ⟨by omega, by omega, hA, ?_⟩; conv => whnf) | (refine caseB_true ?_; conv => whnf) | (refine caseB_false ?_; conv => whnf) | ((with_reducible refine caseB_dec (fun h => ?_) (fun h => ?_)) <;> conv => whnf) | ((with_reducible refine caseB_ndec (fun h => ?_) (fun h => ?_)) <;> conv => whnf) | ((with_reducible refine caseB_not (fun h => ?_) (fun h => ?_)) <;> conv => whnf) | (refine Ret.go (hg ws[i] us[i] (List.getElem_mem hi') (List.getElem_mem hi2)) ?_; conv => whnf) | (with_reducible refine @And.intro (guardVC _ _ _ _ _) _ ?_ ?_) <;> conv => whnf | (refine caseB_intro (fun h => ?_) (fun h => ?_) <;> (try simp only [Bool.not_eq_true', Bool.not_eq_false', decide_eq_true_eq, decide_eq_false_iff_not] at h) <;> conv => whnf))
      · rename_i h
        refine ⟨_, PH.Le.refl _, ?_, rfl, rfl⟩
        rw [sameB_false (hne i hi' hi2 (fun e => by rw [sameB_true e] at h; cases h))]
        rfl
      · rename_i h
        exact ⟨i + 1, ⟨by simp [slots, leT, hw], ⟨_, rfl⟩, Nat.zero_le _, rfl, rfl⟩, ⟨by omega, take_step ht (by simpa using hi') (by simpa using hi2) (by simpa using sameB_iff.1 h), rfl⟩, by omega⟩
    · refine ⟨_, PH.Le.refl _, ?_, rfl, rfl⟩
      rw [sameB_true (take_all ht (by simp; omega) (by simp; omega))]
      rfl

theorem sameFlights_impl (A A' : Option Addr) (c c' : Nat) (ws us : List FlA) (M : PH) (hs : Sl M A 11 FlA.cs ws) (hs' : Sl M A' 11 FlA.cs us) (hi : ∀ x ∈ ws, x.inn M ∧ x.c.cost ≤ 1048576) (hi' : ∀ x ∈ us, x.inn M) (hn : ws.length ≤ 1048576) :
    Ret 7 [.slice A ws.length c, .slice A' us.length c'] M (B (sameB (ws.map (·.c)) (us.map (·.c)))) := by
  refine xcall_of_vc Try.func7 rfl _ Try.ntmps7 _ rfl (fun _ _ => Try.call7 _ _) rfl (fun w0 ρ0 => ?_)
  conv => whnf
  refine XCall.mono (equalFuncFl _ A A' c c' ws us M hs hs' hn fun x y hx hy => sameFlight_ret x y M (hi x hx) (hi' y hy)) fun r b M' hh => ?_
  obtain ⟨rfl, rfl, rfl⟩ := hh
  conv => whnf
  exact ⟨_, PH.Le.refl _, rfl, rfl⟩
theorem sameFlights_spec (A A' : Option Addr) (c c' : Nat) (ws us : List FlA) (M : PH) (hs : Sl M A 11 FlA.cs ws) (hs' : Sl M A' 11 FlA.cs us) (hi : ∀ x ∈ ws, x.inn M ∧ x.c.cost ≤ 1048576) (hi' : ∀ x ∈ us, x.inn M) (hn : ws.length ≤ 1048576) :
    Ret 5 [.slice A ws.length c, .slice A' us.length c'] M (B (sameB (ws.map (·.c)) (us.map (·.c)))) := by
  have hne : ∀ i (h1 : i < ws.length) (h2 : i < us.length), ws[i].c ≠ us[i].c → ws.map (·.c) ≠ us.map (·.c) := fun i h1 h2 h e => h (by
    have := congrArg (fun l : List Fc => l[i]?) e
    simpa [h1, h2] using this)
  refine xcall_of_vc Try.func5 rfl _ Try.ntmps5 _ rfl (fun _ _ => Try.call5 _ _) rfl (fun w0 ρ0 => ?_)
  conv => whnf
  repeat' (first | (refine ⟨⟨[], rfl⟩, _, PH.Le.refl _, PH.Le.refl _, ?_⟩; conv => whnf) | (refine caseB_true ?_; conv => whnf) | (refine caseB_false ?_; conv => whnf) | ((with_reducible refine caseB_dec (fun h => ?_) (fun h => ?_)) <;> conv => whnf) | ((with_reducible refine caseB_ndec (fun h => ?_) (fun h => ?_)) <;> conv => whnf) | ((with_reducible refine caseB_not (fun h => ?_) (fun h => ?_)) <;> conv => whnf) | (with_reducible refine @And.intro (guardVC _ _ _ _ _) _ ?_ ?_) <;> conv => whnf | (refine caseB_intro (fun h => ?_) (fun h => ?_) <;> (try simp only [Bool.not_eq_true', Bool.not_eq_false', decide_eq_true_eq, decide_eq_false_iff_not] at h) <;> conv => whnf))
  · refine ⟨_, PH.Le.refl _, ?_, rfl⟩
    rw [sameB_false (fun e => by have := congrArg List.length e; simp at this; omega)]
    rfl
  refine loop_rule (fun i : Nat => ⟨slots 83 [(0, .v (.slice A ws.length c)), (1, .v (.slice A' us.length c')), (5, .v (I i))], []⟩) (fun i M' => i ≤ ws.length ∧ (ws.map (·.c)).take i = (us.map (·.c)).take i ∧ M' = M) (fun i => ws.length - i) 0 ?_ ?_ ?_
  · exact ⟨by simp [slots, leT], ⟨[], rfl⟩, Nat.zero_le _, rfl, rfl⟩
  · exact ⟨Nat.zero_le _, rfl, rfl⟩
  · rintro i M' ⟨hi0, ht, rfl⟩
    conv => whnf
    repeat' (first | (refine ⟨⟨[], rfl⟩, _, PH.Le.refl _, PH.Le.refl _, ?_⟩; conv => whnf) | (refine caseB_true ?_; conv => whnf) | (refine caseB_false ?_; conv => whnf) | ((with_reducible refine caseB_dec (fun h => ?_) (fun h => ?_)) <;> conv => whnf) | ((with_reducible refine caseB_ndec (fun h => ?_) (fun h => ?_)) <;> conv => whnf) | ((with_reducible refine caseB_not (fun h => ?_) (fun h => ?_)) <;> conv => whnf) | (with_reducible refine @And.intro (guardVC _ _ _ _ _) _ ?_ ?_) <;> conv => whnf | (refine caseB_intro (fun h => ?_) (fun h => ?_) <;> (try simp only [Bool.not_eq_true', Bool.not_eq_false', decide_eq_true_eq, decide_eq_false_iff_not] at h) <;> conv => whnf))
    · have hi1 : i < ws.length := by omega
      have hi2 : i < us.length := by omega
      have hw : IntKind.i64.wrap ((i : Int) + 1) = (i : Int) + 1 := wr_id (by omega) (by omega)
      obtain ⟨hA, _, hc⟩ := hs.get hi1
      obtain ⟨hA', _, hc'⟩ := hs'.get hi2
      obtain ⟨ix, hco⟩ := hi ws[i] (List.getElem_mem hi1)
      have iy := hi' us[i] (List.getElem_mem hi2)
      obtain ⟨hq, hn1, hn2⟩ := Fc.hn hco
      have hne' := hne i hi1 hi2
      have hstep := take_step (xs := ws.map (·.c)) (ys := us.map (·.c)) ht (by simpa using hi1) (by simpa using hi2)
      simp only [List.getElem_map] at hstep
      generalize ws[i] = x at hc ix hco hq hn1 hn2 hne' hstep
      generalize us[i] = y at hc' iy hne' hstep
      repeat' (first | (refine ⟨⟨[], rfl⟩, _, PH.Le.refl _, PH.Le.refl _, ?_⟩; conv => whnf) | (refine ⟨y.cs, hc', rfl, ?_⟩; conv => whnf) | (refine ⟨x.cs, hc, rfl, ?_⟩; conv => whnf) | (refine ⟨by omega, by omega, hA', ?_⟩; conv => whnf) | (refine ⟨by omega, by omega, hA, ?_⟩; conv => whnf) | (refine caseB_true ?_; conv => whnf) | (refine caseB_false ?_; conv => whnf) | ((with_reducible refine caseB_dec (fun h => ?_) (fun h => ?_)) <;> conv => whnf) | ((with_reducible refine caseB_ndec (fun h => ?_) (fun h => ?_)) <;> conv => whnf) | ((with_reducible refine caseB_not (fun h => ?_) (fun h => ?_)) <;> conv => whnf) | (refine Ret.go (sameRequests_spec x.c.get y.c.get x.hA y.hA x.hc y.hc _ ix.h iy.h hn1) ?_; conv => whnf) | (refine Ret.go (sameWaiters_spec x.wA y.wA x.wc y.wc x.c.ws y.c.ws _ ix.w iy.w hn2) ?_; conv => whnf) | (with_reducible refine @And.intro (guardVC _ _ _ _ _) _ ?_ ?_) <;> conv => whnf | (refine caseB_intro (fun h => ?_) (fun h => ?_) <;> (try simp only [Bool.not_eq_true', Bool.not_eq_false', decide_eq_true_eq, decide_eq_false_iff_not] at h) <;> conv => whnf))
      all_goals first
        | (refine ⟨_, PH.Le.refl _, ?_, rfl⟩; rw [sameB_false (hne' (fun e => by rw [e] at h; first | exact h rfl | (simp [seq_self, sameB_true] at h)))]; rfl; done)
        | exact ⟨i + 1, ⟨by simp [slots, leT, hw], ⟨_, rfl⟩, Nat.zero_le _, rfl, rfl⟩, ⟨by omega, hstep (sameB_iff.1 (by rw [fl_same (by assumption) (seq_iff.1 (by assumption)) (by simpa using ‹(x.c.back == y.c.back) = true›) (by simpa using ‹(x.c.out == y.c.out) = true›) (by assumption) (by simpa using ‹(x.c.doomed == y.c.doomed) = true›) (sameB_iff.1 (by assumption))]; assumption)), rfl⟩, by omega⟩
    · refine ⟨_, PH.Le.refl _, ?_, rfl⟩
      rw [sameB_true (take_all ht (by simp; omega) (by simp; omega))]
      rfl
end Go.Proofs.Ytnnfbjbfdoepmaa
