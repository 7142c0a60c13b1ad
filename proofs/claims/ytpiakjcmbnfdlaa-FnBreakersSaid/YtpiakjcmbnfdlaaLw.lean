/-
  CONTRACTS: a breaker is asked: both ways of it, and the law.
-/
import Derived.Test.YtpiakjcmbnfdlaaLv
namespace Go.Proofs.Ytpiakjcmbnfdlaa
set_option maxRecDepth 100000
set_option linter.unusedSimpArgs false
set_option linter.unusedVariables false
open Go.Xe
structure AlR where
  why : Int
  k : K3
  ws : List Mk
  b : Bool
abbrev alV (why : Int) (k : K3) (A : Option Addr) (m c : Nat) (b : Bool) : Value := .agg #[I why, I k.p, I k.q, I k.r, .slice A m c, B b]
noncomputable def allowOf (k : K3) (ws : List Mk) (r : Rl) (t : Int) : AlR := if askOf k ws r t ≠ 0 then ⟨askOf k ws r t, ⟨0, 0, 0⟩, [], false⟩ else ⟨0, allowK k r t, ws, allowB k r t⟩
theorem allowOf_bad {k : K3} {ws : List Mk} {r : Rl} {t : Int} (h : ¬ askOf k ws r t = 0) : allowOf k ws r t = ⟨askOf k ws r t, ⟨0, 0, 0⟩, [], false⟩ := if_pos h
theorem allowOf_ok {k : K3} {ws : List Mk} {r : Rl} {t : Int} (h : askOf k ws r t = 0) : allowOf k ws r t = ⟨0, allowK k r t, ws, allowB k r t⟩ := if_neg (by simpa using h)
theorem askOf_br {k : K3} {ws : List Mk} {r : Rl} {t : Int} (h : askOf k ws r t = 0) : brFault k ws = 0 := by
  unfold askOf at h
  split at h
  · contradiction
  · rename_i e; simpa using e
theorem allowFetch_impl (k : K3) (A : Option Addr) (c : Nat) (ws : List Mk) (r : Rl) (t : Int) (M : PH) (hs : Sl M A 2 Mk.cs ws) (hn : ws.length ≤ 1048576) :
    ACall env 51 [brV k A ws.length c, r.v, I t] M fun r' M' => ∃ o A' c', r' = alV (allowOf k ws r t).why (allowOf k ws r t).k A' (allowOf k ws r t).ws.length c' (allowOf k ws r t).b ∧ New M M' o A' c' 2 Mk.cs (allowOf k ws r t).ws := by
  refine xcall_of_vc Try.func51 rfl _ Try.ntmps51 _ rfl (fun _ _ => Try.call51 _ _) rfl (fun w0 ρ0 => ?_)
  conv => whnf
  repeat' (first | (refine ⟨⟨[], rfl⟩, _, PH.Le.refl _, PH.Le.refl _, ?_⟩; conv => whnf) | (refine caseB_true ?_; conv => whnf) | (refine caseB_false ?_; conv => whnf) | ((with_reducible refine caseB_dec (fun h => ?_) (fun h => ?_)) <;> conv => whnf) | ((with_reducible refine caseB_ndec (fun h => ?_) (fun h => ?_)) <;> conv => whnf) | ((with_reducible refine caseB_not (fun h => ?_) (fun h => ?_)) <;> conv => whnf) | (refine Ret.go (breakerCode_ret k A c ws r t _ hs hn) ?_; conv => whnf) | (with_reducible refine @And.intro (guardVC _ _ _ _ _) _ ?_ ?_) <;> conv => whnf | (refine caseB_intro (fun h => ?_) (fun h => ?_) <;> (try simp only [Bool.not_eq_true', Bool.not_eq_false', decide_eq_true_eq, decide_eq_false_iff_not] at h) <;> conv => whnf))
  · rw [allowOf_bad h]
    exact ⟨_, PH.Le.refl _, none, none, 0, rfl, New.nil M none⟩
  · rw [allowOf_ok h]
    refine ACall.step (copyBreaker_ret k A c ws M hs hn) fun r M1 hh => ?_
    obtain ⟨o, A1, c1, rfl, hN⟩ := hh
    conv => whnf
    refine XCall.lift (allow_ret k A1 ws.length c1 _ t M1) [3] rfl rfl (by simp) rfl ?_
    rintro r b M2 ⟨rfl, rfl, rfl⟩
    refine ⟨rfl, ?_⟩
    conv => whnf
    exact ⟨_, PH.Le.refl _, o, A1, c1, rfl, hN⟩
theorem allowFetch_spec (k : K3) (A : Option Addr) (c : Nat) (ws : List Mk) (r : Rl) (t : Int) (M : PH) (hs : Sl M A 2 Mk.cs ws) (hn : ws.length ≤ 1048576) :
    ACall env 52 [brV k A ws.length c, r.v, I t] M fun r' M' => ∃ A' c', r' = alV (allowOf k ws r t).why (allowOf k ws r t).k A' (allowOf k ws r t).ws.length c' (allowOf k ws r t).b ∧ M.Le M' ∧ Sl M' A' 2 Mk.cs (allowOf k ws r t).ws := by
  refine xcall_of_vc Try.func52 rfl _ Try.ntmps52 _ rfl (fun _ _ => Try.call52 _ _) rfl (fun w0 ρ0 => ?_)
  conv => whnf
  refine XCall.lift (l10Ask_ret k A c ws r t M hs hn) [0, 1] rfl rfl (by simp) rfl ?_
  rintro r' b M1 ⟨rfl, rfl, rfl⟩
  refine ⟨rfl, ?_⟩
  conv => whnf
  repeat' (first | (refine ⟨⟨[], rfl⟩, _, PH.Le.refl _, PH.Le.refl _, ?_⟩; conv => whnf) | (refine caseB_true ?_; conv => whnf) | (refine caseB_false ?_; conv => whnf) | ((with_reducible refine caseB_dec (fun h => ?_) (fun h => ?_)) <;> conv => whnf) | ((with_reducible refine caseB_ndec (fun h => ?_) (fun h => ?_)) <;> conv => whnf) | ((with_reducible refine caseB_not (fun h => ?_) (fun h => ?_)) <;> conv => whnf) | (with_reducible refine @And.intro (guardVC _ _ _ _ _) _ ?_ ?_) <;> conv => whnf | (refine caseB_intro (fun h => ?_) (fun h => ?_) <;> (try simp only [Bool.not_eq_true', Bool.not_eq_false', decide_eq_true_eq, decide_eq_false_iff_not] at h) <;> conv => whnf))
  · rw [allowOf_bad h]
    exact ⟨_, PH.Le.refl _, none, 0, rfl, PH.Le.refl _, Sl.nil⟩
  · rw [allowOf_ok h]
    refine XCall.lift (l10Copy_ret k A c ws M1 hs hn) [0] rfl rfl (by simp) rfl ?_
    rintro r' b M2 ⟨⟨o, A1, c1, rfl, hN⟩, rfl⟩
    refine ⟨rfl, ?_⟩
    conv => whnf
    refine XCall.lift (l10Allow_ret k A1 ws.length c1 r t M2 (brFault_srt (askOf_br h)).2.1) [3, 1] rfl rfl (by simp) rfl ?_
    rintro r' b M3 ⟨rfl, rfl, rfl⟩
    refine ⟨rfl, ?_⟩
    conv => whnf
    exact ⟨_, PH.Le.refl _, A1, c1, rfl, hN.le, hN.ow.sl Mk.len⟩
theorem eqAllow_ret (w : Int) (k : K3) (b : Bool) (A A' : Option Addr) (c c' : Nat) (ws : List Mk) (M : PH) (hs : Sl M A 2 Mk.cs ws) (hs' : Sl M A' 2 Mk.cs ws) (hn : ws.length ≤ 1048576) :
    Ret 56 [alV w k A ws.length c b, alV w k A' ws.length c' b] M (B true) := by
  refine xcall_of_vc Try.func56 rfl _ Try.ntmps56 _ rfl (fun _ _ => Try.call56 _ _) rfl (fun w0 ρ0 => ?_)
  conv => whnf
  repeat' (first | (refine ⟨⟨[], rfl⟩, _, PH.Le.refl _, PH.Le.refl _, ?_⟩; conv => whnf) | (refine caseB_true ?_; conv => whnf) | (refine caseB_false ?_; conv => whnf) | ((with_reducible refine caseB_dec (fun h => ?_) (fun h => ?_)) <;> conv => whnf) | ((with_reducible refine caseB_ndec (fun h => ?_) (fun h => ?_)) <;> conv => whnf) | ((with_reducible refine caseB_not (fun h => ?_) (fun h => ?_)) <;> conv => whnf) | (refine Ret.go (eqBreaker_ret k A A' c c' ws _ hs hs' hn) ?_; conv => whnf) | (with_reducible refine @And.intro (guardVC _ _ _ _ _) _ ?_ ?_) <;> conv => whnf | (refine caseB_intro (fun h => ?_) (fun h => ?_) <;> (try simp only [Bool.not_eq_true', Bool.not_eq_false', decide_eq_true_eq, decide_eq_false_iff_not] at h) <;> conv => whnf))
  all_goals first | (exfalso; simp at h; done) | exact ⟨_, PH.Le.refl _, rfl, rfl⟩
theorem markBreaker_ret (k : K3) (o : Option Nat) (A : Option Addr) (c : Nat) (ws : List Mk) (j : Int) (M : PH) (h : Ow M o A c 2 Mk.cs ws) (hn : ws.length ≤ 1048576) (hj : 0 ≤ j ∧ j ≤ 1000000000) :
    ACall env 57 [brV k A ws.length c, I j] M fun r M' => r = I (j + 2 * ws.length) ∧ Ow M' o A c 2 Mk.cs (marksM j ws.length) ∧ Keeps o M M' := by
  refine xcall_of_vc Try.func57 rfl _ Try.ntmps57 _ rfl (fun _ _ => Try.call57 _ _) rfl (fun w0 ρ0 => ?_)
  conv => whnf
  refine ACall.step (markMarkS_ret o A c ws j M h (by omega) (by omega)) fun r M' hh => ?_
  obtain ⟨rfl, h1, h2⟩ := hh
  conv => whnf
  exact ⟨_, PH.Le.refl _, rfl, h1, h2⟩
theorem heldBreaker_ret (k : K3) (A : Option Addr) (c n : Nat) (j : Int) (M : PH) (hM : Sl M A 2 Mk.cs (marksM j n)) (hn : n ≤ 1048576) (hj : 0 ≤ j ∧ j ≤ 1000000000) :
    Ret 110 [brV k A n c, I j] M (I (j + 2 * n)) := by
  refine xcall_of_vc Try.func110 rfl _ Try.ntmps110 _ rfl (fun _ _ => Try.call110 _ _) rfl (fun w0 ρ0 => ?_)
  conv => whnf
  repeat' (first | (refine ⟨⟨[], rfl⟩, _, PH.Le.refl _, PH.Le.refl _, ?_⟩; conv => whnf) | (refine caseB_true ?_; conv => whnf) | (refine caseB_false ?_; conv => whnf) | ((with_reducible refine caseB_dec (fun h => ?_) (fun h => ?_)) <;> conv => whnf) | ((with_reducible refine caseB_ndec (fun h => ?_) (fun h => ?_)) <;> conv => whnf) | ((with_reducible refine caseB_not (fun h => ?_) (fun h => ?_)) <;> conv => whnf) | (refine Ret.go (heldMarkS_ret A c n j _ hM (by omega) (by omega)) ?_; conv => whnf) | (with_reducible refine @And.intro (guardVC _ _ _ _ _) _ ?_ ?_) <;> conv => whnf | (refine caseB_intro (fun h => ?_) (fun h => ?_) <;> (try simp only [Bool.not_eq_true', Bool.not_eq_false', decide_eq_true_eq, decide_eq_false_iff_not] at h) <;> conv => whnf))
  all_goals first | omega | exact ⟨_, PH.Le.refl _, rfl, rfl⟩
theorem markAllow_ret (w : Int) (k : K3) (b : Bool) (o : Option Nat) (A : Option Addr) (c : Nat) (ws : List Mk) (j : Int) (M : PH) (h : Ow M o A c 2 Mk.cs ws) (hn : ws.length ≤ 1048576) (hj : 0 ≤ j ∧ j ≤ 1000000000) :
    ACall env 58 [alV w k A ws.length c b, I j] M fun r M' => r = I (j + 2 * ws.length) ∧ Ow M' o A c 2 Mk.cs (marksM j ws.length) ∧ Keeps o M M' := by
  refine xcall_of_vc Try.func58 rfl _ Try.ntmps58 _ rfl (fun _ _ => Try.call58 _ _) rfl (fun w0 ρ0 => ?_)
  conv => whnf
  refine ACall.step (markBreaker_ret k o A c ws j M h (by omega) (by omega)) fun r M' hh => ?_
  obtain ⟨rfl, h1, h2⟩ := hh
  conv => whnf
  exact ⟨_, PH.Le.refl _, rfl, h1, h2⟩
theorem heldAllow_ret (w : Int) (k : K3) (b : Bool) (A : Option Addr) (c n : Nat) (j : Int) (M : PH) (hM : Sl M A 2 Mk.cs (marksM j n)) (hn : n ≤ 1048576) (hj : 0 ≤ j ∧ j ≤ 1000000000) :
    Ret 59 [alV w k A n c b, I j] M (I (j + 2 * n)) := by
  refine xcall_of_vc Try.func59 rfl _ Try.ntmps59 _ rfl (fun _ _ => Try.call59 _ _) rfl (fun w0 ρ0 => ?_)
  conv => whnf
  repeat' (first | (refine ⟨⟨[], rfl⟩, _, PH.Le.refl _, PH.Le.refl _, ?_⟩; conv => whnf) | (refine caseB_true ?_; conv => whnf) | (refine caseB_false ?_; conv => whnf) | ((with_reducible refine caseB_dec (fun h => ?_) (fun h => ?_)) <;> conv => whnf) | ((with_reducible refine caseB_ndec (fun h => ?_) (fun h => ?_)) <;> conv => whnf) | ((with_reducible refine caseB_not (fun h => ?_) (fun h => ?_)) <;> conv => whnf) | (refine Ret.go (heldBreaker_ret k A c n j _ hM (by omega) (by omega)) ?_; conv => whnf) | (with_reducible refine @And.intro (guardVC _ _ _ _ _) _ ?_ ?_) <;> conv => whnf | (refine caseB_intro (fun h => ?_) (fun h => ?_) <;> (try simp only [Bool.not_eq_true', Bool.not_eq_false', decide_eq_true_eq, decide_eq_false_iff_not] at h) <;> conv => whnf))
  all_goals first | omega | exact ⟨_, PH.Le.refl _, rfl, rfl⟩
theorem allowOf_len (k : K3) (ws : List Mk) (r : Rl) (t : Int) (hn : ws.length ≤ 1048576) : (allowOf k ws r t).ws.length ≤ 1048576 := by
  unfold allowOf
  split
  · exact Nat.zero_le _
  · exact hn
set_option maxHeartbeats 4000000 in
theorem allowFetch_law (k : K3) (r : Rl) (t : Int) (A : Option Addr) (c : Nat) (ws : List Mk) (M : PH) (hs : Sl M A 2 Mk.cs ws) (h63 : ws.length ≤ maxLen) :
    ACall env 12 [brV k A ws.length c, r.v, I t] M fun r M' => r = B true ∧ M.Le M' := by
  refine xcall_of_vc Try.func12 rfl _ Try.ntmps12 _ rfl (fun _ _ => Try.call12 _ _) rfl (fun w0 ρ0 => ?_)
  conv => whnf
  repeat' (first | (refine ⟨⟨[], rfl⟩, _, PH.Le.refl _, PH.Le.refl _, ?_⟩; conv => whnf) | (refine caseB_true ?_; conv => whnf) | (refine caseB_false ?_; conv => whnf) | ((with_reducible refine caseB_dec (fun h => ?_) (fun h => ?_)) <;> conv => whnf) | ((with_reducible refine caseB_ndec (fun h => ?_) (fun h => ?_)) <;> conv => whnf) | ((with_reducible refine caseB_not (fun h => ?_) (fun h => ?_)) <;> conv => whnf) | (refine Ret.go (szBreaker_ret k A c ws _ _) ?_; conv => whnf) | (with_reducible refine @And.intro (guardVC _ _ _ _ _) _ ?_ ?_) <;> conv => whnf | (refine caseB_intro (fun h => ?_) (fun h => ?_) <;> (try simp only [Bool.not_eq_true', Bool.not_eq_false', decide_eq_true_eq, decide_eq_false_iff_not] at h) <;> conv => whnf))
  · exact ⟨_, PH.Le.refl _, rfl, PH.Le.refl _⟩
  obtain ⟨e1, b1⟩ := sz_in (by omega) (by omega) h63 h
  have hn : ws.length ≤ 1048576 := by omega
  clear h e1 b1
  have hn2 : (allowOf k ws r t).ws.length ≤ 1048576 := allowOf_len k ws r t hn
  refine join_rule (fun z : Option Addr × Nat => ⟨slots 82 [(2, .v (I t)), (3, .bp 0 0), (4, .bp 1 0), (6, .v (B false)), (8, .bp 2 0)], [⟨24, [.v (I k.p), .v (I k.q), .v (I k.r), .v (.slice A ws.length c)]⟩, ⟨86, [.v (I r.a), .v (I r.b), .v (I r.c), .v (I r.d), .v (I r.e)]⟩, ⟨83, [.v (I (allowOf k ws r t).why), .v (I (allowOf k ws r t).k.p), .v (I (allowOf k ws r t).k.q), .v (I (allowOf k ws r t).k.r), .v (.slice z.1 (allowOf k ws r t).ws.length z.2), .v (B (allowOf k ws r t).b)]⟩]⟩) (fun z M' => M.Le M' ∧ Sl M' z.1 2 Mk.cs (allowOf k ws r t).ws) ?_ ?_
  · repeat' (first | (refine ⟨⟨[], rfl⟩, _, PH.Le.refl _, PH.Le.refl _, ?_⟩; conv => whnf) | (refine ⟨⟨_, rfl⟩, _, PH.Le.refl _, PH.Le.refl _, ?_⟩; conv => whnf) | (refine ACall.step (allowFetch_spec k _ _ ws r t _ (by first | assumption | exact Sl.mono (by assumption) (by repeat (first | exact PH.Le.refl _ | assumption | (apply PH.Le.trans; · assumption)))) hn) fun r M2 hh => ?_; obtain ⟨Aw, cw, rfl, lw, sw⟩ := hh; (first | (refine ⟨⟨[], rfl⟩, _, lw, PH.Le.refl _, ?_⟩; conv => whnf) | conv => whnf)) | (refine ACall.step (toBreaker_new k A c ws _ (hs.mono (by repeat (first | exact PH.Le.refl _ | assumption | (apply PH.Le.trans; · assumption)))) hn) fun r M1 hh => ?_; obtain ⟨g, rfl, l1, s1⟩ := hh; (first | (refine ⟨⟨[], rfl⟩, _, l1, PH.Le.refl _, ?_⟩; conv => whnf) | (refine ⟨⟨_, rfl⟩, _, l1, PH.Le.refl _, ?_⟩; conv => whnf) | conv => whnf)) | (refine caseB_true ?_; conv => whnf) | (refine caseB_false ?_; conv => whnf) | ((with_reducible refine caseB_dec (fun h => ?_) (fun h => ?_)) <;> conv => whnf) | ((with_reducible refine caseB_ndec (fun h => ?_) (fun h => ?_)) <;> conv => whnf) | ((with_reducible refine caseB_not (fun h => ?_) (fun h => ?_)) <;> conv => whnf) | (refine Ret.go (toRules_ret r _) ?_; conv => whnf) | (refine draw_rule (.light 0 <| .light 2 <| .light 4 <| .alt 1 false (.alt 3 false (.alt 5 false (.alt 6 false (.alt 7 true (.done) .nil) .nil) (.alt 6 false (.alt 5 false (.alt 7 true (.done) .nil) .nil) .nil)) (.alt 6 false (.alt 3 false (.alt 5 false (.alt 7 true (.done) .nil) .nil) .nil) .nil)) (.alt 6 false (.alt 1 false (.alt 3 false (.alt 5 false (.alt 7 true (.done) .nil) .nil) .nil) .nil) .nil)) (by decide +kernel) ?_; conv => whnf) | (refine draw_rule (.light 0 <| .light 1 <| .light 3 <| .alt 2 false (.alt 4 false (.alt 5 false (.alt 6 true (.done) .nil) .nil) (.alt 5 false (.alt 4 false (.alt 6 true (.done) .nil) .nil) .nil)) (.alt 5 false (.alt 2 false (.alt 4 false (.alt 6 true (.done) .nil) .nil) .nil) .nil)) (by decide +kernel) ?_; conv => whnf) | (refine draw_rule (.light 0 <| .light 1 <| .alt 2 false (.alt 3 false (.light 4 <| .done) .nil) .nil) (by decide +kernel) ?_; conv => whnf) | (refine draw_rule (.light 0 <| .light 2 <| .light 4 <| .alt 1 false (.alt 3 false (.alt 5 false (.alt 6 false (.alt 7 true (.done) .nil) .nil) (.alt 6 false (.alt 5 false (.alt 7 true (.done) .nil) .nil) .nil)) (.alt 6 false (.alt 3 false (.alt 5 false (.alt 7 true (.done) .nil) .nil) .nil) .nil)) (.alt 6 false (.alt 1 false (.alt 3 false (.alt 5 false (.alt 7 true (.done) .nil) .nil) .nil) .nil) .nil)) (by decide +kernel) ?_; conv => whnf) | (with_reducible refine @And.intro (guardVC _ _ _ _ _) _ ?_ ?_) <;> conv => whnf | (refine caseB_intro (fun h => ?_) (fun h => ?_) <;> (try simp only [Bool.not_eq_true', Bool.not_eq_false', decide_eq_true_eq, decide_eq_false_iff_not] at h) <;> conv => whnf))
    all_goals exact ⟨(Aw, cw), ⟨by simp [slots, leT], ⟨[], rfl⟩, by simp, rfl, rfl⟩, (by repeat (first | exact PH.Le.refl _ | assumption | (apply PH.Le.trans; · assumption))), (by first | assumption | exact Sl.mono (by assumption) (by repeat (first | exact PH.Le.refl _ | assumption | (apply PH.Le.trans; · assumption))))⟩
  rintro ⟨Aw, cw⟩ M1 ⟨l1, sw⟩
  conv => whnf
  refine ACall.step (toBreaker_own k A c ws _ (hs.mono l1) hn) fun r M2 hh => ?_
  obtain ⟨gx, rfl, Nx⟩ := hh
  conv => whnf
  have l2 := Nx.le
  have sx := Nx.ow.sl Mk.len
  refine join_rule (fun z : Option Nat × Option Addr × Nat => ⟨slots 82 [(2, .v (I t)), (3, .bp 0 0), (4, .bp 1 0), (6, .v (B false)), (8, .bp 2 0), (9, .bp (2 + 1) 0), (10, .bp (2 + 2) 0)], [⟨24, [.v (I k.p), .v (I k.q), .v (I k.r), .v (.slice A ws.length c)]⟩, ⟨86, [.v (I r.a), .v (I r.b), .v (I r.c), .v (I r.d), .v (I r.e)]⟩, ⟨83, [.v (I (allowOf k ws r t).why), .v (I (allowOf k ws r t).k.p), .v (I (allowOf k ws r t).k.q), .v (I (allowOf k ws r t).k.r), .v (.slice Aw (allowOf k ws r t).ws.length cw), .v (B (allowOf k ws r t).b)]⟩, ⟨29, [.v (I k.p), .v (I k.q), .v (I k.r), .v (.slice (some ⟨gx, 0, none⟩) ws.length ws.length)]⟩, ⟨83, [.v (I (allowOf k ws r t).why), .v (I (allowOf k ws r t).k.p), .v (I (allowOf k ws r t).k.q), .v (I (allowOf k ws r t).k.r), .v (.slice z.2.1 (allowOf k ws r t).ws.length z.2.2), .v (B (allowOf k ws r t).b)]⟩]⟩) (fun z M' => New M2 M' z.1 z.2.1 z.2.2 2 Mk.cs (allowOf k ws r t).ws) ?_ ?_
  · repeat' (first | (refine ⟨⟨[], rfl⟩, _, PH.Le.refl _, PH.Le.refl _, ?_⟩; conv => whnf) | (refine ⟨⟨_, rfl⟩, _, PH.Le.refl _, PH.Le.refl _, ?_⟩; conv => whnf) | (refine ACall.step (allowFetch_impl k _ _ ws r t _ (by first | assumption | exact Sl.mono (by assumption) (by repeat (first | exact PH.Le.refl _ | assumption | (apply PH.Le.trans; · assumption)))) hn) fun r M3 hh => ?_; obtain ⟨og, Ag, cg, rfl, Ng⟩ := hh; have lg := Ng.le; (first | (refine ⟨⟨[], rfl⟩, _, lg, PH.Le.refl _, ?_⟩; conv => whnf) | conv => whnf)) | (refine caseB_true ?_; conv => whnf) | (refine caseB_false ?_; conv => whnf) | ((with_reducible refine caseB_dec (fun h => ?_) (fun h => ?_)) <;> conv => whnf) | ((with_reducible refine caseB_ndec (fun h => ?_) (fun h => ?_)) <;> conv => whnf) | ((with_reducible refine caseB_not (fun h => ?_) (fun h => ?_)) <;> conv => whnf) | (refine Ret.go (toRules_ret r _) ?_; conv => whnf) | (refine draw_rule (.light 0 <| .light 2 <| .light 4 <| .alt 1 false (.alt 3 false (.alt 5 false (.alt 6 false (.alt 7 true (.done) .nil) .nil) (.alt 6 false (.alt 5 false (.alt 7 true (.done) .nil) .nil) .nil)) (.alt 6 false (.alt 3 false (.alt 5 false (.alt 7 true (.done) .nil) .nil) .nil) .nil)) (.alt 6 false (.alt 1 false (.alt 3 false (.alt 5 false (.alt 7 true (.done) .nil) .nil) .nil) .nil) .nil)) (by decide +kernel) ?_; conv => whnf) | (refine draw_rule (.light 0 <| .light 1 <| .light 3 <| .alt 2 false (.alt 4 false (.alt 5 false (.alt 6 true (.done) .nil) .nil) (.alt 5 false (.alt 4 false (.alt 6 true (.done) .nil) .nil) .nil)) (.alt 5 false (.alt 2 false (.alt 4 false (.alt 6 true (.done) .nil) .nil) .nil) .nil)) (by decide +kernel) ?_; conv => whnf) | (refine draw_rule (.light 0 <| .light 1 <| .alt 2 false (.alt 3 false (.light 4 <| .done) .nil) .nil) (by decide +kernel) ?_; conv => whnf) | (refine draw_rule (.light 0 <| .light 2 <| .light 4 <| .alt 1 false (.alt 3 false (.alt 5 false (.alt 6 false (.alt 7 true (.done) .nil) .nil) (.alt 6 false (.alt 5 false (.alt 7 true (.done) .nil) .nil) .nil)) (.alt 6 false (.alt 3 false (.alt 5 false (.alt 7 true (.done) .nil) .nil) .nil) .nil)) (.alt 6 false (.alt 1 false (.alt 3 false (.alt 5 false (.alt 7 true (.done) .nil) .nil) .nil) .nil) .nil)) (by decide +kernel) ?_; conv => whnf) | (with_reducible refine @And.intro (guardVC _ _ _ _ _) _ ?_ ?_) <;> conv => whnf | (refine caseB_intro (fun h => ?_) (fun h => ?_) <;> (try simp only [Bool.not_eq_true', Bool.not_eq_false', decide_eq_true_eq, decide_eq_false_iff_not] at h) <;> conv => whnf))
    all_goals exact ⟨(og, Ag, cg), ⟨by simp [slots, leT], ⟨[], rfl⟩, by simp, rfl, rfl⟩, Ng⟩
  rintro ⟨og, Ag, cg⟩ M3 Ng
  conv => whnf
  have l3 := Ng.le
  have sg := Ng.ow.sl Mk.len
  repeat' (first | (refine ⟨⟨[], rfl⟩, _, PH.Le.refl _, PH.Le.refl _, ?_⟩; conv => whnf) | (refine ACall.step (toBreaker_new k A c ws _ (hs.mono (by repeat (first | exact PH.Le.refl _ | assumption | (apply PH.Le.trans; · assumption)))) hn) fun r M4 hh => ?_; obtain ⟨g4, rfl, l4, s4⟩ := hh; (first | (refine ⟨⟨[], rfl⟩, _, l4, PH.Le.refl _, ?_⟩; conv => whnf) | conv => whnf)) | (refine caseB_true ?_; conv => whnf) | (refine caseB_false ?_; conv => whnf) | ((with_reducible refine caseB_dec (fun h => ?_) (fun h => ?_)) <;> conv => whnf) | ((with_reducible refine caseB_ndec (fun h => ?_) (fun h => ?_)) <;> conv => whnf) | ((with_reducible refine caseB_not (fun h => ?_) (fun h => ?_)) <;> conv => whnf) | (refine Ret.go (eqAllow_ret _ _ _ _ _ _ _ _ _ (by first | assumption | exact Sl.mono (by assumption) (by repeat (first | exact PH.Le.refl _ | assumption | (apply PH.Le.trans; · assumption)))) (by first | assumption | exact Sl.mono (by assumption) (by repeat (first | exact PH.Le.refl _ | assumption | (apply PH.Le.trans; · assumption)))) hn2) ?_; conv => whnf) | (refine Ret.go (eqBreaker_ret k _ _ _ _ ws _ (by first | assumption | exact Sl.mono (by assumption) (by repeat (first | exact PH.Le.refl _ | assumption | (apply PH.Le.trans; · assumption)))) (by first | assumption | exact Sl.mono (by assumption) (by repeat (first | exact PH.Le.refl _ | assumption | (apply PH.Le.trans; · assumption)))) hn) ?_; conv => whnf) | (refine draw_rule (.light 0 <| .light 2 <| .light 4 <| .alt 1 false (.alt 3 false (.alt 5 false (.alt 6 false (.alt 7 true (.done) .nil) .nil) (.alt 6 false (.alt 5 false (.alt 7 true (.done) .nil) .nil) .nil)) (.alt 6 false (.alt 3 false (.alt 5 false (.alt 7 true (.done) .nil) .nil) .nil) .nil)) (.alt 6 false (.alt 1 false (.alt 3 false (.alt 5 false (.alt 7 true (.done) .nil) .nil) .nil) .nil) .nil)) (by decide +kernel) ?_; conv => whnf) | (refine draw_rule (.light 0 <| .light 1 <| .light 3 <| .alt 2 false (.alt 4 false (.alt 5 false (.alt 6 true (.done) .nil) .nil) (.alt 5 false (.alt 4 false (.alt 6 true (.done) .nil) .nil) .nil)) (.alt 5 false (.alt 2 false (.alt 4 false (.alt 6 true (.done) .nil) .nil) .nil) .nil)) (by decide +kernel) ?_; conv => whnf) | (refine draw_rule (.light 0 <| .light 1 <| .alt 2 false (.alt 3 false (.light 4 <| .done) .nil) .nil) (by decide +kernel) ?_; conv => whnf) | (refine draw_rule (.light 0 <| .light 2 <| .light 4 <| .alt 1 false (.alt 3 false (.alt 5 false (.alt 6 false (.alt 7 true (.done) .nil) .nil) (.alt 6 false (.alt 5 false (.alt 7 true (.done) .nil) .nil) .nil)) (.alt 6 false (.alt 3 false (.alt 5 false (.alt 7 true (.done) .nil) .nil) .nil) .nil)) (.alt 6 false (.alt 1 false (.alt 3 false (.alt 5 false (.alt 7 true (.done) .nil) .nil) .nil) .nil) .nil)) (by decide +kernel) ?_; conv => whnf) | (with_reducible refine @And.intro (guardVC _ _ _ _ _) _ ?_ ?_) <;> conv => whnf | (refine caseB_intro (fun h => ?_) (fun h => ?_) <;> (try simp only [Bool.not_eq_true', Bool.not_eq_false', decide_eq_true_eq, decide_eq_false_iff_not] at h) <;> conv => whnf))
  refine ACall.step (markBreaker_ret k (some gx) _ _ ws 1 _ (Nx.ow.mono (by repeat (first | exact PH.Le.refl _ | assumption | (apply PH.Le.trans; · assumption)))) hn (by omega)) fun r M5 hh => ?_
  obtain ⟨rfl, hx5, k5⟩ := hh
  have q5 : M1.Le M5 := k5.over ((l2.trans l3).trans l4) (fun k e => by cases e; exact Nx.fr gx rfl)
  have og5 : Ow M5 og Ag cg 2 Mk.cs (allowOf k ws r t).ws := (Ng.ow.mono l4).keeps k5 (fun g e e2 => by
    cases e2
    have h1 := Ng.fr _ e
    obtain ⟨ob, hob⟩ := Nx.ow.known _ rfl
    rw [h1] at hob; cases hob)
  have sw5 := sw.mono q5
  have sg5 := og5.sl Mk.len
  conv => whnf
  repeat' (first | (refine ⟨⟨[], rfl⟩, _, PH.Le.refl _, PH.Le.refl _, ?_⟩; conv => whnf) | (with_reducible refine caseB_dec (fun h => absurd h (by omega)) (fun h => ?_); conv => whnf) | (refine caseB_true ?_; conv => whnf) | (refine caseB_false ?_; conv => whnf) | ((with_reducible refine caseB_dec (fun h => ?_) (fun h => ?_)) <;> conv => whnf) | ((with_reducible refine caseB_ndec (fun h => ?_) (fun h => ?_)) <;> conv => whnf) | ((with_reducible refine caseB_not (fun h => ?_) (fun h => ?_)) <;> conv => whnf) | (refine Ret.go (eqAllow_ret _ _ _ _ _ _ _ _ _ sg5 sw5 hn2) ?_; conv => whnf) | (with_reducible refine @And.intro (guardVC _ _ _ _ _) _ ?_ ?_) <;> conv => whnf | (refine caseB_intro (fun h => ?_) (fun h => ?_) <;> (try simp only [Bool.not_eq_true', Bool.not_eq_false', decide_eq_true_eq, decide_eq_false_iff_not] at h) <;> conv => whnf))
  refine ACall.step (markAllow_ret _ _ _ og Ag cg (allowOf k ws r t).ws 1 _ og5 hn2 (by omega)) fun r M6 hh => ?_
  obtain ⟨rfl, h6, k6⟩ := hh
  have q6 : M1.Le M6 := k6.over q5 (fun k e => none_of_le l2 (Ng.fr k e))
  have s6 := h6.sl Mk.len
  conv => whnf
  repeat' (first | (refine ⟨⟨[], rfl⟩, _, PH.Le.refl _, PH.Le.refl _, ?_⟩; conv => whnf) | (with_reducible refine caseB_dec (fun h => absurd h (by omega)) (fun h => ?_); conv => whnf) | (refine caseB_true ?_; conv => whnf) | (refine caseB_false ?_; conv => whnf) | ((with_reducible refine caseB_dec (fun h => ?_) (fun h => ?_)) <;> conv => whnf) | ((with_reducible refine caseB_ndec (fun h => ?_) (fun h => ?_)) <;> conv => whnf) | ((with_reducible refine caseB_not (fun h => ?_) (fun h => ?_)) <;> conv => whnf) | (refine Ret.go (heldAllow_ret _ _ _ Ag cg (allowOf k ws r t).ws.length 1 _ s6 hn2 (by omega)) ?_; conv => whnf) | (with_reducible refine @And.intro (guardVC _ _ _ _ _) _ ?_ ?_) <;> conv => whnf | (refine caseB_intro (fun h => ?_) (fun h => ?_) <;> (try simp only [Bool.not_eq_true', Bool.not_eq_false', decide_eq_true_eq, decide_eq_false_iff_not] at h) <;> conv => whnf))
  · first | exact absurd trivial h | exact absurd rfl h
  have lA := l1.trans q6
  refine join_rule (fun z : Option Addr × Nat => ⟨slots 82 [(2, .v (I t)), (3, .bp 0 0), (4, .bp 1 0), (6, .v (B false)), (8, .bp 2 0), (9, .bp (2 + 1) 0), (10, .bp (2 + 2) 0), (12, .v (I (1 + 2 * (allowOf k ws r t).ws.length))), (14, .bp (2 + 3) 0)], [⟨24, [.v (I k.p), .v (I k.q), .v (I k.r), .v (.slice A ws.length c)]⟩, ⟨86, [.v (I r.a), .v (I r.b), .v (I r.c), .v (I r.d), .v (I r.e)]⟩, ⟨83, [.v (I (allowOf k ws r t).why), .v (I (allowOf k ws r t).k.p), .v (I (allowOf k ws r t).k.q), .v (I (allowOf k ws r t).k.r), .v (.slice Aw (allowOf k ws r t).ws.length cw), .v (B (allowOf k ws r t).b)]⟩, ⟨29, [.v (I k.p), .v (I k.q), .v (I k.r), .v (.slice (some ⟨gx, 0, none⟩) ws.length ws.length)]⟩, ⟨83, [.v (I (allowOf k ws r t).why), .v (I (allowOf k ws r t).k.p), .v (I (allowOf k ws r t).k.q), .v (I (allowOf k ws r t).k.r), .v (.slice Ag (allowOf k ws r t).ws.length cg), .v (B (allowOf k ws r t).b)]⟩, ⟨83, [.v (I (allowOf k ws r t).why), .v (I (allowOf k ws r t).k.p), .v (I (allowOf k ws r t).k.q), .v (I (allowOf k ws r t).k.r), .v (.slice z.1 (allowOf k ws r t).ws.length z.2), .v (B (allowOf k ws r t).b)]⟩]⟩) (fun z M' => M6.Le M' ∧ Sl M' z.1 2 Mk.cs (allowOf k ws r t).ws) ?_ ?_
  · repeat' (first | (refine ⟨⟨[], rfl⟩, _, PH.Le.refl _, PH.Le.refl _, ?_⟩; conv => whnf) | (refine ⟨⟨_, rfl⟩, _, PH.Le.refl _, PH.Le.refl _, ?_⟩; conv => whnf) | (refine ACall.step (allowFetch_impl k _ _ ws r t _ (by first | assumption | exact Sl.mono (by assumption) (by repeat (first | exact PH.Le.refl _ | assumption | (apply PH.Le.trans; · assumption)))) hn) fun r M8 hh => ?_; obtain ⟨o8, A8, c8, rfl, N8⟩ := hh; have l8 := N8.le; (first | (refine ⟨⟨[], rfl⟩, _, l8, PH.Le.refl _, ?_⟩; conv => whnf) | conv => whnf)) | (refine ACall.step (toBreaker_new k A c ws _ (hs.mono (lA.trans (by repeat (first | exact PH.Le.refl _ | assumption | (apply PH.Le.trans; · assumption))))) hn) fun r M7 hh => ?_; obtain ⟨g7, rfl, l7, s7⟩ := hh; (first | (refine ⟨⟨[], rfl⟩, _, l7, PH.Le.refl _, ?_⟩; conv => whnf) | (refine ⟨⟨_, rfl⟩, _, l7, PH.Le.refl _, ?_⟩; conv => whnf) | conv => whnf)) | (refine caseB_true ?_; conv => whnf) | (refine caseB_false ?_; conv => whnf) | ((with_reducible refine caseB_dec (fun h => ?_) (fun h => ?_)) <;> conv => whnf) | ((with_reducible refine caseB_ndec (fun h => ?_) (fun h => ?_)) <;> conv => whnf) | ((with_reducible refine caseB_not (fun h => ?_) (fun h => ?_)) <;> conv => whnf) | (refine Ret.go (toRules_ret r _) ?_; conv => whnf) | (refine draw_rule (.light 0 <| .light 2 <| .light 4 <| .alt 1 false (.alt 3 false (.alt 5 false (.alt 6 false (.alt 7 true (.done) .nil) .nil) (.alt 6 false (.alt 5 false (.alt 7 true (.done) .nil) .nil) .nil)) (.alt 6 false (.alt 3 false (.alt 5 false (.alt 7 true (.done) .nil) .nil) .nil) .nil)) (.alt 6 false (.alt 1 false (.alt 3 false (.alt 5 false (.alt 7 true (.done) .nil) .nil) .nil) .nil) .nil)) (by decide +kernel) ?_; conv => whnf) | (refine draw_rule (.light 0 <| .light 1 <| .light 3 <| .alt 2 false (.alt 4 false (.alt 5 false (.alt 6 true (.done) .nil) .nil) (.alt 5 false (.alt 4 false (.alt 6 true (.done) .nil) .nil) .nil)) (.alt 5 false (.alt 2 false (.alt 4 false (.alt 6 true (.done) .nil) .nil) .nil) .nil)) (by decide +kernel) ?_; conv => whnf) | (refine draw_rule (.light 0 <| .light 1 <| .alt 2 false (.alt 3 false (.light 4 <| .done) .nil) .nil) (by decide +kernel) ?_; conv => whnf) | (refine draw_rule (.light 0 <| .light 2 <| .light 4 <| .alt 1 false (.alt 3 false (.alt 5 false (.alt 6 false (.alt 7 true (.done) .nil) .nil) (.alt 6 false (.alt 5 false (.alt 7 true (.done) .nil) .nil) .nil)) (.alt 6 false (.alt 3 false (.alt 5 false (.alt 7 true (.done) .nil) .nil) .nil) .nil)) (.alt 6 false (.alt 1 false (.alt 3 false (.alt 5 false (.alt 7 true (.done) .nil) .nil) .nil) .nil) .nil)) (by decide +kernel) ?_; conv => whnf) | (with_reducible refine @And.intro (guardVC _ _ _ _ _) _ ?_ ?_) <;> conv => whnf | (refine caseB_intro (fun h => ?_) (fun h => ?_) <;> (try simp only [Bool.not_eq_true', Bool.not_eq_false', decide_eq_true_eq, decide_eq_false_iff_not] at h) <;> conv => whnf))
    all_goals exact ⟨(A8, c8), ⟨by simp [slots, leT], ⟨[], rfl⟩, by simp, rfl, rfl⟩, (by repeat (first | exact PH.Le.refl _ | assumption | (apply PH.Le.trans; · assumption))), N8.ow.sl Mk.len⟩
  rintro ⟨A8, c8⟩ M8 ⟨l8, s8⟩
  conv => whnf
  repeat' (first | (refine ⟨⟨[], rfl⟩, _, PH.Le.refl _, PH.Le.refl _, ?_⟩; conv => whnf) | (with_reducible refine caseB_dec (fun h => absurd h (by omega)) (fun h => ?_); conv => whnf) | (refine caseB_true ?_; conv => whnf) | (refine caseB_false ?_; conv => whnf) | ((with_reducible refine caseB_dec (fun h => ?_) (fun h => ?_)) <;> conv => whnf) | ((with_reducible refine caseB_ndec (fun h => ?_) (fun h => ?_)) <;> conv => whnf) | ((with_reducible refine caseB_not (fun h => ?_) (fun h => ?_)) <;> conv => whnf) | (refine Ret.go (eqAllow_ret _ _ _ _ _ _ _ _ _ s8 (sw.mono (q6.trans l8)) hn2) ?_; conv => whnf) | (refine Ret.go (heldAllow_ret _ _ _ Ag cg (allowOf k ws r t).ws.length 1 _ (s6.mono l8) hn2 (by omega)) ?_; conv => whnf) | (with_reducible refine @And.intro (guardVC _ _ _ _ _) _ ?_ ?_) <;> conv => whnf | (refine caseB_intro (fun h => ?_) (fun h => ?_) <;> (try simp only [Bool.not_eq_true', Bool.not_eq_false', decide_eq_true_eq, decide_eq_false_iff_not] at h) <;> conv => whnf))
  all_goals first | exact absurd trivial h | exact absurd rfl h | exact ⟨_, PH.Le.refl _, rfl, lA.trans l8⟩

end Go.Proofs.Ytpiakjcmbnfdlaa
