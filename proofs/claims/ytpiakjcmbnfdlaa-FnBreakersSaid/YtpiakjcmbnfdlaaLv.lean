/-
  CONTRACTS: a breaker is asked.
-/
import Derived.Test.YtpiakjcmbnfdlaaLt
import Derived.Test.YtpiakjcmbnfdlaaLb
namespace Go.Proofs.Ytpiakjcmbnfdlaa
set_option maxRecDepth 100000
set_option linter.unusedSimpArgs false
set_option linter.unusedVariables false
open Go.Xe
def mod3 (k : Int) : Bool := decide (Int.tmod k 3 = 0)
def mkM (k : Int) : Mk := ⟨k, mod3 (k + 1)⟩
abbrev marksM (k : Int) (n : Nat) : List Mk := marksL mkM 2 k n
theorem markMarkS_ret (o : Option Nat) (A : Option Addr) (c : Nat) (ws : List Mk) (k : Int) (M : PH) (h : Ow M o A c 2 Mk.cs ws) (hn : ws.length ≤ 4294967296) (hk : 0 ≤ k ∧ k ≤ 1000000000000) :
    ACall env 109 [.slice A ws.length c, I k] M fun r M' => r = I (k + 2 * ws.length) ∧ Ow M' o A c 2 Mk.cs (marksM k ws.length) ∧ Keeps o M M' := by
  refine xcall_of_vc Try.func109 rfl _ Try.ntmps109 _ rfl (fun _ _ => Try.call109 _ _) rfl (fun w0 ρ0 => ?_)
  conv => whnf
  refine loop_rule (fun i : Nat => ⟨slots 29 [(0, .v (.slice A ws.length c)), (1, .v (I (k + 2 * i))), (5, .v (I i))], []⟩) (fun i M' => i ≤ ws.length ∧ Ow M' o A c 2 Mk.cs (markT mkM 2 k ws i) ∧ Keeps o M M') (fun i => ws.length - i) 0 ?_ ?_ ?_
  · exact ⟨by simp [slots, leT], ⟨[], rfl⟩, Nat.zero_le _, rfl, rfl⟩
  · exact ⟨Nat.zero_le _, by rw [markT_zero]; exact h, Keeps.refl M⟩
  · rintro i M1 ⟨hi, h1, k1⟩
    conv => whnf
    repeat' (first | (refine ⟨⟨[], rfl⟩, _, PH.Le.refl _, PH.Le.refl _, ?_⟩; conv => whnf) | (refine caseB_true ?_; conv => whnf) | (refine caseB_false ?_; conv => whnf) | ((with_reducible refine caseB_dec (fun h => ?_) (fun h => ?_)) <;> conv => whnf) | ((with_reducible refine caseB_ndec (fun h => ?_) (fun h => ?_)) <;> conv => whnf) | ((with_reducible refine caseB_not (fun h => ?_) (fun h => ?_)) <;> conv => whnf) | (with_reducible refine @And.intro (guardVC _ _ _ _ _) _ ?_ ?_) <;> conv => whnf | (refine caseB_intro (fun h => ?_) (fun h => ?_) <;> (try simp only [Bool.not_eq_true', Bool.not_eq_false', decide_eq_true_eq, decide_eq_false_iff_not] at h) <;> conv => whnf))
    · have hi' : i < ws.length := by omega
      have hl1 := markT_length mkM 2 k ws hi
      have hw : IntKind.i64.wrap ((i : Int) + 1) = (i : Int) + 1 := wr_id (by omega) (by omega)
      have hw1 : IntKind.i64.wrap (k + 2 * i + 1) = k + 2 * i + 1 := wr_id (by omega) (by omega)
      have hw2 : IntKind.i64.wrap (k + 2 * i + 1 + 1) = k + 2 * (i + 1) := by rw [wrap_id (by omega) (by omega)]; omega
      have hA := ((h1.sl Mk.len).get (i := i) (by omega)).1
      refine ⟨by omega, by omega, hA, ?_⟩
      conv => whnf
      refine own_store (i := i) (j := 0) h1 Mk.len (by omega) (by simp) ⟨k + 2 * i, (markT mkM 2 k ws i)[i].b⟩ rfl fun M2 h2 k2 => ?_
      conv => whnf
      refine ⟨by decide, ?_⟩
      conv => whnf
      refine ⟨by omega, by omega, hA, ?_⟩
      conv => whnf
      refine own_store (i := i) (j := 1) h2 Mk.len (by simp; omega) (by simp) (mkM (k + 2 * i)) (by simp [mkM, mod3, spl, hw1]) fun M3 h3 k3 => ?_
      conv => whnf
      rw [List.set_set, markT_set mkM 2 k ws hi'] at h3
      exact ⟨i + 1, ⟨by simp [slots, leT, hw, hw1, hw2], ⟨[], rfl⟩, Nat.zero_le _, rfl, rfl⟩, ⟨by omega, h3, (k1.trans k2).trans k3⟩, by omega⟩
    · have hi' : i = ws.length := by omega
      subst hi'
      rw [markT_all] at h1
      exact ⟨_, PH.Le.refl _, rfl, h1, k1⟩
theorem heldMarkS_ret (A : Option Addr) (c n : Nat) (k : Int) (M : PH) (hM : Sl M A 2 Mk.cs (marksM k n)) (hn : n ≤ 4294967296) (hk : 0 ≤ k ∧ k ≤ 1000000000000) :
    Ret 133 [.slice A n c, I k] M (I (k + 2 * n)) := by
  refine xcall_of_vc Try.func133 rfl _ Try.ntmps133 _ rfl (fun _ _ => Try.call133 _ _) rfl (fun w0 ρ0 => ?_)
  conv => whnf
  refine loop_rule (fun i : Nat => ⟨slots 33 [(0, .v (.slice A n c)), (1, .v (I (k + 2 * i))), (4, .v (I 0)), (5, .v (I i))], []⟩) (fun i M' => i ≤ n ∧ M' = M) (fun i => n - i) 0 ?_ ?_ ?_
  · exact ⟨by simp [slots, leT], ⟨[], rfl⟩, Nat.zero_le _, rfl, rfl⟩
  · exact ⟨Nat.zero_le _, rfl⟩
  · rintro i M' ⟨hi, rfl⟩
    conv => whnf
    repeat' (first | (refine ⟨⟨[], rfl⟩, _, PH.Le.refl _, PH.Le.refl _, ?_⟩; conv => whnf) | (refine caseB_true ?_; conv => whnf) | (refine caseB_false ?_; conv => whnf) | ((with_reducible refine caseB_dec (fun h => ?_) (fun h => ?_)) <;> conv => whnf) | ((with_reducible refine caseB_ndec (fun h => ?_) (fun h => ?_)) <;> conv => whnf) | ((with_reducible refine caseB_not (fun h => ?_) (fun h => ?_)) <;> conv => whnf) | (with_reducible refine @And.intro (guardVC _ _ _ _ _) _ ?_ ?_) <;> conv => whnf | (refine caseB_intro (fun h => ?_) (fun h => ?_) <;> (try simp only [Bool.not_eq_true', Bool.not_eq_false', decide_eq_true_eq, decide_eq_false_iff_not] at h) <;> conv => whnf))
    · have hi' : i < n := by omega
      have hl : (marksM k n).length = n := marksL_length mkM 2 k n
      have hw : IntKind.i64.wrap ((i : Int) + 1) = (i : Int) + 1 := wr_id (by omega) (by omega)
      have hw1 : IntKind.i64.wrap (k + 2 * i + 1) = k + 2 * i + 1 := wr_id (by omega) (by omega)
      have hw2 : IntKind.i64.wrap (k + 2 * i + 1 + 1) = k + 2 * (i + 1) := by rw [wrap_id (by omega) (by omega)]; omega
      obtain ⟨hA, _, hc⟩ := hM.get (i := i) (by omega)
      rw [marksL_get] at hc
      repeat' (first | (refine ⟨⟨[], rfl⟩, _, PH.Le.refl _, PH.Le.refl _, ?_⟩; conv => whnf) | (refine ⟨_, cells_cut hc 1 rfl, ?_⟩; conv => whnf) | (refine ⟨_, cells_cut hc 0 rfl, ?_⟩; conv => whnf) | (refine ⟨by omega, by omega, hA, ?_⟩; conv => whnf) | (refine ⟨by decide, ?_⟩; conv => whnf) | (refine caseB_true ?_; conv => whnf) | (refine caseB_false ?_; conv => whnf) | ((with_reducible refine caseB_dec (fun h => ?_) (fun h => ?_)) <;> conv => whnf) | ((with_reducible refine caseB_ndec (fun h => ?_) (fun h => ?_)) <;> conv => whnf) | ((with_reducible refine caseB_not (fun h => ?_) (fun h => ?_)) <;> conv => whnf) | (with_reducible refine @And.intro (guardVC _ _ _ _ _) _ ?_ ?_) <;> conv => whnf | (refine caseB_intro (fun h => ?_) (fun h => ?_) <;> (try simp only [Bool.not_eq_true', Bool.not_eq_false', decide_eq_true_eq, decide_eq_false_iff_not] at h) <;> conv => whnf))
      all_goals first | (exfalso; exact h (by simp [mkM, hw1])) | (exfalso; simp [mkM, mod3, hw1] at h; done) | exact ⟨i + 1, ⟨by simp [slots, leT, hw, hw1, hw2], ⟨[], rfl⟩, Nat.zero_le _, rfl, rfl⟩, ⟨by omega, rfl⟩, by omega⟩
    · have hi' : i = n := by omega
      subst hi'
      exact ⟨_, PH.Le.refl _, rfl, rfl⟩
theorem mk_fits (ws : List Mk) (hn : ws.length ≤ 1048576) : (([] : List Mk).length + ws.length) * ti99.bytes ≤ 140737488355328 := by
  unfold ti99
  simp
  omega
theorem cloneMk_ret (A : Option Addr) (c : Nat) (ws : List Mk) (M : PH) (hs : Sl M A 2 Mk.cs ws) (hn : ws.length ≤ 1048576) :
    ACall env 132 [.slice A ws.length c] M fun r M' => ∃ o A' c', r = .slice A' ws.length c' ∧ New M M' o A' c' 2 Mk.cs ws := by
  refine xcall_of_vc Try.func132 rfl _ Try.ntmps132 _ rfl (fun _ _ => Try.call132 _ _) rfl (fun w0 ρ0 => ?_)
  conv => whnf
  refine caseB_intro (fun h => ?_) (fun h => ?_)
  · conv => whnf
    have : ws = [] := by
      apply Classical.byContradiction
      intro hne
      have := hs.ne hne
      cases A with
      | none => cases this
      | some a => cases h
    subst this
    exact ⟨_, PH.Le.refl _, none, none, 0, rfl, New.nil M none⟩
  · conv => whnf
    intro g0 hg0
    conv => whnf
    refine app_sl (te := ti99) (f := Mk.cs) (xs := []) (ys := ws) (o := none) (hs.mono (PH.Le.set _ hg0)) Ow.nil Mk.len Mk.one rfl (mk_fits ws hn) (by simp; omega) fun o A' c' M' hO hK hF => ?_
    conv => whnf
    exact ⟨_, PH.Le.refl _, o, A', c', rfl, hO, (PH.Le.set _ hg0).trans hK.le, fun g e => by
      rcases hF with h1 | ⟨g', h1, h2⟩
      · rw [h1] at e; cases e
      · rw [h1] at e; cases e; exact set_none h2⟩

theorem toBreaker_own (k : K3) (A : Option Addr) (c : Nat) (ws : List Mk) (M : PH) (hs : Sl M A 2 Mk.cs ws) (hn : ws.length ≤ 1048576) :
    ACall env 16 [brV k A ws.length c] M fun r M' => ∃ g, r = brV k (some ⟨g, 0, none⟩) ws.length ws.length ∧ New M M' (some g) (some ⟨g, 0, none⟩) ws.length 2 Mk.cs ws :=
  (toBreaker_ret k A c ws M hs hn).mono fun r M' ⟨g, hg, hr, hM⟩ => by
    subst hM
    exact ⟨g, hr, Ow.new Mk.len _ g ws _, PH.Le.set _ hg, fun k e => by cases e; exact hg⟩
theorem copyBreaker_ret (k : K3) (A : Option Addr) (c : Nat) (ws : List Mk) (M : PH) (hs : Sl M A 2 Mk.cs ws) (hn : ws.length ≤ 1048576) :
    ACall env 104 [brV k A ws.length c] M fun r M' => ∃ o A' c', r = brV k A' ws.length c' ∧ New M M' o A' c' 2 Mk.cs ws := by
  refine xcall_of_vc Try.func104 rfl _ Try.ntmps104 _ rfl (fun _ _ => Try.call104 _ _) rfl (fun w0 ρ0 => ?_)
  conv => whnf
  refine ACall.step (cloneMk_ret A c ws M hs hn) fun r M' hh => ?_
  obtain ⟨o, A', c', rfl, hN⟩ := hh
  conv => whnf
  exact ⟨_, PH.Le.refl _, o, A', c', rfl, hN⟩
theorem l10Copy_ret (k : K3) (A : Option Addr) (c : Nat) (ws : List Mk) (M : PH) (hs : Sl M A 2 Mk.cs ws) (hn : ws.length ≤ 1048576) :
    XCall env 107 [.bp 0 0] [brB k A ws.length c] M fun r b M' => (∃ o A' c', r = brV k A' ws.length c' ∧ New M M' o A' c' 2 Mk.cs ws) ∧ b = [brB k A ws.length c] := by
  refine xcall_of_vc Try.func107 rfl _ Try.ntmps107 _ rfl (fun _ _ => Try.call107 _ _) rfl (fun w0 ρ0 => ?_)
  conv => whnf
  repeat' (first | (refine ⟨⟨[], rfl⟩, _, PH.Le.refl _, bot_le _, ?_⟩; conv => whnf) | (refine ⟨⟨_, rfl⟩, _, PH.Le.refl _, bot_le _, ?_⟩; conv => whnf) | (refine caseB_true ?_; conv => whnf) | (refine caseB_false ?_; conv => whnf) | ((with_reducible refine caseB_dec (fun h => ?_) (fun h => ?_)) <;> conv => whnf) | ((with_reducible refine caseB_ndec (fun h => ?_) (fun h => ?_)) <;> conv => whnf) | ((with_reducible refine caseB_not (fun h => ?_) (fun h => ?_)) <;> conv => whnf) | (with_reducible refine @And.intro (guardVC _ _ _ _ _) _ ?_ ?_) <;> conv => whnf | (refine caseB_intro (fun h => ?_) (fun h => ?_) <;> (try simp only [Bool.not_eq_true', Bool.not_eq_false', decide_eq_true_eq, decide_eq_false_iff_not] at h) <;> conv => whnf))
  intro g0 hg0
  have l0 := PH.Le.set (.cells (#[] : Array Value) 99 (0, 0)) hg0
  try refine ⟨⟨[], rfl⟩, _, PH.Le.refl _, bot_le _, ?_⟩
  conv => whnf
  refine app_sl (te := ti99) (f := Mk.cs) (xs := []) (ys := ws) (o := none) (hs.mono (PH.Le.set _ hg0)) Ow.nil Mk.len Mk.one rfl (mk_fits ws hn) (by simp; omega) fun o A' c' M' hO hK hF => ?_
  try refine ⟨⟨[], rfl⟩, _, PH.Le.refl _, bot_le _, ?_⟩
  conv => whnf
  exact ⟨_, PH.Le.refl _, ⟨o, A', c', rfl, hO, (PH.Le.set _ hg0).trans hK.le, fun g e => by
    rcases hF with h1 | ⟨g', h1, h2⟩
    · rw [h1] at e; cases e
    · rw [h1] at e; cases e; exact set_none h2⟩, rfl⟩
abbrev Rl.box (r : Rl) : Box := ⟨79, [.v (I r.a), .v (I r.b), .v (I r.c), .v (I r.d), .v (I r.e)]⟩
noncomputable def askOf (k : K3) (ws : List Mk) (r : Rl) (t : Int) : Int :=
  if brFault k ws ≠ 0 then brFault k ws else if rulesFault r ≠ 0 then rulesFault r else if (isT t && decide (k.q ≤ t)) = false then 3 else if ws.any (fun w => decide (t < w.a)) then 3 else 0
theorem brFault_srt {k : K3} {ws : List Mk} (h : brFault k ws = 0) : Srt ws ∧ (k.p = 0 ∨ k.p = 1 ∨ k.p = 2) ∧ ws.length ≤ 60 ∧ (∀ w ∈ ws, okM w = true) ∧ isT k.q = true ∧ inB k.r 0 5 = true ∧ (k.p ≠ 0 → ws = []) ∧ (k.p ≠ 2 → k.r = 0) := by
  unfold brFault at h
  split at h
  · cases h
  · rename_i h1
    split at h
    · cases h
    · rename_i h2
      split at h
      · cases h
      · rename_i h3
        split at h
        · cases h
        · rename_i h4
          split at h
          · cases h
          · rename_i h5
            simp only [Bool.not_eq_false, Bool.and_eq_true] at h1
            obtain ⟨⟨h6, h7⟩, h8⟩ := h1
            simp only [inB, decide_eq_true_eq] at h6
            refine ⟨asB_iff.1 (by simpa using h4), by omega, by omega, fun w hw => ?_, h7, h8, ?_, ?_⟩
            · simp only [List.any_eq_true, not_exists, not_and] at h3
              simpa using h3 w hw
            · intro hp
              simp only [hp, decide_false, Bool.not_false, Bool.true_and, Bool.or_eq_true, decide_eq_true_eq, not_or] at h5
              exact List.eq_nil_of_length_eq_zero (by omega)
            · intro hp
              simp only [hp, decide_false, Bool.not_false, Bool.true_and, Bool.or_eq_true, not_or] at h5
              simpa using h5.2
theorem breakerCode1_ret (t : Int) (w : Mk) (M : PH) : XCall env 131 [.v w.v, .bp 0 0] [⟨2, [.v (I t)]⟩] M fun r b M' => r = B (decide (t < w.a)) ∧ b = [⟨2, [.v (I t)]⟩] ∧ M' = M := by
  refine xcall_of_vc Try.func131 rfl _ Try.ntmps131 _ rfl (fun _ _ => Try.call131 _ _) rfl (fun w0 ρ0 => ?_)
  conv => whnf
  repeat' (first | (refine ⟨⟨[], rfl⟩, _, PH.Le.refl _, PH.Le.refl _, ?_⟩; conv => whnf) | (refine caseB_true ?_; conv => whnf) | (refine caseB_false ?_; conv => whnf) | ((with_reducible refine caseB_dec (fun h => ?_) (fun h => ?_)) <;> conv => whnf) | ((with_reducible refine caseB_ndec (fun h => ?_) (fun h => ?_)) <;> conv => whnf) | ((with_reducible refine caseB_not (fun h => ?_) (fun h => ?_)) <;> conv => whnf) | (with_reducible refine @And.intro (guardVC _ _ _ _ _) _ ?_ ?_) <;> conv => whnf | (refine caseB_intro (fun h => ?_) (fun h => ?_) <;> (try simp only [Bool.not_eq_true', Bool.not_eq_false', decide_eq_true_eq, decide_eq_false_iff_not] at h) <;> conv => whnf))
  all_goals exact ⟨_, PH.Le.refl _, rfl, rfl, rfl⟩
section
variable {k : K3} {ws : List Mk} {r : Rl} {t : Int}
theorem askOf_bad (h : ¬ brFault k ws = 0) : askOf k ws r t = brFault k ws := if_pos h
theorem askOf_rules (h0 : brFault k ws = 0) (h : ¬ rulesFault r = 0) : askOf k ws r t = rulesFault r := by unfold askOf; rw [if_neg (by simpa using h0), if_pos h]
theorem askOf_time (h0 : brFault k ws = 0) (h1 : rulesFault r = 0) (h : (isT t && decide (k.q ≤ t)) = false) : askOf k ws r t = 3 := by unfold askOf; rw [if_neg (by simpa using h0), if_neg (by simpa using h1), if_pos h]
theorem askOf_any (h0 : brFault k ws = 0) (h1 : rulesFault r = 0) (h2 : (isT t && decide (k.q ≤ t)) = true) (h : ws.any (fun w => decide (t < w.a)) = true) : askOf k ws r t = 3 := by unfold askOf; rw [if_neg (by simpa using h0), if_neg (by simpa using h1), if_neg (by simp [h2]), if_pos h]
theorem askOf_ok (h0 : brFault k ws = 0) (h1 : rulesFault r = 0) (h2 : (isT t && decide (k.q ≤ t)) = true) (h : ws.any (fun w => decide (t < w.a)) = false) : askOf k ws r t = 0 := by unfold askOf; rw [if_neg (by simpa using h0), if_neg (by simpa using h1), if_neg (by simp [h2]), if_neg (by simp [h])]
end
theorem breakerCode_ret (k : K3) (A : Option Addr) (c : Nat) (ws : List Mk) (r : Rl) (t : Int) (M : PH) (hs : Sl M A 2 Mk.cs ws) (hn : ws.length ≤ 1048576) : Ret 103 [brV k A ws.length c, r.v, I t] M (I (askOf k ws r t)) := by
  refine xcall_of_vc Try.func103 rfl _ Try.ntmps103 _ rfl (fun _ _ => Try.call103 _ _) rfl (fun w0 ρ0 => ?_)
  conv => whnf
  repeat' (first | (refine ⟨⟨[], rfl⟩, _, PH.Le.refl _, PH.Le.refl _, ?_⟩; conv => whnf) | (refine XCall.lift (containsFuncMk1 2 (I t) 131 (fun w => decide (t < w.a)) A c ws M hs (by omega) fun w _ => breakerCode1_ret t w M) [2] (by simp [ren, AV.plain]) (by simp) (by simp) (by simp [AV.plain]) ?_; rintro r' bs' M' ⟨rfl, rfl, rfl⟩; refine ⟨by simp [AV.plain], ?_⟩; conv => whnf) | (refine caseB_true ?_; conv => whnf) | (refine caseB_false ?_; conv => whnf) | ((with_reducible refine caseB_dec (fun h => ?_) (fun h => ?_)) <;> conv => whnf) | ((with_reducible refine caseB_ndec (fun h => ?_) (fun h => ?_)) <;> conv => whnf) | ((with_reducible refine caseB_not (fun h => ?_) (fun h => ?_)) <;> conv => whnf) | (refine Ret.go (breakerFault_impl k A c ws _ hs hn) ?_; conv => whnf) | (refine Ret.go (rulesFault_impl r _) ?_; conv => whnf) | (refine Ret.go (isTime_ret _ _) ?_; conv => whnf) | (with_reducible refine @And.intro (guardVC _ _ _ _ _) _ ?_ ?_) <;> conv => whnf | (refine caseB_intro (fun h => ?_) (fun h => ?_) <;> (try simp only [Bool.not_eq_true', Bool.not_eq_false', decide_eq_true_eq, decide_eq_false_iff_not] at h) <;> conv => whnf))
  all_goals refine ⟨_, PH.Le.refl _, ?_, rfl⟩
  all_goals simp only [resV]
  · rw [askOf_bad ‹_›]
  · rw [askOf_rules ‹_› ‹_›]
  · rw [askOf_time ‹_› ‹_› (by simp [h])]
  · rw [askOf_time ‹_› ‹_› (by simp; omega)]
  · rename_i h1 h2
    rw [askOf_any ‹_› ‹_› (by simp [h1, show k.q ≤ t by omega]) h]
  · rename_i h1 h2
    rw [askOf_ok ‹_› ‹_› (by simp [h1, show k.q ≤ t by omega]) h]
theorem any_last {ws : List Mk} (hS : Srt ws) (t : Int) (h0 : 0 < ws.length) : ws.any (fun w => decide (t < w.a)) = decide (t < ws[ws.length - 1].a) := by
  by_cases h : t < ws[ws.length - 1].a
  · rw [decide_eq_true h, List.any_eq_true]
    exact ⟨ws[ws.length - 1], List.getElem_mem (by omega), by simpa using h⟩
  · rw [decide_eq_false h, List.any_eq_false]
    intro w hw
    have := hS.last h0 hw
    simp; omega
theorem l10Ask_ret (k : K3) (A : Option Addr) (c : Nat) (ws : List Mk) (r : Rl) (t : Int) (M : PH) (hs : Sl M A 2 Mk.cs ws) (hn : ws.length ≤ 1048576) :
    XCall env 106 [.bp 0 0, .bp 1 0, .v (I t)] [brB k A ws.length c, r.box] M fun r' b M' => r' = I (askOf k ws r t) ∧ b = [brB k A ws.length c, r.box] ∧ M' = M := by
  refine xcall_of_vc Try.func106 rfl _ Try.ntmps106 _ rfl (fun _ _ => Try.call106 _ _) rfl (fun w0 ρ0 => ?_)
  conv => whnf
  repeat' (first | (refine ⟨⟨[], rfl⟩, _, PH.Le.refl _, bot_le _, ?_⟩; conv => whnf) | (refine ⟨⟨_, rfl⟩, _, PH.Le.refl _, bot_le _, ?_⟩; conv => whnf) | (refine caseB_true ?_; conv => whnf) | (refine caseB_false ?_; conv => whnf) | ((with_reducible refine caseB_dec (fun h => ?_) (fun h => ?_)) <;> conv => whnf) | ((with_reducible refine caseB_ndec (fun h => ?_) (fun h => ?_)) <;> conv => whnf) | ((with_reducible refine caseB_not (fun h => ?_) (fun h => ?_)) <;> conv => whnf) | (refine Ret.go (breakerFault_spec k A c ws _ hs hn) ?_; conv => whnf) | (refine Ret.go (rulesFault_spec r _) ?_; conv => whnf) | (refine Ret.go (l1Time_ret _ _) ?_; conv => whnf) | (with_reducible refine @And.intro (guardVC _ _ _ _ _) _ ?_ ?_) <;> conv => whnf | (refine caseB_intro (fun h => ?_) (fun h => ?_) <;> (try simp only [Bool.not_eq_true', Bool.not_eq_false', decide_eq_true_eq, decide_eq_false_iff_not] at h) <;> conv => whnf))
  all_goals try (refine ⟨_, PH.Le.refl _, ?_, rfl, rfl⟩; simp only [resV]; first | (rw [askOf_bad (by assumption)]; done) | (rw [askOf_rules (by assumption) (by assumption)]; done) | (rw [askOf_time (by assumption) (by assumption) (by simp [*]; done)]; done) | (rw [askOf_time (by assumption) (by assumption) (by simp; omega; done)]; done) | (rw [askOf_ok (by assumption) (by assumption) (by simp [‹isT t = true›, show k.q ≤ t by omega]) (by rw [List.eq_nil_of_length_eq_zero (show ws.length = 0 by omega)]; rfl)]; done))
  have h0 : 0 < ws.length := by omega
  have hw : IntKind.i64.wrap ((ws.length : Int) - 1) = ((ws.length - 1 : Nat) : Int) := by rw [wrap_id (by omega) (by omega)]; omega
  have hl : ws.length - 1 < ws.length := by omega
  obtain ⟨hA, _, hc⟩ := hs.get hl
  have hc' : M.cells A ((IntKind.i64.wrap ((ws.length : Int) - 1)).toNat * 2) ws[ws.length - 1].cs := by rw [hw]; simpa using hc
  have ha := any_last (brFault_srt ‹brFault k ws = 0›).1 t h0
  repeat' (first | (refine ⟨⟨[], rfl⟩, _, PH.Le.refl _, bot_le _, ?_⟩; conv => whnf) | (refine ⟨⟨_, rfl⟩, _, PH.Le.refl _, bot_le _, ?_⟩; conv => whnf) | (refine ⟨_, cells_cut hc' 0 rfl, ?_⟩; conv => whnf) | (refine ⟨by omega, by omega, hA, ?_⟩; conv => whnf) | (refine caseB_true ?_; conv => whnf) | (refine caseB_false ?_; conv => whnf) | ((with_reducible refine caseB_dec (fun h => ?_) (fun h => ?_)) <;> conv => whnf) | ((with_reducible refine caseB_ndec (fun h => ?_) (fun h => ?_)) <;> conv => whnf) | ((with_reducible refine caseB_not (fun h => ?_) (fun h => ?_)) <;> conv => whnf) | (with_reducible refine @And.intro (guardVC _ _ _ _ _) _ ?_ ?_) <;> conv => whnf | (refine caseB_intro (fun h => ?_) (fun h => ?_) <;> (try simp only [Bool.not_eq_true', Bool.not_eq_false', decide_eq_true_eq, decide_eq_false_iff_not] at h) <;> conv => whnf))
  · refine ⟨_, PH.Le.refl _, ?_, rfl, rfl⟩
    rw [askOf_any (by assumption) (by assumption) (by simp [‹isT t = true›, show k.q ≤ t by omega]) (by rw [ha]; exact decide_eq_true (by assumption))]; rfl
  · refine ⟨_, PH.Le.refl _, ?_, rfl, rfl⟩
    rw [askOf_ok (by assumption) (by assumption) (by simp [‹isT t = true›, show k.q ≤ t by omega]) (by rw [ha]; exact decide_eq_false (by assumption))]; rfl
/-- Whether a breaker allows something; what is left of it. -/
def allowB (k : K3) (r : Rl) (t : Int) : Bool := decide (k.p = 0) || (decide (k.p = 1) && decide (r.d ≤ wr (t - k.q))) || (decide (k.p = 2) && decide (k.r < r.e))
def allowK (k : K3) (r : Rl) (t : Int) : K3 := if k.p = 0 then k else if k.p = 1 ∧ r.d ≤ wr (t - k.q) then ⟨2, k.q, 1⟩ else if k.p = 2 ∧ k.r < r.e then ⟨k.p, k.q, wr (k.r + 1)⟩ else k
theorem allow_ret (k : K3) (A : Option Addr) (n c : Nat) (r : Rl) (t : Int) (M : PH) :
    XCall env 105 [.bp 0 0, .v r.v, .v (I t)] [brB k A n c] M fun r' b M' => r' = B (allowB k r t) ∧ b = [brB (allowK k r t) A n c] ∧ M' = M := by
  refine xcall_of_vc Try.func105 rfl _ Try.ntmps105 _ rfl (fun _ _ => Try.call105 _ _) rfl (fun w0 ρ0 => ?_)
  conv => whnf
  repeat' (first | (refine ⟨⟨[], rfl⟩, _, PH.Le.refl _, bot_le _, ?_⟩; conv => whnf) | (refine ⟨⟨_, rfl⟩, _, PH.Le.refl _, bot_le _, ?_⟩; conv => whnf) | (refine caseB_true ?_; conv => whnf) | (refine caseB_false ?_; conv => whnf) | ((with_reducible refine caseB_dec (fun h => ?_) (fun h => ?_)) <;> conv => whnf) | ((with_reducible refine caseB_ndec (fun h => ?_) (fun h => ?_)) <;> conv => whnf) | ((with_reducible refine caseB_not (fun h => ?_) (fun h => ?_)) <;> conv => whnf) | (refine draw_ruleF (.light 0 <| .light 1 <| .light 2 <| .light 3 <| .light 4 <| .light 5 <| .light 6 <| .light 7 <| .light 8 <| .light 9 <| .light 10 <| .light 11 <| .light 12 <| .light 13 <| .light 14 <| .light 15 <| .light 16 <| .done) (by decide +kernel) (bot_le _) ?_; conv => whnf) | (refine draw_ruleF (.light 0 <| .light 1 <| .light 2 <| .light 3 <| .light 4 <| .light 5 <| .light 6 <| .light 7 <| .light 8 <| .light 9 <| .light 10 <| .light 11 <| .light 12 <| .light 13 <| .light 14 <| .done) (by decide +kernel) (bot_le _) ?_; conv => whnf) | (with_reducible refine @And.intro (guardVC _ _ _ _ _) _ ?_ ?_) <;> conv => whnf | (refine caseB_intro (fun h => ?_) (fun h => ?_) <;> (try simp only [Bool.not_eq_true', Bool.not_eq_false', decide_eq_true_eq, decide_eq_false_iff_not] at h) <;> conv => whnf))
  all_goals refine ⟨_, PH.Le.refl _, ?_, ?_, rfl⟩
  all_goals simp_all [resV, allowB, allowK]
  all_goals first | (rw [if_neg (Int.not_le.2 h)]; simp [*]; done) | (rw [if_neg (Int.not_lt.2 h)]; simp [*]; done)
theorem l10Allow_ret (k : K3) (A : Option Addr) (n c : Nat) (r : Rl) (t : Int) (M : PH) (hp : k.p = 0 ∨ k.p = 1 ∨ k.p = 2) :
    XCall env 108 [.bp 0 0, .bp 1 0, .v (I t)] [brB k A n c, r.box] M fun r' b M' => r' = B (allowB k r t) ∧ b = [brB (allowK k r t) A n c, r.box] ∧ M' = M := by
  refine xcall_of_vc Try.func108 rfl _ Try.ntmps108 _ rfl (fun _ _ => Try.call108 _ _) rfl (fun w0 ρ0 => ?_)
  conv => whnf
  repeat' (first | (refine ⟨⟨[], rfl⟩, _, PH.Le.refl _, bot_le _, ?_⟩; conv => whnf) | (refine ⟨⟨_, rfl⟩, _, PH.Le.refl _, bot_le _, ?_⟩; conv => whnf) | (refine caseB_true ?_; conv => whnf) | (refine caseB_false ?_; conv => whnf) | ((with_reducible refine caseB_dec (fun h => ?_) (fun h => ?_)) <;> conv => whnf) | ((with_reducible refine caseB_ndec (fun h => ?_) (fun h => ?_)) <;> conv => whnf) | ((with_reducible refine caseB_not (fun h => ?_) (fun h => ?_)) <;> conv => whnf) | (refine draw_ruleF (.light 0 <| .light 1 <| .light 2 <| .light 3 <| .light 4 <| .light 5 <| .light 6 <| .light 7 <| .light 8 <| .light 9 <| .light 10 <| .done) (by decide +kernel) (bot_le _) ?_; conv => whnf) | (refine draw_ruleF (.light 0 <| .light 1 <| .light 2 <| .light 3 <| .light 4 <| .light 5 <| .light 6 <| .light 7 <| .light 8 <| .done) (by decide +kernel) (bot_le _) ?_; conv => whnf) | (with_reducible refine @And.intro (guardVC _ _ _ _ _) _ ?_ ?_) <;> conv => whnf | (refine caseB_intro (fun h => ?_) (fun h => ?_) <;> (try simp only [Bool.not_eq_true', Bool.not_eq_false', decide_eq_true_eq, decide_eq_false_iff_not] at h) <;> conv => whnf))
  all_goals refine ⟨_, PH.Le.refl _, ?_, ?_, rfl⟩
  all_goals simp_all [resV, allowB, allowK]
  all_goals first | (rw [if_neg (Int.not_le.2 h)]; simp [*]; done) | (rw [if_neg (Int.not_lt.2 h)]; simp [*]; done)
end Go.Proofs.Ytpiakjcmbnfdlaa
