/-
  CONTRACTS: entries and stores, copied, compared, measured.
-/
import Derived.Test.YtdgipmlkkmmliaaDoorNa
namespace Go.Proofs.YtdgipmlkkmmliaaDoor
set_option maxRecDepth 100000
set_option linter.unusedSimpArgs false
set_option linter.unusedVariables false
open Go.Xe
abbrev stC (b : ByteArray) : List Value := [Tx b]
abbrev byC (b : Int) : List Value := [Y b]
theorem st_len (x : ByteArray) : (stC x).length = 1 := rfl
theorem by_len (x : Int) : (byC x).length = 1 := rfl
abbrev ZT : List Value := [Tx ByteArray.empty]
abbrev ZY : List Value := [Y 0]
theorem toStringS_ret (A : Option Addr) (c : Nat) (ws : List ByteArray) (M : PH) (hs : Sl M A 1 stC ws) (hn : ws.length ≤ 1048576) :
    ACall env 16 [.slice A ws.length c] M fun r M' => ∃ g, M g = none ∧ r = .slice (some ⟨g, 0, none⟩) ws.length ws.length ∧ M' = M.set g (.cells (ws.flatMap stC).toArray 9 (0, 0)) := by
  refine xcall_of_vc Tryd.func16 rfl _ Tryd.ntmps16 _ rfl (fun _ _ => Tryd.call16 _ _) rfl (fun w0 ρ0 => ?_)
  conv => whnf
  refine ⟨rfl, by omega, ?_, by omega, fun g hg => ?_⟩
  · show (16 : Int) * _ ≤ _
    omega
  conv => whnf
  refine loop_rule (fun i : Nat => ⟨slots 22 [(0, .v (.slice A ws.length c)), (2, .v (.slice none 0 0)), (3, .v (.slice (some ⟨g, 0, none⟩) ws.length ws.length)), (4, .v (I i))], []⟩)
    (fun i M' => i ≤ ws.length ∧ M' = M.set g (.cells (rowsL stC ZT (ws.take i) ws.length).toArray 9 (0, 0))) (fun i => ws.length - i) 0 ?_ ?_ ?_
  · exact ⟨by simp [slots, leT], ⟨[], rfl⟩, Nat.zero_le _, rfl, rfl⟩
  · refine ⟨Nat.zero_le _, ?_⟩
    show M.set g (.cells (madeCells (ZT : List Value).toArray (Int.toNat ws.length * 1)) 9 (0, 0)) = _
    rw [Int.toNat_natCast]
    exact congrArg (fun x => M.set g (.cells x 9 (0, 0))) (made_rows' stC (ZT : List Value).toArray ws.length)
  · rintro i M' ⟨hi, rfl⟩
    conv => whnf
    refine caseB_dec (fun h0 => ?_) (fun h0 => ?_)
    · have h0 : (i : Int) < ws.length := h0
      have hi' : i < ws.length := by omega
      have hw : IntKind.i64.wrap ((i : Int) + 1) = (i : Int) + 1 := wr_id (by omega) (by omega)
      obtain ⟨hA, _, hc⟩ := hs.get hi'
      conv => whnf
      repeat' (first | (refine ⟨⟨[], rfl⟩, _, PH.Le.refl _, PH.Le.refl _, ?_⟩; conv => whnf) | (refine ⟨by omega, by omega, rfl, ?_⟩; conv => whnf) | (refine ⟨_, (PH.Le.set _ hg).cells hc, ?_⟩; conv => whnf) | (refine ⟨by omega, by omega, hA, ?_⟩; conv => whnf) | (refine caseB_true ?_; conv => whnf) | (refine caseB_false ?_; conv => whnf) | ((with_reducible refine caseB_dec (fun h => ?_) (fun h => ?_)) <;> conv => whnf) | ((with_reducible refine caseB_ndec (fun h => ?_) (fun h => ?_)) <;> conv => whnf) | ((with_reducible refine caseB_not (fun h => ?_) (fun h => ?_)) <;> conv => whnf) | (with_reducible refine @And.intro (guardVC _ _ _ _ _) _ ?_ ?_) <;> conv => whnf | (refine caseB_intro (fun h => ?_) (fun h => ?_) <;> (try simp only [Bool.not_eq_true', Bool.not_eq_false', decide_eq_true_eq, decide_eq_false_iff_not] at h) <;> conv => whnf))
      all_goals
        refine ⟨g, 0, rowsL stC ZT (ws.take i) ws.length, 9, (0, 0), rfl, PH.set_same _ _ _, ⟨?_, .inl (Nat.zero_le _)⟩, ?_⟩
        · show 0 + i * 1 + 1 ≤ _
          rw [rowsL_length st_len rfl _ _ (by simp; omega)]
          omega
        conv => whnf
        refine ⟨i + 1, ⟨by simp [slots, leT, hw], ⟨[], rfl⟩, Nat.zero_le _, rfl, rfl⟩, ⟨by omega, ?_⟩, by omega⟩
        rw [set_set]
        show M.set g (.cells (spl (rowsL stC ZT (ws.take i) ws.length) (0 + i * 1) (stC ws[i])).toArray 9 (0, 0)) = _
        rw [Nat.zero_add, rowsL_take st_len rfl ws hi']
    · have hi' : i = ws.length := by have : ¬ (i : Int) < ws.length := h0; omega
      subst hi'
      conv => whnf
      refine ⟨_, PH.Le.refl _, g, hg, rfl, ?_⟩
      rw [List.take_length, rowsL_full]
theorem toStringS_new (A : Option Addr) (c : Nat) (ws : List ByteArray) (M : PH) (hs : Sl M A 1 stC ws) (hn : ws.length ≤ 1048576) :
    ACall env 16 [.slice A ws.length c] M fun r M' => ∃ g, M g = none ∧ r = .slice (some ⟨g, 0, none⟩) ws.length ws.length ∧ M.Le M' ∧ Sl M' (some ⟨g, 0, none⟩) 1 stC ws :=
  (toStringS_ret A c ws M hs hn).mono fun r M' ⟨g, hg, hr, hM⟩ => by
    subst hM
    exact ⟨g, hg, hr, PH.Le.set _ hg, sl_full st_len _ g ws 9 (0, 0)⟩
theorem eqStringS_ret (A A' : Option Addr) (c c' : Nat) (ws : List ByteArray) (M : PH) (hs : Sl M A 1 stC ws) (hs' : Sl M A' 1 stC ws) (hn : ws.length ≤ 1048576) :
    Ret 18 [.slice A ws.length c, .slice A' ws.length c'] M (B true) := by
  refine xcall_of_vc Tryd.func18 rfl _ Tryd.ntmps18 _ rfl (fun _ _ => Tryd.call18 _ _) rfl (fun w0 ρ0 => ?_)
  conv => whnf
  refine caseB_ndec (fun h => absurd rfl h) (fun _ => ?_)
  conv => whnf
  refine loop_rule (fun i : Nat => ⟨slots 26 [(0, .v (.slice A ws.length c)), (1, .v (.slice A' ws.length c')), (4, .v (B false)), (5, .v (I i))], []⟩) (fun i M' => i ≤ ws.length ∧ M' = M) (fun i => ws.length - i) 0 ?_ ?_ ?_
  · exact ⟨by simp [slots, leT], ⟨[], rfl⟩, Nat.zero_le _, rfl, rfl⟩
  · exact ⟨Nat.zero_le _, rfl⟩
  · rintro i M' ⟨hi, rfl⟩
    conv => whnf
    refine caseB_dec (fun h0 => ?_) (fun h0 => ?_)
    · have h0 : (i : Int) < ws.length := h0
      have hi' : i < ws.length := by omega
      have hw : IntKind.i64.wrap ((i : Int) + 1) = (i : Int) + 1 := wr_id (by omega) (by omega)
      obtain ⟨hA, _, hc⟩ := hs.get hi'
      obtain ⟨hA', _, hc'⟩ := hs'.get hi'
      conv => whnf
      repeat' (first | (refine ⟨⟨[], rfl⟩, _, PH.Le.refl _, PH.Le.refl _, ?_⟩; conv => whnf) | (refine ⟨_, hc', ?_⟩; conv => whnf) | (refine ⟨_, hc, ?_⟩; conv => whnf) | (refine ⟨by omega, by omega, hA', ?_⟩; conv => whnf) | (refine ⟨by omega, by omega, hA, ?_⟩; conv => whnf) | (refine caseB_true ?_; conv => whnf) | (refine caseB_false ?_; conv => whnf) | ((with_reducible refine caseB_dec (fun h => ?_) (fun h => ?_)) <;> conv => whnf) | ((with_reducible refine caseB_ndec (fun h => ?_) (fun h => ?_)) <;> conv => whnf) | ((with_reducible refine caseB_not (fun h => ?_) (fun h => ?_)) <;> conv => whnf) | (refine draw_rule (.light 0 <| .light 1 <| .light 2 <| .light 3 <| .light 4 <| .light 5 <| .light 6 <| .light 7 <| .light 8 <| .done) (by decide +kernel) ?_; conv => whnf) | (with_reducible refine @And.intro (guardVC _ _ _ _ _) _ ?_ ?_) <;> conv => whnf | (refine caseB_intro (fun h => ?_) (fun h => ?_) <;> (try simp only [Bool.not_eq_true', Bool.not_eq_false', decide_eq_true_eq, decide_eq_false_iff_not] at h) <;> conv => whnf))
      all_goals first | (exfalso; exact h rfl; done) | (exfalso; simp [seq_self] at h; done) | exact ⟨i + 1, ⟨by simp [slots, leT, hw], ⟨[], rfl⟩, Nat.zero_le _, rfl, rfl⟩, ⟨by omega, rfl⟩, by omega⟩
    · conv => whnf
      exact ⟨_, PH.Le.refl _, rfl, rfl⟩

def stSz (b : ByteArray) : Nat := b.size
theorem szStringS_ret (A : Option Addr) (c : Nat) (ws : List ByteArray) (n : Int) (M : PH) (hs : Sl M A 1 stC ws) (hi : ∀ x ∈ ws, x.size ≤ maxLen) (hl : ws.length ≤ maxLen) (h0 : 0 ≤ n) (h1 : n ≤ 1048576) :
    ACall env 14 [.slice A ws.length c, I n] M fun r M' => ∃ m, r = I m ∧ M' = M ∧ (0 ≤ m → m = n - costL stSz ws) := by
  have e63 : maxLen = 9223372036854775807 := rfl
  have e1 : IntKind.i64.wrap (n - ws.length) = n - ws.length := wrap_id (by omega) (by omega)
  refine xcall_of_vc Tryd.func14 rfl _ Tryd.ntmps14 _ rfl (fun _ _ => Tryd.call14 _ _) rfl (fun w0 ρ0 => ?_)
  conv => whnf
  refine caseB_dec (fun hb => ?_) (fun hb => ?_)
  · conv => whnf
    exact ⟨_, PH.Le.refl _, -1, rfl, rfl, by omega⟩
  conv => whnf
  refine loop_rule (fun i : Nat => ⟨slots 28 [(0, .v (.slice A ws.length c)), (1, .v (I (n - ws.length - (costT stSz ws i : Nat)))), (4, .v (I 0)), (5, .v (I i))], []⟩)
    (fun i M' => i ≤ ws.length ∧ M' = M ∧ (0 : Int) ≤ n - ws.length - (costT stSz ws i : Nat)) (fun i => ws.length - i) 0 ?_ ?_ ?_
  · exact ⟨by simp [slots, leT, costT, e1], ⟨[], rfl⟩, Nat.zero_le _, rfl, rfl⟩
  · refine ⟨Nat.zero_le _, rfl, ?_⟩
    simp [costT]; omega
  rintro i M' ⟨hi1, rfl, hp⟩
  conv => whnf
  refine caseB_dec (fun h2 => ?_) (fun h2 => ?_)
  · conv => whnf
    have hi' : i < ws.length := by omega
    have hw : IntKind.i64.wrap ((i : Int) + 1) = (i : Int) + 1 := wr_id (by omega) (by omega)
    obtain ⟨hA, _, hc⟩ := hs.get hi'
    have hx := hi ws[i] (List.getElem_mem hi')
    have ht := costT_step stSz hi'
    have e : stSz ws[i] = ws[i].size := rfl
    have e2 : IntKind.i64.wrap (n - ws.length - (costT stSz ws i : Nat) - ws[i].size) = n - ws.length - (costT stSz ws i : Nat) - ws[i].size := wrap_id (by omega) (by omega)
    repeat' (first | (refine ⟨⟨[], rfl⟩, _, PH.Le.refl _, PH.Le.refl _, ?_⟩; conv => whnf) | (refine ⟨_, hc, ?_⟩; conv => whnf) | (refine ⟨by omega, by omega, hA, ?_⟩; conv => whnf) | (refine caseB_true ?_; conv => whnf) | (refine caseB_false ?_; conv => whnf) | ((with_reducible refine caseB_dec (fun h => ?_) (fun h => ?_)) <;> conv => whnf) | ((with_reducible refine caseB_ndec (fun h => ?_) (fun h => ?_)) <;> conv => whnf) | ((with_reducible refine caseB_not (fun h => ?_) (fun h => ?_)) <;> conv => whnf) | (with_reducible refine @And.intro (guardVC _ _ _ _ _) _ ?_ ?_) <;> conv => whnf | (refine caseB_intro (fun h => ?_) (fun h => ?_) <;> (try simp only [Bool.not_eq_true', Bool.not_eq_false', decide_eq_true_eq, decide_eq_false_iff_not] at h) <;> conv => whnf))
    all_goals first
      | exact ⟨_, PH.Le.refl _, -1, rfl, rfl, by omega⟩
      | (refine ⟨i + 1, ⟨?_, ⟨[], rfl⟩, Nat.zero_le _, rfl, rfl⟩, ⟨by omega, rfl, ?_⟩, by omega⟩
         · have e3 : n - ws.length - ((costT stSz ws (i + 1) : Nat) : Int) = n - ws.length - (costT stSz ws i : Nat) - ws[i].size := by rw [ht, e]; omega
           rw [e3]
           simp [slots, leT, hw, e2]
         · rw [ht, e]; omega)
  · conv => whnf
    have hi' : i = ws.length := by omega
    subst hi'
    have := costT_all stSz ws
    exact ⟨_, PH.Le.refl _, _, rfl, rfl, by omega⟩
end Go.Proofs.YtdgipmlkkmmliaaDoor
