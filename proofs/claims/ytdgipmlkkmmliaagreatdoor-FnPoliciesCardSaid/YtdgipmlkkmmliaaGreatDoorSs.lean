/-
  THE TAGS of an answer.
-/
import Derived.Test.YtdgipmlkkmmliaaGreatDoorSr
namespace Go.Proofs.YtdgipmlkkmmliaaGreatDoor
set_option maxRecDepth 100000
set_option linter.unusedSimpArgs false
set_option linter.unusedVariables false
open Go.Xe
def skU : ByteArray := ⟨#[83, 117, 114, 114, 111, 103, 97, 116, 101, 45, 75, 101, 121]⟩
def skL : ByteArray := ⟨#[115, 117, 114, 114, 111, 103, 97, 116, 101, 45, 107, 101, 121]⟩
theorem sk_eq (ws : List Hd) : vals ws skU = vals ws skL := by
  have : lowerB skU = lowerB skL := by decide +kernel
  unfold vals alikeT
  rw [this]
def fullT (t : ByteArray) : Bool := !seq t ⟨#[]⟩
def tagsL (ws : List Hd) : List ByteArray := (splB (jn (vals ws skL)) 32).filter fullT
abbrev nrW (k : Int) (A : Option Addr) (n c : Nat) : Value := .agg #[I k, .slice A n c]
theorem jn_small (ws : List Hd) (nm : ByteArray) (hco : costL Hd.cost ws ≤ 1048576) : (jn (vals ws nm)).size ≤ 2097152 := jn_size _ (Nat.le_trans (vals_sum ws nm) (by omega))
abbrev E5 := Nat × Option Nat × Option Addr × Nat
theorem l6Tags_ret (A : Option Addr) (c : Nat) (ws : List Hd) (M : PH) (hs : Sl M A 2 Hd.cs ws) (hco : costL Hd.cost ws ≤ 1048576) (ho : ∀ x ∈ ws, x.okl) :
    ACall env 67 [.slice A ws.length c] M fun r M' => ∃ o A' c', r = .slice A' (tagsL ws).length c' ∧ New M M' o A' c' 1 stC (tagsL ws) := by
  refine xcall_of_vc Tryz.func67 rfl _ Tryz.ntmps67 _ rfl (fun _ _ => Tryz.call67 _ _) rfl (fun w0 ρ0 => ?_)
  conv => whnf
  refine Ret.go (l4Join_ret A c ws skL _ hs (by omega) ho (by decide +kernel)) ?_
  conv => whnf
  refine ACall.step (l1Cut_ret (jn (vals ws skL)) 32 M (Nat.le_trans (jn_small ws skL hco) (by omega))) fun r M1 hh => ?_
  obtain ⟨o1, A1, c1, rfl, N1⟩ := hh
  have hpl : (splB (jn (vals ws skL)) 32).length ≤ 2097153 := by
    have h1 := splB_len (jn (vals ws skL)) 32
    have h2 := Lib.countB_le ⟨#[32]⟩ (Nat.le_refl 1) _ (jn (vals ws skL)) (Nat.le_refl _)
    have h3 := jn_small ws skL hco
    omega
  have S1 := N1.ow.sl st_len
  have e0 : tagsL ws = (splB (jn (vals ws skL)) 32).filter fullT := rfl
  rw [e0]
  generalize splB (jn (vals ws skL)) 32 = ps at *
  clear e0
  conv => whnf
  intro g2 hg2
  conv => whnf
  refine loop_rule (fun z : E5 => ⟨slots 35 [(0, .v (.slice A ws.length c)), (5, .v (.slice A1 ps.length c1)), (6, .v (.slice z.2.2.1 ((ps.take z.1).filter fullT).length z.2.2.2)), (7, .v (I z.1))], []⟩)
    (fun z M' => z.1 ≤ ps.length ∧ New M1 M' z.2.1 z.2.2.1 z.2.2.2 1 stC ((ps.take z.1).filter fullT)) (fun z => ps.length - z.1) (0, none, some ⟨g2, 0, none⟩, 0) ?_ ?_ ?_
  · exact ⟨by simp [slots, leT], ⟨[], rfl⟩, Nat.zero_le _, rfl, rfl⟩
  · exact ⟨Nat.zero_le _, (New.nil M1 _).to (PH.Le.set _ hg2)⟩
  rintro ⟨i, o, C, d⟩ M2 ⟨hi, N2⟩
  have hi : i ≤ ps.length := hi
  have N2 : New M1 M2 o C d 1 stC ((ps.take i).filter fullT) := N2
  have hl2 : ((ps.take i).filter fullT).length ≤ 2097153 := Nat.le_trans (List.length_filter_le _ _) (by rw [List.length_take]; omega)
  conv => whnf
  refine caseB_dec (fun hb => ?_) (fun hb => ?_)
  · have hb : (i : Int) < ps.length := hb
    have hi' : i < ps.length := by omega
    have hw : IntKind.i64.wrap ((i : Int) + 1) = (i : Int) + 1 := wr_id (by omega) (by omega)
    obtain ⟨hA, _, hc⟩ := (S1.mono N2.le).get hi'
    have ht := filter_take fullT hi'
    generalize ps[i] = p at *
    conv => whnf
    refine ⟨by omega, hb, hA, ?_⟩
    conv => whnf
    refine ⟨_, hc, ?_⟩
    conv => whnf
    refine caseB_intro (fun h => ?_) (fun h => ?_)
    · have hp : fullT p = true := h
      have e1 : (ps.take (i + 1)).filter fullT = (ps.take i).filter fullT ++ [p] := by rw [ht, hp]; rfl
      conv => whnf
      refine ⟨by omega, hb, hA, ?_⟩
      conv => whnf
      refine ⟨_, hc, ?_⟩
      conv => whnf
      intro g3 hg3
      conv => whnf
      refine app_sl (te := ti9) (f := stC) (xs := (ps.take i).filter fullT) (ys := [p]) (o := o) (sl_full st_len M2 g3 [p] _ _) (N2.ow.mono (PH.Le.set _ hg3)) st_len st_one rfl (st_fits _ _ (by show _ + 1 ≤ _; omega)) (by show _ + 1 ≤ _; omega) fun o' A' c' M' hO hK hF => ?_
      conv => whnf
      have N3 := N2.more (PH.Le.set _ hg3) hK hO hF
      rw [← e1] at N3 ⊢
      exact ⟨(i + 1, o', A', c'), ⟨by simp [slots, leT, hw], ⟨[], rfl⟩, Nat.zero_le _, rfl, rfl⟩, ⟨hi', N3⟩, by show _ - (i + 1) < _ - i; omega⟩
    · have hp : fullT p = false := h
      have e1 : (ps.take (i + 1)).filter fullT = (ps.take i).filter fullT := by rw [ht, hp]; simp
      conv => whnf
      exact ⟨(i + 1, o, C, d), ⟨by simp [slots, leT, hw, e1], ⟨[], rfl⟩, Nat.zero_le _, rfl, rfl⟩, ⟨hi', by show New _ _ _ _ _ _ _ ((ps.take (i + 1)).filter fullT); rw [e1]; exact N2⟩, by show _ - (i + 1) < _ - i; omega⟩
  · have hiK : i = ps.length := by have hb : ¬ (i : Int) < ps.length := hb; omega
    subst hiK
    rw [List.take_length] at N2
    conv => whnf
    exact ⟨_, PH.Le.refl _, o, C, d, by rw [List.take_length]; rfl, N2.from N1.le⟩
def tagC (ws : List Hd) : Int := if hdsFault ws ≠ 0 then hdsFault ws else if 10 < ((tagsL ws).length : Int) then 2 else 0
def tagR (ws : List Hd) : List ByteArray := if tagC ws = 0 then tagsL ws else []
theorem tagR_len (ws : List Hd) : (tagR ws).length ≤ 10 := by
  unfold tagR
  split
  · rename_i h
    unfold tagC at h
    split at h
    · contradiction
    · split at h
      · cases h
      · omega
  · exact Nat.zero_le _
theorem tagsOf_spec (A : Option Addr) (c : Nat) (ws : List Hd) (M : PH) (hs : Sl M A 2 Hd.cs ws) (hco : costL Hd.cost ws ≤ 1048576) (ho : ∀ x ∈ ws, x.okl) :
    ACall env 26 [.slice A ws.length c] M fun r M' => ∃ o A' c', r = nrW (tagC ws) A' (tagR ws).length c' ∧ New M M' o A' c' 1 stC (tagR ws) := by
  have hn := Nat.le_trans (costL_len Hd.cost ws) hco
  have no : ∀ k, tagC ws = k → k ≠ 0 → ∃ o A' c', nrW k none 0 0 = nrW (tagC ws) A' (tagR ws).length c' ∧ New M M o A' c' 1 stC (tagR ws) := fun k h1 h2 => by
    have e : tagR ws = [] := by unfold tagR; rw [if_neg (by rw [h1]; exact h2)]
    rw [e, h1]
    exact ⟨none, none, 0, rfl, New.nil M none⟩
  refine xcall_of_vc Tryz.func26 rfl _ Tryz.ntmps26 _ rfl (fun _ _ => Tryz.call26 _ _) rfl (fun w0 ρ0 => ?_)
  conv => whnf
  repeat' (first | (refine ⟨⟨[], rfl⟩, _, PH.Le.refl _, PH.Le.refl _, ?_⟩; conv => whnf) | (refine caseB_true ?_; conv => whnf) | (refine caseB_false ?_; conv => whnf) | ((with_reducible refine caseB_dec (fun h => ?_) (fun h => ?_)) <;> conv => whnf) | ((with_reducible refine caseB_ndec (fun h => ?_) (fun h => ?_)) <;> conv => whnf) | ((with_reducible refine caseB_not (fun h => ?_) (fun h => ?_)) <;> conv => whnf) | (refine Ret.go (headersFault_spec A c ws _ hs hn ho) ?_; conv => whnf) | (with_reducible refine @And.intro (guardVC _ _ _ _ _) _ ?_ ?_) <;> conv => whnf | (refine caseB_intro (fun h => ?_) (fun h => ?_) <;> (try simp only [Bool.not_eq_true', Bool.not_eq_false', decide_eq_true_eq, decide_eq_false_iff_not] at h) <;> conv => whnf))
  · exact ⟨_, PH.Le.refl _, no _ (by simp [tagC, *]) (by assumption)⟩
  refine ACall.step (l6Tags_ret A c ws M hs hco ho) fun r M1 hh => ?_
  obtain ⟨o1, A1, c1, rfl, N1⟩ := hh
  conv => whnf
  repeat' (first | (refine ⟨⟨[], rfl⟩, _, PH.Le.refl _, PH.Le.refl _, ?_⟩; conv => whnf) | (refine caseB_true ?_; conv => whnf) | (refine caseB_false ?_; conv => whnf) | ((with_reducible refine caseB_dec (fun h => ?_) (fun h => ?_)) <;> conv => whnf) | ((with_reducible refine caseB_ndec (fun h => ?_) (fun h => ?_)) <;> conv => whnf) | ((with_reducible refine caseB_not (fun h => ?_) (fun h => ?_)) <;> conv => whnf) | (with_reducible refine @And.intro (guardVC _ _ _ _ _) _ ?_ ?_) <;> conv => whnf | (refine caseB_intro (fun h => ?_) (fun h => ?_) <;> (try simp only [Bool.not_eq_true', Bool.not_eq_false', decide_eq_true_eq, decide_eq_false_iff_not] at h) <;> conv => whnf))
  · have e : tagC ws = 2 := by simp [tagC, *]
    have e2 : tagR ws = [] := by unfold tagR; rw [e]; rfl
    refine ⟨_, PH.Le.refl _, none, none, 0, by rw [e, e2]; rfl, by rw [e2]; exact (New.nil M none).to N1.le⟩
  · have e : tagC ws = 0 := by simp [tagC, *]
    have e2 : tagR ws = tagsL ws := by unfold tagR; rw [if_pos e]
    refine ⟨_, PH.Le.refl _, o1, A1, c1, by rw [e, e2]; rfl, by rw [e2]; exact N1⟩
theorem joinHeader_ret (A : Option Addr) (c : Nat) (ws : List Hd) (nm : ByteArray) (M : PH) (hs : Sl M A 2 Hd.cs ws) (hco : costL Hd.cost ws ≤ 1048576) (ho : ∀ x ∈ ws, x.okl) (hnm : nm.size ≤ maxLen) :
    Ret 53 [.slice A ws.length c, Tx nm] M (.tuple #[Tx (jn (vals ws nm)), B (decide ((0 : Int) < ((vals ws nm).length : Int)))]) := by
  have hn := Nat.le_trans (costL_len Hd.cost ws) hco
  refine Ret.of ?_
  refine xcall_of_vc Tryz.func53 rfl _ Tryz.ntmps53 _ rfl (fun _ _ => Tryz.call53 _ _) rfl (fun w0 ρ0 => ?_)
  conv => whnf
  refine ACall.step (valuesOf_ret A c ws nm M hs hn ho hnm) fun r M1 hh => ?_
  obtain ⟨o1, A1, c1, rfl, hA1, N1⟩ := hh
  conv => whnf
  have hv := vals_le ws nm
  have hj := jn_small ws nm hco
  repeat' (first | (refine ⟨⟨[], rfl⟩, _, PH.Le.refl _, PH.Le.refl _, ?_⟩; conv => whnf) | (refine caseB_true ?_; conv => whnf) | (refine caseB_false ?_; conv => whnf) | ((with_reducible refine caseB_dec (fun h => ?_) (fun h => ?_)) <;> conv => whnf) | ((with_reducible refine caseB_ndec (fun h => ?_) (fun h => ?_)) <;> conv => whnf) | ((with_reducible refine caseB_not (fun h => ?_) (fun h => ?_)) <;> conv => whnf) | (refine Ret.go (join_ret A1 c1 (vals ws nm) ⟨#[44, 32]⟩ _ (N1.ow.sl st_len) N1.ow.le (by omega) (by have : jnS (vals ws nm) ⟨#[44, 32]⟩ = jn (vals ws nm) := rfl; rw [this]; omega)) ?_; conv => whnf) | (with_reducible refine @And.intro (guardVC _ _ _ _ _) _ ?_ ?_) <;> conv => whnf | (refine caseB_intro (fun h => ?_) (fun h => ?_) <;> (try simp only [Bool.not_eq_true', Bool.not_eq_false', decide_eq_true_eq, decide_eq_false_iff_not] at h) <;> conv => whnf))
  exact ⟨_, PH.Le.refl _, rfl, N1.le⟩
theorem splB_le (s : ByteArray) (x : UInt8) : (splB s x).length ≤ s.size + 1 := by
  have h1 := splB_len s x
  have h2 := Lib.countB_le ⟨#[x]⟩ (Nat.le_refl 1) _ s (Nat.le_refl _)
  omega
theorem tagsOf1_ret (t : ByteArray) (M : PH) : XCall env 56 [.v (Tx t)] [] M fun r b M' => r = B (seq t ⟨#[]⟩) ∧ b = [] ∧ M' = M := by
  refine xcall_of_vc Tryz.func56 rfl _ Tryz.ntmps56 _ rfl (fun _ _ => Tryz.call56 _ _) rfl (fun w0 ρ0 => ?_)
  conv => whnf
  exact ⟨_, PH.Le.refl _, rfl, rfl, rfl⟩
theorem tagsOf_impl (A : Option Addr) (c : Nat) (ws : List Hd) (M : PH) (hs : Sl M A 2 Hd.cs ws) (hco : costL Hd.cost ws ≤ 1048576) (ho : ∀ x ∈ ws, x.okl) :
    ACall env 22 [.slice A ws.length c] M fun r M' => ∃ o A' c', r = nrW (tagC ws) A' (tagR ws).length c' ∧ New M M' o A' c' 1 stC (tagR ws) := by
  have hn := Nat.le_trans (costL_len Hd.cost ws) hco
  have no : ∀ k, tagC ws = k → k ≠ 0 → ∃ o A' c', nrW k none 0 0 = nrW (tagC ws) A' (tagR ws).length c' ∧ New M M o A' c' 1 stC (tagR ws) := fun k h1 h2 => by
    have e : tagR ws = [] := by unfold tagR; rw [if_neg (by rw [h1]; exact h2)]
    rw [e, h1]
    exact ⟨none, none, 0, rfl, New.nil M none⟩
  refine xcall_of_vc Tryz.func22 rfl _ Tryz.ntmps22 _ rfl (fun _ _ => Tryz.call22 _ _) rfl (fun w0 ρ0 => ?_)
  conv => whnf
  repeat' (first | (refine ⟨⟨[], rfl⟩, _, PH.Le.refl _, PH.Le.refl _, ?_⟩; conv => whnf) | (refine caseB_true ?_; conv => whnf) | (refine caseB_false ?_; conv => whnf) | ((with_reducible refine caseB_dec (fun h => ?_) (fun h => ?_)) <;> conv => whnf) | ((with_reducible refine caseB_ndec (fun h => ?_) (fun h => ?_)) <;> conv => whnf) | ((with_reducible refine caseB_not (fun h => ?_) (fun h => ?_)) <;> conv => whnf) | (refine Ret.go (headersFault_impl A c ws _ hs hn ho) ?_; conv => whnf) | (with_reducible refine @And.intro (guardVC _ _ _ _ _) _ ?_ ?_) <;> conv => whnf | (refine caseB_intro (fun h => ?_) (fun h => ?_) <;> (try simp only [Bool.not_eq_true', Bool.not_eq_false', decide_eq_true_eq, decide_eq_false_iff_not] at h) <;> conv => whnf))
  · exact ⟨_, PH.Le.refl _, no _ (by simp [tagC, *]) (by assumption)⟩
  refine Ret.go (joinHeader_ret A c ws skU _ hs hco ho (by decide +kernel)) ?_
  rw [sk_eq]
  have hj := jn_small ws skL hco
  have hpl := splB_le (jn (vals ws skL)) 32
  conv => whnf
  refine ACall.step (split1_ret (jn (vals ws skL)) 32 M (by omega)) fun r M1 hh => ?_
  obtain ⟨g, rfl, N1⟩ := hh
  have e0 : tagsL ws = (splB (jn (vals ws skL)) 32).filter fullT := rfl
  generalize splB (jn (vals ws skL)) 32 = ps at *
  conv => whnf
  refine XCall.lift (deleteFuncS_ret 56 (fun t => seq t ⟨#[]⟩) (some g) _ _ ps M1 N1.ow (by omega) fun y _ M => tagsOf1_ret y M) [] ?_ (by simp) (by simp) (by simp [AV.plain]) ?_
  · simp [ren, AV.plain]
  rintro r b M2 ⟨rfl, rfl, hO, hK⟩
  refine ⟨by simp [AV.plain], ?_⟩
  have N2 : New M M2 (some g) (some ⟨g, 0, none⟩) ps.length 1 stC (tagsL ws) := ⟨by rw [e0]; exact hO, hK.over N1.le N1.fr, N1.fr⟩
  have e1 : (ps.filter fun y => !seq y ⟨#[]⟩) = tagsL ws := e0.symm
  rw [e1]
  clear e1 e0
  conv => whnf
  repeat' (first | (refine ⟨⟨[], rfl⟩, _, PH.Le.refl _, PH.Le.refl _, ?_⟩; conv => whnf) | (refine caseB_true ?_; conv => whnf) | (refine caseB_false ?_; conv => whnf) | ((with_reducible refine caseB_dec (fun h => ?_) (fun h => ?_)) <;> conv => whnf) | ((with_reducible refine caseB_ndec (fun h => ?_) (fun h => ?_)) <;> conv => whnf) | ((with_reducible refine caseB_not (fun h => ?_) (fun h => ?_)) <;> conv => whnf) | (with_reducible refine @And.intro (guardVC _ _ _ _ _) _ ?_ ?_) <;> conv => whnf | (refine caseB_intro (fun h => ?_) (fun h => ?_) <;> (try simp only [Bool.not_eq_true', Bool.not_eq_false', decide_eq_true_eq, decide_eq_false_iff_not] at h) <;> conv => whnf))
  · have e : tagC ws = 2 := by simp [tagC, *]
    have e2 : tagR ws = [] := by unfold tagR; rw [e]; rfl
    refine ⟨_, PH.Le.refl _, none, none, 0, by rw [e, e2]; rfl, by rw [e2]; exact (New.nil M none).to N2.le⟩
  · have e : tagC ws = 0 := by simp [tagC, *]
    have e2 : tagR ws = tagsL ws := by unfold tagR; rw [if_pos e]
    refine ⟨_, PH.Le.refl _, _, _, _, by rw [e, e2]; rfl, by rw [e2]; exact N2⟩
end Go.Proofs.YtdgipmlkkmmliaaGreatDoor
