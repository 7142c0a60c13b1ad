/-
  WHAT ELSE THE LAW OF NAMES ASKS: tags, head lines without a name, the whole key.
-/
import Derived.Test.YtdgipmlkkmmliaaGreatDoorIi
import Derived.Test.YtdgipmlkkmmliaaGreatDoorUa
import Derived.Test.YtdgipmlkkmmliaaGreatDoorHq
namespace Go.Proofs.YtdgipmlkkmmliaaGreatDoor
set_option maxRecDepth 100000
set_option linter.unusedSimpArgs false
set_option linter.unusedVariables false
open Go.Xe
theorem seq_comm (a b : ByteArray) : seq a b = seq b a := by
  cases h : seq b a with
  | true => rw [seq_iff] at h ⊢; exact h.symm
  | false => rw [seq_ne] at h ⊢; exact fun e => h e.symm
def tagT (ts : List ByteArray) (t : ByteArray) : Bool := ts.any fun s => seq s t
theorem indexS_ret (A : Option Addr) (c : Nat) (ws : List ByteArray) (t : ByteArray) (M : PH) (hs : Sl M A 1 stC ws) (hn : ws.length ≤ 1048576) : Ret 108 [.slice A ws.length c, Tx t] M (I (idxF (fun s => seq t s) ws)) := by
  refine xcall_of_vc Tryz.func108 rfl _ Tryz.ntmps108 _ rfl (fun _ _ => Tryz.call108 _ _) rfl (fun w0 ρ0 => ?_)
  conv => whnf
  refine loop_rule (fun i : Nat => ⟨slots 19 [(0, .v (.slice A ws.length c)), (1, .v (Tx t)), (7, .v (I ws.length)), (8, .v (I i))], []⟩) (fun i M' => i ≤ ws.length ∧ (∀ j, j < i → ∀ h : j < ws.length, seq t ws[j] = false) ∧ M' = M) (fun i => ws.length - i) 0 ?_ ?_ ?_
  · exact ⟨by simp [slots, leT], ⟨[], rfl⟩, Nat.zero_le _, rfl, rfl⟩
  · exact ⟨Nat.zero_le _, fun j hj => absurd hj (Nat.not_lt_zero _), rfl⟩
  rintro i M' ⟨hi, hp, rfl⟩
  conv => whnf
  repeat' (first | (refine ⟨⟨[], rfl⟩, _, PH.Le.refl _, PH.Le.refl _, ?_⟩; conv => whnf) | (refine caseB_true ?_; conv => whnf) | (refine caseB_false ?_; conv => whnf) | ((with_reducible refine caseB_dec (fun h => ?_) (fun h => ?_)) <;> conv => whnf) | ((with_reducible refine caseB_ndec (fun h => ?_) (fun h => ?_)) <;> conv => whnf) | ((with_reducible refine caseB_not (fun h => ?_) (fun h => ?_)) <;> conv => whnf) | (with_reducible refine @And.intro (guardVC _ _ _ _ _) _ ?_ ?_) <;> conv => whnf | (refine caseB_intro (fun h => ?_) (fun h => ?_) <;> (try simp only [Bool.not_eq_true', Bool.not_eq_false', decide_eq_true_eq, decide_eq_false_iff_not] at h) <;> conv => whnf))
  · have hi' : i < ws.length := by omega
    have hw : IntKind.i64.wrap ((i : Int) + 1) = (i : Int) + 1 := wr_id (by omega) (by omega)
    obtain ⟨hA, _, hc⟩ := hs.get hi'
    repeat' (first | (refine ⟨⟨[], rfl⟩, _, PH.Le.refl _, PH.Le.refl _, ?_⟩; conv => whnf) | (refine ⟨_, hc, ?_⟩; conv => whnf) | (refine ⟨by omega, by omega, hA, ?_⟩; conv => whnf) | (refine caseB_true ?_; conv => whnf) | (refine caseB_false ?_; conv => whnf) | ((with_reducible refine caseB_dec (fun h => ?_) (fun h => ?_)) <;> conv => whnf) | ((with_reducible refine caseB_ndec (fun h => ?_) (fun h => ?_)) <;> conv => whnf) | ((with_reducible refine caseB_not (fun h => ?_) (fun h => ?_)) <;> conv => whnf) | (with_reducible refine @And.intro (guardVC _ _ _ _ _) _ ?_ ?_) <;> conv => whnf | (refine caseB_intro (fun h => ?_) (fun h => ?_) <;> (try simp only [Bool.not_eq_true', Bool.not_eq_false', decide_eq_true_eq, decide_eq_false_iff_not] at h) <;> conv => whnf))
    · rename_i h
      exact ⟨_, PH.Le.refl _, by rw [idxF_at _ ws i hi' hp h]; rfl, rfl⟩
    · rename_i h
      exact ⟨i + 1, ⟨by simp [slots, leT, hw], ⟨_, rfl⟩, Nat.zero_le _, rfl, rfl⟩, ⟨by omega, fun j hj hjl => (Nat.lt_succ_iff_lt_or_eq.1 hj).elim (fun h1 => hp j h1 hjl) (fun e => by subst e; exact h), rfl⟩, by omega⟩
  · exact ⟨_, PH.Le.refl _, by rw [idxF_no _ ws fun j h => hp j (by omega) h]; rfl, rfl⟩
theorem containsS_ret (A : Option Addr) (c : Nat) (ws : List ByteArray) (t : ByteArray) (M : PH) (hs : Sl M A 1 stC ws) (hn : ws.length ≤ 1048576) : Ret 68 [.slice A ws.length c, Tx t] M (B (tagT ws t)) := by
  refine xcall_of_vc Tryz.func68 rfl _ Tryz.ntmps68 _ rfl (fun _ _ => Tryz.call68 _ _) rfl (fun w0 ρ0 => ?_)
  conv => whnf
  repeat' (first | (refine ⟨⟨[], rfl⟩, _, PH.Le.refl _, PH.Le.refl _, ?_⟩; conv => whnf) | (refine caseB_true ?_; conv => whnf) | (refine caseB_false ?_; conv => whnf) | ((with_reducible refine caseB_dec (fun h => ?_) (fun h => ?_)) <;> conv => whnf) | ((with_reducible refine caseB_ndec (fun h => ?_) (fun h => ?_)) <;> conv => whnf) | ((with_reducible refine caseB_not (fun h => ?_) (fun h => ?_)) <;> conv => whnf) | (refine Ret.go (indexS_ret A c ws t _ hs hn) ?_; conv => whnf) | (with_reducible refine @And.intro (guardVC _ _ _ _ _) _ ?_ ?_) <;> conv => whnf | (refine caseB_intro (fun h => ?_) (fun h => ?_) <;> (try simp only [Bool.not_eq_true', Bool.not_eq_false', decide_eq_true_eq, decide_eq_false_iff_not] at h) <;> conv => whnf))
  have e : tagT ws t = decide (0 ≤ idxF (fun s => seq t s) ws) := by
    rw [← idxF_any]
    unfold tagT
    congr 1
    funext s
    exact seq_comm s t
  exact ⟨_, PH.Le.refl _, by rw [e]; rfl, rfl⟩
theorem isTagged_impl (A : Option Addr) (c : Nat) (ws : List ByteArray) (t : ByteArray) (M : PH) (hs : Sl M A 1 stC ws) (hn : ws.length ≤ 1048576) : Ret 27 [.slice A ws.length c, Tx t] M (B (tagT ws t)) := by
  refine xcall_of_vc Tryz.func27 rfl _ Tryz.ntmps27 _ rfl (fun _ _ => Tryz.call27 _ _) rfl (fun w0 ρ0 => ?_)
  conv => whnf
  repeat' (first | (refine ⟨⟨[], rfl⟩, _, PH.Le.refl _, PH.Le.refl _, ?_⟩; conv => whnf) | (refine caseB_true ?_; conv => whnf) | (refine caseB_false ?_; conv => whnf) | ((with_reducible refine caseB_dec (fun h => ?_) (fun h => ?_)) <;> conv => whnf) | ((with_reducible refine caseB_ndec (fun h => ?_) (fun h => ?_)) <;> conv => whnf) | ((with_reducible refine caseB_not (fun h => ?_) (fun h => ?_)) <;> conv => whnf) | (refine Ret.go (containsS_ret A c ws t _ hs hn) ?_; conv => whnf) | (with_reducible refine @And.intro (guardVC _ _ _ _ _) _ ?_ ?_) <;> conv => whnf | (refine caseB_intro (fun h => ?_) (fun h => ?_) <;> (try simp only [Bool.not_eq_true', Bool.not_eq_false', decide_eq_true_eq, decide_eq_false_iff_not] at h) <;> conv => whnf))
  exact ⟨_, PH.Le.refl _, rfl, rfl⟩
/-- The head lines that don't bear a name. -/
def dropL (ws : List Hd) (nm : ByteArray) : List Hd := ws.filter fun x => !alikeT x.n nm
theorem dropHeader_ret (A : Option Addr) (c : Nat) (ws : List Hd) (nm : ByteArray) (M : PH) (hs : Sl M A 2 Hd.cs ws) (hn : ws.length ≤ 1048576) (ho : ∀ x ∈ ws, x.okl) (hnm : nm.size ≤ maxLen) :
    ACall env 70 [.slice A ws.length c, Tx nm] M fun r M' => ∃ o A' c', r = .slice A' (dropL ws nm).length c' ∧ New M M' o A' c' 2 Hd.cs (dropL ws nm) := by
  have e0 : dropL ws nm = ws.filter fun x => !alikeT x.n nm := rfl
  rw [e0]
  clear e0
  refine xcall_of_vc Tryz.func70 rfl _ Tryz.ntmps70 _ rfl (fun _ _ => Tryz.call70 _ _) rfl (fun w0 ρ0 => ?_)
  conv => whnf
  intro g1 hg1
  conv => whnf
  have l0 := PH.Le.set (.cells (#[] : Array Value) 65 (0, 0)) hg1
  refine loop_rule (fun z : E5 => ⟨slots 26 [(0, .v (.slice A ws.length c)), (1, .v (Tx nm)), (5, .v (.slice z.2.2.1 ((ws.take z.1).filter fun x => !alikeT x.n nm).length z.2.2.2)), (9, .v (.slice A ws.length c)), (10, .v (I ws.length)), (11, .v (I z.1))], []⟩)
    (fun z M' => z.1 ≤ ws.length ∧ New M M' z.2.1 z.2.2.1 z.2.2.2 2 Hd.cs ((ws.take z.1).filter fun x => !alikeT x.n nm)) (fun z => ws.length - z.1) (0, none, some ⟨g1, 0, none⟩, 0) ?_ ?_ ?_
  · exact ⟨by simp [slots, leT], ⟨[], rfl⟩, Nat.zero_le _, rfl, rfl⟩
  · exact ⟨Nat.zero_le _, (New.nil M _).to l0⟩
  rintro ⟨i, o, C, d⟩ M2 ⟨hi, N2⟩
  have hi : i ≤ ws.length := hi
  have N2 : New M M2 o C d 2 Hd.cs ((ws.take i).filter fun x => !alikeT x.n nm) := N2
  have hl2 : ((ws.take i).filter fun x => !alikeT x.n nm).length ≤ 1048576 := Nat.le_trans (List.length_filter_le _ _) (by rw [List.length_take]; omega)
  conv => whnf
  refine caseB_dec (fun hb => ?_) (fun hb => ?_)
  · have hb : (i : Int) < ws.length := hb
    have hi' : i < ws.length := by omega
    have hw : IntKind.i64.wrap ((i : Int) + 1) = (i : Int) + 1 := wr_id (by omega) (by omega)
    obtain ⟨hA, _, hc⟩ := (hs.mono N2.le).get hi'
    have ht := filter_take (fun x : Hd => !alikeT x.n nm) hi'
    have hx := ho ws[i] (List.getElem_mem hi')
    generalize ws[i] = p at *
    conv => whnf
    refine ⟨by omega, hb, hA, ?_⟩
    conv => whnf
    refine ⟨p.cs, hc, rfl, ?_⟩
    conv => whnf
    refine Ret.go (alike_ret _ _ _ hx.1 hnm) ?_
    conv => whnf
    refine caseB_intro (fun h => ?_) (fun h => ?_)
    · have hp : (!alikeT p.n nm) = true := by rw [show alikeT p.n nm = false from by simpa using h]; rfl
      have e1 : ((ws.take (i + 1)).filter fun x => !alikeT x.n nm) = ((ws.take i).filter fun x => !alikeT x.n nm) ++ [p] := by rw [ht, hp]; rfl
      conv => whnf
      intro g3 hg3
      conv => whnf
      refine app_sl (te := ti65) (f := Hd.cs) (xs := (ws.take i).filter fun x => !alikeT x.n nm) (ys := [p]) (o := o) (sl_full Hd.len M2 g3 [p] _ _) (N2.ow.mono (PH.Le.set _ hg3)) Hd.len Hd_oneE rfl (hd_fitsE _ _ (by show _ + 1 ≤ _; omega)) (by show _ + 1 ≤ _; omega) fun o' A' c' M' hO hK hF => ?_
      conv => whnf
      have N3 := N2.more (PH.Le.set _ hg3) hK hO hF
      rw [← e1] at N3 ⊢
      exact ⟨(i + 1, o', A', c'), ⟨by simp [slots, leT, hw], ⟨[_], rfl⟩, Nat.zero_le _, rfl, rfl⟩, ⟨hi', N3⟩, by show _ - (i + 1) < _ - i; omega⟩
    · have hp : (!alikeT p.n nm) = false := by rw [show alikeT p.n nm = true from by simpa using h]; rfl
      have e1 : ((ws.take (i + 1)).filter fun x => !alikeT x.n nm) = ((ws.take i).filter fun x => !alikeT x.n nm) := by rw [ht, hp]; simp
      conv => whnf
      exact ⟨(i + 1, o, C, d), ⟨by simp [slots, leT, hw, e1], ⟨[_], rfl⟩, Nat.zero_le _, rfl, rfl⟩, ⟨hi', by show New _ _ _ _ _ _ _ ((ws.take (i + 1)).filter _); rw [e1]; exact N2⟩, by show _ - (i + 1) < _ - i; omega⟩
  · have hiK : i = ws.length := by have hb : ¬ (i : Int) < ws.length := hb; omega
    subst hiK
    rw [List.take_length] at N2
    conv => whnf
    exact ⟨_, PH.Le.refl _, o, C, d, by rw [List.take_length]; rfl, N2⟩
def namedF (ws : List Hd) (nm : ByteArray) : Int := if hdsFault ws ≠ 0 then hdsFault ws else if wordT nm = false then 5 else 0
theorem namedFault_ret (A : Option Addr) (c : Nat) (ws : List Hd) (nm : ByteArray) (M : PH) (hs : Sl M A 2 Hd.cs ws) (hn : ws.length ≤ 1048576) (ho : ∀ x ∈ ws, x.okl) (hnm : nm.size ≤ maxLen) : Ret 69 [.slice A ws.length c, Tx nm] M (I (namedF ws nm)) := by
  refine xcall_of_vc Tryz.func69 rfl _ Tryz.ntmps69 _ rfl (fun _ _ => Tryz.call69 _ _) rfl (fun w0 ρ0 => ?_)
  conv => whnf
  repeat' (first | (refine ⟨⟨[], rfl⟩, _, PH.Le.refl _, PH.Le.refl _, ?_⟩; conv => whnf) | (refine caseB_true ?_; conv => whnf) | (refine caseB_false ?_; conv => whnf) | ((with_reducible refine caseB_dec (fun h => ?_) (fun h => ?_)) <;> conv => whnf) | ((with_reducible refine caseB_ndec (fun h => ?_) (fun h => ?_)) <;> conv => whnf) | ((with_reducible refine caseB_not (fun h => ?_) (fun h => ?_)) <;> conv => whnf) | (refine Ret.go (headersFault_impl A c ws _ hs hn ho) ?_; conv => whnf) | (refine Ret.go (isWord_impl _ _ hnm) ?_; conv => whnf) | (with_reducible refine @And.intro (guardVC _ _ _ _ _) _ ?_ ?_) <;> conv => whnf | (refine caseB_intro (fun h => ?_) (fun h => ?_) <;> (try simp only [Bool.not_eq_true', Bool.not_eq_false', decide_eq_true_eq, decide_eq_false_iff_not] at h) <;> conv => whnf))
  all_goals first | (refine ⟨M, PH.Le.refl _, ?_, rfl⟩; simp [resV, namedF, *]; done) | (refine ⟨M, PH.Le.refl _, ?_, rfl, rfl⟩; simp [resV, namedF, *]; done) | (exfalso; simp_all; done)
theorem dropHeader_impl (A : Option Addr) (c : Nat) (ws : List Hd) (nm : ByteArray) (M : PH) (hs : Sl M A 2 Hd.cs ws) (hn : ws.length ≤ 1048576) (ho : ∀ x ∈ ws, x.okl) (hnm : nm.size ≤ maxLen) :
    ACall env 28 [.slice A ws.length c, Tx nm] M fun r M' => ∃ A' c' n, r = .agg #[I (namedF ws nm), .slice A' n c'] ∧ (namedF ws nm = 0 → n = (dropL ws nm).length ∧ Sl M' A' 2 Hd.cs (dropL ws nm)) ∧ M.Le M' := by
  refine xcall_of_vc Tryz.func28 rfl _ Tryz.ntmps28 _ rfl (fun _ _ => Tryz.call28 _ _) rfl (fun w0 ρ0 => ?_)
  conv => whnf
  repeat' (first | (refine ⟨⟨[], rfl⟩, _, PH.Le.refl _, PH.Le.refl _, ?_⟩; conv => whnf) | (refine caseB_true ?_; conv => whnf) | (refine caseB_false ?_; conv => whnf) | ((with_reducible refine caseB_dec (fun h => ?_) (fun h => ?_)) <;> conv => whnf) | ((with_reducible refine caseB_ndec (fun h => ?_) (fun h => ?_)) <;> conv => whnf) | ((with_reducible refine caseB_not (fun h => ?_) (fun h => ?_)) <;> conv => whnf) | (refine Ret.go (namedFault_ret A c ws nm _ hs hn ho hnm) ?_; conv => whnf) | (with_reducible refine @And.intro (guardVC _ _ _ _ _) _ ?_ ?_) <;> conv => whnf | (refine caseB_intro (fun h => ?_) (fun h => ?_) <;> (try simp only [Bool.not_eq_true', Bool.not_eq_false', decide_eq_true_eq, decide_eq_false_iff_not] at h) <;> conv => whnf))
  · have h : ¬ namedF ws nm = 0 := h
    exact ⟨_, PH.Le.refl _, none, 0, 0, rfl, fun e => absurd e h, PH.Le.refl _⟩
  · have h : namedF ws nm = 0 := by first | exact h | (have h : ¬ ¬ namedF ws nm = 0 := h; omega)
    refine ACall.step (dropHeader_ret A c ws nm M hs hn ho hnm) fun r M1 hh => ?_
    obtain ⟨o, A1, c1, rfl, N1⟩ := hh
    conv => whnf
    exact ⟨_, PH.Le.refl _, A1, c1, _, by rw [h]; rfl, fun _ => ⟨rfl, N1.ow.sl Hd.len⟩, N1.le⟩
/-! ### The whole key of a plain request -/
abbrev q0 : Rq := ⟨⟨#[71, 69, 84]⟩, ⟨#[97]⟩, ⟨#[47]⟩, []⟩
theorem q0_fault : rqFault q0 = 0 := by decide +kernel
theorem strOfNums_size (l : List Int) : (strOfNums l).size = l.length := by
  rw [size_list]
  unfold strOfNums
  simp
theorem lower_size (b : ByteArray) : (lowerB b).size = b.size := by
  unfold lowerB
  rw [strOfNums_size, List.length_map, byI_length]
theorem l5Key_ret (M : PH) : XCall env 111 [.bp 0 0] [rqB q0 none 0] M fun r b M' => (∃ t, r = Tx t ∧ t.size ≤ 2) ∧ b = [rqB q0 none 0] ∧ M' = M := by
  refine xcall_of_vc Tryz.func111 rfl _ Tryz.ntmps111 _ rfl (fun _ _ => Tryz.call111 _ _) rfl (fun w0 ρ0 => ?_)
  conv => whnf
  refine loop_rule (fun i : Nat => ⟨slots 95 [(0, .bp 0 0), (2, .v (Tx ⟨#[]⟩)), (3, .v (I i))], [rqB q0 none 0]⟩) (fun i M' => i ≤ 1 ∧ M' = M) (fun i => 1 - i) 0 ?_ ?_ ?_
  · exact ⟨by simp [slots, leT], ⟨[], rfl⟩, by simp, rfl, rfl⟩
  · exact ⟨Nat.zero_le _, rfl⟩
  rintro i M' ⟨hi, rfl⟩
  have hi2 : i = 0 ∨ i = 1 := by have : i ≤ 1 := hi; omega
  rcases hi2 with rfl | rfl
  · conv => whnf
    repeat' (first | (refine ⟨⟨[], rfl⟩, _, PH.Le.refl _, PH.Le.refl _, ?_⟩; conv => whnf) | (refine ⟨by decide, by decide, ?_⟩; conv => whnf) | (refine caseB_true ?_; conv => whnf) | (refine caseB_false ?_; conv => whnf) | ((with_reducible refine caseB_dec (fun h => ?_) (fun h => ?_)) <;> conv => whnf) | ((with_reducible refine caseB_ndec (fun h => ?_) (fun h => ?_)) <;> conv => whnf) | ((with_reducible refine caseB_not (fun h => ?_) (fun h => ?_)) <;> conv => whnf) | (with_reducible refine @And.intro (guardVC _ _ _ _ _) _ ?_ ?_) <;> conv => whnf | (refine caseB_intro (fun h => ?_) (fun h => ?_) <;> (try simp only [Bool.not_eq_true', Bool.not_eq_false', decide_eq_true_eq, decide_eq_false_iff_not] at h) <;> conv => whnf))
    exact ⟨1, ⟨by simp [slots, leT]; rfl, ⟨[], rfl⟩, by simp, rfl, rfl⟩, ⟨Nat.le_refl _, rfl⟩, by decide⟩
  · conv => whnf
    repeat' (first | (refine ⟨⟨[], rfl⟩, _, PH.Le.refl _, bot_le _, ?_⟩; conv => whnf) | (refine ⟨⟨_, rfl⟩, _, PH.Le.refl _, bot_le _, ?_⟩; conv => whnf) | (refine ⟨cat_fitsE (by rw [lower_size]; decide +kernel), ?_⟩; conv => whnf) | (refine ⟨⟨by decide, by decide, by decide⟩, ?_⟩; conv => whnf) | (refine caseB_true ?_; conv => whnf) | (refine caseB_false ?_; conv => whnf) | ((with_reducible refine caseB_dec (fun h => ?_) (fun h => ?_)) <;> conv => whnf) | ((with_reducible refine caseB_ndec (fun h => ?_) (fun h => ?_)) <;> conv => whnf) | ((with_reducible refine caseB_not (fun h => ?_) (fun h => ?_)) <;> conv => whnf) | (refine Ret.go (l1Lower_ret _ _ (by decide)) ?_; conv => whnf) | (refine draw_ruleJ (some [0]) (.light 0 <| .light 1 <| .light 2 <| .light 3 <| .light 5 <| .light 6 <| .light 7 <| .light 8 <| .light 9 <| .light 10 <| .alt 4 false (.light 11 <| .light 12 <| .done) .nil) (by decide +kernel) (bot_le _) ?_; conv => whnf) | (with_reducible refine @And.intro (guardVC _ _ _ _ _) _ ?_ ?_) <;> conv => whnf | (refine caseB_intro (fun h => ?_) (fun h => ?_) <;> (try simp only [Bool.not_eq_true', Bool.not_eq_false', decide_eq_true_eq, decide_eq_false_iff_not] at h) <;> conv => whnf))
    exact ⟨_, PH.Le.refl _, ⟨_, rfl, by rw [ByteArray.size_append, lower_size]; decide +kernel⟩, rfl, rfl⟩
theorem l5Full_ret (A : Option Addr) (c : Nat) (ns : List ByteArray) (M : PH) (hs : Sl M A 1 stC ns) (hn : ns.length ≤ 5) (ho : ∀ x ∈ ns, x.size ≤ 80) :
    XCall env 72 [.bp 0 0, .v (.slice A ns.length c)] [rqB q0 none 0] M fun r b M' => (∃ t, r = Tx t) ∧ b = [rqB q0 none 0] ∧ M' = M := by
  refine xcall_of_vc Tryz.func72 rfl _ Tryz.ntmps72 _ rfl (fun _ _ => Tryz.call72 _ _) rfl (fun w0 ρ0 => ?_)
  conv => whnf
  refine XCall.lift (l5Key_ret M) [0] ?_ (by simp) (by simp) (by simp [AV.plain]) ?_
  · simp [ren, AV.plain]
  rintro r b M1 ⟨⟨t0, rfl, ht0⟩, rfl, rfl⟩
  refine ⟨by simp [AV.plain], ?_⟩
  conv => whnf
  refine loop_rule (fun z : Nat × ByteArray => ⟨slots 41 [(0, .bp 0 0), (1, .v (.slice A ns.length c)), (4, .v (Tx ⟨#[]⟩)), (5, .v (Tx z.2)), (6, .v (I z.1))], [rqB q0 none 0]⟩) (fun z M' => z.1 ≤ ns.length ∧ z.2.size ≤ 2 + 100 * z.1 ∧ M' = M1) (fun z => ns.length - z.1) (0, t0) ?_ ?_ ?_
  · exact ⟨by simp [slots, leT], ⟨[], rfl⟩, by simp, rfl, rfl⟩
  · exact ⟨Nat.zero_le _, ht0, rfl⟩
  rintro ⟨i, t⟩ M' ⟨hi, ht, rfl⟩
  have hi : i ≤ ns.length := hi
  have ht : t.size ≤ 2 + 100 * i := ht
  conv => whnf
  refine caseB_dec (fun hb => ?_) (fun hb => ?_)
  · have hb : (i : Int) < ns.length := hb
    have hi' : i < ns.length := by omega
    have hw : IntKind.i64.wrap ((i : Int) + 1) = (i : Int) + 1 := wr_id (by omega) (by omega)
    obtain ⟨hA, _, hc⟩ := hs.get hi'
    have hx := ho ns[i] (List.getElem_mem hi')
    generalize ns[i] = p at *
    have hl := lower_size p
    have lr := PH.Le.refl M'
    have z1 : (⟨#[32]⟩ : ByteArray).size = 1 := rfl
    have z2 : (⟨#[61]⟩ : ByteArray).size = 1 := rfl
    have hj : (jn (vals [] p)).size = 0 := rfl
    conv => whnf
    repeat' (first | (refine ⟨⟨[], rfl⟩, _, PH.Le.refl _, bot_le _, ?_⟩; conv => whnf) | (refine ⟨⟨_, rfl⟩, _, PH.Le.refl _, bot_le _, ?_⟩; conv => whnf) | (refine ⟨⟨_, rfl⟩, _, PH.Le.refl _, lr, ?_⟩; conv => whnf) | (refine ⟨cat_fitsE (by simp only [ByteArray.size_append, z1, z2, hl, hj]; omega), ?_⟩; conv => whnf) | (refine ⟨_, hc, ?_⟩; conv => whnf) | (refine ⟨by omega, hb, hA, ?_⟩; conv => whnf) | (refine caseB_true ?_; conv => whnf) | (refine caseB_false ?_; conv => whnf) | ((with_reducible refine caseB_dec (fun h => ?_) (fun h => ?_)) <;> conv => whnf) | ((with_reducible refine caseB_ndec (fun h => ?_) (fun h => ?_)) <;> conv => whnf) | ((with_reducible refine caseB_not (fun h => ?_) (fun h => ?_)) <;> conv => whnf) | (refine draw_ruleJ (none) (.light 0 <| .light 1 <| .light 2 <| .light 3 <| .light 4 <| .light 5 <| .light 6 <| .light 7 <| .alt 8 false (.light 9 <| .light 10 <| .light 11 <| .light 12 <| .light 13 <| .done) .nil) (by decide +kernel) (lr) ?_; conv => whnf) | (refine Ret.go (l4Join_ret none 0 [] p _ Sl.nil (by decide) (fun x hx => by cases hx) (by unfold maxLen; omega)) ?_; conv => whnf) | (refine Ret.go (l1Lower_ret p _ (by unfold maxLen; omega)) ?_; conv => whnf) | (with_reducible refine @And.intro (guardVC _ _ _ _ _) _ ?_ ?_) <;> conv => whnf | (refine caseB_intro (fun h => ?_) (fun h => ?_) <;> (try simp only [Bool.not_eq_true', Bool.not_eq_false', decide_eq_true_eq, decide_eq_false_iff_not] at h) <;> conv => whnf))
    exact ⟨(i + 1, t ++ ⟨#[32]⟩ ++ lowerB p ++ ⟨#[61]⟩ ++ jn (vals [] p)), ⟨by simp [slots, leT, hw], ⟨[], rfl⟩, by simp, rfl, rfl⟩, ⟨hi', by simp only [ByteArray.size_append, z1, z2, hl, hj]; omega, rfl⟩, by show ns.length - (i + 1) < ns.length - i; omega⟩
  · conv => whnf
    exact ⟨_, PH.Le.refl _, ⟨_, rfl⟩, rfl, rfl⟩
theorem fullKey_ret (A : Option Addr) (c : Nat) (ns : List ByteArray) (M : PH) (hs : Sl M A 1 stC ns) (hn : ns.length ≤ 5) (ho : ∀ x ∈ ns, x.size ≤ 80) :
    ACall env 29 [rqV q0 none 0, .slice A ns.length c] M fun r M' => ∃ t, r = .agg #[I (nmsC ns), Tx t] ∧ M' = M := by
  refine xcall_of_vc Tryz.func29 rfl _ Tryz.ntmps29 _ rfl (fun _ _ => Tryz.call29 _ _) rfl (fun w0 ρ0 => ?_)
  conv => whnf
  repeat' (first | (refine ⟨⟨[], rfl⟩, _, PH.Le.refl _, PH.Le.refl _, ?_⟩; conv => whnf) | (refine caseB_true ?_; conv => whnf) | (refine caseB_false ?_; conv => whnf) | ((with_reducible refine caseB_dec (fun h => ?_) (fun h => ?_)) <;> conv => whnf) | ((with_reducible refine caseB_ndec (fun h => ?_) (fun h => ?_)) <;> conv => whnf) | ((with_reducible refine caseB_not (fun h => ?_) (fun h => ?_)) <;> conv => whnf) | (refine Ret.go (requestFault_spec q0 none 0 _ Sl.nil (by decide +kernel)) ?_; conv => whnf) | (refine Ret.go (l5Names_ret A c ns _ hs (by omega) (fun x hx => by have := ho x hx; unfold maxLen; omega)) ?_; conv => whnf) | (with_reducible refine @And.intro (guardVC _ _ _ _ _) _ ?_ ?_) <;> conv => whnf | (refine caseB_intro (fun h => ?_) (fun h => ?_) <;> (try simp only [Bool.not_eq_true', Bool.not_eq_false', decide_eq_true_eq, decide_eq_false_iff_not] at h) <;> conv => whnf))
  · exact absurd q0_fault h
  · exact ⟨_, PH.Le.refl _, _, rfl, rfl⟩
  · refine XCall.lift (l5Full_ret A c ns _ hs hn ho) [0] ?_ (by simp) (by simp) (by simp [AV.plain]) ?_
    · simp [ren, AV.plain]
    rintro r b M1 ⟨⟨t0, rfl⟩, rfl, rfl⟩
    refine ⟨by simp [AV.plain], ?_⟩
    conv => whnf
    have h0 : nmsC ns = 0 := by first | assumption | omega
    exact ⟨_, PH.Le.refl _, t0, by rw [h0]; rfl, rfl⟩
end Go.Proofs.YtdgipmlkkmmliaaGreatDoor
