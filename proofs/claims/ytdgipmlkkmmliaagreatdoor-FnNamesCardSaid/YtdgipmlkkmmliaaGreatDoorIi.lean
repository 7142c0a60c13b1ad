/-
  WHAT VARIES, by the program.
-/
import Derived.Test.YtdgipmlkkmmliaaGreatDoorIh
namespace Go.Proofs.YtdgipmlkkmmliaaGreatDoor
set_option maxRecDepth 100000
set_option linter.unusedSimpArgs false
set_option linter.unusedVariables false
open Go.Xe
/-- The place of the first of a slice that a function is true of; -1 if there is none. -/
theorem indexFuncStB (ty : TypeId) (x0 x1 x2 : Value) (g : FuncId) (p : ByteArray → Bool) (A : Option Addr) (c : Nat) (ws : List ByteArray) (M : PH) (hs : Sl M A 1 stC ws) (hn : ws.length ≤ 4294967296)
    (hg : ∀ x ∈ ws, XCall env g (.v (Value.string x) :: [.bp 0 0]) [⟨ty, [.v x0, .v x1, .v x2]⟩] M fun r b M' => r = B (p x) ∧ b = [⟨ty, [.v x0, .v x1, .v x2]⟩] ∧ M' = M) :
    XCall env 95 [.v (.slice A ws.length c), .fn g [0]] [⟨ty, [.v x0, .v x1, .v x2]⟩] M fun r b M' => r = I (idxF p ws) ∧ b = [⟨ty, [.v x0, .v x1, .v x2]⟩] ∧ M' = M := by
  refine xcall_of_vc Tryz.func95 rfl _ Tryz.ntmps95 _ rfl (fun _ _ => Tryz.call95 _ _) rfl (fun w0 ρ0 => ?_)
  conv => whnf
  refine loop_rule (fun i : Nat => ⟨slots 19 [(0, .v (.slice A ws.length c)), (1, .fn g [0]), (4, .v (I 0)), (7, .v (I ws.length)), (8, .v (I i))], [⟨ty, [.v x0, .v x1, .v x2]⟩]⟩) (fun i M' => i ≤ ws.length ∧ (∀ j, j < i → ∀ h : j < ws.length, p ws[j] = false) ∧ M' = M) (fun i => ws.length - i) 0 ?_ ?_ ?_
  · exact ⟨by simp [slots, leT], ⟨[], rfl⟩, (by first | exact Nat.zero_le _ | exact Nat.le_refl _), rfl, rfl⟩
  · exact ⟨Nat.zero_le _, fun j hj => absurd hj (Nat.not_lt_zero _), rfl⟩
  · rintro i M' ⟨hi, hp, rfl⟩
    conv => whnf
    repeat' (first | (refine ⟨⟨[], rfl⟩, _, PH.Le.refl _, PH.Le.refl _, ?_⟩; conv => whnf) | (refine caseB_true ?_; conv => whnf) | (refine caseB_false ?_; conv => whnf) | ((with_reducible refine caseB_dec (fun h => ?_) (fun h => ?_)) <;> conv => whnf) | ((with_reducible refine caseB_ndec (fun h => ?_) (fun h => ?_)) <;> conv => whnf) | ((with_reducible refine caseB_not (fun h => ?_) (fun h => ?_)) <;> conv => whnf) | (with_reducible refine @And.intro (guardVC _ _ _ _ _) _ ?_ ?_) <;> conv => whnf | (refine caseB_intro (fun h => ?_) (fun h => ?_) <;> (try simp only [Bool.not_eq_true', Bool.not_eq_false', decide_eq_true_eq, decide_eq_false_iff_not] at h) <;> conv => whnf))
    · have hi' : i < ws.length := by omega
      have hw : IntKind.i64.wrap ((i : Int) + 1) = (i : Int) + 1 := wr_id (by omega) (by omega)
      obtain ⟨hA, _, hc⟩ := hs.get hi'
      refine ⟨by omega, by omega, hA, ?_⟩
      conv => whnf
      refine ⟨Tx ws[i], hc, ?_⟩
      conv => whnf
      refine XCall.mono (hg ws[i] (List.getElem_mem hi')) fun r b M' hh => ?_
      obtain ⟨rfl, rfl, rfl⟩ := hh
      conv => whnf
      refine caseB_intro (fun hx => ?_) (fun hx => ?_)
      · conv => whnf
        exact ⟨_, PH.Le.refl _, by rw [idxF_at p ws i hi' hp hx]; rfl, rfl, rfl⟩
      · conv => whnf
        exact ⟨i + 1, ⟨by simp [slots, leT, hw], ⟨[], rfl⟩, (by first | exact Nat.zero_le _ | exact Nat.le_refl _), rfl, rfl⟩, ⟨by omega, fun j hj h => by
          rcases Nat.lt_succ_iff_lt_or_eq.1 hj with h1 | h1
          · exact hp j h1 h
          · subst h1; exact hx, rfl⟩, by omega⟩
    · exact ⟨_, PH.Le.refl _, by rw [idxF_no p ws (fun j h => hp j (by omega) h)]; rfl, rfl, rfl⟩

theorem containsFuncStB (ty : TypeId) (x0 x1 x2 : Value) (g : FuncId) (p : ByteArray → Bool) (A : Option Addr) (c : Nat) (ws : List ByteArray) (M : PH) (hs : Sl M A 1 stC ws) (hn : ws.length ≤ 4294967296)
    (hg : ∀ x ∈ ws, XCall env g (.v (Value.string x) :: [.bp 0 0]) [⟨ty, [.v x0, .v x1, .v x2]⟩] M fun r b M' => r = B (p x) ∧ b = [⟨ty, [.v x0, .v x1, .v x2]⟩] ∧ M' = M) :
    XCall env 61 [.v (.slice A ws.length c), .fn g [0]] [⟨ty, [.v x0, .v x1, .v x2]⟩] M fun r b M' => r = B (ws.any p) ∧ b = [⟨ty, [.v x0, .v x1, .v x2]⟩] ∧ M' = M := by
  refine xcall_of_vc Tryz.func61 rfl _ Tryz.ntmps61 _ rfl (fun _ _ => Tryz.call61 _ _) rfl (fun w0 ρ0 => ?_)
  conv => whnf
  refine XCall.mono (indexFuncStB ty x0 x1 x2 g p A c ws M hs hn hg) fun r b M' hh => ?_
  obtain ⟨rfl, rfl, rfl⟩ := hh
  conv => whnf
  exact ⟨_, PH.Le.refl _, by rw [idxF_any p ws]; rfl, rfl, rfl⟩

/-- The place of the first of a slice that a function is true of; -1 if there is none. -/
theorem indexFuncItB (ty : TypeId) (x0 : Value) (g : FuncId) (p : It → Bool) (A : Option Addr) (c : Nat) (ws : List It) (M : PH) (hs : Sl M A 3 It.cs ws) (hn : ws.length ≤ 4294967296)
    (hg : ∀ x ∈ ws, XCall env g (.v (It.val x) :: [.bp 0 0]) [⟨ty, [.v x0]⟩] M fun r b M' => r = B (p x) ∧ b = [⟨ty, [.v x0]⟩] ∧ M' = M) :
    XCall env 102 [.v (.slice A ws.length c), .fn g [0]] [⟨ty, [.v x0]⟩] M fun r b M' => r = I (idxF p ws) ∧ b = [⟨ty, [.v x0]⟩] ∧ M' = M := by
  refine xcall_of_vc Tryz.func102 rfl _ Tryz.ntmps102 _ rfl (fun _ _ => Tryz.call102 _ _) rfl (fun w0 ρ0 => ?_)
  conv => whnf
  refine loop_rule (fun i : Nat => ⟨slots 19 [(0, .v (.slice A ws.length c)), (1, .fn g [0]), (4, .v (I 0)), (7, .v (I ws.length)), (8, .v (I i))], [⟨ty, [.v x0]⟩]⟩) (fun i M' => i ≤ ws.length ∧ (∀ j, j < i → ∀ h : j < ws.length, p ws[j] = false) ∧ M' = M) (fun i => ws.length - i) 0 ?_ ?_ ?_
  · exact ⟨by simp [slots, leT], ⟨[], rfl⟩, (by first | exact Nat.zero_le _ | exact Nat.le_refl _), rfl, rfl⟩
  · exact ⟨Nat.zero_le _, fun j hj => absurd hj (Nat.not_lt_zero _), rfl⟩
  · rintro i M' ⟨hi, hp, rfl⟩
    conv => whnf
    repeat' (first | (refine ⟨⟨[], rfl⟩, _, PH.Le.refl _, PH.Le.refl _, ?_⟩; conv => whnf) | (refine caseB_true ?_; conv => whnf) | (refine caseB_false ?_; conv => whnf) | ((with_reducible refine caseB_dec (fun h => ?_) (fun h => ?_)) <;> conv => whnf) | ((with_reducible refine caseB_ndec (fun h => ?_) (fun h => ?_)) <;> conv => whnf) | ((with_reducible refine caseB_not (fun h => ?_) (fun h => ?_)) <;> conv => whnf) | (with_reducible refine @And.intro (guardVC _ _ _ _ _) _ ?_ ?_) <;> conv => whnf | (refine caseB_intro (fun h => ?_) (fun h => ?_) <;> (try simp only [Bool.not_eq_true', Bool.not_eq_false', decide_eq_true_eq, decide_eq_false_iff_not] at h) <;> conv => whnf))
    · have hi' : i < ws.length := by omega
      have hw : IntKind.i64.wrap ((i : Int) + 1) = (i : Int) + 1 := wr_id (by omega) (by omega)
      obtain ⟨hA, _, hc⟩ := hs.get hi'
      refine ⟨by omega, by omega, hA, ?_⟩
      conv => whnf
      refine ⟨ws[i].cs, hc, rfl, ?_⟩
      conv => whnf
      refine XCall.mono (hg ws[i] (List.getElem_mem hi')) fun r b M' hh => ?_
      obtain ⟨rfl, rfl, rfl⟩ := hh
      conv => whnf
      refine caseB_intro (fun hx => ?_) (fun hx => ?_)
      · conv => whnf
        exact ⟨_, PH.Le.refl _, by rw [idxF_at p ws i hi' hp hx]; rfl, rfl, rfl⟩
      · conv => whnf
        exact ⟨i + 1, ⟨by simp [slots, leT, hw], ⟨[], rfl⟩, (by first | exact Nat.zero_le _ | exact Nat.le_refl _), rfl, rfl⟩, ⟨by omega, fun j hj h => by
          rcases Nat.lt_succ_iff_lt_or_eq.1 hj with h1 | h1
          · exact hp j h1 h
          · subst h1; exact hx, rfl⟩, by omega⟩
    · exact ⟨_, PH.Le.refl _, by rw [idxF_no p ws (fun j h => hp j (by omega) h)]; rfl, rfl, rfl⟩

theorem containsFuncItB (ty : TypeId) (x0 : Value) (g : FuncId) (p : It → Bool) (A : Option Addr) (c : Nat) (ws : List It) (M : PH) (hs : Sl M A 3 It.cs ws) (hn : ws.length ≤ 4294967296)
    (hg : ∀ x ∈ ws, XCall env g (.v (It.val x) :: [.bp 0 0]) [⟨ty, [.v x0]⟩] M fun r b M' => r = B (p x) ∧ b = [⟨ty, [.v x0]⟩] ∧ M' = M) :
    XCall env 59 [.v (.slice A ws.length c), .fn g [0]] [⟨ty, [.v x0]⟩] M fun r b M' => r = B (ws.any p) ∧ b = [⟨ty, [.v x0]⟩] ∧ M' = M := by
  refine xcall_of_vc Tryz.func59 rfl _ Tryz.ntmps59 _ rfl (fun _ _ => Tryz.call59 _ _) rfl (fun w0 ρ0 => ?_)
  conv => whnf
  refine XCall.mono (indexFuncItB ty x0 g p A c ws M hs hn hg) fun r b M' hh => ?_
  obtain ⟨rfl, rfl, rfl⟩ := hh
  conv => whnf
  exact ⟨_, PH.Le.refl _, by rw [idxF_any p ws]; rfl, rfl, rfl⟩

abbrev itB (x : It) : Box := ⟨97, [.v (Tx x.n), .v (B x.h), .v (Tx x.v)]⟩
theorem vary11_ret (n : ByteArray) (x : It) (M : PH) (hn : n.size ≤ maxLen) (hx : x.n.size ≤ maxLen) : XCall env 62 [.v (Tx n), .bp 0 0] [itB x] M fun r b M' => r = B (alikeT n x.n) ∧ b = [itB x] ∧ M' = M := by
  refine xcall_of_vc Tryz.func62 rfl _ Tryz.ntmps62 _ rfl (fun _ _ => Tryz.call62 _ _) rfl (fun w0 ρ0 => ?_)
  conv => whnf
  repeat' (first | (refine ⟨⟨[], rfl⟩, _, PH.Le.refl _, PH.Le.refl _, ?_⟩; conv => whnf) | (refine caseB_true ?_; conv => whnf) | (refine caseB_false ?_; conv => whnf) | ((with_reducible refine caseB_dec (fun h => ?_) (fun h => ?_)) <;> conv => whnf) | ((with_reducible refine caseB_ndec (fun h => ?_) (fun h => ?_)) <;> conv => whnf) | ((with_reducible refine caseB_not (fun h => ?_) (fun h => ?_)) <;> conv => whnf) | (refine Ret.go (alike_ret n x.n _ hn hx) ?_; conv => whnf) | (with_reducible refine @And.intro (guardVC _ _ _ _ _) _ ?_ ?_) <;> conv => whnf | (refine caseB_intro (fun h => ?_) (fun h => ?_) <;> (try simp only [Bool.not_eq_true', Bool.not_eq_false', decide_eq_true_eq, decide_eq_false_iff_not] at h) <;> conv => whnf))
  exact ⟨_, PH.Le.refl _, rfl, rfl, rfl⟩
abbrev nsB (A : Option Addr) (n c : Nat) : Box := ⟨43, [.v (.slice A n c)]⟩
theorem vary1_ret (x : It) (A : Option Addr) (c : Nat) (ns : List ByteArray) (M : PH) (hs : Sl M A 1 stC ns) (hn : ns.length ≤ 1048576) (hno : ∀ y ∈ ns, y.size ≤ maxLen) (hx : x.n.size ≤ maxLen) :
    XCall env 60 [.v x.val, .bp 0 0] [nsB A ns.length c] M fun r b M' => r = B (badI ns x) ∧ b = [nsB A ns.length c] ∧ M' = M := by
  have hcf := containsFuncStB 97 (Tx x.n) (B x.h) (Tx x.v) 62 (fun n => alikeT n x.n) A c ns M hs (by omega) fun n hn => vary11_ret n x M (hno n hn) hx
  refine xcall_of_vc Tryz.func60 rfl _ Tryz.ntmps60 _ rfl (fun _ _ => Tryz.call60 _ _) rfl (fun w0 ρ0 => ?_)
  conv => whnf
  repeat' (first | (refine ⟨⟨[], rfl⟩, _, PH.Le.refl _, PH.Le.refl _, ?_⟩; conv => whnf) | (refine caseB_true ?_; conv => whnf) | (refine caseB_false ?_; conv => whnf) | ((with_reducible refine caseB_dec (fun h => ?_) (fun h => ?_)) <;> conv => whnf) | ((with_reducible refine caseB_ndec (fun h => ?_) (fun h => ?_)) <;> conv => whnf) | ((with_reducible refine caseB_not (fun h => ?_) (fun h => ?_)) <;> conv => whnf) | (with_reducible refine @And.intro (guardVC _ _ _ _ _) _ ?_ ?_) <;> conv => whnf | (refine caseB_intro (fun h => ?_) (fun h => ?_) <;> (try simp only [Bool.not_eq_true', Bool.not_eq_false', decide_eq_true_eq, decide_eq_false_iff_not] at h) <;> conv => whnf))
  · refine ⟨_, PH.Le.refl _, ?_, rfl, rfl⟩
    have e : badI ns x = true := by unfold badI; rw [h]; rfl
    rw [e]; rfl
  · refine ⟨_, PH.Le.refl _, ?_, rfl, rfl⟩
    have e : badI ns x = true := by
      have hs9 : seq x.n starB = true := h
      unfold badI; rw [hs9]; cases x.h <;> rfl
    rw [e]; rfl
  refine XCall.lift hcf [1] ?_ (by simp) (by simp) (by simp [AV.plain]) ?_
  · simp [ren, AV.plain]
  rintro r b M2 ⟨rfl, rfl, rfl⟩
  refine ⟨by simp [AV.plain], ?_⟩
  conv => whnf
  repeat' (first | (refine ⟨⟨[], rfl⟩, _, PH.Le.refl _, PH.Le.refl _, ?_⟩; conv => whnf) | (refine caseB_true ?_; conv => whnf) | (refine caseB_false ?_; conv => whnf) | ((with_reducible refine caseB_dec (fun h => ?_) (fun h => ?_)) <;> conv => whnf) | ((with_reducible refine caseB_ndec (fun h => ?_) (fun h => ?_)) <;> conv => whnf) | ((with_reducible refine caseB_not (fun h => ?_) (fun h => ?_)) <;> conv => whnf) | (with_reducible refine @And.intro (guardVC _ _ _ _ _) _ ?_ ?_) <;> conv => whnf | (refine caseB_intro (fun h => ?_) (fun h => ?_) <;> (try simp only [Bool.not_eq_true', Bool.not_eq_false', decide_eq_true_eq, decide_eq_false_iff_not] at h) <;> conv => whnf))
  refine ⟨_, PH.Le.refl _, ?_, rfl, rfl⟩
  have hh : x.h = false := by assumption
  have hs9 : seq x.n starB = false := by assumption
  have e : badI ns x = !(ns.any fun n => alikeT n x.n) := by
    unfold badI fitsN; rw [hh, hs9]; rfl
  rw [e]; rfl
def fitsB (ws : List Hd) (ns : List ByteArray) : Bool := decide (hdsFault ws = 0) && (decide (nmsC ns = 0) && varyT ws ns)
theorem varyFits_spec (A A' : Option Addr) (c c' : Nat) (ws : List Hd) (ns : List ByteArray) (M : PH) (hs : Sl M A 2 Hd.cs ws) (hns : Sl M A' 1 stC ns) (hco : costL Hd.cost ws ≤ 1048576) (ho : ∀ x ∈ ws, x.okl) (hn : ns.length ≤ 1048576) (hno : ∀ x ∈ ns, x.size ≤ maxLen) :
    Ret 24 [.slice A ws.length c, .slice A' ns.length c'] M (B (fitsB ws ns)) := by
  have hn0 := Nat.le_trans (costL_len Hd.cost ws) hco
  refine xcall_of_vc Tryz.func24 rfl _ Tryz.ntmps24 _ rfl (fun _ _ => Tryz.call24 _ _) rfl (fun w0 ρ0 => ?_)
  conv => whnf
  repeat' (first | (refine ⟨⟨[], rfl⟩, _, PH.Le.refl _, PH.Le.refl _, ?_⟩; conv => whnf) | (refine caseB_true ?_; conv => whnf) | (refine caseB_false ?_; conv => whnf) | ((with_reducible refine caseB_dec (fun h => ?_) (fun h => ?_)) <;> conv => whnf) | ((with_reducible refine caseB_ndec (fun h => ?_) (fun h => ?_)) <;> conv => whnf) | ((with_reducible refine caseB_not (fun h => ?_) (fun h => ?_)) <;> conv => whnf) | (refine Ret.go (headersFault_spec A c ws _ hs hn0 ho) ?_; conv => whnf) | (refine Ret.go (l5Names_ret A' c' ns _ hns hn hno) ?_; conv => whnf) | (refine Ret.go (l6Vary_ret A A' c c' ws ns _ hs hns hco ho hn hno) ?_; conv => whnf) | (with_reducible refine @And.intro (guardVC _ _ _ _ _) _ ?_ ?_) <;> conv => whnf | (refine caseB_intro (fun h => ?_) (fun h => ?_) <;> (try simp only [Bool.not_eq_true', Bool.not_eq_false', decide_eq_true_eq, decide_eq_false_iff_not] at h) <;> conv => whnf))
  all_goals refine ⟨_, PH.Le.refl _, ?_, rfl⟩
  all_goals simp [resV, fitsB, *]
theorem varyFits_impl (A A' : Option Addr) (c c' : Nat) (ws : List Hd) (ns : List ByteArray) (M : PH) (hs : Sl M A 2 Hd.cs ws) (hns : Sl M A' 1 stC ns) (hco : costL Hd.cost ws ≤ 1048576) (ho : ∀ x ∈ ws, x.okl) (hn : ns.length ≤ 1048576) (hno : ∀ x ∈ ns, x.size ≤ maxLen) :
    Ret 23 [.slice A ws.length c, .slice A' ns.length c'] M (B (fitsB ws ns)) := by
  have hn0 := Nat.le_trans (costL_len Hd.cost ws) hco
  refine Ret.of ?_
  refine xcall_of_vc Tryz.func23 rfl _ Tryz.ntmps23 _ rfl (fun _ _ => Tryz.call23 _ _) rfl (fun w0 ρ0 => ?_)
  conv => whnf
  repeat' (first | (refine ⟨⟨[], rfl⟩, _, PH.Le.refl _, PH.Le.refl _, ?_⟩; conv => whnf) | (refine caseB_true ?_; conv => whnf) | (refine caseB_false ?_; conv => whnf) | ((with_reducible refine caseB_dec (fun h => ?_) (fun h => ?_)) <;> conv => whnf) | ((with_reducible refine caseB_ndec (fun h => ?_) (fun h => ?_)) <;> conv => whnf) | ((with_reducible refine caseB_not (fun h => ?_) (fun h => ?_)) <;> conv => whnf) | (refine Ret.go (headersFault_impl A c ws _ hs hn0 ho) ?_; conv => whnf) | (refine Ret.go (areNames_ret A' c' ns _ hns hn hno) ?_; conv => whnf) | (refine Ret.go (joinHeader_ret A c ws varyU _ hs hco ho (by decide +kernel)) ?_; conv => whnf) | (with_reducible refine @And.intro (guardVC _ _ _ _ _) _ ?_ ?_) <;> conv => whnf | (refine caseB_intro (fun h => ?_) (fun h => ?_) <;> (try simp only [Bool.not_eq_true', Bool.not_eq_false', decide_eq_true_eq, decide_eq_false_iff_not] at h) <;> conv => whnf))
  · refine ⟨_, PH.Le.refl _, ?_, PH.Le.refl _⟩
    have e : fitsB ws ns = false := by unfold fitsB; rw [decide_eq_false h]; rfl
    rw [e]; rfl
  · refine ⟨_, PH.Le.refl _, ?_, PH.Le.refl _⟩
    have e : fitsB ws ns = false := by unfold fitsB; rw [decide_eq_false h]; simp
    rw [e]; rfl
  have hf0 : hdsFault ws = 0 := by assumption
  have e0 : fitsB ws ns = varyT ws ns := by unfold fitsB; rw [decide_eq_true hf0, decide_eq_true h]; rfl
  rw [vary_eq, e0]
  have hxn := parR_n (t := jn (vals ws varyL))
  have hxl := parR_len (jn (vals ws varyL))
  have e1 : varyT ws ns = (decide (parC (jn (vals ws varyL)) = 0) && !(parR (jn (vals ws varyL))).any (badI ns)) := rfl
  rw [e1]
  have hp := parseItems_impl (jn (vals ws varyL)) M
  clear e0 e1
  generalize parR (jn (vals ws varyL)) = xs at *
  generalize parC (jn (vals ws varyL)) = k0 at *
  refine ACall.step hp fun r M1 hh => ?_
  obtain ⟨o, A1, c1, rfl, N1⟩ := hh
  have l1 := N1.le
  have S1 := N1.ow.sl It.len
  have hcf := containsFuncItB 43 (.slice A' ns.length c') 60 (badI ns) A1 c1 xs M1 S1 (by omega) fun x hx => vary1_ret x A' c' ns M1 (hns.mono l1) hn hno (by have := hxn x hx; unfold maxLen; omega)
  conv => whnf
  repeat' (first | (refine ⟨⟨[], rfl⟩, _, PH.Le.refl _, PH.Le.refl _, ?_⟩; conv => whnf) | (refine caseB_true ?_; conv => whnf) | (refine caseB_false ?_; conv => whnf) | ((with_reducible refine caseB_dec (fun h => ?_) (fun h => ?_)) <;> conv => whnf) | ((with_reducible refine caseB_ndec (fun h => ?_) (fun h => ?_)) <;> conv => whnf) | ((with_reducible refine caseB_not (fun h => ?_) (fun h => ?_)) <;> conv => whnf) | (with_reducible refine @And.intro (guardVC _ _ _ _ _) _ ?_ ?_) <;> conv => whnf | (refine caseB_intro (fun h => ?_) (fun h => ?_) <;> (try simp only [Bool.not_eq_true', Bool.not_eq_false', decide_eq_true_eq, decide_eq_false_iff_not] at h) <;> conv => whnf))
  · refine XCall.lift hcf [0] ?_ (by simp) (by simp) (by simp [AV.plain]) ?_
    · simp [ren, AV.plain]
    rintro r b M2 ⟨rfl, rfl, rfl⟩
    refine ⟨by simp [AV.plain], ?_⟩
    conv => whnf
    repeat' (first | (refine ⟨⟨[], rfl⟩, _, PH.Le.refl _, PH.Le.refl _, ?_⟩; conv => whnf) | (refine caseB_true ?_; conv => whnf) | (refine caseB_false ?_; conv => whnf) | ((with_reducible refine caseB_dec (fun h => ?_) (fun h => ?_)) <;> conv => whnf) | ((with_reducible refine caseB_ndec (fun h => ?_) (fun h => ?_)) <;> conv => whnf) | ((with_reducible refine caseB_not (fun h => ?_) (fun h => ?_)) <;> conv => whnf) | (with_reducible refine @And.intro (guardVC _ _ _ _ _) _ ?_ ?_) <;> conv => whnf | (refine caseB_intro (fun h => ?_) (fun h => ?_) <;> (try simp only [Bool.not_eq_true', Bool.not_eq_false', decide_eq_true_eq, decide_eq_false_iff_not] at h) <;> conv => whnf))
    refine ⟨_, PH.Le.refl _, ?_, l1⟩
    have hk : k0 = 0 := by assumption
    rw [decide_eq_true hk]; rfl
  · refine ⟨_, PH.Le.refl _, ?_, l1⟩
    have hk : ¬ k0 = 0 := by assumption
    rw [decide_eq_false hk]; rfl
end Go.Proofs.YtdgipmlkkmmliaaGreatDoor
