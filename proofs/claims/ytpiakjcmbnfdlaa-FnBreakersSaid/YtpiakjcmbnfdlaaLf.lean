/-
  CONTRACTS: the library's functions over slices (the place of the first ..), at the instances that this program has.
-/
import Derived.Test.YtpiakjcmbnfdlaaLh
namespace Go.Proofs.Ytpiakjcmbnfdlaa
set_option maxRecDepth 100000
set_option linter.unusedSimpArgs false
set_option linter.unusedVariables false
open Go.Xe
def idxF {α : Type} (p : α → Bool) (ws : List α) : Int := match ws.findIdx? p with | some i => i | none => -1
theorem idxF_at {α : Type} (p : α → Bool) (ws : List α) (i : Nat) (hi : i < ws.length) (hp : ∀ j, j < i → ∀ h : j < ws.length, p ws[j] = false) (hx : p ws[i] = true) : idxF p ws = i := by
  have : ws.findIdx? p = some i := by
    rw [List.findIdx?_eq_some_iff_getElem]
    exact ⟨hi, hx, fun j hj => by simp [hp j hj (by omega)]⟩
  simp [idxF, this]
theorem idxF_no {α : Type} (p : α → Bool) (ws : List α) (hp : ∀ j, ∀ h : j < ws.length, p ws[j] = false) : idxF p ws = -1 := by
  have : ws.findIdx? p = none := by
    rw [List.findIdx?_eq_none_iff]
    intro x hx
    obtain ⟨j, hj, rfl⟩ := List.getElem_of_mem hx
    simp [hp j hj]
  simp [idxF, this]
theorem idxF_any {α : Type} (p : α → Bool) (ws : List α) : ws.any p = decide (0 ≤ idxF p ws) := by
  unfold idxF
  cases h : ws.findIdx? p with
  | none =>
    rw [List.findIdx?_eq_none_iff] at h
    simp
    exact h
  | some i =>
    rw [List.findIdx?_eq_some_iff_getElem] at h
    obtain ⟨hi, hx, _⟩ := h
    simp
    exact ⟨_, List.getElem_mem hi, hx⟩
/-- The place of the first of a slice that a function is true of; -1 if there is none. -/
theorem indexFuncWt0  (g : FuncId) (p : Wt → Bool) (A : Option Addr) (c : Nat) (ws : List Wt) (M : PH) (hs : Sl M A 2 Wt.cs ws) (hn : ws.length ≤ 4294967296)
    (hg : ∀ x ∈ ws, XCall env g (.v x.v :: []) [] M fun r b M' => r = B (p x) ∧ b = [] ∧ M' = M) :
    XCall env 118 [.v (.slice A ws.length c), .fn g []] [] M fun r b M' => r = I (idxF p ws) ∧ b = [] ∧ M' = M := by
  refine xcall_of_vc Try.func118 rfl _ Try.ntmps118 _ rfl (fun _ _ => Try.call118 _ _) rfl (fun w0 ρ0 => ?_)
  conv => whnf
  refine loop_rule (fun i : Nat => ⟨slots 19 [(0, .v (.slice A ws.length c)), (1, .fn g []), (4, .v (I 0)), (7, .v (I ws.length)), (8, .v (I i))], []⟩) (fun i M' => i ≤ ws.length ∧ (∀ j, j < i → ∀ h : j < ws.length, p ws[j] = false) ∧ M' = M) (fun i => ws.length - i) 0 ?_ ?_ ?_
  · exact ⟨by simp [slots, leT], ⟨[], rfl⟩, (by first | exact Nat.zero_le _ | exact Nat.le_refl _), rfl, rfl⟩
  · exact ⟨Nat.zero_le _, fun j hj => absurd hj (Nat.not_lt_zero _), rfl⟩
  · rintro i M' ⟨hi, hp, rfl⟩
    conv => whnf
    repeat' (first | (refine ⟨⟨[], rfl⟩, _, PH.Le.refl _, PH.Le.refl _, ?_⟩; conv => whnf) | (refine caseB_true ?_; conv => whnf) | (refine caseB_false ?_; conv => whnf) | ((with_reducible refine caseB_dec (fun h => ?_) (fun h => ?_)) <;> conv => whnf) | ((with_reducible refine caseB_ndec (fun h => ?_) (fun h => ?_)) <;> conv => whnf) | ((with_reducible refine caseB_not (fun h => ?_) (fun h => ?_)) <;> conv => whnf) | (with_reducible refine @And.intro (guardVC _ _ _ _ _) _ ?_ ?_) <;> conv => whnf | (refine caseB_intro (fun h => ?_) (fun h => ?_) <;> (try simp only [Bool.not_eq_true', Bool.not_eq_false', decide_eq_true_eq, decide_eq_false_iff_not] at h) <;> conv => whnf))
    · have hi' : i < ws.length := by omega
      have hw : IntKind.i64.wrap ((i : Int) + 1) = (i : Int) + 1 := wr_id (by omega) (by omega)
      obtain ⟨hA, _, hc⟩ := hs.get hi'
      refine ⟨by omega, by omega, hA, ?_⟩
      conv => whnf
      refine ⟨ws[i].cs, hc, rfl, ?_⟩
      conv => whnf
      refine XCall.mono (hg ws[i] (List.getElem_mem hi')) fun r b M' hh => ?_
      obtain ⟨rfl, rfl, rfl⟩ := hh
      conv => whnf
      refine caseB_intro (fun hx => ?_) (fun hx => ?_)
      · conv => whnf
        exact ⟨_, PH.Le.refl _, by rw [idxF_at p ws i hi' hp hx]; rfl, rfl, rfl⟩
      · conv => whnf
        exact ⟨i + 1, ⟨by simp [slots, leT, hw], ⟨[], rfl⟩, (by first | exact Nat.zero_le _ | exact Nat.le_refl _), rfl, rfl⟩, ⟨by omega, fun j hj h => by
          rcases Nat.lt_succ_iff_lt_or_eq.1 hj with h1 | h1
          · exact hp j h1 h
          · subst h1; exact hx, rfl⟩, by omega⟩
    · exact ⟨_, PH.Le.refl _, by rw [idxF_no p ws (fun j h => hp j (by omega) h)]; rfl, rfl, rfl⟩

theorem containsFuncWt0  (g : FuncId) (p : Wt → Bool) (A : Option Addr) (c : Nat) (ws : List Wt) (M : PH) (hs : Sl M A 2 Wt.cs ws) (hn : ws.length ≤ 4294967296)
    (hg : ∀ x ∈ ws, XCall env g (.v x.v :: []) [] M fun r b M' => r = B (p x) ∧ b = [] ∧ M' = M) :
    XCall env 77 [.v (.slice A ws.length c), .fn g []] [] M fun r b M' => r = B (ws.any p) ∧ b = [] ∧ M' = M := by
  refine xcall_of_vc Try.func77 rfl _ Try.ntmps77 _ rfl (fun _ _ => Try.call77 _ _) rfl (fun w0 ρ0 => ?_)
  conv => whnf
  refine XCall.mono (indexFuncWt0  g p A c ws M hs hn hg) fun r b M' hh => ?_
  obtain ⟨rfl, rfl, rfl⟩ := hh
  conv => whnf
  exact ⟨_, PH.Le.refl _, by rw [idxF_any p ws]; rfl, rfl, rfl⟩

/-- The place of the first of a slice that a function is true of; -1 if there is none. -/
theorem indexFuncWt1 (ty : TypeId) (x0 : Value) (g : FuncId) (p : Wt → Bool) (A : Option Addr) (c : Nat) (ws : List Wt) (M : PH) (hs : Sl M A 2 Wt.cs ws) (hn : ws.length ≤ 4294967296)
    (hg : ∀ x ∈ ws, XCall env g (.v x.v :: [.bp 0 0]) [⟨ty, [.v x0]⟩] M fun r b M' => r = B (p x) ∧ b = [⟨ty, [.v x0]⟩] ∧ M' = M) :
    XCall env 118 [.v (.slice A ws.length c), .fn g [0]] [⟨ty, [.v x0]⟩] M fun r b M' => r = I (idxF p ws) ∧ b = [⟨ty, [.v x0]⟩] ∧ M' = M := by
  refine xcall_of_vc Try.func118 rfl _ Try.ntmps118 _ rfl (fun _ _ => Try.call118 _ _) rfl (fun w0 ρ0 => ?_)
  conv => whnf
  refine loop_rule (fun i : Nat => ⟨slots 19 [(0, .v (.slice A ws.length c)), (1, .fn g [0]), (4, .v (I 0)), (7, .v (I ws.length)), (8, .v (I i))], [⟨ty, [.v x0]⟩]⟩) (fun i M' => i ≤ ws.length ∧ (∀ j, j < i → ∀ h : j < ws.length, p ws[j] = false) ∧ M' = M) (fun i => ws.length - i) 0 ?_ ?_ ?_
  · exact ⟨by simp [slots, leT], ⟨[], rfl⟩, (by first | exact Nat.zero_le _ | exact Nat.le_refl _), rfl, rfl⟩
  · exact ⟨Nat.zero_le _, fun j hj => absurd hj (Nat.not_lt_zero _), rfl⟩
  · rintro i M' ⟨hi, hp, rfl⟩
    conv => whnf
    repeat' (first | (refine ⟨⟨[], rfl⟩, _, PH.Le.refl _, PH.Le.refl _, ?_⟩; conv => whnf) | (refine caseB_true ?_; conv => whnf) | (refine caseB_false ?_; conv => whnf) | ((with_reducible refine caseB_dec (fun h => ?_) (fun h => ?_)) <;> conv => whnf) | ((with_reducible refine caseB_ndec (fun h => ?_) (fun h => ?_)) <;> conv => whnf) | ((with_reducible refine caseB_not (fun h => ?_) (fun h => ?_)) <;> conv => whnf) | (with_reducible refine @And.intro (guardVC _ _ _ _ _) _ ?_ ?_) <;> conv => whnf | (refine caseB_intro (fun h => ?_) (fun h => ?_) <;> (try simp only [Bool.not_eq_true', Bool.not_eq_false', decide_eq_true_eq, decide_eq_false_iff_not] at h) <;> conv => whnf))
    · have hi' : i < ws.length := by omega
      have hw : IntKind.i64.wrap ((i : Int) + 1) = (i : Int) + 1 := wr_id (by omega) (by omega)
      obtain ⟨hA, _, hc⟩ := hs.get hi'
      refine ⟨by omega, by omega, hA, ?_⟩
      conv => whnf
      refine ⟨ws[i].cs, hc, rfl, ?_⟩
      conv => whnf
      refine XCall.mono (hg ws[i] (List.getElem_mem hi')) fun r b M' hh => ?_
      obtain ⟨rfl, rfl, rfl⟩ := hh
      conv => whnf
      refine caseB_intro (fun hx => ?_) (fun hx => ?_)
      · conv => whnf
        exact ⟨_, PH.Le.refl _, by rw [idxF_at p ws i hi' hp hx]; rfl, rfl, rfl⟩
      · conv => whnf
        exact ⟨i + 1, ⟨by simp [slots, leT, hw], ⟨[], rfl⟩, (by first | exact Nat.zero_le _ | exact Nat.le_refl _), rfl, rfl⟩, ⟨by omega, fun j hj h => by
          rcases Nat.lt_succ_iff_lt_or_eq.1 hj with h1 | h1
          · exact hp j h1 h
          · subst h1; exact hx, rfl⟩, by omega⟩
    · exact ⟨_, PH.Le.refl _, by rw [idxF_no p ws (fun j h => hp j (by omega) h)]; rfl, rfl, rfl⟩

theorem containsFuncWt1 (ty : TypeId) (x0 : Value) (g : FuncId) (p : Wt → Bool) (A : Option Addr) (c : Nat) (ws : List Wt) (M : PH) (hs : Sl M A 2 Wt.cs ws) (hn : ws.length ≤ 4294967296)
    (hg : ∀ x ∈ ws, XCall env g (.v x.v :: [.bp 0 0]) [⟨ty, [.v x0]⟩] M fun r b M' => r = B (p x) ∧ b = [⟨ty, [.v x0]⟩] ∧ M' = M) :
    XCall env 77 [.v (.slice A ws.length c), .fn g [0]] [⟨ty, [.v x0]⟩] M fun r b M' => r = B (ws.any p) ∧ b = [⟨ty, [.v x0]⟩] ∧ M' = M := by
  refine xcall_of_vc Try.func77 rfl _ Try.ntmps77 _ rfl (fun _ _ => Try.call77 _ _) rfl (fun w0 ρ0 => ?_)
  conv => whnf
  refine XCall.mono (indexFuncWt1 ty x0 g p A c ws M hs hn hg) fun r b M' hh => ?_
  obtain ⟨rfl, rfl, rfl⟩ := hh
  conv => whnf
  exact ⟨_, PH.Le.refl _, by rw [idxF_any p ws]; rfl, rfl, rfl⟩

/-- The place of the first of a slice that a function is true of; -1 if there is none. -/
theorem indexFuncMk0  (g : FuncId) (p : Mk → Bool) (A : Option Addr) (c : Nat) (ws : List Mk) (M : PH) (hs : Sl M A 2 Mk.cs ws) (hn : ws.length ≤ 4294967296)
    (hg : ∀ x ∈ ws, XCall env g (.v x.v :: []) [] M fun r b M' => r = B (p x) ∧ b = [] ∧ M' = M) :
    XCall env 115 [.v (.slice A ws.length c), .fn g []] [] M fun r b M' => r = I (idxF p ws) ∧ b = [] ∧ M' = M := by
  refine xcall_of_vc Try.func115 rfl _ Try.ntmps115 _ rfl (fun _ _ => Try.call115 _ _) rfl (fun w0 ρ0 => ?_)
  conv => whnf
  refine loop_rule (fun i : Nat => ⟨slots 19 [(0, .v (.slice A ws.length c)), (1, .fn g []), (4, .v (I 0)), (7, .v (I ws.length)), (8, .v (I i))], []⟩) (fun i M' => i ≤ ws.length ∧ (∀ j, j < i → ∀ h : j < ws.length, p ws[j] = false) ∧ M' = M) (fun i => ws.length - i) 0 ?_ ?_ ?_
  · exact ⟨by simp [slots, leT], ⟨[], rfl⟩, (by first | exact Nat.zero_le _ | exact Nat.le_refl _), rfl, rfl⟩
  · exact ⟨Nat.zero_le _, fun j hj => absurd hj (Nat.not_lt_zero _), rfl⟩
  · rintro i M' ⟨hi, hp, rfl⟩
    conv => whnf
    repeat' (first | (refine ⟨⟨[], rfl⟩, _, PH.Le.refl _, PH.Le.refl _, ?_⟩; conv => whnf) | (refine caseB_true ?_; conv => whnf) | (refine caseB_false ?_; conv => whnf) | ((with_reducible refine caseB_dec (fun h => ?_) (fun h => ?_)) <;> conv => whnf) | ((with_reducible refine caseB_ndec (fun h => ?_) (fun h => ?_)) <;> conv => whnf) | ((with_reducible refine caseB_not (fun h => ?_) (fun h => ?_)) <;> conv => whnf) | (with_reducible refine @And.intro (guardVC _ _ _ _ _) _ ?_ ?_) <;> conv => whnf | (refine caseB_intro (fun h => ?_) (fun h => ?_) <;> (try simp only [Bool.not_eq_true', Bool.not_eq_false', decide_eq_true_eq, decide_eq_false_iff_not] at h) <;> conv => whnf))
    · have hi' : i < ws.length := by omega
      have hw : IntKind.i64.wrap ((i : Int) + 1) = (i : Int) + 1 := wr_id (by omega) (by omega)
      obtain ⟨hA, _, hc⟩ := hs.get hi'
      refine ⟨by omega, by omega, hA, ?_⟩
      conv => whnf
      refine ⟨ws[i].cs, hc, rfl, ?_⟩
      conv => whnf
      refine XCall.mono (hg ws[i] (List.getElem_mem hi')) fun r b M' hh => ?_
      obtain ⟨rfl, rfl, rfl⟩ := hh
      conv => whnf
      refine caseB_intro (fun hx => ?_) (fun hx => ?_)
      · conv => whnf
        exact ⟨_, PH.Le.refl _, by rw [idxF_at p ws i hi' hp hx]; rfl, rfl, rfl⟩
      · conv => whnf
        exact ⟨i + 1, ⟨by simp [slots, leT, hw], ⟨[], rfl⟩, (by first | exact Nat.zero_le _ | exact Nat.le_refl _), rfl, rfl⟩, ⟨by omega, fun j hj h => by
          rcases Nat.lt_succ_iff_lt_or_eq.1 hj with h1 | h1
          · exact hp j h1 h
          · subst h1; exact hx, rfl⟩, by omega⟩
    · exact ⟨_, PH.Le.refl _, by rw [idxF_no p ws (fun j h => hp j (by omega) h)]; rfl, rfl, rfl⟩

theorem containsFuncMk0  (g : FuncId) (p : Mk → Bool) (A : Option Addr) (c : Nat) (ws : List Mk) (M : PH) (hs : Sl M A 2 Mk.cs ws) (hn : ws.length ≤ 4294967296)
    (hg : ∀ x ∈ ws, XCall env g (.v x.v :: []) [] M fun r b M' => r = B (p x) ∧ b = [] ∧ M' = M) :
    XCall env 70 [.v (.slice A ws.length c), .fn g []] [] M fun r b M' => r = B (ws.any p) ∧ b = [] ∧ M' = M := by
  refine xcall_of_vc Try.func70 rfl _ Try.ntmps70 _ rfl (fun _ _ => Try.call70 _ _) rfl (fun w0 ρ0 => ?_)
  conv => whnf
  refine XCall.mono (indexFuncMk0  g p A c ws M hs hn hg) fun r b M' hh => ?_
  obtain ⟨rfl, rfl, rfl⟩ := hh
  conv => whnf
  exact ⟨_, PH.Le.refl _, by rw [idxF_any p ws]; rfl, rfl, rfl⟩

/-- The place of the first of a slice that a function is true of; -1 if there is none. -/
theorem indexFuncMk1 (ty : TypeId) (x0 : Value) (g : FuncId) (p : Mk → Bool) (A : Option Addr) (c : Nat) (ws : List Mk) (M : PH) (hs : Sl M A 2 Mk.cs ws) (hn : ws.length ≤ 4294967296)
    (hg : ∀ x ∈ ws, XCall env g (.v x.v :: [.bp 0 0]) [⟨ty, [.v x0]⟩] M fun r b M' => r = B (p x) ∧ b = [⟨ty, [.v x0]⟩] ∧ M' = M) :
    XCall env 115 [.v (.slice A ws.length c), .fn g [0]] [⟨ty, [.v x0]⟩] M fun r b M' => r = I (idxF p ws) ∧ b = [⟨ty, [.v x0]⟩] ∧ M' = M := by
  refine xcall_of_vc Try.func115 rfl _ Try.ntmps115 _ rfl (fun _ _ => Try.call115 _ _) rfl (fun w0 ρ0 => ?_)
  conv => whnf
  refine loop_rule (fun i : Nat => ⟨slots 19 [(0, .v (.slice A ws.length c)), (1, .fn g [0]), (4, .v (I 0)), (7, .v (I ws.length)), (8, .v (I i))], [⟨ty, [.v x0]⟩]⟩) (fun i M' => i ≤ ws.length ∧ (∀ j, j < i → ∀ h : j < ws.length, p ws[j] = false) ∧ M' = M) (fun i => ws.length - i) 0 ?_ ?_ ?_
  · exact ⟨by simp [slots, leT], ⟨[], rfl⟩, (by first | exact Nat.zero_le _ | exact Nat.le_refl _), rfl, rfl⟩
  · exact ⟨Nat.zero_le _, fun j hj => absurd hj (Nat.not_lt_zero _), rfl⟩
  · rintro i M' ⟨hi, hp, rfl⟩
    conv => whnf
    repeat' (first | (refine ⟨⟨[], rfl⟩, _, PH.Le.refl _, PH.Le.refl _, ?_⟩; conv => whnf) | (refine caseB_true ?_; conv => whnf) | (refine caseB_false ?_; conv => whnf) | ((with_reducible refine caseB_dec (fun h => ?_) (fun h => ?_)) <;> conv => whnf) | ((with_reducible refine caseB_ndec (fun h => ?_) (fun h => ?_)) <;> conv => whnf) | ((with_reducible refine caseB_not (fun h => ?_) (fun h => ?_)) <;> conv => whnf) | (with_reducible refine @And.intro (guardVC _ _ _ _ _) _ ?_ ?_) <;> conv => whnf | (refine caseB_intro (fun h => ?_) (fun h => ?_) <;> (try simp only [Bool.not_eq_true', Bool.not_eq_false', decide_eq_true_eq, decide_eq_false_iff_not] at h) <;> conv => whnf))
    · have hi' : i < ws.length := by omega
      have hw : IntKind.i64.wrap ((i : Int) + 1) = (i : Int) + 1 := wr_id (by omega) (by omega)
      obtain ⟨hA, _, hc⟩ := hs.get hi'
      refine ⟨by omega, by omega, hA, ?_⟩
      conv => whnf
      refine ⟨ws[i].cs, hc, rfl, ?_⟩
      conv => whnf
      refine XCall.mono (hg ws[i] (List.getElem_mem hi')) fun r b M' hh => ?_
      obtain ⟨rfl, rfl, rfl⟩ := hh
      conv => whnf
      refine caseB_intro (fun hx => ?_) (fun hx => ?_)
      · conv => whnf
        exact ⟨_, PH.Le.refl _, by rw [idxF_at p ws i hi' hp hx]; rfl, rfl, rfl⟩
      · conv => whnf
        exact ⟨i + 1, ⟨by simp [slots, leT, hw], ⟨[], rfl⟩, (by first | exact Nat.zero_le _ | exact Nat.le_refl _), rfl, rfl⟩, ⟨by omega, fun j hj h => by
          rcases Nat.lt_succ_iff_lt_or_eq.1 hj with h1 | h1
          · exact hp j h1 h
          · subst h1; exact hx, rfl⟩, by omega⟩
    · exact ⟨_, PH.Le.refl _, by rw [idxF_no p ws (fun j h => hp j (by omega) h)]; rfl, rfl, rfl⟩

theorem containsFuncMk1 (ty : TypeId) (x0 : Value) (g : FuncId) (p : Mk → Bool) (A : Option Addr) (c : Nat) (ws : List Mk) (M : PH) (hs : Sl M A 2 Mk.cs ws) (hn : ws.length ≤ 4294967296)
    (hg : ∀ x ∈ ws, XCall env g (.v x.v :: [.bp 0 0]) [⟨ty, [.v x0]⟩] M fun r b M' => r = B (p x) ∧ b = [⟨ty, [.v x0]⟩] ∧ M' = M) :
    XCall env 70 [.v (.slice A ws.length c), .fn g [0]] [⟨ty, [.v x0]⟩] M fun r b M' => r = B (ws.any p) ∧ b = [⟨ty, [.v x0]⟩] ∧ M' = M := by
  refine xcall_of_vc Try.func70 rfl _ Try.ntmps70 _ rfl (fun _ _ => Try.call70 _ _) rfl (fun w0 ρ0 => ?_)
  conv => whnf
  refine XCall.mono (indexFuncMk1 ty x0 g p A c ws M hs hn hg) fun r b M' hh => ?_
  obtain ⟨rfl, rfl, rfl⟩ := hh
  conv => whnf
  exact ⟨_, PH.Le.refl _, by rw [idxF_any p ws]; rfl, rfl, rfl⟩

end Go.Proofs.Ytpiakjcmbnfdlaa
