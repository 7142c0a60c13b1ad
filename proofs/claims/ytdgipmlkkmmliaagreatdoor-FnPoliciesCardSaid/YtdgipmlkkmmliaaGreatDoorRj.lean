/-
  CONTRACTS: items found, what they tell.
-/
import Derived.Test.YtdgipmlkkmmliaaGreatDoorRe
import Derived.Test.YtdgipmlkkmmliaaGreatDoorIg
namespace Go.Proofs.YtdgipmlkkmmliaaGreatDoor
set_option maxRecDepth 100000
set_option linter.unusedSimpArgs false
set_option linter.unusedVariables false
open Go.Xe
theorem numsS_size (l : List Int) : (strOfNums l).size = l.length := by
  rw [size_list]
  unfold strOfNums
  simp
theorem unq_len {t : ByteArray} : ∀ (n i : Nat) (l : List Int), t.size - i ≤ n → unq t i = some l → l.length ≤ n
  | 0, i, l, hn, h => by
    rw [unq_ge (by omega)] at h
    cases h
  | n + 1, i, l, hn, h => by
    by_cases hi : i < t.size
    · rw [unq_lt hi] at h
      split at h
      · split at h
        · cases h; exact Nat.zero_le _
        · cases h
      · split at h
        · split at h
          · cases h
          · obtain ⟨m, hm, rfl⟩ := Option.map_eq_some_iff.1 h
            have := unq_len n (i + 2) m (by omega) hm
            simp only [List.length_cons]; omega
        · obtain ⟨m, hm, rfl⟩ := Option.map_eq_some_iff.1 h
          have := unq_len n (i + 1) m (by omega) hm
          simp only [List.length_cons]; omega
    · rw [unq_ge hi] at h
      cases h
theorem itemF_v {p : ByteArray} {x : It} (h : itemF p = some x) : x.v.size ≤ p.size := by
  unfold itemF at h
  split at h
  · split at h
    · cases h; exact Nat.zero_le _
    · cases h
  · split at h
    · cases h
    · split at h
      · cases h
        show (p.extract _ _).size ≤ _
        rw [ByteArray.size_extract]; omega
      · obtain ⟨y, hy, rfl⟩ := Option.map_eq_some_iff.1 h
        show y.size ≤ _
        have hz : (p.extract ((eqK p).toNat + 1) p.size).size ≤ p.size := by rw [ByteArray.size_extract]; omega
        by_cases hq : 1 ≤ (p.extract ((eqK p).toNat + 1) p.size).size ∧ bt (p.extract ((eqK p).toNat + 1) p.size) 0 = 34 ∧ allB plainB (p.extract ((eqK p).toNat + 1) p.size) = true
        · rw [unqF_yes hq] at hy
          obtain ⟨l, hl, rfl⟩ := Option.map_eq_some_iff.1 hy
          rw [numsS_size]
          have := unq_len _ 1 l (Nat.le_refl _) hl
          omega
        · rw [unqF_no hq] at hy
          cases hy
theorem itsG_v {N : Nat} : ∀ {l : List ByteArray} {xs : List It}, itsG l = some xs → (∀ p ∈ l, p.size ≤ N) → ∀ x ∈ xs, x.v.size ≤ N
  | [], xs, h, _, x, hx => by cases h; cases hx
  | p :: r, xs, h, hl, x, hx => by
    rw [itsG] at h
    split at h
    · exact itsG_v h (fun q hq => hl q (List.mem_cons_of_mem _ hq)) x hx
    · split at h
      · cases h
      · rename_i y hy
        obtain ⟨zs, hz, rfl⟩ := Option.map_eq_some_iff.1 h
        rcases List.mem_cons.1 hx with h1 | h1
        · rw [h1]
          exact Nat.le_trans (itemF_v hy) (Nat.le_trans (trimB_le p) (hl p List.mem_cons_self))
        · exact itsG_v hz (fun q hq => hl q (List.mem_cons_of_mem _ hq)) x h1
theorem parR_v {t : ByteArray} : ∀ x ∈ parR t, x.v.size ≤ 1000 := fun x hx => by
  unfold parR at hx
  split at hx
  · rename_i h0
    have ht : t.size ≤ 1000 := by
      unfold parC at h0
      split at h0
      · cases h0
      · omega
    cases hp : parL t with
    | none => rw [hp] at hx; cases hx
    | some xs =>
      rw [hp] at hx
      have hb := (pcs_bd t.size t 0 0 false (by omega)).1
      exact Nat.le_trans (itsG_v (N := t.size) (l := pcs t 0 0 false) hp hb x hx) ht
  · cases hx
/-- Items that came out of a text. -/
structure Its (xs : List It) : Prop where
  len : xs.length ≤ 20
  n : ∀ x ∈ xs, x.n.size ≤ 1000
  v : ∀ x ∈ xs, x.v.size ≤ 1000
theorem parR_its (t : ByteArray) : Its (parR t) := ⟨parR_len t, parR_n, parR_v⟩
/-- The place of the first of a slice that a function is true of; -1 if there is none. -/
theorem indexFuncItF (ty : TypeId) (x0 : Value) (g : FuncId) (p : It → Bool) (A : Option Addr) (c : Nat) (ws : List It) (M : PH) (hs : Sl M A 3 It.cs ws) (hn : ws.length ≤ 4294967296)
    (hg : ∀ x ∈ ws, XCall env g (.v (It.val x) :: [.bp 0 0]) [⟨ty, [.v x0]⟩] M fun r b M' => r = B (p x) ∧ b = [⟨ty, [.v x0]⟩] ∧ M' = M) :
    XCall env 102 [.v (.slice A ws.length c), .fn g [0]] [⟨ty, [.v x0]⟩] M fun r b M' => r = I (idxF p ws) ∧ b = [⟨ty, [.v x0]⟩] ∧ M' = M := by
  refine xcall_of_vc Tryz.func102 rfl _ Tryz.ntmps102 _ rfl (fun _ _ => Tryz.call102 _ _) rfl (fun w0 ρ0 => ?_)
  conv => whnf
  refine loop_rule (fun i : Nat => ⟨slots 19 [(0, .v (.slice A ws.length c)), (1, .fn g [0]), (4, .v (I 0)), (7, .v (I ws.length)), (8, .v (I i))], [⟨ty, [.v x0]⟩]⟩) (fun i M' => i ≤ ws.length ∧ (∀ j, j < i → ∀ h : j < ws.length, p ws[j] = false) ∧ M' = M) (fun i => ws.length - i) 0 ?_ ?_ ?_
  · exact ⟨by simp [slots, leT], ⟨[], rfl⟩, (by first | exact Nat.zero_le _ | exact Nat.le_refl _), rfl, rfl⟩
  · exact ⟨Nat.zero_le _, fun j hj => absurd hj (Nat.not_lt_zero _), rfl⟩
  · rintro i M' ⟨hi, hp, rfl⟩
    conv => whnf
    repeat' (first | (refine ⟨⟨[], rfl⟩, _, PH.Le.refl _, PH.Le.refl _, ?_⟩; conv => whnf) | (refine caseB_true ?_; conv => whnf) | (refine caseB_false ?_; conv => whnf) | ((with_reducible refine caseB_dec (fun h => ?_) (fun h => ?_)) <;> conv => whnf) | ((with_reducible refine caseB_ndec (fun h => ?_) (fun h => ?_)) <;> conv => whnf) | ((with_reducible refine caseB_not (fun h => ?_) (fun h => ?_)) <;> conv => whnf) | (with_reducible refine @And.intro (guardVC _ _ _ _ _) _ ?_ ?_) <;> conv => whnf | (refine caseB_intro (fun h => ?_) (fun h => ?_) <;> (try simp only [Bool.not_eq_true', Bool.not_eq_false', decide_eq_true_eq, decide_eq_false_iff_not] at h) <;> conv => whnf))
    · have hi' : i < ws.length := by omega
      have hw : IntKind.i64.wrap ((i : Int) + 1) = (i : Int) + 1 := wr_id (by omega) (by omega)
      obtain ⟨hA, _, hc⟩ := hs.get hi'
      refine ⟨by omega, by omega, hA, ?_⟩
      conv => whnf
      refine ⟨ws[i].cs, hc, rfl, ?_⟩
      conv => whnf
      refine XCall.mono (hg ws[i] (List.getElem_mem hi')) fun r b M' hh => ?_
      obtain ⟨rfl, rfl, rfl⟩ := hh
      conv => whnf
      refine caseB_intro (fun hx => ?_) (fun hx => ?_)
      · conv => whnf
        exact ⟨_, PH.Le.refl _, by rw [idxF_at p ws i hi' hp hx]; rfl, rfl, rfl⟩
      · conv => whnf
        exact ⟨i + 1, ⟨by simp [slots, leT, hw], ⟨[], rfl⟩, (by first | exact Nat.zero_le _ | exact Nat.le_refl _), rfl, rfl⟩, ⟨by omega, fun j hj h => by
          rcases Nat.lt_succ_iff_lt_or_eq.1 hj with h1 | h1
          · exact hp j h1 h
          · subst h1; exact hx, rfl⟩, by omega⟩
    · exact ⟨_, PH.Le.refl _, by rw [idxF_no p ws (fun j h => hp j (by omega) h)]; rfl, rfl, rfl⟩

theorem findItem1_ret (nm : ByteArray) (x : It) (M : PH) (hn : nm.size ≤ maxLen) (hx : x.n.size ≤ maxLen) : XCall env 156 [.v x.val, .bp 0 0] [⟨9, [.v (Tx nm)]⟩] M fun r b M' => r = B (alikeT x.n nm) ∧ b = [⟨9, [.v (Tx nm)]⟩] ∧ M' = M := by
  refine xcall_of_vc Tryz.func156 rfl _ Tryz.ntmps156 _ rfl (fun _ _ => Tryz.call156 _ _) rfl (fun w0 ρ0 => ?_)
  conv => whnf
  repeat' (first | (refine ⟨⟨[], rfl⟩, _, PH.Le.refl _, PH.Le.refl _, ?_⟩; conv => whnf) | (refine caseB_true ?_; conv => whnf) | (refine caseB_false ?_; conv => whnf) | ((with_reducible refine caseB_dec (fun h => ?_) (fun h => ?_)) <;> conv => whnf) | ((with_reducible refine caseB_ndec (fun h => ?_) (fun h => ?_)) <;> conv => whnf) | ((with_reducible refine caseB_not (fun h => ?_) (fun h => ?_)) <;> conv => whnf) | (refine Ret.go (alike_ret x.n nm _ hx hn) ?_; conv => whnf) | (with_reducible refine @And.intro (guardVC _ _ _ _ _) _ ?_ ?_) <;> conv => whnf | (refine caseB_intro (fun h => ?_) (fun h => ?_) <;> (try simp only [Bool.not_eq_true', Bool.not_eq_false', decide_eq_true_eq, decide_eq_false_iff_not] at h) <;> conv => whnf))
  exact ⟨_, PH.Le.refl _, rfl, rfl, rfl⟩
def itIx (xs : List It) (nm : ByteArray) : Int := idxF (fun x => alikeT x.n nm) xs
theorem findItem_ret (A : Option Addr) (c : Nat) (xs : List It) (nm : ByteArray) (M : PH) (hs : Sl M A 3 It.cs xs) (hx : Its xs) (hn : nm.size ≤ maxLen) : Ret 122 [.slice A xs.length c, Tx nm] M (I (itIx xs nm)) := by
  have hcf := indexFuncItF 9 (Tx nm) 156 (fun x => alikeT x.n nm) A c xs M hs (by have := hx.len; omega) fun x hm => findItem1_ret nm x M hn (by have := hx.n x hm; unfold maxLen; omega)
  refine xcall_of_vc Tryz.func122 rfl _ Tryz.ntmps122 _ rfl (fun _ _ => Tryz.call122 _ _) rfl (fun w0 ρ0 => ?_)
  conv => whnf
  refine XCall.lift hcf [0] ?_ (by simp) (by simp) (by simp [AV.plain]) ?_
  · simp [ren, AV.plain]
  rintro r b M2 ⟨rfl, rfl, rfl⟩
  refine ⟨by simp [AV.plain], ?_⟩
  conv => whnf
  exact ⟨_, PH.Le.refl _, rfl, rfl⟩
theorem l2Find_ret (A : Option Addr) (c : Nat) (xs : List It) (nm : ByteArray) (M : PH) (hs : Sl M A 3 It.cs xs) (hx : Its xs) (hn : nm.size ≤ maxLen) : Ret 118 [.slice A xs.length c, Tx nm] M (I (itIx xs nm)) := by
  have hl := hx.len
  refine xcall_of_vc Tryz.func118 rfl _ Tryz.ntmps118 _ rfl (fun _ _ => Tryz.call118 _ _) rfl (fun w0 ρ0 => ?_)
  conv => whnf
  refine loop_rule (fun i : Nat => ⟨slots 22 [(0, .v (.slice A xs.length c)), (1, .v (Tx nm)), (4, .v (I 0)), (5, .v (I i))], []⟩) (fun i M1 => i ≤ xs.length ∧ (∀ j, j < i → ∀ h : j < xs.length, alikeT xs[j].n nm = false) ∧ M1 = M) (fun i => xs.length - i) 0 ?_ ?_ ?_
  · exact ⟨by simp [slots, leT], ⟨[], rfl⟩, Nat.zero_le _, rfl, rfl⟩
  · exact ⟨Nat.zero_le _, fun j hj => absurd hj (Nat.not_lt_zero _), rfl⟩
  rintro i M1 ⟨hi, hq, rfl⟩
  conv => whnf
  refine caseB_dec (fun h0 => ?_) (fun h0 => ?_)
  · have h0 : (i : Int) < xs.length := h0
    have hi' : i < xs.length := by omega
    have hw : IntKind.i64.wrap ((i : Int) + 1) = (i : Int) + 1 := wr_id (by omega) (by omega)
    obtain ⟨hA, _, hc⟩ := hs.get hi'
    have hz := hx.n _ (List.getElem_mem hi')
    have c0 : M1.cells A (i * 3) [Tx xs[i].n] := cells_cut hc 0 rfl
    conv => whnf
    refine ⟨by omega, h0, hA, ?_⟩
    conv => whnf
    refine ⟨_, c0, ?_⟩
    conv => whnf
    refine Ret.go (l1Lower_ret xs[i].n _ (by unfold maxLen; omega)) ?_
    conv => whnf
    refine Ret.go (l1Lower_ret nm _ hn) ?_
    conv => whnf
    refine caseB_intro (fun h => ?_) (fun h => ?_)
    · have h : alikeT xs[i].n nm = true := h
      conv => whnf
      exact ⟨_, PH.Le.refl _, by unfold itIx; rw [idxF_at (fun x : It => alikeT x.n nm) xs i hi' hq h]; rfl, rfl⟩
    · have h : alikeT xs[i].n nm = false := h
      conv => whnf
      exact ⟨i + 1, ⟨by simp [slots, leT, hw], ⟨[], rfl⟩, Nat.zero_le _, rfl, rfl⟩, ⟨by omega, fun j hj hjl => (Nat.lt_succ_iff_lt_or_eq.1 hj).elim (fun h1 => hq j h1 hjl) (fun e => by subst e; exact h), rfl⟩, by omega⟩
  · have hi' : i = xs.length := by have : ¬ (i : Int) < xs.length := h0; omega
    conv => whnf
    exact ⟨_, PH.Le.refl _, by unfold itIx; rw [idxF_no (fun x : It => alikeT x.n nm) xs fun j h => hq j (by omega) h]; rfl, rfl⟩
def hasI (xs : List It) (nm : ByteArray) : Bool := decide (0 ≤ itIx xs nm)
/-- The place of the first of a slice that a function is true of; -1 if there is none. -/
theorem indexFuncStH (ty : TypeId) (x0 : Value) (g : FuncId) (p : ByteArray → Bool) (A : Option Addr) (c : Nat) (ws : List ByteArray) (M : PH) (hs : Sl M A 1 stC ws) (hn : ws.length ≤ 4294967296)
    (hg : ∀ x ∈ ws, XCall env g (.v (Value.string x) :: [.bp 0 0]) [⟨ty, [.v x0]⟩] M fun r b M' => r = B (p x) ∧ b = [⟨ty, [.v x0]⟩] ∧ M' = M) :
    XCall env 95 [.v (.slice A ws.length c), .fn g [0]] [⟨ty, [.v x0]⟩] M fun r b M' => r = I (idxF p ws) ∧ b = [⟨ty, [.v x0]⟩] ∧ M' = M := by
  refine xcall_of_vc Tryz.func95 rfl _ Tryz.ntmps95 _ rfl (fun _ _ => Tryz.call95 _ _) rfl (fun w0 ρ0 => ?_)
  conv => whnf
  refine loop_rule (fun i : Nat => ⟨slots 19 [(0, .v (.slice A ws.length c)), (1, .fn g [0]), (4, .v (I 0)), (7, .v (I ws.length)), (8, .v (I i))], [⟨ty, [.v x0]⟩]⟩) (fun i M' => i ≤ ws.length ∧ (∀ j, j < i → ∀ h : j < ws.length, p ws[j] = false) ∧ M' = M) (fun i => ws.length - i) 0 ?_ ?_ ?_
  · exact ⟨by simp [slots, leT], ⟨[], rfl⟩, (by first | exact Nat.zero_le _ | exact Nat.le_refl _), rfl, rfl⟩
  · exact ⟨Nat.zero_le _, fun j hj => absurd hj (Nat.not_lt_zero _), rfl⟩
  · rintro i M' ⟨hi, hp, rfl⟩
    conv => whnf
    repeat' (first | (refine ⟨⟨[], rfl⟩, _, PH.Le.refl _, PH.Le.refl _, ?_⟩; conv => whnf) | (refine caseB_true ?_; conv => whnf) | (refine caseB_false ?_; conv => whnf) | ((with_reducible refine caseB_dec (fun h => ?_) (fun h => ?_)) <;> conv => whnf) | ((with_reducible refine caseB_ndec (fun h => ?_) (fun h => ?_)) <;> conv => whnf) | ((with_reducible refine caseB_not (fun h => ?_) (fun h => ?_)) <;> conv => whnf) | (with_reducible refine @And.intro (guardVC _ _ _ _ _) _ ?_ ?_) <;> conv => whnf | (refine caseB_intro (fun h => ?_) (fun h => ?_) <;> (try simp only [Bool.not_eq_true', Bool.not_eq_false', decide_eq_true_eq, decide_eq_false_iff_not] at h) <;> conv => whnf))
    · have hi' : i < ws.length := by omega
      have hw : IntKind.i64.wrap ((i : Int) + 1) = (i : Int) + 1 := wr_id (by omega) (by omega)
      obtain ⟨hA, _, hc⟩ := hs.get hi'
      refine ⟨by omega, by omega, hA, ?_⟩
      conv => whnf
      refine ⟨Tx ws[i], hc, ?_⟩
      conv => whnf
      refine XCall.mono (hg ws[i] (List.getElem_mem hi')) fun r b M' hh => ?_
      obtain ⟨rfl, rfl, rfl⟩ := hh
      conv => whnf
      refine caseB_intro (fun hx => ?_) (fun hx => ?_)
      · conv => whnf
        exact ⟨_, PH.Le.refl _, by rw [idxF_at p ws i hi' hp hx]; rfl, rfl, rfl⟩
      · conv => whnf
        exact ⟨i + 1, ⟨by simp [slots, leT, hw], ⟨[], rfl⟩, (by first | exact Nat.zero_le _ | exact Nat.le_refl _), rfl, rfl⟩, ⟨by omega, fun j hj h => by
          rcases Nat.lt_succ_iff_lt_or_eq.1 hj with h1 | h1
          · exact hp j h1 h
          · subst h1; exact hx, rfl⟩, by omega⟩
    · exact ⟨_, PH.Le.refl _, by rw [idxF_no p ws (fun j h => hp j (by omega) h)]; rfl, rfl, rfl⟩

theorem containsFuncStH (ty : TypeId) (x0 : Value) (g : FuncId) (p : ByteArray → Bool) (A : Option Addr) (c : Nat) (ws : List ByteArray) (M : PH) (hs : Sl M A 1 stC ws) (hn : ws.length ≤ 4294967296)
    (hg : ∀ x ∈ ws, XCall env g (.v (Value.string x) :: [.bp 0 0]) [⟨ty, [.v x0]⟩] M fun r b M' => r = B (p x) ∧ b = [⟨ty, [.v x0]⟩] ∧ M' = M) :
    XCall env 61 [.v (.slice A ws.length c), .fn g [0]] [⟨ty, [.v x0]⟩] M fun r b M' => r = B (ws.any p) ∧ b = [⟨ty, [.v x0]⟩] ∧ M' = M := by
  refine xcall_of_vc Tryz.func61 rfl _ Tryz.ntmps61 _ rfl (fun _ _ => Tryz.call61 _ _) rfl (fun w0 ρ0 => ?_)
  conv => whnf
  refine XCall.mono (indexFuncStH ty x0 g p A c ws M hs hn hg) fun r b M' hh => ?_
  obtain ⟨rfl, rfl, rfl⟩ := hh
  conv => whnf
  exact ⟨_, PH.Le.refl _, by rw [idxF_any p ws]; rfl, rfl, rfl⟩

theorem hasItem1_ret (A : Option Addr) (c : Nat) (xs : List It) (nm : ByteArray) (M : PH) (hs : Sl M A 3 It.cs xs) (hx : Its xs) (hn : nm.size ≤ maxLen) : XCall env 121 [.v (Tx nm), .bp 0 0] [⟨91, [.v (.slice A xs.length c)]⟩] M fun r b M' => r = B (hasI xs nm) ∧ b = [⟨91, [.v (.slice A xs.length c)]⟩] ∧ M' = M := by
  refine xcall_of_vc Tryz.func121 rfl _ Tryz.ntmps121 _ rfl (fun _ _ => Tryz.call121 _ _) rfl (fun w0 ρ0 => ?_)
  conv => whnf
  repeat' (first | (refine ⟨⟨[], rfl⟩, _, PH.Le.refl _, PH.Le.refl _, ?_⟩; conv => whnf) | (refine caseB_true ?_; conv => whnf) | (refine caseB_false ?_; conv => whnf) | ((with_reducible refine caseB_dec (fun h => ?_) (fun h => ?_)) <;> conv => whnf) | ((with_reducible refine caseB_ndec (fun h => ?_) (fun h => ?_)) <;> conv => whnf) | ((with_reducible refine caseB_not (fun h => ?_) (fun h => ?_)) <;> conv => whnf) | (refine Ret.go (findItem_ret A c xs nm _ hs hx hn) ?_; conv => whnf) | (with_reducible refine @And.intro (guardVC _ _ _ _ _) _ ?_ ?_) <;> conv => whnf | (refine caseB_intro (fun h => ?_) (fun h => ?_) <;> (try simp only [Bool.not_eq_true', Bool.not_eq_false', decide_eq_true_eq, decide_eq_false_iff_not] at h) <;> conv => whnf))
  exact ⟨_, PH.Le.refl _, rfl, rfl, rfl⟩
theorem hasItem_ret (A A' : Option Addr) (c c' : Nat) (xs : List It) (ns : List ByteArray) (M : PH) (hs : Sl M A 3 It.cs xs) (hx : Its xs) (hn : Sl M A' 1 stC ns) (hl : ns.length ≤ 100) (hz : ∀ n ∈ ns, n.size ≤ maxLen) : Ret 82 [.slice A xs.length c, .slice A' ns.length c'] M (B (ns.any (hasI xs))) := by
  have hcf := containsFuncStH 91 (.slice A xs.length c) 121 (hasI xs) A' c' ns M hn (by omega) fun n hm => hasItem1_ret A c xs n M hs hx (hz n hm)
  refine xcall_of_vc Tryz.func82 rfl _ Tryz.ntmps82 _ rfl (fun _ _ => Tryz.call82 _ _) rfl (fun w0 ρ0 => ?_)
  conv => whnf
  refine XCall.lift hcf [0] ?_ (by simp) (by simp) (by simp [AV.plain]) ?_
  · simp [ren, AV.plain]
  rintro r b M2 ⟨rfl, rfl, rfl⟩
  refine ⟨by simp [AV.plain], ?_⟩
  conv => whnf
  exact ⟨_, PH.Le.refl _, rfl, rfl⟩
theorem l6Has_ret (A : Option Addr) (c : Nat) (xs : List It) (nm : ByteArray) (M : PH) (hs : Sl M A 3 It.cs xs) (hx : Its xs) (hn : nm.size ≤ maxLen) : Ret 78 [.slice A xs.length c, Tx nm] M (B (hasI xs nm)) := by
  refine xcall_of_vc Tryz.func78 rfl _ Tryz.ntmps78 _ rfl (fun _ _ => Tryz.call78 _ _) rfl (fun w0 ρ0 => ?_)
  conv => whnf
  repeat' (first | (refine ⟨⟨[], rfl⟩, _, PH.Le.refl _, PH.Le.refl _, ?_⟩; conv => whnf) | (refine caseB_true ?_; conv => whnf) | (refine caseB_false ?_; conv => whnf) | ((with_reducible refine caseB_dec (fun h => ?_) (fun h => ?_)) <;> conv => whnf) | ((with_reducible refine caseB_ndec (fun h => ?_) (fun h => ?_)) <;> conv => whnf) | ((with_reducible refine caseB_not (fun h => ?_) (fun h => ?_)) <;> conv => whnf) | (refine Ret.go (l2Find_ret A c xs nm _ hs hx hn) ?_; conv => whnf) | (with_reducible refine @And.intro (guardVC _ _ _ _ _) _ ?_ ?_) <;> conv => whnf | (refine caseB_intro (fun h => ?_) (fun h => ?_) <;> (try simp only [Bool.not_eq_true', Bool.not_eq_false', decide_eq_true_eq, decide_eq_false_iff_not] at h) <;> conv => whnf))
  exact ⟨_, PH.Le.refl _, rfl, rfl⟩
theorem itIx_at {xs : List It} {nm : ByteArray} (h : ¬ itIx xs nm < 0) : ∃ i : Nat, itIx xs nm = i ∧ i < xs.length := by
  unfold itIx idxF at h ⊢
  split at h
  · rename_i i hi
    obtain ⟨h1, _⟩ := List.findIdx?_eq_some_iff_getElem.1 hi
    exact ⟨i, rfl, h1⟩
  · omega
def spanV (xs : List It) (nm : ByteArray) : Int := if itIx xs nm < 0 then 0 else match xs[(itIx xs nm).toNat]? with | some x => if x.h = true then 1000 * max0 (deltaV x.v) else 0 | none => 0
theorem max0_in (v : Int) (h : v ≤ 2147483648) : 0 ≤ max0 v ∧ max0 v ≤ 2147483648 := by unfold max0; split <;> omega
theorem spanV_in (xs : List It) (nm : ByteArray) : 0 ≤ spanV xs nm ∧ spanV xs nm ≤ 2147483648000 := by
  unfold spanV
  split
  · omega
  split
  · rename_i x _
    have := max0_in (deltaV x.v) (deltaV_in x.v).2
    split <;> omega
  · omega
set_option maxHeartbeats 1000000 in
theorem spanOf_ret (A : Option Addr) (c : Nat) (xs : List It) (nm : ByteArray) (M : PH) (hs : Sl M A 3 It.cs xs) (hx : Its xs) (hn : nm.size ≤ maxLen) : Ret 83 [.slice A xs.length c, Tx nm] M (I (spanV xs nm)) := by
  have hf := findItem_ret A c xs nm M hs hx hn
  by_cases h : itIx xs nm < 0
  · have e : spanV xs nm = 0 := if_pos h
    rw [e]
    refine xcall_of_vc Tryz.func83 rfl _ Tryz.ntmps83 _ rfl (fun _ _ => Tryz.call83 _ _) rfl (fun w0 ρ0 => ?_)
    conv => whnf
    repeat' (first | (refine ⟨⟨[], rfl⟩, _, PH.Le.refl _, PH.Le.refl _, ?_⟩; conv => whnf) | (refine caseB_true ?_; conv => whnf) | (refine caseB_false ?_; conv => whnf) | ((with_reducible refine caseB_dec (fun h => ?_) (fun h => ?_)) <;> conv => whnf) | ((with_reducible refine caseB_ndec (fun h => ?_) (fun h => ?_)) <;> conv => whnf) | ((with_reducible refine caseB_not (fun h => ?_) (fun h => ?_)) <;> conv => whnf) | (refine Ret.go (hf) ?_; conv => whnf) | (with_reducible refine @And.intro (guardVC _ _ _ _ _) _ ?_ ?_) <;> conv => whnf | (refine caseB_intro (fun h => ?_) (fun h => ?_) <;> (try simp only [Bool.not_eq_true', Bool.not_eq_false', decide_eq_true_eq, decide_eq_false_iff_not] at h) <;> conv => whnf))
    · exact ⟨_, PH.Le.refl _, rfl, rfl⟩
    · exact absurd (by assumption) h
  · obtain ⟨i, e, hi⟩ := itIx_at h
    have ev : spanV xs nm = if xs[i].h = true then 1000 * max0 (deltaV xs[i].v) else 0 := by
      unfold spanV
      rw [if_neg h, e, Int.toNat_natCast, List.getElem?_eq_getElem hi]
    have hz := hx.v _ (List.getElem_mem hi)
    have hl := hx.len
    obtain ⟨hA, _, hc⟩ := hs.get hi
    have c1 : M.cells A (i * 3 + 1) [B xs[i].h] := cells_cut hc 1 rfl
    have c2 : M.cells A (i * 3 + 2) [Tx xs[i].v] := cells_cut hc 2 rfl
    rw [ev]
    rw [e] at hf
    clear h e ev hc
    generalize xs[i] = x at *
    have hdo := deltaOf_ret x.v (by unfold maxLen; omega) M
    have hm0 := max0_in (deltaV x.v) (deltaV_in x.v).2
    have w1 : IntKind.i64.wrap (1000 * max0 (deltaV x.v)) = 1000 * max0 (deltaV x.v) := wi (by omega) (by omega)
    refine xcall_of_vc Tryz.func83 rfl _ Tryz.ntmps83 _ rfl (fun _ _ => Tryz.call83 _ _) rfl (fun w0 ρ0 => ?_)
    conv => whnf
    repeat' (first | (refine ⟨⟨[], rfl⟩, _, PH.Le.refl _, PH.Le.refl _, ?_⟩; conv => whnf) | (refine ⟨_, c2, ?_⟩; conv => whnf) | (refine ⟨_, c1, ?_⟩; conv => whnf) | (refine And.intro (by omega) (And.intro (by omega) (And.intro hA ?_)); conv => whnf) | (refine caseB_true ?_; conv => whnf) | (refine caseB_false ?_; conv => whnf) | ((with_reducible refine caseB_dec (fun h => ?_) (fun h => ?_)) <;> conv => whnf) | ((with_reducible refine caseB_ndec (fun h => ?_) (fun h => ?_)) <;> conv => whnf) | ((with_reducible refine caseB_not (fun h => ?_) (fun h => ?_)) <;> conv => whnf) | (refine Ret.go (hf) ?_; conv => whnf) | (refine Ret.go (hdo) ?_; conv => whnf) | (with_reducible refine @And.intro (guardVC _ _ _ _ _) _ ?_ ?_) <;> conv => whnf | (refine caseB_intro (fun h => ?_) (fun h => ?_) <;> (try simp only [Bool.not_eq_true', Bool.not_eq_false', decide_eq_true_eq, decide_eq_false_iff_not] at h) <;> conv => whnf))
    all_goals first
      | (exfalso; omega)
      | (refine ⟨_, PH.Le.refl _, ?_, rfl⟩; show I _ = I _; rw [w1, if_pos (by assumption)]; done)
      | (refine ⟨_, PH.Le.refl _, ?_, rfl⟩; rw [if_neg (by simp [*])]; rfl)
set_option maxHeartbeats 1000000 in
theorem l6Seconds_ret (A : Option Addr) (c : Nat) (xs : List It) (nm : ByteArray) (M : PH) (hs : Sl M A 3 It.cs xs) (hx : Its xs) (hn : nm.size ≤ maxLen) : Ret 79 [.slice A xs.length c, Tx nm] M (I (spanV xs nm)) := by
  have hf := l2Find_ret A c xs nm M hs hx hn
  by_cases h : itIx xs nm < 0
  · have e : spanV xs nm = 0 := if_pos h
    rw [e]
    refine xcall_of_vc Tryz.func79 rfl _ Tryz.ntmps79 _ rfl (fun _ _ => Tryz.call79 _ _) rfl (fun w0 ρ0 => ?_)
    conv => whnf
    repeat' (first | (refine ⟨⟨[], rfl⟩, _, PH.Le.refl _, PH.Le.refl _, ?_⟩; conv => whnf) | (refine caseB_true ?_; conv => whnf) | (refine caseB_false ?_; conv => whnf) | ((with_reducible refine caseB_dec (fun h => ?_) (fun h => ?_)) <;> conv => whnf) | ((with_reducible refine caseB_ndec (fun h => ?_) (fun h => ?_)) <;> conv => whnf) | ((with_reducible refine caseB_not (fun h => ?_) (fun h => ?_)) <;> conv => whnf) | (refine Ret.go (hf) ?_; conv => whnf) | (with_reducible refine @And.intro (guardVC _ _ _ _ _) _ ?_ ?_) <;> conv => whnf | (refine caseB_intro (fun h => ?_) (fun h => ?_) <;> (try simp only [Bool.not_eq_true', Bool.not_eq_false', decide_eq_true_eq, decide_eq_false_iff_not] at h) <;> conv => whnf))
    · exact ⟨_, PH.Le.refl _, rfl, rfl⟩
    · exact absurd (by assumption) h
  · obtain ⟨i, e, hi⟩ := itIx_at h
    have ev : spanV xs nm = if xs[i].h = true then 1000 * max0 (deltaV xs[i].v) else 0 := by
      unfold spanV
      rw [if_neg h, e, Int.toNat_natCast, List.getElem?_eq_getElem hi]
    have hz := hx.v _ (List.getElem_mem hi)
    have hl := hx.len
    obtain ⟨hA, _, hc⟩ := hs.get hi
    have c1 : M.cells A (i * 3 + 1) [B xs[i].h] := cells_cut hc 1 rfl
    have c2 : M.cells A (i * 3 + 2) [Tx xs[i].v] := cells_cut hc 2 rfl
    rw [ev]
    rw [e] at hf
    clear h e ev hc
    generalize xs[i] = x at *
    have hdo := l1Delta_ret x.v (by unfold maxLen; omega) M
    have hmx := l1Max_ret (deltaV x.v) M
    have hm0 := max0_in (deltaV x.v) (deltaV_in x.v).2
    have w1 : IntKind.i64.wrap (max0 (deltaV x.v) * 1000) = 1000 * max0 (deltaV x.v) := by rw [wi (by omega) (by omega)]; omega
    refine xcall_of_vc Tryz.func79 rfl _ Tryz.ntmps79 _ rfl (fun _ _ => Tryz.call79 _ _) rfl (fun w0 ρ0 => ?_)
    conv => whnf
    repeat' (first | (refine ⟨⟨[], rfl⟩, _, PH.Le.refl _, PH.Le.refl _, ?_⟩; conv => whnf) | (refine ⟨_, c2, ?_⟩; conv => whnf) | (refine ⟨_, c1, ?_⟩; conv => whnf) | (refine And.intro (by omega) (And.intro (by omega) (And.intro hA ?_)); conv => whnf) | (refine caseB_true ?_; conv => whnf) | (refine caseB_false ?_; conv => whnf) | ((with_reducible refine caseB_dec (fun h => ?_) (fun h => ?_)) <;> conv => whnf) | ((with_reducible refine caseB_ndec (fun h => ?_) (fun h => ?_)) <;> conv => whnf) | ((with_reducible refine caseB_not (fun h => ?_) (fun h => ?_)) <;> conv => whnf) | (refine Ret.go (hf) ?_; conv => whnf) | (refine Ret.go (hdo) ?_; conv => whnf) | (refine Ret.go (hmx) ?_; conv => whnf) | (with_reducible refine @And.intro (guardVC _ _ _ _ _) _ ?_ ?_) <;> conv => whnf | (refine caseB_intro (fun h => ?_) (fun h => ?_) <;> (try simp only [Bool.not_eq_true', Bool.not_eq_false', decide_eq_true_eq, decide_eq_false_iff_not] at h) <;> conv => whnf))
    all_goals first
      | (exfalso; omega)
      | (refine ⟨_, PH.Le.refl _, ?_, rfl⟩; show I _ = I _; rw [w1, if_pos (by assumption)]; done)
      | (refine ⟨_, PH.Le.refl _, ?_, rfl⟩; rw [if_neg (by simp [*])]; rfl)
end Go.Proofs.YtdgipmlkkmmliaaGreatDoor
