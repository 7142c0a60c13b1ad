/-
  SLICES THAT GROW: what is known of a slice of one's own, how an append turns it, what a cut of a slice holds.
-/
import Derived.Test.YtdgipmlkkmmliaaGreatDoorXs
set_option linter.unusedVariables false
set_option linter.unusedSimpArgs false
namespace Go.Xe
theorem spl_length {cells l : List Value} {off : Nat} (h : off + l.length ≤ cells.length) : (spl cells off l).length = cells.length := by
  simp [spl]; omega
theorem spl_lt {cells l : List Value} {off k : Nat} (h : off ≤ cells.length) (hk : k < off) : (spl cells off l)[k]? = cells[k]? := by
  rw [spl, List.append_assoc, List.getElem?_append_left (by simp; omega), List.getElem?_take_of_lt hk]
theorem spl_mid {cells l : List Value} {off j : Nat} (h : off ≤ cells.length) (hj : j < l.length) : (spl cells off l)[off + j]? = l[j]? := by
  have e : (cells.take off).length = off := by simp; omega
  rw [spl, List.append_assoc, List.getElem?_append_right (by omega), e, Nat.add_sub_cancel_left, List.getElem?_append_left hj]
theorem spl_ge {cells l : List Value} {off k : Nat} (h : off ≤ cells.length) (hk : off + l.length ≤ k) : (spl cells off l)[k]? = cells[k]? := by
  have e : (cells.take off).length = off := by simp; omega
  rw [spl, List.getElem?_append_right (by simp; omega), List.getElem?_drop]
  congr 1
  simp; omega

section
variable {α : Type} {M M' : PH} {A : Option Addr} {sz : Nat} {f : α → List Value} {xs ys : List α}
theorem cells_flat (hf : ∀ x, (f x).length = sz) (a : Addr) : ∀ (xs : List α) (o : Nat), (∀ (i : Nat) x, xs[i]? = some x → M.cells (some a) (o + i * sz) (f x)) → ∀ (j : Nat) v, (xs.flatMap f)[j]? = some v → M.cell (a.add (o + j)) = some v
  | [], o, _, j, v, hv => by simp at hv
  | x :: xs, o, h, j, v, hv => by
    rw [List.flatMap_cons, List.getElem?_append] at hv
    split at hv
    · obtain ⟨b, hb, hc⟩ := h 0 x (by simp)
      cases hb
      simpa using hc j v hv
    · rename_i hj
      rw [hf] at hv hj
      have := cells_flat hf a xs (o + sz) (fun i y hy => by
        have := h (i + 1) y (by simpa using hy)
        rwa [show o + (i + 1) * sz = o + sz + i * sz by rw [Nat.succ_mul]; omega] at this) (j - sz) v hv
      rwa [show o + sz + (j - sz) = o + j by omega] at this
theorem Sl.flat (h : Sl M A sz f xs) (hf : ∀ x, (f x).length = sz) : xs.length = 0 ∨ M.cells A 0 (xs.flatMap f) := by
  by_cases hx : xs = []
  · subst hx; exact .inl rfl
  · obtain ⟨a, rfl⟩ := Option.isSome_iff_exists.1 (h.ne hx)
    exact .inr ⟨a, rfl, fun j v hv => cells_flat hf a xs 0 (fun i x hi => by rw [Nat.zero_add]; exact (h.at_ i x hi).2) j v hv⟩
theorem Sl.nil : Sl M A sz f [] := ⟨fun h => absurd rfl h, by simp⟩
/-- A cut of a slice. -/
theorem Sl.cut (h : Sl M A sz f xs) {l u m : Nat} (hlu : l ≤ u) (hum : u ≤ m) : Sl M (subA A l sz m) sz f ((xs.take u).drop l) := by
  refine ⟨fun hne => ?_, fun i x hi => ?_⟩
  · have : xs ≠ [] := by rintro rfl; simp at hne
    have := h.ne this
    unfold subA
    split
    · exact this
    · simpa using this
  · have hil := (List.getElem?_eq_some_iff.1 hi).1
    simp at hil
    rw [List.getElem?_drop, List.getElem?_take_of_lt (by omega)] at hi
    obtain ⟨h1, a, rfl, h2⟩ := h.at_ _ x hi
    refine ⟨h1, a.add (l * sz), ?_, fun j v hv => ?_⟩
    · unfold subA
      rw [if_neg (by omega)]; rfl
    · rw [add_add]
      have := h2 j v hv
      rwa [show (l + i) * sz + j = l * sz + (i * sz + j) by rw [Nat.add_mul]; omega] at this
theorem Sl.cutD (h : Sl M A sz f xs) {l m : Nat} (hm : xs.length ≤ m) (hl : l ≤ xs.length) : Sl M (subA A l sz m) sz f (xs.drop l) := by
  have := h.cut (l := l) (u := xs.length) (m := m) hl hm
  rwa [List.take_length] at this
end

/-- All that was known is known but for block o. -/
def Keeps (o : Option Nat) (M M' : PH) : Prop := ∀ k ob, M k = some ob → o ≠ some k → M' k = some ob
theorem Keeps.refl {o : Option Nat} (M : PH) : Keeps o M M := fun _ _ h _ => h
theorem Keeps.le {M M' : PH} (h : Keeps none M M') : M.Le M' := fun k ob hk => h k ob hk (fun e => nomatch e)
theorem PH.Le.keeps {o : Option Nat} {M M' : PH} (h : M.Le M') : Keeps o M M' := fun k ob hk _ => h k ob hk
/-- What was there ahead of block o is there still. -/
theorem Keeps.over {o : Option Nat} {M₀ M M' : PH} (h : Keeps o M M') (h0 : M₀.Le M) (ho : ∀ k, o = some k → M₀ k = none) : M₀.Le M' := fun k ob hk => h k ob (h0 k ob hk) (fun e => by rw [ho k e] at hk; cases hk)

/-- A slice of one's own: its block o (none: a slice without room), its capacity c, the rows it holds. -/
def Ow {α : Type} (M : PH) (o : Option Nat) (A : Option Addr) (c sz : Nat) (f : α → List Value) (xs : List α) : Prop :=
  match o with
  | none => xs = [] ∧ c = 0
  | some g => ∃ (off : Nat) (cells : List Value) (ty : TypeId), A = some ⟨g, off, none⟩ ∧ M g = some (.cells cells.toArray ty (0, 0)) ∧ off + c * sz ≤ cells.length ∧ xs.length ≤ c ∧
      ∀ (i : Nat) x, xs[i]? = some x → ∀ (j : Nat) v, (f x)[j]? = some v → cells[off + i * sz + j]? = some v
section
variable {α : Type} {M M' : PH} {o : Option Nat} {A : Option Addr} {c sz : Nat} {f : α → List Value} {xs : List α}
theorem Ow.le (h : Ow M o A c sz f xs) : xs.length ≤ c := by
  cases o with
  | none => rw [h.1]; exact Nat.zero_le _
  | some g => obtain ⟨_, _, _, _, _, _, h, _⟩ := h; exact h
theorem Ow.sl (h : Ow M o A c sz f xs) (hf : ∀ x, (f x).length = sz) : Sl M A sz f xs := by
  cases o with
  | none => rw [h.1]; exact Sl.nil
  | some g =>
    obtain ⟨off, cells, ty, rfl, hg, _, _, hx⟩ := h
    refine ⟨fun _ => rfl, fun i x hi => ⟨hf x, _, rfl, fun j v hv => ?_⟩⟩
    rw [add_at]
    simp only [PH.cell, hg, Option.isSome_none, Bool.false_eq_true, if_false, List.getElem?_toArray]
    rw [← Nat.add_assoc]
    exact hx i x hi j v hv
theorem Ow.keep (h : Ow M o A c sz f xs) (hk : ∀ g ob, o = some g → M g = some ob → M' g = some ob) : Ow M' o A c sz f xs := by
  cases o with
  | none => exact h
  | some g =>
    obtain ⟨off, cells, ty, e, hg, h1, h2, hx⟩ := h
    exact ⟨off, cells, ty, e, hk g _ rfl hg, h1, h2, hx⟩
theorem Ow.mono (h : Ow M o A c sz f xs) (hk : M.Le M') : Ow M' o A c sz f xs := h.keep fun g ob _ hg => hk g ob hg
theorem Ow.keeps {o' : Option Nat} (h : Ow M o A c sz f xs) (hk : Keeps o' M M') (hne : ∀ g, o = some g → o' ≠ some g) : Ow M' o A c sz f xs := h.keep fun g ob e hg => hk g ob hg (hne g e)
theorem Ow.nil : Ow M none A 0 sz f ([] : List α) := ⟨rfl, rfl⟩
theorem Ow.known (h : Ow M o A c sz f xs) : ∀ g, o = some g → ∃ ob, M g = some ob := by
  rintro g rfl
  obtain ⟨_, _, _, _, hg, _⟩ := h
  exact ⟨_, hg⟩
/-- A slice just built. -/
theorem Ow.new (hf : ∀ x, (f x).length = sz) (M : PH) (g : Nat) (xs : List α) (ty : TypeId) : Ow (M.set g (.cells (xs.flatMap f).toArray ty (0, 0))) (some g) (some ⟨g, 0, none⟩) xs.length sz f xs := by
  refine ⟨0, _, ty, rfl, PH.set_same _ _ _, by rw [flatMap_length hf]; omega, Nat.le_refl _, fun i x hi j v hv => ?_⟩
  rw [Nat.zero_add]
  exact flatMap_get hf xs i x hi j v hv
/-- A cut of a slice of one's own. -/
theorem Ow.cut (h : Ow M o A c sz f xs) {l u m : Nat} (hlu : l ≤ u) (hum : u ≤ m) (hmc : m ≤ c) (hu : u ≤ xs.length) : ∃ o', (o' = o ∨ o' = none) ∧ Ow M o' (subA A l sz m) (m - l) sz f ((xs.take u).drop l) := by
  by_cases he : m = l
  · subst he
    refine ⟨none, .inr rfl, ?_, by omega⟩
    apply List.eq_nil_of_length_eq_zero
    simp; omega
  · cases o with
    | none => have := h.2; omega
    | some g =>
      obtain ⟨off, cells, ty, rfl, hg, h1, h2, hx⟩ := h
      refine ⟨some g, .inl rfl, off + l * sz, cells, ty, ?_, hg, ?_, by simp; omega, fun i x hi j v hv => ?_⟩
      · unfold subA
        rw [if_neg he]
        simp [add_at]
      · have : l * sz + (m - l) * sz ≤ c * sz := by rw [← Nat.add_mul]; exact Nat.mul_le_mul_right _ (by omega)
        omega
      · have hil := (List.getElem?_eq_some_iff.1 hi).1
        simp at hil
        rw [List.getElem?_drop, List.getElem?_take_of_lt (by omega)] at hi
        have := hx _ x hi j v hv
        rwa [show off + (l + i) * sz + j = off + l * sz + i * sz + j by rw [Nat.add_mul]; omega] at this
end

/-- AN APPEND onto a slice of one's own: one way on. -/
theorem appVC_own {α : Type} {f : α → List Value} {te : TI} {e : TypeId} {A : Option Addr} {c : Nat} {M : PH} {o : Option Nat} {xs : List α} (ys : List α) {K : AV → PH → Prop} (ho : Ow M o A c te.size f xs) (hf : ∀ x, (f x).length = te.size) (h1 : ∀ x, ∀ v ∈ f x, v.oneCell' = true)
    (hz : te.zero.cells.size = te.size) (hb : (xs.length + ys.length) * te.bytes ≤ 140737488355328) (h63 : xs.length + ys.length ≤ 9223372036854775807)
    (hk : ∀ o' A' c' M', Ow M' o' A' c' te.size f (xs ++ ys) → Keeps o M M' → (o' = o ∨ ∃ g, o' = some g ∧ M g = none) → K (.v (.slice A' (xs ++ ys).length c')) M') : appVC te e A xs.length c ys.length (ys.flatMap f) M K := by
  refine ⟨xs.flatMap f, flatMap_length hf xs, (ho.sl hf).flat hf, hb, h63, fun hc g c' hg hge => ?_, fun hc => ?_⟩
  · have e1 := flatMap_length hf xs
    have e2 := flatMap_length hf ys
    have := hk (some g) (some ⟨g, 0, none⟩) c' (M.set g (.cells (xs.flatMap f ++ ys.flatMap f ++ zerosL te (c' - (xs.length + ys.length))).toArray e (0, 0)))
      ⟨0, _, e, rfl, PH.set_same _ _ _, ?_, by rw [List.length_append]; exact hge, fun i x hi j v hv => ?_⟩ (fun k ob hk' hne => ?_) (.inr ⟨g, rfl, hg⟩)
    · rwa [List.length_append] at this
    · have e3 : (zerosL te (c' - (xs.length + ys.length))).length = (c' - (xs.length + ys.length)) * te.size := repl_length (by simpa using hz) _
      rw [List.length_append, List.length_append, e1, e2, e3, ← Nat.add_mul, ← Nat.add_mul, Nat.zero_add]
      exact Nat.mul_le_mul_right _ (by omega)
    · rw [Nat.zero_add, ← List.flatMap_append]
      have := flatMap_get hf (xs ++ ys) i x hi j v hv
      rw [List.getElem?_append_left (List.getElem?_eq_some_iff.1 this).1]
      exact this
    · rw [PH.set_other _ _ (fun e => by rw [e, hg] at hk'; cases hk')]; exact hk'
  · cases o with
    | none =>
      have hx := ho.1
      have hy : ys = [] := List.eq_nil_of_length_eq_zero (by have := ho.2; omega)
      subst hx; subst hy
      exact .inl ⟨rfl, hk none A c M ho (Keeps.refl M) (.inl rfl)⟩
    | some g =>
      obtain ⟨off, cells, ty, rfl, hg, hl, _, hx⟩ := ho
      have e2 := flatMap_length hf ys
      have hle : off + (xs.length + ys.length) * te.size ≤ cells.length := by
        have := Nat.mul_le_mul_right te.size hc
        omega
      rw [Nat.add_mul] at hle
      refine .inr ⟨g, off, cells, ty, (0, 0), rfl, hg, ⟨by rw [Nat.add_mul]; exact hle, .inl (Nat.zero_le _)⟩, ?_, ?_⟩
      · rw [List.all_eq_true]
        intro v hv
        obtain ⟨y, _, hy⟩ := List.mem_flatMap.1 hv
        exact h1 y v hy
      · have := hk (some g) (some ⟨g, off, none⟩) c (M.set g (.cells (spl cells (off + xs.length * te.size) (ys.flatMap f)).toArray ty (0, 0)))
          ⟨off, _, ty, rfl, PH.set_same _ _ _, ?_, by rw [List.length_append]; exact hc, fun i x hi j v hv => ?_⟩ (fun k ob hk' hne => ?_) (.inl rfl)
        · rwa [List.length_append] at this
        · rw [spl_length (by rw [e2]; omega)]; exact hl
        · have hj : j < te.size := by rw [← hf x]; exact (List.getElem?_eq_some_iff.1 hv).1
          rw [List.getElem?_append] at hi
          split at hi
          · rename_i hlt
            have : i * te.size + te.size ≤ xs.length * te.size := by rw [← Nat.succ_mul]; exact Nat.mul_le_mul_right _ hlt
            rw [spl_lt (by omega) (by omega)]
            exact hx i x hi j v hv
          · rename_i hge
            have hw := flatMap_get hf ys (i - xs.length) x hi j v hv
            have hwl := (List.getElem?_eq_some_iff.1 hw).1
            have : i * te.size = xs.length * te.size + (i - xs.length) * te.size := by rw [← Nat.add_mul]; congr 1; omega
            rw [show off + i * te.size + j = off + xs.length * te.size + ((i - xs.length) * te.size + j) by omega, spl_mid (by omega) hwl]
            exact hw
        · rw [PH.set_other _ _ (fun e => hne (by rw [e]))]; exact hk'
/-- The same, of what a slice holds. -/
theorem app_sl {α : Type} {f : α → List Value} {te : TI} {e : TypeId} {A B : Option Addr} {c : Nat} {M : PH} {o : Option Nat} {xs : List α} {ys : List α} {K : AV → PH → Prop} (hs : Sl M B te.size f ys) (ho : Ow M o A c te.size f xs) (hf : ∀ x, (f x).length = te.size) (h1 : ∀ x, ∀ v ∈ f x, v.oneCell' = true)
    (hz : te.zero.cells.size = te.size) (hb : (xs.length + ys.length) * te.bytes ≤ 140737488355328) (h63 : xs.length + ys.length ≤ 9223372036854775807)
    (hk : ∀ o' A' c' M', Ow M' o' A' c' te.size f (xs ++ ys) → Keeps o M M' → (o' = o ∨ ∃ g, o' = some g ∧ M g = none) → K (.v (.slice A' (xs ++ ys).length c')) M') :
    ∃ news : List Value, news.length = ys.length * te.size ∧ (ys.length = 0 ∨ M.cells B 0 news) ∧ appVC te e A xs.length c ys.length news M K :=
  ⟨ys.flatMap f, flatMap_length hf ys, hs.flat hf, appVC_own ys ho hf h1 hz hb h63 hk⟩
/-- A WRITE into an element of a slice of one's own. -/
theorem own_store {α : Type} {f : α → List Value} {A : Option Addr} {c sz : Nat} {M : PH} {o : Option Nat} {xs : List α} {K : PH → Prop} (h : Ow M o A c sz f xs) (hf : ∀ x, (f x).length = sz) {i j : Nat} (hi : i < xs.length) {vs : List Value} (hj : j + vs.length ≤ sz) (x' : α) (hx : f x' = spl (f xs[i]) j vs)
    (hk : ∀ M', Ow M' o A c sz f (xs.set i x') → Keeps o M M' → K M') :
    ∃ (g : Nat) (off : Nat) (cells : List Value) (ty : TypeId) (fz : Nat × Nat), A = some ⟨g, off, none⟩ ∧ M g = some (.cells cells.toArray ty fz) ∧ (off + (i * sz + j) + vs.length ≤ cells.length ∧ (fz.2 ≤ off + (i * sz + j) ∨ off + (i * sz + j) + vs.length ≤ fz.1)) ∧ K (M.set g (.cells (spl cells (off + (i * sz + j)) vs).toArray ty fz)) := by
  cases o with
  | none => rw [h.1] at hi; cases hi
  | some g =>
    obtain ⟨off, cells, ty, rfl, hg, hl, hc, hrow⟩ := h
    have hin : i * sz + sz ≤ c * sz := by rw [← Nat.succ_mul]; exact Nat.mul_le_mul_right _ (by omega)
    refine ⟨g, off, cells, ty, (0, 0), rfl, hg, ⟨by omega, .inl (Nat.zero_le _)⟩, hk _ ⟨off, _, ty, rfl, PH.set_same _ _ _, by rw [spl_length (by omega)]; exact hl, by simpa using hc, fun n x hn k v hv => ?_⟩ (fun k ob hk' hne => by rw [PH.set_other _ _ (fun e => hne (by rw [e]))]; exact hk')⟩
    rw [List.getElem?_set] at hn
    have hk : k < sz := by rw [← hf x]; exact (List.getElem?_eq_some_iff.1 hv).1
    split at hn
    · rename_i hin'
      subst hin'
      cases hn
      rw [hx] at hv
      have hfl := hf xs[i]
      by_cases h1 : k < j
      · rw [spl_lt (by omega) h1] at hv
        rw [spl_lt (by omega) (by omega)]
        exact hrow i xs[i] (List.getElem?_eq_getElem hi) k v hv
      · by_cases h2 : k < j + vs.length
        · obtain ⟨q, rfl⟩ : ∃ q, k = j + q := ⟨k - j, by omega⟩
          rw [spl_mid (by omega) (by omega)] at hv
          rw [show off + i * sz + (j + q) = off + (i * sz + j) + q by omega, spl_mid (by omega) (by omega)]
          exact hv
        · rw [spl_ge (by omega) (by omega)] at hv
          rw [spl_ge (by omega) (by omega)]
          exact hrow i xs[i] (List.getElem?_eq_getElem hi) k v hv
    · rename_i hne
      have := hrow n x hn k v hv
      have hlt : n * sz + sz ≤ i * sz ∨ i * sz + sz ≤ n * sz := by
        rcases Nat.lt_or_gt_of_ne hne with h | h
        · exact .inr (by rw [← Nat.succ_mul]; exact Nat.mul_le_mul_right _ h)
        · exact .inl (by rw [← Nat.succ_mul]; exact Nat.mul_le_mul_right _ h)
      rcases hlt with h | h
      · rw [spl_lt (by omega) (by omega)]; exact this
      · rw [spl_ge (by omega) (by omega)]; exact this
theorem Keeps.trans {o : Option Nat} {A B C : PH} (h : Keeps o A B) (k : Keeps o B C) : Keeps o A C := fun j ob hj hne => k j ob (h j ob hj hne) hne
/-- THE FRAME: a contract over a part of what is known. -/
theorem XCall.frame {E : Env} {f : FuncId} {args : List AV} {bx : List Box} {M1 M : PH} {R : Value → List Box → PH → Prop} (h : XCall E f args bx M1 R) (l : M1.Le M) :
    XCall E f args bx M fun r b M' => ∃ M1', R r b M1' ∧ M1'.Le M' ∧ ∀ k ob, M k = some ob → M1 k = none → M1' k = none ∧ M' k = some ob := by
  refine ⟨h.en, fun ρ w vs h1 h2 h3 h4 h5 => (h.run ρ w vs h1 h2 (fun i hi => ?_) (fun k o hk => h4 k o (l k o hk)) h5).mono fun e w' hh => ?_⟩
  · cases hm : M1 (ρ i) with
    | none => rfl
    | some o => have := l _ _ hm; rw [h3 i hi] at this; cases this
  · obtain ⟨r, bx', M1', rfl, hl, hb, hp, hR⟩ := hh
    have keep : ∀ k ob, M k = some ob → M1 k = none → M1' k = none ∧ w'.heap[k]? = some ob := fun k ob hk hn => by
      have hlt := h4.lt hk
      refine ⟨?_, ?_⟩
      · cases hm : M1' k with
        | none => rfl
        | some o =>
          rcases hp.fresh k o hm with ⟨o', ho'⟩ | hge
          · rw [hn] at ho'; cases ho'
          · omega
      · rw [hp.frame k hlt hn (fun i hi e => by have := h3 i hi; rw [e, hk] at this; cases this)]
        exact h4 k ob hk
    refine ⟨r, bx', fun k => match M1' k with | some o => some o | none => match M1 k with | none => M k | some _ => none, rfl, hl, hb, ⟨hp.os, hp.tape, hp.output, hp.size, fun k o hk => ?_, fun k o hk => ?_, fun k hk hm hi => ?_⟩, M1', hR, fun k o hk => by simp only [hk], fun k ob hk hn => ⟨(keep k ob hk hn).1, by simp only [(keep k ob hk hn).1, hn]; exact hk⟩⟩
    · cases hm : M1' k with
      | some o' => simp only [hm] at hk; cases hk; exact hp.inn k _ hm
      | none =>
        simp only [hm] at hk
        cases hn : M1 k with
        | none => simp only [hn] at hk; exact (keep k o hk hn).2
        | some o' => simp only [hn] at hk; cases hk
    · cases hm : M1' k with
      | some o' =>
        rcases hp.fresh k o' hm with ⟨o2, ho2⟩ | hge
        · exact .inl ⟨o2, l _ _ ho2⟩
        · exact .inr hge
      | none =>
        simp only [hm] at hk
        cases hn : M1 k with
        | none => simp only [hn] at hk; exact .inl ⟨o, hk⟩
        | some o' => simp only [hn] at hk; cases hk
    · refine hp.frame k hk ?_ hi
      cases hn : M1 k with
      | none => rfl
      | some o => have := l _ _ hn; rw [hm] at this; cases this
/-- Nothing known: what the loads of a region lean on that loads from boxes alone. -/
def bot : PH := fun _ => none
theorem bot_le (M : PH) : bot.Le M := fun _ _ h => nomatch h
/-- Behind a piece of code the ways on are joined: a head (slots, boxes), what is known of memory there. -/
theorem join_rule {C : Ctx} {α : Type} {c : Code} {Q : KC} {s : St} {M : PH} (H : α → St) (I : α → PH → Prop)
    (h1 : AWp C c (fun e s M => match e with | .normal => ∃ x, LeS C.m s (H x) ∧ I x M | .exit i => Q (.exit i) s M | .ret => Q .ret s M) s M) (h2 : ∀ x M, I x M → Q .normal (H x) M) : AWp C c Q s M := by
  constructor
  intro ρ a w hs
  refine wp_mono (h1.out ρ a w hs) fun e a' w' hl => ?_
  obtain ⟨ex, ρ', s', M', hrel, hs', hq⟩ := hl
  cases ex with
  | normal =>
    obtain ⟨x, hle, hI⟩ := hq
    exact ⟨.normal, ρ', H x, M', hrel, sim_le hs' hle, h2 x M' hI⟩
  | exit i => exact ⟨.exit i, ρ', s', M', hrel, hs', hq⟩
  | ret => exact ⟨.ret, ρ', s', M', hrel, hs', hq⟩
/-- A row marked from a number on. -/
def marksL {α : Type} (mk : Int → α) (F k : Int) (n : Nat) : List α := (List.range n).map fun (i : Nat) => mk (k + F * (i : Int))
theorem marksL_length {α : Type} (mk : Int → α) (F k : Int) (n : Nat) : (marksL mk F k n).length = n := by simp [marksL]
theorem marksL_get {α : Type} (mk : Int → α) (F k : Int) (n : Nat) {i : Nat} (h : i < (marksL mk F k n).length) : (marksL mk F k n)[i] = mk (k + F * i) := by simp [marksL]
/-- The first i rows are marked, the others as they were. -/
def markT {α : Type} (mk : Int → α) (F k : Int) (xs : List α) (i : Nat) : List α := marksL mk F k i ++ xs.drop i
theorem markT_length {α : Type} (mk : Int → α) (F k : Int) (xs : List α) {i : Nat} (h : i ≤ xs.length) : (markT mk F k xs i).length = xs.length := by simp [markT, marksL]; omega
theorem markT_set {α : Type} (mk : Int → α) (F k : Int) (xs : List α) {i : Nat} (h : i < xs.length) : (markT mk F k xs i).set i (mk (k + F * i)) = markT mk F k xs (i + 1) := by
  have e : (marksL mk F k i).length = i := marksL_length _ _ _ _
  unfold markT
  rw [List.set_append_right _ _ (by omega), e, Nat.sub_self, List.drop_eq_getElem_cons h, List.set_cons_zero]
  simp [marksL, List.range_succ]
theorem markT_zero {α : Type} (mk : Int → α) (F k : Int) (xs : List α) : markT mk F k xs 0 = xs := by simp [markT, marksL]
theorem markT_all {α : Type} (mk : Int → α) (F k : Int) (xs : List α) : markT mk F k xs xs.length = marksL mk F k xs.length := by simp [markT]
/-! ### What is known, but for one block -/
def rm (M : PH) (g : Nat) : PH := fun j => if j = g then none else M j
theorem rm_le (M : PH) (g : Nat) : (Go.Xe.rm M g).Le M := fun j o h => by
  unfold Go.Xe.rm at h
  split at h
  · cases h
  · exact h
theorem Sl.rm {α : Type} {M : PH} {g' g : Nat} {f : α → List Value} {xs : List α} {sz : Nat} (h : Sl M (some ⟨g', 0, none⟩) sz f xs) (hne : g' ≠ g) : Sl (Go.Xe.rm M g) (some ⟨g', 0, none⟩) sz f xs := by
  refine ⟨h.ne, fun i x hx => ⟨(h.at_ i x hx).1, ?_⟩⟩
  obtain ⟨a, ha, hc⟩ := (h.at_ i x hx).2
  cases ha
  refine ⟨_, rfl, fun j v hv => ?_⟩
  have := hc j v hv
  rw [add_at] at this ⊢
  simpa [PH.cell, Go.Xe.rm, hne] using this
theorem rm_up {M1 M' : PH} {g : Nat} (l : M1.Le M') (h : M1 g = none) : M1.Le (Go.Xe.rm M' g) := fun k o hk => by
  unfold Go.Xe.rm
  split
  · rename_i e; rw [e, h] at hk; cases hk
  · exact l k o hk
theorem rm_sets (M : PH) (g : Nat) (o : Obj) : Go.Xe.rm (M.set g o) g = Go.Xe.rm M g := by
  funext k
  unfold Go.Xe.rm
  split
  · rfl
  · rename_i e; exact PH.set_other _ _ e
theorem rm_at (M : PH) (g : Nat) : Go.Xe.rm M g g = none := if_pos rfl
theorem rm_rm {M M' : PH} {g : Nat} (l : M.Le M') : (Go.Xe.rm M g).Le (Go.Xe.rm M' g) := fun k o hk => by
  unfold Go.Xe.rm at hk ⊢
  split at hk
  · cases hk
  · rename_i e; rw [if_neg e]; exact l k o hk
/-- A block that holds these rows. -/
theorem sl_at {α : Type} {f : α → List Value} {sz : Nat} (hf : ∀ x, (f x).length = sz) {M : PH} {g : Nat} {xs : List α} {ty : TypeId} {fz : Nat × Nat} (h : M g = some (.cells (xs.flatMap f).toArray ty fz)) : Sl M (some ⟨g, 0, none⟩) sz f xs := by
  refine ⟨fun _ => rfl, fun i x hx => ⟨hf x, ⟨g, 0, none⟩, rfl, fun j v hv => ?_⟩⟩
  rw [add_at, Nat.zero_add]
  simp only [PH.cell, h, Option.isSome_none, Bool.false_eq_true, if_false, List.getElem?_toArray]
  exact flatMap_get hf xs i x hx j v hv
/-- A slice that came in, of rows that lead on. -/
theorem open_sld {α : Type} {W : World} {e : Sh} {sz : Nat} {cs : List Value} (f : α → List Value) (P : α → Prop) (hd : ∀ es, e.ok W es → ∃ x, es = f x ∧ P x) (h : (Sh.slice e sz).ok W cs) :
    ∃ (A : Option Addr) (c : Nat) (xs : List α), cs = [.slice A xs.length c] ∧ Sl (whole W) A sz f xs ∧ xs.length ≤ maxLen ∧ ∀ x ∈ xs, P x := by
  rcases h with h | ⟨a, len, cap, h, hl, hc, hi⟩
  · exact ⟨none, 0, [], h, ⟨fun h => absurd rfl h, by simp⟩, Nat.zero_le _, by simp⟩
  · obtain ⟨xs, hlen, hx⟩ := exists_list (P := fun i x => ((f x).length = sz ∧ ∀ (j : Nat) v, (f x)[j]? = some v → W.cell? (a.add (i * sz + j)) = some v) ∧ P x) len fun i hil => by
      obtain ⟨es, h1, h2, h3⟩ := hi i hil
      obtain ⟨x, rfl, hp⟩ := hd es h2
      exact ⟨x, ⟨h1, h3⟩, hp⟩
    refine ⟨some a, cap, xs, by rw [hlen]; exact h, ⟨fun _ => rfl, fun i x hix => ⟨(hx i x hix).1.1, a, rfl, fun j v hv => ?_⟩⟩, by omega, fun x hm => ?_⟩
    · rw [cell_whole]
      exact (hx i x hix).1.2 j v hv
    · obtain ⟨i, hi, rfl⟩ := List.getElem_of_mem hm
      exact (hx i _ (List.getElem?_eq_getElem hi)).2
/-! ### Texts -/
theorem seq_iff {a b : ByteArray} : seq a b = true ↔ a = b := by
  unfold seq
  rw [beq_iff_eq]
  constructor
  · intro h
    rw [ByteArray.toList_eq, ByteArray.toList_eq] at h
    exact Go.WideShapes.bytes_inj h
  · rintro rfl; rfl
theorem seq_self (a : ByteArray) : seq a a = true := seq_iff.2 rfl
theorem seq_ne {a b : ByteArray} : seq a b = false ↔ a ≠ b := by
  rw [← Bool.not_eq_true, Ne, seq_iff]
/-- What a list costs. -/
def costL {α : Type} (f : α → Nat) (xs : List α) : Nat := xs.length + (xs.map f).sum
theorem costL_le {α : Type} {f : α → Nat} {xs : List α} {x : α} (h : x ∈ xs) : f x ≤ costL f xs := by
  unfold costL
  induction xs with
  | nil => cases h
  | cons y ys ih =>
    simp only [List.map_cons, List.sum_cons, List.length_cons]
    rcases List.mem_cons.1 h with rfl | h
    · omega
    · have := ih h; omega
theorem costL_len {α : Type} (f : α → Nat) (xs : List α) : xs.length ≤ costL f xs := Nat.le_add_right _ _
/-- What the first i cost. -/
def costT {α : Type} (f : α → Nat) (xs : List α) (i : Nat) : Nat := ((xs.take i).map f).sum
theorem costT_step {α : Type} (f : α → Nat) {xs : List α} {i : Nat} (h : i < xs.length) : costT f xs (i + 1) = costT f xs i + f xs[i] := by
  unfold costT
  rw [List.take_succ_eq_append_getElem h, List.map_append, List.sum_append]
  simp only [List.map_cons, List.map_nil, List.sum_cons, List.sum_nil, Nat.add_zero]
theorem costT_all {α : Type} (f : α → Nat) (xs : List α) : xs.length + costT f xs xs.length = costL f xs := by simp [costT, costL]
end Go.Xe
