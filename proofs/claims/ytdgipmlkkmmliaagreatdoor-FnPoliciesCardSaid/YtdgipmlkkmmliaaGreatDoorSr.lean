/-
  A TEXT CUT at a byte, by the reference.
-/
import Derived.Test.YtdgipmlkkmmliaaGreatDoorSq
namespace Go.Proofs.YtdgipmlkkmmliaaGreatDoor
set_option maxRecDepth 100000
set_option linter.unusedSimpArgs false
set_option linter.unusedVariables false
open Go.Xe
theorem indexByte_at : ∀ (l : List UInt8) (c : UInt8) (i : Nat) (h : i < l.length), l[i] = c → (∀ j, ∀ hj : j < i, l[j]'(by omega) ≠ c) → Lib.indexByte l c = i
  | x :: r, c, 0, h, h1, h2 => by
    have : (x == c) = true := beq_iff_eq.2 h1
    rw [Lib.indexByte, if_pos this]; rfl
  | x :: r, c, i + 1, h, h1, h2 => by
    have hx : ¬ (x == c) = true := fun e => h2 0 (Nat.zero_lt_succ _) (beq_iff_eq.1 e)
    have ih := indexByte_at r c i (by simpa using h) h1 (fun j hj => h2 (j + 1) (Nat.succ_lt_succ hj))
    rw [Lib.indexByte, if_neg hx, ih, if_neg (by intro e; have := beq_iff_eq.1 e; omega)]
    rfl
theorem indexByte_no : ∀ (l : List UInt8) (c : UInt8), (∀ x ∈ l, x ≠ c) → Lib.indexByte l c = -1
  | [], _, _ => rfl
  | x :: r, c, h => by
    have hx : ¬ (x == c) = true := fun e => h x List.mem_cons_self (beq_iff_eq.1 e)
    rw [Lib.indexByte, if_neg hx, indexByte_no r c fun y hy => h y (List.mem_cons_of_mem _ hy)]
    rfl
theorem indexB_1 (t : ByteArray) (c : UInt8) : Lib.indexB t ⟨#[c]⟩ = Lib.indexByte t.data.toList c := Lib.index_one t.data.toList c
theorem splB_miss {t : ByteArray} {c : UInt8} (h : ∀ x ∈ t.data.toList, x ≠ c) : splB t c = [t] :=
  Lib.splitB_miss _ _ _ _ ((indexB_1 t c).trans (indexByte_no _ _ h))
theorem splB_hit {t : ByteArray} {c : UInt8} {i : Nat} (hi : i < t.data.toList.length) (h1 : t.data.toList[i] = c) (h2 : ∀ j, ∀ hj : j < i, t.data.toList[j]'(by omega) ≠ c) :
    splB t c = t.extract 0 i :: splB (t.extract (i + 1) t.size) c := by
  have hix : Lib.indexB t ⟨#[c]⟩ = (i : Int) := (indexB_1 t c).trans (indexByte_at _ _ _ hi h1 h2)
  have hc := Lib.countB_hit t ⟨#[c]⟩ i (Nat.le_refl 1) hix
  unfold splB
  rw [hc, Nat.add_comm, Lib.splitB_hit _ _ _ _ i hix]
  rfl
theorem ext_list (s : ByteArray) (a b : Nat) : (s.extract a b).data.toList = (s.data.toList.take b).drop a := extract_list s a b
theorem ext_ext (s : ByteArray) (a i j : Nat) (h : a + j ≤ s.size) : (s.extract a s.size).extract i j = s.extract (a + i) (a + j) := ba_ext (by
  rw [ext_list, ext_list, ext_list]
  apply List.ext_getElem?
  intro n
  simp only [List.getElem?_drop, List.getElem?_take]
  have hl := size_list s
  by_cases h1 : i + n < j
  · rw [if_pos h1, if_pos (by omega), if_pos (by omega), Nat.add_assoc]
  · rw [if_neg h1, if_neg (by omega)])
theorem ext_size {s : ByteArray} {a b : Nat} (h : b ≤ s.size) : (s.extract a b).size = b - a := by rw [ByteArray.size_extract]; omega
theorem bt_ne {s : ByteArray} {x : UInt8} {j : Nat} (h : j < s.data.toList.length) (hb : bt s j ≠ x.toNat) : s.data.toList[j] ≠ x := fun e => hb (by rw [bt_get h, e])
theorem bt_eq' {s : ByteArray} {x : UInt8} {j : Nat} (h : j < s.data.toList.length) (hb : bt s j = x.toNat) : s.data.toList[j] = x := by
  rw [bt_get h] at hb
  exact UInt8.toNat_inj.1 (by omega)
theorem splB_at {s : ByteArray} {x : UInt8} {a i : Nat} (ha : a ≤ i) (hi : i < s.size) (h1 : bt s i = x.toNat) (h2 : ∀ j : Nat, a ≤ j → j < i → bt s j ≠ x.toNat) :
    splB (s.extract a s.size) x = s.extract a i :: splB (s.extract (i + 1) s.size) x := by
  have hl := size_list s
  have hz : (s.extract a s.size).data.toList.length = s.size - a := by rw [← size_list, ext_size (Nat.le_refl _)]
  have hg : ∀ j, ∀ h : j < (s.extract a s.size).data.toList.length, (s.extract a s.size).data.toList[j] = s.data.toList[a + j]'(by omega) := fun j h => by
    simp only [ext_list, List.getElem_drop, List.getElem_take]
  have := splB_hit (t := s.extract a s.size) (c := x) (i := i - a) (by omega) (by rw [hg]; exact bt_eq' (by omega) (by rw [show a + (i - a) = i by omega]; exact h1)) (fun j hj => by rw [hg]; exact bt_ne (by omega) (h2 (a + j) (by omega) (by omega)))
  rw [this, ext_ext _ _ _ _ (by omega), ext_size (Nat.le_refl _), ext_ext _ _ _ _ (by omega)]
  rw [show a + 0 = a by omega, show a + (i - a) = i by omega, show a + (i - a + 1) = i + 1 by omega, show a + (s.size - a) = s.size by omega]
theorem splB_end {s : ByteArray} {x : UInt8} {a : Nat} (h2 : ∀ j : Nat, a ≤ j → j < s.size → bt s j ≠ x.toNat) : splB (s.extract a s.size) x = [s.extract a s.size] := by
  have hl := size_list s
  refine splB_miss fun y hy => ?_
  obtain ⟨j, hj, rfl⟩ := List.getElem_of_mem hy
  have hz : (s.extract a s.size).data.toList.length = s.size - a := by rw [← size_list, ext_size (Nat.le_refl _)]
  have : (s.extract a s.size).data.toList[j] = s.data.toList[a + j]'(by omega) := by simp only [ext_list, List.getElem_drop, List.getElem_take]
  rw [this]
  exact bt_ne (by omega) (h2 (a + j) (by omega) (by omega))
theorem ext_all (s : ByteArray) : s.extract 0 s.size = s := ba_ext (by rw [ext_list, size_list, List.take_length, List.drop_zero])
abbrev E9 := Nat × Nat × Option Nat × Option Addr × Nat × List ByteArray
theorem l1Cut_ret (s : ByteArray) (x : UInt8) (M : PH) (hs : s.size ≤ 2097152) :
    ACall env 107 [Tx s, Y x.toNat] M fun r M' => ∃ o A c, r = .slice A (splB s x).length c ∧ New M M' o A c 1 stC (splB s x) := by
  refine xcall_of_vc Tryz.func107 rfl _ Tryz.ntmps107 _ rfl (fun _ _ => Tryz.call107 _ _) rfl (fun w0 ρ0 => ?_)
  conv => whnf
  intro g1 hg1
  conv => whnf
  refine loop_rule (fun z : E9 => ⟨slots 36 [(0, .v (Tx s)), (1, .v (Y x.toNat)), (4, .v (.slice none 0 0)), (5, .v (.slice z.2.2.2.1 z.2.2.2.2.2.length z.2.2.2.2.1)), (6, .v (I z.2.1)), (7, .v (I z.1))], []⟩)
    (fun z M' => z.1 ≤ s.size + 1 ∧ z.2.2.2.2.2.length ≤ z.1 ∧ New M M' z.2.2.1 z.2.2.2.1 z.2.2.2.2.1 1 stC z.2.2.2.2.2 ∧ (z.1 ≤ s.size → z.2.1 ≤ z.1 ∧ z.2.2.2.2.2 ++ splB (s.extract z.2.1 s.size) x = splB s x ∧ ∀ j : Nat, z.2.1 ≤ j → j < z.1 → bt s j ≠ x.toNat) ∧ (z.1 = s.size + 1 → z.2.2.2.2.2 = splB s x)) (fun z => s.size + 1 - z.1) (0, 0, none, some ⟨g1, 0, none⟩, 0, []) ?_ ?_ ?_
  · exact ⟨by simp [slots, leT], ⟨[], rfl⟩, Nat.zero_le _, rfl, rfl⟩
  · exact ⟨Nat.zero_le _, Nat.zero_le _, (New.nil M _).to (PH.Le.set _ hg1), fun _ => ⟨Nat.le_refl _, by rw [ext_all]; rfl, fun j h1 h2 => absurd h2 (Nat.not_lt_zero _)⟩, fun h => by cases h⟩
  rintro ⟨i, a, o, C, d, us⟩ M1 ⟨hi, hu, N1, h1, h2⟩
  have hi : i ≤ s.size + 1 := hi
  have hu : us.length ≤ i := hu
  have N1 : New M M1 o C d 1 stC us := N1
  have h1 : i ≤ s.size → a ≤ i ∧ us ++ splB (s.extract a s.size) x = splB s x ∧ ∀ j : Nat, a ≤ j → j < i → bt s j ≠ x.toNat := h1
  have h2 : i = s.size + 1 → us = splB s x := h2
  conv => whnf
  refine caseB_dec (fun hb => ?_) (fun hb => ?_)
  · have hb : (i : Int) ≤ s.size := hb
    have hib : i ≤ s.size := by omega
    obtain ⟨ha, he, hno⟩ := h1 hib
    have hw : IntKind.i64.wrap ((i : Int) + 1) = (i : Int) + 1 := wr_id (by omega) (by omega)
    have app : ∀ {K : AV → PH → Prop} {e : TypeId} {g2 : Nat} {t : TypeId} (y : ByteArray), M1 g2 = none → (∀ o' A' c' M', New M M' o' A' c' 1 stC (us ++ [y]) → K (.v (.slice A' (us ++ [y]).length c')) M') →
        ∃ news : List Value, news.length = 1 * ti9.size ∧ ((1 : Nat) = 0 ∨ (M1.set g2 (.cells #[Tx y] t (0, 0))).cells (some ⟨g2, 0, none⟩) 0 news) ∧ appVC ti9 e C us.length d 1 news (M1.set g2 (.cells #[Tx y] t (0, 0))) K := fun {K e g2 t} y hg2 hk =>
      app_sl (te := ti9) (f := stC) (xs := us) (ys := [y]) (o := o) (sl_full st_len M1 g2 [y] t (0, 0)) (N1.ow.mono (PH.Le.set _ hg2)) st_len st_one rfl (st_fits _ _ (by show _ + 1 ≤ _; omega)) (by show _ + 1 ≤ _; omega) fun o' A' c' M' hO hK hF => hk o' A' c' M' (N1.more (PH.Le.set _ hg2) hK hO hF)
    conv => whnf
    repeat' (first | (refine ⟨⟨[], rfl⟩, _, PH.Le.refl _, PH.Le.refl _, ?_⟩; conv => whnf) | (refine ⟨⟨by omega, by omega, by omega⟩, ?_⟩; conv => whnf) | (refine ⟨by omega, by omega, ?_⟩; conv => whnf) | (refine caseB_true ?_; conv => whnf) | (refine caseB_false ?_; conv => whnf) | ((with_reducible refine caseB_dec (fun h => ?_) (fun h => ?_)) <;> conv => whnf) | ((with_reducible refine caseB_ndec (fun h => ?_) (fun h => ?_)) <;> conv => whnf) | ((with_reducible refine caseB_not (fun h => ?_) (fun h => ?_)) <;> conv => whnf) | (with_reducible refine @And.intro (guardVC _ _ _ _ _) _ ?_ ?_) <;> conv => whnf | (refine caseB_intro (fun h => ?_) (fun h => ?_) <;> (try simp only [Bool.not_eq_true', Bool.not_eq_false', decide_eq_true_eq, decide_eq_false_iff_not] at h) <;> conv => whnf))
    · have hie : i = s.size := by have h : (i : Int) = s.size := h; omega
      intro g2 hg2
      refine app (s.extract a i) hg2 fun o' A' c' M' N' => ?_
      conv => whnf
      refine ⟨(i + 1, i + 1, o', A', c', us ++ [s.extract a i]), ⟨by simp [slots, leT, hw], ⟨[], rfl⟩, Nat.zero_le _, rfl, rfl⟩, ⟨by show i + 1 ≤ s.size + 1; omega, by show (us ++ [_]).length ≤ i + 1; simp; omega, N', fun h => absurd (show i + 1 ≤ s.size from h) (by omega), fun _ => ?_⟩, by show s.size + 1 - (i + 1) < s.size + 1 - i; omega⟩
      show us ++ [s.extract a i] = splB s x
      rw [← he, splB_end (fun j h1 h2 => hno j h1 (by omega)), hie]
    · have hil : i < s.size := by have h9 : ¬ (i : Int) = s.size := by assumption
                                  omega
      have hx : bt s i = x.toNat := h
      intro g2 hg2
      refine app (s.extract a i) hg2 fun o' A' c' M' N' => ?_
      conv => whnf
      refine ⟨(i + 1, i + 1, o', A', c', us ++ [s.extract a i]), ⟨by simp [slots, leT, hw], ⟨[], rfl⟩, Nat.zero_le _, rfl, rfl⟩, ⟨by show i + 1 ≤ s.size + 1; omega, by show (us ++ [_]).length ≤ i + 1; simp; omega, N', fun h => ⟨Nat.le_refl _, ?_, fun j h1 h2 => absurd (show i + 1 ≤ j from h1) (by have h2 : j < i + 1 := h2; omega)⟩, fun h => absurd (show i + 1 = s.size + 1 from h) (by omega)⟩, by show s.size + 1 - (i + 1) < s.size + 1 - i; omega⟩
      show (us ++ [s.extract a i]) ++ splB (s.extract (i + 1) s.size) x = splB s x
      rw [← he, splB_at ha hil hx hno]
      simp
    · have hil : i < s.size := by have h9 : ¬ (i : Int) = s.size := by assumption
                                  omega
      have hx : ¬ bt s i = x.toNat := h
      refine ⟨(i + 1, a, o, C, d, us), ⟨by simp [slots, leT, hw], ⟨[], rfl⟩, Nat.zero_le _, rfl, rfl⟩, ⟨by show i + 1 ≤ s.size + 1; omega, by show us.length ≤ i + 1; omega, N1, fun h => ⟨by show a ≤ i + 1; omega, he, fun j h1 h2 => ?_⟩, fun h => absurd (show i + 1 = s.size + 1 from h) (by omega)⟩, by show s.size + 1 - (i + 1) < s.size + 1 - i; omega⟩
      have h2 : j < i + 1 := h2
      by_cases e : j = i
      · rw [e]; exact hx
      · exact hno j h1 (by omega)
  · have hie : i = s.size + 1 := by have hb : ¬ (i : Int) ≤ s.size := hb; omega
    conv => whnf
    have := h2 hie
    subst this
    exact ⟨_, PH.Le.refl _, o, C, d, rfl, N1⟩
end Go.Proofs.YtdgipmlkkmmliaaGreatDoor
