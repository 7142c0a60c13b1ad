/-
  THE ITEMS of a text.
-/
import Derived.Test.YtdgipmlkkmmliaaGreatDoorIc
import Derived.Test.YtdgipmlkkmmliaaGreatDoorSs
namespace Go.Proofs.YtdgipmlkkmmliaaGreatDoor
set_option maxRecDepth 100000
set_option linter.unusedSimpArgs false
set_option linter.unusedVariables false
open Go.Xe
theorem pcs_bd : ∀ (n : Nat) (t : ByteArray) (i a : Nat) (ins : Bool), t.size - i ≤ n → (∀ q ∈ pcs t i a ins, q.size ≤ t.size) ∧ (pcs t i a ins).length ≤ n + 1
  | n, t, i, a, ins, h => by
    by_cases hi : i < t.size
    · rw [pcs_lt hi]
      obtain ⟨n, rfl⟩ : ∃ m, n = m + 1 := ⟨n - 1, by omega⟩
      split
      · have := pcs_bd n t (i + 1) a (!ins) (by omega)
        exact ⟨this.1, by omega⟩
      · split
        · have := pcs_bd n t (i + 2) a ins (by omega)
          exact ⟨this.1, by omega⟩
        · split
          · have := pcs_bd n t (i + 1) (i + 1) ins (by omega)
            refine ⟨fun q hq => ?_, by simp only [List.length_cons]; omega⟩
            rcases List.mem_cons.1 hq with h1 | h1
            · rw [h1, ByteArray.size_extract]; omega
            · exact this.1 q h1
          · have := pcs_bd n t (i + 1) a ins (by omega)
            exact ⟨this.1, by omega⟩
    · rw [pcs_ge hi]
      refine ⟨fun q hq => ?_, by simp⟩
      have : q = t.extract a t.size := by simpa using hq
      rw [this, ByteArray.size_extract]
      omega
def itsG : List ByteArray → Option (List It)
  | [] => some []
  | p :: r => if seq (trimB p) ⟨#[]⟩ = true then itsG r else match itemF (trimB p) with | none => none | some x => (itsG r).map (x :: ·)
def stepG (xs : List It) (p : ByteArray) : Option (List It) := if seq (trimB p) ⟨#[]⟩ = true then some xs else (itemF (trimB p)).map fun x => xs ++ [x]
theorem itsG_snoc : ∀ (l : List ByteArray) (p : ByteArray), itsG (l ++ [p]) = (itsG l).bind fun xs => stepG xs p
  | [], p => by
    show itsG [p] = stepG [] p
    unfold itsG stepG
    split
    · rfl
    · cases itemF (trimB p) <;> rfl
  | q :: l, p => by
    rw [List.cons_append, itsG, itsG]
    split
    · exact itsG_snoc l p
    · cases itemF (trimB q) with
      | none => rfl
      | some x =>
        show (itsG (l ++ [p])).map _ = ((itsG l).map _).bind _
        rw [itsG_snoc l p]
        cases itsG l with
        | none => rfl
        | some xs =>
          show (stepG xs p).map _ = stepG (x :: xs) p
          unfold stepG
          split
          · rfl
          · cases itemF (trimB p) <;> rfl
theorem itsG_none {l : List ByteArray} (r : List ByteArray) (h : itsG l = none) : itsG (l ++ r) = none := by
  induction r generalizing l with
  | nil => rw [List.append_nil]; exact h
  | cons p r ih =>
    rw [show l ++ p :: r = (l ++ [p]) ++ r by simp]
    exact ih (by rw [itsG_snoc, h]; rfl)
def parL (t : ByteArray) : Option (List It) := itsG (pcs t 0 0 false)
def parC (t : ByteArray) : Int := if 1000 < (t.size : Int) then 2 else match parL t with | none => 5 | some xs => if 20 < (xs.length : Int) then 2 else 0
def parR (t : ByteArray) : List It := if parC t = 0 then (parL t).getD [] else []
theorem it_fits (n m : Nat) (h : n + m ≤ 4194304) : (n + m) * ti97.bytes ≤ 140737488355328 := by
  unfold ti97
  show (n + m) * 40 ≤ _
  omega
theorem dropW_le {α : Type} (f : α → Bool) : ∀ l : List α, (l.dropWhile f).length ≤ l.length
  | [] => Nat.le_refl _
  | x :: r => by
    rw [List.dropWhile_cons]
    split
    · exact Nat.le_trans (dropW_le f r) (Nat.le_succ _)
    · exact Nat.le_refl _
theorem trimB_le (p : ByteArray) : (trimB p).size ≤ p.size := by
  rw [size_list, size_list]
  show (Lib.trimLeftS (Lib.trimRightS p.data.toList [32, 9]) [32, 9]).length ≤ _
  refine Nat.le_trans (dropW_le _ _) ?_
  unfold Lib.trimRightS
  rw [List.length_reverse]
  exact Nat.le_trans (dropW_le _ _) (by rw [List.length_reverse]; exact Nat.le_refl _)
abbrev EI9 := Nat × Option Nat × Option Addr × Nat × List It
abbrev prW (k : Int) (A : Option Addr) (n c : Nat) : Value := .tuple #[.slice A n c, I k]
set_option maxHeartbeats 8000000 in
theorem parseItems_ret (t : ByteArray) (M : PH) (ht : t.size ≤ 1000) :
    ACall env 58 [Tx t] M fun r M' => ∃ o A c, r = nrW (parC t) A (parR t).length c ∧ New M M' o A c 3 It.cs (parR t) := by
  have hbd := pcs_bd 1000 t 0 0 false (by omega)
  have e0 : parL t = itsG (pcs t 0 0 false) := rfl
  have bad : ∀ (k : Int) (M' : PH), parC t = k → k ≠ 0 → M.Le M' → ∃ o A c, nrW k none 0 0 = nrW (parC t) A (parR t).length c ∧ New M M' o A c 3 It.cs (parR t) := fun k M' h1 h2 l => by
    have e : parR t = [] := by unfold parR; rw [if_neg (by rw [h1]; exact h2)]
    rw [e, h1]
    exact ⟨none, none, 0, rfl, (New.nil M none).to l⟩
  have c5 : parL t = none → parC t = 5 := fun h => by unfold parC; rw [if_neg (by omega), h]
  have c2 : ∀ xs, parL t = some xs → (20 : Int) < xs.length → parC t = 2 := fun xs h h2 => by unfold parC; rw [if_neg (by omega), h]; exact if_pos h2
  have c0 : ∀ xs, parL t = some xs → ¬ (20 : Int) < xs.length → parC t = 0 ∧ parR t = xs := fun xs h h2 => by
    have e : parC t = 0 := by unfold parC; rw [if_neg (by omega), h]; exact if_neg h2
    exact ⟨e, by unfold parR; rw [if_pos e, h]; rfl⟩
  have hsz : t.size ≤ 1048576 := by omega
  refine xcall_of_vc Tryz.func58 rfl _ Tryz.ntmps58 _ rfl (fun _ _ => Tryz.call58 _ _) rfl (fun w0 ρ0 => ?_)
  conv => whnf
  repeat' (first | (refine ⟨⟨[], rfl⟩, _, PH.Le.refl _, PH.Le.refl _, ?_⟩; conv => whnf) | (refine caseB_true ?_; conv => whnf) | (refine caseB_false ?_; conv => whnf) | ((with_reducible refine caseB_dec (fun h => ?_) (fun h => ?_)) <;> conv => whnf) | ((with_reducible refine caseB_ndec (fun h => ?_) (fun h => ?_)) <;> conv => whnf) | ((with_reducible refine caseB_not (fun h => ?_) (fun h => ?_)) <;> conv => whnf) | (with_reducible refine @And.intro (guardVC _ _ _ _ _) _ ?_ ?_) <;> conv => whnf | (refine caseB_intro (fun h => ?_) (fun h => ?_) <;> (try simp only [Bool.not_eq_true', Bool.not_eq_false', decide_eq_true_eq, decide_eq_false_iff_not] at h) <;> conv => whnf))
  all_goals try (exfalso; omega)
  intro g1 hg1
  conv => whnf
  refine ACall.step (pieces_ret t _ hsz) fun r M1 hh => ?_
  obtain ⟨o1, A1, c1, rfl, N1⟩ := hh
  rw [e0] at c5 c2 c0
  have S1 := N1.ow.sl st_len
  have l1 := (PH.Le.set _ hg1).trans N1.le
  clear N1 e0
  generalize pcs t 0 0 false = ps at *
  obtain ⟨hb1, hb2⟩ := hbd
  conv => whnf
  refine loop_rule (fun z : EI9 => ⟨slots 43 [(0, .v (Tx t)), (2, .bp 0 0),(3, .v (.slice z.2.2.1 z.2.2.2.2.length z.2.2.2.1)), (14, .v (.slice A1 ps.length c1)), (15, .v (I ps.length)),(16, .v (I z.1))], [⟨93, [.v (I 0), .v (.slice none 0 0)]⟩]⟩)
    (fun z M' => z.1 ≤ ps.length ∧ z.2.2.2.2.length ≤ z.1 ∧ New M1 M' z.2.1 z.2.2.1 z.2.2.2.1 3 It.cs z.2.2.2.2 ∧ itsG (ps.take z.1) = some z.2.2.2.2) (fun z => ps.length - z.1) (0, none, some ⟨g1, 0, none⟩, 0, []) ?_ ?_ ?_
  · exact ⟨by simp [slots, leT], ⟨[], rfl⟩, by simp, rfl, rfl⟩
  · exact ⟨Nat.zero_le _, Nat.zero_le _, New.nil M1 _, rfl⟩
  rintro ⟨i, o, C, d, xs⟩ M2 ⟨hi, hx, N2, he⟩
  have hi : i ≤ ps.length := hi
  have hx : xs.length ≤ i := hx
  have N2 : New M1 M2 o C d 3 It.cs xs := N2
  have he : itsG (ps.take i) = some xs := he
  conv => whnf
  refine caseB_dec (fun hb => ?_) (fun hb => ?_)
  · have hb : (i : Int) < ps.length := hb
    have hi' : i < ps.length := by omega
    have hw : IntKind.i64.wrap ((i : Int) + 1) = (i : Int) + 1 := wr_id (by omega) (by omega)
    obtain ⟨hA, _, hc⟩ := (S1.mono N2.le).get hi'
    have htk : itsG (ps.take (i + 1)) = stepG xs ps[i] := by rw [List.take_succ_eq_append_getElem hi', itsG_snoc, he]; rfl
    have hall : itsG (ps.take (i + 1)) = none → itsG ps = none := fun h => by
      have := itsG_none (ps.drop (i + 1)) h
      rwa [List.take_append_drop] at this
    have hpsz := hb1 _ (List.getElem_mem hi')
    generalize ps[i] = p at *
    have htr := trimB_le p
    have hit := itemOf_ret (trimB p) M2 (by omega)
    conv => whnf
    refine ⟨by omega, hb, hA, ?_⟩
    conv => whnf
    refine ⟨_, hc, ?_⟩
    conv => whnf
    refine Ret.go (trim_ret p _ (by unfold maxLen; omega)) ?_
    conv => whnf
    refine caseB_intro (fun h => ?_) (fun h => ?_)
    · have hs : stepG xs p = some xs := if_pos h
      conv => whnf
      exact ⟨(i + 1, o, C, d, xs), ⟨by simp [slots, leT, hw], ⟨[], rfl⟩, by simp, rfl, rfl⟩, ⟨hi', by show xs.length ≤ i + 1; omega, N2, htk.trans hs⟩, by show _ - (i + 1) < _ - i; omega⟩
    · have hs : stepG xs p = (itemF (trimB p)).map fun x => xs ++ [x] := if_neg (by rw [h]; decide)
      conv => whnf
      refine ACall.step hit fun r M3 hh => ?_
      obtain ⟨x, rfl, hx3, l3⟩ := hh
      conv => whnf
      cases hq : itemF (trimB p) with
      | none =>
        have hn : itsG ps = none := hall (by rw [htk, hs, hq]; rfl)
        repeat' (first | (refine ⟨⟨[], rfl⟩, _, PH.Le.refl _, PH.Le.refl _, ?_⟩; conv => whnf) | (refine caseB_true ?_; conv => whnf) | (refine caseB_false ?_; conv => whnf) | ((with_reducible refine caseB_dec (fun h => ?_) (fun h => ?_)) <;> conv => whnf) | ((with_reducible refine caseB_ndec (fun h => ?_) (fun h => ?_)) <;> conv => whnf) | ((with_reducible refine caseB_not (fun h => ?_) (fun h => ?_)) <;> conv => whnf) | (with_reducible refine @And.intro (guardVC _ _ _ _ _) _ ?_ ?_) <;> conv => whnf | (refine caseB_intro (fun h => ?_) (fun h => ?_) <;> (try simp only [Bool.not_eq_true', Bool.not_eq_false', decide_eq_true_eq, decide_eq_false_iff_not] at h) <;> conv => whnf))
        exact ⟨_, PH.Le.refl _, bad 5 _ (c5 hn) (by decide) ((l1.trans N2.le).trans l3)⟩
      | some y =>
        have hy := hx3 y hq
        subst hy
        have hs2 : stepG xs p = some (xs ++ [x]) := by rw [hs, hq]; rfl
        repeat' (first | (refine ⟨⟨[], rfl⟩, _, PH.Le.refl _, PH.Le.refl _, ?_⟩; conv => whnf) | (refine caseB_true ?_; conv => whnf) | (refine caseB_false ?_; conv => whnf) | ((with_reducible refine caseB_dec (fun h => ?_) (fun h => ?_)) <;> conv => whnf) | ((with_reducible refine caseB_ndec (fun h => ?_) (fun h => ?_)) <;> conv => whnf) | ((with_reducible refine caseB_not (fun h => ?_) (fun h => ?_)) <;> conv => whnf) | (with_reducible refine @And.intro (guardVC _ _ _ _ _) _ ?_ ?_) <;> conv => whnf | (refine caseB_intro (fun h => ?_) (fun h => ?_) <;> (try simp only [Bool.not_eq_true', Bool.not_eq_false', decide_eq_true_eq, decide_eq_false_iff_not] at h) <;> conv => whnf))
        intro g3 hg3
        conv => whnf
        refine app_sl (te := ti97) (f := It.cs) (xs := xs) (ys := [x]) (o := o) (sl_full It.len M3 g3 [x] _ _) ((N2.ow.mono l3).mono (PH.Le.set _ hg3)) It.len It.one rfl (it_fits _ _ (by show _ + 1 ≤ _; omega)) (by show _ + 1 ≤ _; omega) fun o' A' c' M' hO hK hF => ?_
        conv => whnf
        have N3 := (N2.to l3).more (PH.Le.set _ hg3) hK hO hF
        exact ⟨(i + 1, o', A', c', xs ++ [x]), ⟨by simp [slots, leT, hw], ⟨_, rfl⟩, by simp, rfl, rfl⟩, ⟨hi', by show (xs ++ [_]).length ≤ i + 1; simp; omega, N3, htk.trans hs2⟩, by show _ - (i + 1) < _ - i; omega⟩
  · have hiK : i = ps.length := by have hb : ¬ (i : Int) < ps.length := hb; omega
    subst hiK
    rw [List.take_length] at he
    have lM := l1.trans N2.le
    conv => whnf
    repeat' (first | (refine ⟨⟨[], rfl⟩, _, PH.Le.refl _, PH.Le.refl _, ?_⟩; conv => whnf) | (refine caseB_true ?_; conv => whnf) | (refine caseB_false ?_; conv => whnf) | ((with_reducible refine caseB_dec (fun h => ?_) (fun h => ?_)) <;> conv => whnf) | ((with_reducible refine caseB_ndec (fun h => ?_) (fun h => ?_)) <;> conv => whnf) | ((with_reducible refine caseB_not (fun h => ?_) (fun h => ?_)) <;> conv => whnf) | (with_reducible refine @And.intro (guardVC _ _ _ _ _) _ ?_ ?_) <;> conv => whnf | (refine caseB_intro (fun h => ?_) (fun h => ?_) <;> (try simp only [Bool.not_eq_true', Bool.not_eq_false', decide_eq_true_eq, decide_eq_false_iff_not] at h) <;> conv => whnf))
    · exact ⟨_, PH.Le.refl _, bad 2 _ (c2 xs he h) (by decide) lM⟩
    · obtain ⟨h1, h2⟩ := c0 xs he h
      refine ⟨_, PH.Le.refl _, o, C, d, by rw [h1, h2]; rfl, by rw [h2]; exact N2.from l1⟩

set_option maxHeartbeats 8000000 in
theorem l2Parse_ret (t : ByteArray) (M : PH) (ht : t.size ≤ 1000) :
    ACall env 150 [Tx t] M fun r M' => ∃ o A c, r = prW (parC t) A (parR t).length c ∧ New M M' o A c 3 It.cs (parR t) := by
  have hbd := pcs_bd 1000 t 0 0 false (by omega)
  have e0 : parL t = itsG (pcs t 0 0 false) := rfl
  have bad : ∀ (k : Int) (M' : PH), parC t = k → k ≠ 0 → M.Le M' → ∃ o A c, prW k none 0 0 = prW (parC t) A (parR t).length c ∧ New M M' o A c 3 It.cs (parR t) := fun k M' h1 h2 l => by
    have e : parR t = [] := by unfold parR; rw [if_neg (by rw [h1]; exact h2)]
    rw [e, h1]
    exact ⟨none, none, 0, rfl, (New.nil M none).to l⟩
  have c5 : parL t = none → parC t = 5 := fun h => by unfold parC; rw [if_neg (by omega), h]
  have c2 : ∀ xs, parL t = some xs → (20 : Int) < xs.length → parC t = 2 := fun xs h h2 => by unfold parC; rw [if_neg (by omega), h]; exact if_pos h2
  have c0 : ∀ xs, parL t = some xs → ¬ (20 : Int) < xs.length → parC t = 0 ∧ parR t = xs := fun xs h h2 => by
    have e : parC t = 0 := by unfold parC; rw [if_neg (by omega), h]; exact if_neg h2
    exact ⟨e, by unfold parR; rw [if_pos e, h]; rfl⟩
  have hsz : t.size ≤ 1048576 := by omega
  refine xcall_of_vc Tryz.func150 rfl _ Tryz.ntmps150 _ rfl (fun _ _ => Tryz.call150 _ _) rfl (fun w0 ρ0 => ?_)
  conv => whnf
  repeat' (first | (refine ⟨⟨[], rfl⟩, _, PH.Le.refl _, PH.Le.refl _, ?_⟩; conv => whnf) | (refine caseB_true ?_; conv => whnf) | (refine caseB_false ?_; conv => whnf) | ((with_reducible refine caseB_dec (fun h => ?_) (fun h => ?_)) <;> conv => whnf) | ((with_reducible refine caseB_ndec (fun h => ?_) (fun h => ?_)) <;> conv => whnf) | ((with_reducible refine caseB_not (fun h => ?_) (fun h => ?_)) <;> conv => whnf) | (with_reducible refine @And.intro (guardVC _ _ _ _ _) _ ?_ ?_) <;> conv => whnf | (refine caseB_intro (fun h => ?_) (fun h => ?_) <;> (try simp only [Bool.not_eq_true', Bool.not_eq_false', decide_eq_true_eq, decide_eq_false_iff_not] at h) <;> conv => whnf))
  all_goals try (exfalso; omega)
  intro g1 hg1
  conv => whnf
  refine ACall.step (l2Pieces_ret t _ hsz) fun r M1 hh => ?_
  obtain ⟨o1, A1, c1, rfl, N1⟩ := hh
  rw [e0] at c5 c2 c0
  have S1 := N1.ow.sl st_len
  have l1 := (PH.Le.set _ hg1).trans N1.le
  clear N1 e0
  generalize pcs t 0 0 false = ps at *
  obtain ⟨hb1, hb2⟩ := hbd
  conv => whnf
  refine loop_rule (fun z : EI9 => ⟨slots 41 [(0, .v (Tx t)), (2, .v (.slice none 0 0)), (3, .v (I 0)),(4, .v (.slice z.2.2.1 z.2.2.2.2.length z.2.2.2.1)), (5, .v (.slice A1 ps.length c1)),(6, .v (I z.1))], []⟩)
    (fun z M' => z.1 ≤ ps.length ∧ z.2.2.2.2.length ≤ z.1 ∧ New M1 M' z.2.1 z.2.2.1 z.2.2.2.1 3 It.cs z.2.2.2.2 ∧ itsG (ps.take z.1) = some z.2.2.2.2) (fun z => ps.length - z.1) (0, none, some ⟨g1, 0, none⟩, 0, []) ?_ ?_ ?_
  · exact ⟨by simp [slots, leT], ⟨[], rfl⟩, by simp, rfl, rfl⟩
  · exact ⟨Nat.zero_le _, Nat.zero_le _, New.nil M1 _, rfl⟩
  rintro ⟨i, o, C, d, xs⟩ M2 ⟨hi, hx, N2, he⟩
  have hi : i ≤ ps.length := hi
  have hx : xs.length ≤ i := hx
  have N2 : New M1 M2 o C d 3 It.cs xs := N2
  have he : itsG (ps.take i) = some xs := he
  conv => whnf
  refine caseB_dec (fun hb => ?_) (fun hb => ?_)
  · have hb : (i : Int) < ps.length := hb
    have hi' : i < ps.length := by omega
    have hw : IntKind.i64.wrap ((i : Int) + 1) = (i : Int) + 1 := wr_id (by omega) (by omega)
    obtain ⟨hA, _, hc⟩ := (S1.mono N2.le).get hi'
    have htk : itsG (ps.take (i + 1)) = stepG xs ps[i] := by rw [List.take_succ_eq_append_getElem hi', itsG_snoc, he]; rfl
    have hall : itsG (ps.take (i + 1)) = none → itsG ps = none := fun h => by
      have := itsG_none (ps.drop (i + 1)) h
      rwa [List.take_append_drop] at this
    have hpsz := hb1 _ (List.getElem_mem hi')
    generalize ps[i] = p at *
    have htr := trimB_le p
    have hit := l2Item_ret (trimB p) M2 (by omega)
    conv => whnf
    refine ⟨by omega, hb, hA, ?_⟩
    conv => whnf
    refine ⟨_, hc, ?_⟩
    conv => whnf
    refine Ret.go (l1Trim_ret p _ (by unfold maxLen; omega)) ?_
    conv => whnf
    refine caseB_intro (fun h => ?_) (fun h => ?_)
    · have hs : stepG xs p = some xs := if_pos h
      conv => whnf
      exact ⟨(i + 1, o, C, d, xs), ⟨by simp [slots, leT, hw], ⟨[], rfl⟩, by simp, rfl, rfl⟩, ⟨hi', by show xs.length ≤ i + 1; omega, N2, htk.trans hs⟩, by show _ - (i + 1) < _ - i; omega⟩
    · have hs : stepG xs p = (itemF (trimB p)).map fun x => xs ++ [x] := if_neg (by rw [h]; decide)
      conv => whnf
      refine ACall.step hit fun r M3 hh => ?_
      obtain ⟨x, rfl, hx3, l3⟩ := hh
      conv => whnf
      cases hq : itemF (trimB p) with
      | none =>
        have hn : itsG ps = none := hall (by rw [htk, hs, hq]; rfl)
        repeat' (first | (refine ⟨⟨[], rfl⟩, _, PH.Le.refl _, PH.Le.refl _, ?_⟩; conv => whnf) | (refine caseB_true ?_; conv => whnf) | (refine caseB_false ?_; conv => whnf) | ((with_reducible refine caseB_dec (fun h => ?_) (fun h => ?_)) <;> conv => whnf) | ((with_reducible refine caseB_ndec (fun h => ?_) (fun h => ?_)) <;> conv => whnf) | ((with_reducible refine caseB_not (fun h => ?_) (fun h => ?_)) <;> conv => whnf) | (with_reducible refine @And.intro (guardVC _ _ _ _ _) _ ?_ ?_) <;> conv => whnf | (refine caseB_intro (fun h => ?_) (fun h => ?_) <;> (try simp only [Bool.not_eq_true', Bool.not_eq_false', decide_eq_true_eq, decide_eq_false_iff_not] at h) <;> conv => whnf))
        exact ⟨_, PH.Le.refl _, bad 5 _ (c5 hn) (by decide) ((l1.trans N2.le).trans l3)⟩
      | some y =>
        have hy := hx3 y hq
        subst hy
        have hs2 : stepG xs p = some (xs ++ [x]) := by rw [hs, hq]; rfl
        repeat' (first | (refine ⟨⟨[], rfl⟩, _, PH.Le.refl _, PH.Le.refl _, ?_⟩; conv => whnf) | (refine caseB_true ?_; conv => whnf) | (refine caseB_false ?_; conv => whnf) | ((with_reducible refine caseB_dec (fun h => ?_) (fun h => ?_)) <;> conv => whnf) | ((with_reducible refine caseB_ndec (fun h => ?_) (fun h => ?_)) <;> conv => whnf) | ((with_reducible refine caseB_not (fun h => ?_) (fun h => ?_)) <;> conv => whnf) | (with_reducible refine @And.intro (guardVC _ _ _ _ _) _ ?_ ?_) <;> conv => whnf | (refine caseB_intro (fun h => ?_) (fun h => ?_) <;> (try simp only [Bool.not_eq_true', Bool.not_eq_false', decide_eq_true_eq, decide_eq_false_iff_not] at h) <;> conv => whnf))
        intro g3 hg3
        conv => whnf
        refine app_sl (te := ti97) (f := It.cs) (xs := xs) (ys := [x]) (o := o) (sl_full It.len M3 g3 [x] _ _) ((N2.ow.mono l3).mono (PH.Le.set _ hg3)) It.len It.one rfl (it_fits _ _ (by show _ + 1 ≤ _; omega)) (by show _ + 1 ≤ _; omega) fun o' A' c' M' hO hK hF => ?_
        conv => whnf
        have N3 := (N2.to l3).more (PH.Le.set _ hg3) hK hO hF
        exact ⟨(i + 1, o', A', c', xs ++ [x]), ⟨by simp [slots, leT, hw], ⟨_, rfl⟩, by simp, rfl, rfl⟩, ⟨hi', by show (xs ++ [_]).length ≤ i + 1; simp; omega, N3, htk.trans hs2⟩, by show _ - (i + 1) < _ - i; omega⟩
  · have hiK : i = ps.length := by have hb : ¬ (i : Int) < ps.length := hb; omega
    subst hiK
    rw [List.take_length] at he
    have lM := l1.trans N2.le
    conv => whnf
    repeat' (first | (refine ⟨⟨[], rfl⟩, _, PH.Le.refl _, PH.Le.refl _, ?_⟩; conv => whnf) | (refine caseB_true ?_; conv => whnf) | (refine caseB_false ?_; conv => whnf) | ((with_reducible refine caseB_dec (fun h => ?_) (fun h => ?_)) <;> conv => whnf) | ((with_reducible refine caseB_ndec (fun h => ?_) (fun h => ?_)) <;> conv => whnf) | ((with_reducible refine caseB_not (fun h => ?_) (fun h => ?_)) <;> conv => whnf) | (with_reducible refine @And.intro (guardVC _ _ _ _ _) _ ?_ ?_) <;> conv => whnf | (refine caseB_intro (fun h => ?_) (fun h => ?_) <;> (try simp only [Bool.not_eq_true', Bool.not_eq_false', decide_eq_true_eq, decide_eq_false_iff_not] at h) <;> conv => whnf))
    · exact ⟨_, PH.Le.refl _, bad 2 _ (c2 xs he h) (by decide) lM⟩
    · obtain ⟨h1, h2⟩ := c0 xs he h
      refine ⟨_, PH.Le.refl _, o, C, d, by rw [h1, h2]; rfl, by rw [h2]; exact N2.from l1⟩

end Go.Proofs.YtdgipmlkkmmliaaGreatDoor
