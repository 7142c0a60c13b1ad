/-
  A LIST'S TEXT cut at the commas that do not stand between quotes.
-/
import Derived.Test.YtdgipmlkkmmliaaGreatDoorSr
namespace Go.Proofs.YtdgipmlkkmmliaaGreatDoor
set_option maxRecDepth 100000
set_option linter.unusedSimpArgs false
set_option linter.unusedVariables false
open Go.Xe
def pcs (t : ByteArray) (i a : Nat) (ins : Bool) : List ByteArray :=
  if h : i < t.size then
    if bt t i = 34 then pcs t (i + 1) a (!ins)
    else if bt t i = 92 ∧ ins = true then pcs t (i + 2) a ins
    else if bt t i = 44 ∧ ins = false then t.extract a i :: pcs t (i + 1) (i + 1) ins
    else pcs t (i + 1) a ins
  else [t.extract a t.size]
termination_by t.size - i
theorem pcs_ge {t : ByteArray} {i a : Nat} {ins : Bool} (h : ¬ i < t.size) : pcs t i a ins = [t.extract a t.size] := by rw [pcs, dif_neg h]
theorem pcs_lt {t : ByteArray} {i a : Nat} {ins : Bool} (h : i < t.size) : pcs t i a ins = if bt t i = 34 then pcs t (i + 1) a (!ins) else if bt t i = 92 ∧ ins = true then pcs t (i + 2) a ins else if bt t i = 44 ∧ ins = false then t.extract a i :: pcs t (i + 1) (i + 1) ins else pcs t (i + 1) a ins := by rw [pcs, dif_pos h]
abbrev EP9 := Nat × Nat × Bool × Option Nat × Option Addr × Nat × List ByteArray
set_option maxHeartbeats 4000000 in
theorem pieces_ret (t : ByteArray) (M : PH) (ht : t.size ≤ 1048576) :
    ACall env 99 [Tx t] M fun r M' => ∃ o A c, r = .slice A (pcs t 0 0 false).length c ∧ New M M' o A c 1 stC (pcs t 0 0 false) := by
  refine xcall_of_vc Tryz.func99 rfl _ Tryz.ntmps99 _ rfl (fun _ _ => Tryz.call99 _ _) rfl (fun w0 ρ0 => ?_)
  conv => whnf
  intro g1 hg1
  conv => whnf
  refine loop_rule (fun z : EP9 => ⟨slots 53 [(0, .v (Tx t)), (2, .v (.slice none 0 0)), (3, .v (.slice z.2.2.2.2.1 z.2.2.2.2.2.2.length z.2.2.2.2.2.1)), (4, .v (I z.2.1)), (5, .v (B z.2.2.1)), (6, .v (I z.1))], []⟩)
    (fun z M' => z.1 ≤ t.size + 1 ∧ z.2.1 ≤ z.1 ∧ z.2.1 ≤ t.size ∧ z.2.2.2.2.2.2.length ≤ z.1 ∧ New M M' z.2.2.2.1 z.2.2.2.2.1 z.2.2.2.2.2.1 1 stC z.2.2.2.2.2.2 ∧ z.2.2.2.2.2.2 ++ pcs t z.1 z.2.1 z.2.2.1 = pcs t 0 0 false) (fun z => t.size + 1 - z.1) (0, 0, false, none, some ⟨g1, 0, none⟩, 0, []) ?_ ?_ ?_
  · exact ⟨by simp [slots, leT], ⟨[], rfl⟩, Nat.zero_le _, rfl, rfl⟩
  · exact ⟨Nat.zero_le _, Nat.zero_le _, Nat.zero_le _, Nat.zero_le _, (New.nil M _).to (PH.Le.set _ hg1), rfl⟩
  rintro ⟨i, a, ins, o, C, d, us⟩ M1 ⟨hi, ha, ha2, hu, N1, he⟩
  have hi : i ≤ t.size + 1 := hi
  have ha : a ≤ i := ha
  have ha2 : a ≤ t.size := ha2
  have hu : us.length ≤ i := hu
  have N1 : New M M1 o C d 1 stC us := N1
  have he : us ++ pcs t i a ins = pcs t 0 0 false := he
  have app : ∀ {K : AV → PH → Prop} {e : TypeId} {g2 : Nat} {ty : TypeId} (y : ByteArray), M1 g2 = none → (∀ o' A' c' M', New M M' o' A' c' 1 stC (us ++ [y]) → K (.v (.slice A' (us ++ [y]).length c')) M') →
      ∃ news : List Value, news.length = 1 * ti9.size ∧ ((1 : Nat) = 0 ∨ (M1.set g2 (.cells #[Tx y] ty (0, 0))).cells (some ⟨g2, 0, none⟩) 0 news) ∧ appVC ti9 e C us.length d 1 news (M1.set g2 (.cells #[Tx y] ty (0, 0))) K := fun {K e g2 ty} y hg2 hk =>
    app_sl (te := ti9) (f := stC) (xs := us) (ys := [y]) (o := o) (sl_full st_len M1 g2 [y] ty (0, 0)) (N1.ow.mono (PH.Le.set _ hg2)) st_len st_one rfl (st_fits _ _ (by show _ + 1 ≤ _; omega)) (by show _ + 1 ≤ _; omega) fun o' A' c' M' hO hK hF => hk o' A' c' M' (N1.more (PH.Le.set _ hg2) hK hO hF)
  conv => whnf
  refine caseB_dec (fun hb => ?_) (fun hb => ?_)
  · have hb : (i : Int) < t.size := hb
    have hil : i < t.size := by omega
    have hw : IntKind.i64.wrap ((i : Int) + 1) = (i : Int) + 1 := wr_id (by omega) (by omega)
    have hw2 : IntKind.i64.wrap ((i : Int) + 1 + 1) = (i : Int) + 2 := by rw [wrap_id (by omega) (by omega)]; omega
    have step := pcs_lt (a := a) (ins := ins) hil
    cases ins <;> (conv => whnf)
    all_goals (repeat' (first | (refine ⟨⟨[], rfl⟩, _, PH.Le.refl _, PH.Le.refl _, ?_⟩; conv => whnf) | (refine ⟨⟨by omega, by omega, by omega⟩, ?_⟩; conv => whnf) | (refine ⟨by omega, by omega, ?_⟩; conv => whnf) | (refine caseB_true ?_; conv => whnf) | (refine caseB_false ?_; conv => whnf) | ((with_reducible refine caseB_dec (fun h => ?_) (fun h => ?_)) <;> conv => whnf) | ((with_reducible refine caseB_ndec (fun h => ?_) (fun h => ?_)) <;> conv => whnf) | ((with_reducible refine caseB_not (fun h => ?_) (fun h => ?_)) <;> conv => whnf) | (with_reducible refine @And.intro (guardVC _ _ _ _ _) _ ?_ ?_) <;> conv => whnf | (refine caseB_intro (fun h => ?_) (fun h => ?_) <;> (try simp only [Bool.not_eq_true', Bool.not_eq_false', decide_eq_true_eq, decide_eq_false_iff_not] at h) <;> conv => whnf)))
    all_goals first
      | (have h34 : bt t i = 34 := by assumption
         rw [step, if_pos h34] at he
         have he : us ++ pcs t (i + 1) a true = pcs t 0 0 false := he
         exact ⟨(i + 1, a, true, o, C, d, us), ⟨by simp [slots, leT, hw], ⟨[], rfl⟩, Nat.zero_le _, rfl, rfl⟩, ⟨by show i + 1 ≤ t.size + 1; omega, by show a ≤ i + 1; omega, by show a ≤ t.size; omega, by show (us).length ≤ i + 1; first | omega | (simp; omega), N1, he⟩, by show t.size + 1 - (i + 1) < t.size + 1 - i; omega⟩)
      | (have h34 : bt t i = 34 := by assumption
         rw [step, if_pos h34] at he
         have he : us ++ pcs t (i + 1) a false = pcs t 0 0 false := he
         exact ⟨(i + 1, a, false, o, C, d, us), ⟨by simp [slots, leT, hw], ⟨[], rfl⟩, Nat.zero_le _, rfl, rfl⟩, ⟨by show i + 1 ≤ t.size + 1; omega, by show a ≤ i + 1; omega, by show a ≤ t.size; omega, by show (us).length ≤ i + 1; first | omega | (simp; omega), N1, he⟩, by show t.size + 1 - (i + 1) < t.size + 1 - i; omega⟩)
      | (have h92 : bt t i = 92 := by assumption
         have n34 : ¬ bt t i = 34 := by omega
         rw [step, if_neg n34, if_pos ⟨h92, rfl⟩] at he
         exact ⟨(i + 2, a, _, o, C, d, us), ⟨by simp [slots, leT, hw, hw2], ⟨[], rfl⟩, Nat.zero_le _, rfl, rfl⟩, ⟨by show i + 2 ≤ t.size + 1; omega, by show a ≤ i + 2; omega, by show a ≤ t.size; omega, by show (us).length ≤ i + 2; first | omega | (simp; omega), N1, he⟩, by show t.size + 1 - (i + 2) < t.size + 1 - i; omega⟩)
      | (have n34 : ¬ bt t i = 34 := by assumption
         have h44 : bt t i = 44 := by assumption
         rw [step, if_neg n34, if_neg (by rintro ⟨x, y⟩; cases y), if_pos ⟨h44, rfl⟩] at he
         intro g2 hg2
         refine app (t.extract a i) hg2 fun o' A' c' M' N' => ?_
         conv => whnf
         exact ⟨(i + 1, i + 1, false, o', A', c', us ++ [t.extract a i]), ⟨by simp [slots, leT, hw], ⟨[], rfl⟩, Nat.zero_le _, rfl, rfl⟩, ⟨by show i + 1 ≤ t.size + 1; omega, by show i + 1 ≤ i + 1; omega, by show i + 1 ≤ t.size; omega, by show (us ++ [t.extract a i]).length ≤ i + 1; first | omega | (simp; omega), N', by rw [← he]; simp⟩, by show t.size + 1 - (i + 1) < t.size + 1 - i; omega⟩)
      | (have n34 : ¬ bt t i = 34 := by assumption
         rw [step, if_neg n34, if_neg (by rintro ⟨x, y⟩; first | contradiction | cases y), if_neg (by rintro ⟨x, y⟩; first | contradiction | cases y)] at he
         exact ⟨(i + 1, a, _, o, C, d, us), ⟨by simp [slots, leT, hw], ⟨[], rfl⟩, Nat.zero_le _, rfl, rfl⟩, ⟨by show i + 1 ≤ t.size + 1; omega, by show a ≤ i + 1; omega, by show a ≤ t.size; omega, by show (us).length ≤ i + 1; first | omega | (simp; omega), N1, he⟩, by show t.size + 1 - (i + 1) < t.size + 1 - i; omega⟩)
      | fail
  · have hie : ¬ i < t.size := by have hb : ¬ (i : Int) < t.size := hb; omega
    rw [pcs_ge hie] at he
    conv => whnf
    refine ⟨⟨by omega, by omega⟩, ?_⟩
    conv => whnf
    intro g2 hg2
    refine app (t.extract a t.size) hg2 fun o' A' c' M' N' => ?_
    conv => whnf
    rw [he] at N' ⊢
    exact ⟨_, PH.Le.refl _, o', A', c', rfl, N'⟩

set_option maxHeartbeats 4000000 in
theorem l2Pieces_ret (t : ByteArray) (M : PH) (ht : t.size ≤ 1048576) :
    ACall env 171 [Tx t] M fun r M' => ∃ o A c, r = .slice A (pcs t 0 0 false).length c ∧ New M M' o A c 1 stC (pcs t 0 0 false) := by
  refine xcall_of_vc Tryz.func171 rfl _ Tryz.ntmps171 _ rfl (fun _ _ => Tryz.call171 _ _) rfl (fun w0 ρ0 => ?_)
  conv => whnf
  intro g1 hg1
  conv => whnf
  refine loop_rule (fun z : EP9 => ⟨slots 55 [(0, .v (Tx t)), (2, .v (.slice none 0 0)), (3, .v (.slice z.2.2.2.2.1 z.2.2.2.2.2.2.length z.2.2.2.2.2.1)), (4, .v (I z.2.1)), (5, .v (B z.2.2.1)), (6, .v (I z.1))], []⟩)
    (fun z M' => z.1 ≤ t.size + 1 ∧ z.2.1 ≤ z.1 ∧ z.2.1 ≤ t.size ∧ z.2.2.2.2.2.2.length ≤ z.1 ∧ New M M' z.2.2.2.1 z.2.2.2.2.1 z.2.2.2.2.2.1 1 stC z.2.2.2.2.2.2 ∧ z.2.2.2.2.2.2 ++ pcs t z.1 z.2.1 z.2.2.1 = pcs t 0 0 false) (fun z => t.size + 1 - z.1) (0, 0, false, none, some ⟨g1, 0, none⟩, 0, []) ?_ ?_ ?_
  · exact ⟨by simp [slots, leT], ⟨[], rfl⟩, Nat.zero_le _, rfl, rfl⟩
  · exact ⟨Nat.zero_le _, Nat.zero_le _, Nat.zero_le _, Nat.zero_le _, (New.nil M _).to (PH.Le.set _ hg1), rfl⟩
  rintro ⟨i, a, ins, o, C, d, us⟩ M1 ⟨hi, ha, ha2, hu, N1, he⟩
  have hi : i ≤ t.size + 1 := hi
  have ha : a ≤ i := ha
  have ha2 : a ≤ t.size := ha2
  have hu : us.length ≤ i := hu
  have N1 : New M M1 o C d 1 stC us := N1
  have he : us ++ pcs t i a ins = pcs t 0 0 false := he
  have app : ∀ {K : AV → PH → Prop} {e : TypeId} {g2 : Nat} {ty : TypeId} (y : ByteArray), M1 g2 = none → (∀ o' A' c' M', New M M' o' A' c' 1 stC (us ++ [y]) → K (.v (.slice A' (us ++ [y]).length c')) M') →
      ∃ news : List Value, news.length = 1 * ti9.size ∧ ((1 : Nat) = 0 ∨ (M1.set g2 (.cells #[Tx y] ty (0, 0))).cells (some ⟨g2, 0, none⟩) 0 news) ∧ appVC ti9 e C us.length d 1 news (M1.set g2 (.cells #[Tx y] ty (0, 0))) K := fun {K e g2 ty} y hg2 hk =>
    app_sl (te := ti9) (f := stC) (xs := us) (ys := [y]) (o := o) (sl_full st_len M1 g2 [y] ty (0, 0)) (N1.ow.mono (PH.Le.set _ hg2)) st_len st_one rfl (st_fits _ _ (by show _ + 1 ≤ _; omega)) (by show _ + 1 ≤ _; omega) fun o' A' c' M' hO hK hF => hk o' A' c' M' (N1.more (PH.Le.set _ hg2) hK hO hF)
  conv => whnf
  refine caseB_dec (fun hb => ?_) (fun hb => ?_)
  · have hb : (i : Int) < t.size := hb
    have hil : i < t.size := by omega
    have hw : IntKind.i64.wrap ((i : Int) + 1) = (i : Int) + 1 := wr_id (by omega) (by omega)
    have hw2 : IntKind.i64.wrap ((i : Int) + 1 + 1) = (i : Int) + 2 := by rw [wrap_id (by omega) (by omega)]; omega
    have step := pcs_lt (a := a) (ins := ins) hil
    cases ins <;> (conv => whnf)
    all_goals (repeat' (first | (refine ⟨⟨[], rfl⟩, _, PH.Le.refl _, PH.Le.refl _, ?_⟩; conv => whnf) | (refine ⟨⟨by omega, by omega, by omega⟩, ?_⟩; conv => whnf) | (refine ⟨by omega, by omega, ?_⟩; conv => whnf) | (refine caseB_true ?_; conv => whnf) | (refine caseB_false ?_; conv => whnf) | ((with_reducible refine caseB_dec (fun h => ?_) (fun h => ?_)) <;> conv => whnf) | ((with_reducible refine caseB_ndec (fun h => ?_) (fun h => ?_)) <;> conv => whnf) | ((with_reducible refine caseB_not (fun h => ?_) (fun h => ?_)) <;> conv => whnf) | (with_reducible refine @And.intro (guardVC _ _ _ _ _) _ ?_ ?_) <;> conv => whnf | (refine caseB_intro (fun h => ?_) (fun h => ?_) <;> (try simp only [Bool.not_eq_true', Bool.not_eq_false', decide_eq_true_eq, decide_eq_false_iff_not] at h) <;> conv => whnf)))
    all_goals first
      | (have h34 : bt t i = 34 := by assumption
         rw [step, if_pos h34] at he
         have he : us ++ pcs t (i + 1) a true = pcs t 0 0 false := he
         exact ⟨(i + 1, a, true, o, C, d, us), ⟨by simp [slots, leT, hw], ⟨[], rfl⟩, Nat.zero_le _, rfl, rfl⟩, ⟨by show i + 1 ≤ t.size + 1; omega, by show a ≤ i + 1; omega, by show a ≤ t.size; omega, by show (us).length ≤ i + 1; first | omega | (simp; omega), N1, he⟩, by show t.size + 1 - (i + 1) < t.size + 1 - i; omega⟩)
      | (have h34 : bt t i = 34 := by assumption
         rw [step, if_pos h34] at he
         have he : us ++ pcs t (i + 1) a false = pcs t 0 0 false := he
         exact ⟨(i + 1, a, false, o, C, d, us), ⟨by simp [slots, leT, hw], ⟨[], rfl⟩, Nat.zero_le _, rfl, rfl⟩, ⟨by show i + 1 ≤ t.size + 1; omega, by show a ≤ i + 1; omega, by show a ≤ t.size; omega, by show (us).length ≤ i + 1; first | omega | (simp; omega), N1, he⟩, by show t.size + 1 - (i + 1) < t.size + 1 - i; omega⟩)
      | (have h92 : bt t i = 92 := by assumption
         have n34 : ¬ bt t i = 34 := by omega
         rw [step, if_neg n34, if_pos ⟨h92, rfl⟩] at he
         exact ⟨(i + 2, a, _, o, C, d, us), ⟨by simp [slots, leT, hw, hw2], ⟨[], rfl⟩, Nat.zero_le _, rfl, rfl⟩, ⟨by show i + 2 ≤ t.size + 1; omega, by show a ≤ i + 2; omega, by show a ≤ t.size; omega, by show (us).length ≤ i + 2; first | omega | (simp; omega), N1, he⟩, by show t.size + 1 - (i + 2) < t.size + 1 - i; omega⟩)
      | (have n34 : ¬ bt t i = 34 := by assumption
         have h44 : bt t i = 44 := by assumption
         rw [step, if_neg n34, if_neg (by rintro ⟨x, y⟩; cases y), if_pos ⟨h44, rfl⟩] at he
         intro g2 hg2
         refine app (t.extract a i) hg2 fun o' A' c' M' N' => ?_
         conv => whnf
         exact ⟨(i + 1, i + 1, false, o', A', c', us ++ [t.extract a i]), ⟨by simp [slots, leT, hw], ⟨[], rfl⟩, Nat.zero_le _, rfl, rfl⟩, ⟨by show i + 1 ≤ t.size + 1; omega, by show i + 1 ≤ i + 1; omega, by show i + 1 ≤ t.size; omega, by show (us ++ [t.extract a i]).length ≤ i + 1; first | omega | (simp; omega), N', by rw [← he]; simp⟩, by show t.size + 1 - (i + 1) < t.size + 1 - i; omega⟩)
      | (have n34 : ¬ bt t i = 34 := by assumption
         rw [step, if_neg n34, if_neg (by rintro ⟨x, y⟩; first | contradiction | cases y), if_neg (by rintro ⟨x, y⟩; first | contradiction | cases y)] at he
         exact ⟨(i + 1, a, _, o, C, d, us), ⟨by simp [slots, leT, hw], ⟨[], rfl⟩, Nat.zero_le _, rfl, rfl⟩, ⟨by show i + 1 ≤ t.size + 1; omega, by show a ≤ i + 1; omega, by show a ≤ t.size; omega, by show (us).length ≤ i + 1; first | omega | (simp; omega), N1, he⟩, by show t.size + 1 - (i + 1) < t.size + 1 - i; omega⟩)
      | fail
  · have hie : ¬ i < t.size := by have hb : ¬ (i : Int) < t.size := hb; omega
    rw [pcs_ge hie] at he
    conv => whnf
    refine ⟨⟨by omega, by omega⟩, ?_⟩
    conv => whnf
    intro g2 hg2
    refine app (t.extract a t.size) hg2 fun o' A' c' M' N' => ?_
    conv => whnf
    rw [he] at N' ⊢
    exact ⟨_, PH.Le.refl _, o', A', c', rfl, N'⟩

end Go.Proofs.YtdgipmlkkmmliaaGreatDoor
