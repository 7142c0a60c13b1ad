/-
  WHAT STANDS BETWEEN QUOTES.
-/
import Derived.Test.YtdgipmlkkmmliaaGreatDoorIa
namespace Go.Proofs.YtdgipmlkkmmliaaGreatDoor
set_option maxRecDepth 100000
set_option linter.unusedSimpArgs false
set_option linter.unusedVariables false
open Go.Xe
theorem seq_q {t : ByteArray} (h1 : 1 ≤ t.size) : seq (t.extract 0 1) ⟨#[34]⟩ = decide (bt t 0 = 34) := by
  have hl := size_list t
  rw [Bool.eq_iff_iff, decide_eq_true_eq, seq_iff]
  have hg : bt t 0 = ((t.data.toList[0]'(by omega)).toNat : Int) := bt_get (i := 0) (by omega)
  have he : (t.extract 0 1).data.toList = [t.data.toList[0]'(by omega)] := by
    rw [ext_list, List.drop_zero]
    rw [List.take_succ_eq_append_getElem (by omega)]
    simp
  constructor
  · intro e
    rw [e] at he
    have h34 : ([34] : List UInt8) = [t.data.toList[0]'(by omega)] := he
    have h3 := (List.cons.inj h34).1
    rw [hg, ← h3]; rfl
  · intro e
    refine ba_ext ?_
    rw [he]
    show [_] = ([34] : List UInt8)
    have : (t.data.toList[0]'(by omega)) = (34 : UInt8) := UInt8.toNat_inj.1 (by show _ = 34; omega)
    rw [this]
theorem hasPrefix1_ret (t : ByteArray) (M : PH) (ht : t.size ≤ 1048576) : Ret 170 [Tx t, Tx ⟨#[34]⟩] M (B (decide (1 ≤ t.size ∧ bt t 0 = 34))) := by
  have hp : Ret 191 [Tx t, Tx ⟨#[34]⟩] M (B (decide (1 ≤ t.size ∧ bt t 0 = 34))) := by
    refine xcall_of_vc Tryz.func191 rfl _ Tryz.ntmps191 _ rfl (fun _ _ => Tryz.call191 _ _) rfl (fun w0 ρ0 => ?_)
    conv => whnf
    repeat' (first | (refine ⟨⟨[], rfl⟩, _, PH.Le.refl _, PH.Le.refl _, ?_⟩; conv => whnf) | (refine ⟨⟨by omega, by omega, by omega⟩, ?_⟩; conv => whnf) | (refine ⟨⟨by omega, by omega⟩, ?_⟩; conv => whnf) | (refine caseB_true ?_; conv => whnf) | (refine caseB_false ?_; conv => whnf) | ((with_reducible refine caseB_dec (fun h => ?_) (fun h => ?_)) <;> conv => whnf) | ((with_reducible refine caseB_ndec (fun h => ?_) (fun h => ?_)) <;> conv => whnf) | ((with_reducible refine caseB_not (fun h => ?_) (fun h => ?_)) <;> conv => whnf) | (with_reducible refine @And.intro (guardVC _ _ _ _ _) _ ?_ ?_) <;> conv => whnf | (refine caseB_intro (fun h => ?_) (fun h => ?_) <;> (try simp only [Bool.not_eq_true', Bool.not_eq_false', decide_eq_true_eq, decide_eq_false_iff_not] at h) <;> conv => whnf))
    · have h1 : 1 ≤ t.size := by have h : (1 : Int) ≤ t.size := h; omega
      refine ⟨_, PH.Le.refl _, ?_, rfl⟩
      show B (seq (t.extract 0 1) ⟨#[34]⟩) = B (decide (1 ≤ t.size ∧ bt t 0 = 34))
      rw [seq_q h1]
      simp [h1]
    · refine ⟨_, PH.Le.refl _, ?_, rfl⟩
      have h1 : ¬ 1 ≤ t.size := by have h : ¬ (1 : Int) ≤ t.size := h; omega
      show B false = B (decide (1 ≤ t.size ∧ bt t 0 = 34))
      rw [decide_eq_false (fun hh => h1 hh.1)]
  refine xcall_of_vc Tryz.func170 rfl _ Tryz.ntmps170 _ rfl (fun _ _ => Tryz.call170 _ _) rfl (fun w0 ρ0 => ?_)
  conv => whnf
  repeat' (first | (refine ⟨⟨[], rfl⟩, _, PH.Le.refl _, PH.Le.refl _, ?_⟩; conv => whnf) | (refine caseB_true ?_; conv => whnf) | (refine caseB_false ?_; conv => whnf) | ((with_reducible refine caseB_dec (fun h => ?_) (fun h => ?_)) <;> conv => whnf) | ((with_reducible refine caseB_ndec (fun h => ?_) (fun h => ?_)) <;> conv => whnf) | ((with_reducible refine caseB_not (fun h => ?_) (fun h => ?_)) <;> conv => whnf) | (refine Ret.go (hp) ?_; conv => whnf) | (with_reducible refine @And.intro (guardVC _ _ _ _ _) _ ?_ ?_) <;> conv => whnf | (refine caseB_intro (fun h => ?_) (fun h => ?_) <;> (try simp only [Bool.not_eq_true', Bool.not_eq_false', decide_eq_true_eq, decide_eq_false_iff_not] at h) <;> conv => whnf))
  exact ⟨_, PH.Le.refl _, rfl, rfl⟩
def unq (t : ByteArray) (i : Nat) : Option (List Int) :=
  if h : i < t.size then
    if bt t i = 34 then (if i + 1 = t.size then some [] else none)
    else if bt t i = 92 then (if i + 1 = t.size then none else (unq t (i + 2)).map (bt t (i + 1 : Nat) :: ·))
    else (unq t (i + 1)).map (bt t i :: ·)
  else none
termination_by t.size - i
theorem unq_ge {t : ByteArray} {i : Nat} (h : ¬ i < t.size) : unq t i = none := by rw [unq, dif_neg h]
theorem unq_lt {t : ByteArray} {i : Nat} (h : i < t.size) : unq t i = if bt t i = 34 then (if i + 1 = t.size then some [] else none) else if bt t i = 92 then (if i + 1 = t.size then none else (unq t (i + 2)).map (bt t (i + 1 : Nat) :: ·)) else (unq t (i + 1)).map (bt t i :: ·) := by rw [unq, dif_pos h]
def unqF (t : ByteArray) : Option ByteArray := if 1 ≤ t.size ∧ bt t 0 = 34 ∧ allB plainB t = true then (unq t 1).map strOfNums else none
theorem byQ_one (x : Int) : ∀ v ∈ byC x, v.oneCell' = true := by intro v hv; simp at hv; subst hv; rfl
theorem byQ_fits (n m : Nat) (h : n + m ≤ 4194304) : (n + m) * ti5.bytes ≤ 140737488355328 := by
  unfold ti5
  show (n + m) * 1 ≤ _
  omega
abbrev EQ9 := Nat × Option Nat × Option Addr × Nat × List Int
theorem byC_flatQ (bs : List Int) : bs.flatMap byC = bs.map fun b => (Y b : Value) := by
  induction bs with
  | nil => rfl
  | cons x r ih => rw [List.flatMap_cons, List.map_cons, ih]; rfl
theorem unqF_no {t : ByteArray} (h : ¬ (1 ≤ t.size ∧ bt t 0 = 34 ∧ allB plainB t = true)) : unqF t = none := if_neg h
theorem unqF_yes {t : ByteArray} (h : 1 ≤ t.size ∧ bt t 0 = 34 ∧ allB plainB t = true) : unqF t = (unq t 1).map strOfNums := if_pos h
theorem unqF_small {t : ByteArray} (h : t.size < 2) : unqF t = none := by
  by_cases hq : 1 ≤ t.size ∧ bt t 0 = 34 ∧ allB plainB t = true
  · rw [unqF_yes hq, unq_ge (by omega)]; rfl
  · exact unqF_no hq
abbrev uqS (x : ByteArray) (ok : Bool) : Value := .tuple #[Tx x, B ok]
abbrev uqI (x : ByteArray) (ok : Bool) : Value := .agg #[I (match ok with | true => 0 | false => 5), Tx x]
set_option maxHeartbeats 4000000 in
theorem l2Unquote_ret (t : ByteArray) (M : PH) (ht : t.size ≤ 2002) :
    ACall env 192 [Tx t] M fun r M' => ∃ x, r = uqS x (unqF t).isSome ∧ (∀ y, unqF t = some y → x = y) ∧ M.Le M' := by
  have fin : ∀ (x : ByteArray) (ok : Bool) (M' : PH), (unqF t).isSome = ok → (∀ y, unqF t = some y → x = y) → M.Le M' → ∃ x', uqS x ok = uqS x' (unqF t).isSome ∧ (∀ y, unqF t = some y → x' = y) ∧ M.Le M' := fun x ok M' h1 h2 h3 => ⟨x, by rw [h1], h2, h3⟩
  have no : ∀ (x : ByteArray) (M' : PH), unqF t = none → M.Le M' → ∃ x', uqS x false = uqS x' (unqF t).isSome ∧ (∀ y, unqF t = some y → x' = y) ∧ M.Le M' := fun x M' h1 h3 => fin x false M' (by rw [h1]; rfl) (fun y hy => by rw [h1] at hy; cases hy) h3
  refine xcall_of_vc Tryz.func192 rfl _ Tryz.ntmps192 _ rfl (fun _ _ => Tryz.call192 _ _) rfl (fun w0 ρ0 => ?_)
  conv => whnf
  repeat' (first | (refine ⟨⟨[], rfl⟩, _, PH.Le.refl _, PH.Le.refl _, ?_⟩; conv => whnf) | (refine ⟨by omega, by omega, ?_⟩; conv => whnf) | (refine caseB_true ?_; conv => whnf) | (refine caseB_false ?_; conv => whnf) | ((with_reducible refine caseB_dec (fun h => ?_) (fun h => ?_)) <;> conv => whnf) | ((with_reducible refine caseB_ndec (fun h => ?_) (fun h => ?_)) <;> conv => whnf) | ((with_reducible refine caseB_not (fun h => ?_) (fun h => ?_)) <;> conv => whnf) | (refine Ret.go (plain_spec t _ (by unfold maxLen; omega)) ?_; conv => whnf) | (with_reducible refine @And.intro (guardVC _ _ _ _ _) _ ?_ ?_) <;> conv => whnf | (refine caseB_intro (fun h => ?_) (fun h => ?_) <;> (try simp only [Bool.not_eq_true', Bool.not_eq_false', decide_eq_true_eq, decide_eq_false_iff_not] at h) <;> conv => whnf))
  all_goals try (exfalso; omega)
  all_goals try exact ⟨_, PH.Le.refl _, no _ _ (by first | exact unqF_small (by omega) | exact unqF_no (fun hh => by first | contradiction | (exact absurd hh.2.1 (by assumption)) | (have := hh.2.2; simp_all; done) | (simp_all; done))) (PH.Le.refl _)⟩
  have hq : 1 ≤ t.size ∧ bt t 0 = 34 ∧ allB plainB t = true := by first | exact ⟨by omega, by assumption, by assumption⟩ | (simp_all; done)
  have hu := unqF_yes hq
  intro g1 hg1
  conv => whnf
  refine loop_rule (fun z : EQ9 => ⟨slots 55 [(0, .v (Tx t)), (2, .v (Tx ⟨#[]⟩)), (3, .v (B false)),(4, .v (.slice z.2.2.1 z.2.2.2.2.length z.2.2.2.1)), (5, .v (I z.1))], []⟩)
    (fun z M' => 1 ≤ z.1 ∧ z.1 ≤ t.size + 1 ∧ z.2.2.2.2.length ≤ z.1 ∧ New M M' z.2.1 z.2.2.1 z.2.2.2.1 1 byC z.2.2.2.2 ∧ unq t 1 = (unq t z.1).map (z.2.2.2.2 ++ ·)) (fun z => t.size + 1 - z.1) (1, none, some ⟨g1, 0, none⟩, 0, []) ?_ ?_ ?_
  · exact ⟨by simp [slots, leT], ⟨[], rfl⟩, by simp, rfl, rfl⟩
  · refine ⟨Nat.le_refl _, by show 1 ≤ t.size + 1; omega, Nat.zero_le _, (New.nil M _).to (PH.Le.set _ hg1), ?_⟩
    show unq t 1 = (unq t 1).map ([] ++ ·)
    cases unq t 1 <;> rfl
  rintro ⟨i, o, C, d, bs⟩ M1 ⟨h1i, hi, hbl, N1, he⟩
  have h1i : 1 ≤ i := h1i
  have hi : i ≤ t.size + 1 := hi
  have hbl : bs.length ≤ i := hbl
  have N1 : New M M1 o C d 1 byC bs := N1
  have he : unq t 1 = (unq t i).map (bs ++ ·) := he
  have none_ : unq t i = none → unqF t = none := fun h => by rw [hu, he, h]; rfl
  conv => whnf
  refine caseB_dec (fun hb => ?_) (fun hb => ?_)
  · have hb : (i : Int) < t.size := hb
    have hil : i < t.size := by omega
    have hw : IntKind.i64.wrap ((i : Int) + 1) = (i : Int) + 1 := wr_id (by omega) (by omega)
    have hw2 : IntKind.i64.wrap ((i : Int) + 1 + 1) = (i : Int) + 2 := by rw [wrap_id (by omega) (by omega)]; omega
    have hwz : IntKind.i64.wrap ((t.size : Int) - 1) = (t.size : Int) - 1 := wr_id (by omega) (by omega)
    have step := unq_lt hil
    have app : ∀ {K : AV → PH → Prop} {e : TypeId} {g2 : Nat} {ty : TypeId} (y : Int), M1 g2 = none → (∀ o' A' c' M', New M M' o' A' c' 1 byC (bs ++ [y]) → K (.v (.slice A' (bs ++ [y]).length c')) M') →
        ∃ news : List Value, news.length = 1 * ti5.size ∧ ((1 : Nat) = 0 ∨ (M1.set g2 (.cells #[(Y y : Value)] ty (0, 0))).cells (some ⟨g2, 0, none⟩) 0 news) ∧ appVC ti5 e C bs.length d 1 news (M1.set g2 (.cells #[(Y y : Value)] ty (0, 0))) K := fun {K e g2 ty} y hg2 hk =>
      app_sl (te := ti5) (f := byC) (xs := bs) (ys := [y]) (o := o) (sl_full by_len M1 g2 [y] ty (0, 0)) (N1.ow.mono (PH.Le.set _ hg2)) by_len byQ_one rfl (byQ_fits _ _ (by show _ + 1 ≤ _; omega)) (by show _ + 1 ≤ _; omega) fun o' A' c' M' hO hK hF => hk o' A' c' M' (N1.more (PH.Le.set _ hg2) hK hO hF)
    conv => whnf
    have A34 : bt t i = 34 → (unqF t).isSome = decide ((i : Int) = IntKind.i64.wrap ((t.size : Int) - 1)) := fun h => by
      rw [hu, he, step, if_pos h, hwz]
      by_cases hz : i + 1 = t.size
      · rw [if_pos hz, decide_eq_true (by omega)]; rfl
      · rw [if_neg hz, decide_eq_false (by omega)]; rfl
    have B34 : bt t i = 34 → ∀ y, unqF t = some y → strOfNums bs = y := fun h y hy => by
      rw [hu, he, step, if_pos h] at hy
      by_cases hz : i + 1 = t.size
      · rw [if_pos hz] at hy
        have hy : some (strOfNums (bs ++ [])) = some y := hy
        rw [List.append_nil] at hy
        exact Option.some.inj hy
      · rw [if_neg hz] at hy; cases hy
    have C34 : bt t i = 34 → ¬ (i : Int) = IntKind.i64.wrap ((t.size : Int) - 1) → unqF t = none := fun h h2 => by
      have := A34 h
      rw [decide_eq_false h2] at this
      cases hx : unqF t with
      | none => rfl
      | some y => rw [hx] at this; cases this
    repeat' (first | (refine ⟨⟨[], rfl⟩, _, PH.Le.refl _, PH.Le.refl _, ?_⟩; conv => whnf) | (refine ⟨bs, ⟨rfl, byC_flatQ bs ▸ (N1.ow.sl by_len).flat by_len⟩, ?_⟩; conv => whnf) | (refine ⟨by show 0 ≤ IntKind.i64.wrap ((i : Int) + 1); rw [hw]; omega, by (show IntKind.i64.wrap ((i : Int) + 1) < t.size); (have h9 : ¬ IntKind.i64.wrap ((i : Int) + 1) = t.size := by assumption); rw [hw] at h9 ⊢; omega, ?_⟩; conv => whnf) | (refine ⟨by omega, by omega, ?_⟩; conv => whnf) | (refine caseB_true ?_; conv => whnf) | (refine caseB_false ?_; conv => whnf) | ((with_reducible refine caseB_dec (fun h => ?_) (fun h => ?_)) <;> conv => whnf) | ((with_reducible refine caseB_ndec (fun h => ?_) (fun h => ?_)) <;> conv => whnf) | ((with_reducible refine caseB_not (fun h => ?_) (fun h => ?_)) <;> conv => whnf) | (with_reducible refine @And.intro (guardVC _ _ _ _ _) _ ?_ ?_) <;> conv => whnf | (refine caseB_intro (fun h => ?_) (fun h => ?_) <;> (try simp only [Bool.not_eq_true', Bool.not_eq_false', decide_eq_true_eq, decide_eq_false_iff_not] at h) <;> conv => whnf))
    all_goals first
      | (have h34 : bt t i = 34 := by assumption
         first
           | exact ⟨_, PH.Le.refl _, fin (strOfNums bs) (decide ((i : Int) = IntKind.i64.wrap ((t.size : Int) - 1))) M1 (A34 h34) (B34 h34) N1.le⟩
           | exact ⟨_, PH.Le.refl _, no _ _ (C34 h34 h) N1.le⟩
           | exact ⟨_, PH.Le.refl _, fin (strOfNums bs) true M1 (by rw [A34 h34]; exact decide_eq_true h) (B34 h34) N1.le⟩)
      | (have h92 : bt t i = 92 := by assumption
         have hz : IntKind.i64.wrap ((i : Int) + 1) = t.size := by assumption
         rw [hw] at hz
         exact ⟨_, PH.Le.refl _, no _ _ (none_ (by rw [step, if_neg (by omega), if_pos h92, if_pos (by omega)])) N1.le⟩)
      | (have h92 : bt t i = 92 := by assumption
         have hz : ¬ IntKind.i64.wrap ((i : Int) + 1) = t.size := by assumption
         rw [hw] at hz
         have hbt : bt t (IntKind.i64.wrap ((i : Int) + 1)) = bt t ((i + 1 : Nat) : Int) := by rw [hw]; rfl
         rw [step, if_neg (by omega), if_pos h92, if_neg (by omega)] at he
         intro g2 hg2
         refine app (bt t (IntKind.i64.wrap ((i : Int) + 1))) hg2 fun o' A' c' M' N' => ?_
         conv => whnf
         exact ⟨(i + 2, o', A', c', bs ++ [bt t (IntKind.i64.wrap ((i : Int) + 1))]), ⟨by simp [slots, leT, hw, hw2], ⟨[], rfl⟩, by simp, rfl, rfl⟩, ⟨by show 1 ≤ i + 2; omega, by show i + 2 ≤ t.size + 1; omega, by show (bs ++ [_]).length ≤ i + 2; simp; omega, N', by rw [he, hbt]; show _ = (unq t (i + 2)).map _; cases unq t (i + 2) <;> simp⟩, by show t.size + 1 - (i + 2) < t.size + 1 - i; omega⟩)
      | (have n34 : ¬ bt t i = 34 := by assumption
         have n92 : ¬ bt t i = 92 := by assumption
         rw [step, if_neg n34, if_neg n92] at he
         intro g2 hg2
         refine app (bt t i) hg2 fun o' A' c' M' N' => ?_
         conv => whnf
         exact ⟨(i + 1, o', A', c', bs ++ [bt t i]), ⟨by simp [slots, leT, hw], ⟨[], rfl⟩, by simp, rfl, rfl⟩, ⟨by show 1 ≤ i + 1; omega, by show i + 1 ≤ t.size + 1; omega, by show (bs ++ [_]).length ≤ i + 1; simp; omega, N', by rw [he]; show _ = (unq t (i + 1)).map _; cases unq t (i + 1) <;> simp⟩, by show t.size + 1 - (i + 1) < t.size + 1 - i; omega⟩)
      | fail
  · have hie : ¬ i < t.size := by have hb : ¬ (i : Int) < t.size := hb; omega
    conv => whnf
    exact ⟨_, PH.Le.refl _, no _ _ (none_ (unq_ge hie)) N1.le⟩

set_option maxHeartbeats 4000000 in
theorem unquote_ret (t : ByteArray) (M : PH) (ht : t.size ≤ 2002) :
    ACall env 143 [Tx t] M fun r M' => ∃ x, r = uqI x (unqF t).isSome ∧ (∀ y, unqF t = some y → x = y) ∧ M.Le M' := by
  have fin : ∀ (x : ByteArray) (ok : Bool) (M' : PH), (unqF t).isSome = ok → (∀ y, unqF t = some y → x = y) → M.Le M' → ∃ x', uqI x ok = uqI x' (unqF t).isSome ∧ (∀ y, unqF t = some y → x' = y) ∧ M.Le M' := fun x ok M' h1 h2 h3 => ⟨x, by rw [h1], h2, h3⟩
  have no : ∀ (x : ByteArray) (M' : PH), unqF t = none → M.Le M' → ∃ x', uqI x false = uqI x' (unqF t).isSome ∧ (∀ y, unqF t = some y → x' = y) ∧ M.Le M' := fun x M' h1 h3 => fin x false M' (by rw [h1]; rfl) (fun y hy => by rw [h1] at hy; cases hy) h3
  refine xcall_of_vc Tryz.func143 rfl _ Tryz.ntmps143 _ rfl (fun _ _ => Tryz.call143 _ _) rfl (fun w0 ρ0 => ?_)
  conv => whnf
  repeat' (first | (refine ⟨⟨[], rfl⟩, _, PH.Le.refl _, PH.Le.refl _, ?_⟩; conv => whnf) | (refine ⟨by omega, by omega, ?_⟩; conv => whnf) | (refine caseB_true ?_; conv => whnf) | (refine caseB_false ?_; conv => whnf) | ((with_reducible refine caseB_dec (fun h => ?_) (fun h => ?_)) <;> conv => whnf) | ((with_reducible refine caseB_ndec (fun h => ?_) (fun h => ?_)) <;> conv => whnf) | ((with_reducible refine caseB_not (fun h => ?_) (fun h => ?_)) <;> conv => whnf) | (refine Ret.go (hasPrefix1_ret t _ (by omega)) ?_; conv => whnf) | (refine Ret.go (plain_impl t _ (by unfold maxLen; omega)) ?_; conv => whnf) | (with_reducible refine @And.intro (guardVC _ _ _ _ _) _ ?_ ?_) <;> conv => whnf | (refine caseB_intro (fun h => ?_) (fun h => ?_) <;> (try simp only [Bool.not_eq_true', Bool.not_eq_false', decide_eq_true_eq, decide_eq_false_iff_not] at h) <;> conv => whnf))
  all_goals try (exfalso; omega)
  all_goals try exact ⟨_, PH.Le.refl _, no _ _ (by first | exact unqF_small (by omega) | exact unqF_no (fun hh => by first | contradiction | (exact absurd hh.2.1 (by assumption)) | (have := hh.2.2; simp_all; done) | (simp_all; done))) (PH.Le.refl _)⟩
  have hq : 1 ≤ t.size ∧ bt t 0 = 34 ∧ allB plainB t = true := by first | exact ⟨by omega, by assumption, by assumption⟩ | (simp_all; done)
  have hu := unqF_yes hq
  intro g1 hg1
  conv => whnf
  refine loop_rule (fun z : EQ9 => ⟨slots 57 [(0, .v (Tx t)), (2, .bp 0 0), (3, .bp 1 0),(4, .v (.slice z.2.2.1 z.2.2.2.2.length z.2.2.2.1)), (5, .v (I z.1))], [⟨47, [.v (I 0), .v (Tx ByteArray.empty)]⟩, ⟨47, [.v (I 5), .v (Tx ByteArray.empty)]⟩]⟩)
    (fun z M' => 1 ≤ z.1 ∧ z.1 ≤ t.size + 1 ∧ z.2.2.2.2.length ≤ z.1 ∧ New M M' z.2.1 z.2.2.1 z.2.2.2.1 1 byC z.2.2.2.2 ∧ unq t 1 = (unq t z.1).map (z.2.2.2.2 ++ ·)) (fun z => t.size + 1 - z.1) (1, none, some ⟨g1, 0, none⟩, 0, []) ?_ ?_ ?_
  · exact ⟨by simp [slots, leT], ⟨[], rfl⟩, by simp, rfl, rfl⟩
  · refine ⟨Nat.le_refl _, by show 1 ≤ t.size + 1; omega, Nat.zero_le _, (New.nil M _).to (PH.Le.set _ hg1), ?_⟩
    show unq t 1 = (unq t 1).map ([] ++ ·)
    cases unq t 1 <;> rfl
  rintro ⟨i, o, C, d, bs⟩ M1 ⟨h1i, hi, hbl, N1, he⟩
  have h1i : 1 ≤ i := h1i
  have hi : i ≤ t.size + 1 := hi
  have hbl : bs.length ≤ i := hbl
  have N1 : New M M1 o C d 1 byC bs := N1
  have he : unq t 1 = (unq t i).map (bs ++ ·) := he
  have none_ : unq t i = none → unqF t = none := fun h => by rw [hu, he, h]; rfl
  conv => whnf
  refine caseB_dec (fun hb => ?_) (fun hb => ?_)
  · have hb : (i : Int) < t.size := hb
    have hil : i < t.size := by omega
    have hw : IntKind.i64.wrap ((i : Int) + 1) = (i : Int) + 1 := wr_id (by omega) (by omega)
    have hw2 : IntKind.i64.wrap ((i : Int) + 1 + 1) = (i : Int) + 2 := by rw [wrap_id (by omega) (by omega)]; omega
    have hwz : IntKind.i64.wrap ((t.size : Int) - 1) = (t.size : Int) - 1 := wr_id (by omega) (by omega)
    have step := unq_lt hil
    have app : ∀ {K : AV → PH → Prop} {e : TypeId} {g2 : Nat} {ty : TypeId} (y : Int), M1 g2 = none → (∀ o' A' c' M', New M M' o' A' c' 1 byC (bs ++ [y]) → K (.v (.slice A' (bs ++ [y]).length c')) M') →
        ∃ news : List Value, news.length = 1 * ti5.size ∧ ((1 : Nat) = 0 ∨ (M1.set g2 (.cells #[(Y y : Value)] ty (0, 0))).cells (some ⟨g2, 0, none⟩) 0 news) ∧ appVC ti5 e C bs.length d 1 news (M1.set g2 (.cells #[(Y y : Value)] ty (0, 0))) K := fun {K e g2 ty} y hg2 hk =>
      app_sl (te := ti5) (f := byC) (xs := bs) (ys := [y]) (o := o) (sl_full by_len M1 g2 [y] ty (0, 0)) (N1.ow.mono (PH.Le.set _ hg2)) by_len byQ_one rfl (byQ_fits _ _ (by show _ + 1 ≤ _; omega)) (by show _ + 1 ≤ _; omega) fun o' A' c' M' hO hK hF => hk o' A' c' M' (N1.more (PH.Le.set _ hg2) hK hO hF)
    conv => whnf
    have A34 : bt t i = 34 → (unqF t).isSome = decide ((i : Int) = IntKind.i64.wrap ((t.size : Int) - 1)) := fun h => by
      rw [hu, he, step, if_pos h, hwz]
      by_cases hz : i + 1 = t.size
      · rw [if_pos hz, decide_eq_true (by omega)]; rfl
      · rw [if_neg hz, decide_eq_false (by omega)]; rfl
    have B34 : bt t i = 34 → ∀ y, unqF t = some y → strOfNums bs = y := fun h y hy => by
      rw [hu, he, step, if_pos h] at hy
      by_cases hz : i + 1 = t.size
      · rw [if_pos hz] at hy
        have hy : some (strOfNums (bs ++ [])) = some y := hy
        rw [List.append_nil] at hy
        exact Option.some.inj hy
      · rw [if_neg hz] at hy; cases hy
    have C34 : bt t i = 34 → ¬ (i : Int) = IntKind.i64.wrap ((t.size : Int) - 1) → unqF t = none := fun h h2 => by
      have := A34 h
      rw [decide_eq_false h2] at this
      cases hx : unqF t with
      | none => rfl
      | some y => rw [hx] at this; cases this
    repeat' (first | (refine ⟨⟨[], rfl⟩, _, PH.Le.refl _, PH.Le.refl _, ?_⟩; conv => whnf) | (refine ⟨bs, ⟨rfl, byC_flatQ bs ▸ (N1.ow.sl by_len).flat by_len⟩, ?_⟩; conv => whnf) | (refine ⟨by show 0 ≤ IntKind.i64.wrap ((i : Int) + 1); rw [hw]; omega, by (show IntKind.i64.wrap ((i : Int) + 1) < t.size); (have h9 : ¬ IntKind.i64.wrap ((i : Int) + 1) = t.size := by assumption); rw [hw] at h9 ⊢; omega, ?_⟩; conv => whnf) | (refine ⟨by omega, by omega, ?_⟩; conv => whnf) | (refine caseB_true ?_; conv => whnf) | (refine caseB_false ?_; conv => whnf) | ((with_reducible refine caseB_dec (fun h => ?_) (fun h => ?_)) <;> conv => whnf) | ((with_reducible refine caseB_ndec (fun h => ?_) (fun h => ?_)) <;> conv => whnf) | ((with_reducible refine caseB_not (fun h => ?_) (fun h => ?_)) <;> conv => whnf) | (with_reducible refine @And.intro (guardVC _ _ _ _ _) _ ?_ ?_) <;> conv => whnf | (refine caseB_intro (fun h => ?_) (fun h => ?_) <;> (try simp only [Bool.not_eq_true', Bool.not_eq_false', decide_eq_true_eq, decide_eq_false_iff_not] at h) <;> conv => whnf))
    all_goals first
      | (have h34 : bt t i = 34 := by assumption
         first
           | exact ⟨_, PH.Le.refl _, fin (strOfNums bs) (decide ((i : Int) = IntKind.i64.wrap ((t.size : Int) - 1))) M1 (A34 h34) (B34 h34) N1.le⟩
           | exact ⟨_, PH.Le.refl _, no _ _ (C34 h34 h) N1.le⟩
           | exact ⟨_, PH.Le.refl _, fin (strOfNums bs) true M1 (by rw [A34 h34]; exact decide_eq_true h) (B34 h34) N1.le⟩)
      | (have h92 : bt t i = 92 := by assumption
         have hz : IntKind.i64.wrap ((i : Int) + 1) = t.size := by assumption
         rw [hw] at hz
         exact ⟨_, PH.Le.refl _, no _ _ (none_ (by rw [step, if_neg (by omega), if_pos h92, if_pos (by omega)])) N1.le⟩)
      | (have h92 : bt t i = 92 := by assumption
         have hz : ¬ IntKind.i64.wrap ((i : Int) + 1) = t.size := by assumption
         rw [hw] at hz
         have hbt : bt t (IntKind.i64.wrap ((i : Int) + 1)) = bt t ((i + 1 : Nat) : Int) := by rw [hw]; rfl
         rw [step, if_neg (by omega), if_pos h92, if_neg (by omega)] at he
         intro g2 hg2
         refine app (bt t (IntKind.i64.wrap ((i : Int) + 1))) hg2 fun o' A' c' M' N' => ?_
         conv => whnf
         exact ⟨(i + 2, o', A', c', bs ++ [bt t (IntKind.i64.wrap ((i : Int) + 1))]), ⟨by simp [slots, leT, hw, hw2], ⟨[], rfl⟩, by simp, rfl, rfl⟩, ⟨by show 1 ≤ i + 2; omega, by show i + 2 ≤ t.size + 1; omega, by show (bs ++ [_]).length ≤ i + 2; simp; omega, N', by rw [he, hbt]; show _ = (unq t (i + 2)).map _; cases unq t (i + 2) <;> simp⟩, by show t.size + 1 - (i + 2) < t.size + 1 - i; omega⟩)
      | (have n34 : ¬ bt t i = 34 := by assumption
         have n92 : ¬ bt t i = 92 := by assumption
         rw [step, if_neg n34, if_neg n92] at he
         intro g2 hg2
         refine app (bt t i) hg2 fun o' A' c' M' N' => ?_
         conv => whnf
         exact ⟨(i + 1, o', A', c', bs ++ [bt t i]), ⟨by simp [slots, leT, hw], ⟨[], rfl⟩, by simp, rfl, rfl⟩, ⟨by show 1 ≤ i + 1; omega, by show i + 1 ≤ t.size + 1; omega, by show (bs ++ [_]).length ≤ i + 1; simp; omega, N', by rw [he]; show _ = (unq t (i + 1)).map _; cases unq t (i + 1) <;> simp⟩, by show t.size + 1 - (i + 1) < t.size + 1 - i; omega⟩)
      | fail
  · have hie : ¬ i < t.size := by have hb : ¬ (i : Int) < t.size := hb; omega
    conv => whnf
    exact ⟨_, PH.Le.refl _, no _ _ (none_ (unq_ge hie)) N1.le⟩

end Go.Proofs.YtdgipmlkkmmliaaGreatDoor
