/-
  CONTRACTS: what is wrong with flights.
-/
import Derived.Test.YtnnfbjbfdoepmaaDoorTg
namespace Go.Proofs.YtnnfbjbfdoepmaaDoor
set_option maxRecDepth 100000
set_option linter.unusedSimpArgs false
set_option linter.unusedVariables false
open Go.Xe
theorem FlA.one (x : FlA) : ∀ v ∈ x.cs, v.oneCell' = true := by intro v hv; simp at hv; rcases hv with rfl | rfl | rfl | rfl | rfl | rfl | rfl | rfl | rfl | rfl | rfl <;> rfl
def Asc (ids : List Int) : Prop := ∀ i, ∀ h : i + 1 < ids.length, ids[i] < ids[i + 1]
noncomputable def flsFault (cs : List Fc) : Int :=
  if 24 < (cs.length : Int) then 2 else if firstF flFault cs ≠ 0 then firstF flFault cs else if asB (Asc (cs.map (·.id))) = false then 1 else if asB (AptG Fc.key cs) = false then 6 else if asB (AptG Wr.a (cs.flatMap (·.ws))) then 0 else 6
theorem firstF_map {α β : Type} (g : α → β) (f : β → Int) : ∀ ws : List α, firstF f (ws.map g) = firstF (fun x => f (g x)) ws
  | [] => rfl
  | x :: r => by rw [List.map_cons, firstF, firstF, firstF_map g f r]
theorem firstF_get {α : Type} {f : α → Int} : ∀ {ws : List α}, firstF f ws = 0 → ∀ {j : Nat} (hj : j < ws.length), f ws[j] = 0
  | x :: r, h, 0, _ => by
    rw [firstF] at h
    split at h
    · assumption
    · exact absurd h ‹_›
  | x :: r, h, j + 1, hj => by
    rw [firstF] at h
    split at h
    · exact firstF_get h (by simpa using hj)
    · exact absurd h ‹_›
structure Fls (M : PH) (A : Option Addr) (c : Nat) (ws : List FlA) : Prop where
  sl : Sl M A 11 FlA.cs ws
  hn : ws.length ≤ 1048576
  cap : ws.length ≤ c
  inn : ∀ x ∈ ws, x.inn M ∧ x.c.cost ≤ 1048576
  caps : ∀ x ∈ ws, x.cap
theorem Fls.mono {M M' : PH} {A : Option Addr} {c : Nat} {ws : List FlA} (h : Fls M A c ws) (l : M.Le M') : Fls M' A c ws := ⟨h.sl.mono l, h.hn, h.cap, fun x hx => ⟨(h.inn x hx).1.mono l, (h.inn x hx).2⟩, h.caps⟩
theorem wr_fits (n m : Nat) (h : n + m ≤ 4194304) : (n + m) * ti51.bytes ≤ 140737488355328 := by
  unfold ti51
  show (n + m) * 32 ≤ _
  omega
theorem fl_ws {f : Fc} (h : flFault f = 0) : f.ws.length ≤ 10 := by
  unfold flFault at h
  repeat' (split at h <;> try (first | cases h | contradiction))
  all_goals first | omega | skip
theorem flat_take {cs : List FlA} {i : Nat} (hi : i < cs.length) : (cs.take (i + 1)).flatMap (·.c.ws) = (cs.take i).flatMap (·.c.ws) ++ cs[i].c.ws := by
  rw [List.take_succ_eq_append_getElem hi, List.flatMap_append]
  simp
theorem flat_len {cs : List FlA} (h : ∀ j, ∀ hj : j < cs.length, cs[j].c.ws.length ≤ 10) (i : Nat) (hi : i ≤ cs.length) : ((cs.take i).flatMap (·.c.ws)).length ≤ 10 * i := by
  induction i with
  | zero => simp
  | succ i ih =>
    rw [flat_take (by omega), List.length_append]
    have := ih (by omega)
    have := h i (by omega)
    omega
theorem wsOf_apt {ws : List FlA} : AptG Wr.a ((ws.map (·.c)).flatMap (·.ws)) ↔ AptG Wr.a (ws.flatMap (·.c.ws)) := by
  rw [List.flatMap_map]
theorem keyOf_apt {ws : List FlA} : AptG Fc.key (ws.map (·.c)) ↔ AptG (fun x : FlA => x.c.key) ws := by
  unfold AptG
  rw [List.pairwise_map]
theorem asc_yes {ws : List FlA} (h : ∀ i, 0 < i → ∀ hi : i < ws.length, (ws[i - 1]'(by omega)).c.id < ws[i].c.id) : Asc ((ws.map (·.c)).map (·.id)) := by
  intro i hi
  have hi' : i + 1 < ws.length := by simpa using hi
  have := h (i + 1) (by omega) hi'
  simpa using this
theorem asc_no {ws : List FlA} {i : Nat} (h0 : 0 < i) (hi : i < ws.length) (h : ws[i].c.id ≤ (ws[i - 1]'(by omega)).c.id) : ¬ Asc ((ws.map (·.c)).map (·.id)) := by
  intro ha
  have := ha (i - 1) (by simp; omega)
  simp only [List.getElem_map] at this
  have e : i - 1 + 1 = i := by omega
  simp only [e] at this
  omega
theorem flightsFault_spec (A : Option Addr) (c : Nat) (ws : List FlA) (M : PH) (hF : Fls M A c ws) : Ret 11 [.slice A ws.length c] M (I (flsFault (ws.map (·.c)))) := by
  obtain ⟨hs, hn, hcap, hi, hcaps⟩ := hF
  refine Ret.of ?_
  refine xcall_of_vc Tryd.func11 rfl _ Tryd.ntmps11 _ rfl (fun _ _ => Tryd.call11 _ _) rfl (fun w0 ρ0 => ?_)
  conv => whnf
  repeat' (first | (refine ⟨⟨[], rfl⟩, _, PH.Le.refl _, PH.Le.refl _, ?_⟩; conv => whnf) | (refine caseB_true ?_; conv => whnf) | (refine caseB_false ?_; conv => whnf) | ((with_reducible refine caseB_dec (fun h => ?_) (fun h => ?_)) <;> conv => whnf) | ((with_reducible refine caseB_ndec (fun h => ?_) (fun h => ?_)) <;> conv => whnf) | ((with_reducible refine caseB_not (fun h => ?_) (fun h => ?_)) <;> conv => whnf) | (with_reducible refine @And.intro (guardVC _ _ _ _ _) _ ?_ ?_) <;> conv => whnf | (refine caseB_intro (fun h => ?_) (fun h => ?_) <;> (try simp only [Bool.not_eq_true', Bool.not_eq_false', decide_eq_true_eq, decide_eq_false_iff_not] at h) <;> conv => whnf))
  · exact ⟨_, PH.Le.refl _, by simp [resV, flsFault, *], PH.Le.refl _⟩
  intro g1 hg1
  conv => whnf
  have h24 : ws.length ≤ 24 := by omega
  have l0 := PH.Le.set (.cells (#[] : Array Value) 51 (0, 0)) hg1
  refine loop_rule (fun z : G1 => ⟨slots 76 [(0, .v (.slice A ws.length c)), (3, .v (.slice z.2.2.1 ((ws.take z.1).flatMap (·.c.ws)).length z.2.2.2)), (4, .v (I z.1))], []⟩)
    (fun z M' => z.1 ≤ ws.length ∧ (∀ j, j < z.1 → ∀ h : j < ws.length, flFault ws[j].c = 0) ∧ New M M' z.2.1 z.2.2.1 z.2.2.2 4 Wr.cs ((ws.take z.1).flatMap (·.c.ws))) (fun z => ws.length - z.1) (0, none, some ⟨g1, 0, none⟩, 0) ?_ ?_ ?_
  · exact ⟨by simp [slots, leT], ⟨[], rfl⟩, Nat.zero_le _, rfl, rfl⟩
  · exact ⟨Nat.zero_le _, fun j hj => absurd hj (Nat.not_lt_zero _), Ow.nil, l0, fun g e => nomatch e⟩
  rintro ⟨i, o, B, d⟩ M1 ⟨hi0, hp, hN⟩
  have hi0 : i ≤ ws.length := hi0
  have hp : ∀ j, j < i → ∀ h : j < ws.length, flFault ws[j].c = 0 := hp
  have hN : New M M1 o B d 4 Wr.cs ((ws.take i).flatMap (·.c.ws)) := hN
  conv => whnf
  refine caseB_dec (fun h0 => ?_) (fun h0 => ?_)
  · have h0 : (i : Int) < ws.length := h0
    have hi' : i < ws.length := by omega
    have hw : IntKind.i64.wrap ((i : Int) + 1) = (i : Int) + 1 := wr_id (by omega) (by omega)
    obtain ⟨hA, _, hc⟩ := (hs.mono hN.le).get hi'
    have ⟨hx, hco⟩ := hi ws[i] (List.getElem_mem hi')
    conv => whnf
    refine ⟨by omega, by omega, hA, ?_⟩
    conv => whnf
    refine ⟨ws[i].cs, hc, rfl, ?_⟩
    conv => whnf
    refine Ret.go (flightFault_spec ws[i] _ (hx.mono hN.le) hco) ?_
    conv => whnf
    refine caseB_ndec (fun h => ?_) (fun h => ?_)
    · conv => whnf
      have e1 : firstF flFault (ws.map (·.c)) = flFault ws[i].c := by rw [firstF_map]; exact firstF_at hi' hp h
      exact ⟨_, PH.Le.refl _, by rw [flsFault, if_neg (by simpa using (by omega : ¬ 24 < (ws.length : Int))), e1, if_pos h]; rfl, hN.le⟩
    · conv => whnf
      have hfl : ((ws.take i).flatMap (·.c.ws)).length ≤ 10 * ws.length := by
        have h10 : ∀ j, ∀ hj : j < (ws.take i).length, (ws.take i)[j].c.ws.length ≤ 10 := fun j hj => by
          have hj' : j < i := by simp at hj; omega
          rw [List.getElem_take]
          exact fl_ws (hp j hj' (by omega))
        have := flat_len h10 i (by simp; omega)
        rw [List.take_take, Nat.min_self] at this
        omega
      have h11 := fl_ws h
      refine ⟨by omega, by omega, hA, ?_⟩
      conv => whnf
      refine ⟨_, cells_cut hc 10 rfl, ?_⟩
      conv => whnf
      refine app_sl (te := ti51) (f := Wr.cs) (xs := (ws.take i).flatMap (·.c.ws)) (ys := ws[i].c.ws) (o := o) (hx.w.mono hN.le) hN.ow Wr.len Wr.one rfl (wr_fits _ _ (by omega)) (by omega) fun o' A' c' M' hO hK hF => ?_
      conv => whnf
      rw [← flat_take hi'] at hO
      refine ⟨(i + 1, o', A', c'), ⟨by simp [slots, leT, hw, flat_take hi'], ⟨_, rfl⟩, Nat.zero_le _, rfl, rfl⟩, ⟨hi', fun j hj hjl => (Nat.lt_succ_iff_lt_or_eq.1 hj).elim (fun h1 => hp j h1 hjl) (fun e => by subst e; exact h), hN.more (PH.Le.refl _) hK hO hF⟩, by show _ - (i + 1) < _ - i; omega⟩
  have hi' : i = ws.length := by have : ¬ (i : Int) < ws.length := h0; omega
  subst hi'
  rw [List.take_length] at hN
  have hs := hs.mono hN.le
  have hA2 := hN.ow.sl Wr.len
  have e1 : firstF flFault (ws.map (·.c)) = 0 := by rw [firstF_map]; exact firstF_no fun j hj => hp j hj hj
  have e2 : flsFault (ws.map (·.c)) = if asB (Asc ((ws.map (·.c)).map (·.id))) = false then 1 else if asB (AptG Fc.key (ws.map (·.c))) = false then 6 else if asB (AptG Wr.a ((ws.map (·.c)).flatMap (·.ws))) then 0 else 6 := by
    rw [flsFault, if_neg (by simpa using (by omega : ¬ 24 < (ws.length : Int))), e1, if_neg (by simp)]
  clear h0 hp
  conv => whnf
  rw [List.take_length]
  generalize hall : ws.flatMap (·.c.ws) = all at *
  have hall2 : (ws.map (·.c)).flatMap (·.ws) = all := by rw [← hall, List.flatMap_map]
  have hal : all.length ≤ 1048576 := by
    have h10 : ∀ j, ∀ hj : j < ws.length, ws[j].c.ws.length ≤ 10 := fun j hj => fl_ws (by rw [firstF_map] at e1; exact firstF_get e1 hj)
    have := flat_len h10 ws.length (Nat.le_refl _)
    rw [List.take_length, hall] at this
    omega
  rw [hall2] at e2
  refine loop_rule (fun i : Nat => ⟨slots 76 [(0, .v (.slice A ws.length c)), (3, .v (.slice B all.length d)), (6, .v (I i))], []⟩)
    (fun i M' => 1 ≤ i ∧ (∀ j, 0 < j → j < i → ∀ h : j < ws.length, (ws[j - 1]'(by omega)).c.id < ws[j].c.id) ∧ M' = M1) (fun i => ws.length - i) 1 ?_ ?_ ?_
  · exact ⟨by simp [slots, leT], ⟨[], rfl⟩, Nat.zero_le _, rfl, rfl⟩
  · exact ⟨Nat.le_refl _, fun j h1 h2 => absurd h2 (by omega), rfl⟩
  rintro i M' ⟨hi1, hq, rfl⟩
  conv => whnf
  refine caseB_dec (fun h0 => ?_) (fun h0 => ?_)
  · have h0 : (i : Int) < ws.length := h0
    have hi' : i < ws.length := by omega
    have hi2 : i - 1 < ws.length := by omega
    have hw : IntKind.i64.wrap ((i : Int) + 1) = (i : Int) + 1 := wr_id (by omega) (by omega)
    have hw1 : IntKind.i64.wrap ((i : Int) - 1) = ((i - 1 : Nat) : Int) := by rw [wrap_id (by omega) (by omega)]; omega
    obtain ⟨hA, _, hc⟩ := hs.get hi'
    obtain ⟨_, _, hcp⟩ := hs.get hi2
    have hcp' : M'.cells A ((IntKind.i64.wrap ((i : Int) - 1)).toNat * 11 + 0) [I ws[i - 1].c.id] := by rw [hw1]; exact cells_cut hcp 0 rfl
    conv => whnf
    repeat' (first | (refine ⟨⟨[], rfl⟩, _, PH.Le.refl _, PH.Le.refl _, ?_⟩; conv => whnf) | (refine ⟨_, hcp', ?_⟩; conv => whnf) | (refine ⟨_, cells_cut hc 0 rfl, ?_⟩; conv => whnf) | (refine ⟨by rw [hw1]; omega, by rw [hw1]; omega, hA, ?_⟩; conv => whnf) | (refine ⟨by omega, by omega, hA, ?_⟩; conv => whnf) | (refine caseB_true ?_; conv => whnf) | (refine caseB_false ?_; conv => whnf) | ((with_reducible refine caseB_dec (fun h => ?_) (fun h => ?_)) <;> conv => whnf) | ((with_reducible refine caseB_ndec (fun h => ?_) (fun h => ?_)) <;> conv => whnf) | ((with_reducible refine caseB_not (fun h => ?_) (fun h => ?_)) <;> conv => whnf) | (refine draw_rule (.light 0 <| .light 1 <| .light 2 <| .light 3 <| .light 4 <| .light 5 <| .light 6 <| .light 7 <| .light 8 <| .light 9 <| .light 10 <| .light 11 <| .done) (by decide +kernel) ?_; conv => whnf) | (refine draw_rule (.light 0 <| .light 1 <| .light 2 <| .light 3 <| .light 4 <| .light 5 <| .light 6 <| .light 7 <| .light 8 <| .light 9 <| .light 10 <| .done) (by decide +kernel) ?_; conv => whnf) | (with_reducible refine @And.intro (guardVC _ _ _ _ _) _ ?_ ?_) <;> conv => whnf | (refine caseB_intro (fun h => ?_) (fun h => ?_) <;> (try simp only [Bool.not_eq_true', Bool.not_eq_false', decide_eq_true_eq, decide_eq_false_iff_not] at h) <;> conv => whnf))
    all_goals first
      | (refine ⟨_, PH.Le.refl _, ?_, hN.le⟩; rw [e2, asB_false (asc_no (by omega) hi' (by assumption))]; rfl; done)
      | exact ⟨i + 1, ⟨by simp [slots, leT, hw], ⟨_, rfl⟩, Nat.zero_le _, rfl, rfl⟩, ⟨by omega, fun j h1 hj hjl => (Nat.lt_succ_iff_lt_or_eq.1 hj).elim (fun h2 => hq j h1 h2 hjl) (fun e => by subst e; omega), rfl⟩, by omega⟩
  have hge : ¬ (i : Int) < ws.length := h0
  rw [asB_true (asc_yes fun j h1 hj => hq j h1 (by omega) hj), if_neg (by simp)] at e2
  clear h0 hq
  conv => whnf
  refine loop_rule (fun i : Nat => ⟨slots 76 [(0, .v (.slice A ws.length c)), (3, .v (.slice B all.length d)), (7, .v (I i))], []⟩) (fun i M1 => i ≤ ws.length ∧ (∀ a, a < i → ∀ ha : a < ws.length, ∀ b, ∀ hb : b < a, (fun x : FlA => x.c.key) ws[a] ≠ (fun x : FlA => x.c.key) ws[b]) ∧ M1 = M') (fun i => ws.length - i) 0 ?_ ?_ ?_
  · exact ⟨by simp [slots, leT], ⟨[], rfl⟩, (by first | exact Nat.zero_le _ | exact Nat.le_refl _), rfl, rfl⟩
  · exact ⟨Nat.zero_le _, fun j hj => absurd hj (Nat.not_lt_zero _), rfl⟩
  rintro i M1 ⟨hi, hq, rfl⟩
  conv => whnf
  repeat' (first | (refine ⟨⟨[], rfl⟩, _, PH.Le.refl _, PH.Le.refl _, ?_⟩; conv => whnf) | (refine caseB_true ?_; conv => whnf) | (refine caseB_false ?_; conv => whnf) | ((with_reducible refine caseB_dec (fun h => ?_) (fun h => ?_)) <;> conv => whnf) | ((with_reducible refine caseB_ndec (fun h => ?_) (fun h => ?_)) <;> conv => whnf) | ((with_reducible refine caseB_not (fun h => ?_) (fun h => ?_)) <;> conv => whnf) | (with_reducible refine @And.intro (guardVC _ _ _ _ _) _ ?_ ?_) <;> conv => whnf | (refine caseB_intro (fun h => ?_) (fun h => ?_) <;> (try simp only [Bool.not_eq_true', Bool.not_eq_false', decide_eq_true_eq, decide_eq_false_iff_not] at h) <;> conv => whnf))
  · have hi' : i < ws.length := by omega
    have hw : IntKind.i64.wrap ((i : Int) + 1) = (i : Int) + 1 := wr_id (by omega) (by omega)
    obtain ⟨hA, _, hc⟩ := hs.get hi'
    refine loop_rule (fun j : Nat => ⟨slots 76 [(0, .v (.slice A ws.length c)), (3, .v (.slice B all.length d)), (7, .v (I i)), (8, .v (I j))], []⟩) (fun j M' => j ≤ i ∧ (∀ b, ∀ hb : b < j, ∀ hb : b < ws.length, (fun x : FlA => x.c.key) ws[i] ≠ (fun x : FlA => x.c.key) ws[b]) ∧ M' = M1) (fun j => i - j) 0 ?_ ?_ ?_
    · exact ⟨by simp [slots, leT], ⟨[], rfl⟩, (by first | exact Nat.zero_le _ | exact Nat.le_refl _), rfl, rfl⟩
    · exact ⟨Nat.zero_le _, fun j hj => absurd hj (Nat.not_lt_zero _), rfl⟩
    rintro j M2 ⟨hj, hr, rfl⟩
    conv => whnf
    repeat' (first | (refine ⟨⟨[], rfl⟩, _, PH.Le.refl _, PH.Le.refl _, ?_⟩; conv => whnf) | (refine caseB_true ?_; conv => whnf) | (refine caseB_false ?_; conv => whnf) | ((with_reducible refine caseB_dec (fun h => ?_) (fun h => ?_)) <;> conv => whnf) | ((with_reducible refine caseB_ndec (fun h => ?_) (fun h => ?_)) <;> conv => whnf) | ((with_reducible refine caseB_not (fun h => ?_) (fun h => ?_)) <;> conv => whnf) | (with_reducible refine @And.intro (guardVC _ _ _ _ _) _ ?_ ?_) <;> conv => whnf | (refine caseB_intro (fun h => ?_) (fun h => ?_) <;> (try simp only [Bool.not_eq_true', Bool.not_eq_false', decide_eq_true_eq, decide_eq_false_iff_not] at h) <;> conv => whnf))
    · have hj' : j < i := by omega
      have hj2 : j < ws.length := by omega
      have hw2 : IntKind.i64.wrap ((j : Int) + 1) = (j : Int) + 1 := wr_id (by omega) (by omega)
      obtain ⟨_, _, hc2⟩ := hs.get hj2
      repeat' (first | (refine ⟨⟨[], rfl⟩, _, PH.Le.refl _, PH.Le.refl _, ?_⟩; conv => whnf) | (refine ⟨_, cells_cut hc2 1 rfl, ?_⟩; conv => whnf) | (refine ⟨_, cells_cut hc 1 rfl, ?_⟩; conv => whnf) | (refine ⟨by omega, by omega, hA, ?_⟩; conv => whnf) | (refine caseB_true ?_; conv => whnf) | (refine caseB_false ?_; conv => whnf) | ((with_reducible refine caseB_dec (fun h => ?_) (fun h => ?_)) <;> conv => whnf) | ((with_reducible refine caseB_ndec (fun h => ?_) (fun h => ?_)) <;> conv => whnf) | ((with_reducible refine caseB_not (fun h => ?_) (fun h => ?_)) <;> conv => whnf) | (refine draw_rule (.light 0 <| .light 1 <| .light 2 <| .light 3 <| .light 4 <| .light 5 <| .light 6 <| .light 7 <| .light 8 <| .light 9 <| .light 10 <| .light 11 <| .done) (by decide +kernel) ?_; conv => whnf) | (refine draw_rule (.light 0 <| .light 1 <| .light 2 <| .light 3 <| .light 4 <| .light 5 <| .light 6 <| .light 7 <| .light 8 <| .light 9 <| .light 10 <| .done) (by decide +kernel) ?_; conv => whnf) | (with_reducible refine @And.intro (guardVC _ _ _ _ _) _ ?_ ?_) <;> conv => whnf | (refine caseB_intro (fun h => ?_) (fun h => ?_) <;> (try simp only [Bool.not_eq_true', Bool.not_eq_false', decide_eq_true_eq, decide_eq_false_iff_not] at h) <;> conv => whnf))
      · exact ⟨_, PH.Le.refl _, (by rw [e2, asB_false (fun hh => aptG_no hi' hj' (seq_iff.1 h) (keyOf_apt.1 hh))]; rfl), hN.le⟩
      · exact ⟨j + 1, ⟨by simp [slots, leT, hw2], ⟨[], rfl⟩, (by first | exact Nat.zero_le _ | exact Nat.le_refl _), rfl, rfl⟩, ⟨by omega, fun b hb hb' => by
          rcases Nat.lt_succ_iff_lt_or_eq.1 hb with h1 | h1
          · exact hr b h1 hb'
          · subst h1; exact (seq_ne.1 h), rfl⟩, by omega⟩
    · have : j = i := by omega
      subst this
      exact ⟨j + 1, ⟨by simp [slots, leT, hw], ⟨[], rfl⟩, (by first | exact Nat.zero_le _ | exact Nat.le_refl _), rfl, rfl⟩, ⟨by omega, fun a ha ha' b hb => by
          rcases Nat.lt_succ_iff_lt_or_eq.1 ha with h1 | h1
          · exact hq a h1 ha' b hb
          · subst h1; exact hr b hb (by omega), rfl⟩, by omega⟩

  rw [asB_true (keyOf_apt.2 (aptG_yes fun a ha => hq a (by omega) ha)), if_neg (by simp)] at e2
  repeat' (first | (refine ⟨⟨[], rfl⟩, _, PH.Le.refl _, PH.Le.refl _, ?_⟩; conv => whnf) | (refine caseB_true ?_; conv => whnf) | (refine caseB_false ?_; conv => whnf) | ((with_reducible refine caseB_dec (fun h => ?_) (fun h => ?_)) <;> conv => whnf) | ((with_reducible refine caseB_ndec (fun h => ?_) (fun h => ?_)) <;> conv => whnf) | ((with_reducible refine caseB_not (fun h => ?_) (fun h => ?_)) <;> conv => whnf) | (refine Ret.go (l12Twice_ret B d all _ hA2 hal) ?_; conv => whnf) | (with_reducible refine @And.intro (guardVC _ _ _ _ _) _ ?_ ?_) <;> conv => whnf | (refine caseB_intro (fun h => ?_) (fun h => ?_) <;> (try simp only [Bool.not_eq_true', Bool.not_eq_false', decide_eq_true_eq, decide_eq_false_iff_not] at h) <;> conv => whnf))
  all_goals exact ⟨_, PH.Le.refl _, by rw [e2]; simp [resV, *], hN.le⟩
/-- The place of the first of a slice that a function is true of; -1 if there is none. -/
theorem indexFuncFl1 (ty : TypeId) (x0 : Value) (g : FuncId) (p : FlA → Bool) (A : Option Addr) (c : Nat) (ws : List FlA) (M : PH) (hs : Sl M A 11 FlA.cs ws) (hn : ws.length ≤ 4294967296)
    (hg : ∀ x ∈ ws, XCall env g (.v x.val :: [.bp 0 0]) [⟨ty, [.v x0]⟩] M fun r b M' => r = B (p x) ∧ b = [⟨ty, [.v x0]⟩] ∧ M' = M) :
    XCall env 50 [.v (.slice A ws.length c), .fn g [0]] [⟨ty, [.v x0]⟩] M fun r b M' => r = I (idxF p ws) ∧ b = [⟨ty, [.v x0]⟩] ∧ M' = M := by
  refine xcall_of_vc Tryd.func50 rfl _ Tryd.ntmps50 _ rfl (fun _ _ => Tryd.call50 _ _) rfl (fun w0 ρ0 => ?_)
  conv => whnf
  refine loop_rule (fun i : Nat => ⟨slots 19 [(0, .v (.slice A ws.length c)), (1, .fn g [0]), (4, .v (I 0)), (7, .v (I ws.length)), (8, .v (I i))], [⟨ty, [.v x0]⟩]⟩) (fun i M' => i ≤ ws.length ∧ (∀ j, j < i → ∀ h : j < ws.length, p ws[j] = false) ∧ M' = M) (fun i => ws.length - i) 0 ?_ ?_ ?_
  · exact ⟨by simp [slots, leT], ⟨[], rfl⟩, (by first | exact Nat.zero_le _ | exact Nat.le_refl _), rfl, rfl⟩
  · exact ⟨Nat.zero_le _, fun j hj => absurd hj (Nat.not_lt_zero _), rfl⟩
  · rintro i M' ⟨hi, hp, rfl⟩
    conv => whnf
    repeat' (first | (refine ⟨⟨[], rfl⟩, _, PH.Le.refl _, PH.Le.refl _, ?_⟩; conv => whnf) | (refine caseB_true ?_; conv => whnf) | (refine caseB_false ?_; conv => whnf) | ((with_reducible refine caseB_dec (fun h => ?_) (fun h => ?_)) <;> conv => whnf) | ((with_reducible refine caseB_ndec (fun h => ?_) (fun h => ?_)) <;> conv => whnf) | ((with_reducible refine caseB_not (fun h => ?_) (fun h => ?_)) <;> conv => whnf) | (with_reducible refine @And.intro (guardVC _ _ _ _ _) _ ?_ ?_) <;> conv => whnf | (refine caseB_intro (fun h => ?_) (fun h => ?_) <;> (try simp only [Bool.not_eq_true', Bool.not_eq_false', decide_eq_true_eq, decide_eq_false_iff_not] at h) <;> conv => whnf))
    · have hi' : i < ws.length := by omega
      have hw : IntKind.i64.wrap ((i : Int) + 1) = (i : Int) + 1 := wr_id (by omega) (by omega)
      obtain ⟨hA, _, hc⟩ := hs.get hi'
      refine ⟨by omega, by omega, hA, ?_⟩
      conv => whnf
      refine ⟨ws[i].cs, hc, rfl, ?_⟩
      conv => whnf
      refine XCall.mono (hg ws[i] (List.getElem_mem hi')) fun r b M' hh => ?_
      obtain ⟨rfl, rfl, rfl⟩ := hh
      conv => whnf
      refine caseB_intro (fun hx => ?_) (fun hx => ?_)
      · conv => whnf
        exact ⟨_, PH.Le.refl _, by rw [idxF_at p ws i hi' hp hx]; rfl, rfl, rfl⟩
      · conv => whnf
        exact ⟨i + 1, ⟨by simp [slots, leT, hw], ⟨[], rfl⟩, (by first | exact Nat.zero_le _ | exact Nat.le_refl _), rfl, rfl⟩, ⟨by omega, fun j hj h => by
          rcases Nat.lt_succ_iff_lt_or_eq.1 hj with h1 | h1
          · exact hp j h1 h
          · subst h1; exact hx, rfl⟩, by omega⟩
    · exact ⟨_, PH.Le.refl _, by rw [idxF_no p ws (fun j h => hp j (by omega) h)]; rfl, rfl, rfl⟩

theorem flightOf1_ret (k : ByteArray) (w : FlA) (M : PH) : XCall env 51 [.v w.val, .bp 0 0] [⟨9, [.v (Tx k)]⟩] M fun r b M' => r = B (seq w.c.key k) ∧ b = [⟨9, [.v (Tx k)]⟩] ∧ M' = M := by
  refine xcall_of_vc Tryd.func51 rfl _ Tryd.ntmps51 _ rfl (fun _ _ => Tryd.call51 _ _) rfl (fun w0 ρ0 => ?_)
  conv => whnf
  exact ⟨_, PH.Le.refl _, rfl, rfl, rfl⟩
theorem flightOf_ret (A : Option Addr) (c n : Nat) (ws : List FlA) (k : ByteArray) (M : PH) (hs : Sl M A 11 FlA.cs ws) (hn : ws.length ≤ 1048576) (e : n = ws.length) : Ret 31 [.slice A n c, Tx k] M (I (idxF (fun w : FlA => seq w.c.key k) ws)) := by
  subst e
  refine xcall_of_vc Tryd.func31 rfl _ Tryd.ntmps31 _ rfl (fun _ _ => Tryd.call31 _ _) rfl (fun w0 ρ0 => ?_)
  conv => whnf
  refine XCall.lift (indexFuncFl1 9 (Tx k) 51 (fun w => seq w.c.key k) A c ws M hs (by omega) fun w _ => flightOf1_ret k w M) [0] ?_ (by simp) (by simp) (by simp [AV.plain]) ?_
  · simp [ren, AV.plain]
  rintro r bs' M' ⟨rfl, rfl, rfl⟩
  refine ⟨by simp [AV.plain], ?_⟩
  conv => whnf
  exact ⟨_, PH.Le.refl _, rfl, rfl⟩
theorem idx_yes {ws : List FlA} {i : Nat} (hi : i < ws.length) (h : 0 ≤ idxF (fun w : FlA => seq w.c.key ws[i].c.key) (ws.take i)) : ¬ AptG (fun x : FlA => x.c.key) ws := by
  have := idxF_any (fun w : FlA => seq w.c.key ws[i].c.key) (ws.take i)
  rw [decide_eq_true h, List.any_eq_true] at this
  obtain ⟨w, hw, e⟩ := this
  obtain ⟨j, hj, rfl⟩ := List.getElem_of_mem hw
  simp at hj e
  exact aptG_no hi (by omega) (seq_iff.1 e).symm
theorem idx_no {ws : List FlA} {i : Nat} (hi : i < ws.length) (h : ¬ 0 ≤ idxF (fun w : FlA => seq w.c.key ws[i].c.key) (ws.take i)) : ∀ b, ∀ hb : b < i, ws[i].c.key ≠ ws[b].c.key := by
  have := idxF_any (fun w : FlA => seq w.c.key ws[i].c.key) (ws.take i)
  rw [decide_eq_false h, List.any_eq_false] at this
  intro b hb e
  have := this ws[b] (by rw [List.mem_take_iff_getElem]; exact ⟨b, by omega, rfl⟩)
  simp [e, seq_self] at this
theorem flightsFault_impl (A : Option Addr) (c : Nat) (ws : List FlA) (M : PH) (hF : Fls M A c ws) : Ret 13 [.slice A ws.length c] M (I (flsFault (ws.map (·.c)))) := by
  obtain ⟨hs, hn, hcap, hin, hcaps⟩ := hF
  refine Ret.of ?_
  refine xcall_of_vc Tryd.func13 rfl _ Tryd.ntmps13 _ rfl (fun _ _ => Tryd.call13 _ _) rfl (fun w0 ρ0 => ?_)
  conv => whnf
  repeat' (first | (refine ⟨⟨[], rfl⟩, _, PH.Le.refl _, PH.Le.refl _, ?_⟩; conv => whnf) | (refine caseB_true ?_; conv => whnf) | (refine caseB_false ?_; conv => whnf) | ((with_reducible refine caseB_dec (fun h => ?_) (fun h => ?_)) <;> conv => whnf) | ((with_reducible refine caseB_ndec (fun h => ?_) (fun h => ?_)) <;> conv => whnf) | ((with_reducible refine caseB_not (fun h => ?_) (fun h => ?_)) <;> conv => whnf) | (with_reducible refine @And.intro (guardVC _ _ _ _ _) _ ?_ ?_) <;> conv => whnf | (refine caseB_intro (fun h => ?_) (fun h => ?_) <;> (try simp only [Bool.not_eq_true', Bool.not_eq_false', decide_eq_true_eq, decide_eq_false_iff_not] at h) <;> conv => whnf))
  · exact ⟨_, PH.Le.refl _, by simp [resV, flsFault, *], PH.Le.refl _⟩
  have h24 : ws.length ≤ 24 := by omega
  have ho : ∀ x ∈ ws, (x.inn M ∧ x.c.cost ≤ 1048576) ∧ x.cap := fun x hx => ⟨hin x hx, hcaps x hx⟩
  refine loop_rule (fun i : Nat => ⟨slots 69 [(0, .v (.slice A ws.length c)), (14, .v (.slice A ws.length c)), (15, .v (I ws.length)), (16, .v (I i))], []⟩) (fun i M' => i ≤ ws.length ∧ (∀ j, j < i → ∀ h : j < ws.length, (fun x : FlA => flFault x.c) ws[j] = 0) ∧ M' = M) (fun i => ws.length - i) 0 ?_ ?_ ?_
  · exact ⟨by simp [slots, leT], ⟨[], rfl⟩, (by first | exact Nat.zero_le _ | exact Nat.le_refl _), rfl, rfl⟩
  · exact ⟨Nat.zero_le _, fun j hj => absurd hj (Nat.not_lt_zero _), rfl⟩
  rintro i M' ⟨hi, hp, rfl⟩
  conv => whnf
  refine caseB_dec (fun h0 => ?_) (fun h0 => ?_)
  · have h0 : (i : Int) < ws.length := h0
    have hi' : i < ws.length := by omega
    have hw : IntKind.i64.wrap ((i : Int) + 1) = (i : Int) + 1 := wr_id (by omega) (by omega)
    obtain ⟨hA, _, hc⟩ := hs.get hi'
    have hx := ho ws[i] (List.getElem_mem hi')
    conv => whnf
    repeat' (first | (refine ⟨⟨[], rfl⟩, _, PH.Le.refl _, PH.Le.refl _, ?_⟩; conv => whnf) | (refine ⟨ws[i].cs, hc, rfl, ?_⟩; conv => whnf) | (refine ⟨by omega, by omega, hA, ?_⟩; conv => whnf) | (refine caseB_true ?_; conv => whnf) | (refine caseB_false ?_; conv => whnf) | ((with_reducible refine caseB_dec (fun h => ?_) (fun h => ?_)) <;> conv => whnf) | ((with_reducible refine caseB_ndec (fun h => ?_) (fun h => ?_)) <;> conv => whnf) | ((with_reducible refine caseB_not (fun h => ?_) (fun h => ?_)) <;> conv => whnf) | (refine Ret.go (flightFault_impl _ _ hx.1.1 hx.1.2 hx.2) ?_; conv => whnf) | (with_reducible refine @And.intro (guardVC _ _ _ _ _) _ ?_ ?_) <;> conv => whnf | (refine caseB_intro (fun h => ?_) (fun h => ?_) <;> (try simp only [Bool.not_eq_true', Bool.not_eq_false', decide_eq_true_eq, decide_eq_false_iff_not] at h) <;> conv => whnf))
    · rename_i h
      exact ⟨_, PH.Le.refl _, by rw [flsFault, if_neg (by simpa using (by omega : ¬ 24 < (ws.length : Int))), firstF_map, firstF_at hi' hp h, if_pos h]; rfl, PH.Le.refl _⟩
    · rename_i h
      exact ⟨i + 1, ⟨by simp [slots, leT, hw], ⟨_, rfl⟩, (by first | exact Nat.zero_le _ | exact Nat.le_refl _), rfl, rfl⟩, ⟨by omega, fun j hj hjl => (Nat.lt_succ_iff_lt_or_eq.1 hj).elim (fun h1 => hp j h1 hjl) (fun e => by subst e; exact h), rfl⟩, by omega⟩
  · have hi' : i = ws.length := by have : ¬ (i : Int) < ws.length := h0; omega
    subst hi'
    conv => whnf

    have e1 : firstF flFault (ws.map (·.c)) = 0 := by rw [firstF_map]; exact firstF_no fun j hj => hp j hj hj
    have e2 : flsFault (ws.map (·.c)) = if asB (Asc ((ws.map (·.c)).map (·.id))) = false then 1 else if asB (AptG Fc.key (ws.map (·.c))) = false then 6 else if asB (AptG Wr.a ((ws.map (·.c)).flatMap (·.ws))) then 0 else 6 := by
      rw [flsFault, if_neg (by simpa using (by omega : ¬ 24 < (ws.length : Int))), e1, if_neg (by simp)]
    have hp10 : ∀ j, ∀ hj : j < ws.length, ws[j].c.ws.length ≤ 10 := fun j hj => fl_ws (hp j hj hj)
    clear h0 hp ho
    intro g1 hg1
    conv => whnf
    have l0 := PH.Le.set (.cells (#[] : Array Value) 51 (0, 0)) hg1
    refine loop_rule (fun z : G1 => ⟨slots 69 [(0, .v (.slice A ws.length c)), (6, .v (.slice z.2.2.1 ((ws.take z.1).flatMap (·.c.ws)).length z.2.2.2)), (27, .v (.slice A ws.length c)), (28, .v (I ws.length)), (29, .v (I z.1))], []⟩)
      (fun z M'' => z.1 ≤ ws.length ∧ (∀ j, 0 < j → j < z.1 → ∀ h : j < ws.length, (ws[j - 1]'(by omega)).c.id < ws[j].c.id) ∧ New M' M'' z.2.1 z.2.2.1 z.2.2.2 4 Wr.cs ((ws.take z.1).flatMap (·.c.ws))) (fun z => ws.length - z.1) (0, none, some ⟨g1, 0, none⟩, 0) ?_ ?_ ?_
    · exact ⟨by simp [slots, leT], ⟨[], rfl⟩, Nat.zero_le _, rfl, rfl⟩
    · exact ⟨Nat.zero_le _, fun j h1 hj => absurd hj (Nat.not_lt_zero _), Ow.nil, l0, fun g e => nomatch e⟩
    rintro ⟨i, o, B, d⟩ M1 ⟨hi0, hq, hN⟩
    have hi0 : i ≤ ws.length := hi0
    have hq : ∀ j, 0 < j → j < i → ∀ h : j < ws.length, (ws[j - 1]'(by omega)).c.id < ws[j].c.id := hq
    have hN : New M' M1 o B d 4 Wr.cs ((ws.take i).flatMap (·.c.ws)) := hN
    conv => whnf
    refine caseB_dec (fun h0 => ?_) (fun h0 => ?_)
    · have h0 : (i : Int) < ws.length := h0
      have hi' : i < ws.length := by omega
      have hw : IntKind.i64.wrap ((i : Int) + 1) = (i : Int) + 1 := wr_id (by omega) (by omega)
      obtain ⟨hA, _, hc⟩ := (hs.mono hN.le).get hi'
      have ⟨hx, hco⟩ := hin ws[i] (List.getElem_mem hi')
      have hi2 : i - 1 < ws.length := by omega
      have hw1 : 0 < i → IntKind.i64.wrap ((i : Int) - 1) = ((i - 1 : Nat) : Int) := fun h => by rw [wrap_id (by omega) (by omega)]; omega
      have hcp' : 0 < i → M1.cells A ((IntKind.i64.wrap ((i : Int) - 1)).toNat * 11 + 0) [I ws[i - 1].c.id] := fun h => by
        obtain ⟨_, _, hcp⟩ := (hs.mono hN.le).get hi2
        rw [hw1 h]; exact cells_cut hcp 0 rfl
      have hfl := flat_len hp10 i (by omega)
      have h11 := hp10 i hi'
      conv => whnf
      repeat' (first | (refine ⟨⟨[], rfl⟩, _, PH.Le.refl _, PH.Le.refl _, ?_⟩; conv => whnf) | (refine ⟨_, hcp' (by omega), ?_⟩; conv => whnf) | (refine ⟨ws[i].cs, hc, rfl, ?_⟩; conv => whnf) | (refine ⟨by rw [hw1 (by omega)]; omega, by rw [hw1 (by omega)]; omega, hA, ?_⟩; conv => whnf) | (refine ⟨by omega, by omega, hA, ?_⟩; conv => whnf) | (refine caseB_true ?_; conv => whnf) | (refine caseB_false ?_; conv => whnf) | ((with_reducible refine caseB_dec (fun h => ?_) (fun h => ?_)) <;> conv => whnf) | ((with_reducible refine caseB_ndec (fun h => ?_) (fun h => ?_)) <;> conv => whnf) | ((with_reducible refine caseB_not (fun h => ?_) (fun h => ?_)) <;> conv => whnf) | (refine draw_rule (.light 0 <| .light 1 <| .light 2 <| .light 3 <| .light 4 <| .light 5 <| .light 6 <| .light 7 <| .light 8 <| .light 9 <| .light 10 <| .light 11 <| .light 12 <| .done) (by decide +kernel) ?_; conv => whnf) | (refine draw_rule (.light 0 <| .light 1 <| .light 2 <| .light 3 <| .light 4 <| .alt 5 false (.light 6 <| .done) .nil) (by decide +kernel) ?_; conv => whnf) | (with_reducible refine @And.intro (guardVC _ _ _ _ _) _ ?_ ?_) <;> conv => whnf | (refine caseB_intro (fun h => ?_) (fun h => ?_) <;> (try simp only [Bool.not_eq_true', Bool.not_eq_false', decide_eq_true_eq, decide_eq_false_iff_not] at h) <;> conv => whnf))
      all_goals first
        | (refine ⟨M', hN.le, ?_, PH.Le.refl _⟩; have hpos : (0 : Int) < (i : Int) := (by assumption); rw [e2, asB_false (asc_no (by omega) hi' (by assumption))]; rfl; done)
        | skip
      all_goals
        refine app_sl (te := ti51) (f := Wr.cs) (xs := (ws.take i).flatMap (·.c.ws)) (ys := ws[i].c.ws) (o := o) (hx.w.mono hN.le) hN.ow Wr.len Wr.one rfl (wr_fits _ _ (by omega)) (by omega) fun o' A' c' M2 hO hK hF => ?_
        conv => whnf
        rw [← flat_take hi'] at hO
        refine ⟨(i + 1, o', A', c'), ⟨by simp [slots, leT, hw, flat_take hi'], ⟨_, rfl⟩, Nat.zero_le _, rfl, rfl⟩, ⟨hi', fun j h1 hj hjl => (Nat.lt_succ_iff_lt_or_eq.1 hj).elim (fun h2 => hq j h1 h2 hjl) (fun e => by subst e; first | (have hpos : ¬ (0 : Int) < (j : Int) := (by assumption); omega) | (have hh : ¬ ws[j].c.id ≤ ws[j - 1].c.id := (by assumption); omega)), hN.more (PH.Le.refl _) hK hO hF⟩, by show _ - (i + 1) < _ - i; omega⟩
    have hi' : i = ws.length := by have : ¬ (i : Int) < ws.length := h0; omega
    subst hi'
    rw [List.take_length] at hN
    have hs := hs.mono hN.le
    have hA2 := hN.ow.sl Wr.len
    have hB := hN.ow.le
    rw [asB_true (asc_yes fun j h1 hj => hq j h1 hj hj), if_neg (by simp)] at e2
    have hal := flat_len hp10 ws.length (Nat.le_refl _)
    rw [List.take_length] at hal
    rw [List.flatMap_map] at e2
    clear h0 hq
    conv => whnf
    rw [List.take_length]
    generalize ws.flatMap (·.c.ws) = all at *
    refine loop_rule (fun i : Nat => ⟨slots 69 [(0, .v (.slice A ws.length c)), (6, .v (.slice B all.length d)), (52, .v (.slice A ws.length c)), (53, .v (I ws.length)), (54, .v (I i))], []⟩) (fun i M2 => i ≤ ws.length ∧ (∀ a, a < i → ∀ ha : a < ws.length, ∀ b, ∀ hb : b < a, ws[a].c.key ≠ ws[b].c.key) ∧ M2 = M1) (fun i => ws.length - i) 0 ?_ ?_ ?_
    · exact ⟨by simp [slots, leT], ⟨[], rfl⟩, Nat.zero_le _, rfl, rfl⟩
    · exact ⟨Nat.zero_le _, fun j hj => absurd hj (Nat.not_lt_zero _), rfl⟩
    rintro i M2 ⟨hi, hq, rfl⟩
    conv => whnf
    refine caseB_dec (fun h0 => ?_) (fun h0 => ?_)
    · have h0 : (i : Int) < ws.length := h0
      have hi' : i < ws.length := by omega
      have hw : IntKind.i64.wrap ((i : Int) + 1) = (i : Int) + 1 := wr_id (by omega) (by omega)
      obtain ⟨hA, _, hc⟩ := hs.get hi'
      have hcut : Sl M2 (subA A 0 11 c) 11 FlA.cs (ws.take i) := by
        have := hs.cut (l := 0) (u := i) (m := c) (Nat.zero_le _) (by omega)
        simpa using this
      have hlen : i = (ws.take i).length := by simp; omega
      have hl2 : (ws.take i).length ≤ 1048576 := by simp; omega
      conv => whnf
      repeat' (first | (refine ⟨⟨[], rfl⟩, _, PH.Le.refl _, PH.Le.refl _, ?_⟩; conv => whnf) | (refine ⟨⟨by omega, by omega, by omega⟩, ?_⟩; conv => whnf) | (refine ⟨ws[i].cs, hc, rfl, ?_⟩; conv => whnf) | (refine ⟨by omega, by omega, hA, ?_⟩; conv => whnf) | (refine caseB_true ?_; conv => whnf) | (refine caseB_false ?_; conv => whnf) | ((with_reducible refine caseB_dec (fun h => ?_) (fun h => ?_)) <;> conv => whnf) | ((with_reducible refine caseB_ndec (fun h => ?_) (fun h => ?_)) <;> conv => whnf) | ((with_reducible refine caseB_not (fun h => ?_) (fun h => ?_)) <;> conv => whnf) | (refine draw_rule (.light 0 <| .light 1 <| .light 2 <| .light 3 <| .light 4 <| .light 5 <| .light 6 <| .light 7 <| .light 8 <| .light 9 <| .light 10 <| .light 11 <| .light 12 <| .done) (by decide +kernel) ?_; conv => whnf) | (refine draw_rule (.light 0 <| .light 1 <| .light 2 <| .light 3 <| .light 4 <| .alt 5 false (.light 6 <| .done) .nil) (by decide +kernel) ?_; conv => whnf) | (refine Ret.go (flightOf_ret (subA A 0 11 c) c i (ws.take i) ws[i].c.key _ hcut hl2 hlen) ?_; conv => whnf) | (with_reducible refine @And.intro (guardVC _ _ _ _ _) _ ?_ ?_) <;> conv => whnf | (refine caseB_intro (fun h => ?_) (fun h => ?_) <;> (try simp only [Bool.not_eq_true', Bool.not_eq_false', decide_eq_true_eq, decide_eq_false_iff_not] at h) <;> conv => whnf))
      all_goals first
        | (refine ⟨_, PH.Le.refl _, ?_, hN.le⟩; rw [e2, asB_false (fun hh => idx_yes hi' (by assumption) (keyOf_apt.1 hh))]; rfl; done)
        | exact ⟨i + 1, ⟨by simp [slots, leT, hw], ⟨_, rfl⟩, Nat.zero_le _, rfl, rfl⟩, ⟨by omega, fun a ha ha' b hb => by
            rcases Nat.lt_succ_iff_lt_or_eq.1 ha with h1 | h1
            · exact hq a h1 ha' b hb
            · subst h1; exact idx_no hi' (by assumption) b hb, rfl⟩, by omega⟩
    have hi' : i = ws.length := by have : ¬ (i : Int) < ws.length := h0; omega
    subst hi'
    rw [asB_true (keyOf_apt.2 (aptG_yes fun a ha => hq a ha ha)), if_neg (by simp)] at e2
    conv => whnf
    repeat' (first | (refine ⟨⟨[], rfl⟩, _, PH.Le.refl _, PH.Le.refl _, ?_⟩; conv => whnf) | (refine caseB_true ?_; conv => whnf) | (refine caseB_false ?_; conv => whnf) | ((with_reducible refine caseB_dec (fun h => ?_) (fun h => ?_)) <;> conv => whnf) | ((with_reducible refine caseB_ndec (fun h => ?_) (fun h => ?_)) <;> conv => whnf) | ((with_reducible refine caseB_not (fun h => ?_) (fun h => ?_)) <;> conv => whnf) | (refine Ret.go (areTwice_ret B d all _ hA2 (by omega) hB) ?_; conv => whnf) | (with_reducible refine @And.intro (guardVC _ _ _ _ _) _ ?_ ?_) <;> conv => whnf | (refine caseB_intro (fun h => ?_) (fun h => ?_) <;> (try simp only [Bool.not_eq_true', Bool.not_eq_false', decide_eq_true_eq, decide_eq_false_iff_not] at h) <;> conv => whnf))
    all_goals exact ⟨_, PH.Le.refl _, by rw [e2]; simp [resV, *], hN.le⟩
end Go.Proofs.YtnnfbjbfdoepmaaDoor
