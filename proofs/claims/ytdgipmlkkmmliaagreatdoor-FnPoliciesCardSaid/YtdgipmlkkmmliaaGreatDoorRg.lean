/-
  A DATE READ, by both.
-/
import Derived.Test.YtdgipmlkkmmliaaGreatDoorRf
namespace Go.Proofs.YtdgipmlkkmmliaaGreatDoor
set_option maxRecDepth 100000
set_option linter.unusedSimpArgs false
set_option linter.unusedVariables false
open Go.Xe
theorem fmt_list (s : Int) (x : Dt) : (fmtD s x).data.toList = (wdT (wd s)).data.toList ++ [44, 32] ++ [dgt (x.d / 10 % 10), dgt (x.d % 10)] ++ [32] ++ (monT x.m).data.toList ++ [32] ++ [dgt (x.y / 100 / 10 % 10), dgt (x.y / 100 % 10), dgt (x.y / 10 % 10), dgt (x.y % 10)] ++ [32] ++ [dgt (x.h / 10 % 10), dgt (x.h % 10)] ++ [58] ++ [dgt (x.mi / 10 % 10), dgt (x.mi % 10)] ++ [58] ++ [dgt (x.s / 10 % 10), dgt (x.s % 10)] ++ [32, 71, 77, 84] := by
  unfold fmtD two
  simp only [ByteArray.data_append, Array.toList_append]
  rfl
theorem list3 {b : ByteArray} (h : b.size = 3) : ∃ p q r, b.data.toList = [p, q, r] := by
  rw [size_list] at h
  match hb : b.data.toList with
  | [p, q, r] => exact ⟨p, q, r, rfl⟩
  | [] => rw [hb] at h; simp at h
  | [p] => rw [hb] at h; simp at h
  | [p, q] => rw [hb] at h; simp at h
  | p :: q :: r :: u :: l => rw [hb] at h; simp at h
theorem fmt_parts {s : Int} {x : Dt} (hx : IsDate s x) (h1 : s ≤ 253402300799) : (fmtD s x).size = 29 ∧ (fmtD s x).extract 12 16 = two (x.y / 100) ++ two x.y ∧ (fmtD s x).extract 5 7 = two x.d ∧ (fmtD s x).extract 17 19 = two x.h ∧ (fmtD s x).extract 20 22 = two x.mi ∧ (fmtD s x).extract 23 25 = two x.s := by
  obtain ⟨hy, hm, _⟩ := hx.rest h1
  obtain ⟨a, b, c, ew⟩ := list3 (wdT_size (wd_in s))
  obtain ⟨a', b', c', em⟩ := list3 (monT_size hm)
  have hl := fmt_list s x
  rw [ew, em] at hl
  refine ⟨by rw [size_list, hl]; rfl, ba_ext ?_, ba_ext ?_, ba_ext ?_, ba_ext ?_, ba_ext ?_⟩
  · rw [ext_list, hl, ByteArray.data_append, Array.toList_append]; rfl
  all_goals rw [ext_list, hl]; rfl
theorem dgt_nat {k : Int} (h0 : 0 ≤ k) (h1 : k ≤ 9) : (dgt k).toNat = 48 + k.toNat := by
  unfold dgt
  have e : (48 + k).toNat = 48 + k.toNat := by omega
  rw [e]
  show (48 + k.toNat) % 256 = _
  omega
theorem pu_step {k : Int} (h0 : 0 ≤ k) (h1 : k ≤ 9) (acc : Nat) (ha : acc ≤ 100000) (r : List UInt8) : Lib.parseUintM (2 ^ 64 - 1) acc (dgt k :: r) = Lib.parseUintM (2 ^ 64 - 1) (acc * 10 + k.toNat) r := by
  have e := dgt_nat h0 h1
  rw [Lib.parseUintM, if_pos (by rw [e]; omega), if_neg (by omega), if_neg (by rw [e]; omega), e]
  congr 1
  omega
theorem pi_digits {k : Int} (h0 : 0 ≤ k) (h1 : k ≤ 9) (r : List UInt8) (u : Nat) (h : Lib.parseUintM (2 ^ 64 - 1) 0 (dgt k :: r) = .ok u) (hu : u ≤ 1000000) : Lib.parseIntB 64 (dgt k :: r) = .ok (u : Int) := by
  have e := dgt_nat h0 h1
  unfold Lib.parseIntB
  have n43 : ¬ ((dgt k).toNat = 43 ∨ (dgt k).toNat = 45) := by omega
  have n45 : ¬ (dgt k).toNat = 45 := by omega
  have hp : Lib.parseUintB 64 (dgt k :: r) = .ok u := by unfold Lib.parseUintB; rw [if_neg (by simp)]; exact h
  simp only [if_neg n43, hp]
  rw [if_neg (by omega), if_neg (by omega), if_neg n45]
theorem dgI_two {n : Int} (h0 : 0 ≤ n) (h1 : n ≤ 99) : dgI (two n) = n := by
  have hp : Lib.parseIntB 64 (two n).data.toList = .ok (((n / 10 % 10).toNat * 10 + (n % 10).toNat : Nat) : Int) := by
    show Lib.parseIntB 64 [dgt (n / 10 % 10), dgt (n % 10)] = _
    refine pi_digits (by omega) (by omega) _ _ ?_ (by omega)
    rw [pu_step (by omega) (by omega) _ (by omega), pu_step (by omega) (by omega) _ (by omega), Lib.parseUintM]
    congr 1
    omega
  unfold dgI
  rw [hp]
  show ((_ : Nat) : Int) = n
  omega
theorem dgI_four {y : Int} (h0 : 0 ≤ y) (h1 : y ≤ 9999) : dgI (two (y / 100) ++ two y) = y := by
  have hp : Lib.parseIntB 64 (two (y / 100) ++ two y).data.toList = .ok ((((y / 100 / 10 % 10).toNat * 10 + (y / 100 % 10).toNat) * 10 + (y / 10 % 10).toNat) * 10 + (y % 10).toNat : Nat) := by
    rw [ByteArray.data_append, Array.toList_append]
    show Lib.parseIntB 64 [dgt (y / 100 / 10 % 10), dgt (y / 100 % 10), dgt (y / 10 % 10), dgt (y % 10)] = _
    refine pi_digits (by omega) (by omega) _ _ ?_ (by omega)
    rw [pu_step (by omega) (by omega) _ (by omega), pu_step (by omega) (by omega) _ (by omega), pu_step (by omega) (by omega) _ (by omega), pu_step (by omega) (by omega) _ (by omega), Lib.parseUintM]
    congr 1
    omega
  unfold dgI
  rw [hp]
  show ((_ : Nat) : Int) = y
  omega
theorem byI_of {b : ByteArray} {l : List UInt8} (h : b.data.toList = l) : byI b = l.map fun c => (c.toNat : Int) := by
  unfold byI
  rw [h]
theorem dgt_int {k : Int} (h0 : 0 ≤ k) (h1 : k ≤ 9) : ((dgt k).toNat : Int) = 48 + k := by rw [dgt_nat h0 h1]; omega
theorem allB_of {b : ByteArray} {l : List Int} (h : byI b = l) (hl : ∀ c ∈ l, digitB c = true) : allB digitB b = true := allB_true fun j hj => by
  have := byI_get hj
  rw [h] at this
  exact hl _ (List.mem_of_getElem? this)
theorem digB {k : Int} (h0 : 0 ≤ k) (h1 : k ≤ 9) : digitB (48 + k) = true := by unfold digitB; simp; omega
theorem stepD_dig {n k : Int} (h0 : 0 ≤ n) (h : n ≤ 100000) (hk : 0 ≤ k) (h1 : k ≤ 9) : stepD n (48 + k) = 10 * n + k := by unfold stepD; rw [if_pos (by omega)]; omega
theorem deltaV_two {n : Int} (h0 : 0 ≤ n) (h1 : n ≤ 99) : deltaV (two n) = n := by
  have e : byI (two n) = [48 + n / 10 % 10, 48 + n % 10] := by
    rw [byI_of (l := [dgt (n / 10 % 10), dgt (n % 10)]) rfl]
    show [((dgt _).toNat : Int), ((dgt _).toNat : Int)] = _
    rw [dgt_int (by omega) (by omega), dgt_int (by omega) (by omega)]
  unfold deltaV
  rw [if_pos ⟨⟨by rw [two_size]; decide, by rw [two_size]; decide⟩, allB_of e (by
    intro c hc
    simp only [List.mem_cons, List.not_mem_nil, or_false] at hc
    rcases hc with rfl | rfl <;> exact digB (by omega) (by omega))⟩, e]
  unfold dl
  rw [stepD_dig (by omega) (by omega) (by omega) (by omega)]
  unfold dl
  rw [stepD_dig (by omega) (by omega) (by omega) (by omega)]
  unfold dl
  omega
theorem deltaV_four {y : Int} (h0 : 0 ≤ y) (h1 : y ≤ 9999) : deltaV (two (y / 100) ++ two y) = y := by
  have hz : (two (y / 100) ++ two y).size = 4 := by rw [ByteArray.size_append]; rfl
  have e : byI (two (y / 100) ++ two y) = [48 + y / 100 / 10 % 10, 48 + y / 100 % 10, 48 + y / 10 % 10, 48 + y % 10] := by
    rw [byI_of (l := [dgt (y / 100 / 10 % 10), dgt (y / 100 % 10), dgt (y / 10 % 10), dgt (y % 10)]) (by rw [ByteArray.data_append, Array.toList_append]; rfl)]
    show [((dgt _).toNat : Int), ((dgt _).toNat : Int), ((dgt _).toNat : Int), ((dgt _).toNat : Int)] = _
    rw [dgt_int (by omega) (by omega), dgt_int (by omega) (by omega), dgt_int (by omega) (by omega), dgt_int (by omega) (by omega)]
  unfold deltaV
  rw [if_pos ⟨⟨by rw [hz]; decide, by rw [hz]; decide⟩, allB_of e (by
    intro c hc
    simp only [List.mem_cons, List.not_mem_nil, or_false] at hc
    rcases hc with rfl | rfl | rfl | rfl <;> exact digB (by omega) (by omega))⟩, e]
  unfold dl
  rw [stepD_dig (by omega) (by omega) (by omega) (by omega)]
  unfold dl
  rw [stepD_dig (by omega) (by omega) (by omega) (by omega)]
  unfold dl
  rw [stepD_dig (by omega) (by omega) (by omega) (by omega)]
  unfold dl
  rw [stepD_dig (by omega) (by omega) (by omega) (by omega)]
  unfold dl
  omega
def flds (g : ByteArray → Int) (t : ByteArray) (m : Int) : Dt := ⟨g (t.extract 12 16), m, g (t.extract 5 7), g (t.extract 17 19), g (t.extract 20 22), g (t.extract 23 25)⟩
open Classical in
noncomputable def fmtS (s : Int) : ByteArray := if h : ∃ x, IsDate s x then fmtD s (Classical.choose h) else ByteArray.empty
theorem fmtS_at {s : Int} (h0 : 0 ≤ s) (h1 : s ≤ 253402300799) : ∃ x, IsDate s x ∧ fmtS s = fmtD s x := by
  have h := date_is h0 h1
  refine ⟨Classical.choose h, Classical.choose_spec h, ?_⟩
  unfold fmtS
  rw [dif_pos h]
noncomputable def goodP (g : ByteArray → Int) (t : ByteArray) (m : Int) : Bool := dtOk (flds g t m) && seq (fmtS (secsF (flds g t m))) t
theorem flds_fmt {t : ByteArray} {s : Int} (h0 : 0 ≤ s) (h1 : s ≤ 253402300799) (h : fmtS s = t) (m : Int) : flds dgI t m = flds deltaV t m := by
  obtain ⟨x, hx, e⟩ := fmtS_at h0 h1
  obtain ⟨hy, hm, hd, hh, hmi, hs⟩ := hx.rest h1
  obtain ⟨_, p1, p2, p3, p4, p5⟩ := fmt_parts hx h1
  rw [e] at h
  subst h
  unfold flds
  rw [p1, p2, p3, p4, p5, dgI_four (by omega) (by omega), deltaV_four (by omega) (by omega), dgI_two (by omega) (by omega), deltaV_two (by omega) (by omega), dgI_two (by omega) (by omega), deltaV_two (by omega) (by omega), dgI_two (by omega) (by omega), deltaV_two (by omega) (by omega), dgI_two (by omega) (by omega), deltaV_two (by omega) (by omega)]
theorem good_flds {g : ByteArray → Int} {t : ByteArray} {m : Int} (h : goodP g t m = true) : flds dgI t m = flds deltaV t m := by
  unfold goodP at h
  rw [Bool.and_eq_true] at h
  have hb := secs_bound h.1
  exact flds_fmt hb.1 hb.2 (seq_iff.1 h.2) m
theorem good_eq (t : ByteArray) (m : Int) : goodP dgI t m = goodP deltaV t m := by
  rw [Bool.eq_iff_iff]
  constructor
  · intro h
    have e := good_flds h
    unfold goodP at h ⊢
    rw [← e]
    exact h
  · intro h
    have e := good_flds h
    unfold goodP at h ⊢
    rw [e]
    exact h
def mIdx (t : ByteArray) : Int := idxF (fun s => seq (t.extract 8 11) s) monL + 1
noncomputable def dateV (t : ByteArray) : Int := if t.size = 29 ∧ goodP deltaV t (mIdx t) = true then secsF (flds deltaV t (mIdx t)) else -1
theorem dateV_in (t : ByteArray) : -1 ≤ dateV t ∧ dateV t ≤ 253402300799 := by
  unfold dateV
  split
  · rename_i h
    have h := h.2
    unfold goodP at h
    rw [Bool.and_eq_true] at h
    have := secs_bound h.1
    omega
  · omega
theorem mIdx_of {t : ByteArray} {m : Int} (hm : 1 ≤ m ∧ m ≤ 12) (h : seq (t.extract 8 11) (monT m) = true) : mIdx t = m := by
  have h := seq_iff.1 h
  unfold mIdx
  rw [h]
  rcases mon_cases hm with rfl | rfl | rfl | rfl | rfl | rfl | rfl | rfl | rfl | rfl | rfl | rfl <;> decide +kernel
theorem mIdx_no {t : ByteArray} (h : ∀ m : Int, 1 ≤ m → m ≤ 12 → seq (t.extract 8 11) (monT m) = false) : mIdx t = 0 := by
  unfold mIdx
  rw [idxF_no]
  · rfl
  · intro j hj0
    have hj : j < 12 := hj0
    have e : monL[j]'hj0 = monT ((j : Int) + 1) := by
      clear h
      have : j = 0 ∨ j = 1 ∨ j = 2 ∨ j = 3 ∨ j = 4 ∨ j = 5 ∨ j = 6 ∨ j = 7 ∨ j = 8 ∨ j = 9 ∨ j = 10 ∨ j = 11 := by omega
      rcases this with rfl | rfl | rfl | rfl | rfl | rfl | rfl | rfl | rfl | rfl | rfl | rfl <;> rfl
    rw [e]
    exact h _ (by omega) (by omega)
theorem mIdx_in (t : ByteArray) : 0 ≤ mIdx t ∧ mIdx t ≤ 12 := by
  by_cases h : ∃ m : Int, (1 ≤ m ∧ m ≤ 12) ∧ seq (t.extract 8 11) (monT m) = true
  · obtain ⟨m, hm, e⟩ := h
    rw [mIdx_of hm e]; omega
  · rw [mIdx_no fun m h1 h2 => by
      cases he : seq (t.extract 8 11) (monT m) with
      | false => rfl
      | true => exact absurd ⟨m, ⟨h1, h2⟩, he⟩ h]
    omega
theorem mIdx_at {t : ByteArray} (h : 1 ≤ mIdx t) : seq (t.extract 8 11) (monT (mIdx t)) = true := by
  by_cases hm : ∃ m : Int, (1 ≤ m ∧ m ≤ 12) ∧ seq (t.extract 8 11) (monT m) = true
  · obtain ⟨m, h1, h2⟩ := hm
    rw [mIdx_of h1 h2]; exact h2
  · exfalso
    rw [mIdx_no fun m h1 h2 => by
      cases he : seq (t.extract 8 11) (monT m) with
      | false => rfl
      | true => exact absurd ⟨m, ⟨h1, h2⟩, he⟩ hm] at h
    omega
theorem indexM_ret (A : Option Addr) (c : Nat) (ws : List ByteArray) (t : ByteArray) (M : PH) (hs : Sl M A 1 stC ws) (hn : ws.length ≤ 1048576) : Ret 108 [.slice A ws.length c, Tx t] M (I (idxF (fun s => seq t s) ws)) := by
  refine xcall_of_vc Tryz.func108 rfl _ Tryz.ntmps108 _ rfl (fun _ _ => Tryz.call108 _ _) rfl (fun w0 ρ0 => ?_)
  conv => whnf
  refine loop_rule (fun i : Nat => ⟨slots 19 [(0, .v (.slice A ws.length c)), (1, .v (Tx t)), (7, .v (I ws.length)), (8, .v (I i))], []⟩) (fun i M' => i ≤ ws.length ∧ (∀ j, j < i → ∀ h : j < ws.length, seq t ws[j] = false) ∧ M' = M) (fun i => ws.length - i) 0 ?_ ?_ ?_
  · exact ⟨by simp [slots, leT], ⟨[], rfl⟩, Nat.zero_le _, rfl, rfl⟩
  · exact ⟨Nat.zero_le _, fun j hj => absurd hj (Nat.not_lt_zero _), rfl⟩
  rintro i M' ⟨hi, hp, rfl⟩
  conv => whnf
  repeat' (first | (refine ⟨⟨[], rfl⟩, _, PH.Le.refl _, PH.Le.refl _, ?_⟩; conv => whnf) | (refine caseB_true ?_; conv => whnf) | (refine caseB_false ?_; conv => whnf) | ((with_reducible refine caseB_dec (fun h => ?_) (fun h => ?_)) <;> conv => whnf) | ((with_reducible refine caseB_ndec (fun h => ?_) (fun h => ?_)) <;> conv => whnf) | ((with_reducible refine caseB_not (fun h => ?_) (fun h => ?_)) <;> conv => whnf) | (with_reducible refine @And.intro (guardVC _ _ _ _ _) _ ?_ ?_) <;> conv => whnf | (refine caseB_intro (fun h => ?_) (fun h => ?_) <;> (try simp only [Bool.not_eq_true', Bool.not_eq_false', decide_eq_true_eq, decide_eq_false_iff_not] at h) <;> conv => whnf))
  · have hi' : i < ws.length := by omega
    have hw : IntKind.i64.wrap ((i : Int) + 1) = (i : Int) + 1 := wr_id (by omega) (by omega)
    obtain ⟨hA, _, hc⟩ := hs.get hi'
    repeat' (first | (refine ⟨⟨[], rfl⟩, _, PH.Le.refl _, PH.Le.refl _, ?_⟩; conv => whnf) | (refine ⟨_, hc, ?_⟩; conv => whnf) | (refine ⟨by omega, by omega, hA, ?_⟩; conv => whnf) | (refine caseB_true ?_; conv => whnf) | (refine caseB_false ?_; conv => whnf) | ((with_reducible refine caseB_dec (fun h => ?_) (fun h => ?_)) <;> conv => whnf) | ((with_reducible refine caseB_ndec (fun h => ?_) (fun h => ?_)) <;> conv => whnf) | ((with_reducible refine caseB_not (fun h => ?_) (fun h => ?_)) <;> conv => whnf) | (with_reducible refine @And.intro (guardVC _ _ _ _ _) _ ?_ ?_) <;> conv => whnf | (refine caseB_intro (fun h => ?_) (fun h => ?_) <;> (try simp only [Bool.not_eq_true', Bool.not_eq_false', decide_eq_true_eq, decide_eq_false_iff_not] at h) <;> conv => whnf))
    · rename_i h
      exact ⟨_, PH.Le.refl _, by rw [idxF_at _ ws i hi' hp h]; rfl, rfl⟩
    · rename_i h
      exact ⟨i + 1, ⟨by simp [slots, leT, hw], ⟨_, rfl⟩, Nat.zero_le _, rfl, rfl⟩, ⟨by omega, fun j hj hjl => (Nat.lt_succ_iff_lt_or_eq.1 hj).elim (fun h1 => hp j h1 hjl) (fun e => by subst e; exact h), rfl⟩, by omega⟩
  · exact ⟨_, PH.Le.refl _, by rw [idxF_no _ ws fun j h => hp j (by omega) h]; rfl, rfl⟩
theorem fmtS_impl (s : Int) (h0 : 0 ≤ s) (h1 : s ≤ 253402300799) (M : PH) (hL : Lw M) : Ret 181 [I s] M (Tx (fmtS s)) := by
  obtain ⟨x, hx, e⟩ := fmtS_at h0 h1
  rw [e]
  exact formatDate_ret s h0 h1 x hx M hL
theorem fmtS_spec (s : Int) (h0 : 0 ≤ s) (h1 : s ≤ 253402300799) (M : PH) : Ret 153 [I s] M (Tx (fmtS s)) := by
  obtain ⟨x, hx, e⟩ := fmtS_at h0 h1
  rw [e]
  exact l3Format_ret s h0 h1 x hx M
end Go.Proofs.YtdgipmlkkmmliaaGreatDoor
