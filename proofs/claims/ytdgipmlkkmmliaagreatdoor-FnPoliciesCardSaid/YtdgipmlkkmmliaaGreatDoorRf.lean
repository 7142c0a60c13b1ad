/-
  THE TEXT OF A DATE, by both.
-/
import Derived.Test.YtdgipmlkkmmliaaGreatDoorRe
namespace Go.Proofs.YtdgipmlkkmmliaaGreatDoor
set_option maxRecDepth 100000
set_option linter.unusedSimpArgs false
set_option linter.unusedVariables false
open Go.Xe
def dgt (k : Int) : UInt8 := UInt8.ofNat (48 + k).toNat
def two (n : Int) : ByteArray := ⟨#[dgt (n / 10 % 10), dgt (n % 10)]⟩
theorem size3 (a b c : UInt8) : (⟨#[a, b, c]⟩ : ByteArray).size = 3 := rfl
theorem two_size (n : Int) : (two n).size = 2 := rfl
theorem two_nums (a b : Int) : strOfNums [48 + a, 48 + b] = ⟨#[dgt a, dgt b]⟩ := rfl
theorem cells2 {M : PH} {g : Nat} {a b : Value} {t : TypeId} {fz : Nat × Nat} : ∀ (i : Nat) (x : Value), [a, b][i]? = some x → (M.set g (.cells #[a, b] t fz)).cell ((⟨g, 0, none⟩ : Addr).add (0 + i)) = some x := fun i x hx => by
  rw [add_at]
  simp only [PH.cell, PH.set_same]
  match i with
  | 0 => simpa using hx
  | 1 => simpa using hx
  | i + 2 => simp at hx
theorem twoDigits_ret (n : Int) (h0 : 0 ≤ n) (h1 : n ≤ 99) (M : PH) : Ret 200 [I n] M (Tx (two n)) := by
  have q1 : IntKind.i64.wrap (n.tdiv 10) = n / 10 := by rw [td h0]; exact wi (by omega) (by omega)
  have q2 : n.tmod 10 = n % 10 := tm h0
  have q3 : IntKind.u8.wrap (n / 10) = n / 10 := w8 (by omega) (by omega)
  have q4 : IntKind.u8.wrap (n % 10) = n % 10 := w8 (by omega) (by omega)
  have q5 : IntKind.u8.wrap (48 + n / 10) = 48 + n / 10 := w8 (by omega) (by omega)
  have q6 : IntKind.u8.wrap (48 + n % 10) = 48 + n % 10 := w8 (by omega) (by omega)
  have q7 : n / 10 % 10 = n / 10 := by omega
  refine Ret.of ?_
  refine xcall_of_vc Tryz.func200 rfl _ Tryz.ntmps200 _ rfl (fun _ _ => Tryz.call200 _ _) rfl (fun w0 ρ0 => ?_)
  conv => whnf
  refine And.intro (by decide) ?_
  conv => whnf
  refine And.intro (by decide) ?_
  conv => whnf
  rw [q1, q2, q3, q4, q5, q6]
  intro g hg
  conv => whnf
  refine ⟨[48 + n / 10, 48 + n % 10], ⟨rfl, .inr ⟨⟨g, 0, none⟩, rfl, cells2⟩⟩, ?_⟩
  conv => whnf
  exact ⟨_, PH.Le.refl _, by unfold two; rw [q7]; rfl, PH.Le.set _ hg⟩
theorem l3Two_ret (n : Int) (h0 : 0 ≤ n) (h1 : n ≤ 99999) (M : PH) : Ret 175 [I n] M (Tx (two n)) := by
  have q1 : IntKind.i64.wrap (n.tdiv 10) = n / 10 := by rw [td h0]; exact wi (by omega) (by omega)
  have q2 : n.tmod 10 = n % 10 := tm h0
  have q3 : (n / 10).tmod 10 = n / 10 % 10 := tm (by omega)
  have q4 : IntKind.i64.wrap (48 + n / 10 % 10) = 48 + n / 10 % 10 := wi (by omega) (by omega)
  have q5 : IntKind.i64.wrap (48 + n % 10) = 48 + n % 10 := wi (by omega) (by omega)
  have q6 : IntKind.u8.wrap (48 + n / 10 % 10) = 48 + n / 10 % 10 := w8 (by omega) (by omega)
  have q7 : IntKind.u8.wrap (48 + n % 10) = 48 + n % 10 := w8 (by omega) (by omega)
  refine Ret.of ?_
  refine xcall_of_vc Tryz.func175 rfl _ Tryz.ntmps175 _ rfl (fun _ _ => Tryz.call175 _ _) rfl (fun w0 ρ0 => ?_)
  conv => whnf
  refine And.intro (by decide) ?_
  conv => whnf
  refine And.intro (by decide) ?_
  conv => whnf
  refine And.intro (by decide) ?_
  conv => whnf
  rw [q1, q2, q3, q4, q5, q6, q7]
  intro g hg
  conv => whnf
  refine ⟨[48 + n / 10 % 10, 48 + n % 10], ⟨rfl, .inr ⟨⟨g, 0, none⟩, rfl, cells2⟩⟩, ?_⟩
  conv => whnf
  exact ⟨_, PH.Le.refl _, rfl, PH.Le.set _ hg⟩
def wd (s : Int) : Int := (s / 86400 + 4) % 7
theorem weekday_ret (s : Int) (h0 : 0 ≤ s) (h1 : s ≤ 253402300799) (M : PH) : Ret 199 [I s] M (I (wd s)) := by
  have q1 : IntKind.i64.wrap (s.tdiv 86400) = s / 86400 := by rw [td h0]; exact wi (by omega) (by omega)
  have q2 : IntKind.i64.wrap (s / 86400 + 4) = s / 86400 + 4 := wi (by omega) (by omega)
  have q3 : (s / 86400 + 4).tmod 7 = (s / 86400 + 4) % 7 := tm (by omega)
  refine xcall_of_vc Tryz.func199 rfl _ Tryz.ntmps199 _ rfl (fun _ _ => Tryz.call199 _ _) rfl (fun w0 ρ0 => ?_)
  conv => whnf
  repeat' (first | (refine ⟨⟨[], rfl⟩, _, PH.Le.refl _, PH.Le.refl _, ?_⟩; conv => whnf) | (refine And.intro (by decide) ?_; conv => whnf) | (refine caseB_true ?_; conv => whnf) | (refine caseB_false ?_; conv => whnf) | ((with_reducible refine caseB_dec (fun h => ?_) (fun h => ?_)) <;> conv => whnf) | ((with_reducible refine caseB_ndec (fun h => ?_) (fun h => ?_)) <;> conv => whnf) | ((with_reducible refine caseB_not (fun h => ?_) (fun h => ?_)) <;> conv => whnf) | (with_reducible refine @And.intro (guardVC _ _ _ _ _) _ ?_ ?_) <;> conv => whnf | (refine caseB_intro (fun h => ?_) (fun h => ?_) <;> (try simp only [Bool.not_eq_true', Bool.not_eq_false', decide_eq_true_eq, decide_eq_false_iff_not] at h) <;> conv => whnf))
  refine ⟨_, PH.Le.refl _, ?_, rfl⟩
  show I _ = I _
  rw [q1, q2, q3]
  rfl
def monL : List ByteArray := [⟨#[74, 97, 110]⟩, ⟨#[70, 101, 98]⟩, ⟨#[77, 97, 114]⟩, ⟨#[65, 112, 114]⟩, ⟨#[77, 97, 121]⟩, ⟨#[74, 117, 110]⟩, ⟨#[74, 117, 108]⟩, ⟨#[65, 117, 103]⟩, ⟨#[83, 101, 112]⟩, ⟨#[79, 99, 116]⟩, ⟨#[78, 111, 118]⟩, ⟨#[68, 101, 99]⟩]
def wdL : List ByteArray := [⟨#[83, 117, 110]⟩, ⟨#[77, 111, 110]⟩, ⟨#[84, 117, 101]⟩, ⟨#[87, 101, 100]⟩, ⟨#[84, 104, 117]⟩, ⟨#[70, 114, 105]⟩, ⟨#[83, 97, 116]⟩]
def monT (m : Int) : ByteArray := monL.getD (m - 1).toNat ByteArray.empty
def wdT (w : Int) : ByteArray := wdL.getD w.toNat ByteArray.empty
theorem monthNames_ret (M : PH) : ACall env 177 [] M fun r M' => ∃ g, M g = none ∧ r = .slice (some ⟨g, 0, none⟩) 12 12 ∧ M' = M.set g (.cells (monL.map Value.string).toArray 9 (0, 0)) := by
  refine xcall_of_vc Tryz.func177 rfl _ Tryz.ntmps177 _ rfl (fun _ _ => Tryz.call177 _ _) rfl (fun w0 ρ0 => ?_)
  conv => whnf
  intro g hg
  conv => whnf
  exact ⟨_, PH.Le.refl _, g, hg, rfl, rfl⟩
theorem monthNames_new (M : PH) : ACall env 177 [] M fun r M' => ∃ g, r = .slice (some ⟨g, 0, none⟩) 12 12 ∧ Sl M' (some ⟨g, 0, none⟩) 1 stC monL ∧ M.Le M' :=
  (monthNames_ret M).mono fun r M' ⟨g, hg, hr, hM⟩ => ⟨g, hr, by subst hM; exact sl_full st_len M g monL 9 (0, 0), by subst hM; exact PH.Le.set _ hg⟩
def fmtD (s : Int) (x : Dt) : ByteArray := wdT (wd s) ++ ⟨#[44, 32]⟩ ++ two x.d ++ ⟨#[32]⟩ ++ monT x.m ++ ⟨#[32]⟩ ++ (two (x.y / 100) ++ two x.y) ++ ⟨#[32]⟩ ++ two x.h ++ ⟨#[58]⟩ ++ two x.mi ++ ⟨#[58]⟩ ++ two x.s ++ ⟨#[32, 71, 77, 84]⟩
theorem wd_in (s : Int) : 0 ≤ wd s ∧ wd s ≤ 6 := by unfold wd; omega
theorem wd_cases {w : Int} (h : 0 ≤ w ∧ w ≤ 6) : w = 0 ∨ w = 1 ∨ w = 2 ∨ w = 3 ∨ w = 4 ∨ w = 5 ∨ w = 6 := by omega
theorem mon_cases {m : Int} (h : 1 ≤ m ∧ m ≤ 12) : m = 1 ∨ m = 2 ∨ m = 3 ∨ m = 4 ∨ m = 5 ∨ m = 6 ∨ m = 7 ∨ m = 8 ∨ m = 9 ∨ m = 10 ∨ m = 11 ∨ m = 12 := by omega
theorem monT_size {m : Int} (h : 1 ≤ m ∧ m ≤ 12) : (monT m).size = 3 := by
  rcases mon_cases h with rfl | rfl | rfl | rfl | rfl | rfl | rfl | rfl | rfl | rfl | rfl | rfl <;> rfl
theorem wdT_size {w : Int} (h : 0 ≤ w ∧ w ≤ 6) : (wdT w).size = 3 := by
  rcases wd_cases h with rfl | rfl | rfl | rfl | rfl | rfl | rfl <;> rfl
def monA12 : ByteArray := ⟨#[74, 97, 110, 70, 101, 98, 77, 97, 114, 65, 112, 114, 77, 97, 121, 74, 117, 110, 74, 117, 108, 65, 117, 103, 83, 101, 112, 79, 99, 116, 78, 111, 118, 68, 101, 99]⟩
def wdA7 : ByteArray := ⟨#[83, 117, 110, 77, 111, 110, 84, 117, 101, 87, 101, 100, 84, 104, 117, 70, 114, 105, 83, 97, 116]⟩
theorem monA_ext {m : Int} (h : 1 ≤ m ∧ m ≤ 12) : monA12.extract (3 * m - 3).toNat (3 * m).toNat = monT m := by
  rcases mon_cases h with rfl | rfl | rfl | rfl | rfl | rfl | rfl | rfl | rfl | rfl | rfl | rfl <;> decide +kernel
theorem wdA_ext {w : Int} (h : 0 ≤ w ∧ w ≤ 6) : wdA7.extract (3 * w).toNat (3 * w + 3).toNat = wdT w := by
  rcases wd_cases h with rfl | rfl | rfl | rfl | rfl | rfl | rfl <;> decide +kernel
theorem itoa_year {y : Int} (h0 : 1000 ≤ y) (h1 : y ≤ 9999) : (⟨(Lib.itoa y).toArray⟩ : ByteArray) = two (y / 100) ++ two y := by
  refine ba_ext ?_
  unfold Lib.itoa
  rw [if_neg (by omega)]
  obtain ⟨u, rfl⟩ : ∃ u : Nat, y = u := ⟨y.toNat, by omega⟩
  rw [Int.toNat_natCast]
  rw [Lib.decDigits, dif_neg (by omega), Lib.decDigits, dif_neg (by omega), Lib.decDigits, dif_neg (by omega), Lib.decDigits, dif_pos (by omega)]
  have e1 : dgt ((u : Int) / 100 / 10 % 10) = UInt8.ofNat (48 + u / 10 / 10 / 10) := by unfold dgt; congr 1; try omega
  have e2 : dgt ((u : Int) / 100 % 10) = UInt8.ofNat (48 + u / 10 / 10 % 10) := by unfold dgt; congr 1; try omega
  have e3 : dgt ((u : Int) / 10 % 10) = UInt8.ofNat (48 + u / 10 % 10) := by unfold dgt; congr 1; try omega
  have e4 : dgt ((u : Int) % 10) = UInt8.ofNat (48 + u % 10) := by unfold dgt; congr 1; try omega
  rw [ByteArray.data_append, Array.toList_append]
  show _ = [dgt ((u : Int) / 100 / 10 % 10), dgt ((u : Int) / 100 % 10)] ++ [dgt ((u : Int) / 10 % 10), dgt ((u : Int) % 10)]
  rw [e1, e2, e3, e4]
  rfl
theorem IsDate.rest {s : Int} {x : Dt} (h : IsDate s x) (h1 : s ≤ 253402300799) : (1970 ≤ x.y ∧ x.y ≤ 9999) ∧ (1 ≤ x.m ∧ x.m ≤ 12) ∧ (1 ≤ x.d ∧ x.d ≤ 31) ∧ (0 ≤ x.h ∧ x.h ≤ 23) ∧ (0 ≤ x.mi ∧ x.mi ≤ 59) ∧ (0 ≤ x.s ∧ x.s ≤ 59) := by
  obtain ⟨a, b, c, _⟩ := h.facts h1
  have := monD_in x.y x.m
  have e1 := h.h
  have e2 := h.mi
  have e3 := h.s
  exact ⟨a, b, by omega, by omega, by omega, by omega⟩
set_option maxHeartbeats 8000000 in
theorem formatDate_ret (s : Int) (h0 : 0 ≤ s) (h1 : s ≤ 253402300799) (x : Dt) (hx : IsDate s x) (M : PH) (hL : Lw M) : Ret 181 [I s] M (Tx (fmtD s x)) := by
  obtain ⟨hy, hm, hd, hh, hmi, hs⟩ := hx.rest h1
  have hwd := weekday_ret s h0 h1
  have e0 : fmtD s x = wdT (wd s) ++ ⟨#[44, 32]⟩ ++ two x.d ++ ⟨#[32]⟩ ++ monT x.m ++ ⟨#[32]⟩ ++ (two (x.y / 100) ++ two x.y) ++ ⟨#[32]⟩ ++ two x.h ++ ⟨#[58]⟩ ++ two x.mi ++ ⟨#[58]⟩ ++ two x.s ++ ⟨#[32, 71, 77, 84]⟩ := rfl
  rw [e0, ← itoa_year (by omega) hy.2]
  clear e0
  have hwz := wdT_size (wd_in s)
  have hmz := monT_size hm
  have hyz : (⟨(Lib.itoa x.y).toArray⟩ : ByteArray).size = 4 := by rw [itoa_year (by omega) hy.2, ByteArray.size_append]; rfl
  have hdec := decimal_ret x.y (by omega) (by omega)
  generalize (⟨(Lib.itoa x.y).toArray⟩ : ByteArray) = yt at *
  have hda := dateAt_ret s h0 h1 x hx
  have hmw : IntKind.i64.wrap (x.m - 1) = x.m - 1 := wi (by omega) (by omega)
  have hml : monL[(x.m - 1).toNat]? = some (monT x.m) := by
    rcases mon_cases hm with e | e | e | e | e | e | e | e | e | e | e | e <;> rw [e] <;> rfl
  have z1 : (⟨#[44, 32]⟩ : ByteArray).size = 2 := rfl
  have z2 : (⟨#[32]⟩ : ByteArray).size = 1 := rfl
  have z3 : (⟨#[58]⟩ : ByteArray).size = 1 := rfl
  have z4 : (⟨#[32, 71, 77, 84]⟩ : ByteArray).size = 4 := rfl
  have hcl : ∀ (N : PH) (g : Nat), Sl N (some ⟨g, 0, none⟩) 1 stC monL → N.cells (some ⟨g, 0, none⟩) ((IntKind.i64.wrap (x.m - 1)).toNat * 1) [Tx (monT x.m)] := fun N g h => by
    rw [hmw]
    exact (h.at_ _ _ hml).2
  refine Ret.of ?_
  refine xcall_of_vc Tryz.func181 rfl _ Tryz.ntmps181 _ rfl (fun _ _ => Tryz.call181 _ _) rfl (fun w0 ρ0 => ?_)
  conv => whnf
  refine Ret.go (hda _) ?_
  conv => whnf
  have lr := PH.Le.refl M
  rcases wd_cases (wd_in s) with e | e | e | e | e | e | e <;> rw [e] at hwd hwz ⊢
  all_goals (repeat' (first | (refine ⟨⟨[], rfl⟩, _, PH.Le.refl _, bot_le _, ?_⟩; conv => whnf) | (refine ⟨⟨_, rfl⟩, _, PH.Le.refl _, bot_le _, ?_⟩; conv => whnf) | (refine ⟨⟨_, rfl⟩, _, PH.Le.refl _, lr, ?_⟩; conv => whnf) | (refine And.intro (cat_fits (by simp only [ByteArray.size_append, two_size, size3, z1, z2, z3, z4, hmz, hyz]; omega)) ?_; conv => whnf) | (refine ⟨⟨_, rfl⟩, _, PH.Le.refl _, PH.Le.refl _, ?_⟩; conv => whnf) | (refine ACall.step (monthNames_new _) fun r M1 hh => ?_; obtain ⟨g, rfl, sM, lM⟩ := hh; refine ⟨⟨_, rfl⟩, _, lM, PH.Le.refl _, ?_⟩; conv => whnf) | (refine And.intro (by decide) (And.intro (by decide) ?_); conv => whnf) | (refine ⟨_, hcl _ _ (by assumption), ?_⟩; conv => whnf) | (refine And.intro (by rw [hmw]; omega) (And.intro (by rw [hmw]; omega) (And.intro rfl ?_)); conv => whnf) | (refine caseB_true ?_; conv => whnf) | (refine caseB_false ?_; conv => whnf) | ((with_reducible refine caseB_dec (fun h => ?_) (fun h => ?_)) <;> conv => whnf) | ((with_reducible refine caseB_ndec (fun h => ?_) (fun h => ?_)) <;> conv => whnf) | ((with_reducible refine caseB_not (fun h => ?_) (fun h => ?_)) <;> conv => whnf) | (refine draw_ruleJ (none) (.light 0 <| .light 5 <| .light 6 <| .light 11 <| .light 12 <| .light 13 <| .light 18 <| .light 19 <| .light 23 <| .light 24 <| .light 28 <| .light 29 <| .light 33 <| .light 34 <| .alt 1 false (.light 2 <| .light 3 <| .light 4 <| .alt 7 false (.light 8 <| .light 9 <| .alt 10 false (.light 14 <| .light 15 <| .light 16 <| .light 17 <| .alt 20 false (.light 21 <| .light 22 <| .alt 25 false (.light 26 <| .light 27 <| .alt 30 false (.light 31 <| .light 32 <| .alt 35 false (.light 36 <| .light 37 <| .light 38 <| .done) .nil) .nil) .nil) .nil) .nil) .nil) .nil) (by decide +kernel) (lr) ?_; conv => whnf) | (refine Ret.go (hwd _) ?_; conv => whnf) | (refine Ret.go (twoDigits_ret _ (by omega) (by omega) _) ?_; conv => whnf) | (refine Ret.go (hdec _ (by first | exact hL | exact hL.mono (by repeat (first | exact PH.Le.refl _ | assumption | (apply PH.Le.trans; · assumption))))) ?_; conv => whnf) | (with_reducible refine @And.intro (guardVC _ _ _ _ _) _ ?_ ?_) <;> conv => whnf | (refine caseB_intro (fun h => ?_) (fun h => ?_) <;> (try simp only [Bool.not_eq_true', Bool.not_eq_false', decide_eq_true_eq, decide_eq_false_iff_not] at h) <;> conv => whnf)))
  all_goals exact ⟨_, PH.Le.refl _, rfl, lM⟩
set_option maxHeartbeats 8000000 in
theorem l3Format_ret (s : Int) (h0 : 0 ≤ s) (h1 : s ≤ 253402300799) (x : Dt) (hx : IsDate s x) (M : PH) : Ret 153 [I s] M (Tx (fmtD s x)) := by
  obtain ⟨hy, hm, hd, hh, hmi, hs⟩ := hx.rest h1
  have hw := wd_in s
  have hwz := wdT_size hw
  have hmz := monT_size hm
  have hda := l3At_ret s h0 h1 x hx
  have q1 : IntKind.i64.wrap (s.tdiv 86400) = s / 86400 := by rw [td h0]; exact wi (by omega) (by omega)
  have q2 : IntKind.i64.wrap (s / 86400 + 4) = s / 86400 + 4 := wi (by omega) (by omega)
  have q3 : (s / 86400 + 4).tmod 7 = wd s := tm (by omega)
  have w1 : IntKind.i64.wrap (3 * wd s) = 3 * wd s := wi (by omega) (by omega)
  have w2 : IntKind.i64.wrap (3 * wd s + 3) = 3 * wd s + 3 := wi (by omega) (by omega)
  have w3 : IntKind.i64.wrap (3 * x.m) = 3 * x.m := wi (by omega) (by omega)
  have w4 : IntKind.i64.wrap (3 * x.m - 3) = 3 * x.m - 3 := wi (by omega) (by omega)
  have w5 : IntKind.i64.wrap (x.y.tdiv 100) = x.y / 100 := by rw [td (by omega)]; exact wi (by omega) (by omega)
  have hy2 := l3Two_ret (x.y / 100) (by omega) (by omega)
  rw [← w5] at hy2
  have hE1 : (⟨#[83, 117, 110, 77, 111, 110, 84, 117, 101, 87, 101, 100, 84, 104, 117, 70, 114, 105, 83, 97, 116]⟩ : ByteArray).extract (IntKind.i64.wrap (3 * wd s)).toNat (IntKind.i64.wrap (IntKind.i64.wrap (3 * wd s) + 3)).toNat = wdT (wd s) := by
    rw [w1, w2]; exact wdA_ext hw
  have hE2 : (⟨#[74, 97, 110, 70, 101, 98, 77, 97, 114, 65, 112, 114, 77, 97, 121, 74, 117, 110, 74, 117, 108, 65, 117, 103, 83, 101, 112, 79, 99, 116, 78, 111, 118, 68, 101, 99]⟩ : ByteArray).extract (IntKind.i64.wrap (IntKind.i64.wrap (3 * x.m) - 3)).toNat (IntKind.i64.wrap (3 * x.m)).toNat = monT x.m := by
    rw [w3, w4]; exact monA_ext hm
  have a1 : (⟨#[83, 117, 110, 77, 111, 110, 84, 117, 101, 87, 101, 100, 84, 104, 117, 70, 114, 105, 83, 97, 116]⟩ : ByteArray).size = 21 := rfl
  have a2 : (⟨#[74, 97, 110, 70, 101, 98, 77, 97, 114, 65, 112, 114, 77, 97, 121, 74, 117, 110, 74, 117, 108, 65, 117, 103, 83, 101, 112, 79, 99, 116, 78, 111, 118, 68, 101, 99]⟩ : ByteArray).size = 36 := rfl
  have z1 : (⟨#[44, 32]⟩ : ByteArray).size = 2 := rfl
  have z2 : (⟨#[32]⟩ : ByteArray).size = 1 := rfl
  have z3 : (⟨#[58]⟩ : ByteArray).size = 1 := rfl
  have z4 : (⟨#[32, 71, 77, 84]⟩ : ByteArray).size = 4 := rfl
  refine xcall_of_vc Tryz.func153 rfl _ Tryz.ntmps153 _ rfl (fun _ _ => Tryz.call153 _ _) rfl (fun w0 ρ0 => ?_)
  conv => whnf
  refine Ret.go (hda _) ?_
  conv => whnf
  refine And.intro (by decide) ?_
  conv => whnf
  refine And.intro (by decide) ?_
  conv => whnf
  rw [q1, q2, q3]
  have lr := PH.Le.refl M
  repeat' (first | (refine ⟨⟨[], rfl⟩, _, PH.Le.refl _, bot_le _, ?_⟩; conv => whnf) | (refine ⟨⟨_, rfl⟩, _, PH.Le.refl _, bot_le _, ?_⟩; conv => whnf) | (refine ⟨⟨_, rfl⟩, _, PH.Le.refl _, lr, ?_⟩; conv => whnf) | (refine And.intro (cat_fits (by simp only [hE1, hE2, ByteArray.size_append, two_size, z1, z2, z3, z4, hmz, hwz]; omega)) ?_; conv => whnf) | (refine ⟨⟨_, rfl⟩, _, PH.Le.refl _, PH.Le.refl _, ?_⟩; conv => whnf) | (refine And.intro ⟨by rw [w3, w4]; omega, by rw [w3, w4]; omega, by rw [w3, a2]; omega⟩ ?_; conv => whnf) | (refine And.intro ⟨by rw [w1]; omega, by rw [w1, w2]; omega, by rw [w1, w2, a1]; omega⟩ ?_; conv => whnf) | (refine And.intro (by decide) ?_; conv => whnf) | (refine caseB_true ?_; conv => whnf) | (refine caseB_false ?_; conv => whnf) | ((with_reducible refine caseB_dec (fun h => ?_) (fun h => ?_)) <;> conv => whnf) | ((with_reducible refine caseB_ndec (fun h => ?_) (fun h => ?_)) <;> conv => whnf) | ((with_reducible refine caseB_not (fun h => ?_) (fun h => ?_)) <;> conv => whnf) | (refine draw_ruleJ (none) (.light 0 <| .light 1 <| .light 2 <| .light 3 <| .light 4 <| .light 5 <| .light 6 <| .light 7 <| .light 8 <| .light 9 <| .light 13 <| .light 14 <| .light 15 <| .light 16 <| .light 17 <| .light 18 <| .light 19 <| .light 20 <| .light 21 <| .light 24 <| .light 25 <| .light 26 <| .light 29 <| .light 30 <| .light 34 <| .light 35 <| .light 39 <| .light 40 <| .light 44 <| .light 45 <| .alt 10 false (.light 11 <| .light 12 <| .light 22 <| .light 23 <| .alt 27 false (.light 28 <| .alt 31 false (.light 32 <| .light 33 <| .alt 36 false (.light 37 <| .light 38 <| .alt 41 false (.light 42 <| .light 43 <| .alt 46 false (.light 47 <| .light 48 <| .light 49 <| .done) .nil) .nil) .nil) .nil) .nil) .nil) (by decide +kernel) (lr) ?_; conv => whnf) | (refine Ret.go (hy2 _) ?_; conv => whnf) | (refine Ret.go (l3Two_ret _ (by omega) (by omega) _) ?_; conv => whnf) | (with_reducible refine @And.intro (guardVC _ _ _ _ _) _ ?_ ?_) <;> conv => whnf | (refine caseB_intro (fun h => ?_) (fun h => ?_) <;> (try simp only [Bool.not_eq_true', Bool.not_eq_false', decide_eq_true_eq, decide_eq_false_iff_not] at h) <;> conv => whnf))
  have key : ∀ a b c : ByteArray, a = wdT (wd s) → b = monT x.m → c = two (x.y / 100) → Tx (a ++ ⟨#[44, 32]⟩ ++ two x.d ++ ⟨#[32]⟩ ++ b ++ ⟨#[32]⟩ ++ c ++ two x.y ++ ⟨#[32]⟩ ++ two x.h ++ ⟨#[58]⟩ ++ two x.mi ++ ⟨#[58]⟩ ++ two x.s ++ ⟨#[32, 71, 77, 84]⟩) = Tx (fmtD s x) := fun a b c e1 e2 e3 => by
    subst e1; subst e2; subst e3
    have e : fmtD s x = wdT (wd s) ++ ⟨#[44, 32]⟩ ++ two x.d ++ ⟨#[32]⟩ ++ monT x.m ++ ⟨#[32]⟩ ++ (two (x.y / 100) ++ two x.y) ++ ⟨#[32]⟩ ++ two x.h ++ ⟨#[58]⟩ ++ two x.mi ++ ⟨#[58]⟩ ++ two x.s ++ ⟨#[32, 71, 77, 84]⟩ := rfl
    rw [e, ← ByteArray.append_assoc (a := wdT (wd s) ++ ⟨#[44, 32]⟩ ++ two x.d ++ ⟨#[32]⟩ ++ monT x.m ++ ⟨#[32]⟩)]
  exact ⟨_, PH.Le.refl _, key _ _ _ hE1 hE2 (by rw [w5]), rfl⟩
end Go.Proofs.YtdgipmlkkmmliaaGreatDoor
