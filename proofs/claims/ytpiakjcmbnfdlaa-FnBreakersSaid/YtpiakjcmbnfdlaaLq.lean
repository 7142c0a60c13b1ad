/-
  CONTRACTS: bulkheads copied; one leaves.
-/
import Derived.Test.YtpiakjcmbnfdlaaLn
namespace Go.Proofs.Ytpiakjcmbnfdlaa
set_option maxRecDepth 100000
set_option linter.unusedSimpArgs false
set_option linter.unusedVariables false
open Go.Xe
/-- A slice of one's own, made since M. -/
structure New {α : Type} (M M' : PH) (o : Option Nat) (A : Option Addr) (c sz : Nat) (f : α → List Value) (ws : List α) : Prop where
  ow : Ow M' o A c sz f ws
  le : M.Le M'
  fr : ∀ g, o = some g → M g = none
theorem New.nil {α : Type} {sz : Nat} {f : α → List Value} (M : PH) (A : Option Addr) : New M M none A 0 sz f ([] : List α) := ⟨Ow.nil, PH.Le.refl M, fun g h => nomatch h⟩
theorem none_of_le {M M' : PH} (h : M.Le M') {g : Nat} (hg : M' g = none) : M g = none := by
  cases hm : M g with
  | none => rfl
  | some o => rw [h _ _ hm] at hg; cases hg
theorem New.from {α : Type} {M₀ M M' : PH} {o : Option Nat} {A : Option Addr} {c sz : Nat} {f : α → List Value} {ws : List α} (h : New M M' o A c sz f ws) (l : M₀.Le M) : New M₀ M' o A c sz f ws := ⟨h.ow, l.trans h.le, fun g e => none_of_le l (h.fr g e)⟩
theorem New.to {α : Type} {M M' M'' : PH} {o : Option Nat} {A : Option Addr} {c sz : Nat} {f : α → List Value} {ws : List α} (h : New M M' o A c sz f ws) (l : M'.Le M'') : New M M'' o A c sz f ws := ⟨h.ow.mono l, h.le.trans l, h.fr⟩
theorem set_none {M : PH} {g k : Nat} {o : Obj} (h : (M.set g o) k = none) : M k = none := by
  unfold PH.set at h
  split at h
  · cases h
  · exact h
/-- One more is put to a slice of one's own: the row of one that is laid down for it, the append. -/
theorem New.more {α : Type} {f : α → List Value} {sz : Nat} {M M1 M2 M3 : PH} {o o' : Option Nat} {A A' : Option Addr} {c c' : Nat} {ws us : List α} (h : New M M1 o A c sz f ws) (l : M1.Le M2) (k : Keeps o M2 M3) (hO : Ow M3 o' A' c' sz f us) (hF : o' = o ∨ ∃ g, o' = some g ∧ M2 g = none) : New M M3 o' A' c' sz f us :=
  ⟨hO, k.over (h.le.trans l) h.fr, fun g e => by
    rcases hF with h1 | ⟨g', h1, h2⟩
    · exact h.fr g (h1 ▸ e)
    · rw [h1] at e; cases e; exact none_of_le (h.le.trans l) h2⟩
/-- Two slices of one's own, made since M, in memory apart. -/
structure Two {α β : Type} (M M' : PH) (o1 : Option Nat) (A1 : Option Addr) (c1 s1 : Nat) (f1 : α → List Value) (xs : List α) (o2 : Option Nat) (A2 : Option Addr) (c2 s2 : Nat) (f2 : β → List Value) (ys : List β) : Prop where
  a : New M M' o1 A1 c1 s1 f1 xs
  b : New M M' o2 A2 c2 s2 f2 ys
  ne : ∀ g, o1 = some g → o2 ≠ some g
section
variable {α β : Type} {M M1 M2 M3 : PH} {o1 o2 o' : Option Nat} {A1 A2 A' : Option Addr} {c1 c2 c' s1 s2 : Nat} {f1 : α → List Value} {f2 : β → List Value} {xs us : List α} {ys vs : List β}
theorem Two.symm (h : Two M M1 o1 A1 c1 s1 f1 xs o2 A2 c2 s2 f2 ys) : Two M M1 o2 A2 c2 s2 f2 ys o1 A1 c1 s1 f1 xs := ⟨h.b, h.a, fun g e e' => h.ne g e' e⟩
theorem Two.more (h : Two M M1 o1 A1 c1 s1 f1 xs o2 A2 c2 s2 f2 ys) (l : M1.Le M2) (k : Keeps o1 M2 M3) (hO : Ow M3 o' A' c' s1 f1 us) (hF : o' = o1 ∨ ∃ g, o' = some g ∧ M2 g = none) : Two M M3 o' A' c' s1 f1 us o2 A2 c2 s2 f2 ys := by
  have ho := (h.b.ow.mono l)
  refine ⟨h.a.more l k hO hF, ⟨ho.keeps k (fun g e e' => h.ne g e' e), k.over (h.a.le.trans l) h.a.fr, h.b.fr⟩, fun g e e' => ?_⟩
  rcases hF with h1 | ⟨g', h1, h2⟩
  · exact h.ne g (h1 ▸ e) e'
  · rw [h1] at e; cases e
    obtain ⟨ob, hob⟩ := ho.known _ e'
    rw [h2] at hob; cases hob
theorem Two.from {M0 : PH} (h : Two M M1 o1 A1 c1 s1 f1 xs o2 A2 c2 s2 f2 ys) (l : M0.Le M) : Two M0 M1 o1 A1 c1 s1 f1 xs o2 A2 c2 s2 f2 ys := ⟨h.a.from l, h.b.from l, h.ne⟩
theorem Two.to (h : Two M M1 o1 A1 c1 s1 f1 xs o2 A2 c2 s2 f2 ys) (l : M1.Le M2) : Two M M2 o1 A1 c1 s1 f1 xs o2 A2 c2 s2 f2 ys := ⟨h.a.to l, h.b.to l, h.ne⟩
theorem Two.nil (l : M.Le M1) : Two M M1 none A1 0 s1 f1 ([] : List α) none A2 0 s2 f2 ([] : List β) := ⟨⟨Ow.nil, l, fun g e => nomatch e⟩, ⟨Ow.nil, l, fun g e => nomatch e⟩, fun g e => nomatch e⟩
end
theorem wt_fits (ws : List Wt) (hn : ws.length ≤ 1048576) : (([] : List Wt).length + ws.length) * ti67.bytes ≤ 140737488355328 := by
  unfold ti67
  simp
  omega
theorem cloneWt_ret (A : Option Addr) (c : Nat) (ws : List Wt) (M : PH) (hs : Sl M A 2 Wt.cs ws) (hn : ws.length ≤ 1048576) :
    ACall env 121 [.slice A ws.length c] M fun r M' => ∃ o A' c', r = .slice A' ws.length c' ∧ New M M' o A' c' 2 Wt.cs ws := by
  refine xcall_of_vc Try.func121 rfl _ Try.ntmps121 _ rfl (fun _ _ => Try.call121 _ _) rfl (fun w0 ρ0 => ?_)
  conv => whnf
  refine caseB_intro (fun h => ?_) (fun h => ?_)
  · conv => whnf
    have : ws = [] := by
      apply Classical.byContradiction
      intro hne
      have := hs.ne hne
      cases A with
      | none => cases this
      | some a => cases h
    subst this
    exact ⟨_, PH.Le.refl _, none, none, 0, rfl, New.nil M none⟩
  · conv => whnf
    intro g0 hg0
    conv => whnf
    refine app_sl (te := ti67) (f := Wt.cs) (xs := []) (ys := ws) (o := none) (hs.mono (PH.Le.set _ hg0)) Ow.nil Wt.len Wt.one rfl (wt_fits ws hn) (by simp; omega) fun o A' c' M' hO hK hF => ?_
    conv => whnf
    exact ⟨_, PH.Le.refl _, o, A', c', rfl, hO, (PH.Le.set _ hg0).trans hK.le, fun g e => by
      rcases hF with h1 | ⟨g', h1, h2⟩
      · rw [h1] at e; cases e
      · rw [h1] at e; cases e; exact set_none h2⟩

theorem toBulk_own (k : Int) (A : Option Addr) (c : Nat) (ws : List Wt) (M : PH) (hs : Sl M A 2 Wt.cs ws) (hn : ws.length ≤ 1048576) :
    ACall env 21 [bulkV k A ws.length c] M fun r M' => ∃ g, r = bulkV k (some ⟨g, 0, none⟩) ws.length ws.length ∧ New M M' (some g) (some ⟨g, 0, none⟩) ws.length 2 Wt.cs ws :=
  (toBulk_ret k A c ws M hs hn).mono fun r M' ⟨g, hg, hr, hM⟩ => by
    subst hM
    exact ⟨g, hr, Ow.new Wt.len _ g ws _, PH.Le.set _ hg, fun k e => by cases e; exact hg⟩
theorem copyBulk_ret (k : Int) (A : Option Addr) (c : Nat) (ws : List Wt) (M : PH) (hs : Sl M A 2 Wt.cs ws) (hn : ws.length ≤ 1048576) :
    ACall env 85 [bulkV k A ws.length c] M fun r M' => ∃ o A' c', r = bulkV k A' ws.length c' ∧ New M M' o A' c' 2 Wt.cs ws := by
  refine xcall_of_vc Try.func85 rfl _ Try.ntmps85 _ rfl (fun _ _ => Try.call85 _ _) rfl (fun w0 ρ0 => ?_)
  conv => whnf
  refine ACall.step (cloneWt_ret A c ws M hs hn) fun r M' hh => ?_
  obtain ⟨o, A', c', rfl, hN⟩ := hh
  conv => whnf
  exact ⟨_, PH.Le.refl _, o, A', c', rfl, hN⟩
theorem l11Copy_ret (k : Int) (A : Option Addr) (c : Nat) (ws : List Wt) (M : PH) (hs : Sl M A 2 Wt.cs ws) (hn : ws.length ≤ 1048576) :
    XCall env 83 [.bp 0 0] [bulkB k A ws.length c] M fun r b M' => (∃ o A' c', r = bulkV k A' ws.length c' ∧ New M M' o A' c' 2 Wt.cs ws) ∧ b = [bulkB k A ws.length c] := by
  refine xcall_of_vc Try.func83 rfl _ Try.ntmps83 _ rfl (fun _ _ => Try.call83 _ _) rfl (fun w0 ρ0 => ?_)
  conv => whnf
  repeat' (first | (refine ⟨⟨[], rfl⟩, _, PH.Le.refl _, PH.Le.refl _, ?_⟩; conv => whnf) | (refine caseB_true ?_; conv => whnf) | (refine caseB_false ?_; conv => whnf) | ((with_reducible refine caseB_dec (fun h => ?_) (fun h => ?_)) <;> conv => whnf) | ((with_reducible refine caseB_ndec (fun h => ?_) (fun h => ?_)) <;> conv => whnf) | ((with_reducible refine caseB_not (fun h => ?_) (fun h => ?_)) <;> conv => whnf) | (refine draw_rule (.light 0 <| .light 1 <| .light 2 <| .light 3 <| .light 5 <| .light 6 <| .light 7 <| .light 8 <| .alt 4 false (.alt 9 false (.light 10 <| .alt 11 true (.done) .nil) .nil) .nil) (by decide +kernel) ?_; conv => whnf) | (with_reducible refine @And.intro (guardVC _ _ _ _ _) _ ?_ ?_) <;> conv => whnf | (refine caseB_intro (fun h => ?_) (fun h => ?_) <;> (try simp only [Bool.not_eq_true', Bool.not_eq_false', decide_eq_true_eq, decide_eq_false_iff_not] at h) <;> conv => whnf))
  intro g0 hg0
  have l0 := PH.Le.set (.cells (#[] : Array Value) 67 (0, 0)) hg0
  refine ⟨⟨[], rfl⟩, _, PH.Le.refl _, PH.Le.set _ hg0, ?_⟩
  conv => whnf
  refine app_sl (te := ti67) (f := Wt.cs) (xs := []) (ys := ws) (o := none) (hs.mono (PH.Le.set _ hg0)) Ow.nil Wt.len Wt.one rfl (wt_fits ws hn) (by simp; omega) fun o A' c' M' hO hK hF => ?_
  refine ⟨⟨[], rfl⟩, _, PH.Le.refl _, (PH.Le.set _ hg0).trans hK.le, ?_⟩
  conv => whnf
  exact ⟨_, PH.Le.refl _, ⟨o, A', c', rfl, hO, (PH.Le.set _ hg0).trans hK.le, fun g e => by
    rcases hF with h1 | ⟨g', h1, h2⟩
    · rw [h1] at e; cases e
    · rw [h1] at e; cases e; exact set_none h2⟩, rfl⟩
def nextW : List Wt → Int | [] => -1 | w :: _ => w.a
def leaveK (k : Int) (ws : List Wt) : Int := if ws.length = 0 then wr (k - 1) else k
theorem leave_ret (k : Int) (A : Option Addr) (c : Nat) (ws : List Wt) (M : PH) (hs : Sl M A 2 Wt.cs ws) (hn : ws.length ≤ 1048576) (hc : ws.length ≤ c) :
    XCall env 86 [.bp 0 0] [bulkB k A ws.length c] M fun r b M' => r = I (nextW ws) ∧ M' = M ∧ ∃ A' c', b = [bulkB (leaveK k ws) A' (ws.drop 1).length c'] ∧ (∀ o, Ow M o A c 2 Wt.cs ws → ∃ o', (o' = o ∨ o' = none) ∧ Ow M o' A' c' 2 Wt.cs (ws.drop 1)) := by
  refine xcall_of_vc Try.func86 rfl _ Try.ntmps86 _ rfl (fun _ _ => Try.call86 _ _) rfl (fun w0 ρ0 => ?_)
  conv => whnf
  repeat' (first | (refine ⟨⟨[], rfl⟩, _, PH.Le.refl _, PH.Le.refl _, ?_⟩; conv => whnf) | (refine caseB_true ?_; conv => whnf) | (refine caseB_false ?_; conv => whnf) | ((with_reducible refine caseB_dec (fun h => ?_) (fun h => ?_)) <;> conv => whnf) | ((with_reducible refine caseB_ndec (fun h => ?_) (fun h => ?_)) <;> conv => whnf) | ((with_reducible refine caseB_not (fun h => ?_) (fun h => ?_)) <;> conv => whnf) | (with_reducible refine @And.intro (guardVC _ _ _ _ _) _ ?_ ?_) <;> conv => whnf | (refine caseB_intro (fun h => ?_) (fun h => ?_) <;> (try simp only [Bool.not_eq_true', Bool.not_eq_false', decide_eq_true_eq, decide_eq_false_iff_not] at h) <;> conv => whnf))
  · have : ws = [] := List.eq_nil_of_length_eq_zero (by omega)
    subst this
    exact ⟨_, PH.Le.refl _, rfl, rfl, A, c, rfl, fun o h => ⟨o, .inl rfl, h⟩⟩
  · have h0 : 0 < ws.length := by omega
    obtain ⟨hA, _, hr⟩ := hs.get h0
    obtain ⟨w, us, rfl⟩ : ∃ w us, ws = w :: us := by
      cases ws with
      | nil => simp at h0
      | cons w us => exact ⟨w, us, rfl⟩
    refine ⟨by omega, by omega, hA, ?_⟩
    conv => whnf
    refine ⟨_, cells_cut hr 0 rfl, ?_⟩
    conv => whnf
    refine ⟨⟨by omega, by omega⟩, ?_⟩
    conv => whnf
    refine ⟨_, PH.Le.refl _, rfl, rfl, subA A 1 2 c, c - 1, rfl, fun o h => ?_⟩
    have := h.cut (l := 1) (u := (w :: us).length) (m := c) (by simp) hc (Nat.le_refl _) (Nat.le_refl _)
    rwa [List.take_length] at this
theorem l11Leave_ret (k : Int) (A : Option Addr) (c : Nat) (ws : List Wt) (M : PH) (hs : Sl M A 2 Wt.cs ws) (hn : ws.length ≤ 1048576) (hc : ws.length ≤ c) :
    XCall env 84 [.bp 0 0] [bulkB k A ws.length c] M fun r b M' => r = I (nextW ws) ∧ ∃ A' c', b = [bulkB (leaveK k ws) A' (ws.drop 1).length c'] ∧ M.Le M' ∧ Sl M' A' 2 Wt.cs (ws.drop 1) ∧ (ws.drop 1).length ≤ c' := by
  refine xcall_of_vc Try.func84 rfl _ Try.ntmps84 _ rfl (fun _ _ => Try.call84 _ _) rfl (fun w0 ρ0 => ?_)
  conv => whnf
  repeat' (first | (refine ⟨⟨[], rfl⟩, _, PH.Le.refl _, PH.Le.refl _, ?_⟩; conv => whnf) | (refine caseB_true ?_; conv => whnf) | (refine caseB_false ?_; conv => whnf) | ((with_reducible refine caseB_dec (fun h => ?_) (fun h => ?_)) <;> conv => whnf) | ((with_reducible refine caseB_ndec (fun h => ?_) (fun h => ?_)) <;> conv => whnf) | ((with_reducible refine caseB_not (fun h => ?_) (fun h => ?_)) <;> conv => whnf) | (with_reducible refine @And.intro (guardVC _ _ _ _ _) _ ?_ ?_) <;> conv => whnf | (refine caseB_intro (fun h => ?_) (fun h => ?_) <;> (try simp only [Bool.not_eq_true', Bool.not_eq_false', decide_eq_true_eq, decide_eq_false_iff_not] at h) <;> conv => whnf))
  · have : ws = [] := List.eq_nil_of_length_eq_zero (by omega)
    subst this
    exact ⟨_, PH.Le.refl _, rfl, A, c, rfl, PH.Le.refl _, Sl.nil, Nat.zero_le _⟩
  · have h0 : 0 < ws.length := by omega
    obtain ⟨hA, _, hr⟩ := hs.get h0
    obtain ⟨w, us, rfl⟩ : ∃ w us, ws = w :: us := by
      cases ws with
      | nil => simp at h0
      | cons w us => exact ⟨w, us, rfl⟩
    refine ⟨by omega, by omega, hA, ?_⟩
    conv => whnf
    refine ⟨_, cells_cut hr 0 rfl, ?_⟩
    conv => whnf
    intro g0 hg0
    conv => whnf
    refine ⟨⟨by omega, by omega⟩, ?_⟩
    conv => whnf
    have h1 : Sl M (subA A 1 2 c) 2 Wt.cs us := hs.cutD (l := 1) (m := c) hc (by simp)
    refine app_sl (te := ti67) (f := Wt.cs) (xs := []) (ys := us) (o := none) (h1.mono (PH.Le.set _ hg0)) Ow.nil Wt.len Wt.one rfl (wt_fits us (by simp at hn; omega)) (by simp at hn ⊢; omega) fun o A' c' M' hO hK hF => ?_
    conv => whnf
    exact ⟨_, PH.Le.refl _, rfl, A', c', rfl, (PH.Le.set _ hg0).trans hK.le, hO.sl Wt.len, hO.le⟩
theorem l11Leave_own (k : Int) (o : Option Nat) (A : Option Addr) (c : Nat) (ws : List Wt) (M0 M : PH) (hN : New M0 M o A c 2 Wt.cs ws) (hn : ws.length ≤ 1048576) :
    XCall env 84 [.bp 0 0] [bulkB k A ws.length c] M fun r b M' => r = I (nextW ws) ∧ ∃ o' A' c', b = [bulkB (leaveK k ws) A' (ws.drop 1).length c'] ∧ New M0 M' o' A' c' 2 Wt.cs (ws.drop 1) := by
  have hs := hN.ow.sl Wt.len
  have hc := hN.ow.le
  refine xcall_of_vc Try.func84 rfl _ Try.ntmps84 _ rfl (fun _ _ => Try.call84 _ _) rfl (fun w0 ρ0 => ?_)
  conv => whnf
  repeat' (first | (refine ⟨⟨[], rfl⟩, _, PH.Le.refl _, PH.Le.refl _, ?_⟩; conv => whnf) | (refine caseB_true ?_; conv => whnf) | (refine caseB_false ?_; conv => whnf) | ((with_reducible refine caseB_dec (fun h => ?_) (fun h => ?_)) <;> conv => whnf) | ((with_reducible refine caseB_ndec (fun h => ?_) (fun h => ?_)) <;> conv => whnf) | ((with_reducible refine caseB_not (fun h => ?_) (fun h => ?_)) <;> conv => whnf) | (with_reducible refine @And.intro (guardVC _ _ _ _ _) _ ?_ ?_) <;> conv => whnf | (refine caseB_intro (fun h => ?_) (fun h => ?_) <;> (try simp only [Bool.not_eq_true', Bool.not_eq_false', decide_eq_true_eq, decide_eq_false_iff_not] at h) <;> conv => whnf))
  · have : ws = [] := List.eq_nil_of_length_eq_zero (by omega)
    subst this
    exact ⟨_, PH.Le.refl _, rfl, o, A, c, rfl, hN⟩
  · have h0 : 0 < ws.length := by omega
    obtain ⟨hA, _, hr⟩ := hs.get h0
    obtain ⟨w, us, rfl⟩ : ∃ w us, ws = w :: us := by
      cases ws with
      | nil => simp at h0
      | cons w us => exact ⟨w, us, rfl⟩
    refine ⟨by omega, by omega, hA, ?_⟩
    conv => whnf
    refine ⟨_, cells_cut hr 0 rfl, ?_⟩
    conv => whnf
    intro g0 hg0
    conv => whnf
    refine ⟨⟨by omega, by omega⟩, ?_⟩
    conv => whnf
    have h1 : Sl M (subA A 1 2 c) 2 Wt.cs us := hs.cutD (l := 1) (m := c) hc (by simp)
    refine app_sl (te := ti67) (f := Wt.cs) (xs := []) (ys := us) (o := none) (h1.mono (PH.Le.set _ hg0)) Ow.nil Wt.len Wt.one rfl (wt_fits us (by simp at hn; omega)) (by simp at hn ⊢; omega) fun o' A' c' M' hO hK hF => ?_
    conv => whnf
    exact ⟨_, PH.Le.refl _, rfl, o', A', c', rfl, hO, (hN.le.trans (PH.Le.set _ hg0)).trans hK.le, fun g e => by
      rcases hF with h1 | ⟨g', h1, h2⟩
      · rw [h1] at e; cases e
      · rw [h1] at e; cases e; exact none_of_le hN.le (set_none h2)⟩
end Go.Proofs.Ytpiakjcmbnfdlaa
