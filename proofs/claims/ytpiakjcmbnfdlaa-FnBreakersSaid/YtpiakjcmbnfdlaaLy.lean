/-
  CONTRACTS: who waits no more: both ways of it, and the laws.
-/
import Derived.Test.YtpiakjcmbnfdlaaLx
namespace Go.Proofs.Ytpiakjcmbnfdlaa
set_option maxRecDepth 100000
set_option linter.unusedSimpArgs false
set_option linter.unusedVariables false
open Go.Xe
structure ExR where
  why : Int
  k : Int
  ws : List Wt
  ids : List Int
abbrev exV (why k : Int) (A : Option Addr) (m c : Nat) (B : Option Addr) (n d : Nat) : Value := .agg #[I why, I k, .slice A m c, .slice B n d]
def due (t : Int) (w : Wt) : Bool := decide (w.b ≤ t)
def isId (x : Int) (w : Wt) : Bool := decide (w.a = x)
noncomputable def expireOf (k : Int) (ws : List Wt) (l : Ln) (t : Int) : ExR :=
  if bulkFault k ws l ≠ 0 then ⟨bulkFault k ws l, 0, [], []⟩ else if isT t = false then ⟨3, 0, [], []⟩ else ⟨0, k, leftW (due t) ws, goneW (due t) ws⟩
noncomputable def cancelOf (k : Int) (ws : List Wt) (l : Ln) (x : Int) : ExR :=
  if bulkFault k ws l ≠ 0 then ⟨bulkFault k ws l, 0, [], []⟩ else if findW ws x < 0 then ⟨4, 0, [], []⟩ else ⟨0, k, leftW (isId x) ws, [x]⟩
section
variable {k : Int} {ws : List Wt} {l : Ln} {t x : Int}
theorem expireOf_bad (h : ¬ bulkFault k ws l = 0) : expireOf k ws l t = ⟨bulkFault k ws l, 0, [], []⟩ := if_pos h
theorem expireOf_time (h0 : bulkFault k ws l = 0) (h : isT t = false) : expireOf k ws l t = ⟨3, 0, [], []⟩ := by unfold expireOf; rw [if_neg (by simpa using h0), if_pos h]
theorem expireOf_ok (h0 : bulkFault k ws l = 0) (h : isT t = true) : expireOf k ws l t = ⟨0, k, leftW (due t) ws, goneW (due t) ws⟩ := by unfold expireOf; rw [if_neg (by simpa using h0), if_neg (by simp [h])]
theorem cancelOf_bad (h : ¬ bulkFault k ws l = 0) : cancelOf k ws l x = ⟨bulkFault k ws l, 0, [], []⟩ := if_pos h
theorem cancelOf_none (h0 : bulkFault k ws l = 0) (h : findW ws x < 0) : cancelOf k ws l x = ⟨4, 0, [], []⟩ := by unfold cancelOf; rw [if_neg (by simpa using h0), if_pos h]
theorem cancelOf_ok (h0 : bulkFault k ws l = 0) (h : ¬ findW ws x < 0) : cancelOf k ws l x = ⟨0, k, leftW (isId x) ws, [x]⟩ := by unfold cancelOf; rw [if_neg (by simpa using h0), if_neg h]
theorem bulkFault_apt (h : bulkFault k ws l = 0) : Apt ws := by
  unfold bulkFault at h
  split at h
  · contradiction
  · split at h
    · cases h
    · split at h
      · cases h
      · split at h
        · cases h
        · split at h
          · exact asB_iff.1 ‹_›
          · cases h
theorem findW_mem (h : ¬ findW ws x < 0) : ∃ w ∈ ws, w.a = x := by
  unfold findW idxF at h
  split at h
  · rename_i i hi
    rw [List.findIdx?_eq_some_iff_getElem] at hi
    obtain ⟨hl, hx, _⟩ := hi
    exact ⟨_, List.getElem_mem hl, by simpa using hx⟩
  · exact absurd (by decide) h
theorem gone_one : ∀ {ws : List Wt}, Apt ws → (∃ w ∈ ws, w.a = x) → goneW (isId x) ws = [x]
  | [], _, h => by obtain ⟨w, hw, _⟩ := h; cases hw
  | w :: us, ha, h => by
    have ha' := List.pairwise_cons.1 ha
    by_cases hx : w.a = x
    · have : us.filter (isId x) = [] := by
        rw [List.filter_eq_nil_iff]
        intro u hu
        have := ha'.1 u hu
        simp only [isId, decide_eq_true_eq]
        omega
      unfold goneW
      rw [List.filter_cons_of_pos (by simp [isId, hx]), this]
      simp [hx]
    · obtain ⟨u, hu, hux⟩ := h
      rcases List.mem_cons.1 hu with rfl | hu
      · exact absurd hux hx
      · have := gone_one ha'.2 ⟨u, hu, hux⟩
        unfold goneW at this ⊢
        rw [List.filter_cons_of_neg (by simp [isId, hx])]
        exact this
end
theorem expire1_ret (t : Int) (w : Wt) (M : PH) : XCall env 96 [.v w.v, .bp 0 0] [⟨2, [.v (I t)]⟩] M fun r b M' => r = B (due t w) ∧ b = [⟨2, [.v (I t)]⟩] ∧ M' = M := by
  refine xcall_of_vc Try.func96 rfl _ Try.ntmps96 _ rfl (fun _ _ => Try.call96 _ _) rfl (fun w0 ρ0 => ?_)
  conv => whnf
  repeat' (first | (refine ⟨⟨[], rfl⟩, _, PH.Le.refl _, PH.Le.refl _, ?_⟩; conv => whnf) | (refine caseB_true ?_; conv => whnf) | (refine caseB_false ?_; conv => whnf) | ((with_reducible refine caseB_dec (fun h => ?_) (fun h => ?_)) <;> conv => whnf) | ((with_reducible refine caseB_ndec (fun h => ?_) (fun h => ?_)) <;> conv => whnf) | ((with_reducible refine caseB_not (fun h => ?_) (fun h => ?_)) <;> conv => whnf) | (with_reducible refine @And.intro (guardVC _ _ _ _ _) _ ?_ ?_) <;> conv => whnf | (refine caseB_intro (fun h => ?_) (fun h => ?_) <;> (try simp only [Bool.not_eq_true', Bool.not_eq_false', decide_eq_true_eq, decide_eq_false_iff_not] at h) <;> conv => whnf))
  all_goals exact ⟨_, PH.Le.refl _, rfl, rfl, rfl⟩
theorem cancel1_ret (x : Int) (w : Wt) (M : PH) : XCall env 101 [.v w.v, .bp 0 0] [⟨2, [.v (I x)]⟩] M fun r b M' => r = B (isId x w) ∧ b = [⟨2, [.v (I x)]⟩] ∧ M' = M := by
  refine xcall_of_vc Try.func101 rfl _ Try.ntmps101 _ rfl (fun _ _ => Try.call101 _ _) rfl (fun w0 ρ0 => ?_)
  conv => whnf
  repeat' (first | (refine ⟨⟨[], rfl⟩, _, PH.Le.refl _, PH.Le.refl _, ?_⟩; conv => whnf) | (refine caseB_true ?_; conv => whnf) | (refine caseB_false ?_; conv => whnf) | ((with_reducible refine caseB_dec (fun h => ?_) (fun h => ?_)) <;> conv => whnf) | ((with_reducible refine caseB_ndec (fun h => ?_) (fun h => ?_)) <;> conv => whnf) | ((with_reducible refine caseB_not (fun h => ?_) (fun h => ?_)) <;> conv => whnf) | (with_reducible refine @And.intro (guardVC _ _ _ _ _) _ ?_ ?_) <;> conv => whnf | (refine caseB_intro (fun h => ?_) (fun h => ?_) <;> (try simp only [Bool.not_eq_true', Bool.not_eq_false', decide_eq_true_eq, decide_eq_false_iff_not] at h) <;> conv => whnf))
  all_goals exact ⟨_, PH.Le.refl _, rfl, rfl, rfl⟩
theorem expireBulk_impl (k : Int) (A : Option Addr) (c : Nat) (ws : List Wt) (l : Ln) (t : Int) (M : PH) (hs : Sl M A 2 Wt.cs ws) (hn : ws.length ≤ 1048576) :
    ACall env 44 [bulkV k A ws.length c, l.v, I t] M fun r M' => ∃ o1 A1 c1 o2 A2 c2, r = exV (expireOf k ws l t).why (expireOf k ws l t).k A2 (expireOf k ws l t).ws.length c2 A1 (expireOf k ws l t).ids.length c1 ∧ Two M M' o1 A1 c1 1 inC (expireOf k ws l t).ids o2 A2 c2 2 Wt.cs (expireOf k ws l t).ws := by
  refine xcall_of_vc Try.func44 rfl _ Try.ntmps44 _ rfl (fun _ _ => Try.call44 _ _) rfl (fun w0 ρ0 => ?_)
  conv => whnf
  repeat' (first | (refine ⟨⟨[], rfl⟩, _, PH.Le.refl _, PH.Le.refl _, ?_⟩; conv => whnf) | (refine caseB_true ?_; conv => whnf) | (refine caseB_false ?_; conv => whnf) | ((with_reducible refine caseB_dec (fun h => ?_) (fun h => ?_)) <;> conv => whnf) | ((with_reducible refine caseB_ndec (fun h => ?_) (fun h => ?_)) <;> conv => whnf) | ((with_reducible refine caseB_not (fun h => ?_) (fun h => ?_)) <;> conv => whnf) | (refine Ret.go (bulkFault_impl k A c ws l _ hs hn) ?_; conv => whnf) | (refine Ret.go (isTime_ret _ _) ?_; conv => whnf) | (with_reducible refine @And.intro (guardVC _ _ _ _ _) _ ?_ ?_) <;> conv => whnf | (refine caseB_intro (fun h => ?_) (fun h => ?_) <;> (try simp only [Bool.not_eq_true', Bool.not_eq_false', decide_eq_true_eq, decide_eq_false_iff_not] at h) <;> conv => whnf))
  · rw [expireOf_bad h]
    exact ⟨_, PH.Le.refl _, none, none, 0, none, none, 0, rfl, Two.nil (PH.Le.refl _)⟩
  · rw [expireOf_time ‹_› h]
    exact ⟨_, PH.Le.refl _, none, none, 0, none, none, 0, rfl, Two.nil (PH.Le.refl _)⟩
  rw [expireOf_ok ‹_› h]
  refine ACall.step (copyBulk_ret k A c ws M hs hn) fun r M1 hh => ?_
  obtain ⟨o, A1, c1, rfl, hN⟩ := hh
  conv => whnf
  refine XCall.lift (stop_ret 96 (due t) 2 (I t) k A1 c1 ws M1 (hN.ow.sl Wt.len) hn (fun w M => expire1_ret t w M)) [4, 2] (by simp [ren]) (by simp) (by simp) (by simp [AV.plain]) ?_
  rintro r b M2 ⟨o1, A2, c2, o2, A3, c3, rfl, rfl, hT⟩
  refine ⟨by simp [AV.plain], ?_⟩
  conv => whnf
  exact ⟨_, PH.Le.refl _, o1, A2, c2, o2, A3, c3, rfl, hT.from hN.le⟩
theorem expireBulk_spec (k : Int) (A : Option Addr) (c : Nat) (ws : List Wt) (l : Ln) (t : Int) (M : PH) (hs : Sl M A 2 Wt.cs ws) (hn : ws.length ≤ 1048576) :
    ACall env 43 [bulkV k A ws.length c, l.v, I t] M fun r M' => ∃ A1 c1 A2 c2, r = exV (expireOf k ws l t).why (expireOf k ws l t).k A2 (expireOf k ws l t).ws.length c2 A1 (expireOf k ws l t).ids.length c1 ∧ M.Le M' ∧ Sl M' A2 2 Wt.cs (expireOf k ws l t).ws ∧ Sl M' A1 1 inC (expireOf k ws l t).ids := by
  refine xcall_of_vc Try.func43 rfl _ Try.ntmps43 _ rfl (fun _ _ => Try.call43 _ _) rfl (fun w0 ρ0 => ?_)
  conv => whnf
  repeat' (first | (refine ⟨⟨[], rfl⟩, _, PH.Le.refl _, PH.Le.refl _, ?_⟩; conv => whnf) | (refine caseB_true ?_; conv => whnf) | (refine caseB_false ?_; conv => whnf) | ((with_reducible refine caseB_dec (fun h => ?_) (fun h => ?_)) <;> conv => whnf) | ((with_reducible refine caseB_ndec (fun h => ?_) (fun h => ?_)) <;> conv => whnf) | ((with_reducible refine caseB_not (fun h => ?_) (fun h => ?_)) <;> conv => whnf) | (refine Ret.go (bulkFault_spec k A c ws l _ hs hn) ?_; conv => whnf) | (refine Ret.go (l1Time_ret _ _) ?_; conv => whnf) | (with_reducible refine @And.intro (guardVC _ _ _ _ _) _ ?_ ?_) <;> conv => whnf | (refine caseB_intro (fun h => ?_) (fun h => ?_) <;> (try simp only [Bool.not_eq_true', Bool.not_eq_false', decide_eq_true_eq, decide_eq_false_iff_not] at h) <;> conv => whnf))
  · rw [expireOf_bad h]
    exact ⟨_, PH.Le.refl _, none, 0, none, 0, rfl, PH.Le.refl _, Sl.nil, Sl.nil⟩
  · rw [expireOf_time ‹_› h]
    exact ⟨_, PH.Le.refl _, none, 0, none, 0, rfl, PH.Le.refl _, Sl.nil, Sl.nil⟩
  rw [expireOf_ok ‹_› h]
  refine XCall.lift (l11Copy_ret k A c ws M hs hn) [0] rfl rfl (by simp) rfl ?_
  rintro r b M1 ⟨⟨o, A1, c1, rfl, hN⟩, rfl⟩
  refine ⟨rfl, ?_⟩
  conv => whnf
  refine XCall.lift (l11Expire_ret t k A1 c1 ws M1 (hN.ow.sl Wt.len) hn (due t) (fun w => rfl)) [3] rfl rfl (by simp) rfl ?_
  rintro r b M2 ⟨o1, A2, c2, o2, A3, c3, rfl, rfl, hT⟩
  refine ⟨rfl, ?_⟩
  conv => whnf
  exact ⟨_, PH.Le.refl _, A2, c2, A3, c3, rfl, hN.le.trans hT.a.le, hT.b.ow.sl Wt.len, hT.a.ow.sl in_len⟩
theorem cancelBulk_impl (k : Int) (A : Option Addr) (c : Nat) (ws : List Wt) (l : Ln) (x : Int) (M : PH) (hs : Sl M A 2 Wt.cs ws) (hn : ws.length ≤ 1048576) :
    ACall env 49 [bulkV k A ws.length c, l.v, I x] M fun r M' => ∃ o1 A1 c1 o2 A2 c2, r = exV (cancelOf k ws l x).why (cancelOf k ws l x).k A2 (cancelOf k ws l x).ws.length c2 A1 (cancelOf k ws l x).ids.length c1 ∧ Two M M' o1 A1 c1 1 inC (cancelOf k ws l x).ids o2 A2 c2 2 Wt.cs (cancelOf k ws l x).ws := by
  refine xcall_of_vc Try.func49 rfl _ Try.ntmps49 _ rfl (fun _ _ => Try.call49 _ _) rfl (fun w0 ρ0 => ?_)
  conv => whnf
  repeat' (first | (refine ⟨⟨[], rfl⟩, _, PH.Le.refl _, PH.Le.refl _, ?_⟩; conv => whnf) | (refine caseB_true ?_; conv => whnf) | (refine caseB_false ?_; conv => whnf) | ((with_reducible refine caseB_dec (fun h => ?_) (fun h => ?_)) <;> conv => whnf) | ((with_reducible refine caseB_ndec (fun h => ?_) (fun h => ?_)) <;> conv => whnf) | ((with_reducible refine caseB_not (fun h => ?_) (fun h => ?_)) <;> conv => whnf) | (refine Ret.go (bulkFault_impl k A c ws l _ hs hn) ?_; conv => whnf) | (refine Ret.go (waits_ret k A c ws x _ hs hn) ?_; conv => whnf) | (with_reducible refine @And.intro (guardVC _ _ _ _ _) _ ?_ ?_) <;> conv => whnf | (refine caseB_intro (fun h => ?_) (fun h => ?_) <;> (try simp only [Bool.not_eq_true', Bool.not_eq_false', decide_eq_true_eq, decide_eq_false_iff_not] at h) <;> conv => whnf))
  · rw [cancelOf_bad h]
    exact ⟨_, PH.Le.refl _, none, none, 0, none, none, 0, rfl, Two.nil (PH.Le.refl _)⟩
  · rw [cancelOf_none ‹_› h]
    exact ⟨_, PH.Le.refl _, none, none, 0, none, none, 0, rfl, Two.nil (PH.Le.refl _)⟩
  have hg := gone_one (bulkFault_apt ‹_›) (findW_mem h)
  rw [cancelOf_ok ‹_› h]
  refine ACall.step (copyBulk_ret k A c ws M hs hn) fun r M1 hh => ?_
  obtain ⟨o, A1, c1, rfl, hN⟩ := hh
  conv => whnf
  refine XCall.lift (stop_ret 101 (isId x) 2 (I x) k A1 c1 ws M1 (hN.ow.sl Wt.len) hn (fun w M => cancel1_ret x w M)) [4, 2] (by simp [ren]) (by simp) (by simp) (by simp [AV.plain]) ?_
  rintro r b M2 ⟨o1, A2, c2, o2, A3, c3, rfl, rfl, hT⟩
  refine ⟨by simp [AV.plain], ?_⟩
  conv => whnf
  rw [hg] at hT
  exact ⟨_, PH.Le.refl _, o1, A2, c2, o2, A3, c3, by rw [hg]; rfl, hT.from hN.le⟩
theorem cancelBulk_spec (k : Int) (A : Option Addr) (c : Nat) (ws : List Wt) (l : Ln) (x : Int) (M : PH) (hs : Sl M A 2 Wt.cs ws) (hn : ws.length ≤ 1048576) :
    ACall env 48 [bulkV k A ws.length c, l.v, I x] M fun r M' => ∃ A1 c1 A2 c2, r = exV (cancelOf k ws l x).why (cancelOf k ws l x).k A2 (cancelOf k ws l x).ws.length c2 A1 (cancelOf k ws l x).ids.length c1 ∧ M.Le M' ∧ Sl M' A2 2 Wt.cs (cancelOf k ws l x).ws ∧ Sl M' A1 1 inC (cancelOf k ws l x).ids := by
  refine xcall_of_vc Try.func48 rfl _ Try.ntmps48 _ rfl (fun _ _ => Try.call48 _ _) rfl (fun w0 ρ0 => ?_)
  conv => whnf
  repeat' (first | (refine ⟨⟨[], rfl⟩, _, PH.Le.refl _, PH.Le.refl _, ?_⟩; conv => whnf) | (refine RetP.go (l11Find_ret k A c ws x _ hs hn) rfl rfl ?_; conv => whnf) | (refine caseB_true ?_; conv => whnf) | (refine caseB_false ?_; conv => whnf) | ((with_reducible refine caseB_dec (fun h => ?_) (fun h => ?_)) <;> conv => whnf) | ((with_reducible refine caseB_ndec (fun h => ?_) (fun h => ?_)) <;> conv => whnf) | ((with_reducible refine caseB_not (fun h => ?_) (fun h => ?_)) <;> conv => whnf) | (refine Ret.go (bulkFault_spec k A c ws l _ hs hn) ?_; conv => whnf) | (with_reducible refine @And.intro (guardVC _ _ _ _ _) _ ?_ ?_) <;> conv => whnf | (refine caseB_intro (fun h => ?_) (fun h => ?_) <;> (try simp only [Bool.not_eq_true', Bool.not_eq_false', decide_eq_true_eq, decide_eq_false_iff_not] at h) <;> conv => whnf))
  · rw [cancelOf_bad h]
    exact ⟨_, PH.Le.refl _, none, 0, none, 0, rfl, PH.Le.refl _, Sl.nil, Sl.nil⟩
  · rw [cancelOf_none ‹_› h]
    exact ⟨_, PH.Le.refl _, none, 0, none, 0, rfl, PH.Le.refl _, Sl.nil, Sl.nil⟩
  rw [cancelOf_ok ‹_› h]
  refine XCall.lift (l11Copy_ret k A c ws M hs hn) [0] rfl rfl (by simp) rfl ?_
  rintro r b M1 ⟨⟨o, A1, c1, rfl, hN⟩, rfl⟩
  refine ⟨rfl, ?_⟩
  conv => whnf
  refine XCall.lift (l11Cancel_ret x k A1 c1 ws M1 (hN.ow.sl Wt.len) hn (isId x) (fun w => rfl)) [3] rfl rfl (by simp) rfl ?_
  rintro r b M2 ⟨rfl, o1, A2, c2, rfl, hT⟩
  refine ⟨rfl, ?_⟩
  conv => whnf
  repeat' (first | (refine ⟨⟨[], rfl⟩, _, PH.Le.refl _, bot_le _, ?_⟩; conv => whnf) | (refine ⟨⟨_, rfl⟩, _, PH.Le.refl _, bot_le _, ?_⟩; conv => whnf) | (refine caseB_true ?_; conv => whnf) | (refine caseB_false ?_; conv => whnf) | ((with_reducible refine caseB_dec (fun h => ?_) (fun h => ?_)) <;> conv => whnf) | ((with_reducible refine caseB_ndec (fun h => ?_) (fun h => ?_)) <;> conv => whnf) | ((with_reducible refine caseB_not (fun h => ?_) (fun h => ?_)) <;> conv => whnf) | (with_reducible refine @And.intro (guardVC _ _ _ _ _) _ ?_ ?_) <;> conv => whnf | (refine caseB_intro (fun h => ?_) (fun h => ?_) <;> (try simp only [Bool.not_eq_true', Bool.not_eq_false', decide_eq_true_eq, decide_eq_false_iff_not] at h) <;> conv => whnf))
  intro g0 hg0
  try refine ⟨⟨[], rfl⟩, _, PH.Le.refl _, bot_le _, ?_⟩
  conv => whnf
  have l1 := PH.Le.set (.cells ([x].flatMap inC).toArray 2 (0, 0)) hg0
  exact ⟨_, PH.Le.refl _, some ⟨g0, 0, none⟩, 1, A2, c2, rfl, (hN.le.trans hT.le).trans l1, (hT.ow.sl Wt.len).mono l1, sl_full in_len M2 g0 [x] 2 (0, 0)⟩
theorem eqExpire_ret (w k : Int) (A A' D D' : Option Addr) (c c' d d' : Nat) (ws : List Wt) (ids : List Int) (M : PH) (hs : Sl M A 2 Wt.cs ws) (hs' : Sl M A' 2 Wt.cs ws) (hi : Sl M D 1 inC ids) (hi' : Sl M D' 1 inC ids) (hn : ws.length ≤ 1048576) (hm : ids.length ≤ 1048576) :
    Ret 45 [exV w k A ws.length c D ids.length d, exV w k A' ws.length c' D' ids.length d'] M (B true) := by
  refine xcall_of_vc Try.func45 rfl _ Try.ntmps45 _ rfl (fun _ _ => Try.call45 _ _) rfl (fun w0 ρ0 => ?_)
  conv => whnf
  repeat' (first | (refine ⟨⟨[], rfl⟩, _, PH.Le.refl _, PH.Le.refl _, ?_⟩; conv => whnf) | (refine caseB_true ?_; conv => whnf) | (refine caseB_false ?_; conv => whnf) | ((with_reducible refine caseB_dec (fun h => ?_) (fun h => ?_)) <;> conv => whnf) | ((with_reducible refine caseB_ndec (fun h => ?_) (fun h => ?_)) <;> conv => whnf) | ((with_reducible refine caseB_not (fun h => ?_) (fun h => ?_)) <;> conv => whnf) | (refine Ret.go (eqBulk_ret k A A' c c' ws _ hs hs' hn) ?_; conv => whnf) | (refine Ret.go (eqInt64S_ret D D' d d' ids _ hi hi' hm) ?_; conv => whnf) | (with_reducible refine @And.intro (guardVC _ _ _ _ _) _ ?_ ?_) <;> conv => whnf | (refine caseB_intro (fun h => ?_) (fun h => ?_) <;> (try simp only [Bool.not_eq_true', Bool.not_eq_false', decide_eq_true_eq, decide_eq_false_iff_not] at h) <;> conv => whnf))
  all_goals first | (refine ⟨M, PH.Le.refl _, ?_, rfl⟩; simp [resV, *]; done) | (refine ⟨M, PH.Le.refl _, ?_, rfl, rfl⟩; simp [resV, *]; done) | (exfalso; simp_all; done)
theorem Two.keepx {α β : Type} {M M1 M2 : PH} {o1 o2 : Option Nat} {A1 A2 : Option Addr} {c1 c2 s1 s2 : Nat} {f1 : α → List Value} {f2 : β → List Value} {xs : List α} {ys : List β} (h : Two M M1 o1 A1 c1 s1 f1 xs o2 A2 c2 s2 f2 ys) {g : Nat} (k : Keeps (some g) M1 M2) (hg : M g = none) (n1 : o1 ≠ some g) (n2 : o2 ≠ some g) : Two M M2 o1 A1 c1 s1 f1 xs o2 A2 c2 s2 f2 ys := by
  have hl := k.over h.a.le (fun k e => by cases e; exact hg)
  exact ⟨⟨h.a.ow.keeps k (fun g' e e' => by cases e'; exact n1 e), hl, h.a.fr⟩, ⟨h.b.ow.keeps k (fun g' e e' => by cases e'; exact n2 e), hl, h.b.fr⟩, h.ne⟩
theorem Two.turn {α β : Type} {M M1 M2 : PH} {o1 o2 : Option Nat} {A1 A2 : Option Addr} {c1 c2 s1 s2 : Nat} {f1 : α → List Value} {f2 : β → List Value} {xs us : List α} {ys : List β} (h : Two M M1 o1 A1 c1 s1 f1 xs o2 A2 c2 s2 f2 ys) (k : Keeps o1 M1 M2) (hO : Ow M2 o1 A1 c1 s1 f1 us) : Two M M2 o1 A1 c1 s1 f1 us o2 A2 c2 s2 f2 ys :=
  h.more (PH.Le.refl _) k hO (.inl rfl)
theorem markExpire_ret (w k : Int) (M0 : PH) (o1 o2 : Option Nat) (B A : Option Addr) (d c : Nat) (ids : List Int) (ws : List Wt) (j : Int) (M : PH) (h : Two M0 M o1 B d 1 inC ids o2 A c 2 Wt.cs ws) (hn : ws.length ≤ 1048576) (hm : ids.length ≤ 1048576) (hj : 0 ≤ j ∧ j ≤ 1000000000) :
    ACall env 46 [exV w k A ws.length c B ids.length d, I j] M fun r M' => r = I (j + 2 * ws.length + ids.length) ∧ Two M0 M' o1 B d 1 inC (marksI (j + 2 * ws.length) ids.length) o2 A c 2 Wt.cs (marksW j ws.length) := by
  refine xcall_of_vc Try.func46 rfl _ Try.ntmps46 _ rfl (fun _ _ => Try.call46 _ _) rfl (fun w0 ρ0 => ?_)
  conv => whnf
  refine ACall.step (markBulk_ret k o2 A c ws j M h.b.ow (by omega) (by omega)) fun r M1 hh => ?_
  obtain ⟨rfl, h1, k1⟩ := hh
  have h2 := (h.symm.turn k1 h1).symm
  conv => whnf
  refine ACall.step (markInt64S_ret o1 B d ids _ M1 h2.a.ow (by omega) (by omega)) fun r M2 hh => ?_
  obtain ⟨rfl, h3, k3⟩ := hh
  conv => whnf
  exact ⟨_, PH.Le.refl _, rfl, h2.turn k3 h3⟩
theorem heldExpire_ret (w k : Int) (A B : Option Addr) (c n d m : Nat) (j : Int) (M : PH) (hM : Sl M A 2 Wt.cs (marksW j n)) (hI : Sl M B 1 inC (marksI (j + 2 * n) m)) (hn : n ≤ 1048576) (hm : m ≤ 1048576) (hj : 0 ≤ j ∧ j ≤ 1000000000) :
    Ret 47 [exV w k A n c B m d, I j] M (I (j + 2 * n + m)) := by
  refine xcall_of_vc Try.func47 rfl _ Try.ntmps47 _ rfl (fun _ _ => Try.call47 _ _) rfl (fun w0 ρ0 => ?_)
  conv => whnf
  repeat' (first | (refine ⟨⟨[], rfl⟩, _, PH.Le.refl _, PH.Le.refl _, ?_⟩; conv => whnf) | (refine caseB_true ?_; conv => whnf) | (refine caseB_false ?_; conv => whnf) | ((with_reducible refine caseB_dec (fun h => ?_) (fun h => ?_)) <;> conv => whnf) | ((with_reducible refine caseB_ndec (fun h => ?_) (fun h => ?_)) <;> conv => whnf) | ((with_reducible refine caseB_not (fun h => ?_) (fun h => ?_)) <;> conv => whnf) | (refine Ret.go (heldBulk_ret k A c n j _ hM (by omega) (by omega)) ?_; conv => whnf) | (refine Ret.go (heldInt64S_ret B d m _ _ hI (by omega) (by omega)) ?_; conv => whnf) | (with_reducible refine @And.intro (guardVC _ _ _ _ _) _ ?_ ?_) <;> conv => whnf | (refine caseB_intro (fun h => ?_) (fun h => ?_) <;> (try simp only [Bool.not_eq_true', Bool.not_eq_false', decide_eq_true_eq, decide_eq_false_iff_not] at h) <;> conv => whnf))
  all_goals first | omega | exact ⟨_, PH.Le.refl _, rfl, rfl⟩
theorem expireOf_len (k : Int) (ws : List Wt) (l : Ln) (t : Int) (hn : ws.length ≤ 1048576) : (expireOf k ws l t).ws.length ≤ 1048576 ∧ (expireOf k ws l t).ids.length ≤ 1048576 := by
  unfold expireOf
  split
  · exact ⟨Nat.zero_le _, Nat.zero_le _⟩
  · split
    · exact ⟨Nat.zero_le _, Nat.zero_le _⟩
    · exact ⟨Nat.le_trans (leftW_len _ _) hn, Nat.le_trans (goneW_len _ _) hn⟩
theorem cancelOf_len (k : Int) (ws : List Wt) (l : Ln) (x : Int) (hn : ws.length ≤ 1048576) : (cancelOf k ws l x).ws.length ≤ 1048576 ∧ (cancelOf k ws l x).ids.length ≤ 1048576 := by
  unfold cancelOf
  split
  · exact ⟨Nat.zero_le _, Nat.zero_le _⟩
  · split
    · exact ⟨Nat.zero_le _, Nat.zero_le _⟩
    · exact ⟨Nat.le_trans (leftW_len _ _) hn, by simp⟩
set_option maxHeartbeats 4000000 in
theorem expireBulk_law (k : Int) (l : Ln) (t : Int) (A : Option Addr) (c : Nat) (ws : List Wt) (M : PH) (hs : Sl M A 2 Wt.cs ws) (h63 : ws.length ≤ maxLen) :
    ACall env 9 [bulkV k A ws.length c, l.v, I t] M fun r M' => r = B true ∧ M.Le M' := by
  refine xcall_of_vc Try.func9 rfl _ Try.ntmps9 _ rfl (fun _ _ => Try.call9 _ _) rfl (fun w0 ρ0 => ?_)
  conv => whnf
  repeat' (first | (refine ⟨⟨[], rfl⟩, _, PH.Le.refl _, PH.Le.refl _, ?_⟩; conv => whnf) | (refine caseB_true ?_; conv => whnf) | (refine caseB_false ?_; conv => whnf) | ((with_reducible refine caseB_dec (fun h => ?_) (fun h => ?_)) <;> conv => whnf) | ((with_reducible refine caseB_ndec (fun h => ?_) (fun h => ?_)) <;> conv => whnf) | ((with_reducible refine caseB_not (fun h => ?_) (fun h => ?_)) <;> conv => whnf) | (refine Ret.go (szBulk_ret k A c ws _ _) ?_; conv => whnf) | (with_reducible refine @And.intro (guardVC _ _ _ _ _) _ ?_ ?_) <;> conv => whnf | (refine caseB_intro (fun h => ?_) (fun h => ?_) <;> (try simp only [Bool.not_eq_true', Bool.not_eq_false', decide_eq_true_eq, decide_eq_false_iff_not] at h) <;> conv => whnf))
  · exact ⟨_, PH.Le.refl _, rfl, PH.Le.refl _⟩
  obtain ⟨e1, b1⟩ := sz_in (by omega) (by omega) h63 h
  have hn : ws.length ≤ 1048576 := by omega
  clear h e1 b1
  obtain ⟨hn2, hm2⟩ : (expireOf k ws l t).ws.length ≤ 1048576 ∧ (expireOf k ws l t).ids.length ≤ 1048576 := expireOf_len k ws l t hn
  refine join_rule (fun z : (Option Addr × Nat) × (Option Addr × Nat) => ⟨slots 82 [(2, .v (I t)), (3, .bp 0 0), (4, .bp 1 0), (6, .v (B false)), (8, .bp 2 0)], [⟨35, [.v (I k), .v (.slice A ws.length c)]⟩, ⟨37, [.v (I l.a), .v (I l.b), .v (I l.c)]⟩, ⟨73, [.v (I (expireOf k ws l t).why), .v (I (expireOf k ws l t).k), .v (.slice z.2.1 (expireOf k ws l t).ws.length z.2.2), .v (.slice z.1.1 (expireOf k ws l t).ids.length z.1.2)]⟩]⟩) (fun z M' => M.Le M' ∧ Sl M' z.2.1 2 Wt.cs (expireOf k ws l t).ws ∧ Sl M' z.1.1 1 inC (expireOf k ws l t).ids) ?_ ?_
  · repeat' (first | (refine ⟨⟨[], rfl⟩, _, PH.Le.refl _, bot_le _, ?_⟩; conv => whnf) | (refine ⟨⟨_, rfl⟩, _, PH.Le.refl _, bot_le _, ?_⟩; conv => whnf) | (refine ACall.step (expireBulk_spec k _ _ ws l t _ (by first | assumption | exact Sl.mono (by assumption) (by repeat (first | exact PH.Le.refl _ | assumption | (apply PH.Le.trans; · assumption)))) hn) fun r M2 hh => ?_; obtain ⟨Bw, dw, Aw, cw, rfl, lw, sw, iw⟩ := hh; (first | (refine ⟨⟨[], rfl⟩, _, PH.Le.refl _, bot_le _, ?_⟩; conv => whnf) | conv => whnf)) | (refine ACall.step (toBulk_new k A c ws _ (hs.mono (by repeat (first | exact PH.Le.refl _ | assumption | (apply PH.Le.trans; · assumption)))) hn) fun r M7 hh => ?_; obtain ⟨g7, rfl, l7, s7⟩ := hh; (first | (refine ⟨⟨[], rfl⟩, _, PH.Le.refl _, bot_le _, ?_⟩; conv => whnf) | (refine ⟨⟨[], rfl⟩, _, l7, PH.Le.refl _, ?_⟩; conv => whnf) | conv => whnf)) | (refine caseB_true ?_; conv => whnf) | (refine caseB_false ?_; conv => whnf) | ((with_reducible refine caseB_dec (fun h => ?_) (fun h => ?_)) <;> conv => whnf) | ((with_reducible refine caseB_ndec (fun h => ?_) (fun h => ?_)) <;> conv => whnf) | ((with_reducible refine caseB_not (fun h => ?_) (fun h => ?_)) <;> conv => whnf) | (refine Ret.go (toLanes_ret l _) ?_; conv => whnf) | (refine draw_ruleJ (none) (.light 0 <| .light 2 <| .light 4 <| .alt 1 false (.alt 3 false (.alt 5 false (.alt 6 false (.alt 7 true (.done) .nil) .nil) (.alt 6 false (.alt 5 false (.alt 7 true (.done) .nil) .nil) .nil)) (.alt 6 false (.alt 3 false (.alt 5 false (.alt 7 true (.done) .nil) .nil) .nil) .nil)) (.alt 6 false (.alt 1 false (.alt 3 false (.alt 5 false (.alt 7 true (.done) .nil) .nil) .nil) .nil) .nil)) (by decide +kernel) (bot_le _) ?_; conv => whnf) | (refine draw_ruleJ (none) (.light 0 <| .light 1 <| .light 3 <| .alt 2 false (.alt 4 false (.alt 5 false (.alt 6 true (.done) .nil) .nil) (.alt 5 false (.alt 4 false (.alt 6 true (.done) .nil) .nil) .nil)) (.alt 5 false (.alt 2 false (.alt 4 false (.alt 6 true (.done) .nil) .nil) .nil) .nil)) (by decide +kernel) (bot_le _) ?_; conv => whnf) | (refine draw_ruleJ (none) (.light 0 <| .light 1 <| .alt 2 false (.alt 3 false (.light 4 <| .done) .nil) .nil) (by decide +kernel) (bot_le _) ?_; conv => whnf) | (refine draw_ruleJ (none) (.light 0 <| .light 2 <| .light 4 <| .alt 1 false (.alt 3 false (.alt 5 false (.alt 6 false (.alt 7 true (.done) .nil) .nil) (.alt 6 false (.alt 5 false (.alt 7 true (.done) .nil) .nil) .nil)) (.alt 6 false (.alt 3 false (.alt 5 false (.alt 7 true (.done) .nil) .nil) .nil) .nil)) (.alt 6 false (.alt 1 false (.alt 3 false (.alt 5 false (.alt 7 true (.done) .nil) .nil) .nil) .nil) .nil)) (by decide +kernel) (bot_le _) ?_; conv => whnf) | (with_reducible refine @And.intro (guardVC _ _ _ _ _) _ ?_ ?_) <;> conv => whnf | (refine caseB_intro (fun h => ?_) (fun h => ?_) <;> (try simp only [Bool.not_eq_true', Bool.not_eq_false', decide_eq_true_eq, decide_eq_false_iff_not] at h) <;> conv => whnf))
    all_goals exact ⟨((Bw, dw), (Aw, cw)), ⟨by simp [slots, leT], ⟨[], rfl⟩, by simp, rfl, rfl⟩, (by repeat (first | exact PH.Le.refl _ | assumption | (apply PH.Le.trans; · assumption))), sw, iw⟩
  rintro ⟨⟨Bw, dw⟩, ⟨Aw, cw⟩⟩ M1 ⟨l1, sw, iw⟩
  have sw : Sl M1 Aw 2 Wt.cs (expireOf k ws l t).ws := sw
  have iw : Sl M1 Bw 1 inC (expireOf k ws l t).ids := iw
  conv => whnf
  refine ACall.step (toBulk_own k A c ws _ (hs.mono l1) hn) fun r M2 hh => ?_
  obtain ⟨gx, rfl, Nx⟩ := hh
  conv => whnf
  have l2 := Nx.le
  have sx := Nx.ow.sl Wt.len
  refine join_rule (fun z : (Option Nat × Option Addr × Nat) × (Option Nat × Option Addr × Nat) => ⟨slots 82 [(2, .v (I t)), (3, .bp 0 0), (4, .bp 1 0), (6, .v (B false)), (8, .bp 2 0), (9, .bp 3 0), (10, .bp 4 0)], [⟨35, [.v (I k), .v (.slice A ws.length c)]⟩, ⟨37, [.v (I l.a), .v (I l.b), .v (I l.c)]⟩, ⟨73, [.v (I (expireOf k ws l t).why), .v (I (expireOf k ws l t).k), .v (.slice Aw (expireOf k ws l t).ws.length cw), .v (.slice Bw (expireOf k ws l t).ids.length dw)]⟩, ⟨42, [.v (I k), .v (.slice (some ⟨gx, 0, none⟩) ws.length ws.length)]⟩, ⟨73, [.v (I (expireOf k ws l t).why), .v (I (expireOf k ws l t).k), .v (.slice z.2.2.1 (expireOf k ws l t).ws.length z.2.2.2), .v (.slice z.1.2.1 (expireOf k ws l t).ids.length z.1.2.2)]⟩]⟩) (fun z M' => Two M2 M' z.1.1 z.1.2.1 z.1.2.2 1 inC (expireOf k ws l t).ids z.2.1 z.2.2.1 z.2.2.2 2 Wt.cs (expireOf k ws l t).ws) ?_ ?_
  · repeat' (first | (refine ⟨⟨[], rfl⟩, _, PH.Le.refl _, bot_le _, ?_⟩; conv => whnf) | (refine ⟨⟨_, rfl⟩, _, PH.Le.refl _, bot_le _, ?_⟩; conv => whnf) | (refine ACall.step (expireBulk_impl k _ _ ws l t _ (by first | assumption | exact Sl.mono (by assumption) (by repeat (first | exact PH.Le.refl _ | assumption | (apply PH.Le.trans; · assumption)))) hn) fun r M3 hh => ?_; obtain ⟨o1, B1, d1, o2, A2, c2, rfl, Ng⟩ := hh; (first | (refine ⟨⟨[], rfl⟩, _, PH.Le.refl _, bot_le _, ?_⟩; conv => whnf) | conv => whnf)) | (refine caseB_true ?_; conv => whnf) | (refine caseB_false ?_; conv => whnf) | ((with_reducible refine caseB_dec (fun h => ?_) (fun h => ?_)) <;> conv => whnf) | ((with_reducible refine caseB_ndec (fun h => ?_) (fun h => ?_)) <;> conv => whnf) | ((with_reducible refine caseB_not (fun h => ?_) (fun h => ?_)) <;> conv => whnf) | (refine Ret.go (toLanes_ret l _) ?_; conv => whnf) | (refine draw_ruleJ (none) (.light 0 <| .light 2 <| .light 4 <| .alt 1 false (.alt 3 false (.alt 5 false (.alt 6 false (.alt 7 true (.done) .nil) .nil) (.alt 6 false (.alt 5 false (.alt 7 true (.done) .nil) .nil) .nil)) (.alt 6 false (.alt 3 false (.alt 5 false (.alt 7 true (.done) .nil) .nil) .nil) .nil)) (.alt 6 false (.alt 1 false (.alt 3 false (.alt 5 false (.alt 7 true (.done) .nil) .nil) .nil) .nil) .nil)) (by decide +kernel) (bot_le _) ?_; conv => whnf) | (refine draw_ruleJ (none) (.light 0 <| .light 1 <| .light 3 <| .alt 2 false (.alt 4 false (.alt 5 false (.alt 6 true (.done) .nil) .nil) (.alt 5 false (.alt 4 false (.alt 6 true (.done) .nil) .nil) .nil)) (.alt 5 false (.alt 2 false (.alt 4 false (.alt 6 true (.done) .nil) .nil) .nil) .nil)) (by decide +kernel) (bot_le _) ?_; conv => whnf) | (refine draw_ruleJ (none) (.light 0 <| .light 1 <| .alt 2 false (.alt 3 false (.light 4 <| .done) .nil) .nil) (by decide +kernel) (bot_le _) ?_; conv => whnf) | (refine draw_ruleJ (none) (.light 0 <| .light 2 <| .light 4 <| .alt 1 false (.alt 3 false (.alt 5 false (.alt 6 false (.alt 7 true (.done) .nil) .nil) (.alt 6 false (.alt 5 false (.alt 7 true (.done) .nil) .nil) .nil)) (.alt 6 false (.alt 3 false (.alt 5 false (.alt 7 true (.done) .nil) .nil) .nil) .nil)) (.alt 6 false (.alt 1 false (.alt 3 false (.alt 5 false (.alt 7 true (.done) .nil) .nil) .nil) .nil) .nil)) (by decide +kernel) (bot_le _) ?_; conv => whnf) | (with_reducible refine @And.intro (guardVC _ _ _ _ _) _ ?_ ?_) <;> conv => whnf | (refine caseB_intro (fun h => ?_) (fun h => ?_) <;> (try simp only [Bool.not_eq_true', Bool.not_eq_false', decide_eq_true_eq, decide_eq_false_iff_not] at h) <;> conv => whnf))
    all_goals exact ⟨((o1, B1, d1), (o2, A2, c2)), ⟨by simp [slots, leT], ⟨[], rfl⟩, by simp, rfl, rfl⟩, Ng⟩
  rintro ⟨⟨o1, Bg, dg⟩, ⟨o2, Ag, cg⟩⟩ M3 Ng
  have Ng : Two M2 M3 o1 Bg dg 1 inC (expireOf k ws l t).ids o2 Ag cg 2 Wt.cs (expireOf k ws l t).ws := Ng
  conv => whnf
  have l3 := Ng.a.le
  repeat' (first | (refine ⟨⟨[], rfl⟩, _, PH.Le.refl _, bot_le _, ?_⟩; conv => whnf) | (refine ⟨⟨_, rfl⟩, _, PH.Le.refl _, bot_le _, ?_⟩; conv => whnf) | (refine ACall.step (toBulk_new k A c ws _ (hs.mono ((l1.trans l2).trans l3)) hn) fun r M7 hh => ?_; obtain ⟨g7, rfl, l7, s7⟩ := hh; (first | (refine ⟨⟨[], rfl⟩, _, PH.Le.refl _, bot_le _, ?_⟩; conv => whnf) | (refine ⟨⟨[], rfl⟩, _, l7, PH.Le.refl _, ?_⟩; conv => whnf) | conv => whnf)) | (refine caseB_true ?_; conv => whnf) | (refine caseB_false ?_; conv => whnf) | ((with_reducible refine caseB_dec (fun h => ?_) (fun h => ?_)) <;> conv => whnf) | ((with_reducible refine caseB_ndec (fun h => ?_) (fun h => ?_)) <;> conv => whnf) | ((with_reducible refine caseB_not (fun h => ?_) (fun h => ?_)) <;> conv => whnf) | (refine Ret.go (eqExpire_ret _ _ _ _ _ _ _ _ _ _ _ _ _ (Ng.b.ow.sl Wt.len) (sw.mono (l2.trans l3)) (Ng.a.ow.sl in_len) (iw.mono (l2.trans l3)) hn2 hm2) ?_; conv => whnf) | (refine Ret.go (eqBulk_ret k _ _ _ _ ws _ ((sx.mono l3).mono l7) s7 hn) ?_; conv => whnf) | (refine draw_ruleJ (none) (.light 0 <| .light 2 <| .light 4 <| .alt 1 false (.alt 3 false (.alt 5 false (.alt 6 false (.alt 7 true (.done) .nil) .nil) (.alt 6 false (.alt 5 false (.alt 7 true (.done) .nil) .nil) .nil)) (.alt 6 false (.alt 3 false (.alt 5 false (.alt 7 true (.done) .nil) .nil) .nil) .nil)) (.alt 6 false (.alt 1 false (.alt 3 false (.alt 5 false (.alt 7 true (.done) .nil) .nil) .nil) .nil) .nil)) (by decide +kernel) (bot_le _) ?_; conv => whnf) | (refine draw_ruleJ (none) (.light 0 <| .light 1 <| .light 3 <| .alt 2 false (.alt 4 false (.alt 5 false (.alt 6 true (.done) .nil) .nil) (.alt 5 false (.alt 4 false (.alt 6 true (.done) .nil) .nil) .nil)) (.alt 5 false (.alt 2 false (.alt 4 false (.alt 6 true (.done) .nil) .nil) .nil) .nil)) (by decide +kernel) (bot_le _) ?_; conv => whnf) | (refine draw_ruleJ (none) (.light 0 <| .light 1 <| .alt 2 false (.alt 3 false (.light 4 <| .done) .nil) .nil) (by decide +kernel) (bot_le _) ?_; conv => whnf) | (refine draw_ruleJ (none) (.light 0 <| .light 2 <| .light 4 <| .alt 1 false (.alt 3 false (.alt 5 false (.alt 6 false (.alt 7 true (.done) .nil) .nil) (.alt 6 false (.alt 5 false (.alt 7 true (.done) .nil) .nil) .nil)) (.alt 6 false (.alt 3 false (.alt 5 false (.alt 7 true (.done) .nil) .nil) .nil) .nil)) (.alt 6 false (.alt 1 false (.alt 3 false (.alt 5 false (.alt 7 true (.done) .nil) .nil) .nil) .nil) .nil)) (by decide +kernel) (bot_le _) ?_; conv => whnf) | (with_reducible refine @And.intro (guardVC _ _ _ _ _) _ ?_ ?_) <;> conv => whnf | (refine caseB_intro (fun h => ?_) (fun h => ?_) <;> (try simp only [Bool.not_eq_true', Bool.not_eq_false', decide_eq_true_eq, decide_eq_false_iff_not] at h) <;> conv => whnf))
  refine ACall.step (markBulk_ret k (some gx) _ _ ws 1 _ ((Nx.ow.mono l3).mono l7) hn (by omega)) fun r M5 hh => ?_
  obtain ⟨rfl, hx5, k5⟩ := hh
  have hgx : M1 gx = none := Nx.fr gx rfl
  have hk : ∀ o : Option Nat, (∀ g, o = some g → M2 g = none) → o ≠ some gx := fun o ho e => by
    have h1 := ho _ e
    obtain ⟨ob, hob⟩ := Nx.ow.known _ rfl
    rw [h1] at hob; cases hob
  have T5 : Two M1 M5 o1 Bg dg 1 inC (expireOf k ws l t).ids o2 Ag cg 2 Wt.cs (expireOf k ws l t).ws := ((Ng.to l7).from l2).keepx k5 hgx (hk _ Ng.a.fr) (hk _ Ng.b.fr)
  have q5 := T5.a.le
  conv => whnf
  repeat' (first | (refine ⟨⟨[], rfl⟩, _, PH.Le.refl _, PH.Le.refl _, ?_⟩; conv => whnf) | (with_reducible refine caseB_dec (fun h => absurd h (by omega)) (fun h => ?_); conv => whnf) | (refine caseB_true ?_; conv => whnf) | (refine caseB_false ?_; conv => whnf) | ((with_reducible refine caseB_dec (fun h => ?_) (fun h => ?_)) <;> conv => whnf) | ((with_reducible refine caseB_ndec (fun h => ?_) (fun h => ?_)) <;> conv => whnf) | ((with_reducible refine caseB_not (fun h => ?_) (fun h => ?_)) <;> conv => whnf) | (refine Ret.go (eqExpire_ret _ _ _ _ _ _ _ _ _ _ _ _ _ (T5.b.ow.sl Wt.len) (sw.mono q5) (T5.a.ow.sl in_len) (iw.mono q5) hn2 hm2) ?_; conv => whnf) | (with_reducible refine @And.intro (guardVC _ _ _ _ _) _ ?_ ?_) <;> conv => whnf | (refine caseB_intro (fun h => ?_) (fun h => ?_) <;> (try simp only [Bool.not_eq_true', Bool.not_eq_false', decide_eq_true_eq, decide_eq_false_iff_not] at h) <;> conv => whnf))
  refine ACall.step (markExpire_ret _ _ M1 o1 o2 Bg Ag dg cg _ _ 1 _ T5 hn2 hm2 (by omega)) fun r M6 hh => ?_
  obtain ⟨rfl, T6⟩ := hh
  have q6 := T6.a.le
  have s6 := T6.b.ow.sl Wt.len
  have i6 := T6.a.ow.sl in_len
  conv => whnf
  repeat' (first | (refine ⟨⟨[], rfl⟩, _, PH.Le.refl _, PH.Le.refl _, ?_⟩; conv => whnf) | (with_reducible refine caseB_dec (fun h => absurd h (by omega)) (fun h => ?_); conv => whnf) | (refine caseB_true ?_; conv => whnf) | (refine caseB_false ?_; conv => whnf) | ((with_reducible refine caseB_dec (fun h => ?_) (fun h => ?_)) <;> conv => whnf) | ((with_reducible refine caseB_ndec (fun h => ?_) (fun h => ?_)) <;> conv => whnf) | ((with_reducible refine caseB_not (fun h => ?_) (fun h => ?_)) <;> conv => whnf) | (refine Ret.go (heldExpire_ret _ _ Ag Bg cg (expireOf k ws l t).ws.length dg (expireOf k ws l t).ids.length 1 _ s6 i6 hn2 hm2 (by omega)) ?_; conv => whnf) | (with_reducible refine @And.intro (guardVC _ _ _ _ _) _ ?_ ?_) <;> conv => whnf | (refine caseB_intro (fun h => ?_) (fun h => ?_) <;> (try simp only [Bool.not_eq_true', Bool.not_eq_false', decide_eq_true_eq, decide_eq_false_iff_not] at h) <;> conv => whnf))
  · first | exact absurd trivial h | exact absurd rfl h
  have lA := l1.trans q6
  refine join_rule (fun z : (Option Addr × Nat) × (Option Addr × Nat) => ⟨slots 82 [(2, .v (I t)), (3, .bp 0 0), (4, .bp 1 0), (6, .v (B false)), (8, .bp 2 0), (9, .bp 3 0), (10, .bp 4 0), (12, .v (I (1 + 2 * (expireOf k ws l t).ws.length + (expireOf k ws l t).ids.length))), (14, .bp 5 0)], [⟨35, [.v (I k), .v (.slice A ws.length c)]⟩, ⟨37, [.v (I l.a), .v (I l.b), .v (I l.c)]⟩, ⟨73, [.v (I (expireOf k ws l t).why), .v (I (expireOf k ws l t).k), .v (.slice Aw (expireOf k ws l t).ws.length cw), .v (.slice Bw (expireOf k ws l t).ids.length dw)]⟩, ⟨42, [.v (I k), .v (.slice (some ⟨gx, 0, none⟩) ws.length ws.length)]⟩, ⟨73, [.v (I (expireOf k ws l t).why), .v (I (expireOf k ws l t).k), .v (.slice Ag (expireOf k ws l t).ws.length cg), .v (.slice Bg (expireOf k ws l t).ids.length dg)]⟩, ⟨73, [.v (I (expireOf k ws l t).why), .v (I (expireOf k ws l t).k), .v (.slice z.2.1 (expireOf k ws l t).ws.length z.2.2), .v (.slice z.1.1 (expireOf k ws l t).ids.length z.1.2)]⟩]⟩) (fun z M' => M6.Le M' ∧ Sl M' z.2.1 2 Wt.cs (expireOf k ws l t).ws ∧ Sl M' z.1.1 1 inC (expireOf k ws l t).ids) ?_ ?_
  · repeat' (first | (refine ⟨⟨[], rfl⟩, _, PH.Le.refl _, bot_le _, ?_⟩; conv => whnf) | (refine ⟨⟨_, rfl⟩, _, PH.Le.refl _, bot_le _, ?_⟩; conv => whnf) | (refine ACall.step (expireBulk_impl k _ _ ws l t _ (by first | assumption | exact Sl.mono (by assumption) (by repeat (first | exact PH.Le.refl _ | assumption | (apply PH.Le.trans; · assumption)))) hn) fun r M8 hh => ?_; obtain ⟨o8, B8, d8, p8, A8, c8, rfl, N8⟩ := hh; have l8 := N8.a.le; (first | (refine ⟨⟨[], rfl⟩, _, PH.Le.refl _, bot_le _, ?_⟩; conv => whnf) | conv => whnf)) | (refine ACall.step (toBulk_new k A c ws _ (hs.mono (lA.trans (by repeat (first | exact PH.Le.refl _ | assumption | (apply PH.Le.trans; · assumption))))) hn) fun r M7 hh => ?_; obtain ⟨g7, rfl, l7, s7⟩ := hh; (first | (refine ⟨⟨[], rfl⟩, _, PH.Le.refl _, bot_le _, ?_⟩; conv => whnf) | (refine ⟨⟨[], rfl⟩, _, l7, PH.Le.refl _, ?_⟩; conv => whnf) | conv => whnf)) | (refine caseB_true ?_; conv => whnf) | (refine caseB_false ?_; conv => whnf) | ((with_reducible refine caseB_dec (fun h => ?_) (fun h => ?_)) <;> conv => whnf) | ((with_reducible refine caseB_ndec (fun h => ?_) (fun h => ?_)) <;> conv => whnf) | ((with_reducible refine caseB_not (fun h => ?_) (fun h => ?_)) <;> conv => whnf) | (refine Ret.go (toLanes_ret l _) ?_; conv => whnf) | (refine draw_ruleJ (none) (.light 0 <| .light 2 <| .light 4 <| .alt 1 false (.alt 3 false (.alt 5 false (.alt 6 false (.alt 7 true (.done) .nil) .nil) (.alt 6 false (.alt 5 false (.alt 7 true (.done) .nil) .nil) .nil)) (.alt 6 false (.alt 3 false (.alt 5 false (.alt 7 true (.done) .nil) .nil) .nil) .nil)) (.alt 6 false (.alt 1 false (.alt 3 false (.alt 5 false (.alt 7 true (.done) .nil) .nil) .nil) .nil) .nil)) (by decide +kernel) (bot_le _) ?_; conv => whnf) | (refine draw_ruleJ (none) (.light 0 <| .light 1 <| .light 3 <| .alt 2 false (.alt 4 false (.alt 5 false (.alt 6 true (.done) .nil) .nil) (.alt 5 false (.alt 4 false (.alt 6 true (.done) .nil) .nil) .nil)) (.alt 5 false (.alt 2 false (.alt 4 false (.alt 6 true (.done) .nil) .nil) .nil) .nil)) (by decide +kernel) (bot_le _) ?_; conv => whnf) | (refine draw_ruleJ (none) (.light 0 <| .light 1 <| .alt 2 false (.alt 3 false (.light 4 <| .done) .nil) .nil) (by decide +kernel) (bot_le _) ?_; conv => whnf) | (refine draw_ruleJ (none) (.light 0 <| .light 2 <| .light 4 <| .alt 1 false (.alt 3 false (.alt 5 false (.alt 6 false (.alt 7 true (.done) .nil) .nil) (.alt 6 false (.alt 5 false (.alt 7 true (.done) .nil) .nil) .nil)) (.alt 6 false (.alt 3 false (.alt 5 false (.alt 7 true (.done) .nil) .nil) .nil) .nil)) (.alt 6 false (.alt 1 false (.alt 3 false (.alt 5 false (.alt 7 true (.done) .nil) .nil) .nil) .nil) .nil)) (by decide +kernel) (bot_le _) ?_; conv => whnf) | (with_reducible refine @And.intro (guardVC _ _ _ _ _) _ ?_ ?_) <;> conv => whnf | (refine caseB_intro (fun h => ?_) (fun h => ?_) <;> (try simp only [Bool.not_eq_true', Bool.not_eq_false', decide_eq_true_eq, decide_eq_false_iff_not] at h) <;> conv => whnf))
    all_goals exact ⟨((B8, d8), (A8, c8)), ⟨by simp [slots, leT], ⟨[], rfl⟩, by simp, rfl, rfl⟩, (by repeat (first | exact PH.Le.refl _ | assumption | (apply PH.Le.trans; · assumption))), N8.b.ow.sl Wt.len, N8.a.ow.sl in_len⟩
  rintro ⟨⟨B8, d8⟩, ⟨A8, c8⟩⟩ M8 ⟨l8, s8, i8⟩
  conv => whnf
  repeat' (first | (refine ⟨⟨[], rfl⟩, _, PH.Le.refl _, PH.Le.refl _, ?_⟩; conv => whnf) | (with_reducible refine caseB_dec (fun h => absurd h (by omega)) (fun h => ?_); conv => whnf) | (refine caseB_true ?_; conv => whnf) | (refine caseB_false ?_; conv => whnf) | ((with_reducible refine caseB_dec (fun h => ?_) (fun h => ?_)) <;> conv => whnf) | ((with_reducible refine caseB_ndec (fun h => ?_) (fun h => ?_)) <;> conv => whnf) | ((with_reducible refine caseB_not (fun h => ?_) (fun h => ?_)) <;> conv => whnf) | (refine Ret.go (eqExpire_ret _ _ _ _ _ _ _ _ _ _ _ _ _ s8 (sw.mono (q6.trans l8)) i8 (iw.mono (q6.trans l8)) hn2 hm2) ?_; conv => whnf) | (refine Ret.go (heldExpire_ret _ _ Ag Bg cg (expireOf k ws l t).ws.length dg (expireOf k ws l t).ids.length 1 _ (s6.mono l8) (i6.mono l8) hn2 hm2 (by omega)) ?_; conv => whnf) | (with_reducible refine @And.intro (guardVC _ _ _ _ _) _ ?_ ?_) <;> conv => whnf | (refine caseB_intro (fun h => ?_) (fun h => ?_) <;> (try simp only [Bool.not_eq_true', Bool.not_eq_false', decide_eq_true_eq, decide_eq_false_iff_not] at h) <;> conv => whnf))
  all_goals first | exact absurd trivial h | exact absurd rfl h | exact ⟨_, PH.Le.refl _, rfl, lA.trans l8⟩

set_option maxHeartbeats 4000000 in
theorem cancelBulk_law (k : Int) (l : Ln) (t : Int) (A : Option Addr) (c : Nat) (ws : List Wt) (M : PH) (hs : Sl M A 2 Wt.cs ws) (h63 : ws.length ≤ maxLen) :
    ACall env 10 [bulkV k A ws.length c, l.v, I t] M fun r M' => r = B true ∧ M.Le M' := by
  refine xcall_of_vc Try.func10 rfl _ Try.ntmps10 _ rfl (fun _ _ => Try.call10 _ _) rfl (fun w0 ρ0 => ?_)
  conv => whnf
  repeat' (first | (refine ⟨⟨[], rfl⟩, _, PH.Le.refl _, PH.Le.refl _, ?_⟩; conv => whnf) | (refine caseB_true ?_; conv => whnf) | (refine caseB_false ?_; conv => whnf) | ((with_reducible refine caseB_dec (fun h => ?_) (fun h => ?_)) <;> conv => whnf) | ((with_reducible refine caseB_ndec (fun h => ?_) (fun h => ?_)) <;> conv => whnf) | ((with_reducible refine caseB_not (fun h => ?_) (fun h => ?_)) <;> conv => whnf) | (refine Ret.go (szBulk_ret k A c ws _ _) ?_; conv => whnf) | (with_reducible refine @And.intro (guardVC _ _ _ _ _) _ ?_ ?_) <;> conv => whnf | (refine caseB_intro (fun h => ?_) (fun h => ?_) <;> (try simp only [Bool.not_eq_true', Bool.not_eq_false', decide_eq_true_eq, decide_eq_false_iff_not] at h) <;> conv => whnf))
  · exact ⟨_, PH.Le.refl _, rfl, PH.Le.refl _⟩
  obtain ⟨e1, b1⟩ := sz_in (by omega) (by omega) h63 h
  have hn : ws.length ≤ 1048576 := by omega
  clear h e1 b1
  obtain ⟨hn2, hm2⟩ : (cancelOf k ws l t).ws.length ≤ 1048576 ∧ (cancelOf k ws l t).ids.length ≤ 1048576 := cancelOf_len k ws l t hn
  refine join_rule (fun z : (Option Addr × Nat) × (Option Addr × Nat) => ⟨slots 82 [(2, .v (I t)), (3, .bp 0 0), (4, .bp 1 0), (6, .v (B false)), (8, .bp 2 0)], [⟨35, [.v (I k), .v (.slice A ws.length c)]⟩, ⟨37, [.v (I l.a), .v (I l.b), .v (I l.c)]⟩, ⟨73, [.v (I (cancelOf k ws l t).why), .v (I (cancelOf k ws l t).k), .v (.slice z.2.1 (cancelOf k ws l t).ws.length z.2.2), .v (.slice z.1.1 (cancelOf k ws l t).ids.length z.1.2)]⟩]⟩) (fun z M' => M.Le M' ∧ Sl M' z.2.1 2 Wt.cs (cancelOf k ws l t).ws ∧ Sl M' z.1.1 1 inC (cancelOf k ws l t).ids) ?_ ?_
  · repeat' (first | (refine ⟨⟨[], rfl⟩, _, PH.Le.refl _, bot_le _, ?_⟩; conv => whnf) | (refine ⟨⟨_, rfl⟩, _, PH.Le.refl _, bot_le _, ?_⟩; conv => whnf) | (refine ACall.step (cancelBulk_spec k _ _ ws l t _ (by first | assumption | exact Sl.mono (by assumption) (by repeat (first | exact PH.Le.refl _ | assumption | (apply PH.Le.trans; · assumption)))) hn) fun r M2 hh => ?_; obtain ⟨Bw, dw, Aw, cw, rfl, lw, sw, iw⟩ := hh; (first | (refine ⟨⟨[], rfl⟩, _, PH.Le.refl _, bot_le _, ?_⟩; conv => whnf) | conv => whnf)) | (refine ACall.step (toBulk_new k A c ws _ (hs.mono (by repeat (first | exact PH.Le.refl _ | assumption | (apply PH.Le.trans; · assumption)))) hn) fun r M7 hh => ?_; obtain ⟨g7, rfl, l7, s7⟩ := hh; (first | (refine ⟨⟨[], rfl⟩, _, PH.Le.refl _, bot_le _, ?_⟩; conv => whnf) | (refine ⟨⟨[], rfl⟩, _, l7, PH.Le.refl _, ?_⟩; conv => whnf) | conv => whnf)) | (refine caseB_true ?_; conv => whnf) | (refine caseB_false ?_; conv => whnf) | ((with_reducible refine caseB_dec (fun h => ?_) (fun h => ?_)) <;> conv => whnf) | ((with_reducible refine caseB_ndec (fun h => ?_) (fun h => ?_)) <;> conv => whnf) | ((with_reducible refine caseB_not (fun h => ?_) (fun h => ?_)) <;> conv => whnf) | (refine Ret.go (toLanes_ret l _) ?_; conv => whnf) | (refine draw_ruleJ (none) (.light 0 <| .light 2 <| .light 4 <| .alt 1 false (.alt 3 false (.alt 5 false (.alt 6 false (.alt 7 true (.done) .nil) .nil) (.alt 6 false (.alt 5 false (.alt 7 true (.done) .nil) .nil) .nil)) (.alt 6 false (.alt 3 false (.alt 5 false (.alt 7 true (.done) .nil) .nil) .nil) .nil)) (.alt 6 false (.alt 1 false (.alt 3 false (.alt 5 false (.alt 7 true (.done) .nil) .nil) .nil) .nil) .nil)) (by decide +kernel) (bot_le _) ?_; conv => whnf) | (refine draw_ruleJ (none) (.light 0 <| .light 1 <| .light 3 <| .alt 2 false (.alt 4 false (.alt 5 false (.alt 6 true (.done) .nil) .nil) (.alt 5 false (.alt 4 false (.alt 6 true (.done) .nil) .nil) .nil)) (.alt 5 false (.alt 2 false (.alt 4 false (.alt 6 true (.done) .nil) .nil) .nil) .nil)) (by decide +kernel) (bot_le _) ?_; conv => whnf) | (refine draw_ruleJ (none) (.light 0 <| .light 1 <| .alt 2 false (.alt 3 false (.light 4 <| .done) .nil) .nil) (by decide +kernel) (bot_le _) ?_; conv => whnf) | (refine draw_ruleJ (none) (.light 0 <| .light 2 <| .light 4 <| .alt 1 false (.alt 3 false (.alt 5 false (.alt 6 false (.alt 7 true (.done) .nil) .nil) (.alt 6 false (.alt 5 false (.alt 7 true (.done) .nil) .nil) .nil)) (.alt 6 false (.alt 3 false (.alt 5 false (.alt 7 true (.done) .nil) .nil) .nil) .nil)) (.alt 6 false (.alt 1 false (.alt 3 false (.alt 5 false (.alt 7 true (.done) .nil) .nil) .nil) .nil) .nil)) (by decide +kernel) (bot_le _) ?_; conv => whnf) | (with_reducible refine @And.intro (guardVC _ _ _ _ _) _ ?_ ?_) <;> conv => whnf | (refine caseB_intro (fun h => ?_) (fun h => ?_) <;> (try simp only [Bool.not_eq_true', Bool.not_eq_false', decide_eq_true_eq, decide_eq_false_iff_not] at h) <;> conv => whnf))
    all_goals exact ⟨((Bw, dw), (Aw, cw)), ⟨by simp [slots, leT], ⟨[], rfl⟩, by simp, rfl, rfl⟩, (by repeat (first | exact PH.Le.refl _ | assumption | (apply PH.Le.trans; · assumption))), sw, iw⟩
  rintro ⟨⟨Bw, dw⟩, ⟨Aw, cw⟩⟩ M1 ⟨l1, sw, iw⟩
  have sw : Sl M1 Aw 2 Wt.cs (cancelOf k ws l t).ws := sw
  have iw : Sl M1 Bw 1 inC (cancelOf k ws l t).ids := iw
  conv => whnf
  refine ACall.step (toBulk_own k A c ws _ (hs.mono l1) hn) fun r M2 hh => ?_
  obtain ⟨gx, rfl, Nx⟩ := hh
  conv => whnf
  have l2 := Nx.le
  have sx := Nx.ow.sl Wt.len
  refine join_rule (fun z : (Option Nat × Option Addr × Nat) × (Option Nat × Option Addr × Nat) => ⟨slots 82 [(2, .v (I t)), (3, .bp 0 0), (4, .bp 1 0), (6, .v (B false)), (8, .bp 2 0), (9, .bp 3 0), (10, .bp 4 0)], [⟨35, [.v (I k), .v (.slice A ws.length c)]⟩, ⟨37, [.v (I l.a), .v (I l.b), .v (I l.c)]⟩, ⟨73, [.v (I (cancelOf k ws l t).why), .v (I (cancelOf k ws l t).k), .v (.slice Aw (cancelOf k ws l t).ws.length cw), .v (.slice Bw (cancelOf k ws l t).ids.length dw)]⟩, ⟨42, [.v (I k), .v (.slice (some ⟨gx, 0, none⟩) ws.length ws.length)]⟩, ⟨73, [.v (I (cancelOf k ws l t).why), .v (I (cancelOf k ws l t).k), .v (.slice z.2.2.1 (cancelOf k ws l t).ws.length z.2.2.2), .v (.slice z.1.2.1 (cancelOf k ws l t).ids.length z.1.2.2)]⟩]⟩) (fun z M' => Two M2 M' z.1.1 z.1.2.1 z.1.2.2 1 inC (cancelOf k ws l t).ids z.2.1 z.2.2.1 z.2.2.2 2 Wt.cs (cancelOf k ws l t).ws) ?_ ?_
  · repeat' (first | (refine ⟨⟨[], rfl⟩, _, PH.Le.refl _, bot_le _, ?_⟩; conv => whnf) | (refine ⟨⟨_, rfl⟩, _, PH.Le.refl _, bot_le _, ?_⟩; conv => whnf) | (refine ACall.step (cancelBulk_impl k _ _ ws l t _ (by first | assumption | exact Sl.mono (by assumption) (by repeat (first | exact PH.Le.refl _ | assumption | (apply PH.Le.trans; · assumption)))) hn) fun r M3 hh => ?_; obtain ⟨o1, B1, d1, o2, A2, c2, rfl, Ng⟩ := hh; (first | (refine ⟨⟨[], rfl⟩, _, PH.Le.refl _, bot_le _, ?_⟩; conv => whnf) | conv => whnf)) | (refine caseB_true ?_; conv => whnf) | (refine caseB_false ?_; conv => whnf) | ((with_reducible refine caseB_dec (fun h => ?_) (fun h => ?_)) <;> conv => whnf) | ((with_reducible refine caseB_ndec (fun h => ?_) (fun h => ?_)) <;> conv => whnf) | ((with_reducible refine caseB_not (fun h => ?_) (fun h => ?_)) <;> conv => whnf) | (refine Ret.go (toLanes_ret l _) ?_; conv => whnf) | (refine draw_ruleJ (none) (.light 0 <| .light 2 <| .light 4 <| .alt 1 false (.alt 3 false (.alt 5 false (.alt 6 false (.alt 7 true (.done) .nil) .nil) (.alt 6 false (.alt 5 false (.alt 7 true (.done) .nil) .nil) .nil)) (.alt 6 false (.alt 3 false (.alt 5 false (.alt 7 true (.done) .nil) .nil) .nil) .nil)) (.alt 6 false (.alt 1 false (.alt 3 false (.alt 5 false (.alt 7 true (.done) .nil) .nil) .nil) .nil) .nil)) (by decide +kernel) (bot_le _) ?_; conv => whnf) | (refine draw_ruleJ (none) (.light 0 <| .light 1 <| .light 3 <| .alt 2 false (.alt 4 false (.alt 5 false (.alt 6 true (.done) .nil) .nil) (.alt 5 false (.alt 4 false (.alt 6 true (.done) .nil) .nil) .nil)) (.alt 5 false (.alt 2 false (.alt 4 false (.alt 6 true (.done) .nil) .nil) .nil) .nil)) (by decide +kernel) (bot_le _) ?_; conv => whnf) | (refine draw_ruleJ (none) (.light 0 <| .light 1 <| .alt 2 false (.alt 3 false (.light 4 <| .done) .nil) .nil) (by decide +kernel) (bot_le _) ?_; conv => whnf) | (refine draw_ruleJ (none) (.light 0 <| .light 2 <| .light 4 <| .alt 1 false (.alt 3 false (.alt 5 false (.alt 6 false (.alt 7 true (.done) .nil) .nil) (.alt 6 false (.alt 5 false (.alt 7 true (.done) .nil) .nil) .nil)) (.alt 6 false (.alt 3 false (.alt 5 false (.alt 7 true (.done) .nil) .nil) .nil) .nil)) (.alt 6 false (.alt 1 false (.alt 3 false (.alt 5 false (.alt 7 true (.done) .nil) .nil) .nil) .nil) .nil)) (by decide +kernel) (bot_le _) ?_; conv => whnf) | (with_reducible refine @And.intro (guardVC _ _ _ _ _) _ ?_ ?_) <;> conv => whnf | (refine caseB_intro (fun h => ?_) (fun h => ?_) <;> (try simp only [Bool.not_eq_true', Bool.not_eq_false', decide_eq_true_eq, decide_eq_false_iff_not] at h) <;> conv => whnf))
    all_goals exact ⟨((o1, B1, d1), (o2, A2, c2)), ⟨by simp [slots, leT], ⟨[], rfl⟩, by simp, rfl, rfl⟩, Ng⟩
  rintro ⟨⟨o1, Bg, dg⟩, ⟨o2, Ag, cg⟩⟩ M3 Ng
  have Ng : Two M2 M3 o1 Bg dg 1 inC (cancelOf k ws l t).ids o2 Ag cg 2 Wt.cs (cancelOf k ws l t).ws := Ng
  conv => whnf
  have l3 := Ng.a.le
  repeat' (first | (refine ⟨⟨[], rfl⟩, _, PH.Le.refl _, bot_le _, ?_⟩; conv => whnf) | (refine ⟨⟨_, rfl⟩, _, PH.Le.refl _, bot_le _, ?_⟩; conv => whnf) | (refine ACall.step (toBulk_new k A c ws _ (hs.mono ((l1.trans l2).trans l3)) hn) fun r M7 hh => ?_; obtain ⟨g7, rfl, l7, s7⟩ := hh; (first | (refine ⟨⟨[], rfl⟩, _, PH.Le.refl _, bot_le _, ?_⟩; conv => whnf) | (refine ⟨⟨[], rfl⟩, _, l7, PH.Le.refl _, ?_⟩; conv => whnf) | conv => whnf)) | (refine caseB_true ?_; conv => whnf) | (refine caseB_false ?_; conv => whnf) | ((with_reducible refine caseB_dec (fun h => ?_) (fun h => ?_)) <;> conv => whnf) | ((with_reducible refine caseB_ndec (fun h => ?_) (fun h => ?_)) <;> conv => whnf) | ((with_reducible refine caseB_not (fun h => ?_) (fun h => ?_)) <;> conv => whnf) | (refine Ret.go (eqExpire_ret _ _ _ _ _ _ _ _ _ _ _ _ _ (Ng.b.ow.sl Wt.len) (sw.mono (l2.trans l3)) (Ng.a.ow.sl in_len) (iw.mono (l2.trans l3)) hn2 hm2) ?_; conv => whnf) | (refine Ret.go (eqBulk_ret k _ _ _ _ ws _ ((sx.mono l3).mono l7) s7 hn) ?_; conv => whnf) | (refine draw_ruleJ (none) (.light 0 <| .light 2 <| .light 4 <| .alt 1 false (.alt 3 false (.alt 5 false (.alt 6 false (.alt 7 true (.done) .nil) .nil) (.alt 6 false (.alt 5 false (.alt 7 true (.done) .nil) .nil) .nil)) (.alt 6 false (.alt 3 false (.alt 5 false (.alt 7 true (.done) .nil) .nil) .nil) .nil)) (.alt 6 false (.alt 1 false (.alt 3 false (.alt 5 false (.alt 7 true (.done) .nil) .nil) .nil) .nil) .nil)) (by decide +kernel) (bot_le _) ?_; conv => whnf) | (refine draw_ruleJ (none) (.light 0 <| .light 1 <| .light 3 <| .alt 2 false (.alt 4 false (.alt 5 false (.alt 6 true (.done) .nil) .nil) (.alt 5 false (.alt 4 false (.alt 6 true (.done) .nil) .nil) .nil)) (.alt 5 false (.alt 2 false (.alt 4 false (.alt 6 true (.done) .nil) .nil) .nil) .nil)) (by decide +kernel) (bot_le _) ?_; conv => whnf) | (refine draw_ruleJ (none) (.light 0 <| .light 1 <| .alt 2 false (.alt 3 false (.light 4 <| .done) .nil) .nil) (by decide +kernel) (bot_le _) ?_; conv => whnf) | (refine draw_ruleJ (none) (.light 0 <| .light 2 <| .light 4 <| .alt 1 false (.alt 3 false (.alt 5 false (.alt 6 false (.alt 7 true (.done) .nil) .nil) (.alt 6 false (.alt 5 false (.alt 7 true (.done) .nil) .nil) .nil)) (.alt 6 false (.alt 3 false (.alt 5 false (.alt 7 true (.done) .nil) .nil) .nil) .nil)) (.alt 6 false (.alt 1 false (.alt 3 false (.alt 5 false (.alt 7 true (.done) .nil) .nil) .nil) .nil) .nil)) (by decide +kernel) (bot_le _) ?_; conv => whnf) | (with_reducible refine @And.intro (guardVC _ _ _ _ _) _ ?_ ?_) <;> conv => whnf | (refine caseB_intro (fun h => ?_) (fun h => ?_) <;> (try simp only [Bool.not_eq_true', Bool.not_eq_false', decide_eq_true_eq, decide_eq_false_iff_not] at h) <;> conv => whnf))
  refine ACall.step (markBulk_ret k (some gx) _ _ ws 1 _ ((Nx.ow.mono l3).mono l7) hn (by omega)) fun r M5 hh => ?_
  obtain ⟨rfl, hx5, k5⟩ := hh
  have hgx : M1 gx = none := Nx.fr gx rfl
  have hk : ∀ o : Option Nat, (∀ g, o = some g → M2 g = none) → o ≠ some gx := fun o ho e => by
    have h1 := ho _ e
    obtain ⟨ob, hob⟩ := Nx.ow.known _ rfl
    rw [h1] at hob; cases hob
  have T5 : Two M1 M5 o1 Bg dg 1 inC (cancelOf k ws l t).ids o2 Ag cg 2 Wt.cs (cancelOf k ws l t).ws := ((Ng.to l7).from l2).keepx k5 hgx (hk _ Ng.a.fr) (hk _ Ng.b.fr)
  have q5 := T5.a.le
  conv => whnf
  repeat' (first | (refine ⟨⟨[], rfl⟩, _, PH.Le.refl _, PH.Le.refl _, ?_⟩; conv => whnf) | (with_reducible refine caseB_dec (fun h => absurd h (by omega)) (fun h => ?_); conv => whnf) | (refine caseB_true ?_; conv => whnf) | (refine caseB_false ?_; conv => whnf) | ((with_reducible refine caseB_dec (fun h => ?_) (fun h => ?_)) <;> conv => whnf) | ((with_reducible refine caseB_ndec (fun h => ?_) (fun h => ?_)) <;> conv => whnf) | ((with_reducible refine caseB_not (fun h => ?_) (fun h => ?_)) <;> conv => whnf) | (refine Ret.go (eqExpire_ret _ _ _ _ _ _ _ _ _ _ _ _ _ (T5.b.ow.sl Wt.len) (sw.mono q5) (T5.a.ow.sl in_len) (iw.mono q5) hn2 hm2) ?_; conv => whnf) | (with_reducible refine @And.intro (guardVC _ _ _ _ _) _ ?_ ?_) <;> conv => whnf | (refine caseB_intro (fun h => ?_) (fun h => ?_) <;> (try simp only [Bool.not_eq_true', Bool.not_eq_false', decide_eq_true_eq, decide_eq_false_iff_not] at h) <;> conv => whnf))
  refine ACall.step (markExpire_ret _ _ M1 o1 o2 Bg Ag dg cg _ _ 1 _ T5 hn2 hm2 (by omega)) fun r M6 hh => ?_
  obtain ⟨rfl, T6⟩ := hh
  have q6 := T6.a.le
  have s6 := T6.b.ow.sl Wt.len
  have i6 := T6.a.ow.sl in_len
  conv => whnf
  repeat' (first | (refine ⟨⟨[], rfl⟩, _, PH.Le.refl _, PH.Le.refl _, ?_⟩; conv => whnf) | (with_reducible refine caseB_dec (fun h => absurd h (by omega)) (fun h => ?_); conv => whnf) | (refine caseB_true ?_; conv => whnf) | (refine caseB_false ?_; conv => whnf) | ((with_reducible refine caseB_dec (fun h => ?_) (fun h => ?_)) <;> conv => whnf) | ((with_reducible refine caseB_ndec (fun h => ?_) (fun h => ?_)) <;> conv => whnf) | ((with_reducible refine caseB_not (fun h => ?_) (fun h => ?_)) <;> conv => whnf) | (refine Ret.go (heldExpire_ret _ _ Ag Bg cg (cancelOf k ws l t).ws.length dg (cancelOf k ws l t).ids.length 1 _ s6 i6 hn2 hm2 (by omega)) ?_; conv => whnf) | (with_reducible refine @And.intro (guardVC _ _ _ _ _) _ ?_ ?_) <;> conv => whnf | (refine caseB_intro (fun h => ?_) (fun h => ?_) <;> (try simp only [Bool.not_eq_true', Bool.not_eq_false', decide_eq_true_eq, decide_eq_false_iff_not] at h) <;> conv => whnf))
  · first | exact absurd trivial h | exact absurd rfl h
  have lA := l1.trans q6
  refine join_rule (fun z : (Option Addr × Nat) × (Option Addr × Nat) => ⟨slots 82 [(2, .v (I t)), (3, .bp 0 0), (4, .bp 1 0), (6, .v (B false)), (8, .bp 2 0), (9, .bp 3 0), (10, .bp 4 0), (12, .v (I (1 + 2 * (cancelOf k ws l t).ws.length + (cancelOf k ws l t).ids.length))), (14, .bp 5 0)], [⟨35, [.v (I k), .v (.slice A ws.length c)]⟩, ⟨37, [.v (I l.a), .v (I l.b), .v (I l.c)]⟩, ⟨73, [.v (I (cancelOf k ws l t).why), .v (I (cancelOf k ws l t).k), .v (.slice Aw (cancelOf k ws l t).ws.length cw), .v (.slice Bw (cancelOf k ws l t).ids.length dw)]⟩, ⟨42, [.v (I k), .v (.slice (some ⟨gx, 0, none⟩) ws.length ws.length)]⟩, ⟨73, [.v (I (cancelOf k ws l t).why), .v (I (cancelOf k ws l t).k), .v (.slice Ag (cancelOf k ws l t).ws.length cg), .v (.slice Bg (cancelOf k ws l t).ids.length dg)]⟩, ⟨73, [.v (I (cancelOf k ws l t).why), .v (I (cancelOf k ws l t).k), .v (.slice z.2.1 (cancelOf k ws l t).ws.length z.2.2), .v (.slice z.1.1 (cancelOf k ws l t).ids.length z.1.2)]⟩]⟩) (fun z M' => M6.Le M' ∧ Sl M' z.2.1 2 Wt.cs (cancelOf k ws l t).ws ∧ Sl M' z.1.1 1 inC (cancelOf k ws l t).ids) ?_ ?_
  · repeat' (first | (refine ⟨⟨[], rfl⟩, _, PH.Le.refl _, bot_le _, ?_⟩; conv => whnf) | (refine ⟨⟨_, rfl⟩, _, PH.Le.refl _, bot_le _, ?_⟩; conv => whnf) | (refine ACall.step (cancelBulk_impl k _ _ ws l t _ (by first | assumption | exact Sl.mono (by assumption) (by repeat (first | exact PH.Le.refl _ | assumption | (apply PH.Le.trans; · assumption)))) hn) fun r M8 hh => ?_; obtain ⟨o8, B8, d8, p8, A8, c8, rfl, N8⟩ := hh; have l8 := N8.a.le; (first | (refine ⟨⟨[], rfl⟩, _, PH.Le.refl _, bot_le _, ?_⟩; conv => whnf) | conv => whnf)) | (refine ACall.step (toBulk_new k A c ws _ (hs.mono (lA.trans (by repeat (first | exact PH.Le.refl _ | assumption | (apply PH.Le.trans; · assumption))))) hn) fun r M7 hh => ?_; obtain ⟨g7, rfl, l7, s7⟩ := hh; (first | (refine ⟨⟨[], rfl⟩, _, PH.Le.refl _, bot_le _, ?_⟩; conv => whnf) | (refine ⟨⟨[], rfl⟩, _, l7, PH.Le.refl _, ?_⟩; conv => whnf) | conv => whnf)) | (refine caseB_true ?_; conv => whnf) | (refine caseB_false ?_; conv => whnf) | ((with_reducible refine caseB_dec (fun h => ?_) (fun h => ?_)) <;> conv => whnf) | ((with_reducible refine caseB_ndec (fun h => ?_) (fun h => ?_)) <;> conv => whnf) | ((with_reducible refine caseB_not (fun h => ?_) (fun h => ?_)) <;> conv => whnf) | (refine Ret.go (toLanes_ret l _) ?_; conv => whnf) | (refine draw_ruleJ (none) (.light 0 <| .light 2 <| .light 4 <| .alt 1 false (.alt 3 false (.alt 5 false (.alt 6 false (.alt 7 true (.done) .nil) .nil) (.alt 6 false (.alt 5 false (.alt 7 true (.done) .nil) .nil) .nil)) (.alt 6 false (.alt 3 false (.alt 5 false (.alt 7 true (.done) .nil) .nil) .nil) .nil)) (.alt 6 false (.alt 1 false (.alt 3 false (.alt 5 false (.alt 7 true (.done) .nil) .nil) .nil) .nil) .nil)) (by decide +kernel) (bot_le _) ?_; conv => whnf) | (refine draw_ruleJ (none) (.light 0 <| .light 1 <| .light 3 <| .alt 2 false (.alt 4 false (.alt 5 false (.alt 6 true (.done) .nil) .nil) (.alt 5 false (.alt 4 false (.alt 6 true (.done) .nil) .nil) .nil)) (.alt 5 false (.alt 2 false (.alt 4 false (.alt 6 true (.done) .nil) .nil) .nil) .nil)) (by decide +kernel) (bot_le _) ?_; conv => whnf) | (refine draw_ruleJ (none) (.light 0 <| .light 1 <| .alt 2 false (.alt 3 false (.light 4 <| .done) .nil) .nil) (by decide +kernel) (bot_le _) ?_; conv => whnf) | (refine draw_ruleJ (none) (.light 0 <| .light 2 <| .light 4 <| .alt 1 false (.alt 3 false (.alt 5 false (.alt 6 false (.alt 7 true (.done) .nil) .nil) (.alt 6 false (.alt 5 false (.alt 7 true (.done) .nil) .nil) .nil)) (.alt 6 false (.alt 3 false (.alt 5 false (.alt 7 true (.done) .nil) .nil) .nil) .nil)) (.alt 6 false (.alt 1 false (.alt 3 false (.alt 5 false (.alt 7 true (.done) .nil) .nil) .nil) .nil) .nil)) (by decide +kernel) (bot_le _) ?_; conv => whnf) | (with_reducible refine @And.intro (guardVC _ _ _ _ _) _ ?_ ?_) <;> conv => whnf | (refine caseB_intro (fun h => ?_) (fun h => ?_) <;> (try simp only [Bool.not_eq_true', Bool.not_eq_false', decide_eq_true_eq, decide_eq_false_iff_not] at h) <;> conv => whnf))
    all_goals exact ⟨((B8, d8), (A8, c8)), ⟨by simp [slots, leT], ⟨[], rfl⟩, by simp, rfl, rfl⟩, (by repeat (first | exact PH.Le.refl _ | assumption | (apply PH.Le.trans; · assumption))), N8.b.ow.sl Wt.len, N8.a.ow.sl in_len⟩
  rintro ⟨⟨B8, d8⟩, ⟨A8, c8⟩⟩ M8 ⟨l8, s8, i8⟩
  conv => whnf
  repeat' (first | (refine ⟨⟨[], rfl⟩, _, PH.Le.refl _, PH.Le.refl _, ?_⟩; conv => whnf) | (with_reducible refine caseB_dec (fun h => absurd h (by omega)) (fun h => ?_); conv => whnf) | (refine caseB_true ?_; conv => whnf) | (refine caseB_false ?_; conv => whnf) | ((with_reducible refine caseB_dec (fun h => ?_) (fun h => ?_)) <;> conv => whnf) | ((with_reducible refine caseB_ndec (fun h => ?_) (fun h => ?_)) <;> conv => whnf) | ((with_reducible refine caseB_not (fun h => ?_) (fun h => ?_)) <;> conv => whnf) | (refine Ret.go (eqExpire_ret _ _ _ _ _ _ _ _ _ _ _ _ _ s8 (sw.mono (q6.trans l8)) i8 (iw.mono (q6.trans l8)) hn2 hm2) ?_; conv => whnf) | (refine Ret.go (heldExpire_ret _ _ Ag Bg cg (cancelOf k ws l t).ws.length dg (cancelOf k ws l t).ids.length 1 _ (s6.mono l8) (i6.mono l8) hn2 hm2 (by omega)) ?_; conv => whnf) | (with_reducible refine @And.intro (guardVC _ _ _ _ _) _ ?_ ?_) <;> conv => whnf | (refine caseB_intro (fun h => ?_) (fun h => ?_) <;> (try simp only [Bool.not_eq_true', Bool.not_eq_false', decide_eq_true_eq, decide_eq_false_iff_not] at h) <;> conv => whnf))
  all_goals first | exact absurd trivial h | exact absurd rfl h | exact ⟨_, PH.Le.refl _, rfl, lA.trans l8⟩

end Go.Proofs.Ytpiakjcmbnfdlaa
