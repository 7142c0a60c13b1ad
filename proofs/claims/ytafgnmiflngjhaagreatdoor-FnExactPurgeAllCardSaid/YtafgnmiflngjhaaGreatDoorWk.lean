/-
  CONTRACTS: purged, the given program's way, then the reference's.
-/
import Derived.Test.YtafgnmiflngjhaaGreatDoorWj
namespace Go.Proofs.YtafgnmiflngjhaaGreatDoor
set_option maxRecDepth 100000
set_option linter.unusedSimpArgs false
set_option linter.unusedVariables false
open Go.Xe
abbrev prV (k : Int) (s : So) (A : Option Addr) (n c : Nat) : Value := .agg #[I k, I s.b, I s.g, .slice s.A1 s.p1.length s.c1, .slice s.A2 s.p2.length s.c2, .slice A n c]
structure NewP (M M' : PH) (s : So) (o : Option Nat) (A : Option Addr) (c : Nat) (ks : List ByteArray) : Prop where
  st : NewS M M' s
  w : Ow M' o A c 1 stC ks
  f : ∀ g, o = some g → M g = none
  a : ∀ b ∈ soL s, Apart o b
theorem zNewP (M : PH) : NewP M M zSo none none 0 [] := ⟨zSo_new M, Ow.nil, fun g e => (nomatch e), fun b _ g e => (nomatch e)⟩
noncomputable def pgK (s : Sc) (pr : En → Bool) : List ByteArray := if stFault s = 0 then keysL pr s.all else []
noncomputable def pgS (s : Sc) (pr : En → Bool) (hard : Bool) : Sc := if stFault s = 0 then purgeS s (keysL pr s.all) hard else zSc
theorem pgK_len (s : Sc) (pr : En → Bool) : (pgK s pr).length ≤ 40 := by
  unfold pgK
  split
  · rename_i h
    exact Nat.le_trans (keysL_le _ _) (stF_40 h)
  · simp
theorem pgS_cost {s : Sc} (pr : En → Bool) (hard : Bool) (h : s.cost ≤ 1048576) : (pgS s pr hard).cost ≤ 1048576 := by
  unfold pgS
  split
  · exact Nat.le_trans (purgeS_cost _ _ _) h
  · show costL En.cost [] + costL En.cost [] ≤ _
    decide
theorem sta_mem {s : So} {M : PH} (h : Dso M s) (hco : s.c.cost ≤ 1048576) {y : EnA} (hy : y ∈ s.sta.tr ++ s.sta.kp) : y.inn M ∧ y.c.cost ≤ 1048576 := by
  obtain ⟨_, _, hd⟩ := st_split (x := s.sta) (by rw [s.sta_c]; exact hco)
  exact ⟨(List.mem_append.1 hy).elim (fun hm => h.inn.t.inn y hm) (fun hm => h.inn.k.inn y hm), hd y hy⟩
theorem purged_ret (x : StA) (hard : Bool) (G : FuncId) (caps : List Value) (pr : En → Bool) (M : PH) (hi : x.inn M) (hco : x.c.cost ≤ 1048576) (hg : ∀ y : EnA, y.c.cost ≤ 1048576 → ∀ M', M.Le M' → y.inn M' → Ret G (y.val :: caps) M' (B (pr y.c))) :
    ACall env 106 [x.val, B hard, .func (.func G) ⟨[]⟩ ⟨caps⟩] M fun r M' => ∃ s o A c, r = prV (stFault x.c) s A (pgK x.c pr).length c ∧ s.c = pgS x.c pr hard ∧ NewP M M' s o A c (pgK x.c pr) := by
  refine xcall_of_vc Tryz.func106 rfl _ Tryz.ntmps106 _ rfl (fun _ _ => Tryz.call106 _ _) rfl (fun w0 ρ0 => ?_)
  conv => whnf
  refine Ret.go (storeFault_impl x _ hi hco) ?_
  conv => whnf
  refine caseB_ndec (fun h => ?_) (fun h => ?_)
  · conv => whnf
    have e1 : pgK x.c pr = [] := by unfold pgK; rw [if_neg h]
    have e2 : pgS x.c pr hard = zSc := by unfold pgS; rw [if_neg h]
    rw [e1, e2]
    exact ⟨M, PH.Le.refl _, zSo, none, none, 0, rfl, rfl, zNewP M⟩
  have e1 : pgK x.c pr = keysL pr x.c.all := by unfold pgK; rw [if_pos h]
  have e2 : pgS x.c pr hard = purgeS x.c (keysL pr x.c.all) hard := by unfold pgS; rw [if_pos h]
  rw [e1, e2, h]
  conv => whnf
  refine ACall.step (copyStore_ret x M hi hco) fun v M1 hh => ?_
  obtain ⟨s, rfl, es, hs⟩ := hh
  have hcs : s.c.cost ≤ 1048576 := by rw [es]; exact hco
  have hp := purge_ret s hard G caps pr M1 hs.d hcs (by rw [es]; exact apt_of h) (by rw [es]; exact stF_40 h) fun y hy M' l => by
    obtain ⟨a, b⟩ := sta_mem hs.d hcs hy
    exact hg y b M' (hs.le.trans l) (a.mono l)
  rw [es] at hp
  conv => whnf
  refine XCall.lift hp [2] ?_ (by simp) (by simp) (by simp [AV.plain]) ?_
  · simp [ren]
  rintro r bs' M3 ⟨s', M2, o, A, c, rfl, rfl, ec, N, hD, hK, hL⟩
  refine ⟨by simp [AV.plain], ?_⟩
  have f1 : Fr M1 [o] := fun x hx g e => by simp at hx; subst hx; exact N.fr g e
  have apo : ∀ b ∈ soL s, Apart o b := fun b hb => (apart_of hs.d.kn f1 b hb o (by simp)).symm
  conv => whnf
  exact ⟨_, PH.Le.refl _, s', o, A, c, rfl, ec, ⟨hD, hK.over (hs.le.trans N.le) hs.fr, fun b hb => hs.fr b (hL b hb)⟩, ow_keepsL N.ow hK apo, fun g e => none_of_le hs.le (N.fr g e), fun b hb => apo b (hL b hb)⟩
theorem purgeKey_impl (x : StA) (k : ByteArray) (hard : Bool) (M : PH) (hi : x.inn M) (hco : x.c.cost ≤ 1048576) :
    ACall env 44 [x.val, Tx k, B hard] M fun r M' => ∃ s o A c, r = prV (stFault x.c) s A (pgK x.c (fun e => seq e.key k)).length c ∧ s.c = pgS x.c (fun e => seq e.key k) hard ∧ NewP M M' s o A c (pgK x.c (fun e => seq e.key k)) := by
  refine xcall_of_vc Tryz.func44 rfl _ Tryz.ntmps44 _ rfl (fun _ _ => Tryz.call44 _ _) rfl (fun w0 ρ0 => ?_)
  conv => whnf
  repeat' (first | (refine ⟨⟨[], rfl⟩, _, PH.Le.refl _, PH.Le.refl _, ?_⟩; conv => whnf) | (refine caseB_true ?_; conv => whnf) | (refine caseB_false ?_; conv => whnf) | ((with_reducible refine caseB_dec (fun h => ?_) (fun h => ?_)) <;> conv => whnf) | ((with_reducible refine caseB_ndec (fun h => ?_) (fun h => ?_)) <;> conv => whnf) | ((with_reducible refine caseB_not (fun h => ?_) (fun h => ?_)) <;> conv => whnf) | (refine draw_rule (.light 0 <| .light 1 <| .light 2 <| .alt 3 false (.alt 4 false (.alt 5 true (.done) .nil) .nil) .nil) (by decide +kernel) ?_; conv => whnf) | (with_reducible refine @And.intro (guardVC _ _ _ _ _) _ ?_ ?_) <;> conv => whnf | (refine caseB_intro (fun h => ?_) (fun h => ?_) <;> (try simp only [Bool.not_eq_true', Bool.not_eq_false', decide_eq_true_eq, decide_eq_false_iff_not] at h) <;> conv => whnf))
  refine ACall.step (hasKey_ret k M) fun v M1 hh => ?_
  obtain ⟨g, hg, rfl, rfl⟩ := hh
  have l1 := PH.Le.set (.cells #[Tx k] 9 (0, 0)) hg
  (first | (refine ⟨⟨[], rfl⟩, _, l1, PH.Le.refl _, ?_⟩; conv => whnf) | conv => whnf)
  refine ACall.step (purged_ret x hard 168 [.pointer (some ⟨g, 0, none⟩)] (fun e => seq e.key k) _ (hi.mono l1) hco fun y _ M' l _ => hasKey1_ret y g k M' ⟨⟨g, 0, none⟩, rfl, fun j v hv => ?_⟩) fun v M2 hh => ?_
  · rw [add_at]
    have : M' g = _ := l g _ (PH.set_same _ _ _)
    cases j with
    | zero => simp [PH.cell, this] at hv ⊢; exact hv
    | succ j => simp at hv
  obtain ⟨s, o, A, c, rfl, es, N⟩ := hh
  (first | (refine ⟨⟨[], rfl⟩, _, N.st.le, PH.Le.refl _, ?_⟩; conv => whnf) | conv => whnf)
  exact ⟨_, PH.Le.refl _, s, o, A, c, rfl, es, ⟨N.st.d, l1.trans N.st.le, N.st.fr.le l1⟩, N.w, fun g e => none_of_le l1 (N.f g e), N.a⟩
theorem purgeTag_impl (x : StA) (k : ByteArray) (hard : Bool) (M : PH) (hi : x.inn M) (hco : x.c.cost ≤ 1048576) :
    ACall env 40 [x.val, Tx k, B hard] M fun r M' => ∃ s o A c, r = prV (stFault x.c) s A (pgK x.c (fun e => tagT e.tags k)).length c ∧ s.c = pgS x.c (fun e => tagT e.tags k) hard ∧ NewP M M' s o A c (pgK x.c (fun e => tagT e.tags k)) := by
  refine xcall_of_vc Tryz.func40 rfl _ Tryz.ntmps40 _ rfl (fun _ _ => Tryz.call40 _ _) rfl (fun w0 ρ0 => ?_)
  conv => whnf
  repeat' (first | (refine ⟨⟨[], rfl⟩, _, PH.Le.refl _, PH.Le.refl _, ?_⟩; conv => whnf) | (refine caseB_true ?_; conv => whnf) | (refine caseB_false ?_; conv => whnf) | ((with_reducible refine caseB_dec (fun h => ?_) (fun h => ?_)) <;> conv => whnf) | ((with_reducible refine caseB_ndec (fun h => ?_) (fun h => ?_)) <;> conv => whnf) | ((with_reducible refine caseB_not (fun h => ?_) (fun h => ?_)) <;> conv => whnf) | (refine draw_rule (.light 0 <| .light 1 <| .light 2 <| .alt 3 false (.alt 4 false (.alt 5 true (.done) .nil) .nil) .nil) (by decide +kernel) ?_; conv => whnf) | (with_reducible refine @And.intro (guardVC _ _ _ _ _) _ ?_ ?_) <;> conv => whnf | (refine caseB_intro (fun h => ?_) (fun h => ?_) <;> (try simp only [Bool.not_eq_true', Bool.not_eq_false', decide_eq_true_eq, decide_eq_false_iff_not] at h) <;> conv => whnf))
  refine ACall.step (hasTag_ret k M) fun v M1 hh => ?_
  obtain ⟨g, hg, rfl, rfl⟩ := hh
  have l1 := PH.Le.set (.cells #[Tx k] 9 (0, 0)) hg
  (first | (refine ⟨⟨[], rfl⟩, _, l1, PH.Le.refl _, ?_⟩; conv => whnf) | conv => whnf)
  refine ACall.step (purged_ret x hard 155 [.pointer (some ⟨g, 0, none⟩)] (fun e => tagT e.tags k) _ (hi.mono l1) hco fun y hyc M' l hyi => hasTag1_ret y g k M' ⟨⟨g, 0, none⟩, rfl, fun j v hv => ?_⟩ hyi hyc) fun v M2 hh => ?_
  · rw [add_at]
    have : M' g = _ := l g _ (PH.set_same _ _ _)
    cases j with
    | zero => simp [PH.cell, this] at hv ⊢; exact hv
    | succ j => simp at hv
  obtain ⟨s, o, A, c, rfl, es, N⟩ := hh
  (first | (refine ⟨⟨[], rfl⟩, _, N.st.le, PH.Le.refl _, ?_⟩; conv => whnf) | conv => whnf)
  exact ⟨_, PH.Le.refl _, s, o, A, c, rfl, es, ⟨N.st.d, l1.trans N.st.le, N.st.fr.le l1⟩, N.w, fun g e => none_of_le l1 (N.f g e), N.a⟩
theorem purgeAll_impl (x : StA) (hard : Bool) (M : PH) (hi : x.inn M) (hco : x.c.cost ≤ 1048576) :
    ACall env 41 [x.val, B hard] M fun r M' => ∃ s o A c, r = prV (stFault x.c) s A (pgK x.c (fun _ => true)).length c ∧ s.c = pgS x.c (fun _ => true) hard ∧ NewP M M' s o A c (pgK x.c (fun _ => true)) := by
  refine xcall_of_vc Tryz.func41 rfl _ Tryz.ntmps41 _ rfl (fun _ _ => Tryz.call41 _ _) rfl (fun w0 ρ0 => ?_)
  conv => whnf
  have hp := purged_ret x hard 107 [] (fun _ => true) M hi hco fun y _ M' _ _ => isAny_ret y M'
  refine XCall.args (args := [.v x.val, .v (B hard), .v (.func (.func 107) ⟨[]⟩ ⟨[]⟩)]) (ACall.step hp fun v M1 hh => ?_) (fun ρ vs hv => by
    match vs, hv with
    | [a, b, d], ⟨h1, h2, h3, h4⟩ => exact ⟨h1, h2, h3, h4⟩)
  obtain ⟨s, o, A, c, rfl, es, N⟩ := hh
  conv => whnf
  exact ⟨_, PH.Le.refl _, s, o, A, c, rfl, es, N⟩
end Go.Proofs.YtafgnmiflngjhaaGreatDoor
