/-
  PLAIN LAWS: what a store is like behind a put. PLAIN LAWS: what a store is like behind a touch.
-/
import Derived.Test.YtgjaiabenjafeaaGreatDoorWw
namespace Go.Proofs.YtgjaiabenjafeaaGreatDoor
set_option maxRecDepth 100000
set_option linter.unusedSimpArgs false
set_option linter.unusedVariables false
open Go.Xe
structure Free (s : Sc) : Prop where
  b : 0 ≤ s.bud ∧ s.bud ≤ 1000000
  g : 0 ≤ s.gd ∧ s.gd ≤ s.bud
  n : s.all.length ≤ 40
  e : ∀ e ∈ s.all, enFault e = 0
  a : AptG En.key s.all
  c : (eCosts s.all : Int) ≤ s.bud
  k : (eCosts s.kp : Int) ≤ s.gd
theorem free_of {s : Sc} (h : stFault s = 0) : Free s := by
  obtain ⟨g0, g1, b0, b1⟩ := guard_of h
  refine ⟨⟨b0, b1⟩, ⟨g0, g1⟩, stF_40 h, stF_all h, apt_of h, ?_, ?_⟩
  · unfold stFault at h
    repeat' (split at h <;> try (first | cases h | contradiction))
    all_goals first | omega | skip
  · unfold stFault at h
    repeat' (split at h <;> try (first | cases h | contradiction))
    all_goals first | omega | skip
theorem Free.ok {s : Sc} (h : Free s) : stFault s = 0 := by
  have hf : firstF enFault s.all = 0 := firstF_no fun j hj => h.e _ (List.getElem_mem hj)
  have hn := h.n
  have hc := h.c
  have hk := h.k
  unfold stFault
  rw [if_neg (by simp [inB, h.b]), if_neg (by simp [inB, h.g]), if_neg (by omega), if_neg (by rw [hf]; simp), if_neg (by rw [asB_true h.a]; simp), if_neg (by omega), if_neg (by omega)]
theorem eCosts_sub {a b : List En} (h : a.Sublist b) : eCosts a ≤ eCosts b := by
  unfold eCosts
  induction h with
  | slnil => exact Nat.le_refl _
  | cons x _ ih => rw [List.map_cons, List.sum_cons]; omega
  | cons_cons x _ ih => rw [List.map_cons, List.map_cons, List.sum_cons, List.sum_cons]; omega
/-- Fewer entries: no fault. -/
theorem Free.less {s : Sc} (h : Free s) {tr kp : List En} (h1 : tr.Sublist s.tr) (h2 : kp.Sublist s.kp) : Free ⟨s.bud, s.gd, tr, kp⟩ := by
  have hs : (tr ++ kp).Sublist s.all := List.Sublist.append h1 h2
  have c1 := eCosts_sub hs
  have c2 := eCosts_sub h2
  have hc := h.c
  have hk := h.k
  exact ⟨h.b, h.g, Nat.le_trans hs.length_le h.n, fun e he => h.e e (hs.subset he), h.a.sublist hs, by show ((eCosts (tr ++ kp) : Nat) : Int) ≤ s.bud; omega, by show ((eCosts kp : Nat) : Int) ≤ s.gd; omega⟩
theorem look_apt {es : List En} (h : AptG En.key es) {x : En} (hx : x ∈ es) : look es x.key = some x := by
  induction es with
  | nil => cases hx
  | cons y r ih =>
    have hp := List.pairwise_cons.1 h
    unfold look
    rw [List.find?_cons]
    rcases List.mem_cons.1 hx with rfl | hx
    · rw [seq_self]
    · have : seq y.key x.key = false := seq_ne.2 (hp.1 x hx)
      rw [this]
      exact ih hp.2 hx
theorem look_none {es : List En} {k : ByteArray} (h : ∀ x ∈ es, x.key ≠ k) : look es k = none := by
  unfold look
  rw [List.find?_eq_none]
  intro x hx
  simp [seq_ne.2 (h x hx)]
theorem lastE_skip {p : En → Bool} {e : En} {t : List En} (h : p e = false) : lastE p (e :: t) = (lastE p t).map fun q => (q.1 + 1, q.2) := by
  rw [lastE]
  cases lastE p t with
  | none => simp [h]
  | some q => rfl
theorem erase_mem {es : List En} (h : AptG En.key es) {i : Nat} (hi : i < es.length) : ∀ x ∈ es.eraseIdx i, x.key ≠ es[i].key := fun x hx => by
  rw [← dropK_erase hi h] at hx
  have := (List.mem_filter.1 hx).2
  intro e
  rw [e, seq_self] at this
  cases this
structure EvI (bud : Int) (e : En) (G : ByteArray → Prop) (t kp : List En) (r : Ev) : Prop where
  h : ∃ t', r.tr = e :: t' ∧ t'.Sublist t
  k : r.kp.Sublist kp
  f : ¬ full bud r.tr r.kp
  g : ∀ z ∈ r.gone, G z ∧ ∀ x ∈ r.tr ++ r.kp, x.key ≠ z
theorem evict_inv {bud : Int} {e : En} {G : ByteArray → Prop} : ∀ (n : Nat) (t kp : List En) (gone : List ByteArray) (r : Ev), AptG En.key ((e :: t) ++ kp) → (∀ z ∈ gone, G z ∧ ∀ x ∈ (e :: t) ++ kp, x.key ≠ z) → (∀ x ∈ t ++ kp, x.pins = 0 → G x.key) → evict bud e.key n ⟨e :: t, kp, gone⟩ = some r → EvI bud e G t kp r
  | 0, _, _, _, _, _, _, _, h => by cases h
  | n + 1, t, kp, gone, r, ha, hg, hG, h => by
    have hce : canGo e.key e = false := by rw [canGo_is, seq_self]; rfl
    by_cases hf : full bud (e :: t) kp
    · cases h1 : lastE (canGo e.key) t with
      | some q =>
        have h2 : lastE (canGo e.key) (e :: t) = some (q.1 + 1, q.2) := by rw [lastE_skip hce, h1]; rfl
        obtain ⟨hq, hqe, hqc⟩ := lastE_some h1
        rw [evict_left (s := ⟨e :: t, kp, gone⟩) hf n h2] at h
        have hq' : q.1 + 1 < (e :: t).length := by simp; omega
        obtain ⟨_, hkn, ha2⟩ := erase_left (tr := e :: t) (kp := kp) hq' ha
        have hpin : q.2.pins = 0 := by rw [canGo_is, Bool.and_eq_true] at hqc; simpa using hqc.2
        have hsub : (e :: t.eraseIdx q.1).Sublist (e :: t) := List.Sublist.cons_cons e (List.eraseIdx_sublist _ _)
        have ht : t.Sublist (e :: t) := List.sublist_cons_self e t
        have iv := evict_inv n (t.eraseIdx q.1) kp (gone ++ [q.2.key]) r ha2 (fun z hz => by
          rcases List.mem_append.1 hz with hz | hz
          · exact ⟨(hg z hz).1, fun x hx => (hg z hz).2 x ((List.Sublist.append hsub (List.Sublist.refl kp)).subset hx)⟩
          · have : z = q.2.key := by simpa using hz
            subst this
            refine ⟨hG q.2 (List.mem_append_left _ (by rw [← hqe]; exact List.getElem_mem hq)) hpin, fun x hx => ?_⟩
            rcases List.mem_append.1 hx with hx | hx
            · have := erase_mem (es := e :: t) (List.pairwise_append.1 ha).1 hq' x hx
              rw [List.getElem_cons_succ, hqe] at this
              exact this
            · intro e2
              have := (List.pairwise_append.1 ha).2.2 q.2 (by rw [← hqe]; exact List.mem_cons_of_mem _ (List.getElem_mem hq)) x hx
              exact this e2.symm) (fun x hx hp => hG x ((List.Sublist.append (List.eraseIdx_sublist t q.1) (List.Sublist.refl kp)).subset hx) hp) h
        obtain ⟨⟨t', e1, e2⟩, k1, f1, g1⟩ := iv
        exact ⟨⟨t', e1, e2.trans (List.eraseIdx_sublist _ _)⟩, k1, f1, g1⟩
      | none =>
        have h2 : lastE (canGo e.key) (e :: t) = none := by rw [lastE_skip hce, h1]; rfl
        cases h3 : lastE (canGo e.key) kp with
        | none => rw [evict_out (s := ⟨e :: t, kp, gone⟩) hf n h2 h3] at h; cases h
        | some q =>
          obtain ⟨hq, hqe, hqc⟩ := lastE_some h3
          rw [evict_right (s := ⟨e :: t, kp, gone⟩) hf n h2 h3] at h
          obtain ⟨_, _, ha2⟩ := erase_right (tr := e :: t) (kp := kp) hq ha
          have hpin : q.2.pins = 0 := by rw [canGo_is, Bool.and_eq_true] at hqc; simpa using hqc.2
          have iv := evict_inv n t (kp.eraseIdx q.1) (gone ++ [q.2.key]) r ha2 (fun z hz => by
            rcases List.mem_append.1 hz with hz | hz
            · exact ⟨(hg z hz).1, fun x hx => (hg z hz).2 x ((List.Sublist.append (List.Sublist.refl (e :: t)) (List.eraseIdx_sublist kp q.1)).subset hx)⟩
            · have : z = q.2.key := by simpa using hz
              subst this
              refine ⟨hG q.2 (List.mem_append_right _ (by rw [← hqe]; exact List.getElem_mem hq)) hpin, fun x hx => ?_⟩
              rcases List.mem_append.1 hx with hx | hx
              · exact (List.pairwise_append.1 ha).2.2 x hx q.2 (by rw [← hqe]; exact List.getElem_mem hq)
              · have := erase_mem (es := kp) (List.pairwise_append.1 ha).2.1 hq x hx
                rw [hqe] at this
                exact this) (fun x hx hp => hG x ((List.Sublist.append (List.Sublist.refl t) (List.eraseIdx_sublist kp q.1)).subset hx) hp) h
          obtain ⟨⟨t', e1, e2⟩, k1, f1, g1⟩ := iv
          exact ⟨⟨t', e1, e2⟩, k1.trans (List.eraseIdx_sublist _ _), f1, g1⟩
    · rw [evict_no (s := ⟨e :: t, kp, gone⟩) hf n] at h
      cases h
      exact ⟨⟨t, rfl, List.Sublist.refl _⟩, List.Sublist.refl _, hf, hg⟩
/-- A put that went well. -/
structure PutL (s : Sc) (e : En) (r : Ev) : Prop where
  fr : Free (evS s r)
  lk : look (evS s r).all e.key = some e
  go : ∀ z ∈ r.gone, (∃ x, look s.all z = some x ∧ x.pins = 0) ∧ look (evS s r).all z = none
  ec : eCost e ≤ eCosts (evS s r).all
theorem putE_law {s : Sc} {e : En} {r : Ev} (h : Free s) (he : enFault e = 0) (hE : putE s e = some r) : PutL s e r := by
  have ha := put_apt (e := e) h.a
  have iv := evict_inv (G := fun z => ∃ x, look s.all z = some x ∧ x.pins = 0) _ (dropK s.tr e.key) (dropK s.kp e.key) [] r ha (fun z hz => by cases hz) (fun x hx hp => ⟨x, look_apt h.a ((drop_sub s e.key).subset hx), hp⟩) hE
  obtain ⟨⟨t', e1, e2⟩, k1, f1, g1⟩ := iv
  have hsub : ((e :: t') ++ r.kp).Sublist ((e :: dropK s.tr e.key) ++ dropK s.kp e.key) := List.Sublist.append (List.Sublist.cons_cons e e2) k1
  have hall : (evS s r).all = (e :: t') ++ r.kp := by show r.tr ++ r.kp = _; rw [e1]
  have f2 : ¬ s.bud < (eCosts (r.tr ++ r.kp) : Int) ∧ ¬ 40 < ((r.tr.length : Int) + r.kp.length) := ⟨fun h => f1 (.inl h), fun h => f1 (.inr h)⟩
  have hapt : AptG En.key ((e :: t') ++ r.kp) := ha.sublist hsub
  refine ⟨⟨h.b, h.g, ?_, fun x hx => ?_, ?_, ?_, ?_⟩, ?_, fun z hz => ⟨(g1 z hz).1, look_none (g1 z hz).2⟩, ?_⟩
  · have : (evS s r).all.length = r.tr.length + r.kp.length := List.length_append
    omega
  · rw [hall] at hx
    rcases List.mem_cons.1 (hsub.subset hx) with rfl | hx
    · exact he
    · exact h.e x ((drop_sub s e.key).subset hx)
  · rw [hall]; exact hapt
  · have := f2.1
    show (eCosts (r.tr ++ r.kp) : Int) ≤ s.bud
    omega
  · have := eCosts_sub (k1.trans List.filter_sublist)
    have := h.k
    show (eCosts r.kp : Int) ≤ s.gd
    omega
  · rw [hall]; exact look_apt hapt List.mem_cons_self
  · rw [hall]
    show eCost e ≤ ((e :: t' ++ r.kp).map eCost).sum
    rw [List.cons_append, List.map_cons, List.sum_cons]
    omega
theorem shed_perm (g : Int) : ∀ (n : Nat) (tr kp : List En), ((shed g n tr kp).1 ++ (shed g n tr kp).2).Perm (tr ++ kp)
  | 0, tr, kp => List.Perm.refl _
  | n + 1, tr, kp => by
    by_cases h : g < (eCosts kp : Int)
    · cases hl : kp.getLast? with
      | none => rw [shed, if_pos h, hl]
      | some e =>
        have hne : kp ≠ [] := fun e0 => by rw [e0] at hl; cases hl
        have hk : kp.dropLast ++ [e] = kp := by
          rw [List.getLast?_eq_some_getLast hne] at hl
          cases hl
          exact List.dropLast_concat_getLast hne
        have e1 : shed g (n + 1) tr kp = shed g n (e :: tr) kp.dropLast := by rw [shed, if_pos h, hl]
        rw [e1]
        refine (shed_perm g n (e :: tr) kp.dropLast).trans ?_
        have h2 : (tr ++ kp).Perm (e :: (tr ++ kp.dropLast)) := by
          rw [← hk, ← List.append_assoc]
          refine (List.perm_append_comm).trans ?_
          rw [List.dropLast_concat]
          exact List.Perm.refl _
        exact h2.symm
    · rw [shed_no h]
theorem look_perm {es : List En} (h : AptG En.key es) {k : ByteArray} {e : En} (hl : look es k = some e) : (e :: dropK es k).Perm es := by
  induction es with
  | nil => cases hl
  | cons x r ih =>
    have hp := List.pairwise_cons.1 h
    cases hx : seq x.key k with
    | true =>
      have e1 : look (x :: r) k = some x := by unfold look; rw [List.find?_cons, hx]
      rw [e1] at hl
      cases hl
      have e2 : dropK (e :: r) k = r := by
        have hk := seq_iff.1 hx
        have : dropK (e :: r) k = dropK r k := by unfold dropK; rw [List.filter_cons, hx]; rfl
        rw [this]
        exact dropK_no fun y hy e0 => hp.1 y hy (hk.trans e0.symm)
      rw [e2]
    | false =>
      have e1 : look (x :: r) k = look r k := by unfold look; rw [List.find?_cons, hx]
      rw [e1] at hl
      have e2 : dropK (x :: r) k = x :: dropK r k := by unfold dropK; rw [List.filter_cons, hx]; rfl
      rw [e2]
      exact (List.Perm.swap x e _).trans ((ih hp.2 hl).cons x)
theorem touch_perm {s : Sc} {k : ByteArray} {e : En} (h : AptG En.key s.all) (hl : look s.all k = some e) : (touchS s k).all.Perm s.all := by
  have hp : pkE s k = e := by unfold pkE; rw [hl]; rfl
  have h1 := shed_perm s.gd (pkE s k :: dropK s.kp k).length (dropK s.tr k) (pkE s k :: dropK s.kp k)
  have h2 : (dropK s.tr k ++ (pkE s k :: dropK s.kp k)).Perm s.all := by
    rw [hp]
    refine List.perm_middle.trans ?_
    rw [← dropK_app]
    exact look_perm h hl
  exact h1.trans h2
theorem apt_perm {a b : List En} (h : a.Perm b) (hb : AptG En.key b) : AptG En.key a :=
  (h.pairwise_iff (fun {x y} (hxy : En.key x ≠ En.key y) => hxy.symm)).2 hb
theorem eCosts_perm {a b : List En} (h : a.Perm b) : eCosts a = eCosts b := by
  unfold eCosts
  induction h with
  | nil => rfl
  | cons x _ ih => rw [List.map_cons, List.map_cons, List.sum_cons, List.sum_cons, ih]
  | swap x y l => simp only [List.map_cons, List.sum_cons]; omega
  | trans _ _ ih1 ih2 => exact ih1.trans ih2
/-- What is kept behind a touch costs no more than the guard. -/
theorem shed_small {g : Int} (h0 : 0 ≤ g) : ∀ (n : Nat) (tr kp : List En), kp.length ≤ n → ((eCosts (shed g n tr kp).2 : Nat) : Int) ≤ g
  | 0, tr, kp, h => by
    have : kp = [] := List.eq_nil_of_length_eq_zero (by omega)
    subst this
    show ((eCosts [] : Nat) : Int) ≤ g
    exact h0
  | n + 1, tr, kp, h => by
    by_cases hc : g < (eCosts kp : Int)
    · obtain ⟨q, y, rfl⟩ := snoc_of (shed_end h0 hc)
      rw [shed_yes hc]
      exact shed_small h0 n _ _ (by simp at h; omega)
    · rw [shed_no hc]; show ((eCosts kp : Nat) : Int) ≤ g; omega
theorem touch_free {s : Sc} {k : ByteArray} (h : Free s) (hl : (look s.all k).isSome = true) : Free (touchS s k) := by
  obtain ⟨e, hl⟩ := Option.isSome_iff_exists.1 hl
  have hp := touch_perm h.a hl
  have hn := h.n
  have hc := h.c
  refine ⟨h.b, h.g, by rw [hp.length_eq]; exact hn, fun x hx => h.e x (hp.subset hx), apt_perm hp h.a, by rw [eCosts_perm hp]; exact hc, ?_⟩
  exact shed_small h.g.1 _ _ _ (Nat.le_refl _)
/-- The last j kept, at the head of those on trial. -/
theorem shed_split (g : Int) : ∀ (n : Nat) (tr kp : List En), ∃ a b, kp = a ++ b ∧ shed g n tr kp = (b ++ tr, a)
  | 0, tr, kp => ⟨kp, [], by simp, rfl⟩
  | n + 1, tr, kp => by
    by_cases h : g < (eCosts kp : Int)
    · cases hl : kp.getLast? with
      | none => exact ⟨kp, [], by simp, by rw [shed, if_pos h, hl]; rfl⟩
      | some e =>
        have hne : kp ≠ [] := fun e0 => by rw [e0] at hl; cases hl
        have hk : kp.dropLast ++ [e] = kp := by
          rw [List.getLast?_eq_some_getLast hne] at hl
          cases hl
          exact List.dropLast_concat_getLast hne
        have e1 : shed g (n + 1) tr kp = shed g n (e :: tr) kp.dropLast := by rw [shed, if_pos h, hl]
        obtain ⟨a, b, h1, h2⟩ := shed_split g n (e :: tr) kp.dropLast
        refine ⟨a, b ++ [e], by rw [← List.append_assoc, ← h1, hk], ?_⟩
        rw [e1, h2]; simp
    · exact ⟨kp, [], by simp, by rw [shed_no h]; rfl⟩
theorem shed_all {g : Int} {tr : List En} : ∀ (n : Nat) (kp : List En), kp.length ≤ n → (∀ a b, kp = a ++ b → a ≠ [] → g < (eCosts a : Int)) → shed g n tr kp = (kp ++ tr, [])
  | 0, kp, h, _ => by
    have : kp = [] := List.eq_nil_of_length_eq_zero (by omega)
    subst this; rfl
  | n + 1, kp, h, hc => by
    by_cases hk : kp = []
    · subst hk
      by_cases h0 : g < ((eCosts [] : Nat) : Int)
      · rw [shed, if_pos h0]; rfl
      · rw [shed_no h0]; rfl
    · obtain ⟨q, y, rfl⟩ := snoc_of hk
      rw [shed_yes (hc _ [] (by simp) (by simp))]
      have := shed_all (tr := y :: tr) n q (by simp at h; omega) (fun a b e hne => hc a (b ++ [y]) (by rw [e, List.append_assoc]) hne)
      rw [this]; simp
/-- Touched once more, nothing changes. -/
theorem touch_twice {s : Sc} {k : ByteArray} (h : Free s) (hl : (look s.all k).isSome = true) : touchS (touchS s k) k = touchS s k := by
  obtain ⟨e, hl⟩ := Option.isSome_iff_exists.1 hl
  have hp : pkE s k = e := by unfold pkE; rw [hl]; rfl
  have hek : e.key = k := by have := List.find?_some hl; exact seq_iff.1 this
  have hfr := touch_free h (by rw [hl]; rfl : (look s.all k).isSome = true)
  have hap := hfr.a
  obtain ⟨a, b, h1, h2⟩ := shed_split s.gd (pkE s k :: dropK s.kp k).length (dropK s.tr k) (pkE s k :: dropK s.kp k)
  have et : touchS s k = ⟨s.bud, s.gd, b ++ dropK s.tr k, a⟩ := by unfold touchS; rw [h2]
  have hmem : e ∈ (touchS s k).all := by
    have := touch_perm h.a hl
    exact this.symm.subset (look_mem hl)
  have hl2 : look (touchS s k).all k = some e := by have h9 := look_apt hap hmem; rw [hek] at h9; exact h9
  have hp2 : pkE (touchS s k) k = e := by unfold pkE; rw [hl2]; rfl
  rw [hp] at h1
  have hno : ∀ x ∈ dropK s.tr k, x.key ≠ k := fun x hx e0 => by
    have h3 : (!seq x.key k) = true := (List.mem_filter.1 hx).2
    rw [e0, seq_self] at h3; cases h3
  have hnk : ∀ x ∈ dropK s.kp k, x.key ≠ k := fun x hx e0 => by
    have h3 : (!seq x.key k) = true := (List.mem_filter.1 hx).2
    rw [e0, seq_self] at h3; cases h3
  have hgk : ((eCosts a : Nat) : Int) ≤ s.gd := by have := hfr.k; rw [et] at this; exact this
  cases a with
  | nil =>
    have hb : b = e :: dropK s.kp k := by simpa using h1.symm
    have hcost : s.gd < ((eCosts [e] : Nat) : Int) := by
      apply Classical.byContradiction
      intro hn
      have hall : ∀ (n : Nat) (q tr : List En), (shed s.gd n tr ([e] ++ q)).2 ≠ [] := by
        intro n
        induction n with
        | zero => intro q tr h0; cases h0
        | succ n ih =>
          intro q tr
          by_cases hq : q = []
          · subst hq
            rw [List.append_nil, shed_no hn]
            intro h0; cases h0
          · obtain ⟨q', y, rfl⟩ := snoc_of hq
            by_cases hc : s.gd < (eCosts ([e] ++ (q' ++ [y])) : Int)
            · rw [← List.append_assoc] at hc ⊢
              rw [shed_yes hc]
              exact ih q' _
            · rw [shed_no hc]
              intro h0; cases h0
      have := hall (pkE s k :: dropK s.kp k).length (dropK s.kp k) (dropK s.tr k)
      rw [hp] at h2 this
      have h2' : shed s.gd (e :: dropK s.kp k).length (dropK s.tr k) ([e] ++ dropK s.kp k) = (b ++ dropK s.tr k, []) := h2
      rw [h2'] at this
      exact this rfl
    rw [et]
    unfold touchS
    have hd : dropK (b ++ dropK s.tr k) k = dropK s.kp k ++ dropK s.tr k := by
      rw [hb, List.cons_append]
      have : dropK (e :: (dropK s.kp k ++ dropK s.tr k)) k = dropK (dropK s.kp k ++ dropK s.tr k) k := by
        unfold dropK
        rw [List.filter_cons, show seq e.key k = true from seq_iff.2 hek]
        rfl
      rw [this]
      exact dropK_no fun x hx => (List.mem_append.1 hx).elim (hnk x) (hno x)
    have hpe : pkE ⟨s.bud, s.gd, b ++ dropK s.tr k, []⟩ k = e := by rw [← et]; exact hp2
    simp only [hpe, hd]
    have hde : dropK [] k = [] := rfl
    rw [hde]
    have : shed s.gd [e].length (dropK s.kp k ++ dropK s.tr k) [e] = ([e] ++ (dropK s.kp k ++ dropK s.tr k), []) := shed_all 1 [e] (Nat.le_refl _) fun a' b' e0 hne => by
      cases a' with
      | nil => exact absurd rfl hne
      | cons x r =>
        have e0 : [e] = x :: (r ++ b') := e0
        have : e = x ∧ [] = r ++ b' := by simpa using e0
        obtain ⟨rfl, e2⟩ := this
        have : r = [] := (List.append_eq_nil_iff.1 e2.symm).1
        subst this
        exact hcost
    rw [this, hb]
    simp
  | cons x a' =>
    have hx : e = x ∧ dropK s.kp k = a' ++ b := by simpa using h1
    obtain ⟨rfl, hab⟩ := hx
    rw [et]
    unfold touchS
    have hpe : pkE ⟨s.bud, s.gd, b ++ dropK s.tr k, e :: a'⟩ k = e := by rw [← et]; exact hp2
    have hd1 : dropK (b ++ dropK s.tr k) k = b ++ dropK s.tr k := dropK_no fun x hx => (List.mem_append.1 hx).elim (fun hx => hnk x (by rw [hab]; exact List.mem_append_right _ hx)) (hno x)
    have hd2 : dropK (e :: a') k = a' := by
      have : dropK (e :: a') k = dropK a' k := by
        unfold dropK
        rw [List.filter_cons, show seq e.key k = true from seq_iff.2 hek]
        rfl
      rw [this]
      exact dropK_no fun x hx => hnk x (by rw [hab]; exact List.mem_append_left _ hx)
    simp only [hpe, hd1, hd2]
    rw [shed_no (by omega)]
end Go.Proofs.YtgjaiabenjafeaaGreatDoor
