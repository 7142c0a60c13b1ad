/-
  PLAIN LAWS: an entry touched. MEMORY: an entry of one's own beside a store of one's own; put at the head of a row; taken from a row's end. PLAIN LAWS: an entry put.
-/
import Derived.Test.YtgjaiabenjafeaaGreatDoorWp
namespace Go.Proofs.YtgjaiabenjafeaaGreatDoor
set_option maxRecDepth 100000
set_option linter.unusedSimpArgs false
set_option linter.unusedVariables false
open Go.Xe
/-- The last of the kept go to the head of those on trial while the kept cost more than the guard. -/
def shed (g : Int) : Nat → List En → List En → List En × List En
  | 0, tr, kp => (tr, kp)
  | n + 1, tr, kp => if g < (eCosts kp : Int) then match kp.getLast? with
      | none => (tr, kp)
      | some e => shed g n (e :: tr) kp.dropLast
    else (tr, kp)
theorem shed_no {g : Int} {tr kp : List En} (h : ¬ g < (eCosts kp : Int)) (n : Nat) : shed g n tr kp = (tr, kp) := by
  cases n with
  | zero => rfl
  | succ n => unfold shed; rw [if_neg h]
theorem shed_yes {g : Int} {tr kp : List En} {e : En} (h : g < (eCosts (kp ++ [e]) : Int)) (n : Nat) : shed g (n + 1) tr (kp ++ [e]) = shed g n (e :: tr) kp := by
  rw [shed, if_pos h, List.getLast?_concat, List.dropLast_concat]
theorem costL_append {α : Type} (f : α → Nat) (a b : List α) : costL f (a ++ b) = costL f a + costL f b := by
  unfold costL
  rw [List.map_append, List.sum_append, List.length_append]
  omega
theorem costL_cons {α : Type} (f : α → Nat) (x : α) (a : List α) : costL f (x :: a) = costL f [x] + costL f a := costL_append f [x] a
theorem shed_cost (g : Int) : ∀ (n : Nat) (tr kp : List En), costL En.cost (shed g n tr kp).1 + costL En.cost (shed g n tr kp).2 = costL En.cost tr + costL En.cost kp
  | 0, tr, kp => rfl
  | n + 1, tr, kp => by
    by_cases h : g < (eCosts kp : Int)
    · cases hl : kp.getLast? with
      | none => rw [shed, if_pos h, hl]
      | some e =>
        have hk : kp.dropLast ++ [e] = kp := by
          have hne : kp ≠ [] := fun e0 => by rw [e0] at hl; cases hl
          rw [List.getLast?_eq_some_getLast hne] at hl
          cases hl
          exact List.dropLast_concat_getLast hne
        have e1 : shed g (n + 1) tr kp = shed g n (e :: tr) kp.dropLast := by rw [shed, if_pos h, hl]
        rw [e1, shed_cost g n (e :: tr) kp.dropLast, costL_cons En.cost e tr]
        have e2 := costL_append En.cost kp.dropLast [e]
        rw [hk] at e2
        omega
    · rw [shed_no h]
theorem look_cost {k : ByteArray} {e : En} : ∀ {es : List En}, look es k = some e → costL En.cost (e :: dropK es k) ≤ costL En.cost es
  | [], h => by cases h
  | x :: r, h => by
    cases hx : seq x.key k with
    | true =>
      have e1 : look (x :: r) k = some x := by unfold look; rw [List.find?_cons, hx]
      rw [e1] at h
      cases h
      have e2 : dropK (e :: r) k = dropK r k := by unfold dropK; rw [List.filter_cons, hx]; rfl
      rw [e2]
      exact sub_cost (List.Sublist.cons_cons e List.filter_sublist)
    | false =>
      have e1 : look (x :: r) k = look r k := by unfold look; rw [List.find?_cons, hx]
      rw [e1] at h
      have e2 : dropK (x :: r) k = x :: dropK r k := by unfold dropK; rw [List.filter_cons, hx]; rfl
      have ih := look_cost h
      rw [e2, costL_cons, costL_cons En.cost x]
      rw [costL_cons] at ih
      rw [costL_cons En.cost x r]
      omega
def touchS (s : Sc) (k : ByteArray) : Sc :=
  let r := shed s.gd (pkE s k :: dropK s.kp k).length (dropK s.tr k) (pkE s k :: dropK s.kp k)
  ⟨s.bud, s.gd, r.1, r.2⟩
noncomputable def touchR (s : Sc) (k : ByteArray) : Sc := if swF s k = 0 then touchS s k else zSc
theorem dropK_app (a b : List En) (k : ByteArray) : dropK (a ++ b) k = dropK a k ++ dropK b k := by unfold dropK; rw [List.filter_append]
theorem touchR_cost {s : Sc} (k : ByteArray) (h : s.cost ≤ 1048576) : (touchR s k).cost ≤ 1048576 := by
  unfold touchR
  split
  · rename_i h0
    obtain ⟨e, he⟩ := Option.isSome_iff_exists.1 (swF_0 h0).2
    have e1 : pkE s k = e := by unfold pkE; rw [he]; rfl
    have hl := look_cost he
    have hs := shed_cost s.gd (pkE s k :: dropK s.kp k).length (dropK s.tr k) (pkE s k :: dropK s.kp k)
    unfold Sc.all at hl
    rw [dropK_app, costL_cons, costL_append, costL_append] at hl
    rw [e1, costL_cons En.cost e] at hs
    unfold Sc.cost at h ⊢
    unfold touchS
    rw [e1]
    simp only
    omega
  · show costL En.cost [] + costL En.cost [] ≤ _
    decide
theorem Dw.headIn {M M' : PH} {o o' : Option Nat} {A A' : Option Addr} {c c' : Nat} {ps : List EP} {y : EP} (h : Dw M o A c ps) (hy : Ed M y) (hp : (EP.blks y).Pairwise Apart) (hs : ∀ a ∈ dwL o ps, ∀ b ∈ EP.blks y, Apart a b)
    (hO : Ow M' o' A' c' 13 EP.cs (y :: ps)) (hK : Keeps o M M') (hF : o' = o ∨ ∃ g, o' = some g ∧ M g = none) : Dw M' o' A' c' (y :: ps) := by
  refine ⟨hO, fun j p hj => ?_, ?_⟩
  · cases j with
    | zero =>
      have e : y = p := by simpa using hj
      subst e
      exact hy.keeps hK fun a ha => hs o List.mem_cons_self a ha
    | succ j =>
      have hj : ps[j]? = some p := by simpa using hj
      exact (h.ed j p hj).keeps hK (sep_o h.sep hj)
  · show Sep (o' :: (y :: ps).flatMap EP.blks)
    rw [List.flatMap_cons]
    refine List.pairwise_cons.2 ⟨fun b hb => ?_, List.pairwise_append.2 ⟨hp, (List.pairwise_cons.1 h.sep).2, fun a ha b hb => (hs b (List.mem_cons_of_mem _ hb) a ha).symm⟩⟩
    rcases hF with rfl | ⟨g, rfl, hg⟩
    · rcases List.mem_append.1 hb with hb | hb
      · exact hs o' List.mem_cons_self b hb
      · exact (List.pairwise_cons.1 h.sep).1 b hb
    · intro g' e e'
      cases e
      have : ∃ ob, M g = some ob := by
        rcases List.mem_append.1 hb with hb | hb
        · exact hy.kn b hb g e'
        · exact h.kn b (List.mem_cons_of_mem _ hb) g e'
      obtain ⟨ob, ho⟩ := this
      rw [hg] at ho
      cases ho
/-- A store of one's own and an entry of one's own beside it, both made since M0. -/
structure NewSY (M0 M : PH) (s : So) (y : EP) : Prop where
  n : NewS M0 M s
  ed : Ed M y
  fr : Fr M0 (EP.blks y)
  ap : (EP.blks y).Pairwise Apart
  sep : ∀ a ∈ soL s, ∀ b ∈ EP.blks y, Apart a b
abbrev So.kept (s : So) (o : Option Nat) (A : Option Addr) (c : Nat) (p : List EP) : So := ⟨s.b, s.g, s.o1, s.A1, s.c1, s.p1, o, A, c, p⟩
abbrev So.trial (s : So) (o : Option Nat) (A : Option Addr) (c : Nat) (p : List EP) : So := ⟨s.b, s.g, o, A, c, p, s.o2, s.A2, s.c2, s.p2⟩
theorem NewSY.kept {M0 M M' : PH} {s : So} {y : EP} {o' : Option Nat} {A' : Option Addr} {c' : Nat} (h : NewSY M0 M s y) (hO : Ow M' o' A' c' 13 EP.cs (y :: s.p2)) (hK : Keeps s.o2 M M') (hF : o' = s.o2 ∨ ∃ g, o' = some g ∧ M g = none) : NewS M0 M' (s.kept o' A' c' (y :: s.p2)) := by
  have d := h.n.d
  have hk := d.k.headIn h.ed h.ap (fun a ha b hb => h.sep a (List.mem_append_right _ ha) b hb) hO hK hF
  have ht : Dw M' s.o1 s.A1 s.c1 s.p1 := d.t.keepsL (Keeps.inL hK (by simp : s.o2 ∈ [s.o2])) fun a ha b hb => by simp at hb; subst hb; exact d.ap a ha _ List.mem_cons_self
  refine ⟨⟨ht, hk, fun a ha b hb => ?_⟩, hK.over h.n.le (fun k e => h.n.fr s.o2 (List.mem_append_right _ List.mem_cons_self) k e), fun b hb g e => ?_⟩
  · have hb : b ∈ o' :: (y :: s.p2).flatMap EP.blks := hb
    rw [List.flatMap_cons] at hb
    rcases List.mem_cons.1 hb with rfl | hb
    · rcases hF with rfl | ⟨g, rfl, hg⟩
      · exact d.ap a ha _ List.mem_cons_self
      · intro g' e e'
        cases e'
        obtain ⟨ob, ho⟩ := d.t.kn a ha g e
        rw [hg] at ho
        cases ho
    · rcases List.mem_append.1 hb with hb | hb
      · exact h.sep a (List.mem_append_left _ ha) b hb
      · exact d.ap a ha b (List.mem_cons_of_mem _ hb)
  · rcases List.mem_append.1 hb with hb | hb
    · exact h.n.fr b (List.mem_append_left _ hb) g e
    · have hb : b ∈ o' :: (y :: s.p2).flatMap EP.blks := hb
      rw [List.flatMap_cons] at hb
      rcases List.mem_cons.1 hb with rfl | hb
      · rcases hF with h1 | ⟨g', h1, hg⟩
        · exact h.n.fr s.o2 (List.mem_append_right _ List.mem_cons_self) g (h1 ▸ e)
        · rw [h1] at e; cases e; exact none_of_le h.n.le hg
      · rcases List.mem_append.1 hb with hb | hb
        · exact h.fr b hb g e
        · exact h.n.fr b (List.mem_append_right _ (List.mem_cons_of_mem _ hb)) g e
theorem NewSY.trial {M0 M M' : PH} {s : So} {y : EP} {o' : Option Nat} {A' : Option Addr} {c' : Nat} (h : NewSY M0 M s y) (hO : Ow M' o' A' c' 13 EP.cs (y :: s.p1)) (hK : Keeps s.o1 M M') (hF : o' = s.o1 ∨ ∃ g, o' = some g ∧ M g = none) : NewS M0 M' (s.trial o' A' c' (y :: s.p1)) := by
  have d := h.n.d
  have hk := d.t.headIn h.ed h.ap (fun a ha b hb => h.sep a (List.mem_append_left _ ha) b hb) hO hK hF
  have ht : Dw M' s.o2 s.A2 s.c2 s.p2 := d.k.keepsL (Keeps.inL hK (by simp : s.o1 ∈ [s.o1])) fun a ha b hb => by simp at hb; subst hb; exact (d.ap _ List.mem_cons_self a ha).symm
  refine ⟨⟨hk, ht, fun b hb a ha => ?_⟩, hK.over h.n.le (fun k e => h.n.fr s.o1 (List.mem_append_left _ List.mem_cons_self) k e), fun b hb g e => ?_⟩
  · have hb : b ∈ o' :: (y :: s.p1).flatMap EP.blks := hb
    rw [List.flatMap_cons] at hb
    rcases List.mem_cons.1 hb with rfl | hb
    · rcases hF with rfl | ⟨g, rfl, hg⟩
      · exact d.ap _ List.mem_cons_self a ha
      · intro g' e' e
        cases e'
        obtain ⟨ob, ho⟩ := d.k.kn a ha g e
        rw [hg] at ho
        cases ho
    · rcases List.mem_append.1 hb with hb | hb
      · exact (h.sep a (List.mem_append_right _ ha) b hb).symm
      · exact d.ap b (List.mem_cons_of_mem _ hb) a ha
  · rcases List.mem_append.1 hb with hb | hb
    · have hb : b ∈ o' :: (y :: s.p1).flatMap EP.blks := hb
      rw [List.flatMap_cons] at hb
      rcases List.mem_cons.1 hb with rfl | hb
      · rcases hF with h1 | ⟨g', h1, hg⟩
        · exact h.n.fr s.o1 (List.mem_append_left _ List.mem_cons_self) g (h1 ▸ e)
        · rw [h1] at e; cases e; exact none_of_le h.n.le hg
      · rcases List.mem_append.1 hb with hb | hb
        · exact h.fr b hb g e
        · exact h.n.fr b (List.mem_append_left _ (List.mem_cons_of_mem _ hb)) g e
    · exact h.n.fr b (List.mem_append_right _ hb) g e
theorem ow_init {M : PH} {o : Option Nat} {A : Option Addr} {c : Nat} {q : List EP} {y : EP} (h : Ow M o A c 13 EP.cs (q ++ [y])) : Ow M o A c 13 EP.cs q := by
  have := ow_take h q.length
  rwa [List.take_left] at this
theorem NewS.last {M0 M : PH} {s : So} {q : List EP} {y : EP} (h : NewS M0 M s) (e : s.p2 = q ++ [y]) : NewSY M0 M (s.kept s.o2 s.A2 s.c2 q) y := by
  have d := h.d
  have hk := d.k
  rw [e] at hk
  have hs := hk.sep
  have ef : (q ++ [y]).flatMap EP.blks = q.flatMap EP.blks ++ EP.blks y := by rw [List.flatMap_append]; simp
  have hs : Sep (s.o2 :: (q ++ [y]).flatMap EP.blks) := hs
  rw [ef] at hs
  obtain ⟨h1, h2⟩ := List.pairwise_cons.1 hs
  obtain ⟨h3, h4, h5⟩ := List.pairwise_append.1 h2
  have sub : ∀ a ∈ dwL s.o2 q, a ∈ dwL s.o2 s.p2 := fun a ha => by
    rw [e]
    show a ∈ s.o2 :: (q ++ [y]).flatMap EP.blks
    rw [ef]
    rcases List.mem_cons.1 ha with rfl | ha
    · exact List.mem_cons_self
    · exact List.mem_cons_of_mem _ (List.mem_append_left _ ha)
  have suby : ∀ a ∈ EP.blks y, a ∈ dwL s.o2 s.p2 := fun a ha => by
    rw [e]
    show a ∈ s.o2 :: (q ++ [y]).flatMap EP.blks
    rw [ef]
    exact List.mem_cons_of_mem _ (List.mem_append_right _ ha)
  refine ⟨⟨⟨d.t, ⟨ow_init hk.row, fun j p hj => hk.ed j p (by rw [List.getElem?_append_left (List.getElem?_eq_some_iff.1 hj).1]; exact hj), List.pairwise_cons.2 ⟨fun b hb => h1 b (List.mem_append_left _ hb), h3⟩⟩, fun a ha b hb => d.ap a ha b (sub b hb)⟩, h.le, fun b hb g e' => ?_⟩, hk.ed q.length y (by simp), fun b hb g e' => h.fr b (List.mem_append_right _ (suby b hb)) g e', h4, fun a ha b hb => ?_⟩
  · rcases List.mem_append.1 hb with hb | hb
    · exact h.fr b (List.mem_append_left _ hb) g e'
    · exact h.fr b (List.mem_append_right _ (sub b hb)) g e'
  · rcases List.mem_append.1 ha with ha | ha
    · exact d.ap a ha b (suby b hb)
    · have ha : a ∈ s.o2 :: q.flatMap EP.blks := ha
      rcases List.mem_cons.1 ha with rfl | ha
      · exact h1 b (List.mem_append_right _ hb)
      · exact h5 a ha b hb
theorem sep_out {o : Option Nat} {ps : List EP} (h : Sep (dwL o ps)) {y : EP} (hm : y ∈ ps) {p : EP → Bool} (hp : p y = false) : ∀ a ∈ dwL o (ps.filter p), ∀ b ∈ EP.blks y, Apart a b := fun a ha b hb => by
  obtain ⟨i, hi⟩ := List.mem_iff_getElem?.1 hm
  rcases List.mem_cons.1 ha with rfl | ha
  · exact sep_o h hi b hb
  · obtain ⟨z, hz, hza⟩ := List.mem_flatMap.1 ha
    obtain ⟨hz1, hz2⟩ := List.mem_filter.1 hz
    obtain ⟨j, hj⟩ := List.mem_iff_getElem?.1 hz1
    refine sep_ij h hj hi (fun e => ?_) a hza b hb
    subst e
    rw [hi] at hj
    cases hj
    rw [hp] at hz2
    cases hz2
/-- What an entry that is no more in a store holds stays apart of the store. -/
theorem NewS.loose {M0 M M' : PH} {s s' : So} {y : EP} {k : ByteArray} (h : NewS M0 M s) (hm : y ∈ s.p1 ++ s.p2) (hk : seq y.1.c.key k = true) (h1 : s'.p1 = dropP s.p1 k) (h2 : s'.p2 = dropP s.p2 k) (o1 : s'.o1 = s.o1) (o2 : s'.o2 = s.o2) (hD : Dso M' s') (hK : KeepsL [s.o1, s.o2] M M') : NewSY M0 M' s' y := by
  have d := h.d
  have hny : (fun z : EP => !seq z.1.c.key k) y = false := by simp [hk]
  have sub : ∀ b ∈ soL s', b ∈ soL s := fun b hb => by
    unfold soL at hb ⊢
    rw [h1, h2, o1, o2] at hb
    exact (List.mem_append.1 hb).elim (fun hb => List.mem_append_left _ (dwL_fewer _ b hb)) (fun hb => List.mem_append_right _ (dwL_fewer _ b hb))
  have hN : NewS M0 M' s' := ⟨hD, (hK.mono fun a ha => by
      simp only [List.mem_cons, List.not_mem_nil, or_false] at ha
      rcases ha with rfl | rfl
      · exact List.mem_append_left _ List.mem_cons_self
      · exact List.mem_append_right _ List.mem_cons_self : KeepsL (soL s) M M').over h.le h.fr, fun b hb g e => h.fr b (sub b hb) g e⟩
  have hl : soL s' = dwL s.o1 (dropP s.p1 k) ++ dwL s.o2 (dropP s.p2 k) := by unfold soL; rw [h1, h2, o1, o2]
  rcases List.mem_append.1 hm with hm | hm
  · obtain ⟨i, hi⟩ := List.mem_iff_getElem?.1 hm
    have hin : ∀ b ∈ EP.blks y, b ∈ dwL s.o1 s.p1 := fun b hb => List.mem_cons_of_mem _ (List.mem_flatMap.2 ⟨y, hm, hb⟩)
    refine ⟨hN, (d.t.ed i y hi).keepsL hK fun a ha b hb => ?_, fun b hb g e => h.fr b (List.mem_append_left _ (hin b hb)) g e, sep_in d.t.sep hi, fun a ha b hb => ?_⟩
    · simp only [List.mem_cons, List.not_mem_nil, or_false] at hb
      rcases hb with rfl | rfl
      · exact (sep_o d.t.sep hi a ha).symm
      · exact d.ap a (hin a ha) _ List.mem_cons_self
    · rw [hl] at ha
      rcases List.mem_append.1 ha with ha | ha
      · exact sep_out d.t.sep hm hny a ha b hb
      · exact (d.ap b (hin b hb) a (dwL_fewer _ a ha)).symm
  · obtain ⟨i, hi⟩ := List.mem_iff_getElem?.1 hm
    have hin : ∀ b ∈ EP.blks y, b ∈ dwL s.o2 s.p2 := fun b hb => List.mem_cons_of_mem _ (List.mem_flatMap.2 ⟨y, hm, hb⟩)
    refine ⟨hN, (d.k.ed i y hi).keepsL hK fun a ha b hb => ?_, fun b hb g e => h.fr b (List.mem_append_right _ (hin b hb)) g e, sep_in d.k.sep hi, fun a ha b hb => ?_⟩
    · simp only [List.mem_cons, List.not_mem_nil, or_false] at hb
      rcases hb with rfl | rfl
      · exact (d.ap _ List.mem_cons_self a (hin a ha)).symm
      · exact (sep_o d.k.sep hi a ha).symm
    · rw [hl] at ha
      rcases List.mem_append.1 ha with ha | ha
      · exact d.ap a (dwL_fewer _ a ha) b (hin b hb)
      · exact sep_out d.k.sep hm hny a ha b hb
/-- What is known, but for one block that may be none. -/
def rmO (M : PH) (o : Option Nat) : PH := match o with | none => M | some g => rm M g
theorem rmO_le (M : PH) (o : Option Nat) : (rmO M o).Le M := by
  cases o with
  | none => exact PH.Le.refl M
  | some g => exact rm_le M g
theorem rmO_none (M : PH) {o : Option Nat} {g : Nat} (e : o = some g) : rmO M o g = none := by subst e; exact if_pos rfl
theorem rmO_keeps (M : PH) (o : Option Nat) : KeepsL [o] M (rmO M o) := fun k ob hk hn => by
  cases o with
  | none => exact hk
  | some g =>
    have : k ≠ g := fun e => hn (by rw [e]; simp)
    show rm M g k = some ob
    unfold rm
    rw [if_neg this]
    exact hk
theorem Keeps.rmO {M M' : PH} {o : Option Nat} (h : Keeps o M M') : (rmO M o).Le M' := fun k ob hk => by
  cases o with
  | none => exact h k ob hk (fun e => nomatch e)
  | some g =>
    have hk : rm M g k = some ob := hk
    unfold rm at hk
    split at hk
    · cases hk
    · rename_i hne
      exact h k ob hk (fun e => hne (by cases e; rfl))
/-- The last of a list that has a property, with its place. -/
def lastE (p : En → Bool) : List En → Option (Nat × En)
  | [] => none
  | x :: r => match lastE p r with
    | some q => some (q.1 + 1, q.2)
    | none => if p x then some (0, x) else none
theorem lastE_no {p : En → Bool} : ∀ {es : List En}, (∀ e ∈ es, p e = false) → lastE p es = none
  | [], _ => rfl
  | x :: r, h => by
    rw [lastE, lastE_no fun e he => h e (List.mem_cons_of_mem _ he)]
    simp [h x List.mem_cons_self]
theorem lastE_at {p : En → Bool} : ∀ {es : List En} {i : Nat} (hi : i < es.length), p es[i] = true → (∀ j, i < j → ∀ h : j < es.length, p es[j] = false) → lastE p es = some (i, es[i])
  | [], i, hi, _, _ => by cases hi
  | x :: r, 0, hi, h, h2 => by
    have e : lastE p r = none := lastE_no fun y hy => by
      obtain ⟨j, hj, rfl⟩ := List.getElem_of_mem hy
      exact h2 (j + 1) (by omega) (by simp; omega)
    rw [lastE, e]
    have h : p x = true := h
    simp [h]
  | x :: r, i + 1, hi, h, h2 => by
    have hi' : i < r.length := by simpa using hi
    have e : lastE p r = some (i, r[i]) := lastE_at hi' h fun j hj hl => h2 (j + 1) (by omega) (by simp; omega)
    rw [lastE, e]
    rfl
theorem lastE_some {p : En → Bool} : ∀ {es : List En} {q : Nat × En}, lastE p es = some q → ∃ h : q.1 < es.length, es[q.1] = q.2 ∧ p q.2 = true
  | [], q, h => by cases h
  | x :: r, q, h => by
    rw [lastE] at h
    cases hr : lastE p r with
    | some z =>
      rw [hr] at h
      cases h
      obtain ⟨h1, h2, h3⟩ := lastE_some hr
      exact ⟨by simpa using h1, by simpa using h2, h3⟩
    | none =>
      rw [hr] at h
      have h : (if p x then some (0, x) else none) = some q := h
      split at h
      · rename_i hx
        cases h
        exact ⟨by simp, rfl, hx⟩
      · cases h
def canGo (k : ByteArray) (e : En) : Bool := !seq e.key k && decide (e.pins = 0)
structure Ev where
  tr : List En
  kp : List En
  gone : List ByteArray
def full (bud : Int) (tr kp : List En) : Prop := bud < (eCosts (tr ++ kp) : Int) ∨ 40 < ((tr.length : Int) + kp.length)
instance (bud : Int) (tr kp : List En) : Decidable (full bud tr kp) := by unfold full; infer_instance
/-- The last that may go goes, as long as there is too much. -/
def evict (bud : Int) (k : ByteArray) : Nat → Ev → Option Ev
  | 0, _ => none
  | n + 1, s => if full bud s.tr s.kp then match lastE (canGo k) s.tr with
      | some q => evict bud k n ⟨s.tr.eraseIdx q.1, s.kp, s.gone ++ [q.2.key]⟩
      | none => match lastE (canGo k) s.kp with
        | some q => evict bud k n ⟨s.tr, s.kp.eraseIdx q.1, s.gone ++ [q.2.key]⟩
        | none => none
    else some s
theorem dropK_no {es : List En} {k : ByteArray} (h : ∀ e ∈ es, e.key ≠ k) : dropK es k = es := by
  unfold dropK
  rw [List.filter_eq_self]
  intro e he
  simp [seq_ne.2 (h e he)]
theorem dropK_erase : ∀ {es : List En} {i : Nat} (hi : i < es.length), AptG En.key es → dropK es es[i].key = es.eraseIdx i
  | [], i, hi, _ => by cases hi
  | x :: r, 0, hi, h => by
    have hp := List.pairwise_cons.1 h
    have e : dropK (x :: r) x.key = dropK r x.key := by unfold dropK; rw [List.filter_cons, seq_self]; rfl
    show dropK (x :: r) x.key = r
    rw [e]
    exact dropK_no fun y hy => (hp.1 y hy).symm
  | x :: r, i + 1, hi, h => by
    have hp := List.pairwise_cons.1 h
    have hi' : i < r.length := by simpa using hi
    have hx : seq x.key r[i].key = false := seq_ne.2 (hp.1 _ (List.getElem_mem hi'))
    show dropK (x :: r) r[i].key = x :: r.eraseIdx i
    rw [← dropK_erase hi' hp.2]
    unfold dropK
    rw [List.filter_cons, hx]
    rfl
theorem erase_left {tr kp : List En} {i : Nat} (hi : i < tr.length) (h : AptG En.key (tr ++ kp)) : dropK tr tr[i].key = tr.eraseIdx i ∧ dropK kp tr[i].key = kp ∧ AptG En.key (tr.eraseIdx i ++ kp) := by
  obtain ⟨h1, h2, h3⟩ := List.pairwise_append.1 h
  exact ⟨dropK_erase hi h1, dropK_no fun y hy e => h3 _ (List.getElem_mem hi) y hy e.symm, h.sublist (List.Sublist.append (List.eraseIdx_sublist _ _) (List.Sublist.refl _))⟩
theorem erase_right {tr kp : List En} {i : Nat} (hi : i < kp.length) (h : AptG En.key (tr ++ kp)) : dropK tr kp[i].key = tr ∧ dropK kp kp[i].key = kp.eraseIdx i ∧ AptG En.key (tr ++ kp.eraseIdx i) := by
  obtain ⟨h1, h2, h3⟩ := List.pairwise_append.1 h
  exact ⟨dropK_no fun y hy e => h3 y hy _ (List.getElem_mem hi) e, dropK_erase hi h2, h.sublist (List.Sublist.append (List.Sublist.refl _) (List.eraseIdx_sublist _ _))⟩
def keysOk (es : List En) : Prop := ∀ e ∈ es, e.key ≠ ByteArray.empty
theorem keysOk.sub {a b : List En} (h : keysOk b) (hs : a.Sublist b) : keysOk a := fun e he => h e (hs.subset he)
def evSize (s : Ev) : Nat := s.tr.length + s.kp.length
theorem evict_no {bud : Int} {k : ByteArray} {s : Ev} (h : ¬ full bud s.tr s.kp) (n : Nat) : evict bud k (n + 1) s = some s := by rw [evict, if_neg h]
theorem evict_left {bud : Int} {k : ByteArray} {s : Ev} (h : full bud s.tr s.kp) (n : Nat) {q : Nat × En} (hq : lastE (canGo k) s.tr = some q) : evict bud k (n + 1) s = evict bud k n ⟨s.tr.eraseIdx q.1, s.kp, s.gone ++ [q.2.key]⟩ := by rw [evict, if_pos h, hq]
theorem evict_right {bud : Int} {k : ByteArray} {s : Ev} (h : full bud s.tr s.kp) (n : Nat) (h0 : lastE (canGo k) s.tr = none) {q : Nat × En} (hq : lastE (canGo k) s.kp = some q) : evict bud k (n + 1) s = evict bud k n ⟨s.tr, s.kp.eraseIdx q.1, s.gone ++ [q.2.key]⟩ := by rw [evict, if_pos h, h0, hq]
theorem evict_out {bud : Int} {k : ByteArray} {s : Ev} (h : full bud s.tr s.kp) (n : Nat) (h0 : lastE (canGo k) s.tr = none) (h1 : lastE (canGo k) s.kp = none) : evict bud k (n + 1) s = none := by rw [evict, if_pos h, h0, h1]
theorem evict_le {bud : Int} {k : ByteArray} : ∀ (n : Nat) (s r : Ev), evict bud k n s = some r → r.tr.Sublist s.tr ∧ r.kp.Sublist s.kp ∧ r.gone.length + evSize r = s.gone.length + evSize s
  | 0, s, r, h => by cases h
  | n + 1, s, r, h => by
    by_cases hf : full bud s.tr s.kp
    · cases h1 : lastE (canGo k) s.tr with
      | some q =>
        rw [evict_left hf n h1] at h
        obtain ⟨a, b, c⟩ := evict_le n _ r h
        obtain ⟨hq, _⟩ := lastE_some h1
        refine ⟨a.trans (List.eraseIdx_sublist _ _), b, ?_⟩
        unfold evSize at *
        simp only [List.length_append, List.length_cons, List.length_nil, List.length_eraseIdx] at c
        rw [if_pos hq] at c
        omega
      | none =>
        cases h2 : lastE (canGo k) s.kp with
        | some q =>
          rw [evict_right hf n h1 h2] at h
          obtain ⟨a, b, c⟩ := evict_le n _ r h
          obtain ⟨hq, _⟩ := lastE_some h2
          refine ⟨a, b.trans (List.eraseIdx_sublist _ _), ?_⟩
          unfold evSize at *
          simp only [List.length_append, List.length_cons, List.length_nil, List.length_eraseIdx] at c
          rw [if_pos hq] at c
          omega
        | none => rw [evict_out hf n h1 h2] at h; cases h
    · rw [evict_no hf] at h
      cases h
      exact ⟨List.Sublist.refl _, List.Sublist.refl _, rfl⟩
def putE (s : Sc) (e : En) : Option Ev := evict s.bud e.key ((dropK s.tr e.key).length + 1 + (dropK s.kp e.key).length + 1) ⟨e :: dropK s.tr e.key, dropK s.kp e.key, []⟩
noncomputable def putC (s : Sc) (e : En) : Int := if stFault s ≠ 0 then stFault s else if enFault e ≠ 0 then enFault e else if (putE s e).isSome then 0 else 7
def evS (s : Sc) (r : Ev) : Sc := ⟨s.bud, s.gd, r.tr, r.kp⟩
noncomputable def putR (s : Sc) (e : En) : Sc := if stFault s ≠ 0 then zSc else if enFault e ≠ 0 then zSc else match putE s e with | some r => evS s r | none => zSc
noncomputable def putG (s : Sc) (e : En) : List ByteArray := if stFault s ≠ 0 then [] else if enFault e ≠ 0 then [] else match putE s e with | some r => r.gone | none => []
end Go.Proofs.YtgjaiabenjafeaaGreatDoor
