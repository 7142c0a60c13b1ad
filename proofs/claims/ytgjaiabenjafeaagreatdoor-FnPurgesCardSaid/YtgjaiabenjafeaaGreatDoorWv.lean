/-
  CONTRACTS: an entry put into a store of one's own.
-/
import Derived.Test.YtgjaiabenjafeaaGreatDoorWt
namespace Go.Proofs.YtgjaiabenjafeaaGreatDoor
set_option maxRecDepth 100000
set_option linter.unusedSimpArgs false
set_option linter.unusedVariables false
open Go.Xe
theorem erase_map {α β : Type} (f : α → β) : ∀ (l : List α) (i : Nat), (l.eraseIdx i).map f = (l.map f).eraseIdx i
  | [], i => by simp
  | x :: r, 0 => rfl
  | x :: r, i + 1 => by
    show f x :: (r.eraseIdx i).map f = f x :: (r.map f).eraseIdx i
    rw [erase_map f r i]
theorem flat_subl {l' l : List EP} (h : l'.Sublist l) : (l'.flatMap EP.blks).Sublist (l.flatMap EP.blks) := by
  induction h with
  | slnil => exact List.Sublist.refl _
  | cons x _ ih => rw [List.flatMap_cons]; exact ih.trans (List.sublist_append_right _ _)
  | cons_cons x _ ih => rw [List.flatMap_cons, List.flatMap_cons]; exact List.Sublist.append (List.Sublist.refl _) ih
theorem dwL_subl {o : Option Nat} {l' l : List EP} (h : l'.Sublist l) : ∀ b ∈ dwL o l', b ∈ dwL o l := fun b hb => by
  rcases List.mem_cons.1 hb with rfl | hb
  · exact List.mem_cons_self
  · exact List.mem_cons_of_mem _ ((flat_subl h).subset hb)
theorem Dw.less {M M' : PH} {o : Option Nat} {A A' : Option Addr} {c c' : Nat} {ps ps' : List EP} (h : Dw M o A c ps) (hs : ps'.Sublist ps) (hO : Ow M' o A' c' 13 EP.cs ps') (hK : Keeps o M M') : Dw M' o A' c' ps' :=
  ⟨hO, fun j y hy => by
    obtain ⟨i, hi⟩ := List.mem_iff_getElem?.1 (hs.subset (List.mem_of_getElem? hy))
    exact (h.ed i y hi).keeps hK (sep_o h.sep hi), List.pairwise_cons.2 ⟨fun b hb => (List.pairwise_cons.1 h.sep).1 b ((flat_subl hs).subset hb), (List.pairwise_cons.1 h.sep).2.sublist (flat_subl hs)⟩⟩
theorem NewS.dropped {M0 M M' : PH} {s : So} {k : ByteArray} (h : NewS M0 M s) (hD : Dso M' (s.drop k)) (hK : KeepsL [s.o1, s.o2] M M') : NewS M0 M' (s.drop k) :=
  ⟨hD, (hK.mono fun a ha => by
    simp only [List.mem_cons, List.not_mem_nil, or_false] at ha
    rcases ha with rfl | rfl
    · exact List.mem_append_left _ List.mem_cons_self
    · exact List.mem_append_right _ List.mem_cons_self : KeepsL (soL s) M M').over h.le h.fr, fun b hb g e => h.fr b ((List.mem_append.1 hb).elim (fun hb => List.mem_append_left _ (dwL_fewer _ b hb)) (fun hb => List.mem_append_right _ (dwL_fewer _ b hb))) g e⟩
theorem NewSY.of {M0 M M' : PH} {s : So} {y : EP} (h : NewS M0 M s) (hy : NewE M M' y) : NewSY M0 M' s y := ⟨h.mono hy.le, hy.ed, hy.fr.le h.le, hy.ap, fun a ha b hb => apart_of h.d.kn hy.fr a ha b hb⟩
theorem NewP.more {M0 M M' : PH} {z : So} {o o' : Option Nat} {A A' : Option Addr} {c c' : Nat} {ks ks' : List ByteArray} (h : NewP M0 M z o A c ks) (hO : Ow M' o' A' c' 1 stC ks') (hK : Keeps o M M') (hF : o' = o ∨ ∃ g, o' = some g ∧ M g = none) : NewP M0 M' z o' A' c' ks' := by
  refine ⟨⟨h.st.d.keepsL (Keeps.inL hK (by simp : o ∈ [o])) fun a ha b hb => by simp at hb; subst hb; exact (h.a a ha).symm, hK.over h.st.le h.f, h.st.fr⟩, hO, fun g e => ?_, fun b hb => ?_⟩
  · rcases hF with h1 | ⟨g', h1, hg⟩
    · exact h.f g (h1 ▸ e)
    · rw [h1] at e; cases e; exact none_of_le h.st.le hg
  · rcases hF with rfl | ⟨g', rfl, hg⟩
    · exact h.a b hb
    · intro g e e'
      cases e
      obtain ⟨ob, ho⟩ := h.st.d.kn b hb _ e'
      rw [hg] at ho; cases ho
theorem NewP.cutT {M0 M M' : PH} {z : So} {o : Option Nat} {A : Option Addr} {c : Nat} {ks : List ByteArray} {q : List EP} (h : NewP M0 M z o A c ks) (hs : q.Sublist z.p1) (hO : Ow M' z.o1 z.A1 z.c1 13 EP.cs q) (hK : Keeps z.o1 M M') : NewP M0 M' (z.trial z.o1 z.A1 z.c1 q) o A c ks := by
  have d := h.st.d
  have sub : ∀ b ∈ soL (z.trial z.o1 z.A1 z.c1 q), b ∈ soL z := fun b hb => (List.mem_append.1 hb).elim (fun hb => List.mem_append_left _ (dwL_subl hs b hb)) (fun hb => List.mem_append_right _ hb)
  refine ⟨⟨⟨d.t.less hs hO hK, d.k.keepsL (Keeps.inL hK (by simp : z.o1 ∈ [z.o1])) fun a ha b hb => by simp at hb; subst hb; exact (d.ap _ List.mem_cons_self a ha).symm, fun a ha b hb => d.ap a (dwL_subl hs a ha) b hb⟩, hK.over h.st.le (fun k e => h.st.fr z.o1 (List.mem_append_left _ List.mem_cons_self) k e), fun b hb => h.st.fr b (sub b hb)⟩, h.w.keeps hK fun g e e' => h.a z.o1 (List.mem_append_left _ List.mem_cons_self) g e e', h.f, fun b hb => h.a b (sub b hb)⟩
theorem NewP.cutK {M0 M M' : PH} {z : So} {o : Option Nat} {A : Option Addr} {c : Nat} {ks : List ByteArray} {q : List EP} (h : NewP M0 M z o A c ks) (hs : q.Sublist z.p2) (hO : Ow M' z.o2 z.A2 z.c2 13 EP.cs q) (hK : Keeps z.o2 M M') : NewP M0 M' (z.kept z.o2 z.A2 z.c2 q) o A c ks := by
  have d := h.st.d
  have sub : ∀ b ∈ soL (z.kept z.o2 z.A2 z.c2 q), b ∈ soL z := fun b hb => (List.mem_append.1 hb).elim (fun hb => List.mem_append_left _ hb) (fun hb => List.mem_append_right _ (dwL_subl hs b hb))
  refine ⟨⟨⟨d.t.keepsL (Keeps.inL hK (by simp : z.o2 ∈ [z.o2])) fun a ha b hb => by simp at hb; subst hb; exact d.ap a ha _ List.mem_cons_self, d.k.less hs hO hK, fun a ha b hb => d.ap a ha b (dwL_subl hs b hb)⟩, hK.over h.st.le (fun k e => h.st.fr z.o2 (List.mem_append_right _ List.mem_cons_self) k e), fun b hb => h.st.fr b (sub b hb)⟩, h.w.keeps hK fun g e e' => h.a z.o2 (List.mem_append_right _ List.mem_cons_self) g e e', h.f, fun b hb => h.a b (sub b hb)⟩
theorem NewP.mono {M0 M M' : PH} {z : So} {o : Option Nat} {A : Option Addr} {c : Nat} {ks : List ByteArray} (h : NewP M0 M z o A c ks) (l : M.Le M') : NewP M0 M' z o A c ks := ⟨h.st.mono l, h.w.mono l, h.f, h.a⟩
theorem drop_sub (s : Sc) (k : ByteArray) : (dropK s.tr k ++ dropK s.kp k).Sublist s.all := List.Sublist.append List.filter_sublist List.filter_sublist
theorem costs_of {z : So} (h : ∀ x ∈ z.c.all, x.cost ≤ 1048576) : (∀ x ∈ z.p1.map (·.1), x.c.cost ≤ 1048576) ∧ (∀ x ∈ z.p2.map (·.1), x.c.cost ≤ 1048576) := by
  constructor
  · intro x hx
    obtain ⟨p, hp, rfl⟩ := List.mem_map.1 hx
    exact h _ (List.mem_append_left _ (List.mem_map.2 ⟨p, hp, rfl⟩))
  · intro x hx
    obtain ⟨p, hp, rfl⟩ := List.mem_map.1 hx
    exact h _ (List.mem_append_right _ (List.mem_map.2 ⟨p, hp, rfl⟩))
theorem storeCost_row (z : So) (M : PH) (D : Dso M z) (h : ∀ x ∈ z.c.all, x.cost ≤ 1048576) (n1 : z.p1.length ≤ 1048576) (n2 : z.p2.length ≤ 1048576) : Ret 95 [z.val] M (I (eCosts z.c.all)) := by
  obtain ⟨d1, d2⟩ := costs_of h
  have c1 := costOf_row D.t d1 n1
  have c2 := costOf_row D.k d2 n2
  have m1 := eCosts_max (es := z.p1.map (fun x : EP => x.1.c)) (fun e he => h e (List.mem_append_left _ (show e ∈ z.p1.map (fun x : EP => x.1.c) from he)))
  have m2 := eCosts_max (es := z.p2.map (fun x : EP => x.1.c)) (fun e he => h e (List.mem_append_right _ (show e ∈ z.p2.map (fun x : EP => x.1.c) from he)))
  rw [List.length_map] at m1 m2
  have hw : IntKind.i64.wrap ((eCosts (z.p1.map (·.1.c)) : Int) + (eCosts (z.p2.map (·.1.c)) : Int)) = (eCosts z.c.all : Int) := by
    rw [wrap_id (by omega) (by omega)]
    show _ = ((eCosts (z.p1.map (·.1.c) ++ z.p2.map (·.1.c)) : Nat) : Int)
    rw [eCosts_app]
    omega
  refine xcall_of_vc Tryz.func95 rfl _ Tryz.ntmps95 _ rfl (fun _ _ => Tryz.call95 _ _) rfl (fun w0 ρ0 => ?_)
  conv => whnf
  repeat' (first | (refine ⟨⟨[], rfl⟩, _, PH.Le.refl _, PH.Le.refl _, ?_⟩; conv => whnf) | (refine caseB_true ?_; conv => whnf) | (refine caseB_false ?_; conv => whnf) | ((with_reducible refine caseB_dec (fun h => ?_) (fun h => ?_)) <;> conv => whnf) | ((with_reducible refine caseB_ndec (fun h => ?_) (fun h => ?_)) <;> conv => whnf) | ((with_reducible refine caseB_not (fun h => ?_) (fun h => ?_)) <;> conv => whnf) | (refine Ret.go (c1) ?_; conv => whnf) | (refine Ret.go (c2) ?_; conv => whnf) | (refine draw_rule (.light 0 <| .light 1 <| .light 3 <| .light 4 <| .alt 2 false (.alt 5 false (.light 6 <| .light 7 <| .done) .nil) .nil) (by decide +kernel) ?_; conv => whnf) | (with_reducible refine @And.intro (guardVC _ _ _ _ _) _ ?_ ?_) <;> conv => whnf | (refine caseB_intro (fun h => ?_) (fun h => ?_) <;> (try simp only [Bool.not_eq_true', Bool.not_eq_false', decide_eq_true_eq, decide_eq_false_iff_not] at h) <;> conv => whnf))
  all_goals exact ⟨_, PH.Le.refl _, by rw [← hw]; rfl, rfl⟩
abbrev So.ev (z : So) (ks : List ByteArray) : Ev := ⟨z.p1.map (·.1.c), z.p2.map (·.1.c), ks⟩
abbrev Zp := So × Option Nat × Option Addr × Nat × List ByteArray
/-- What put has done. -/
def PutD (M0 : PH) (s : So) (E : Option Ev) (r : Value) (b : List Box) (M' : PH) : Prop :=
  (E = none ∧ r = .tuple #[.slice none 0 0, B false] ∧ M0.Le M' ∧ ∃ s', b = [soBox s']) ∨
  ∃ ev s' o A c, E = some ev ∧ r = .tuple #[.slice A ev.gone.length c, B true] ∧ b = [soBox s'] ∧ s'.c = evS s.c ev ∧ NewP M0 M' s' o A c ev.gone
theorem put_ret (s : So) (e : EnA) (M0 M : PH) (h : NewS M0 M s) (he : e.inn M0) (hln : s.p1.length + s.p2.length ≤ 1048575) (hcx : ∀ x ∈ s.c.all, x.cost ≤ 1048576) (hec : e.c.cost ≤ 1048576) :
    XCall env 63 [.bp 0 0, .v e.val] [soBox s] M fun r b M' => PutD M0 s (putE s.c e.c) r b M' := by
  have hn1 : s.p1.length ≤ 1048576 := by omega
  have hn2 : s.p2.length ≤ 1048576 := by omega
  have hd1 : (s.drop e.c.key).p1.length ≤ s.p1.length := List.length_filter_le _ _
  have hd2 : (s.drop e.c.key).p2.length ≤ s.p2.length := List.length_filter_le _ _
  refine xcall_of_vc Tryz.func63 rfl _ Tryz.ntmps63 _ rfl (fun _ _ => Tryz.call63 _ _) rfl (fun w0 ρ0 => ?_)
  conv => whnf
  refine XCall.lift (drop_own s e.c.key M h.d hn1 hn2) [0] ?_ (by simp) (by simp) (by simp [AV.plain]) ?_
  · simp [ren]
  rintro r bs' M1 ⟨rfl, rfl, hD, hK⟩
  refine ⟨by simp [AV.plain], ?_⟩
  have h1 := h.dropped hD hK
  have hnd1 : (s.drop e.c.key).p1.length ≤ 1048576 := by omega
  have hnd2 : (s.drop e.c.key).p2.length ≤ 1048576 := by omega
  conv => whnf
  repeat' (first | (refine ⟨⟨[], rfl⟩, _, PH.Le.refl _, bot_le _, ?_⟩; conv => whnf) | (refine ⟨⟨_, rfl⟩, _, PH.Le.refl _, bot_le _, ?_⟩; conv => whnf) | (refine caseB_true ?_; conv => whnf) | (refine caseB_false ?_; conv => whnf) | ((with_reducible refine caseB_dec (fun h => ?_) (fun h => ?_)) <;> conv => whnf) | ((with_reducible refine caseB_ndec (fun h => ?_) (fun h => ?_)) <;> conv => whnf) | ((with_reducible refine caseB_not (fun h => ?_) (fun h => ?_)) <;> conv => whnf) | (refine draw_ruleJ (none) (.light 0 <| .light 1 <| .light 2 <| .light 3 <| .light 4 <| .light 5 <| .alt 6 false (.alt 7 false (.alt 8 false (.light 9 <| .light 10 <| .alt 11 true (.done) .nil) .nil) .nil) .nil) (by decide +kernel) (bot_le _) ?_; conv => whnf) | (refine draw_ruleJ (none) (.light 0 <| .light 1 <| .light 2 <| .light 4 <| .light 5 <| .light 6 <| .light 7 <| .alt 3 false (.light 8 <| .light 9 <| .light 10 <| .light 11 <| .light 12 <| .light 13 <| .light 14 <| .light 15 <| .light 16 <| .light 17 <| .light 18 <| .light 19 <| .light 20 <| .light 21 <| .light 22 <| .done) .nil) (by decide +kernel) (bot_le _) ?_; conv => whnf) | (refine draw_ruleJ (none) (.light 0 <| .light 1 <| .light 2 <| .light 3 <| .light 4 <| .alt 5 false (.light 6 <| .done) .nil) (by decide +kernel) (bot_le _) ?_; conv => whnf) | (refine draw_ruleJ (none) (.light 0 <| .light 1 <| .light 2 <| .light 3 <| .light 4 <| .alt 5 false (.light 6 <| .done) .nil) (by decide +kernel) (bot_le _) ?_; conv => whnf) | (with_reducible refine @And.intro (guardVC _ _ _ _ _) _ ?_ ?_) <;> conv => whnf | (refine caseB_intro (fun h => ?_) (fun h => ?_) <;> (try simp only [Bool.not_eq_true', Bool.not_eq_false', decide_eq_true_eq, decide_eq_false_iff_not] at h) <;> conv => whnf))
  refine ACall.step (copyEntry_ret e M1 (he.mono h1.le) hec) fun v M2 hh => ?_
  obtain ⟨y, rfl, ey, hy⟩ := hh
  (first | (refine ⟨⟨_, rfl⟩, _, PH.Le.refl _, bot_le _, ?_⟩; conv => whnf) | conv => whnf)
  intro g hg
  have l2 := PH.Le.set (.cells (EP.cs y).toArray 44 (0, 0)) hg
  refine ⟨⟨_, rfl⟩, _, PH.Le.refl _, bot_le _, ?_⟩
  conv => whnf
  have hL := (NewSY.of h1 hy)
  have hne : (s.drop e.c.key).o1 ≠ some g := fun e => by
    obtain ⟨ob, ho⟩ := hL.n.d.t.row.known g e
    rw [hg] at ho; cases ho
  have hL := hL.mono l2
  refine ACall.step (insert_ret (s.drop e.c.key).o1 (s.drop e.c.key).A1 (s.drop e.c.key).c1 (s.drop e.c.key).p1 y g _ hL.n.d.t.row (PH.set_same _ _ _) hne hnd1) fun v M3 hh => ?_
  obtain ⟨o3, A3, c3, rfl, hO, hK3, hF⟩ := hh
  refine ⟨⟨_, rfl⟩, _, PH.Le.refl _, bot_le _, ?_⟩
  conv => whnf
  have hN := hL.trial hO hK3 hF
  intro g4 hg4
  conv => whnf
  have l4 := PH.Le.set (.cells (#[] : Array Value) 9 (0, 0)) hg4
  have hN := hN.mono l4
  have hP : NewP M0 (M3.set g4 (.cells (#[] : Array Value) 9 (0, 0))) ((s.drop e.c.key).trial o3 A3 c3 (y :: (s.drop e.c.key).p1)) none (some ⟨g4, 0, none⟩) 0 [] := ⟨hN, Ow.nil, (fun g e => nomatch e), (fun b _ g e => nomatch e)⟩
  clear hL hK3 hF hO hD hK l2 l4 hN
  refine loop_rule (fun z : Zp => ⟨slots 90 [(0, .bp 0 0), (3, .bp 1 0), (4, .v (.slice none 0 0)), (5, .v (B false)), (6, .v (.slice z.2.2.1 z.2.2.2.2.length z.2.2.2.1))], [soBox z.1, enBox (e, none, none, none)]⟩)
    (fun z M' => NewP M0 M' z.1 z.2.1 z.2.2.1 z.2.2.2.1 z.2.2.2.2 ∧ z.1.b = s.b ∧ z.1.g = s.g ∧ (∀ x ∈ z.1.c.all, x.cost ≤ 1048576) ∧ z.2.2.2.2.length + z.1.p1.length + z.1.p2.length ≤ 1048576 ∧ evict s.b e.c.key (z.1.p1.length + z.1.p2.length + 1) (z.1.ev z.2.2.2.2) = putE s.c e.c) (fun z => z.1.p1.length + z.1.p2.length) ((s.drop e.c.key).trial o3 A3 c3 (y :: (s.drop e.c.key).p1), none, some ⟨g4, 0, none⟩, 0, []) ?_ ?_ ?_
  · exact ⟨by simp [slots, leT], ⟨[], rfl⟩, (by show 1 ≤ 2; omega), rfl, rfl⟩
  · refine ⟨hP, rfl, rfl, ?_, ?_, ?_⟩
    · intro x hx
      have hx : x ∈ (y :: (s.drop e.c.key).p1).map (·.1.c) ++ (s.drop e.c.key).p2.map (·.1.c) := hx
      have e3 : (s.drop e.c.key).p1.map (·.1.c) = dropK s.c.tr e.c.key := dropP_c s.p1 e.c.key
      have e4 : (s.drop e.c.key).p2.map (·.1.c) = dropK s.c.kp e.c.key := dropP_c s.p2 e.c.key
      rw [List.map_cons, ey, e3, e4, List.cons_append] at hx
      rcases List.mem_cons.1 hx with rfl | hx
      · exact hec
      · exact hcx x ((drop_sub s.c e.c.key).subset hx)
    · show 0 + ((s.drop e.c.key).p1.length + 1) + (s.drop e.c.key).p2.length ≤ _
      omega
    · show evict s.b e.c.key ((y :: (s.drop e.c.key).p1).length + (s.drop e.c.key).p2.length + 1) ⟨(y :: (s.drop e.c.key).p1).map (·.1.c), (s.drop e.c.key).p2.map (·.1.c), []⟩ = putE s.c e.c
      have e3 : (s.drop e.c.key).p1.map (·.1.c) = dropK s.c.tr e.c.key := dropP_c s.p1 e.c.key
      have e4 : (s.drop e.c.key).p2.map (·.1.c) = dropK s.c.kp e.c.key := dropP_c s.p2 e.c.key
      unfold putE
      rw [List.map_cons, ey, ← e3, ← e4, List.length_map, List.length_map, List.length_cons]
      rfl
  rintro ⟨z, o, A, c, ks⟩ M4 ⟨hz, hzb, hzg, hzc, hzl, hze⟩
  have hz : NewP M0 M4 z o A c ks := hz
  have hzb : z.b = s.b := hzb
  have hzg : z.g = s.g := hzg
  have hzx : ∀ x ∈ z.c.all, x.cost ≤ 1048576 := hzc
  have hzl : ks.length + z.p1.length + z.p2.length ≤ 1048576 := hzl
  have hze : evict s.b e.c.key (z.p1.length + z.p2.length + 1) (z.ev ks) = putE s.c e.c := hze
  have hz1 : z.p1.length ≤ 1048576 := by omega
  have hz2 : z.p2.length ≤ 1048576 := by omega
  have hcost := storeCost_row z M4 hz.st.d hzx hz1 hz2
  conv => whnf
  have hwl : IntKind.i64.wrap ((z.p1.length : Int) + (z.p2.length : Int)) = (z.p1.length : Int) + z.p2.length := wr_id (by omega) (by omega)
  repeat' (first | (refine ⟨⟨[], rfl⟩, _, PH.Le.refl _, bot_le _, ?_⟩; conv => whnf) | (refine ⟨⟨_, rfl⟩, _, PH.Le.refl _, bot_le _, ?_⟩; conv => whnf) | (refine caseB_true ?_; conv => whnf) | (refine caseB_false ?_; conv => whnf) | ((with_reducible refine caseB_dec (fun h => ?_) (fun h => ?_)) <;> conv => whnf) | ((with_reducible refine caseB_ndec (fun h => ?_) (fun h => ?_)) <;> conv => whnf) | ((with_reducible refine caseB_not (fun h => ?_) (fun h => ?_)) <;> conv => whnf) | (refine Ret.go (hcost) ?_; conv => whnf) | (refine draw_ruleJ (none) (.light 0 <| .light 1 <| .light 2 <| .light 3 <| .light 4 <| .light 5 <| .alt 6 false (.alt 7 false (.alt 8 false (.light 9 <| .light 10 <| .alt 11 true (.done) .nil) .nil) .nil) .nil) (by decide +kernel) (bot_le _) ?_; conv => whnf) | (refine draw_ruleJ (none) (.light 0 <| .light 1 <| .light 2 <| .light 4 <| .light 5 <| .light 6 <| .light 7 <| .alt 3 false (.light 8 <| .light 9 <| .light 10 <| .light 11 <| .light 12 <| .light 13 <| .light 14 <| .light 15 <| .light 16 <| .light 17 <| .light 18 <| .light 19 <| .light 20 <| .light 21 <| .light 22 <| .done) .nil) (by decide +kernel) (bot_le _) ?_; conv => whnf) | (refine draw_ruleJ (none) (.light 0 <| .light 1 <| .light 2 <| .light 3 <| .light 4 <| .alt 5 false (.light 6 <| .done) .nil) (by decide +kernel) (bot_le _) ?_; conv => whnf) | (refine draw_ruleJ (none) (.light 0 <| .light 1 <| .light 2 <| .light 3 <| .light 4 <| .alt 5 false (.light 6 <| .done) .nil) (by decide +kernel) (bot_le _) ?_; conv => whnf) | (with_reducible refine @And.intro (guardVC _ _ _ _ _) _ ?_ ?_) <;> conv => whnf | (refine caseB_intro (fun h => ?_) (fun h => ?_) <;> (try simp only [Bool.not_eq_true', Bool.not_eq_false', decide_eq_true_eq, decide_eq_false_iff_not] at h) <;> conv => whnf))
  · have hfull : full s.b (z.p1.map (·.1.c)) (z.p2.map (·.1.c)) := .inl (by rw [← hzb]; exact h)
    have hl1 := last_ret z.A1 z.c1 z.p1 e.c.key M4 (hz.st.d.t.row.sl EP.len) hz1
    refine Ret.go hl1 ?_
    (first | (refine ⟨⟨_, rfl⟩, _, PH.Le.refl _, bot_le _, ?_⟩; conv => whnf) | conv => whnf)
    cases hq : lastE (canGo e.c.key) (z.p1.map (·.1.c)) with
    | some q =>
      obtain ⟨hqi, hqe, _⟩ := lastE_some hq
      have hqi : q.1 < z.p1.length := by rw [List.length_map] at hqi; exact hqi
      have hle : lastI e.c.key (z.p1.map (·.1.c)) = q.1 := by unfold lastI; rw [hq]
      rw [hle]
      refine caseB_dec (fun h => absurd h (by omega)) (fun _ => ?_)
      conv => whnf
      refine caseB_dec (fun h => absurd h (by omega)) (fun _ => ?_)
      conv => whnf
      obtain ⟨hA, _, hc⟩ := (hz.st.d.t.row.sl EP.len).get hqi
      have hb2 : (q.1 : Int) < (z.p1.length : Int) := by omega
      have hkey : z.p1[q.1].1.c.key = q.2.key := by rw [← hqe]; simp
      refine ⟨Int.natCast_nonneg _, hb2, hA, ?_⟩
      conv => whnf
      refine ⟨_, cells_cut hc 0 rfl, ?_⟩
      conv => whnf
      rw [hkey]
      intro g6 hg6
      conv => whnf
      have l6 := PH.Le.set (.cells ([q.2.key].flatMap stC).toArray 9 (0, 0)) hg6
      have P6 := hz.mono l6
      have S6 := sl_full st_len M4 g6 [q.2.key] 9 (0, 0)
      refine app_sl (te := ti9) (f := stC) (xs := ks) (ys := [q.2.key]) (o := o) S6 P6.w st_len stC_one rfl (st_fits _ _ (by show _ + 1 ≤ _; omega)) (by show _ + 1 ≤ _; omega) fun o7 A7 c7 M7 hO7 hK7 hF7 => ?_
      conv => whnf
      have P7 := P6.more hO7 hK7 hF7
      have hwq : IntKind.i64.wrap ((q.1 : Int) + 1) = ((q.1 + 1 : Nat) : Int) := by rw [wrap_id (by omega) (by omega)]; omega
      rw [hwq]
      refine ACall.step (delete_ret z.o1 z.A1 z.c1 z.p1 q.1 M7 P7.st.d.t.row hqi hz1) fun v M8 hh => ?_
      obtain ⟨rfl, hO8, hK8⟩ := hh
      conv => whnf
      have P8 := P7.cutT (List.eraseIdx_sublist _ _) hO8 hK8
      have hel := List.length_eraseIdx_of_lt hqi
      have hem : (z.p1.eraseIdx q.1).map (·.1.c) = (z.p1.map (·.1.c)).eraseIdx q.1 := erase_map _ _ _
      refine ⟨(z.trial z.o1 z.A1 z.c1 (z.p1.eraseIdx q.1), o7, A7, c7, ks ++ [q.2.key]), ⟨by simp [slots, leT], ⟨[], rfl⟩, (by show 1 ≤ 2; omega), rfl, rfl⟩, ⟨P8, hzb, hzg, ?_, ?_, ?_⟩, by show (z.p1.eraseIdx q.1).length + z.p2.length < z.p1.length + z.p2.length; omega⟩
      · exact fun x hx => hzx x (((List.Sublist.append ((List.eraseIdx_sublist _ _).map _) (List.Sublist.refl _)) : List.Sublist _ z.c.all).subset hx)
      · show (ks ++ [q.2.key]).length + (z.p1.eraseIdx q.1).length + z.p2.length ≤ _
        rw [List.length_append]
        show ks.length + 1 + _ + _ ≤ _
        omega
      · refine Eq.trans ?_ ((evict_left (s := z.ev ks) hfull (z.p1.length + z.p2.length) hq).symm.trans hze)
        show evict _ _ ((z.p1.eraseIdx q.1).length + z.p2.length + 1) _ = _
        have : (z.p1.eraseIdx q.1).length + z.p2.length + 1 = z.p1.length + z.p2.length := by omega
        rw [this]
        unfold So.ev
        rw [hem]
    | none =>
      have hle : lastI e.c.key (z.p1.map (·.1.c)) = -1 := by unfold lastI; rw [hq]
      rw [hle]
      refine caseB_dec (fun _ => ?_) (fun h => absurd (by decide) h)
      conv => whnf
      repeat' (first | (refine ⟨⟨[], rfl⟩, _, PH.Le.refl _, bot_le _, ?_⟩; conv => whnf) | (refine ⟨⟨_, rfl⟩, _, PH.Le.refl _, bot_le _, ?_⟩; conv => whnf) | (refine caseB_true ?_; conv => whnf) | (refine caseB_false ?_; conv => whnf) | ((with_reducible refine caseB_dec (fun h => ?_) (fun h => ?_)) <;> conv => whnf) | ((with_reducible refine caseB_ndec (fun h => ?_) (fun h => ?_)) <;> conv => whnf) | ((with_reducible refine caseB_not (fun h => ?_) (fun h => ?_)) <;> conv => whnf) | (refine draw_ruleJ (none) (.light 0 <| .light 1 <| .light 2 <| .light 3 <| .light 4 <| .light 5 <| .alt 6 false (.alt 7 false (.alt 8 false (.light 9 <| .light 10 <| .alt 11 true (.done) .nil) .nil) .nil) .nil) (by decide +kernel) (bot_le _) ?_; conv => whnf) | (refine draw_ruleJ (none) (.light 0 <| .light 1 <| .light 2 <| .light 4 <| .light 5 <| .light 6 <| .light 7 <| .alt 3 false (.light 8 <| .light 9 <| .light 10 <| .light 11 <| .light 12 <| .light 13 <| .light 14 <| .light 15 <| .light 16 <| .light 17 <| .light 18 <| .light 19 <| .light 20 <| .light 21 <| .light 22 <| .done) .nil) (by decide +kernel) (bot_le _) ?_; conv => whnf) | (refine draw_ruleJ (none) (.light 0 <| .light 1 <| .light 2 <| .light 3 <| .light 4 <| .alt 5 false (.light 6 <| .done) .nil) (by decide +kernel) (bot_le _) ?_; conv => whnf) | (refine draw_ruleJ (none) (.light 0 <| .light 1 <| .light 2 <| .light 3 <| .light 4 <| .alt 5 false (.light 6 <| .done) .nil) (by decide +kernel) (bot_le _) ?_; conv => whnf) | (with_reducible refine @And.intro (guardVC _ _ _ _ _) _ ?_ ?_) <;> conv => whnf | (refine caseB_intro (fun h => ?_) (fun h => ?_) <;> (try simp only [Bool.not_eq_true', Bool.not_eq_false', decide_eq_true_eq, decide_eq_false_iff_not] at h) <;> conv => whnf))
      refine Ret.go (last_ret z.A2 z.c2 z.p2 e.c.key M4 (hz.st.d.k.row.sl EP.len) hz2) ?_
      (first | (refine ⟨⟨_, rfl⟩, _, PH.Le.refl _, bot_le _, ?_⟩; conv => whnf) | conv => whnf)
      cases hq2 : lastE (canGo e.c.key) (z.p2.map (·.1.c)) with
      | none =>
        have hle : lastI e.c.key (z.p2.map (·.1.c)) = -1 := by unfold lastI; rw [hq2]
        rw [hle]
        refine caseB_dec (fun _ => ?_) (fun h => absurd (by decide) h)
        conv => whnf
        refine ⟨M4, PH.Le.refl _, .inl ⟨?_, rfl, hz.st.le, z, rfl⟩⟩
        exact hze.symm.trans (evict_out (s := z.ev ks) hfull (z.p1.length + z.p2.length) hq hq2)
      | some q =>
        obtain ⟨hqi, hqe, _⟩ := lastE_some hq2
        have hqi : q.1 < z.p2.length := by rw [List.length_map] at hqi; exact hqi
        have hle : lastI e.c.key (z.p2.map (·.1.c)) = q.1 := by unfold lastI; rw [hq2]
        rw [hle]
        refine caseB_dec (fun h => absurd h (by omega)) (fun _ => ?_)
        conv => whnf
        obtain ⟨hA, _, hc⟩ := (hz.st.d.k.row.sl EP.len).get hqi
        have hb2 : (q.1 : Int) < (z.p2.length : Int) := by omega
        have hkey : z.p2[q.1].1.c.key = q.2.key := by rw [← hqe]; simp
        refine ⟨Int.natCast_nonneg _, hb2, hA, ?_⟩
        conv => whnf
        refine ⟨_, cells_cut hc 0 rfl, ?_⟩
        conv => whnf
        rw [hkey]
        intro g6 hg6
        conv => whnf
        have l6 := PH.Le.set (.cells ([q.2.key].flatMap stC).toArray 9 (0, 0)) hg6
        have P6 := hz.mono l6
        have S6 := sl_full st_len M4 g6 [q.2.key] 9 (0, 0)
        refine app_sl (te := ti9) (f := stC) (xs := ks) (ys := [q.2.key]) (o := o) S6 P6.w st_len stC_one rfl (st_fits _ _ (by show _ + 1 ≤ _; omega)) (by show _ + 1 ≤ _; omega) fun o7 A7 c7 M7 hO7 hK7 hF7 => ?_
        conv => whnf
        have P7 := P6.more hO7 hK7 hF7
        have hwq : IntKind.i64.wrap ((q.1 : Int) + 1) = ((q.1 + 1 : Nat) : Int) := by rw [wrap_id (by omega) (by omega)]; omega
        rw [hwq]
        refine ACall.step (delete_ret z.o2 z.A2 z.c2 z.p2 q.1 M7 P7.st.d.k.row hqi hz2) fun v M8 hh => ?_
        obtain ⟨rfl, hO8, hK8⟩ := hh
        conv => whnf
        have P8 := P7.cutK (List.eraseIdx_sublist _ _) hO8 hK8
        have hel := List.length_eraseIdx_of_lt hqi
        have hem : (z.p2.eraseIdx q.1).map (·.1.c) = (z.p2.map (·.1.c)).eraseIdx q.1 := erase_map _ _ _
        refine ⟨(z.kept z.o2 z.A2 z.c2 (z.p2.eraseIdx q.1), o7, A7, c7, ks ++ [q.2.key]), ⟨by simp [slots, leT], ⟨[], rfl⟩, (by show 1 ≤ 2; omega), rfl, rfl⟩, ⟨P8, hzb, hzg, ?_, ?_, ?_⟩, by show z.p1.length + (z.p2.eraseIdx q.1).length < z.p1.length + z.p2.length; omega⟩
        · exact fun x hx => hzx x (((List.Sublist.append (List.Sublist.refl _) ((List.eraseIdx_sublist _ _).map _)) : List.Sublist _ z.c.all).subset hx)
        · show (ks ++ [q.2.key]).length + z.p1.length + (z.p2.eraseIdx q.1).length ≤ _
          rw [List.length_append]
          show ks.length + 1 + _ + _ ≤ _
          omega
        · refine Eq.trans ?_ ((evict_right (s := z.ev ks) hfull (z.p1.length + z.p2.length) hq hq2).symm.trans hze)
          show evict _ _ (z.p1.length + (z.p2.eraseIdx q.1).length + 1) _ = _
          have : z.p1.length + (z.p2.eraseIdx q.1).length + 1 = z.p1.length + z.p2.length := by omega
          rw [this]
          unfold So.ev
          rw [hem]

  · have hfull : full s.b (z.p1.map (·.1.c)) (z.p2.map (·.1.c)) := .inr (by have h : 40 < IntKind.i64.wrap ((z.p1.length : Int) + (z.p2.length : Int)) := h; rw [hwl] at h; rw [List.length_map, List.length_map]; exact h)
    have hl1 := last_ret z.A1 z.c1 z.p1 e.c.key M4 (hz.st.d.t.row.sl EP.len) hz1
    refine Ret.go hl1 ?_
    (first | (refine ⟨⟨_, rfl⟩, _, PH.Le.refl _, bot_le _, ?_⟩; conv => whnf) | conv => whnf)
    cases hq : lastE (canGo e.c.key) (z.p1.map (·.1.c)) with
    | some q =>
      obtain ⟨hqi, hqe, _⟩ := lastE_some hq
      have hqi : q.1 < z.p1.length := by rw [List.length_map] at hqi; exact hqi
      have hle : lastI e.c.key (z.p1.map (·.1.c)) = q.1 := by unfold lastI; rw [hq]
      rw [hle]
      refine caseB_dec (fun h => absurd h (by omega)) (fun _ => ?_)
      conv => whnf
      refine caseB_dec (fun h => absurd h (by omega)) (fun _ => ?_)
      conv => whnf
      obtain ⟨hA, _, hc⟩ := (hz.st.d.t.row.sl EP.len).get hqi
      have hb2 : (q.1 : Int) < (z.p1.length : Int) := by omega
      have hkey : z.p1[q.1].1.c.key = q.2.key := by rw [← hqe]; simp
      refine ⟨Int.natCast_nonneg _, hb2, hA, ?_⟩
      conv => whnf
      refine ⟨_, cells_cut hc 0 rfl, ?_⟩
      conv => whnf
      rw [hkey]
      intro g6 hg6
      conv => whnf
      have l6 := PH.Le.set (.cells ([q.2.key].flatMap stC).toArray 9 (0, 0)) hg6
      have P6 := hz.mono l6
      have S6 := sl_full st_len M4 g6 [q.2.key] 9 (0, 0)
      refine app_sl (te := ti9) (f := stC) (xs := ks) (ys := [q.2.key]) (o := o) S6 P6.w st_len stC_one rfl (st_fits _ _ (by show _ + 1 ≤ _; omega)) (by show _ + 1 ≤ _; omega) fun o7 A7 c7 M7 hO7 hK7 hF7 => ?_
      conv => whnf
      have P7 := P6.more hO7 hK7 hF7
      have hwq : IntKind.i64.wrap ((q.1 : Int) + 1) = ((q.1 + 1 : Nat) : Int) := by rw [wrap_id (by omega) (by omega)]; omega
      rw [hwq]
      refine ACall.step (delete_ret z.o1 z.A1 z.c1 z.p1 q.1 M7 P7.st.d.t.row hqi hz1) fun v M8 hh => ?_
      obtain ⟨rfl, hO8, hK8⟩ := hh
      conv => whnf
      have P8 := P7.cutT (List.eraseIdx_sublist _ _) hO8 hK8
      have hel := List.length_eraseIdx_of_lt hqi
      have hem : (z.p1.eraseIdx q.1).map (·.1.c) = (z.p1.map (·.1.c)).eraseIdx q.1 := erase_map _ _ _
      refine ⟨(z.trial z.o1 z.A1 z.c1 (z.p1.eraseIdx q.1), o7, A7, c7, ks ++ [q.2.key]), ⟨by simp [slots, leT], ⟨[], rfl⟩, (by show 1 ≤ 2; omega), rfl, rfl⟩, ⟨P8, hzb, hzg, ?_, ?_, ?_⟩, by show (z.p1.eraseIdx q.1).length + z.p2.length < z.p1.length + z.p2.length; omega⟩
      · exact fun x hx => hzx x (((List.Sublist.append ((List.eraseIdx_sublist _ _).map _) (List.Sublist.refl _)) : List.Sublist _ z.c.all).subset hx)
      · show (ks ++ [q.2.key]).length + (z.p1.eraseIdx q.1).length + z.p2.length ≤ _
        rw [List.length_append]
        show ks.length + 1 + _ + _ ≤ _
        omega
      · refine Eq.trans ?_ ((evict_left (s := z.ev ks) hfull (z.p1.length + z.p2.length) hq).symm.trans hze)
        show evict _ _ ((z.p1.eraseIdx q.1).length + z.p2.length + 1) _ = _
        have : (z.p1.eraseIdx q.1).length + z.p2.length + 1 = z.p1.length + z.p2.length := by omega
        rw [this]
        unfold So.ev
        rw [hem]
    | none =>
      have hle : lastI e.c.key (z.p1.map (·.1.c)) = -1 := by unfold lastI; rw [hq]
      rw [hle]
      refine caseB_dec (fun _ => ?_) (fun h => absurd (by decide) h)
      conv => whnf
      repeat' (first | (refine ⟨⟨[], rfl⟩, _, PH.Le.refl _, bot_le _, ?_⟩; conv => whnf) | (refine ⟨⟨_, rfl⟩, _, PH.Le.refl _, bot_le _, ?_⟩; conv => whnf) | (refine caseB_true ?_; conv => whnf) | (refine caseB_false ?_; conv => whnf) | ((with_reducible refine caseB_dec (fun h => ?_) (fun h => ?_)) <;> conv => whnf) | ((with_reducible refine caseB_ndec (fun h => ?_) (fun h => ?_)) <;> conv => whnf) | ((with_reducible refine caseB_not (fun h => ?_) (fun h => ?_)) <;> conv => whnf) | (refine draw_ruleJ (none) (.light 0 <| .light 1 <| .light 2 <| .light 3 <| .light 4 <| .light 5 <| .alt 6 false (.alt 7 false (.alt 8 false (.light 9 <| .light 10 <| .alt 11 true (.done) .nil) .nil) .nil) .nil) (by decide +kernel) (bot_le _) ?_; conv => whnf) | (refine draw_ruleJ (none) (.light 0 <| .light 1 <| .light 2 <| .light 4 <| .light 5 <| .light 6 <| .light 7 <| .alt 3 false (.light 8 <| .light 9 <| .light 10 <| .light 11 <| .light 12 <| .light 13 <| .light 14 <| .light 15 <| .light 16 <| .light 17 <| .light 18 <| .light 19 <| .light 20 <| .light 21 <| .light 22 <| .done) .nil) (by decide +kernel) (bot_le _) ?_; conv => whnf) | (refine draw_ruleJ (none) (.light 0 <| .light 1 <| .light 2 <| .light 3 <| .light 4 <| .alt 5 false (.light 6 <| .done) .nil) (by decide +kernel) (bot_le _) ?_; conv => whnf) | (refine draw_ruleJ (none) (.light 0 <| .light 1 <| .light 2 <| .light 3 <| .light 4 <| .alt 5 false (.light 6 <| .done) .nil) (by decide +kernel) (bot_le _) ?_; conv => whnf) | (with_reducible refine @And.intro (guardVC _ _ _ _ _) _ ?_ ?_) <;> conv => whnf | (refine caseB_intro (fun h => ?_) (fun h => ?_) <;> (try simp only [Bool.not_eq_true', Bool.not_eq_false', decide_eq_true_eq, decide_eq_false_iff_not] at h) <;> conv => whnf))
      refine Ret.go (last_ret z.A2 z.c2 z.p2 e.c.key M4 (hz.st.d.k.row.sl EP.len) hz2) ?_
      (first | (refine ⟨⟨_, rfl⟩, _, PH.Le.refl _, bot_le _, ?_⟩; conv => whnf) | conv => whnf)
      cases hq2 : lastE (canGo e.c.key) (z.p2.map (·.1.c)) with
      | none =>
        have hle : lastI e.c.key (z.p2.map (·.1.c)) = -1 := by unfold lastI; rw [hq2]
        rw [hle]
        refine caseB_dec (fun _ => ?_) (fun h => absurd (by decide) h)
        conv => whnf
        refine ⟨M4, PH.Le.refl _, .inl ⟨?_, rfl, hz.st.le, z, rfl⟩⟩
        exact hze.symm.trans (evict_out (s := z.ev ks) hfull (z.p1.length + z.p2.length) hq hq2)
      | some q =>
        obtain ⟨hqi, hqe, _⟩ := lastE_some hq2
        have hqi : q.1 < z.p2.length := by rw [List.length_map] at hqi; exact hqi
        have hle : lastI e.c.key (z.p2.map (·.1.c)) = q.1 := by unfold lastI; rw [hq2]
        rw [hle]
        refine caseB_dec (fun h => absurd h (by omega)) (fun _ => ?_)
        conv => whnf
        obtain ⟨hA, _, hc⟩ := (hz.st.d.k.row.sl EP.len).get hqi
        have hb2 : (q.1 : Int) < (z.p2.length : Int) := by omega
        have hkey : z.p2[q.1].1.c.key = q.2.key := by rw [← hqe]; simp
        refine ⟨Int.natCast_nonneg _, hb2, hA, ?_⟩
        conv => whnf
        refine ⟨_, cells_cut hc 0 rfl, ?_⟩
        conv => whnf
        rw [hkey]
        intro g6 hg6
        conv => whnf
        have l6 := PH.Le.set (.cells ([q.2.key].flatMap stC).toArray 9 (0, 0)) hg6
        have P6 := hz.mono l6
        have S6 := sl_full st_len M4 g6 [q.2.key] 9 (0, 0)
        refine app_sl (te := ti9) (f := stC) (xs := ks) (ys := [q.2.key]) (o := o) S6 P6.w st_len stC_one rfl (st_fits _ _ (by show _ + 1 ≤ _; omega)) (by show _ + 1 ≤ _; omega) fun o7 A7 c7 M7 hO7 hK7 hF7 => ?_
        conv => whnf
        have P7 := P6.more hO7 hK7 hF7
        have hwq : IntKind.i64.wrap ((q.1 : Int) + 1) = ((q.1 + 1 : Nat) : Int) := by rw [wrap_id (by omega) (by omega)]; omega
        rw [hwq]
        refine ACall.step (delete_ret z.o2 z.A2 z.c2 z.p2 q.1 M7 P7.st.d.k.row hqi hz2) fun v M8 hh => ?_
        obtain ⟨rfl, hO8, hK8⟩ := hh
        conv => whnf
        have P8 := P7.cutK (List.eraseIdx_sublist _ _) hO8 hK8
        have hel := List.length_eraseIdx_of_lt hqi
        have hem : (z.p2.eraseIdx q.1).map (·.1.c) = (z.p2.map (·.1.c)).eraseIdx q.1 := erase_map _ _ _
        refine ⟨(z.kept z.o2 z.A2 z.c2 (z.p2.eraseIdx q.1), o7, A7, c7, ks ++ [q.2.key]), ⟨by simp [slots, leT], ⟨[], rfl⟩, (by show 1 ≤ 2; omega), rfl, rfl⟩, ⟨P8, hzb, hzg, ?_, ?_, ?_⟩, by show z.p1.length + (z.p2.eraseIdx q.1).length < z.p1.length + z.p2.length; omega⟩
        · exact fun x hx => hzx x (((List.Sublist.append (List.Sublist.refl _) ((List.eraseIdx_sublist _ _).map _)) : List.Sublist _ z.c.all).subset hx)
        · show (ks ++ [q.2.key]).length + z.p1.length + (z.p2.eraseIdx q.1).length ≤ _
          rw [List.length_append]
          show ks.length + 1 + _ + _ ≤ _
          omega
        · refine Eq.trans ?_ ((evict_right (s := z.ev ks) hfull (z.p1.length + z.p2.length) hq hq2).symm.trans hze)
          show evict _ _ (z.p1.length + (z.p2.eraseIdx q.1).length + 1) _ = _
          have : z.p1.length + (z.p2.eraseIdx q.1).length + 1 = z.p1.length + z.p2.length := by omega
          rw [this]
          unfold So.ev
          rw [hem]

  · have hfull : ¬ full s.b (z.p1.map (·.1.c)) (z.p2.map (·.1.c)) := by
      rename_i h0
      have h0 : ¬ z.b < (eCosts z.c.all : Int) := h0
      have h : ¬ 40 < IntKind.i64.wrap ((z.p1.length : Int) + (z.p2.length : Int)) := h
      rw [hwl] at h
      rintro (h2 | h2)
      · rw [← hzb] at h2; exact h0 h2
      · rw [List.length_map, List.length_map] at h2; exact h h2
    rw [evict_no hfull] at hze
    refine ⟨M4, PH.Le.refl _, .inr ⟨_, z, o, A, c, hze.symm, rfl, rfl, ?_, hz⟩⟩
    unfold So.c evS
    rw [hzb, hzg]
theorem l8EntryCopy_box (t : TypeId) (x : EnA) (M : PH) (hi : x.inn M) (hco : x.c.cost ≤ 1048576) :
    XCall env 121 [.bp 0 0] [⟨t, x.cs.map .v⟩] M fun r b M' => (∃ y : EP, r = y.1.val ∧ y.1.c = x.c ∧ NewE M M' y) ∧ b = [⟨t, x.cs.map .v⟩] := by
  obtain ⟨_, _, hn1, hn2, hn3⟩ := En.hn hco
  refine xcall_of_vc Tryz.func121 rfl _ Tryz.ntmps121 _ rfl (fun _ _ => Tryz.call121 _ _) rfl (fun w0 ρ0 => ?_)
  conv => whnf
  refine ACall.step (l4Copy_ret x.hA x.hc x.c.hs M hi.h hn1) fun v M1 hh => ?_
  obtain ⟨o1, A1, c1, rfl, N1⟩ := hh
  conv => whnf
  refine ACall.step (l1Copy_ret x.bA x.bc x.c.body M1 (hi.b.mono N1.le) hn2) fun v M2 hh => ?_
  obtain ⟨o2, A2, c2, rfl, N2⟩ := hh
  conv => whnf
  refine ACall.step (l1Texts_ret x.tA x.tc x.c.tags M2 ((hi.t.mono N1.le).mono N2.le) hn3) fun v M3 hh => ?_
  obtain ⟨o3, A3, c3, rfl, N3⟩ := hh
  conv => whnf
  exact ⟨_, PH.Le.refl _, ⟨(⟨x.c, A1, c1, A2, c2, A3, c3⟩, o1, o2, o3), rfl, rfl, newE_of N1 N2 N3⟩, rfl⟩
theorem NewP.swap {M0 M M' : PH} {z z' : So} {o : Option Nat} {A : Option Addr} {c : Nat} {ks : List ByteArray} (h : NewP M0 M z o A c ks) (hD : Dso M' z') (l : M.Le M') (hf : ∀ b ∈ soL z', b ∈ soL z ∨ ∀ g, b = some g → M g = none) : NewP M0 M' z' o A c ks :=
  ⟨⟨hD, h.st.le.trans l, fun b hb g e => (hf b hb).elim (fun hb => h.st.fr b hb g e) (fun hn => none_of_le h.st.le (hn g e))⟩, h.w.mono l, h.f, fun b hb => (hf b hb).elim (h.a b) fun hn g e e' => by
    obtain ⟨ob, ho⟩ := h.w.known g e
    rw [hn g e'] at ho
    cases ho⟩
theorem put_apt {s : Sc} {e : En} (ha : AptG En.key s.all) : AptG En.key ((e :: dropK s.tr e.key) ++ dropK s.kp e.key) := by
  have hs : (dropK s.tr e.key ++ dropK s.kp e.key).Sublist s.all := List.Sublist.append List.filter_sublist List.filter_sublist
  refine List.pairwise_cons.2 ⟨fun x hx h => ?_, List.Pairwise.sublist hs ha⟩
  have hx : x ∈ dropK s.tr e.key ++ dropK s.kp e.key := hx
  rw [← dropK_app] at hx
  have hs2 : (!seq x.key e.key) = true := (List.mem_filter.1 hx).2
  rw [h, seq_self] at hs2
  cases hs2
theorem put_keys {s : Sc} {e : En} (hk : keysOk s.all) (he : e.key ≠ ByteArray.empty) : keysOk ((e :: dropK s.tr e.key) ++ dropK s.kp e.key) := fun x hx => by
  rcases List.mem_cons.1 hx with rfl | hx
  · exact he
  · have hs : (dropK s.tr e.key ++ dropK s.kp e.key).Sublist s.all := List.Sublist.append List.filter_sublist List.filter_sublist
    exact hk x (hs.subset hx)
theorem l8Put_ret (s : So) (e : EnA) (M0 M : PH) (h : NewS M0 M s) (he : e.inn M0) (hln : s.p1.length + s.p2.length ≤ 1048575) (hcx : ∀ x ∈ s.c.all, x.cost ≤ 1048576) (hec : e.c.cost ≤ 1048576) (ha : AptG En.key s.c.all) (hk : keysOk s.c.all) (hek : e.c.key ≠ ByteArray.empty) :
    XCall env 56 [.bp 0 0, .v e.val] [soBox s] M fun r b M' => PutD M0 s (putE s.c e.c) r b M' := by
  have hn1 : s.p1.length ≤ 1048576 := by omega
  have hn2 : s.p2.length ≤ 1048576 := by omega
  have hpa := put_apt (e := e.c) ha
  have hpk := put_keys hk hek
  refine xcall_of_vc Tryz.func56 rfl _ Tryz.ntmps56 _ rfl (fun _ _ => Tryz.call56 _ _) rfl (fun w0 ρ0 => ?_)
  conv => whnf
  intro g4 hg4
  conv => whnf
  have l4 := PH.Le.set (.cells (#[] : Array Value) 9 (0, 0)) hg4
  have h1 := h.mono l4
  refine XCall.lift (l8Drop_ret s e.c.key _ h1.d hn1 hn2) [0] ?_ (by simp) (by simp) (by simp [AV.plain]) ?_
  · simp [ren]
  rintro r bs' M1 ⟨rfl, s1, rfl, es, hD, hl1, hfr⟩
  refine ⟨by simp [AV.plain], ?_⟩
  have h2 : NewS M0 M1 s1 := ⟨hD, h1.le.trans hl1, fun b hb g e => (hfr b hb).elim (fun hb => h1.fr b hb g e) (fun hn => none_of_le h1.le (hn g e))⟩
  have hbg : s1.b = s.b ∧ s1.g = s.g := ⟨congrArg Sc.bud es, congrArg Sc.gd es⟩
  have e3 : s1.p1.map (·.1.c) = dropK s.c.tr e.c.key := congrArg Sc.tr es
  have e4 : s1.p2.map (·.1.c) = dropK s.c.kp e.c.key := congrArg Sc.kp es
  have hd1 : s1.p1.length ≤ s.p1.length := by
    have := congrArg List.length e3
    have h4 : (dropK s.c.tr e.c.key).length ≤ (s.p1.map (·.1.c)).length := List.length_filter_le _ _
    rw [List.length_map] at this h4
    omega
  have hd2 : s1.p2.length ≤ s.p2.length := by
    have := congrArg List.length e4
    have h4 : (dropK s.c.kp e.c.key).length ≤ (s.p2.map (·.1.c)).length := List.length_filter_le _ _
    rw [List.length_map] at this h4
    omega
  have hnd1 : s1.p1.length ≤ 1048576 := by omega
  have hnd2 : s1.p2.length ≤ 1048576 := by omega
  conv => whnf
  repeat' (first | (refine ⟨⟨[], rfl⟩, _, PH.Le.refl _, bot_le _, ?_⟩; conv => whnf) | (refine ⟨⟨_, rfl⟩, _, PH.Le.refl _, bot_le _, ?_⟩; conv => whnf) | (refine caseB_true ?_; conv => whnf) | (refine caseB_false ?_; conv => whnf) | ((with_reducible refine caseB_dec (fun h => ?_) (fun h => ?_)) <;> conv => whnf) | ((with_reducible refine caseB_ndec (fun h => ?_) (fun h => ?_)) <;> conv => whnf) | ((with_reducible refine caseB_not (fun h => ?_) (fun h => ?_)) <;> conv => whnf) | (refine draw_ruleJ (none) (.light 0 <| .light 3 <| .light 4 <| .light 5 <| .light 6 <| .alt 1 false (.alt 2 false (.alt 7 false (.light 8 <| .light 9 <| .alt 10 true (.done) .nil) .nil) .nil) .nil) (by decide +kernel) (bot_le _) ?_; conv => whnf) | (refine draw_ruleJ (none) (.light 0 <| .light 3 <| .light 4 <| .light 5 <| .light 6 <| .alt 1 false (.alt 2 false (.light 7 <| .light 8 <| .light 9 <| .light 10 <| .light 11 <| .light 12 <| .light 13 <| .light 14 <| .light 15 <| .light 16 <| .light 17 <| .light 18 <| .light 19 <| .light 20 <| .light 21 <| .done) .nil) .nil) (by decide +kernel) (bot_le _) ?_; conv => whnf) | (refine draw_ruleJ (none) (.light 0 <| .light 1 <| .light 2 <| .light 3 <| .light 4 <| .light 5 <| .alt 6 false (.light 7 <| .done) .nil) (by decide +kernel) (bot_le _) ?_; conv => whnf) | (refine draw_ruleJ (none) (.light 0 <| .light 1 <| .light 2 <| .light 3 <| .light 4 <| .light 5 <| .alt 6 false (.light 7 <| .done) .nil) (by decide +kernel) (bot_le _) ?_; conv => whnf) | (with_reducible refine @And.intro (guardVC _ _ _ _ _) _ ?_ ?_) <;> conv => whnf | (refine caseB_intro (fun h => ?_) (fun h => ?_) <;> (try simp only [Bool.not_eq_true', Bool.not_eq_false', decide_eq_true_eq, decide_eq_false_iff_not] at h) <;> conv => whnf))
  refine XCall.lift (l8EntryCopy_box 44 e M1 (he.mono h2.le) hec) [1] ?_ (by simp) (by simp) (by simp [AV.plain]) ?_
  · simp [ren]
  rintro r bs' M2 ⟨⟨y, rfl, ey, hy⟩, rfl⟩
  refine ⟨by simp [AV.plain], ?_⟩
  (first | (refine ⟨⟨_, rfl⟩, _, PH.Le.refl _, bot_le _, ?_⟩; conv => whnf) | conv => whnf)
  intro g hg
  have l2 := PH.Le.set (.cells (EP.cs y).toArray 44 (0, 0)) hg
  refine ⟨⟨_, rfl⟩, _, PH.Le.refl _, bot_le _, ?_⟩
  conv => whnf
  have hL := NewSY.of h2 hy
  have O1 : Ow (M2.set g (.cells (EP.cs y).toArray 44 (0, 0))) (some g) (some ⟨g, 0, none⟩) 1 13 EP.cs [y] := by
    have := Ow.new EP.len M2 g [y] 44
    simpa using this
  refine app_sl (te := ti44) (f := EP.cs) (xs := [y]) (ys := s1.p1) (o := some g) ((hL.n.d.t.row.mono l2).sl EP.len) O1 EP.len EP.one rfl (en_fits _ _ (by show 1 + _ ≤ _; omega)) (by show 1 + _ ≤ _; omega) fun o3 A3 c3 M3 hO hK3 hF => ?_
  refine ⟨⟨_, rfl⟩, _, PH.Le.refl _, bot_le _, ?_⟩
  conv => whnf
  have l3 : M2.Le M3 := hK3.over l2 (fun k e => by cases e; exact hg)
  have hN := hL.trial hO l3.keeps (.inr (by
    rcases hF with e | ⟨g', e, e2⟩
    · exact ⟨g, e, hg⟩
    · exact ⟨g', e, none_of_le l2 e2⟩))
  have hP : NewP M0 M3 (s1.trial o3 A3 c3 (y :: s1.p1)) none (some ⟨g4, 0, none⟩) 0 [] := ⟨hN, Ow.nil, (fun g e => nomatch e), (fun b _ g e => nomatch e)⟩
  clear hL hK3 hF hO hD l2 l4 hN
  refine loop_rule (fun z : Zp => ⟨slots 71 [(0, .bp 0 0), (3, .bp 1 0), (4, .v (.slice none 0 0)), (5, .v (B false)), (6, .v (.slice z.2.2.1 z.2.2.2.2.length z.2.2.2.1))], [soBox z.1, enBox (e, none, none, none)]⟩)
    (fun z M' => NewP M0 M' z.1 z.2.1 z.2.2.1 z.2.2.2.1 z.2.2.2.2 ∧ z.1.b = s.b ∧ z.1.g = s.g ∧ (∀ x ∈ z.1.c.all, x.cost ≤ 1048576) ∧ z.2.2.2.2.length + z.1.p1.length + z.1.p2.length ≤ 1048576 ∧ evict s.b e.c.key (z.1.p1.length + z.1.p2.length + 1) (z.1.ev z.2.2.2.2) = putE s.c e.c ∧ AptG En.key (z.1.p1.map (·.1.c) ++ z.1.p2.map (·.1.c)) ∧ keysOk (z.1.p1.map (·.1.c) ++ z.1.p2.map (·.1.c))) (fun z => z.1.p1.length + z.1.p2.length) (s1.trial o3 A3 c3 (y :: s1.p1), none, some ⟨g4, 0, none⟩, 0, []) ?_ ?_ ?_
  · exact ⟨by simp [slots, leT], ⟨[], rfl⟩, (by show 1 ≤ 2; omega), rfl, rfl⟩
  · refine ⟨hP, hbg.1, hbg.2, ?_, ?_, ?_, ?_, ?_⟩
    · intro x hx
      have hx : x ∈ (y :: s1.p1).map (·.1.c) ++ s1.p2.map (·.1.c) := hx
      rw [List.map_cons, ey, e3, e4, List.cons_append] at hx
      rcases List.mem_cons.1 hx with rfl | hx
      · exact hec
      · exact hcx x ((drop_sub s.c e.c.key).subset hx)
    · show 0 + (s1.p1.length + 1) + s1.p2.length ≤ _
      omega
    · show evict s.b e.c.key ((y :: s1.p1).length + s1.p2.length + 1) ⟨(y :: s1.p1).map (·.1.c), s1.p2.map (·.1.c), []⟩ = putE s.c e.c
      unfold putE
      rw [List.map_cons, ey, ← e3, ← e4, List.length_map, List.length_map, List.length_cons]
      rfl
    · show AptG En.key ((y :: s1.p1).map (·.1.c) ++ s1.p2.map (·.1.c))
      rw [List.map_cons, ey, e3, e4]; exact hpa
    · show keysOk ((y :: s1.p1).map (·.1.c) ++ s1.p2.map (·.1.c))
      rw [List.map_cons, ey, e3, e4]; exact hpk
  rintro ⟨z, o, A, c, ks⟩ M4 ⟨hz, hzb, hzg, hzc, hzl, hze, hza, hzk⟩
  have hz : NewP M0 M4 z o A c ks := hz
  have hzb : z.b = s.b := hzb
  have hzg : z.g = s.g := hzg
  have hzx : ∀ x ∈ z.c.all, x.cost ≤ 1048576 := hzc
  have hzl : ks.length + z.p1.length + z.p2.length ≤ 1048576 := hzl
  have hze : evict s.b e.c.key (z.p1.length + z.p2.length + 1) (z.ev ks) = putE s.c e.c := hze
  have hza : AptG En.key (z.p1.map (·.1.c) ++ z.p2.map (·.1.c)) := hza
  have hzk : keysOk (z.p1.map (·.1.c) ++ z.p2.map (·.1.c)) := hzk
  have hz1 : z.p1.length ≤ 1048576 := by omega
  have hz2 : z.p2.length ≤ 1048576 := by omega
  have hall := l8All_ret 36 z.sta M4 hz.st.d.inn (by show (z.p1.map (·.1)).length ≤ _; rw [List.length_map]; exact hz1) (by show (z.p2.map (·.1)).length ≤ _; rw [List.length_map]; exact hz2)
  have hbx : (⟨36, [.v (I z.sta.b), .v (I z.sta.g), .v (.slice z.sta.tA z.sta.tr.length z.sta.tc), .v (.slice z.sta.kA z.sta.kp.length z.sta.kc)]⟩ : Box) = soBox z := soBox_eq z
  rw [hbx] at hall
  conv => whnf
  repeat' (first | (refine ⟨⟨[], rfl⟩, _, PH.Le.refl _, bot_le _, ?_⟩; conv => whnf) | (refine ⟨⟨_, rfl⟩, _, PH.Le.refl _, bot_le _, ?_⟩; conv => whnf) | (refine caseB_true ?_; conv => whnf) | (refine caseB_false ?_; conv => whnf) | ((with_reducible refine caseB_dec (fun h => ?_) (fun h => ?_)) <;> conv => whnf) | ((with_reducible refine caseB_ndec (fun h => ?_) (fun h => ?_)) <;> conv => whnf) | ((with_reducible refine caseB_not (fun h => ?_) (fun h => ?_)) <;> conv => whnf) | (refine draw_ruleJ (none) (.light 0 <| .light 3 <| .light 4 <| .light 5 <| .light 6 <| .alt 1 false (.alt 2 false (.alt 7 false (.light 8 <| .light 9 <| .alt 10 true (.done) .nil) .nil) .nil) .nil) (by decide +kernel) (bot_le _) ?_; conv => whnf) | (refine draw_ruleJ (none) (.light 0 <| .light 3 <| .light 4 <| .light 5 <| .light 6 <| .alt 1 false (.alt 2 false (.light 7 <| .light 8 <| .light 9 <| .light 10 <| .light 11 <| .light 12 <| .light 13 <| .light 14 <| .light 15 <| .light 16 <| .light 17 <| .light 18 <| .light 19 <| .light 20 <| .light 21 <| .done) .nil) .nil) (by decide +kernel) (bot_le _) ?_; conv => whnf) | (refine draw_ruleJ (none) (.light 0 <| .light 1 <| .light 2 <| .light 3 <| .light 4 <| .light 5 <| .alt 6 false (.light 7 <| .done) .nil) (by decide +kernel) (bot_le _) ?_; conv => whnf) | (refine draw_ruleJ (none) (.light 0 <| .light 1 <| .light 2 <| .light 3 <| .light 4 <| .light 5 <| .alt 6 false (.light 7 <| .done) .nil) (by decide +kernel) (bot_le _) ?_; conv => whnf) | (with_reducible refine @And.intro (guardVC _ _ _ _ _) _ ?_ ?_) <;> conv => whnf | (refine caseB_intro (fun h => ?_) (fun h => ?_) <;> (try simp only [Bool.not_eq_true', Bool.not_eq_false', decide_eq_true_eq, decide_eq_false_iff_not] at h) <;> conv => whnf))
  refine XCall.lift hall [0] ?_ (by simp) (by simp) (by simp [AV.plain]) ?_
  · simp [ren]
  rintro r bs' M5 ⟨⟨o5, A5, c5, rfl, hN5⟩, rfl⟩
  refine ⟨by simp [AV.plain], ?_⟩
  have P5 := hz.mono hN5.le
  have D5 := P5.st.d
  have hE := all_ens hz.st.d.inn hN5
  have hac := all_conts z.sta
  rw [z.sta_c] at hac
  have hcs := costs_of hzx
  have hcost := l8Costs_ret A5 c5 (z.sta.tr ++ z.sta.kp) M5 hE (fun x hx => (List.mem_append.1 hx).elim (hcs.1 x) (hcs.2 x)) (by show (z.p1.map (·.1) ++ z.p2.map (·.1)).length ≤ _; rw [List.length_append, List.length_map, List.length_map]; omega)
  rw [← hac] at hcost
  have hwl : IntKind.i64.wrap ((z.p1.length : Int) + (z.p2.length : Int)) = (z.p1.length : Int) + z.p2.length := wr_id (by omega) (by omega)
  (first | (refine ⟨⟨_, rfl⟩, _, PH.Le.refl _, bot_le _, ?_⟩; conv => whnf) | conv => whnf)
  repeat' (first | (refine ⟨⟨[], rfl⟩, _, PH.Le.refl _, bot_le _, ?_⟩; conv => whnf) | (refine ⟨⟨_, rfl⟩, _, PH.Le.refl _, bot_le _, ?_⟩; conv => whnf) | (refine caseB_true ?_; conv => whnf) | (refine caseB_false ?_; conv => whnf) | ((with_reducible refine caseB_dec (fun h => ?_) (fun h => ?_)) <;> conv => whnf) | ((with_reducible refine caseB_ndec (fun h => ?_) (fun h => ?_)) <;> conv => whnf) | ((with_reducible refine caseB_not (fun h => ?_) (fun h => ?_)) <;> conv => whnf) | (refine Ret.go (hcost) ?_; conv => whnf) | (refine draw_ruleJ (none) (.light 0 <| .light 3 <| .light 4 <| .light 5 <| .light 6 <| .alt 1 false (.alt 2 false (.alt 7 false (.light 8 <| .light 9 <| .alt 10 true (.done) .nil) .nil) .nil) .nil) (by decide +kernel) (bot_le _) ?_; conv => whnf) | (refine draw_ruleJ (none) (.light 0 <| .light 3 <| .light 4 <| .light 5 <| .light 6 <| .alt 1 false (.alt 2 false (.light 7 <| .light 8 <| .light 9 <| .light 10 <| .light 11 <| .light 12 <| .light 13 <| .light 14 <| .light 15 <| .light 16 <| .light 17 <| .light 18 <| .light 19 <| .light 20 <| .light 21 <| .done) .nil) .nil) (by decide +kernel) (bot_le _) ?_; conv => whnf) | (refine draw_ruleJ (none) (.light 0 <| .light 1 <| .light 2 <| .light 3 <| .light 4 <| .light 5 <| .alt 6 false (.light 7 <| .done) .nil) (by decide +kernel) (bot_le _) ?_; conv => whnf) | (refine draw_ruleJ (none) (.light 0 <| .light 1 <| .light 2 <| .light 3 <| .light 4 <| .light 5 <| .alt 6 false (.light 7 <| .done) .nil) (by decide +kernel) (bot_le _) ?_; conv => whnf) | (with_reducible refine @And.intro (guardVC _ _ _ _ _) _ ?_ ?_) <;> conv => whnf | (refine caseB_intro (fun h => ?_) (fun h => ?_) <;> (try simp only [Bool.not_eq_true', Bool.not_eq_false', decide_eq_true_eq, decide_eq_false_iff_not] at h) <;> conv => whnf))
  · have hfull : full s.b (z.p1.map (·.1.c)) (z.p2.map (·.1.c)) := .inl (by rw [← hzb]; exact h)
    refine Ret.go (l8Victim_ret z.A1 z.c1 z.p1 e.c.key M5 (D5.t.row.sl EP.len) hz1) ?_
    (first | (refine ⟨⟨_, rfl⟩, _, PH.Le.refl _, PH.Le.refl _, ?_⟩; conv => whnf) | (refine ⟨⟨_, rfl⟩, _, PH.Le.refl _, bot_le _, ?_⟩; conv => whnf) | conv => whnf)
    cases hq : lastE (canGo e.c.key) (z.p1.map (·.1.c)) with
    | some q =>
      obtain ⟨hqi, hqe, _⟩ := lastE_some hq
      have hle : lastK e.c.key (z.p1.map (·.1.c)) = q.2.key := by unfold lastK; rw [hq]
      have hne : seq q.2.key ByteArray.empty = false := seq_ne.2 (hzk _ (List.mem_append_left _ (by rw [← hqe]; exact List.getElem_mem hqi)))
      obtain ⟨x1, x2, x3⟩ := erase_left hqi hza
      rw [hqe] at x1 x2
      rw [hle]
      conv => whnf
      rw [show seq q.2.key { data := #[] } = false from hne]
      refine caseB_false ?_
      conv => whnf
      rw [show seq q.2.key { data := #[] } = false from hne]
      refine caseB_false ?_
      conv => whnf
      refine XCall.lift (l8Drop_ret z q.2.key M5 D5 hz1 hz2) [0] ?_ (by simp) (by simp) (by simp [AV.plain]) ?_
      · simp [ren]
      rintro r bs' M6 ⟨rfl, z', rfl, ez, hD6, l6, hf6⟩
      refine ⟨by simp [AV.plain], ?_⟩
      conv => whnf
      have P6 := P5.swap hD6 l6 hf6
      have ez : z'.c = ⟨z.b, z.g, (z.p1.map (·.1.c)).eraseIdx q.1, z.p2.map (·.1.c)⟩ := by rw [ez, ← x1]; unfold dropS; rw [show z.c.kp = z.p2.map (·.1.c) from rfl, x2]; rfl
      have ezt : z'.p1.map (·.1.c) = (z.p1.map (·.1.c)).eraseIdx q.1 := congrArg Sc.tr ez
      have ezk : z'.p2.map (·.1.c) = z.p2.map (·.1.c) := congrArg Sc.kp ez
      have n1 : z'.p1.length = z.p1.length - 1 := by
        have := congrArg List.length ezt
        rw [List.length_map, List.length_eraseIdx_of_lt hqi, List.length_map] at this
        exact this
      have n2 : z'.p2.length = z.p2.length := by simpa using congrArg List.length ezk
      have hqi' : q.1 < z.p1.length := by rw [List.length_map] at hqi; exact hqi
      intro g6 hg6
      conv => whnf
      have l7 := PH.Le.set (.cells ([q.2.key].flatMap stC).toArray 9 (0, 0)) hg6
      have P7 := P6.mono l7
      have S7 := sl_full st_len M6 g6 [q.2.key] 9 (0, 0)
      refine app_sl (te := ti9) (f := stC) (xs := ks) (ys := [q.2.key]) (o := o) S7 P7.w st_len stC_one rfl (st_fits _ _ (by show _ + 1 ≤ _; omega)) (by show _ + 1 ≤ _; omega) fun o8 A8 c8 M8 hO8 hK8 hF8 => ?_
      conv => whnf
      have P8 := P7.more hO8 hK8 hF8
      refine ⟨(z', o8, A8, c8, ks ++ [q.2.key]), ⟨by simp [slots, leT], ⟨[], rfl⟩, (by show 1 ≤ 2; omega), rfl, rfl⟩, ⟨P8, (congrArg Sc.bud ez).trans hzb, (congrArg Sc.gd ez).trans hzg, ?_, ?_, ?_, ?_, ?_⟩, by show z'.p1.length + z'.p2.length < z.p1.length + z.p2.length; omega⟩
      · intro x hx
        have hx : x ∈ z'.p1.map (·.1.c) ++ z'.p2.map (·.1.c) := hx
        rw [ezt, ezk] at hx
        exact hzx x ((List.Sublist.append (List.eraseIdx_sublist _ _) (List.Sublist.refl _) : List.Sublist _ z.c.all).subset hx)
      · show (ks ++ [q.2.key]).length + z'.p1.length + z'.p2.length ≤ _
        rw [List.length_append]
        show ks.length + 1 + _ + _ ≤ _
        omega
      · refine Eq.trans ?_ ((evict_left (s := z.ev ks) hfull (z.p1.length + z.p2.length) hq).symm.trans hze)
        show evict _ _ (z'.p1.length + z'.p2.length + 1) _ = _
        have : z'.p1.length + z'.p2.length + 1 = z.p1.length + z.p2.length := by omega
        rw [this]
        show evict _ _ _ ⟨z'.p1.map (·.1.c), z'.p2.map (·.1.c), ks ++ [q.2.key]⟩ = _
        rw [ezt, ezk]
      · show AptG En.key (z'.p1.map (·.1.c) ++ z'.p2.map (·.1.c))
        rw [ezt, ezk]; exact x3
      · show keysOk (z'.p1.map (·.1.c) ++ z'.p2.map (·.1.c))
        rw [ezt, ezk]; exact hzk.sub (List.Sublist.append (List.eraseIdx_sublist _ _) (List.Sublist.refl _))
    | none =>
      have hle : lastK e.c.key (z.p1.map (·.1.c)) = ByteArray.empty := by unfold lastK; rw [hq]
      rw [hle]
      conv => whnf
      rw [show seq ByteArray.empty { data := #[] } = true from seq_self _]
      refine caseB_true ?_
      conv => whnf
      repeat' (first | (refine ⟨⟨[], rfl⟩, _, PH.Le.refl _, bot_le _, ?_⟩; conv => whnf) | (refine ⟨⟨_, rfl⟩, _, PH.Le.refl _, bot_le _, ?_⟩; conv => whnf) | (refine caseB_true ?_; conv => whnf) | (refine caseB_false ?_; conv => whnf) | ((with_reducible refine caseB_dec (fun h => ?_) (fun h => ?_)) <;> conv => whnf) | ((with_reducible refine caseB_ndec (fun h => ?_) (fun h => ?_)) <;> conv => whnf) | ((with_reducible refine caseB_not (fun h => ?_) (fun h => ?_)) <;> conv => whnf) | (refine draw_ruleJ (none) (.light 0 <| .light 3 <| .light 4 <| .light 5 <| .light 6 <| .alt 1 false (.alt 2 false (.alt 7 false (.light 8 <| .light 9 <| .alt 10 true (.done) .nil) .nil) .nil) .nil) (by decide +kernel) (bot_le _) ?_; conv => whnf) | (refine draw_ruleJ (none) (.light 0 <| .light 3 <| .light 4 <| .light 5 <| .light 6 <| .alt 1 false (.alt 2 false (.light 7 <| .light 8 <| .light 9 <| .light 10 <| .light 11 <| .light 12 <| .light 13 <| .light 14 <| .light 15 <| .light 16 <| .light 17 <| .light 18 <| .light 19 <| .light 20 <| .light 21 <| .done) .nil) .nil) (by decide +kernel) (bot_le _) ?_; conv => whnf) | (refine draw_ruleJ (none) (.light 0 <| .light 1 <| .light 2 <| .light 3 <| .light 4 <| .light 5 <| .alt 6 false (.light 7 <| .done) .nil) (by decide +kernel) (bot_le _) ?_; conv => whnf) | (refine draw_ruleJ (none) (.light 0 <| .light 1 <| .light 2 <| .light 3 <| .light 4 <| .light 5 <| .alt 6 false (.light 7 <| .done) .nil) (by decide +kernel) (bot_le _) ?_; conv => whnf) | (with_reducible refine @And.intro (guardVC _ _ _ _ _) _ ?_ ?_) <;> conv => whnf | (refine caseB_intro (fun h => ?_) (fun h => ?_) <;> (try simp only [Bool.not_eq_true', Bool.not_eq_false', decide_eq_true_eq, decide_eq_false_iff_not] at h) <;> conv => whnf))
      refine Ret.go (l8Victim_ret z.A2 z.c2 z.p2 e.c.key M5 (D5.k.row.sl EP.len) hz2) ?_
      (first | (refine ⟨⟨_, rfl⟩, _, PH.Le.refl _, bot_le _, ?_⟩; conv => whnf) | conv => whnf)
      cases hq2 : lastE (canGo e.c.key) (z.p2.map (·.1.c)) with
      | none =>
        have hle : lastK e.c.key (z.p2.map (·.1.c)) = ByteArray.empty := by unfold lastK; rw [hq2]
        rw [hle]
        conv => whnf
        rw [show seq ByteArray.empty { data := #[] } = true from seq_self _]
        refine caseB_true ?_
        conv => whnf
        refine ⟨M5, PH.Le.refl _, .inl ⟨?_, rfl, P5.st.le, z, rfl⟩⟩
        exact hze.symm.trans (evict_out (s := z.ev ks) hfull (z.p1.length + z.p2.length) hq hq2)
      | some q =>
        obtain ⟨hqi, hqe, _⟩ := lastE_some hq2
        have hle : lastK e.c.key (z.p2.map (·.1.c)) = q.2.key := by unfold lastK; rw [hq2]
        have hne : seq q.2.key ByteArray.empty = false := seq_ne.2 (hzk _ (List.mem_append_right _ (by rw [← hqe]; exact List.getElem_mem hqi)))
        obtain ⟨x1, x2, x3⟩ := erase_right hqi hza
        rw [hqe] at x1 x2
        rw [hle]
        conv => whnf
        rw [show seq q.2.key { data := #[] } = false from hne]
        refine caseB_false ?_
        conv => whnf
        refine XCall.lift (l8Drop_ret z q.2.key M5 D5 hz1 hz2) [0] ?_ (by simp) (by simp) (by simp [AV.plain]) ?_
        · simp [ren]
        rintro r bs' M6 ⟨rfl, z', rfl, ez, hD6, l6, hf6⟩
        refine ⟨by simp [AV.plain], ?_⟩
        conv => whnf
        have P6 := P5.swap hD6 l6 hf6
        have ez : z'.c = ⟨z.b, z.g, z.p1.map (·.1.c), (z.p2.map (·.1.c)).eraseIdx q.1⟩ := by rw [ez, ← x2]; unfold dropS; rw [show z.c.tr = z.p1.map (·.1.c) from rfl, x1]; rfl
        have ezt : z'.p1.map (·.1.c) = z.p1.map (·.1.c) := congrArg Sc.tr ez
        have ezk : z'.p2.map (·.1.c) = (z.p2.map (·.1.c)).eraseIdx q.1 := congrArg Sc.kp ez
        have n1 : z'.p1.length = z.p1.length := by simpa using congrArg List.length ezt
        have n2 : z'.p2.length = z.p2.length - 1 := by
          have := congrArg List.length ezk
          rw [List.length_map, List.length_eraseIdx_of_lt hqi, List.length_map] at this
          exact this
        have hqi' : q.1 < z.p2.length := by rw [List.length_map] at hqi; exact hqi
        intro g6 hg6
        conv => whnf
        have l7 := PH.Le.set (.cells ([q.2.key].flatMap stC).toArray 9 (0, 0)) hg6
        have P7 := P6.mono l7
        have S7 := sl_full st_len M6 g6 [q.2.key] 9 (0, 0)
        refine app_sl (te := ti9) (f := stC) (xs := ks) (ys := [q.2.key]) (o := o) S7 P7.w st_len stC_one rfl (st_fits _ _ (by show _ + 1 ≤ _; omega)) (by show _ + 1 ≤ _; omega) fun o8 A8 c8 M8 hO8 hK8 hF8 => ?_
        conv => whnf
        have P8 := P7.more hO8 hK8 hF8
        refine ⟨(z', o8, A8, c8, ks ++ [q.2.key]), ⟨by simp [slots, leT], ⟨[], rfl⟩, (by show 1 ≤ 2; omega), rfl, rfl⟩, ⟨P8, (congrArg Sc.bud ez).trans hzb, (congrArg Sc.gd ez).trans hzg, ?_, ?_, ?_, ?_, ?_⟩, by show z'.p1.length + z'.p2.length < z.p1.length + z.p2.length; omega⟩
        · intro x hx
          have hx : x ∈ z'.p1.map (·.1.c) ++ z'.p2.map (·.1.c) := hx
          rw [ezt, ezk] at hx
          exact hzx x ((List.Sublist.append (List.Sublist.refl _) (List.eraseIdx_sublist _ _) : List.Sublist _ z.c.all).subset hx)
        · show (ks ++ [q.2.key]).length + z'.p1.length + z'.p2.length ≤ _
          rw [List.length_append]
          show ks.length + 1 + _ + _ ≤ _
          omega
        · refine Eq.trans ?_ ((evict_right (s := z.ev ks) hfull (z.p1.length + z.p2.length) hq hq2).symm.trans hze)
          show evict _ _ (z'.p1.length + z'.p2.length + 1) _ = _
          have : z'.p1.length + z'.p2.length + 1 = z.p1.length + z.p2.length := by omega
          rw [this]
          show evict _ _ _ ⟨z'.p1.map (·.1.c), z'.p2.map (·.1.c), ks ++ [q.2.key]⟩ = _
          rw [ezt, ezk]
        · show AptG En.key (z'.p1.map (·.1.c) ++ z'.p2.map (·.1.c))
          rw [ezt, ezk]; exact x3
        · show keysOk (z'.p1.map (·.1.c) ++ z'.p2.map (·.1.c))
          rw [ezt, ezk]; exact hzk.sub (List.Sublist.append (List.Sublist.refl _) (List.eraseIdx_sublist _ _))

  · have hfull : full s.b (z.p1.map (·.1.c)) (z.p2.map (·.1.c)) := .inr (by have h : 40 < IntKind.i64.wrap ((z.p1.length : Int) + (z.p2.length : Int)) := h; rw [hwl] at h; rw [List.length_map, List.length_map]; exact h)
    refine Ret.go (l8Victim_ret z.A1 z.c1 z.p1 e.c.key M5 (D5.t.row.sl EP.len) hz1) ?_
    (first | (refine ⟨⟨_, rfl⟩, _, PH.Le.refl _, PH.Le.refl _, ?_⟩; conv => whnf) | (refine ⟨⟨_, rfl⟩, _, PH.Le.refl _, bot_le _, ?_⟩; conv => whnf) | conv => whnf)
    cases hq : lastE (canGo e.c.key) (z.p1.map (·.1.c)) with
    | some q =>
      obtain ⟨hqi, hqe, _⟩ := lastE_some hq
      have hle : lastK e.c.key (z.p1.map (·.1.c)) = q.2.key := by unfold lastK; rw [hq]
      have hne : seq q.2.key ByteArray.empty = false := seq_ne.2 (hzk _ (List.mem_append_left _ (by rw [← hqe]; exact List.getElem_mem hqi)))
      obtain ⟨x1, x2, x3⟩ := erase_left hqi hza
      rw [hqe] at x1 x2
      rw [hle]
      conv => whnf
      rw [show seq q.2.key { data := #[] } = false from hne]
      refine caseB_false ?_
      conv => whnf
      rw [show seq q.2.key { data := #[] } = false from hne]
      refine caseB_false ?_
      conv => whnf
      refine XCall.lift (l8Drop_ret z q.2.key M5 D5 hz1 hz2) [0] ?_ (by simp) (by simp) (by simp [AV.plain]) ?_
      · simp [ren]
      rintro r bs' M6 ⟨rfl, z', rfl, ez, hD6, l6, hf6⟩
      refine ⟨by simp [AV.plain], ?_⟩
      conv => whnf
      have P6 := P5.swap hD6 l6 hf6
      have ez : z'.c = ⟨z.b, z.g, (z.p1.map (·.1.c)).eraseIdx q.1, z.p2.map (·.1.c)⟩ := by rw [ez, ← x1]; unfold dropS; rw [show z.c.kp = z.p2.map (·.1.c) from rfl, x2]; rfl
      have ezt : z'.p1.map (·.1.c) = (z.p1.map (·.1.c)).eraseIdx q.1 := congrArg Sc.tr ez
      have ezk : z'.p2.map (·.1.c) = z.p2.map (·.1.c) := congrArg Sc.kp ez
      have n1 : z'.p1.length = z.p1.length - 1 := by
        have := congrArg List.length ezt
        rw [List.length_map, List.length_eraseIdx_of_lt hqi, List.length_map] at this
        exact this
      have n2 : z'.p2.length = z.p2.length := by simpa using congrArg List.length ezk
      have hqi' : q.1 < z.p1.length := by rw [List.length_map] at hqi; exact hqi
      intro g6 hg6
      conv => whnf
      have l7 := PH.Le.set (.cells ([q.2.key].flatMap stC).toArray 9 (0, 0)) hg6
      have P7 := P6.mono l7
      have S7 := sl_full st_len M6 g6 [q.2.key] 9 (0, 0)
      refine app_sl (te := ti9) (f := stC) (xs := ks) (ys := [q.2.key]) (o := o) S7 P7.w st_len stC_one rfl (st_fits _ _ (by show _ + 1 ≤ _; omega)) (by show _ + 1 ≤ _; omega) fun o8 A8 c8 M8 hO8 hK8 hF8 => ?_
      conv => whnf
      have P8 := P7.more hO8 hK8 hF8
      refine ⟨(z', o8, A8, c8, ks ++ [q.2.key]), ⟨by simp [slots, leT], ⟨[], rfl⟩, (by show 1 ≤ 2; omega), rfl, rfl⟩, ⟨P8, (congrArg Sc.bud ez).trans hzb, (congrArg Sc.gd ez).trans hzg, ?_, ?_, ?_, ?_, ?_⟩, by show z'.p1.length + z'.p2.length < z.p1.length + z.p2.length; omega⟩
      · intro x hx
        have hx : x ∈ z'.p1.map (·.1.c) ++ z'.p2.map (·.1.c) := hx
        rw [ezt, ezk] at hx
        exact hzx x ((List.Sublist.append (List.eraseIdx_sublist _ _) (List.Sublist.refl _) : List.Sublist _ z.c.all).subset hx)
      · show (ks ++ [q.2.key]).length + z'.p1.length + z'.p2.length ≤ _
        rw [List.length_append]
        show ks.length + 1 + _ + _ ≤ _
        omega
      · refine Eq.trans ?_ ((evict_left (s := z.ev ks) hfull (z.p1.length + z.p2.length) hq).symm.trans hze)
        show evict _ _ (z'.p1.length + z'.p2.length + 1) _ = _
        have : z'.p1.length + z'.p2.length + 1 = z.p1.length + z.p2.length := by omega
        rw [this]
        show evict _ _ _ ⟨z'.p1.map (·.1.c), z'.p2.map (·.1.c), ks ++ [q.2.key]⟩ = _
        rw [ezt, ezk]
      · show AptG En.key (z'.p1.map (·.1.c) ++ z'.p2.map (·.1.c))
        rw [ezt, ezk]; exact x3
      · show keysOk (z'.p1.map (·.1.c) ++ z'.p2.map (·.1.c))
        rw [ezt, ezk]; exact hzk.sub (List.Sublist.append (List.eraseIdx_sublist _ _) (List.Sublist.refl _))
    | none =>
      have hle : lastK e.c.key (z.p1.map (·.1.c)) = ByteArray.empty := by unfold lastK; rw [hq]
      rw [hle]
      conv => whnf
      rw [show seq ByteArray.empty { data := #[] } = true from seq_self _]
      refine caseB_true ?_
      conv => whnf
      repeat' (first | (refine ⟨⟨[], rfl⟩, _, PH.Le.refl _, bot_le _, ?_⟩; conv => whnf) | (refine ⟨⟨_, rfl⟩, _, PH.Le.refl _, bot_le _, ?_⟩; conv => whnf) | (refine caseB_true ?_; conv => whnf) | (refine caseB_false ?_; conv => whnf) | ((with_reducible refine caseB_dec (fun h => ?_) (fun h => ?_)) <;> conv => whnf) | ((with_reducible refine caseB_ndec (fun h => ?_) (fun h => ?_)) <;> conv => whnf) | ((with_reducible refine caseB_not (fun h => ?_) (fun h => ?_)) <;> conv => whnf) | (refine draw_ruleJ (none) (.light 0 <| .light 3 <| .light 4 <| .light 5 <| .light 6 <| .alt 1 false (.alt 2 false (.alt 7 false (.light 8 <| .light 9 <| .alt 10 true (.done) .nil) .nil) .nil) .nil) (by decide +kernel) (bot_le _) ?_; conv => whnf) | (refine draw_ruleJ (none) (.light 0 <| .light 3 <| .light 4 <| .light 5 <| .light 6 <| .alt 1 false (.alt 2 false (.light 7 <| .light 8 <| .light 9 <| .light 10 <| .light 11 <| .light 12 <| .light 13 <| .light 14 <| .light 15 <| .light 16 <| .light 17 <| .light 18 <| .light 19 <| .light 20 <| .light 21 <| .done) .nil) .nil) (by decide +kernel) (bot_le _) ?_; conv => whnf) | (refine draw_ruleJ (none) (.light 0 <| .light 1 <| .light 2 <| .light 3 <| .light 4 <| .light 5 <| .alt 6 false (.light 7 <| .done) .nil) (by decide +kernel) (bot_le _) ?_; conv => whnf) | (refine draw_ruleJ (none) (.light 0 <| .light 1 <| .light 2 <| .light 3 <| .light 4 <| .light 5 <| .alt 6 false (.light 7 <| .done) .nil) (by decide +kernel) (bot_le _) ?_; conv => whnf) | (with_reducible refine @And.intro (guardVC _ _ _ _ _) _ ?_ ?_) <;> conv => whnf | (refine caseB_intro (fun h => ?_) (fun h => ?_) <;> (try simp only [Bool.not_eq_true', Bool.not_eq_false', decide_eq_true_eq, decide_eq_false_iff_not] at h) <;> conv => whnf))
      refine Ret.go (l8Victim_ret z.A2 z.c2 z.p2 e.c.key M5 (D5.k.row.sl EP.len) hz2) ?_
      (first | (refine ⟨⟨_, rfl⟩, _, PH.Le.refl _, bot_le _, ?_⟩; conv => whnf) | conv => whnf)
      cases hq2 : lastE (canGo e.c.key) (z.p2.map (·.1.c)) with
      | none =>
        have hle : lastK e.c.key (z.p2.map (·.1.c)) = ByteArray.empty := by unfold lastK; rw [hq2]
        rw [hle]
        conv => whnf
        rw [show seq ByteArray.empty { data := #[] } = true from seq_self _]
        refine caseB_true ?_
        conv => whnf
        refine ⟨M5, PH.Le.refl _, .inl ⟨?_, rfl, P5.st.le, z, rfl⟩⟩
        exact hze.symm.trans (evict_out (s := z.ev ks) hfull (z.p1.length + z.p2.length) hq hq2)
      | some q =>
        obtain ⟨hqi, hqe, _⟩ := lastE_some hq2
        have hle : lastK e.c.key (z.p2.map (·.1.c)) = q.2.key := by unfold lastK; rw [hq2]
        have hne : seq q.2.key ByteArray.empty = false := seq_ne.2 (hzk _ (List.mem_append_right _ (by rw [← hqe]; exact List.getElem_mem hqi)))
        obtain ⟨x1, x2, x3⟩ := erase_right hqi hza
        rw [hqe] at x1 x2
        rw [hle]
        conv => whnf
        rw [show seq q.2.key { data := #[] } = false from hne]
        refine caseB_false ?_
        conv => whnf
        refine XCall.lift (l8Drop_ret z q.2.key M5 D5 hz1 hz2) [0] ?_ (by simp) (by simp) (by simp [AV.plain]) ?_
        · simp [ren]
        rintro r bs' M6 ⟨rfl, z', rfl, ez, hD6, l6, hf6⟩
        refine ⟨by simp [AV.plain], ?_⟩
        conv => whnf
        have P6 := P5.swap hD6 l6 hf6
        have ez : z'.c = ⟨z.b, z.g, z.p1.map (·.1.c), (z.p2.map (·.1.c)).eraseIdx q.1⟩ := by rw [ez, ← x2]; unfold dropS; rw [show z.c.tr = z.p1.map (·.1.c) from rfl, x1]; rfl
        have ezt : z'.p1.map (·.1.c) = z.p1.map (·.1.c) := congrArg Sc.tr ez
        have ezk : z'.p2.map (·.1.c) = (z.p2.map (·.1.c)).eraseIdx q.1 := congrArg Sc.kp ez
        have n1 : z'.p1.length = z.p1.length := by simpa using congrArg List.length ezt
        have n2 : z'.p2.length = z.p2.length - 1 := by
          have := congrArg List.length ezk
          rw [List.length_map, List.length_eraseIdx_of_lt hqi, List.length_map] at this
          exact this
        have hqi' : q.1 < z.p2.length := by rw [List.length_map] at hqi; exact hqi
        intro g6 hg6
        conv => whnf
        have l7 := PH.Le.set (.cells ([q.2.key].flatMap stC).toArray 9 (0, 0)) hg6
        have P7 := P6.mono l7
        have S7 := sl_full st_len M6 g6 [q.2.key] 9 (0, 0)
        refine app_sl (te := ti9) (f := stC) (xs := ks) (ys := [q.2.key]) (o := o) S7 P7.w st_len stC_one rfl (st_fits _ _ (by show _ + 1 ≤ _; omega)) (by show _ + 1 ≤ _; omega) fun o8 A8 c8 M8 hO8 hK8 hF8 => ?_
        conv => whnf
        have P8 := P7.more hO8 hK8 hF8
        refine ⟨(z', o8, A8, c8, ks ++ [q.2.key]), ⟨by simp [slots, leT], ⟨[], rfl⟩, (by show 1 ≤ 2; omega), rfl, rfl⟩, ⟨P8, (congrArg Sc.bud ez).trans hzb, (congrArg Sc.gd ez).trans hzg, ?_, ?_, ?_, ?_, ?_⟩, by show z'.p1.length + z'.p2.length < z.p1.length + z.p2.length; omega⟩
        · intro x hx
          have hx : x ∈ z'.p1.map (·.1.c) ++ z'.p2.map (·.1.c) := hx
          rw [ezt, ezk] at hx
          exact hzx x ((List.Sublist.append (List.Sublist.refl _) (List.eraseIdx_sublist _ _) : List.Sublist _ z.c.all).subset hx)
        · show (ks ++ [q.2.key]).length + z'.p1.length + z'.p2.length ≤ _
          rw [List.length_append]
          show ks.length + 1 + _ + _ ≤ _
          omega
        · refine Eq.trans ?_ ((evict_right (s := z.ev ks) hfull (z.p1.length + z.p2.length) hq hq2).symm.trans hze)
          show evict _ _ (z'.p1.length + z'.p2.length + 1) _ = _
          have : z'.p1.length + z'.p2.length + 1 = z.p1.length + z.p2.length := by omega
          rw [this]
          show evict _ _ _ ⟨z'.p1.map (·.1.c), z'.p2.map (·.1.c), ks ++ [q.2.key]⟩ = _
          rw [ezt, ezk]
        · show AptG En.key (z'.p1.map (·.1.c) ++ z'.p2.map (·.1.c))
          rw [ezt, ezk]; exact x3
        · show keysOk (z'.p1.map (·.1.c) ++ z'.p2.map (·.1.c))
          rw [ezt, ezk]; exact hzk.sub (List.Sublist.append (List.Sublist.refl _) (List.eraseIdx_sublist _ _))

  · have hfull : ¬ full s.b (z.p1.map (·.1.c)) (z.p2.map (·.1.c)) := by
      rename_i h0
      have h0 : ¬ z.b < (eCosts z.c.all : Int) := h0
      have h : ¬ 40 < IntKind.i64.wrap ((z.p1.length : Int) + (z.p2.length : Int)) := h
      rw [hwl] at h
      rintro (h2 | h2)
      · rw [← hzb] at h2; exact h0 h2
      · rw [List.length_map, List.length_map] at h2; exact h h2
    rw [evict_no hfull] at hze
    refine ⟨M5, PH.Le.refl _, .inr ⟨_, z, o, A, c, hze.symm, rfl, rfl, ?_, P5⟩⟩
    unfold So.c evS
    rw [hzb, hzg]
end Go.Proofs.YtgjaiabenjafeaaGreatDoor
