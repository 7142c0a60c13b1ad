/-
  DRAWS of bent stores and of what the laws ask of them. DRAWS of what the laws of stores ask.
-/
import Derived.Test.YtgjaiabenjafeaaGreatDoorEc
namespace Go.Proofs.YtgjaiabenjafeaaGreatDoor
set_option maxRecDepth 100000
set_option linter.unusedSimpArgs false
set_option linter.unusedVariables false
open Go.Xe
/-- A drawn store: its rows are its own, what its entries hold lies beside them. -/
structure Dr (R N : PH) (x : StA) (o1 o2 : Option Nat) : Prop where
  t : Ow N o1 x.tA x.tc 13 EnA.cs x.tr
  k : Ow N o2 x.kA x.kc 13 EnA.cs x.kp
  i : ∀ y ∈ x.tr ++ x.kp, y.inn (but N [o1, o2])
  f : Fr R [o1, o2]
  a : Apart o1 o2
  le : R.Le N
theorem ow_map {M : PH} {o : Option Nat} {A : Option Addr} {c : Nat} {ps : List EP} (h : Ow M o A c 13 EP.cs ps) : Ow M o A c 13 EnA.cs (ps.map (·.1)) := by
  cases o with
  | none => obtain ⟨h1, h2⟩ := h; exact ⟨by rw [h1]; rfl, h2⟩
  | some g =>
    obtain ⟨off, cells, ty, e, hg, h1, h2, hx⟩ := h
    refine ⟨off, cells, ty, e, hg, h1, by rw [List.length_map]; exact h2, fun i x hi j v hv => ?_⟩
    rw [List.getElem?_map] at hi
    obtain ⟨p, hp, rfl⟩ := Option.map_eq_some_iff.1 hi
    exact hx i p hp j v hv
theorem Dr.of {R N : PH} {s : So} (h : NewS R N s) : Dr R N s.sta s.o1 s.o2 := by
  have d := h.d
  refine ⟨ow_map d.t.row, ow_map d.k.row, fun y hy => ?_, fun b hb => ?_, d.ap _ List.mem_cons_self _ List.mem_cons_self, h.le⟩
  · have hy : y ∈ s.p1.map (·.1) ++ s.p2.map (·.1) := hy
    rcases List.mem_append.1 hy with hy | hy
    · obtain ⟨p, hp, rfl⟩ := List.mem_map.1 hy
      obtain ⟨i, hi⟩ := List.mem_iff_getElem?.1 hp
      refine ((d.t.ed i p hi).keepsL (but_keeps N [s.o1, s.o2]) fun a ha b hb => ?_).inn
      simp only [List.mem_cons, List.not_mem_nil, or_false] at hb
      rcases hb with rfl | rfl
      · exact (sep_o d.t.sep hi a ha).symm
      · exact d.ap a (List.mem_cons_of_mem _ (List.mem_flatMap.2 ⟨p, hp, ha⟩)) _ List.mem_cons_self
    · obtain ⟨p, hp, rfl⟩ := List.mem_map.1 hy
      obtain ⟨i, hi⟩ := List.mem_iff_getElem?.1 hp
      refine ((d.k.ed i p hi).keepsL (but_keeps N [s.o1, s.o2]) fun a ha b hb => ?_).inn
      simp only [List.mem_cons, List.not_mem_nil, or_false] at hb
      rcases hb with rfl | rfl
      · exact (d.ap _ List.mem_cons_self a (List.mem_cons_of_mem _ (List.mem_flatMap.2 ⟨p, hp, ha⟩))).symm
      · exact (sep_o d.k.sep hi a ha).symm
  · simp only [List.mem_cons, List.not_mem_nil, or_false] at hb
    rcases hb with rfl | rfl
    · exact h.fr _ (List.mem_append_left _ List.mem_cons_self)
    · exact h.fr _ (List.mem_append_right _ List.mem_cons_self)
theorem but_mono {N N' : PH} {L : List (Option Nat)} (l : N.Le N') : (but N L).Le (but N' L) := fun k o hk => by
  unfold but at hk ⊢
  split at hk
  · cases hk
  · rename_i h; rw [if_neg h]; exact l k o hk
section
variable {R N N' : PH} {x : StA} {o1 o2 : Option Nat}
theorem Dr.mono (h : Dr R N x o1 o2) (l : N.Le N') : Dr R N' x o1 o2 := ⟨h.t.mono l, h.k.mono l, fun y hy => (h.i y hy).mono (but_mono l), h.f, h.a, h.le.trans l⟩
theorem Dr.inn (h : Dr R N x o1 o2) : x.inn N :=
  ⟨⟨h.t.sl EnA.len, fun y hy => (h.i y (List.mem_append_left _ hy)).mono (but_le _ _)⟩, ⟨h.k.sl EnA.len, fun y hy => (h.i y (List.mem_append_right _ hy)).mono (but_le _ _)⟩, h.t.le, h.k.le⟩
theorem Dr.kn (h : Dr R N x o1 o2) : Kn N [o1, o2] := fun b hb g e => by
  simp only [List.mem_cons, List.not_mem_nil, or_false] at hb
  rcases hb with rfl | rfl
  · exact h.t.known g e
  · exact h.k.known g e
theorem Dr.nums (h : Dr R N x o1 o2) (b g : Int) : Dr R N ⟨b, g, x.tr, x.kp, x.tA, x.tc, x.kA, x.kc⟩ o1 o2 := ⟨h.t, h.k, h.i, h.f, h.a, h.le⟩
theorem but_step {o : Option Nat} {L L' : List (Option Nat)} (hK : Keeps o N N') (ho : o ∈ L) (hL : ∀ k, some k ∈ L' → some k ∈ L ∨ N k = none) : (but N L).Le (but N' L') := fun k ob hk => by
  unfold but at hk ⊢
  split at hk
  · cases hk
  · rename_i h
    rw [if_neg]
    · exact hK k ob hk fun e => h (e ▸ ho)
    · intro hm
      rcases hL k hm with h1 | h1
      · exact h h1
      · rw [h1] at hk; cases hk
theorem Dr.appT (h : Dr R N x o1 o2) {y : EnA} {o' : Option Nat} {A' : Option Addr} {c' : Nat} (hy : y.inn (but N [o1, o2])) (hN : New R N' o' A' c' 13 EnA.cs (x.tr ++ [y])) (hK : Keeps o1 N N') (hF : o' = o1 ∨ ∃ g, o' = some g ∧ N g = none) : Dr R N' ⟨x.b, x.g, x.tr ++ [y], x.kp, A', c', x.kA, x.kc⟩ o' o2 := by
  have lB : (but N [o1, o2]).Le (but N' [o', o2]) := but_step hK (by simp) fun k hk => by
    simp only [List.mem_cons, List.not_mem_nil, or_false] at hk
    rcases hk with hk | hk
    · rcases hF with e | ⟨g, e, hg⟩
      · exact .inl (by rw [hk, e]; simp)
      · rw [e] at hk; cases hk; exact .inr hg
    · exact .inl (by rw [hk]; simp)
  refine ⟨hN.ow, h.k.keeps hK (fun g e e' => h.a g e' e), fun z hz => ?_, fun b hb => ?_, ?_, hN.le⟩
  · have hz : z ∈ (x.tr ++ [y]) ++ x.kp := hz
    rcases List.mem_append.1 hz with hz | hz
    · rcases List.mem_append.1 hz with hz | hz
      · exact (h.i z (List.mem_append_left _ hz)).mono lB
      · have : z = y := by simpa using hz
        subst this; exact hy.mono lB
    · exact (h.i z (List.mem_append_right _ hz)).mono lB
  · simp only [List.mem_cons, List.not_mem_nil, or_false] at hb
    rcases hb with rfl | rfl
    · exact hN.fr
    · exact h.f _ (by simp)
  · rcases hF with rfl | ⟨g, rfl, hg⟩
    · exact h.a
    · intro g' e e'
      cases e
      obtain ⟨ob, ho⟩ := h.k.known _ e'
      rw [hg] at ho; cases ho
theorem Dr.appK (h : Dr R N x o1 o2) {y : EnA} {o' : Option Nat} {A' : Option Addr} {c' : Nat} (hy : y.inn (but N [o1, o2])) (hN : New R N' o' A' c' 13 EnA.cs (x.kp ++ [y])) (hK : Keeps o2 N N') (hF : o' = o2 ∨ ∃ g, o' = some g ∧ N g = none) : Dr R N' ⟨x.b, x.g, x.tr, x.kp ++ [y], x.tA, x.tc, A', c'⟩ o1 o' := by
  have lB : (but N [o1, o2]).Le (but N' [o1, o']) := but_step hK (by simp) fun k hk => by
    simp only [List.mem_cons, List.not_mem_nil, or_false] at hk
    rcases hk with hk | hk
    · exact .inl (by rw [hk]; simp)
    · rcases hF with e | ⟨g, e, hg⟩
      · exact .inl (by rw [hk, e]; simp)
      · rw [e] at hk; cases hk; exact .inr hg
  refine ⟨h.t.keeps hK (fun g e e' => h.a g e e'), hN.ow, fun z hz => ?_, fun b hb => ?_, ?_, hN.le⟩
  · have hz : z ∈ x.tr ++ (x.kp ++ [y]) := hz
    rcases List.mem_append.1 hz with hz | hz
    · exact (h.i z (List.mem_append_left _ hz)).mono lB
    · rcases List.mem_append.1 hz with hz | hz
      · exact (h.i z (List.mem_append_right _ hz)).mono lB
      · have : z = y := by simpa using hz
        subst this; exact hy.mono lB
  · simp only [List.mem_cons, List.not_mem_nil, or_false] at hb
    rcases hb with rfl | rfl
    · exact h.f _ (by simp)
    · exact hN.fr
  · rcases hF with rfl | ⟨g, rfl, hg⟩
    · exact h.a
    · intro g' e e'
      cases e'
      obtain ⟨ob, ho⟩ := h.t.known _ e
      rw [hg] at ho; cases ho
end
section
variable {B : Int} {g g' : Nat} {M0 M : PH} {A : Option Addr} {c : Nat} {bs : List Int}
/-- An append of one row onto a slice of one's own, beside the source: what lies where. -/
theorem appendR {α : Type} {f : α → List Value} {te : TI} {e : TypeId} {C D : Option Addr} {d : Nat} {o : Option Nat} {xs ys : List α} {K : AV → PH → Prop} (S : Sx B M0 M g A c bs) (hs : Sl (rm M g) D te.size f ys) (ho : New M0 (rm M g) o C d te.size f xs) (hf : ∀ x, (f x).length = te.size) (h1 : ∀ x, ∀ v ∈ f x, v.oneCell' = true)
    (hz : te.zero.cells.size = te.size) (hb : (xs.length + ys.length) * te.bytes ≤ 140737488355328) (h63 : xs.length + ys.length ≤ 9223372036854775807)
    (hk : ∀ o' C' d' M', New M0 (rm M' g) o' C' d' te.size f (xs ++ ys) → Sx B M0 M' g A c bs → Keeps o (rm M g) (rm M' g) → (o' = o ∨ ∃ k, o' = some k ∧ rm M g k = none) → K (.v (.slice C' (xs ++ ys).length d')) M') :
    ∃ news : List Value, news.length = ys.length * te.size ∧ (ys.length = 0 ∨ M.cells D 0 news) ∧ appVC te e C xs.length d ys.length news M K := by
  refine app_sl (hs.mono (rm_le M g)) (ho.ow.mono (rm_le M g)) hf h1 hz hb h63 fun o' C' d' M' hO hK hF => ?_
  have hne : ∀ k, o = some k → k ≠ g := fun k e => by
    rintro rfl
    obtain ⟨ob, hob⟩ := ho.ow.known _ e
    rw [rm_none] at hob; cases hob
  obtain ⟨ob, hob⟩ := S.has
  have hg' : M' g = M g := by rw [hob]; exact hK g ob hob (fun e => hne g e rfl)
  have hne' : ∀ k, o' = some k → k ≠ g ∧ M0 k = none := fun k e => by
    rcases hF with h2 | ⟨k', h2, h3⟩
    · rw [h2] at e; exact ⟨hne k e, ho.fr k e⟩
    · rw [h2] at e; cases e
      refine ⟨fun e2 => ?_, none_of_le (S.le.trans (rm_le M g)) h3⟩
      rw [e2, hob] at h3; cases h3
  have l0 : M0.Le (rm M' g) := fun k ob2 hk2 => by
    have h3 := S.le k ob2 hk2
    have hkg : k ≠ g := by
      rintro rfl
      rw [rm_none] at h3; cases h3
    rw [rm_other hkg] at h3 ⊢
    exact hK k ob2 h3 (fun e2 => by have := ho.fr k e2; rw [hk2] at this; cases this)
  obtain ⟨k, a1, a2, a3⟩ := S.at_
  exact hk o' C' d' M' ⟨hO.keep fun k ob2 e h3 => by rw [rm_other (hne' k e).1]; exact h3, l0, fun k e => (hne' k e).2⟩ ⟨⟨k, by rw [hg']; exact a1, a2, a3⟩, l0, S.by_⟩ (fun j ob hj hne => by
    have hjg : j ≠ g := by
      rintro rfl
      rw [rm_none] at hj; cases hj
    rw [rm_other hjg] at hj ⊢
    exact hK j ob hj hne) (by
      rcases hF with h2 | ⟨k', h2, h3⟩
      · exact .inl h2
      · refine .inr ⟨k', h2, ?_⟩
        unfold rm
        split
        · rfl
        · exact h3)
/-- How large a drawn store is. -/
structure Dz (x : StA) (n m : Nat) : Prop where
  n : x.tr.length + x.kp.length ≤ n
  c : x.c.cost ≤ m
  y : ∀ e ∈ x.c.all, bytesOk e.body
set_option maxHeartbeats 8000000 in
theorem l8Bent_ret (S : Sx B M0 M g A c bs) (hB : B ≤ 4294910000) :
    ACall env 98 [P0 g] M fun r M' => ∃ x o1 o2, r = x.val ∧ Dr (rm M g) (rm M' g) x o1 o2 ∧ Dz x 13 60000 ∧ Sx (B + 8000) M0 M' g A c bs ∧ (rm M g).Le (rm M' g) := by
  refine xcall_of_vc Tryz.func98 rfl _ Tryz.ntmps98 _ rfl (fun _ _ => Tryz.call98 _ _) rfl (fun w0 ρ0 => ?_)
  conv => whnf
  refine ACall.step (l8Draw_ret S.now (by omega)) fun r M1 hh => ?_
  obtain ⟨s, hr, hN, hd, S1, l1⟩ := hh
  have hcost := hd.cost (by omega)
  have hn : s.p1.length + s.p2.length ≤ 12 := by
    have h1 := hd.n
    have h2 : s.c.all.length = s.p1.length + s.p2.length := by
      show (s.p1.map (·.1.c) ++ s.p2.map (·.1.c)).length = _
      rw [List.length_append, List.length_map, List.length_map]
    omega
  have D1 := Dr.of hN
  have z2 : Dz s.sta 12 14412 := ⟨by show (s.p1.map (·.1)).length + (s.p2.map (·.1)).length ≤ 12; rw [List.length_map, List.length_map]; exact hn, by rw [s.sta_c]; exact hcost, by rw [s.sta_c]; exact hd.y⟩
  rw [← s.sta_val] at hr
  clear hN hd hcost hn
  generalize s.sta = x0 at *
  generalize s.o1 = o1 at *
  generalize s.o2 = o2 at *
  subst hr
  clear s
  obtain ⟨zn, zc, zy⟩ := z2
  have zc2 : costL En.cost (conts x0.tr) + costL En.cost (conts x0.kp) ≤ 14412 := zc
  conv => whnf
  refine nextD 16 S1 (by omega) fun x M2 _ S2 l2 => ?_
  clear S1
  have D2 := D1.mono l2
  have L2 := l1.trans l2
  conv => whnf
  refine caseB_dec (fun hb => ?_) (fun hb => ?_)
  · conv => whnf
    intro g3 hg3
    obtain ⟨M3, hM, S3, l3, s3⟩ := buildF (cs := [I (-1), I 1000001, I 300]) (t := 2) [-1, 1000001, 300] rfl S2 hg3
    rw [← hM]; clear hM
    conv => whnf
    refine pickD [-1, 1000001, 300] rfl S3 s3 (by simp) (by omega) fun z M4 _ S4 l4 => ?_
    conv => whnf
    exact ⟨_, PH.Le.refl _, ⟨z, x0.g, x0.tr, x0.kp, x0.tA, x0.tc, x0.kA, x0.kc⟩, o1, o2, rfl, (D2.mono (l3.trans l4)).nums z x0.g, ⟨by show x0.tr.length + x0.kp.length ≤ 13; omega, by show x0.c.cost ≤ 60000; omega, zy⟩, (S.back S4).below (by omega), L2.trans (l3.trans l4)⟩
  conv => whnf
  refine caseB_dec (fun hb => ?_) (fun hb => ?_)
  · conv => whnf
    intro g3 hg3
    obtain ⟨M3, hM, S3, l3, s3⟩ := buildF (cs := [I (-1), I (IntKind.i64.wrap (x0.b + 1)), I 100]) (t := 2) [-1, IntKind.i64.wrap (x0.b + 1), 100] rfl S2 hg3
    rw [← hM]; clear hM
    conv => whnf
    refine pickD [-1, IntKind.i64.wrap (x0.b + 1), 100] rfl S3 s3 (by simp) (by omega) fun z M4 _ S4 l4 => ?_
    conv => whnf
    exact ⟨_, PH.Le.refl _, ⟨x0.b, z, x0.tr, x0.kp, x0.tA, x0.tc, x0.kA, x0.kc⟩, o1, o2, rfl, (D2.mono (l3.trans l4)).nums x0.b z, ⟨by show x0.tr.length + x0.kp.length ≤ 13; omega, by show x0.c.cost ≤ 60000; omega, zy⟩, (S.back S4).below (by omega), L2.trans (l3.trans l4)⟩
  conv => whnf
  refine caseB_dec (fun hb => ?_) (fun hb => ?_)
  · conv => whnf
    repeat' (first | (refine ⟨⟨[], rfl⟩, _, PH.Le.refl _, bot_le _, ?_⟩; conv => whnf) | (refine ⟨⟨_, rfl⟩, _, PH.Le.refl _, bot_le _, ?_⟩; conv => whnf) | (refine caseB_true ?_; conv => whnf) | (refine caseB_false ?_; conv => whnf) | ((with_reducible refine caseB_dec (fun h => ?_) (fun h => ?_)) <;> conv => whnf) | ((with_reducible refine caseB_ndec (fun h => ?_) (fun h => ?_)) <;> conv => whnf) | ((with_reducible refine caseB_not (fun h => ?_) (fun h => ?_)) <;> conv => whnf) | (refine draw_ruleJ (none) (.light 0 <| .light 1 <| .light 2 <| .alt 3 false (.alt 4 false (.alt 5 false (.light 6 <| .alt 7 true (.done) .nil) .nil) .nil) .nil) (by decide +kernel) (bot_le _) ?_; conv => whnf) | (refine draw_ruleJ (none) (.light 0 <| .light 1 <| .light 2 <| .light 3 <| .light 4 <| .light 5 <| .alt 6 false (.alt 7 false (.light 8 <| .alt 9 true (.done) .nil) .nil) .nil) (by decide +kernel) (bot_le _) ?_; conv => whnf) | (with_reducible refine @And.intro (guardVC _ _ _ _ _) _ ?_ ?_) <;> conv => whnf | (refine caseB_intro (fun h => ?_) (fun h => ?_) <;> (try simp only [Bool.not_eq_true', Bool.not_eq_false', decide_eq_true_eq, decide_eq_false_iff_not] at h) <;> conv => whnf))
    refine ACall.step (l8BentEntry_ret S2 (by omega)) fun r M3 hh => ?_
    obtain ⟨y, rfl, hy, hyc, hyb, S3, l3⟩ := hh
    refine ⟨⟨_, rfl⟩, _, PH.Le.refl _, bot_le _, ?_⟩
    conv => whnf
    intro g4 hg4
    obtain ⟨M4, hM, S4, l4, n4⟩ := rowF (cs := y.cs) (t := 44) y EnA.len (by simp) S3 hg4
    rw [← hM]; clear hM
    refine ⟨⟨_, rfl⟩, _, PH.Le.refl _, bot_le _, ?_⟩
    conv => whnf
    have D4 := D2.mono (l3.trans l4)
    refine appendR (te := ti44) (f := EnA.cs) (xs := x0.tr) (ys := [y]) S4 (n4.ow.sl EnA.len) (⟨D4.t, D4.le, fun g e => D4.f _ (by simp) g e⟩ : New (rm M g) (rm M4 g) o1 x0.tA x0.tc 13 EnA.cs x0.tr) EnA.len EnA.one rfl (en_fits _ _ (by show _ + 1 ≤ _; omega)) (by show _ + 1 ≤ _; omega) fun o5 C5 d5 M5 N5 S5 K5 F5 => ?_
    refine ⟨⟨_, rfl⟩, _, PH.Le.refl _, bot_le _, ?_⟩
    conv => whnf
    refine ⟨_, PH.Le.refl _, ⟨x0.b, x0.g, x0.tr ++ [y], x0.kp, C5, d5, x0.kA, x0.kc⟩, o5, o2, rfl, D4.appT (hy.mono ((since_but D2.kn).trans (but_mono l4))) N5 K5 F5, ⟨?_, ?_, ?_⟩, (S.back S5).below (by omega), N5.le⟩
    · show (x0.tr ++ [y]).length + x0.kp.length ≤ 13
      rw [List.length_append]
      show _ + 1 + _ ≤ 13
      omega
    · show costL En.cost (conts (x0.tr ++ [y])) + costL En.cost (conts x0.kp) ≤ 60000
      have : conts (x0.tr ++ [y]) = conts x0.tr ++ [y.c] := List.map_append
      rw [this, costL_append]
      have e1 : costL En.cost [y.c] = 1 + y.c.cost := by simp [costL]
      omega
    · intro e he
      have he : e ∈ conts (x0.tr ++ [y]) ++ conts x0.kp := he
      have : conts (x0.tr ++ [y]) = conts x0.tr ++ [y.c] := List.map_append
      rw [this] at he
      rcases List.mem_append.1 he with he | he
      · rcases List.mem_append.1 he with he | he
        · exact zy e (List.mem_append_left _ he)
        · have : e = y.c := by simpa using he
          subst this; exact hyb
      · exact zy e (List.mem_append_right _ he)
  conv => whnf
  refine caseB_dec (fun hb => ?_) (fun hb => ?_)
  · conv => whnf
    refine caseB_dec (fun h0 => ?_) (fun h0 => ?_)
    · have h0 : (0 : Int) < x0.tr.length := h0
      have h00 : 0 < x0.tr.length := by omega
      have hF : Ow (but M2 [o2, some g]) o1 x0.tA x0.tc 13 EnA.cs x0.tr := D2.t.keep fun k ob e hk => by
        have hkg : k ≠ g := fun e2 => by rw [e2, rm_none] at hk; cases hk
        rw [rm_other hkg] at hk
        unfold but
        rw [if_neg]
        · exact hk
        · intro hm
          simp only [List.mem_cons, List.not_mem_nil, or_false] at hm
          rcases hm with h1 | h1
          · exact D2.a k e h1.symm
          · cases h1; exact hkg rfl
      obtain ⟨hA, _, hc⟩ := (hF.sl EnA.len).get h00
      have hym : x0.tr[0] ∈ x0.tr := List.getElem_mem h00
      have hyc : x0.tr[0].c.cost ≤ 14412 := by
        have : x0.tr[0].c.cost ≤ costL En.cost (conts x0.tr) := costL_le (f := En.cost) (List.mem_map.2 ⟨_, hym, rfl⟩)
        omega
      have hyi := D2.i _ (List.mem_append_left _ hym)
      generalize x0.tr[0] = y at *
      conv => whnf
      have hFle := but_le M2 [o2, some g]
      repeat' (first | (refine ⟨⟨[], rfl⟩, _, PH.Le.refl _, bot_le _, ?_⟩; conv => whnf) | (refine ⟨⟨_, rfl⟩, _, PH.Le.refl _, bot_le _, ?_⟩; conv => whnf) | (refine ⟨⟨_, rfl⟩, _, PH.Le.refl _, hFle, ?_⟩; conv => whnf) | (refine caseB_true ?_; conv => whnf) | (refine caseB_false ?_; conv => whnf) | ((with_reducible refine caseB_dec (fun h => ?_) (fun h => ?_)) <;> conv => whnf) | ((with_reducible refine caseB_ndec (fun h => ?_) (fun h => ?_)) <;> conv => whnf) | ((with_reducible refine caseB_not (fun h => ?_) (fun h => ?_)) <;> conv => whnf) | (refine draw_ruleJ (none) (.light 0 <| .light 1 <| .light 2 <| .alt 3 false (.alt 4 false (.alt 5 false (.light 6 <| .alt 7 true (.done) .nil) .nil) .nil) .nil) (by decide +kernel) (hFle) ?_; conv => whnf) | (refine draw_ruleJ (none) (.light 0 <| .light 1 <| .light 2 <| .light 3 <| .light 4 <| .light 5 <| .alt 6 false (.alt 7 false (.light 8 <| .alt 9 true (.done) .nil) .nil) .nil) (by decide +kernel) (hFle) ?_; conv => whnf) | (with_reducible refine @And.intro (guardVC _ _ _ _ _) _ ?_ ?_) <;> conv => whnf | (refine caseB_intro (fun h => ?_) (fun h => ?_) <;> (try simp only [Bool.not_eq_true', Bool.not_eq_false', decide_eq_true_eq, decide_eq_false_iff_not] at h) <;> conv => whnf))
      refine ⟨by decide, by omega, hA, ?_⟩
      conv => whnf
      refine ⟨y.cs, hc, rfl, ?_⟩
      conv => whnf
      intro g4 hg4
      obtain ⟨M4, hM, S4, l4, n4⟩ := rowF (cs := y.cs) (t := 44) y EnA.len (by simp) S2 hg4
      have lM4 : M2.Le M4 := by rw [hM]; exact PH.Le.set _ hg4
      rw [← hM]; clear hM
      refine ⟨⟨_, rfl⟩, _, PH.Le.refl _, hFle.trans lM4, ?_⟩
      conv => whnf
      have D4 := D2.mono l4
      refine appendR (te := ti44) (f := EnA.cs) (xs := x0.kp) (ys := [y]) S4 (n4.ow.sl EnA.len) (⟨D4.k, D4.le, fun g e => D4.f _ (by simp) g e⟩ : New (rm M g) (rm M4 g) o2 x0.kA x0.kc 13 EnA.cs x0.kp) EnA.len EnA.one rfl (en_fits _ _ (by show _ + 1 ≤ _; omega)) (by show _ + 1 ≤ _; omega) fun o5 C5 d5 M5 N5 S5 K5 F5 => ?_
      have lF5 : (but M2 [o2, some g]).Le M5 := fun k ob hk => by
        unfold but at hk
        split at hk
        · cases hk
        · rename_i hm
          have hkg : k ≠ g := fun e => hm (by rw [e]; simp)
          have hko : o2 ≠ some k := fun e => hm (by rw [e]; simp)
          have h1 := lM4 k ob hk
          have h2 := K5 k ob (by rw [rm_other hkg]; exact h1) hko
          rw [rm_other hkg] at h2
          exact h2
      refine ⟨⟨_, rfl⟩, _, PH.Le.refl _, lF5, ?_⟩
      conv => whnf
      refine ⟨_, PH.Le.refl _, ⟨x0.b, x0.g, x0.tr, x0.kp ++ [y], x0.tA, x0.tc, C5, d5⟩, o1, o5, rfl, D4.appK (hyi.mono (but_mono l4)) N5 K5 F5, ⟨?_, ?_, ?_⟩, (S.back S5).below (by omega), N5.le⟩
      · show x0.tr.length + (x0.kp ++ [y]).length ≤ 13
        rw [List.length_append]
        show _ + (_ + 1) ≤ 13
        omega
      · show costL En.cost (conts x0.tr) + costL En.cost (conts (x0.kp ++ [y])) ≤ 60000
        have : conts (x0.kp ++ [y]) = conts x0.kp ++ [y.c] := List.map_append
        rw [this, costL_append]
        have e1 : costL En.cost [y.c] = 1 + y.c.cost := by simp [costL]
        omega
      · intro e he
        have he : e ∈ conts x0.tr ++ conts (x0.kp ++ [y]) := he
        have : conts (x0.kp ++ [y]) = conts x0.kp ++ [y.c] := List.map_append
        rw [this] at he
        rcases List.mem_append.1 he with he | he
        · exact zy e (List.mem_append_left _ he)
        · rcases List.mem_append.1 he with he | he
          · exact zy e (List.mem_append_right _ he)
          · have : e = y.c := by simpa using he
            subst this; exact zy _ (List.mem_append_left _ (List.mem_map.2 ⟨_, hym, rfl⟩))
    · conv => whnf
      exact ⟨_, PH.Le.refl _, x0, o1, o2, rfl, D2, ⟨by omega, by omega, zy⟩, (S.back S2).below (by omega), L2⟩
  · conv => whnf
    exact ⟨_, PH.Le.refl _, x0, o1, o2, rfl, D2, ⟨by omega, by omega, zy⟩, (S.back S2).below (by omega), L2⟩
end
section
variable {B : Int} {g g' : Nat} {M0 M : PH} {A : Option Addr} {c : Nat} {bs : List Int}
/-- The source is opened at a later place. -/
theorem laterD {j k : Int} (c : Nat) (hk : wr (5 + wr (7 * j)) = k) (h0 : 0 ≤ k) (hb : Byt M A bs) {bx : List Box} {K : Value → List Box → PH → Prop} (h : ∀ g M', M g = none → Sx k M M' g A c bs → K (P0 g) bx M') : XCall env 77 [.v (.slice A bs.length c), .v (I j)] bx M K :=
  ACall.step (l1Later_ret A c bs j M) fun r M' ⟨g, hg, hr, hM⟩ => by
    subst hr; subst hM
    rw [hk]
    exact h g _ hg ⟨⟨k, PH.set_same _ _ _, h0, Int.le_refl _⟩, rm_in (PH.Le.set _ hg) hg, hb⟩
set_option maxHeartbeats 4000000 in
theorem l8Some_ret (x : StA) (S : Sx B M0 M g A c bs) (hB : B ≤ 4294910000) (hi : x.inn (rm M g)) (hco : x.c.cost ≤ 1048576) :
    XCall env 161 [.v (P0 g), .bp 0 0] [stBox x] M fun r b M' => ∃ k, r = Tx k ∧ b = [stBox x] ∧ Sx (B + 20) M0 M' g A c bs ∧ (rm M g).Le (rm M' g) := by
  obtain ⟨n1, n2, hd⟩ := st_split hco
  refine xcall_of_vc Tryz.func161 rfl _ Tryz.ntmps161 _ rfl (fun _ _ => Tryz.call161 _ _) rfl (fun w0 ρ0 => ?_)
  conv => whnf
  refine besideP (j := 0) (args := []) S (l8All_ret 36 x (rm M g) hi n1 n2) rfl (by simp [AV.plain]) (fun r b M1 hr => ⟨S.le.trans (by obtain ⟨⟨_, _, _, _, hn⟩, _⟩ := hr; exact hn.le), _, hr.2, by simp [AV.plain]⟩) fun r b1 M1 M2 hr l2 S2 => ?_
  obtain ⟨⟨o5, A5, c5, rfl, hN5⟩, hb⟩ := hr
  obtain rfl : b1 = stBox x := by simpa using hb
  have hE := (all_ens hi hN5).mono l2
  have L2 := hN5.le.trans l2
  have hwl : (x.tr ++ x.kp).length ≤ 2097152 := by rw [List.length_append]; omega
  clear hN5 S
  generalize x.tr ++ x.kp = ws at *
  conv => whnf
  refine caseB_dec (fun h0 => ?_) (fun h0 => ?_)
  · have h0 : (0 : Int) < ws.length := h0
    repeat' (first | (refine ⟨⟨[], rfl⟩, _, PH.Le.refl _, PH.Le.refl _, ?_⟩; conv => whnf) | (refine caseB_true ?_; conv => whnf) | (refine caseB_false ?_; conv => whnf) | ((with_reducible refine caseB_dec (fun h => ?_) (fun h => ?_)) <;> conv => whnf) | ((with_reducible refine caseB_ndec (fun h => ?_) (fun h => ?_)) <;> conv => whnf) | ((with_reducible refine caseB_not (fun h => ?_) (fun h => ?_)) <;> conv => whnf) | (with_reducible refine @And.intro (guardVC _ _ _ _ _) _ ?_ ?_) <;> conv => whnf | (refine caseB_intro (fun h => ?_) (fun h => ?_) <;> (try simp only [Bool.not_eq_true', Bool.not_eq_false', decide_eq_true_eq, decide_eq_false_iff_not] at h) <;> conv => whnf))
    refine chanceD S2 (by omega) fun ch M3 S3 l3 => ?_
    conv => whnf
    cases ch with
    | true =>
      repeat' (first | (refine ⟨⟨[], rfl⟩, _, PH.Le.refl _, PH.Le.refl _, ?_⟩; conv => whnf) | (refine caseB_true ?_; conv => whnf) | (refine caseB_false ?_; conv => whnf) | ((with_reducible refine caseB_dec (fun h => ?_) (fun h => ?_)) <;> conv => whnf) | ((with_reducible refine caseB_ndec (fun h => ?_) (fun h => ?_)) <;> conv => whnf) | ((with_reducible refine caseB_not (fun h => ?_) (fun h => ?_)) <;> conv => whnf) | (with_reducible refine @And.intro (guardVC _ _ _ _ _) _ ?_ ?_) <;> conv => whnf | (refine caseB_intro (fun h => ?_) (fun h => ?_) <;> (try simp only [Bool.not_eq_true', Bool.not_eq_false', decide_eq_true_eq, decide_eq_false_iff_not] at h) <;> conv => whnf))
      refine ACall.step (l8Key_ret S3 (by omega)) fun r M4 hh => ?_
      obtain ⟨k4, rfl, hk4, S4, l4⟩ := hh
      conv => whnf
      refine ACall.step (l8Key_ret S4 (by omega)) fun r M5 hh => ?_
      obtain ⟨k5, rfl, hk5, S5, l5⟩ := hh
      conv => whnf
      intro g6 hg6
      obtain ⟨M6, hM, S6, l6, s6⟩ := buildW (cs := [Tx k4, Tx k5, Tx ⟨#[]⟩, Tx ⟨#[110, 111, 110, 101]⟩]) (t := 9) [k4, k5, ⟨#[]⟩, ⟨#[110, 111, 110, 101]⟩] rfl S5 hg6
      rw [← hM]; clear hM
      conv => whnf
      refine ACall.step (wordX [k4, k5, ⟨#[]⟩, ⟨#[110, 111, 110, 101]⟩] S6 (by omega) s6 (by simp)) fun r M7 hh => ?_
      obtain ⟨k7, rfl, _, S7, l7⟩ := hh
      conv => whnf
      exact ⟨_, PH.Le.refl _, k7, rfl, rfl, S7.below (by omega), L2.trans ((((l3.trans l4).trans l5).trans l6).trans l7)⟩
    | false =>
      repeat' (first | (refine ⟨⟨[], rfl⟩, _, PH.Le.refl _, PH.Le.refl _, ?_⟩; conv => whnf) | (refine caseB_true ?_; conv => whnf) | (refine caseB_false ?_; conv => whnf) | ((with_reducible refine caseB_dec (fun h => ?_) (fun h => ?_)) <;> conv => whnf) | ((with_reducible refine caseB_ndec (fun h => ?_) (fun h => ?_)) <;> conv => whnf) | ((with_reducible refine caseB_not (fun h => ?_) (fun h => ?_)) <;> conv => whnf) | (with_reducible refine @And.intro (guardVC _ _ _ _ _) _ ?_ ?_) <;> conv => whnf | (refine caseB_intro (fun h => ?_) (fun h => ?_) <;> (try simp only [Bool.not_eq_true', Bool.not_eq_false', decide_eq_true_eq, decide_eq_false_iff_not] at h) <;> conv => whnf))
      refine nextD ws.length S3 (by omega) fun y M4 hy S4 l4 => ?_
      have hy := hy (by omega)
      have hy2 : y.toNat < ws.length := by omega
      obtain ⟨hA, _, hc⟩ := ((hE.sl.mono (l3.trans l4)).mono (rm_le _ _)).get hy2
      conv => whnf
      refine ⟨hy.1, hy.2, hA, ?_⟩
      conv => whnf
      refine ⟨_, cells_cut hc 0 rfl, ?_⟩
      conv => whnf
      exact ⟨_, PH.Le.refl _, _, rfl, rfl, S4.below (by omega), L2.trans (l3.trans l4)⟩
  · have h0 : ¬ (0 : Int) < ws.length := h0
    repeat' (first | (refine ⟨⟨[], rfl⟩, _, PH.Le.refl _, PH.Le.refl _, ?_⟩; conv => whnf) | (refine caseB_true ?_; conv => whnf) | (refine caseB_false ?_; conv => whnf) | ((with_reducible refine caseB_dec (fun h => ?_) (fun h => ?_)) <;> conv => whnf) | ((with_reducible refine caseB_ndec (fun h => ?_) (fun h => ?_)) <;> conv => whnf) | ((with_reducible refine caseB_not (fun h => ?_) (fun h => ?_)) <;> conv => whnf) | (with_reducible refine @And.intro (guardVC _ _ _ _ _) _ ?_ ?_) <;> conv => whnf | (refine caseB_intro (fun h => ?_) (fun h => ?_) <;> (try simp only [Bool.not_eq_true', Bool.not_eq_false', decide_eq_true_eq, decide_eq_false_iff_not] at h) <;> conv => whnf))
    refine ACall.step (l8Key_ret S2 (by omega)) fun r M4 hh => ?_
    obtain ⟨k4, rfl, hk4, S4, l4⟩ := hh
    conv => whnf
    refine ACall.step (l8Key_ret S4 (by omega)) fun r M5 hh => ?_
    obtain ⟨k5, rfl, hk5, S5, l5⟩ := hh
    conv => whnf
    intro g6 hg6
    obtain ⟨M6, hM, S6, l6, s6⟩ := buildW (cs := [Tx k4, Tx k5, Tx ⟨#[]⟩, Tx ⟨#[110, 111, 110, 101]⟩]) (t := 9) [k4, k5, ⟨#[]⟩, ⟨#[110, 111, 110, 101]⟩] rfl S5 hg6
    rw [← hM]; clear hM
    conv => whnf
    refine ACall.step (wordX [k4, k5, ⟨#[]⟩, ⟨#[110, 111, 110, 101]⟩] S6 (by omega) s6 (by simp)) fun r M7 hh => ?_
    obtain ⟨k7, rfl, _, S7, l7⟩ := hh
    conv => whnf
    exact ⟨_, PH.Le.refl _, k7, rfl, rfl, S7.below (by omega), L2.trans (((l4.trans l5).trans l6).trans l7)⟩
end
abbrev Bok (s : Sc) : Prop := ∀ e ∈ s.all, bytesOk e.body
theorem drawPeek_ret (A : Option Addr) (c : Nat) (bs : List Int) (M : PH) (hb : Byt M A bs) :
    ACall env 111 [.slice A bs.length c] M fun r M' => ∃ (x : StA) (k : ByteArray), r = .tuple #[x.val, Tx k] ∧ x.inn M' ∧ x.c.cost ≤ 60000 ∧ Bok x.c ∧ M.Le M' := by
  refine xcall_of_vc Tryz.func111 rfl _ Tryz.ntmps111 _ rfl (fun _ _ => Tryz.call111 _ _) rfl (fun w0 ρ0 => ?_)
  conv => whnf
  refine sourceD c hb fun g M1 hg S1 => ?_
  conv => whnf
  refine ACall.step (l8Bent_ret S1 (by omega)) fun r M2 hh => ?_
  obtain ⟨x, o1, o2, rfl, D2, z2, S2, l2⟩ := hh
  have hzc := z2.c
  have hzy := z2.y
  conv => whnf
  repeat' (first | (refine ⟨⟨[], rfl⟩, _, PH.Le.refl _, bot_le _, ?_⟩; conv => whnf) | (refine ⟨⟨_, rfl⟩, _, PH.Le.refl _, bot_le _, ?_⟩; conv => whnf) | (refine caseB_true ?_; conv => whnf) | (refine caseB_false ?_; conv => whnf) | ((with_reducible refine caseB_dec (fun h => ?_) (fun h => ?_)) <;> conv => whnf) | ((with_reducible refine caseB_ndec (fun h => ?_) (fun h => ?_)) <;> conv => whnf) | ((with_reducible refine caseB_not (fun h => ?_) (fun h => ?_)) <;> conv => whnf) | (refine draw_ruleJ (none) (.light 0 <| .light 1 <| .alt 2 false (.alt 3 true (.light 4 <| .done) .nil) .nil) (by decide +kernel) (bot_le _) ?_; conv => whnf) | (with_reducible refine @And.intro (guardVC _ _ _ _ _) _ ?_ ?_) <;> conv => whnf | (refine caseB_intro (fun h => ?_) (fun h => ?_) <;> (try simp only [Bool.not_eq_true', Bool.not_eq_false', decide_eq_true_eq, decide_eq_false_iff_not] at h) <;> conv => whnf))
  refine XCall.lift (l8Some_ret x S2 (by omega) D2.inn (by omega)) [1] ?_ (by simp) (by simp) (by simp [AV.plain]) ?_
  · simp [ren]
  rintro r b M3 ⟨k, rfl, rfl, S3, l3⟩
  refine ⟨by simp [AV.plain], ?_⟩
  (first | (refine ⟨⟨_, rfl⟩, _, PH.Le.refl _, bot_le _, ?_⟩; conv => whnf) | conv => whnf)
  exact ⟨_, PH.Le.refl _, x, k, rfl, (D2.inn.mono l3).mono (rm_le _ _), hzc, hzy, S3.le.trans (rm_le _ _)⟩
theorem drawTouch_ret (A : Option Addr) (c : Nat) (bs : List Int) (M : PH) (hb : Byt M A bs) :
    ACall env 42 [.slice A bs.length c] M fun r M' => ∃ (x : StA) (k : ByteArray), r = .tuple #[x.val, Tx k] ∧ x.inn M' ∧ x.c.cost ≤ 60000 ∧ Bok x.c ∧ M.Le M' := by
  refine xcall_of_vc Tryz.func42 rfl _ Tryz.ntmps42 _ rfl (fun _ _ => Tryz.call42 _ _) rfl (fun w0 ρ0 => ?_)
  conv => whnf
  refine ACall.step (drawPeek_ret A c bs M hb) fun r M1 hh => ?_
  obtain ⟨x, k, rfl, h⟩ := hh
  conv => whnf
  exact ⟨_, PH.Le.refl _, x, k, rfl, h⟩
theorem drawPin_ret (A : Option Addr) (c : Nat) (bs : List Int) (M : PH) (hb : Byt M A bs) :
    ACall env 44 [.slice A bs.length c] M fun r M' => ∃ (x : StA) (k : ByteArray) (d : Int), r = .tuple #[x.val, Tx k, I d] ∧ (-21 ≤ d ∧ d ≤ 21) ∧ x.inn M' ∧ x.c.cost ≤ 60000 ∧ Bok x.c ∧ M.Le M' := by
  refine xcall_of_vc Tryz.func44 rfl _ Tryz.ntmps44 _ rfl (fun _ _ => Tryz.call44 _ _) rfl (fun w0 ρ0 => ?_)
  conv => whnf
  refine ACall.step (drawPeek_ret A c bs M hb) fun r M1 hh => ?_
  obtain ⟨x, k, rfl, hi, hc, hzy, l1⟩ := hh
  conv => whnf
  have hb1 := hb.mono l1
  repeat' (first | (refine ⟨⟨[], rfl⟩, _, PH.Le.refl _, bot_le _, ?_⟩; conv => whnf) | (refine ⟨⟨_, rfl⟩, _, PH.Le.refl _, bot_le _, ?_⟩; conv => whnf) | (refine caseB_true ?_; conv => whnf) | (refine caseB_false ?_; conv => whnf) | ((with_reducible refine caseB_dec (fun h => ?_) (fun h => ?_)) <;> conv => whnf) | ((with_reducible refine caseB_ndec (fun h => ?_) (fun h => ?_)) <;> conv => whnf) | ((with_reducible refine caseB_not (fun h => ?_) (fun h => ?_)) <;> conv => whnf) | (refine draw_ruleJ (none) (.light 0 <| .light 1 <| .light 2 <| .alt 3 false (.alt 4 false (.alt 5 false (.alt 6 true (.light 7 <| .light 8 <| .done) .nil) .nil) .nil) (.alt 4 false (.alt 3 false (.alt 5 false (.alt 6 true (.light 7 <| .light 8 <| .done) .nil) .nil) .nil) .nil)) (by decide +kernel) (bot_le _) ?_; conv => whnf) | (with_reducible refine @And.intro (guardVC _ _ _ _ _) _ ?_ ?_) <;> conv => whnf | (refine caseB_intro (fun h => ?_) (fun h => ?_) <;> (try simp only [Bool.not_eq_true', Bool.not_eq_false', decide_eq_true_eq, decide_eq_false_iff_not] at h) <;> conv => whnf))
  · refine laterD (k := 19) c (by decide) (by decide) hb1 fun g M2 hg S2 => ?_
    (first | (refine ⟨⟨_, rfl⟩, _, PH.Le.refl _, bot_le _, ?_⟩; conv => whnf) | conv => whnf)
    intro g3 hg3
    obtain ⟨M3, hM, S3, l3, s3⟩ := buildF (cs := [I 1, I (-1), I 1, I 20, I 21, I (-21), I 0]) (t := 2) [1, -1, 1, 20, 21, -21, 0] rfl S2 hg3
    rw [← hM]; clear hM
    (first | (refine ⟨⟨_, rfl⟩, _, PH.Le.refl _, bot_le _, ?_⟩; conv => whnf) | conv => whnf)
    refine pickD [1, -1, 1, 20, 21, -21, 0] rfl S3 s3 (by simp) (by omega) fun d M4 hd S4 l4 => ?_
    (first | (refine ⟨⟨_, rfl⟩, _, PH.Le.refl _, bot_le _, ?_⟩; conv => whnf) | conv => whnf)
    have L : M1.Le M4 := S4.le.trans (rm_le _ _)
    have hd2 : -21 ≤ d ∧ d ≤ 21 := by
      simp only [List.mem_cons, List.not_mem_nil, or_false] at hd
      omega
    exact ⟨_, PH.Le.refl _, x, k, d, rfl, hd2, hi.mono L, hc, hzy, l1.trans L⟩
  · intro g3 hg3
    have l3 := PH.Le.set (.cells (([1, -1, 1, 20, 21, -21, 0] : List Int).flatMap inC).toArray 2 (0, 0)) hg3
    have s3 := sl_full (f := inC) (fun _ => rfl) M1 g3 ([1, -1, 1, 20, 21, -21, 0] : List Int) 2 (0, 0)
    (first | (refine ⟨⟨_, rfl⟩, _, PH.Le.refl _, bot_le _, ?_⟩; conv => whnf) | conv => whnf)
    refine laterD (k := 19) c (by decide) (by decide) (hb1.mono l3) fun g M2 hg S2 => ?_
    (first | (refine ⟨⟨_, rfl⟩, _, PH.Le.refl _, bot_le _, ?_⟩; conv => whnf) | conv => whnf)
    refine pickD [1, -1, 1, 20, 21, -21, 0] rfl S2 (s3.mono S2.le) (by simp) (by omega) fun d M4 hd S4 l4 => ?_
    (first | (refine ⟨⟨_, rfl⟩, _, PH.Le.refl _, bot_le _, ?_⟩; conv => whnf) | conv => whnf)
    have L : M1.Le M4 := l3.trans (S4.le.trans (rm_le _ _))
    have hd2 : -21 ≤ d ∧ d ≤ 21 := by
      simp only [List.mem_cons, List.not_mem_nil, or_false] at hd
      omega
    exact ⟨_, PH.Le.refl _, x, k, d, rfl, hd2, hi.mono L, hc, hzy, l1.trans L⟩
theorem drawTagged_ret (A : Option Addr) (c : Nat) (bs : List Int) (M : PH) (hb : Byt M A bs) :
    ACall env 75 [.slice A bs.length c] M fun r M' => ∃ (x : StA) (k : ByteArray), r = .tuple #[x.val, Tx k] ∧ x.inn M' ∧ x.c.cost ≤ 60000 ∧ Bok x.c ∧ M.Le M' := by
  refine xcall_of_vc Tryz.func75 rfl _ Tryz.ntmps75 _ rfl (fun _ _ => Tryz.call75 _ _) rfl (fun w0 ρ0 => ?_)
  conv => whnf
  refine sourceD c hb fun g M1 hg S1 => ?_
  conv => whnf
  refine ACall.step (l8Bent_ret S1 (by omega)) fun r M2 hh => ?_
  obtain ⟨x, o1, o2, rfl, D2, z2, S2, l2⟩ := hh
  have hzc := z2.c
  have hzy := z2.y
  conv => whnf
  intro g3 hg3
  obtain ⟨M3, hM, S3, l3, s3⟩ := buildW (cs := [Tx ⟨#[97]⟩, Tx ⟨#[98]⟩, Tx ⟨#[99]⟩, Tx ⟨#[]⟩, Tx ⟨#[122, 122]⟩]) (t := 9) [⟨#[97]⟩, ⟨#[98]⟩, ⟨#[99]⟩, ⟨#[]⟩, ⟨#[122, 122]⟩] rfl S2 hg3
  rw [← hM]; clear hM
  conv => whnf
  refine wordD [⟨#[97]⟩, ⟨#[98]⟩, ⟨#[99]⟩, ⟨#[]⟩, ⟨#[122, 122]⟩] rfl S3 s3 (by decide) (by decide) (by omega) fun k M4 hk S4 l4 => ?_
  conv => whnf
  exact ⟨_, PH.Le.refl _, x, k, rfl, (D2.inn.mono (l3.trans l4)).mono (rm_le _ _), hzc, hzy, S4.le.trans (rm_le _ _)⟩
theorem drawPurgeTag_ret (A : Option Addr) (c : Nat) (bs : List Int) (M : PH) (hb : Byt M A bs) :
    ACall env 22 [.slice A bs.length c] M fun r M' => ∃ (x : StA) (k : ByteArray) (d : Bool), r = .tuple #[x.val, Tx k, B d] ∧ x.inn M' ∧ x.c.cost ≤ 60000 ∧ Bok x.c ∧ M.Le M' := by
  refine xcall_of_vc Tryz.func22 rfl _ Tryz.ntmps22 _ rfl (fun _ _ => Tryz.call22 _ _) rfl (fun w0 ρ0 => ?_)
  conv => whnf
  refine ACall.step (drawTagged_ret A c bs M hb) fun r M1 hh => ?_
  obtain ⟨x, k, rfl, hi, hc, hzy, l1⟩ := hh
  conv => whnf
  have hb1 := hb.mono l1
  repeat' (first | (refine ⟨⟨[], rfl⟩, _, PH.Le.refl _, bot_le _, ?_⟩; conv => whnf) | (refine ⟨⟨_, rfl⟩, _, PH.Le.refl _, bot_le _, ?_⟩; conv => whnf) | (refine caseB_true ?_; conv => whnf) | (refine caseB_false ?_; conv => whnf) | ((with_reducible refine caseB_dec (fun h => ?_) (fun h => ?_)) <;> conv => whnf) | ((with_reducible refine caseB_ndec (fun h => ?_) (fun h => ?_)) <;> conv => whnf) | ((with_reducible refine caseB_not (fun h => ?_) (fun h => ?_)) <;> conv => whnf) | (refine draw_ruleJ (none) (.light 0 <| .light 1 <| .light 2 <| .alt 3 false (.alt 4 false (.alt 5 true (.light 6 <| .light 7 <| .done) .nil) .nil) .nil) (by decide +kernel) (bot_le _) ?_; conv => whnf) | (with_reducible refine @And.intro (guardVC _ _ _ _ _) _ ?_ ?_) <;> conv => whnf | (refine caseB_intro (fun h => ?_) (fun h => ?_) <;> (try simp only [Bool.not_eq_true', Bool.not_eq_false', decide_eq_true_eq, decide_eq_false_iff_not] at h) <;> conv => whnf))
  refine laterD (k := 19) c (by decide) (by decide) hb1 fun g M2 hg S2 => ?_
  (first | (refine ⟨⟨_, rfl⟩, _, PH.Le.refl _, bot_le _, ?_⟩; conv => whnf) | conv => whnf)
  refine chanceD S2 (by omega) fun d M4 S4 l4 => ?_
  (first | (refine ⟨⟨_, rfl⟩, _, PH.Le.refl _, bot_le _, ?_⟩; conv => whnf) | conv => whnf)
  have L : M1.Le M4 := S4.le.trans (rm_le _ _)
  exact ⟨_, PH.Le.refl _, x, k, d, rfl, hi.mono L, hc, hzy, l1.trans L⟩
def dg (n : Int) : ByteArray := strOfNums [IntKind.u8.wrap (IntKind.i64.wrap (48 + n))]
theorem dg_size (n : Int) : (dg n).size = 1 := by unfold dg; rw [strOfNums_size]; rfl
theorem l1Digits1 (n : Int) (h0 : 0 ≤ n) (h1 : n < 10) (M : PH) : Ret 99 [I n] M (Tx (dg n)) := by
  refine Ret.of ?_
  refine xcall_of_vc Tryz.func99 rfl _ Tryz.ntmps99 _ rfl (fun _ _ => Tryz.call99 _ _) rfl (fun w0 ρ0 => ?_)
  conv => whnf
  refine caseB_dec (fun h => ?_) (fun h => absurd h1 h)
  conv => whnf
  intro g hg
  conv => whnf
  refine ⟨[IntKind.u8.wrap (IntKind.i64.wrap (48 + n))], ⟨rfl, .inr ⟨⟨g, 0, none⟩, rfl, fun i x hx => ?_⟩⟩, ?_⟩
  · rw [add_at]
    simp only [PH.cell, PH.set_same]
    cases i with
    | zero => simpa using hx
    | succ i => simp at hx
  conv => whnf
  exact ⟨_, PH.Le.refl _, rfl, PH.Le.set _ hg⟩
def dig2 (n : Int) : ByteArray := if n < 10 then dg n else dg (n / 10) ++ dg (n % 10)
theorem dig2_size (n : Int) : (dig2 n).size ≤ 2 := by
  unfold dig2
  split
  · rw [dg_size]; decide
  · rw [ByteArray.size_append, dg_size, dg_size]; decide
theorem l1Digits_ret (n : Int) (h0 : 0 ≤ n) (h1 : n < 100) (M : PH) : Ret 99 [I n] M (Tx (dig2 n)) := by
  by_cases h10 : n < 10
  · have e : dig2 n = dg n := if_pos h10
    rw [e]; exact l1Digits1 n h0 h10 M
  have e : dig2 n = dg (n / 10) ++ dg (n % 10) := if_neg h10
  rw [e]
  have hq : IntKind.i64.wrap (n.tdiv 10) = n / 10 := by rw [Int.tdiv_eq_ediv_of_nonneg h0, wrap_id (by omega) (by omega)]
  have hm : n.tmod 10 = n % 10 := Int.tmod_eq_emod_of_nonneg h0
  refine Ret.of ?_
  refine xcall_of_vc Tryz.func99 rfl _ Tryz.ntmps99 _ rfl (fun _ _ => Tryz.call99 _ _) rfl (fun w0 ρ0 => ?_)
  conv => whnf
  refine caseB_dec (fun h => absurd h h10) (fun h => ?_)
  conv => whnf
  have hd := l1Digits1 (n / 10) (by omega) (by omega)
  repeat' (first | (refine ⟨⟨[], rfl⟩, _, PH.Le.refl _, PH.Le.refl _, ?_⟩; conv => whnf) | (refine And.intro (by decide) ?_; conv => whnf) | (refine caseB_true ?_; conv => whnf) | (refine caseB_false ?_; conv => whnf) | ((with_reducible refine caseB_dec (fun h => ?_) (fun h => ?_)) <;> conv => whnf) | ((with_reducible refine caseB_ndec (fun h => ?_) (fun h => ?_)) <;> conv => whnf) | ((with_reducible refine caseB_not (fun h => ?_) (fun h => ?_)) <;> conv => whnf) | (refine draw_rule (.light 0 <| .light 1 <| .light 3 <| .light 4 <| .light 5 <| .light 6 <| .alt 2 false (.alt 7 false (.light 8 <| .light 9 <| .light 10 <| .done) .nil) (.alt 7 false (.light 8 <| .alt 2 false (.light 9 <| .light 10 <| .done) .nil) .nil)) (by decide +kernel) ?_; conv => whnf) | (with_reducible refine @And.intro (guardVC _ _ _ _ _) _ ?_ ?_) <;> conv => whnf | (refine caseB_intro (fun h => ?_) (fun h => ?_) <;> (try simp only [Bool.not_eq_true', Bool.not_eq_false', decide_eq_true_eq, decide_eq_false_iff_not] at h) <;> conv => whnf))
  all_goals rw [hq]
  · refine Ret.go (hd M) ?_
    refine ⟨⟨_, rfl⟩, _, PH.Le.refl _, PH.Le.refl _, ?_⟩
    conv => whnf
    intro g hg
    refine ⟨⟨_, rfl⟩, _, PH.Le.set _ hg, PH.Le.refl _, ?_⟩
    conv => whnf
    have hcell : ∀ (i : Nat) (x : Value), ([IntKind.u8.wrap (IntKind.i64.wrap (48 + n % 10))].map (Value.int .u8))[i]? = some x → (M.set g (.cells #[Value.int .u8 (IntKind.u8.wrap (IntKind.i64.wrap (48 + n % 10)))] 5 (0, 0))).cell ((⟨g, 0, none⟩ : Addr).add (0 + i)) = some x := fun i x hx => by
      rw [add_at]
      simp only [PH.cell, PH.set_same]
      cases i with
      | zero => simpa using hx
      | succ i => simp at hx
    rw [← hm] at hcell
    refine ⟨[IntKind.u8.wrap (IntKind.i64.wrap (48 + n.tmod 10))], ⟨rfl, .inr ⟨⟨g, 0, none⟩, rfl, hcell⟩⟩, ?_⟩
    conv => whnf
    have hs1 : (strOfNums [IntKind.u8.wrap (IntKind.i64.wrap (48 + n.tmod 10))]).size = 1 := by rw [strOfNums_size]; rfl
    refine ⟨cat_fits' (by rw [dg_size, hs1]; decide), ?_⟩
    conv => whnf
    exact ⟨_, PH.Le.refl _, by rw [hm]; rfl, PH.Le.set _ hg⟩
  · intro g hg
    refine ⟨⟨_, rfl⟩, _, PH.Le.set _ hg, PH.Le.refl _, ?_⟩
    conv => whnf
    have hcell : ∀ (i : Nat) (x : Value), ([IntKind.u8.wrap (IntKind.i64.wrap (48 + n % 10))].map (Value.int .u8))[i]? = some x → (M.set g (.cells #[Value.int .u8 (IntKind.u8.wrap (IntKind.i64.wrap (48 + n % 10)))] 5 (0, 0))).cell ((⟨g, 0, none⟩ : Addr).add (0 + i)) = some x := fun i x hx => by
      rw [add_at]
      simp only [PH.cell, PH.set_same]
      cases i with
      | zero => simpa using hx
      | succ i => simp at hx
    rw [← hm] at hcell
    refine ⟨[IntKind.u8.wrap (IntKind.i64.wrap (48 + n.tmod 10))], ⟨rfl, .inr ⟨⟨g, 0, none⟩, rfl, hcell⟩⟩, ?_⟩
    conv => whnf
    refine Ret.go (hd _) ?_
    refine ⟨⟨_, rfl⟩, _, PH.Le.refl _, PH.Le.refl _, ?_⟩
    conv => whnf
    have hs1 : (strOfNums [IntKind.u8.wrap (IntKind.i64.wrap (48 + n.tmod 10))]).size = 1 := by rw [strOfNums_size]; rfl
    refine ⟨cat_fits' (by rw [dg_size, hs1]; decide), ?_⟩
    conv => whnf
    exact ⟨_, PH.Le.refl _, by rw [hm]; rfl, PH.Le.set _ hg⟩
abbrev Zq := StA × Option Nat × Nat × Int
set_option maxHeartbeats 8000000 in
theorem drawPut_ret (A : Option Addr) (c : Nat) (bs : List Int) (M : PH) (hb : Byt M A bs) :
    ACall env 34 [.slice A bs.length c] M fun r M' => ∃ (x : StA) (e : EnA), r = .tuple #[x.val, e.val] ∧ x.inn M' ∧ x.c.cost ≤ 70000 ∧ e.inn M' ∧ e.c.cost ≤ 30000 ∧ M.Le M' := by
  refine xcall_of_vc Tryz.func34 rfl _ Tryz.ntmps34 _ rfl (fun _ _ => Tryz.call34 _ _) rfl (fun w0 ρ0 => ?_)
  conv => whnf
  refine sourceD c hb fun g M1 hg S1 => ?_
  conv => whnf
  refine ACall.step (l8Bent_ret S1 (by omega)) fun r M2 hh => ?_
  obtain ⟨x, o1, o2, rfl, D2, z2, S2, l2⟩ := hh
  have hzc := z2.c
  have hzy := z2.y
  have hzn := z2.n
  have D2 : Dr M (rm M2 g) x o1 o2 := ⟨D2.t, D2.k, D2.i, D2.f.le S1.le, D2.a, S2.le⟩
  conv => whnf
  refine chanceD S2 (by omega) fun ch M3 S3 l3 => ?_
  have D3 := D2.mono l3
  conv => whnf
  cases ch with
  | false =>
    refine caseB_false ?_
    conv => whnf
    repeat' (first | (refine ⟨⟨[], rfl⟩, _, PH.Le.refl _, bot_le _, ?_⟩; conv => whnf) | (refine ⟨⟨_, rfl⟩, _, PH.Le.refl _, bot_le _, ?_⟩; conv => whnf) | (refine caseB_true ?_; conv => whnf) | (refine caseB_false ?_; conv => whnf) | ((with_reducible refine caseB_dec (fun h => ?_) (fun h => ?_)) <;> conv => whnf) | ((with_reducible refine caseB_ndec (fun h => ?_) (fun h => ?_)) <;> conv => whnf) | ((with_reducible refine caseB_not (fun h => ?_) (fun h => ?_)) <;> conv => whnf) | (refine draw_ruleJ (none) (.light 0 <| .light 1 <| .light 2 <| .alt 3 false (.light 4 <| .light 5 <| .alt 6 false (.alt 7 false (.light 8 <| .alt 9 true (.done) .nil) .nil) .nil) .nil) (by decide +kernel) (bot_le _) ?_; conv => whnf) | (refine draw_ruleJ (none) (.light 0 <| .light 1 <| .alt 2 false (.alt 3 true (.alt 4 true (.done) .nil) .nil) .nil) (by decide +kernel) (bot_le _) ?_; conv => whnf) | (with_reducible refine @And.intro (guardVC _ _ _ _ _) _ ?_ ?_) <;> conv => whnf | (refine caseB_intro (fun h => ?_) (fun h => ?_) <;> (try simp only [Bool.not_eq_true', Bool.not_eq_false', decide_eq_true_eq, decide_eq_false_iff_not] at h) <;> conv => whnf))
    refine ACall.step (l8BentEntry_ret S3 (by omega)) fun r M4 hh => ?_
    obtain ⟨e, rfl, he, hec, _, S4, l4⟩ := hh
    (first | (refine ⟨⟨_, rfl⟩, _, PH.Le.refl _, bot_le _, ?_⟩; conv => whnf) | conv => whnf)
    have L : (rm M3 g).Le (rm M4 g) := l4
    exact ⟨_, PH.Le.refl _, x, e, rfl, (D3.inn.mono l4).mono (rm_le _ _), by omega, (he.mono (since_le _ _)).mono (rm_le _ _), hec, S4.le.trans (rm_le _ _)⟩
  | true =>
    refine caseB_true ?_
    conv => whnf
    refine loop_rule (fun z : Zq => ⟨slots 37 [(0, .v (.slice A bs.length c)), (2, .bp 0 0), (3, .bp 1 0), (4, .v (P0 g)), (5, .bp 2 0), (6, .v (I z.2.2.1))], [soBox zSo, ⟨44, E0.map .v⟩, stBox z.1]⟩)
      (fun z M' => Dr M (rm M' g) z.1 z.2.1 o2 ∧ z.1.tr.length + z.1.kp.length ≤ 40 ∧ z.2.2.1 ≤ z.1.tr.length ∧ z.1.c.cost ≤ 60000 + 10 * z.2.2.1 ∧ Sx 9000 M M' g A c bs) (fun z => 40 - (z.1.tr.length + z.1.kp.length)) (⟨900000, 5000, x.tr, x.kp, x.tA, x.tc, x.kA, x.kc⟩, o1, 0, 0) ?_ ?_ ?_
    · exact ⟨by simp [slots, leT], ⟨[], rfl⟩, Nat.zero_le _, rfl, rfl⟩
    · exact ⟨D3.nums 900000 5000, by show x.tr.length + x.kp.length ≤ 40; omega, Nat.zero_le _, by show x.c.cost ≤ 60000 + 10 * 0; omega, S3.below (by omega)⟩
    rintro ⟨y, o, i, b⟩ M4 ⟨D4, n4, i4, c4, S4⟩
    have D4 : Dr M (rm M4 g) y o o2 := D4
    have n4 : y.tr.length + y.kp.length ≤ 40 := n4
    have i4 : i ≤ y.tr.length := i4
    have c4 : y.c.cost ≤ 60000 + 10 * i := c4
    have hwl : IntKind.i64.wrap ((y.tr.length : Int) + (y.kp.length : Int)) = (y.tr.length : Int) + y.kp.length := wr_id (by omega) (by omega)
    conv => whnf
    rw [show IntKind.i64.wrap ((((y, o, i, b) : Zq).1.tr.length : Int) + (((y, o, i, b) : Zq).1.kp.length : Int)) = (y.tr.length : Int) + y.kp.length from hwl]
    refine caseB_dec (fun hb2 => ?_) (fun hb2 => ?_)
    · have hb2 : (y.tr.length : Int) + y.kp.length < 40 := hb2
      have hwi : IntKind.i64.wrap ((i : Int) + 1) = (i : Int) + 1 := wr_id (by omega) (by omega)
      conv => whnf
      repeat' (first | (refine ⟨⟨[], rfl⟩, _, PH.Le.refl _, bot_le _, ?_⟩; conv => whnf) | (refine ⟨⟨_, rfl⟩, _, PH.Le.refl _, bot_le _, ?_⟩; conv => whnf) | (refine caseB_true ?_; conv => whnf) | (refine caseB_false ?_; conv => whnf) | ((with_reducible refine caseB_dec (fun h => ?_) (fun h => ?_)) <;> conv => whnf) | ((with_reducible refine caseB_ndec (fun h => ?_) (fun h => ?_)) <;> conv => whnf) | ((with_reducible refine caseB_not (fun h => ?_) (fun h => ?_)) <;> conv => whnf) | (refine draw_ruleJ (none) (.light 0 <| .light 1 <| .light 2 <| .alt 3 false (.light 4 <| .light 5 <| .alt 6 false (.alt 7 false (.light 8 <| .alt 9 true (.done) .nil) .nil) .nil) .nil) (by decide +kernel) (bot_le _) ?_; conv => whnf) | (refine draw_ruleJ (none) (.light 0 <| .light 1 <| .alt 2 false (.alt 3 true (.alt 4 true (.done) .nil) .nil) .nil) (by decide +kernel) (bot_le _) ?_; conv => whnf) | (with_reducible refine @And.intro (guardVC _ _ _ _ _) _ ?_ ?_) <;> conv => whnf | (refine caseB_intro (fun h => ?_) (fun h => ?_) <;> (try simp only [Bool.not_eq_true', Bool.not_eq_false', decide_eq_true_eq, decide_eq_false_iff_not] at h) <;> conv => whnf))
      refine Ret.go (l1Digits_ret (i : Int) (by omega) (by omega) _) ?_
      (first | (refine ⟨⟨_, rfl⟩, _, PH.Le.refl _, bot_le _, ?_⟩; conv => whnf) | conv => whnf)
      have hds := dig2_size (i : Int)
      refine ⟨cat_fits' (by show 1 + _ ≤ _; omega), ?_⟩
      conv => whnf
      intro g5 hg5
      have hq2 : (((⟨#[113]⟩ : ByteArray) ++ dig2 (i : Int))).size ≤ 3 := by rw [ByteArray.size_append]; show 1 + _ ≤ 3; omega
      obtain ⟨q, hqe⟩ : ∃ q : EnA, q = ⟨⟨⟨#[113]⟩ ++ dig2 (i : Int), 200, [], [], ⟨0, 0, 0, 0, 0, false, false⟩, [], 0⟩, none, 0, none, 0, none, 0⟩ := ⟨_, rfl⟩
      have hqc : q.c.cost ≤ 3 := by rw [hqe, En.cost_eq]; show (⟨#[113]⟩ ++ dig2 (i : Int) : ByteArray).size + 0 + 0 + 0 ≤ 3; omega
      have hqi : ∀ N : PH, q.inn N := fun N => by rw [hqe]; exact ⟨Sl.nil, Sl.nil, Sl.nil⟩
      obtain ⟨M5, hM, S5, l5, n5⟩ := rowF (cs := [Tx (⟨#[113]⟩ ++ dig2 (i : Int)), I 200, .slice none 0 0, .slice none 0 0, I 0, I 0, I 0, I 0, I 0, B false, B false, .slice none 0 0, I 0]) (t := 44) q EnA.len (by rw [hqe]; simp) S4 hg5
      rw [← hM]; clear hM
      refine ⟨⟨_, rfl⟩, _, PH.Le.refl _, bot_le _, ?_⟩
      conv => whnf
      have D5 := D4.mono l5
      refine appendR (te := ti44) (f := EnA.cs) (xs := y.tr) (ys := [q]) S5 (n5.ow.sl EnA.len) (⟨D5.t, D5.le, fun g e => D5.f _ (by simp) g e⟩ : New M (rm M5 g) o y.tA y.tc 13 EnA.cs y.tr) EnA.len EnA.one rfl (en_fits _ _ (by show _ + 1 ≤ _; omega)) (by show _ + 1 ≤ _; omega) fun o6 C6 d6 M6 N6 S6 K6 F6 => ?_
      refine ⟨⟨_, rfl⟩, _, PH.Le.refl _, bot_le _, ?_⟩
      conv => whnf
      refine ⟨(⟨y.b, y.g, y.tr ++ [q], y.kp, C6, d6, y.kA, y.kc⟩, o6, i + 1, b), ⟨by simp [slots, leT, hwi], ⟨[], rfl⟩, Nat.zero_le _, rfl, rfl⟩, ⟨D5.appT (hqi _) N6 K6 F6, ?_, ?_, ?_, S6⟩, ?_⟩
      · show (y.tr ++ [q]).length + y.kp.length ≤ 40
        rw [List.length_append]
        show _ + 1 + _ ≤ 40
        omega
      · show i + 1 ≤ (y.tr ++ [q]).length
        rw [List.length_append]
        show _ ≤ _ + 1
        omega
      · have c5 : costL En.cost (conts y.tr) + costL En.cost (conts y.kp) ≤ 60000 + 10 * i := c4
        show costL En.cost (conts (y.tr ++ [q])) + costL En.cost (conts y.kp) ≤ 60000 + 10 * (i + 1)
        have : conts (y.tr ++ [q]) = conts y.tr ++ [q.c] := List.map_append
        rw [this, costL_append]
        have e1 : costL En.cost [q.c] = 1 + q.c.cost := by simp [costL]
        omega
      · show 40 - ((y.tr ++ [q]).length + y.kp.length) < 40 - (y.tr.length + y.kp.length)
        rw [List.length_append]
        show 40 - (_ + 1 + _) < _
        omega
    · conv => whnf
      repeat' (first | (refine ⟨⟨[], rfl⟩, _, PH.Le.refl _, bot_le _, ?_⟩; conv => whnf) | (refine ⟨⟨_, rfl⟩, _, PH.Le.refl _, bot_le _, ?_⟩; conv => whnf) | (refine caseB_true ?_; conv => whnf) | (refine caseB_false ?_; conv => whnf) | ((with_reducible refine caseB_dec (fun h => ?_) (fun h => ?_)) <;> conv => whnf) | ((with_reducible refine caseB_ndec (fun h => ?_) (fun h => ?_)) <;> conv => whnf) | ((with_reducible refine caseB_not (fun h => ?_) (fun h => ?_)) <;> conv => whnf) | (refine draw_ruleJ (none) (.light 0 <| .light 1 <| .light 2 <| .alt 3 false (.light 4 <| .light 5 <| .alt 6 false (.alt 7 false (.light 8 <| .alt 9 true (.done) .nil) .nil) .nil) .nil) (by decide +kernel) (bot_le _) ?_; conv => whnf) | (refine draw_ruleJ (none) (.light 0 <| .light 1 <| .alt 2 false (.alt 3 true (.alt 4 true (.done) .nil) .nil) .nil) (by decide +kernel) (bot_le _) ?_; conv => whnf) | (with_reducible refine @And.intro (guardVC _ _ _ _ _) _ ?_ ?_) <;> conv => whnf | (refine caseB_intro (fun h => ?_) (fun h => ?_) <;> (try simp only [Bool.not_eq_true', Bool.not_eq_false', decide_eq_true_eq, decide_eq_false_iff_not] at h) <;> conv => whnf))
      refine ACall.step (l8BentEntry_ret S4 (by omega)) fun r M5 hh => ?_
      obtain ⟨e, rfl, he, hec, _, S5, l5⟩ := hh
      (first | (refine ⟨⟨_, rfl⟩, _, PH.Le.refl _, bot_le _, ?_⟩; conv => whnf) | conv => whnf)
      exact ⟨_, PH.Le.refl _, y, e, rfl, (D4.inn.mono l5).mono (rm_le _ _), by omega, (he.mono (since_le _ _)).mono (rm_le _ _), hec, S5.le.trans (rm_le _ _)⟩
end Go.Proofs.YtgjaiabenjafeaaGreatDoor
