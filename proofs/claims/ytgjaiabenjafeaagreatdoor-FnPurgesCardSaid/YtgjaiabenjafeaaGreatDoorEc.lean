/-
  DRAWS of stores: whatever they are.
-/
import Derived.Test.YtgjaiabenjafeaaGreatDoorEb
import Derived.Test.YtgjaiabenjafeaaGreatDoorFb
namespace Go.Proofs.YtgjaiabenjafeaaGreatDoor
set_option maxRecDepth 100000
set_option linter.unusedSimpArgs false
set_option linter.unusedVariables false
open Go.Xe
structure Dk (s : Sc) (n : Nat) : Prop where
  b : 0 ≤ s.bud ∧ s.bud ≤ 5000
  g : 0 ≤ s.gd ∧ s.gd ≤ 5000
  a : AptG En.key s.all
  k : keysOk s.all
  n : s.all.length ≤ n
  x : ∀ e ∈ s.all, e.cost ≤ 1200
  y : ∀ e ∈ s.all, bytesOk e.body
theorem costL_bound {es : List En} {k : Nat} (h : ∀ e ∈ es, e.cost ≤ k) : costL En.cost es ≤ es.length * (k + 1) := by
  unfold costL
  induction es with
  | nil => simp
  | cons x r ih =>
    have h1 := h x List.mem_cons_self
    have h2 := ih fun y hy => h y (List.mem_cons_of_mem _ hy)
    simp only [List.map_cons, List.sum_cons, List.length_cons]
    rw [Nat.succ_mul]
    omega
theorem Dk.cost {s : Sc} {n : Nat} (h : Dk s n) (hn : n ≤ 12) : s.cost ≤ 14412 := by
  have h1 := costL_bound (k := 1200) h.x
  have h2 := h.n
  have h3 : costL En.cost s.all = s.cost := costL_append En.cost s.tr s.kp
  rw [h3] at h1
  omega
theorem Dk.more {s : Sc} {n m : Nat} (h : Dk s n) (l : n ≤ m) : Dk s m := ⟨h.b, h.g, h.a, h.k, Nat.le_trans h.n l, h.x, h.y⟩
theorem Dk.put {s : Sc} {n : Nat} (h : Dk s n) {e : En} (he : e.cost ≤ 1200) (hk : e.key ≠ ByteArray.empty) (hy : bytesOk e.body) {r : Ev} (hE : putE s e = some r) : Dk (evS s r) (n + 1) := by
  obtain ⟨a, b, _⟩ := evict_le _ _ _ hE
  have hs : (r.tr ++ r.kp).Sublist ((e :: dropK s.tr e.key) ++ dropK s.kp e.key) := List.Sublist.append a b
  have hd := drop_sub s e.key
  refine ⟨h.b, h.g, (put_apt h.a).sublist hs, (put_keys h.k hk).sub hs, ?_, fun x hx => ?_, fun x hx => ?_⟩
  · have h1 := hs.length_le
    have h2 := hd.length_le
    have h3 := h.n
    show (r.tr ++ r.kp).length ≤ n + 1
    rw [List.cons_append, List.length_cons] at h1
    omega
  · rcases List.mem_cons.1 (hs.subset hx) with rfl | hx
    · exact he
    · exact h.x x (hd.subset hx)
  · rcases List.mem_cons.1 (hs.subset hx) with rfl | hx
    · exact hy
    · exact h.y x (hd.subset hx)
theorem Dk.touch {s : Sc} {n : Nat} (h : Dk s n) {k : ByteArray} (hl : (look s.all k).isSome = true) : Dk (touchS s k) n := by
  obtain ⟨e, hl⟩ := Option.isSome_iff_exists.1 hl
  have hp := touch_perm h.a hl
  exact ⟨h.b, h.g, apt_perm hp h.a, fun x hx => h.k x (hp.subset hx), by rw [hp.length_eq]; exact h.n, fun x hx => h.x x (hp.subset hx), fun x hx => h.y x (hp.subset hx)⟩
/-- Memory without these blocks. -/
def but (M : PH) (L : List (Option Nat)) : PH := fun k => if some k ∈ L then none else M k
theorem but_le (M : PH) (L : List (Option Nat)) : (but M L).Le M := fun k o h => by
  unfold but at h
  split at h
  · cases h
  · exact h
theorem but_keeps (M : PH) (L : List (Option Nat)) : KeepsL L M (but M L) := fun k ob hk hn => by
  unfold but
  rw [if_neg hn]; exact hk
theorem but_in {R M : PH} {L : List (Option Nat)} (l : R.Le M) (f : Fr R L) : R.Le (but M L) := fun k o hk => by
  unfold but
  split
  · rename_i hm
    rw [f _ hm k rfl] at hk; cases hk
  · exact l k o hk
theorem but_fr (M : PH) (L : List (Option Nat)) : Fr (but M L) L := fun b hb g e => by
  subst e
  exact if_pos hb
theorem since_but {M M' : PH} {L : List (Option Nat)} (h : Kn M L) : (since M M').Le (but M' L) := fun k o hk => by
  unfold since at hk
  split at hk
  · rename_i e
    unfold but
    rw [if_neg]
    · exact hk
    · intro hm
      obtain ⟨ob, ho⟩ := h _ hm k rfl
      rw [e] at ho; cases ho
  · cases hk
/-- A put into a store beside another one. -/
theorem l8Put_any (nx out : So) (e : EnA) (R N : PH) (hN : NewS R N nx) (ho : Dso N out) (hap : ∀ a ∈ soL out, ∀ b ∈ soL nx, Apart a b) (he : e.inn (but N (soL nx))) (hd : Dk nx.c 12) (hec : e.c.cost ≤ 1200) (hek : e.c.key ≠ ByteArray.empty) :
    XCall env 56 [.bp 0 0, .v e.val] [soBox nx] N fun r b M' => R.Le M' ∧ Dso M' out ∧ ((r = .tuple #[.slice none 0 0, B false] ∧ ∃ s', b = [soBox s']) ∨ ∃ ev s' A n c, putE nx.c e.c = some ev ∧ r = .tuple #[.slice A n c, B true] ∧ b = [soBox s'] ∧ s'.c = evS nx.c ev ∧ NewS R M' s') := by
  have hlen : nx.p1.length + nx.p2.length ≤ 12 := by
    have h1 := hd.n
    have h2 : nx.c.all.length = nx.p1.length + nx.p2.length := by
      show (nx.p1.map (·.1.c) ++ nx.p2.map (·.1.c)).length = _
      rw [List.length_append, List.length_map, List.length_map]
    omega
  have lR := but_in hN.le hN.fr
  refine (l8Put_ret nx e (but N (soL nx)) N ⟨hN.d, but_le _ _, but_fr _ _⟩ he (by omega) (fun x hx => Nat.le_trans (hd.x x hx) (by decide)) (Nat.le_trans hec (by decide)) hd.a hd.k hek).mono fun r b M' hh => ?_
  have dO := ho.keepsL (but_keeps N (soL nx)) hap
  rcases hh with ⟨_, hr, hl, s', hb⟩ | ⟨ev, s', o, A, c, hE, hr, hb, ec, hP⟩
  · exact ⟨lR.trans hl, dO.mono hl, .inl ⟨hr, s', hb⟩⟩
  · exact ⟨lR.trans hP.st.le, dO.mono hP.st.le, .inr ⟨ev, s', A, _, c, hE, hr, hb, ec, ⟨hP.st.d, lR.trans hP.st.le, hP.st.fr.le lR⟩⟩⟩
section
variable {B : Int} {g g' : Nat} {M0 M : PH} {A : Option Addr} {c : Nat} {bs : List Int}
abbrev Zd := Nat × So × Int
set_option maxHeartbeats 8000000 in
theorem l8Draw_ret (S : Sx B M0 M g A c bs) (hB : B ≤ 4294920000) :
    ACall env 149 [P0 g] M fun r M' => ∃ s : So, r = s.val ∧ NewS (rm M g) (rm M' g) s ∧ Dk s.c 12 ∧ Sx (B + 3000) M0 M' g A c bs ∧ (rm M g).Le (rm M' g) := by
  refine xcall_of_vc Tryz.func149 rfl _ Tryz.ntmps149 _ rfl (fun _ _ => Tryz.call149 _ _) rfl (fun w0 ρ0 => ?_)
  conv => whnf
  intro g1 hg1
  obtain ⟨M1, hM, S1, l1, s1⟩ := buildF (cs := [I 400, I 700, I 1500, I 5000, I 0]) (t := 2) [400, 700, 1500, 5000, 0] rfl S.now hg1
  rw [← hM]; clear hM
  conv => whnf
  refine pickD [400, 700, 1500, 5000, 0] rfl S1 s1 (by simp) (by omega) fun bu M2 hbu S2 l2 => ?_
  have hbu2 : 0 ≤ bu ∧ bu ≤ 5000 := by
    simp only [List.mem_cons, List.not_mem_nil, or_false] at hbu
    omega
  have hq : IntKind.i64.wrap (bu.tdiv 2) = bu / 2 := by rw [Int.tdiv_eq_ediv_of_nonneg hbu2.1, wrap_id (by omega) (by omega)]
  conv => whnf
  rw [hq]
  refine ⟨by decide, ?_⟩
  conv => whnf
  refine ⟨by decide, ?_⟩
  conv => whnf
  rw [hq]
  intro g3 hg3
  obtain ⟨M3, hM, S3, l3, s3⟩ := buildF (cs := [I 0, I (bu / 2), I (bu / 2), I bu]) (t := 2) [0, bu / 2, bu / 2, bu] rfl S2 hg3
  rw [← hM]; clear hM
  conv => whnf
  refine pickD [0, bu / 2, bu / 2, bu] rfl S3 s3 (by simp) (by omega) fun gd M4 hgd S4 l4 => ?_
  have hgd2 : 0 ≤ gd ∧ gd ≤ 5000 := by
    simp only [List.mem_cons, List.not_mem_nil, or_false] at hgd
    omega
  conv => whnf
  refine nextD 12 S4 (by omega) fun n M5 hn S5 l5 => ?_
  have hn := hn (by omega)
  obtain ⟨n', rfl⟩ : ∃ n' : Nat, n = n' := ⟨n.toNat, by omega⟩
  conv => whnf
  refine loop_rule (fun z : Zd => ⟨slots 55 [(0, .v (P0 g)), (2, .bp 0 0), (4, .bp 1 0), (5, .v (I z.1))], [soBox zSo, soBox z.2.1]⟩)
    (fun z M' => NewS (rm M g) (rm M' g) z.2.1 ∧ Dk z.2.1.c (12 - z.1) ∧ z.1 ≤ 12 ∧ z.2.2 ≤ B + 200 + 200 * (12 - (z.1 : Int)) ∧ Sx z.2.2 (rm M g) M' g A c bs) (fun z => z.1) (n', ⟨bu, gd, none, none, 0, [], none, none, 0, []⟩, B + 200) ?_ ?_ ?_
  · exact ⟨by simp [slots, leT], ⟨[], rfl⟩, Nat.zero_le _, rfl, rfl⟩
  · refine ⟨?_, ⟨hbu2, hgd2, List.Pairwise.nil, (fun e he => by cases he), Nat.zero_le _, (fun e he => by cases he), (fun e he => by cases he)⟩, by show n' ≤ 12; omega, by show B + 200 ≤ B + 200 + 200 * (12 - (n' : Int)); omega, S5.below (by show _ ≤ B + 200; omega)⟩
    exact ⟨⟨zDw _, zDw _, fun a ha b hb => by simp [dwL] at ha; subst ha; intro g e; cases e⟩, S5.le, fun b hb g e => by simp [soL, dwL] at hb; subst hb; cases e⟩
  rintro ⟨j, s, B'⟩ M6 ⟨N6, hd6, hj, hB', S6⟩
  have N6 : NewS (rm M g) (rm M6 g) s := N6
  have hd6 : Dk s.c (12 - j) := hd6
  have hj : j ≤ 12 := hj
  have hB' : B' ≤ B + 200 + 200 * (12 - (j : Int)) := hB'
  have S6 : Sx B' (rm M g) M6 g A c bs := S6
  conv => whnf
  refine caseB_dec (fun hb => ?_) (fun hb => ?_)
  · have hb : (0 : Int) < j := hb
    obtain ⟨i, rfl⟩ : ∃ i, j = i + 1 := ⟨j - 1, by omega⟩
    have hw : IntKind.i64.wrap (((i + 1 : Nat) : Int) - 1) = (i : Int) := by rw [wrap_id (by omega) (by omega)]; omega
    have hwi : IntKind.i64.wrap (i : Int) = (i : Int) := wr_id (by omega) (by omega)
    have hcost := hd6.cost (by omega)
    conv => whnf
    have hcp := l8Copy_ret s.sta (rm M6 g) N6.d.inn (by rw [s.sta_c]; omega)
    rw [soBox_eq, s.sta_c] at hcp
    refine besideP (j := 1) (args := []) S6 hcp rfl (by simp [AV.plain]) (fun r b M1 hr => ⟨S6.le.trans (by obtain ⟨⟨y, _, _, hy⟩, _⟩ := hr; exact hy.le), _, hr.2, by simp [AV.plain]⟩) fun r b1 M7 M8 hr l8 S8 => ?_
    obtain ⟨⟨nx, rfl, en, hn7⟩, hbb⟩ := hr
    obtain rfl : b1 = soBox s := by simpa using hbb
    have Ns := (N6.mono hn7.le).mono l8
    have Nn : NewS (rm M g) (rm M8 g) nx := ⟨hn7.d.mono l8, (N6.le.trans hn7.le).trans l8, hn7.fr.le N6.le⟩
    have hap := apart_of N6.d.kn hn7.fr
    conv => whnf
    refine ACall.step (l8Entry_ret S8 (by omega)) fun r M9 hh => ?_
    obtain ⟨y, rfl, hy, hyc, hyk, hyb, S9, l9⟩ := hh
    have hdn : Dk nx.c 12 := by rw [en]; exact hd6.more (by omega)
    conv => whnf
    refine besideP (j := 2) (args := [y.val]) S9 (l8Put_any nx s y (rm M g) (rm M9 g) (Nn.mono l9) (Ns.mono l9).d hap (hy.mono (since_but Nn.d.kn)) hdn hyc hyk) rfl (by simp [AV.plain]) (fun r b M1 hr => ⟨hr.1, by
      rcases hr.2.2 with ⟨_, s', hb⟩ | ⟨_, s', _, _, _, _, _, hb, _⟩
      · exact ⟨_, hb, by simp [AV.plain]⟩
      · exact ⟨_, hb, by simp [AV.plain]⟩⟩) fun r b1 M10 M11 hr l11 S5 => ?_
    obtain ⟨lR, dO, hr⟩ := hr
    rcases hr with ⟨rfl, s', hb⟩ | ⟨ev, s', A', n2, c', hE, rfl, hb, ec, hN⟩
    · obtain rfl : b1 = soBox s' := by simpa using hb
      have N5 : NewS (rm M g) (rm M11 g) s := ⟨dO.mono l11, lR.trans l11, N6.fr⟩
      have hd5 : Dk s.c (12 - i) := hd6.more (by omega)
      have hcs : s.c.cost ≤ 14412 := hd5.cost (by omega)
      conv => whnf
      refine caseB_false ?_
      conv => whnf
      have S5 : Sx (B' + 120) (rm M g) M11 g A c bs := S5
      refine ACall.step (l8Key_ret S5 (by omega)) fun r M6 hh => ?_
      obtain ⟨k, rfl, hk, S6, l6⟩ := hh
      have N6 := N5.mono l6
      conv => whnf
      have hpk := l8Peek_ret s.sta k (rm M6 g) N6.d.inn (by rw [s.sta_c]; omega)
      rw [soBox_eq, s.sta_c] at hpk
      refine besideP (j := 1) (args := [Tx k]) S6 hpk rfl (by simp [AV.plain]) (fun r b M1 hr => ⟨S6.le.trans (by obtain ⟨⟨y, _, _, hy⟩, _⟩ := hr; exact hy.le), _, hr.2, by simp [AV.plain]⟩) fun r b1 M7 M8 hr l8 S8 => ?_
      obtain ⟨⟨y, rfl, ey, hy⟩, hb⟩ := hr
      obtain rfl : b1 = soBox s := by simpa using hb
      have N8 := (N6.mono hy.le).mono l8
      conv => whnf
      cases hlk : (look s.c.all k).isSome with
      | false =>
        repeat' (first | (refine ⟨⟨[], rfl⟩, _, PH.Le.refl _, PH.Le.refl _, ?_⟩; conv => whnf) | (refine caseB_true ?_; conv => whnf) | (refine caseB_false ?_; conv => whnf) | ((with_reducible refine caseB_dec (fun h => ?_) (fun h => ?_)) <;> conv => whnf) | ((with_reducible refine caseB_ndec (fun h => ?_) (fun h => ?_)) <;> conv => whnf) | ((with_reducible refine caseB_not (fun h => ?_) (fun h => ?_)) <;> conv => whnf) | (with_reducible refine @And.intro (guardVC _ _ _ _ _) _ ?_ ?_) <;> conv => whnf | (refine caseB_intro (fun h => ?_) (fun h => ?_) <;> (try simp only [Bool.not_eq_true', Bool.not_eq_false', decide_eq_true_eq, decide_eq_false_iff_not] at h) <;> conv => whnf))
        exact ⟨(i, s, B' + 200), ⟨by simp [slots, leT, hw, hwi], ⟨[_, _], rfl⟩, by simp, rfl, rfl⟩, ⟨N8, hd5, by omega, by show B' + 200 ≤ B + 200 + 200 * (12 - (i : Int)); omega, (show Sx (B' + 200) (rm M g) _ g A c bs from Sx.below S8 (by omega))⟩, Nat.lt_succ_self _⟩
      | true =>
        repeat' (first | (refine ⟨⟨[], rfl⟩, _, PH.Le.refl _, PH.Le.refl _, ?_⟩; conv => whnf) | (refine caseB_true ?_; conv => whnf) | (refine caseB_false ?_; conv => whnf) | ((with_reducible refine caseB_dec (fun h => ?_) (fun h => ?_)) <;> conv => whnf) | ((with_reducible refine caseB_ndec (fun h => ?_) (fun h => ?_)) <;> conv => whnf) | ((with_reducible refine caseB_not (fun h => ?_) (fun h => ?_)) <;> conv => whnf) | (with_reducible refine @And.intro (guardVC _ _ _ _ _) _ ?_ ?_) <;> conv => whnf | (refine caseB_intro (fun h => ?_) (fun h => ?_) <;> (try simp only [Bool.not_eq_true', Bool.not_eq_false', decide_eq_true_eq, decide_eq_false_iff_not] at h) <;> conv => whnf))
        refine chanceD S8 (by omega) fun ch M9 S9 l9 => ?_
        have N9 := N8.mono l9
        conv => whnf
        cases ch with
        | false =>
          repeat' (first | (refine ⟨⟨[], rfl⟩, _, PH.Le.refl _, PH.Le.refl _, ?_⟩; conv => whnf) | (refine caseB_true ?_; conv => whnf) | (refine caseB_false ?_; conv => whnf) | ((with_reducible refine caseB_dec (fun h => ?_) (fun h => ?_)) <;> conv => whnf) | ((with_reducible refine caseB_ndec (fun h => ?_) (fun h => ?_)) <;> conv => whnf) | ((with_reducible refine caseB_not (fun h => ?_) (fun h => ?_)) <;> conv => whnf) | (with_reducible refine @And.intro (guardVC _ _ _ _ _) _ ?_ ?_) <;> conv => whnf | (refine caseB_intro (fun h => ?_) (fun h => ?_) <;> (try simp only [Bool.not_eq_true', Bool.not_eq_false', decide_eq_true_eq, decide_eq_false_iff_not] at h) <;> conv => whnf))
          exact ⟨(i, s, B' + 200), ⟨by simp [slots, leT, hw, hwi], ⟨[_, _], rfl⟩, by simp, rfl, rfl⟩, ⟨N9, hd5, by omega, by show B' + 200 ≤ B + 200 + 200 * (12 - (i : Int)); omega, (show Sx (B' + 200) (rm M g) _ g A c bs from Sx.below S9 (by omega))⟩, Nat.lt_succ_self _⟩
        | true =>
          repeat' (first | (refine ⟨⟨[], rfl⟩, _, PH.Le.refl _, PH.Le.refl _, ?_⟩; conv => whnf) | (refine caseB_true ?_; conv => whnf) | (refine caseB_false ?_; conv => whnf) | ((with_reducible refine caseB_dec (fun h => ?_) (fun h => ?_)) <;> conv => whnf) | ((with_reducible refine caseB_ndec (fun h => ?_) (fun h => ?_)) <;> conv => whnf) | ((with_reducible refine caseB_not (fun h => ?_) (fun h => ?_)) <;> conv => whnf) | (with_reducible refine @And.intro (guardVC _ _ _ _ _) _ ?_ ?_) <;> conv => whnf | (refine caseB_intro (fun h => ?_) (fun h => ?_) <;> (try simp only [Bool.not_eq_true', Bool.not_eq_false', decide_eq_true_eq, decide_eq_false_iff_not] at h) <;> conv => whnf))
          refine besideP (j := 1) (args := [Tx k]) S9 (l8Touch_ret s k (rm M g) (rm M9 g) N9 (by omega) hd5.g.1 hlk) rfl (by simp [AV.plain]) (fun r b M1 hr => ⟨(by obtain ⟨_, s', _, _, hn⟩ := hr; exact hn.le), by obtain ⟨_, s', hb, _, _⟩ := hr; exact ⟨_, hb, by simp [AV.plain]⟩⟩) fun r b1 M10 M11 hr l11 S11 => ?_
          obtain ⟨rfl, s2, hb2, ec2, hn2⟩ := hr
          obtain rfl : b1 = soBox s2 := by simpa using hb2
          conv => whnf
          exact ⟨(i, s2, B' + 200), ⟨by simp [slots, leT, hw, hwi], ⟨[_, _], rfl⟩, by simp, rfl, rfl⟩, ⟨hn2.mono l11, by rw [ec2]; exact hd5.touch hlk, by omega, by show B' + 200 ≤ B + 200 + 200 * (12 - (i : Int)); omega, (show Sx (B' + 200) (rm M g) _ g A c bs from Sx.below S11 (by omega))⟩, Nat.lt_succ_self _⟩

    · obtain rfl : b1 = soBox s' := by simpa using hb
      have N5 : NewS (rm M g) (rm M11 g) s' := hN.mono l11
      have hd5 : Dk s'.c (12 - i) := by rw [ec, en] at *; exact (hd6.put hyc hyk hyb (by rw [← en]; exact hE)).more (by omega)
      have hcs : s'.c.cost ≤ 14412 := hd5.cost (by omega)
      conv => whnf
      refine caseB_true ?_
      conv => whnf
      have S5 : Sx (B' + 120) (rm M g) M11 g A c bs := S5
      refine ACall.step (l8Key_ret S5 (by omega)) fun r M6 hh => ?_
      obtain ⟨k, rfl, hk, S6, l6⟩ := hh
      have N6 := N5.mono l6
      conv => whnf
      have hpk := l8Peek_ret s'.sta k (rm M6 g) N6.d.inn (by rw [s'.sta_c]; omega)
      rw [soBox_eq, s'.sta_c] at hpk
      refine besideP (j := 1) (args := [Tx k]) S6 hpk rfl (by simp [AV.plain]) (fun r b M1 hr => ⟨S6.le.trans (by obtain ⟨⟨y, _, _, hy⟩, _⟩ := hr; exact hy.le), _, hr.2, by simp [AV.plain]⟩) fun r b1 M7 M8 hr l8 S8 => ?_
      obtain ⟨⟨y, rfl, ey, hy⟩, hb⟩ := hr
      obtain rfl : b1 = soBox s' := by simpa using hb
      have N8 := (N6.mono hy.le).mono l8
      conv => whnf
      cases hlk : (look s'.c.all k).isSome with
      | false =>
        repeat' (first | (refine ⟨⟨[], rfl⟩, _, PH.Le.refl _, PH.Le.refl _, ?_⟩; conv => whnf) | (refine caseB_true ?_; conv => whnf) | (refine caseB_false ?_; conv => whnf) | ((with_reducible refine caseB_dec (fun h => ?_) (fun h => ?_)) <;> conv => whnf) | ((with_reducible refine caseB_ndec (fun h => ?_) (fun h => ?_)) <;> conv => whnf) | ((with_reducible refine caseB_not (fun h => ?_) (fun h => ?_)) <;> conv => whnf) | (with_reducible refine @And.intro (guardVC _ _ _ _ _) _ ?_ ?_) <;> conv => whnf | (refine caseB_intro (fun h => ?_) (fun h => ?_) <;> (try simp only [Bool.not_eq_true', Bool.not_eq_false', decide_eq_true_eq, decide_eq_false_iff_not] at h) <;> conv => whnf))
        exact ⟨(i, s', B' + 200), ⟨by simp [slots, leT, hw, hwi], ⟨[_, _], rfl⟩, by simp, rfl, rfl⟩, ⟨N8, hd5, by omega, by show B' + 200 ≤ B + 200 + 200 * (12 - (i : Int)); omega, (show Sx (B' + 200) (rm M g) _ g A c bs from Sx.below S8 (by omega))⟩, Nat.lt_succ_self _⟩
      | true =>
        repeat' (first | (refine ⟨⟨[], rfl⟩, _, PH.Le.refl _, PH.Le.refl _, ?_⟩; conv => whnf) | (refine caseB_true ?_; conv => whnf) | (refine caseB_false ?_; conv => whnf) | ((with_reducible refine caseB_dec (fun h => ?_) (fun h => ?_)) <;> conv => whnf) | ((with_reducible refine caseB_ndec (fun h => ?_) (fun h => ?_)) <;> conv => whnf) | ((with_reducible refine caseB_not (fun h => ?_) (fun h => ?_)) <;> conv => whnf) | (with_reducible refine @And.intro (guardVC _ _ _ _ _) _ ?_ ?_) <;> conv => whnf | (refine caseB_intro (fun h => ?_) (fun h => ?_) <;> (try simp only [Bool.not_eq_true', Bool.not_eq_false', decide_eq_true_eq, decide_eq_false_iff_not] at h) <;> conv => whnf))
        refine chanceD S8 (by omega) fun ch M9 S9 l9 => ?_
        have N9 := N8.mono l9
        conv => whnf
        cases ch with
        | false =>
          repeat' (first | (refine ⟨⟨[], rfl⟩, _, PH.Le.refl _, PH.Le.refl _, ?_⟩; conv => whnf) | (refine caseB_true ?_; conv => whnf) | (refine caseB_false ?_; conv => whnf) | ((with_reducible refine caseB_dec (fun h => ?_) (fun h => ?_)) <;> conv => whnf) | ((with_reducible refine caseB_ndec (fun h => ?_) (fun h => ?_)) <;> conv => whnf) | ((with_reducible refine caseB_not (fun h => ?_) (fun h => ?_)) <;> conv => whnf) | (with_reducible refine @And.intro (guardVC _ _ _ _ _) _ ?_ ?_) <;> conv => whnf | (refine caseB_intro (fun h => ?_) (fun h => ?_) <;> (try simp only [Bool.not_eq_true', Bool.not_eq_false', decide_eq_true_eq, decide_eq_false_iff_not] at h) <;> conv => whnf))
          exact ⟨(i, s', B' + 200), ⟨by simp [slots, leT, hw, hwi], ⟨[_, _], rfl⟩, by simp, rfl, rfl⟩, ⟨N9, hd5, by omega, by show B' + 200 ≤ B + 200 + 200 * (12 - (i : Int)); omega, (show Sx (B' + 200) (rm M g) _ g A c bs from Sx.below S9 (by omega))⟩, Nat.lt_succ_self _⟩
        | true =>
          repeat' (first | (refine ⟨⟨[], rfl⟩, _, PH.Le.refl _, PH.Le.refl _, ?_⟩; conv => whnf) | (refine caseB_true ?_; conv => whnf) | (refine caseB_false ?_; conv => whnf) | ((with_reducible refine caseB_dec (fun h => ?_) (fun h => ?_)) <;> conv => whnf) | ((with_reducible refine caseB_ndec (fun h => ?_) (fun h => ?_)) <;> conv => whnf) | ((with_reducible refine caseB_not (fun h => ?_) (fun h => ?_)) <;> conv => whnf) | (with_reducible refine @And.intro (guardVC _ _ _ _ _) _ ?_ ?_) <;> conv => whnf | (refine caseB_intro (fun h => ?_) (fun h => ?_) <;> (try simp only [Bool.not_eq_true', Bool.not_eq_false', decide_eq_true_eq, decide_eq_false_iff_not] at h) <;> conv => whnf))
          refine besideP (j := 1) (args := [Tx k]) S9 (l8Touch_ret s' k (rm M g) (rm M9 g) N9 (by omega) hd5.g.1 hlk) rfl (by simp [AV.plain]) (fun r b M1 hr => ⟨(by obtain ⟨_, s', _, _, hn⟩ := hr; exact hn.le), by obtain ⟨_, s', hb, _, _⟩ := hr; exact ⟨_, hb, by simp [AV.plain]⟩⟩) fun r b1 M10 M11 hr l11 S11 => ?_
          obtain ⟨rfl, s2, hb2, ec2, hn2⟩ := hr
          obtain rfl : b1 = soBox s2 := by simpa using hb2
          conv => whnf
          exact ⟨(i, s2, B' + 200), ⟨by simp [slots, leT, hw, hwi], ⟨[_, _], rfl⟩, by simp, rfl, rfl⟩, ⟨hn2.mono l11, by rw [ec2]; exact hd5.touch hlk, by omega, by show B' + 200 ≤ B + 200 + 200 * (12 - (i : Int)); omega, (show Sx (B' + 200) (rm M g) _ g A c bs from Sx.below S11 (by omega))⟩, Nat.lt_succ_self _⟩

  · have hb : ¬ (0 : Int) < j := hb
    have hj0 : j = 0 := by omega
    subst hj0
    conv => whnf
    exact ⟨_, PH.Le.refl _, s, rfl, N6, hd6, S.back (S6.below (by omega)), N6.le⟩
end
end Go.Proofs.YtgjaiabenjafeaaGreatDoor
