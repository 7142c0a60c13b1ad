/-
  CONTRACTS AND THE LAW: an entry looked at.
-/
import Derived.Test.YtafgnmiflngjhaaGreatDoorWa
namespace Go.Proofs.YtafgnmiflngjhaaGreatDoor
set_option maxRecDepth 100000
set_option linter.unusedSimpArgs false
set_option linter.unusedVariables false
open Go.Xe
theorem Ed.inn {M : PH} {y : EP} (h : Ed M y) : y.1.inn M := ⟨h.h.sl Hd.len, h.y.sl by_len, h.t.sl st_len⟩
theorem Ed.keepsL {M M' : PH} {p : EP} {L : List (Option Nat)} (h : Ed M p) (k : KeepsL L M M') (ha : ∀ a ∈ EP.blks p, ∀ b ∈ L, Apart a b) : Ed M' p :=
  ⟨ow_keepsL h.h k (ha _ (by simp [EP.blks])), ow_keepsL h.y k (ha _ (by simp [EP.blks])), ow_keepsL h.t k (ha _ (by simp [EP.blks]))⟩
abbrev erV (k : Int) (x : EnA) : Value := .agg #[I k, Tx x.c.key, I x.c.st, .slice x.hA x.c.hs.length x.hc, .slice x.bA x.c.body.length x.bc, I x.c.mt.at_, I x.c.mt.age, I x.c.mt.life, I x.c.mt.swr, I x.c.mt.sie, B x.c.mt.soft, B x.c.mt.noc, .slice x.tA x.c.tags.length x.tc, I x.c.pins]
noncomputable def pk (s : Sc) (k : ByteArray) : En := if swF s k = 0 then pkE s k else zEn
theorem swF_0 {s : Sc} {k : ByteArray} (h : swF s k = 0) : stFault s = 0 ∧ (look s.all k).isSome = true := by
  unfold swF at h
  split at h
  · exact absurd h ‹_›
  · rename_i h1
    split at h
    · cases h
    · rename_i h2
      refine ⟨by simpa using h1, ?_⟩
      cases hl : look s.all k with
      | none => exact absurd hl h2
      | some e => rfl
theorem peekEntry_impl (x : StA) (k : ByteArray) (M : PH) (hi : x.inn M) (hco : x.c.cost ≤ 1048576) :
    ACall env 34 [x.val, Tx k] M fun r M' => ∃ y : EP, r = erV (swF x.c k) y.1 ∧ y.1.c = pk x.c k ∧ NewE M M' y := by
  obtain ⟨n1, n2, hd⟩ := st_split hco
  have hf := findP_cases k hi
  refine xcall_of_vc Tryz.func34 rfl _ Tryz.ntmps34 _ rfl (fun _ _ => Tryz.call34 _ _) rfl (fun w0 ρ0 => ?_)
  conv => whnf
  refine Ret.go (storeWith_ret x k _ hi hco) ?_
  conv => whnf
  refine caseB_ndec (fun h => ?_) (fun h => ?_)
  · conv => whnf
    exact ⟨_, PH.Le.refl _, zEP, rfl, by unfold pk; rw [if_neg h]; rfl, zEP_new M⟩
  conv => whnf
  refine XCall.lift (find_ret x k M hi n1 n2) [0] ?_ (by simp) (by simp) (by simp [AV.plain]) ?_
  · simp [ren]
  rintro r bs' M1 ⟨rfl, rfl, rfl⟩
  refine ⟨by simp [AV.plain], ?_⟩
  rcases hf with ⟨e1, e2⟩ | ⟨a, y, hy, e1, e2, hc⟩
  · have := (swF_0 h).2
    rw [e2] at this
    cases this
  rw [e1]
  have hyi : y.inn M1 := (List.mem_append.1 hy).elim (fun h => hi.t.inn y h) (fun h => hi.k.inn y h)
  have hyc := hd y hy
  have e3 : pk x.c k = y.c := by unfold pk; rw [if_pos h]; unfold pkE; rw [e2]; rfl
  rw [e3, h]
  conv => whnf
  refine ⟨_, hc, rfl, ?_⟩
  conv => whnf
  refine ACall.step (copyEntry_ret y _ hyi hyc) fun v M2 hh => ?_
  obtain ⟨z, rfl, ez, hz⟩ := hh
  conv => whnf
  exact ⟨_, PH.Le.refl _, z, rfl, ez, hz⟩
theorem peekEntry_spec (x : StA) (k : ByteArray) (M : PH) (hi : x.inn M) (hco : x.c.cost ≤ 1048576) :
    ACall env 33 [x.val, Tx k] M fun r M' => ∃ y : EP, r = erV (swF x.c k) y.1 ∧ y.1.c = pk x.c k ∧ NewE M M' y := by
  refine xcall_of_vc Tryz.func33 rfl _ Tryz.ntmps33 _ rfl (fun _ _ => Tryz.call33 _ _) rfl (fun w0 ρ0 => ?_)
  conv => whnf
  refine Ret.go (storeFault_spec x _ hi hco) ?_
  conv => whnf
  refine caseB_ndec (fun h => ?_) (fun h => ?_)
  · conv => whnf
    have e : swF x.c k = stFault x.c := by unfold swF; rw [if_pos h]
    exact ⟨_, PH.Le.refl _, zEP, by rw [e]; rfl, by unfold pk; rw [e, if_neg h]; rfl, zEP_new M⟩
  conv => whnf
  refine XCall.lift (l8Peek_ret x k M hi hco) [0] ?_ (by simp) (by simp) (by simp [AV.plain]) ?_
  · simp [ren]
  rintro r bs' M1 ⟨⟨y, rfl, ey, hy⟩, rfl⟩
  refine ⟨by simp [AV.plain], ?_⟩
  cases hl : look x.c.all k with
  | none =>
    have e : swF x.c k = 4 := by unfold swF; rw [if_neg (by simpa using h), if_pos hl]
    conv => whnf
    refine caseB_true ?_
    conv => whnf
    exact ⟨M, hy.le, zEP, by rw [e]; rfl, by unfold pk; rw [e]; rfl, zEP_new M⟩
  | some e0 =>
    have e : swF x.c k = 0 := by unfold swF; rw [if_neg (by simpa using h), if_neg (by rw [hl]; simp)]
    conv => whnf
    refine caseB_false ?_
    conv => whnf
    exact ⟨_, PH.Le.refl _, y, by rw [e]; rfl, by rw [ey]; unfold pk; rw [if_pos e], hy⟩
theorem eqER_ret (k : Int) (x y : EnA) (M : PH) (hi : x.inn M) (hi' : y.inn M) (e : x.c = y.c) (hco : x.c.cost ≤ 1048576) : Ret 35 [erV k x, erV k y] M (B true) := by
  refine xcall_of_vc Tryz.func35 rfl _ Tryz.ntmps35 _ rfl (fun _ _ => Tryz.call35 _ _) rfl (fun w0 ρ0 => ?_)
  conv => whnf
  repeat' (first | (refine ⟨⟨[], rfl⟩, _, PH.Le.refl _, PH.Le.refl _, ?_⟩; conv => whnf) | (refine caseB_true ?_; conv => whnf) | (refine caseB_false ?_; conv => whnf) | ((with_reducible refine caseB_dec (fun h => ?_) (fun h => ?_)) <;> conv => whnf) | ((with_reducible refine caseB_ndec (fun h => ?_) (fun h => ?_)) <;> conv => whnf) | ((with_reducible refine caseB_not (fun h => ?_) (fun h => ?_)) <;> conv => whnf) | (refine Ret.go (eqEntry_ret x y _ hi hi' e hco) ?_; conv => whnf) | (with_reducible refine @And.intro (guardVC _ _ _ _ _) _ ?_ ?_) <;> conv => whnf | (refine caseB_intro (fun h => ?_) (fun h => ?_) <;> (try simp only [Bool.not_eq_true', Bool.not_eq_false', decide_eq_true_eq, decide_eq_false_iff_not] at h) <;> conv => whnf))
  all_goals first | (exfalso; exact h rfl; done) | exact ⟨_, PH.Le.refl _, rfl, rfl⟩
def m3 (e : En) : En := { e with hs := marksL mkH 2 1 e.hs.length, body := marksL mkB 1 (1 + 2 * e.hs.length) e.body.length, tags := marksL mText 1 (1 + 2 * e.hs.length + 1 * e.body.length) e.tags.length }
abbrev m3k (e : En) : Int := 1 + 2 * (e.hs.length : Int) + 1 * (e.body.length : Int) + 1 * (e.tags.length : Int)
theorem apart3 {y : EP} (h : (EP.blks y).Pairwise Apart) : Apart y.2.1 y.2.2.1 ∧ Apart y.2.1 y.2.2.2 ∧ Apart y.2.2.1 y.2.2.2 := by
  unfold EP.blks at h
  simp only [List.pairwise_cons, List.mem_cons, List.not_mem_nil, or_false, forall_eq_or_imp, forall_eq] at h
  exact ⟨h.1.1, h.1.2, h.2.1⟩
theorem markEntry_ret (y : EP) (M : PH) (h : Ed M y) (hp : (EP.blks y).Pairwise Apart) (hco : y.1.c.cost ≤ 1048576) :
    ACall env 25 [y.1.val, I 1] M fun r M' => r = I (m3k y.1.c) ∧ Ed M' (y.wth (m3 y.1.c)) ∧ KeepsL (EP.blks y) M M' := by
  obtain ⟨_, _, hn1, hn2, hn3⟩ := En.hn hco
  obtain ⟨p12, p13, p23⟩ := apart3 hp
  refine xcall_of_vc Tryz.func25 rfl _ Tryz.ntmps25 _ rfl (fun _ _ => Tryz.call25 _ _) rfl (fun w0 ρ0 => ?_)
  conv => whnf
  refine ACall.step (markHeaderS_ret _ _ _ _ 1 M h.h (by omega) ⟨by omega, by omega⟩) fun v M1 hh => ?_
  obtain ⟨rfl, h1, k1⟩ := hh
  have y1 := h.y.keeps k1 p12.symm
  have t1 := h.t.keeps k1 p13.symm
  conv => whnf
  refine ACall.step (markByteS_ret _ _ _ _ (1 + 2 * (y.1.c.hs.length : Int)) M1 y1 (by omega) ⟨by omega, by omega⟩) fun v M2 hh => ?_
  obtain ⟨rfl, h2, k2⟩ := hh
  have h1 := h1.keeps k2 p12
  have t2 := t1.keeps k2 p23.symm
  conv => whnf
  refine ACall.step (markStringS_ret _ _ _ _ (1 + 2 * (y.1.c.hs.length : Int) + 1 * (y.1.c.body.length : Int)) M2 t2 (by omega) ⟨by omega, by omega⟩) fun v M3 hh => ?_
  obtain ⟨rfl, h3, k3⟩ := hh
  have h1 := h1.keeps k3 p13
  have h2 := h2.keeps k3 p23
  conv => whnf
  exact ⟨_, PH.Le.refl _, rfl, ⟨h1, h2, h3⟩, ((Keeps.inL k1 (show y.2.1 ∈ [y.2.1, y.2.2.1, y.2.2.2] by simp)).trans (Keeps.inL k2 (show y.2.2.1 ∈ [y.2.1, y.2.2.1, y.2.2.2] by simp))).trans (Keeps.inL k3 (show y.2.2.2 ∈ [y.2.1, y.2.2.1, y.2.2.2] by simp))⟩
theorem heldEntry_ret (y : EP) (M : PH) (h : Ed M (y.wth (m3 y.1.c))) (hco : y.1.c.cost ≤ 1048576) :
    Ret 102 [y.1.val, I 1] M (I (m3k y.1.c)) := by
  obtain ⟨_, _, hn1, hn2, hn3⟩ := En.hn hco
  have s1 : Sl M y.1.hA 2 Hd.cs (marksL mkH 2 1 y.1.c.hs.length) := h.h.sl Hd.len
  have s2 : Sl M y.1.bA 1 byC (marksL mkB 1 (1 + 2 * y.1.c.hs.length) y.1.c.body.length) := h.y.sl by_len
  have s3 : Sl M y.1.tA 1 stC (marksL mText 1 (1 + 2 * y.1.c.hs.length + 1 * y.1.c.body.length) y.1.c.tags.length) := h.t.sl st_len
  refine xcall_of_vc Tryz.func102 rfl _ Tryz.ntmps102 _ rfl (fun _ _ => Tryz.call102 _ _) rfl (fun w0 ρ0 => ?_)
  conv => whnf
  refine Ret.go (heldHeaderS_ret y.1.hA y.1.hc _ _ _ s1 (by omega) ⟨by omega, by omega⟩) ?_
  conv => whnf
  refine caseB_dec (fun h => ?_) (fun _ => ?_)
  · exfalso; omega
  conv => whnf
  refine Ret.go (heldByteS_ret y.1.bA y.1.bc _ _ _ s2 (by omega) ⟨by omega, by omega⟩) ?_
  conv => whnf
  refine caseB_dec (fun h => ?_) (fun _ => ?_)
  · exfalso; omega
  conv => whnf
  refine Ret.go (heldStringS_ret y.1.tA y.1.tc _ _ _ s3 (by omega) ⟨by omega, by omega⟩) ?_
  conv => whnf
  refine caseB_dec (fun h => ?_) (fun _ => ?_)
  · exfalso; omega
  conv => whnf
  exact ⟨_, PH.Le.refl _, rfl, rfl⟩
theorem markER_ret (k : Int) (y : EP) (M : PH) (h : Ed M y) (hp : (EP.blks y).Pairwise Apart) (hco : y.1.c.cost ≤ 1048576) :
    ACall env 36 [erV k y.1, I 1] M fun r M' => r = I (m3k y.1.c) ∧ Ed M' (y.wth (m3 y.1.c)) ∧ KeepsL (EP.blks y) M M' := by
  refine xcall_of_vc Tryz.func36 rfl _ Tryz.ntmps36 _ rfl (fun _ _ => Tryz.call36 _ _) rfl (fun w0 ρ0 => ?_)
  conv => whnf
  refine ACall.step (markEntry_ret y M h hp hco) fun v M1 hh => ?_
  obtain ⟨rfl, h1, h2⟩ := hh
  conv => whnf
  exact ⟨_, PH.Le.refl _, rfl, h1, h2⟩
theorem heldER_ret (k : Int) (y : EP) (M : PH) (h : Ed M (y.wth (m3 y.1.c))) (hco : y.1.c.cost ≤ 1048576) : Ret 37 [erV k y.1, I 1] M (I (m3k y.1.c)) := by
  have h0 : 0 ≤ m3k y.1.c := by show 0 ≤ 1 + 2 * (y.1.c.hs.length : Int) + 1 * (y.1.c.body.length : Int) + 1 * (y.1.c.tags.length : Int); omega
  refine xcall_of_vc Tryz.func37 rfl _ Tryz.ntmps37 _ rfl (fun _ _ => Tryz.call37 _ _) rfl (fun w0 ρ0 => ?_)
  conv => whnf
  refine Ret.go (heldEntry_ret y M h hco) ?_
  conv => whnf
  refine caseB_dec (fun h => ?_) (fun _ => ?_)
  · exfalso; have h : m3k y.1.c < 0 := h; omega
  conv => whnf
  exact ⟨_, PH.Le.refl _, rfl, rfl⟩
theorem look_mem {es : List En} {k : ByteArray} {e : En} (h : look es k = some e) : e ∈ es := List.mem_of_find?_eq_some h
theorem zEn_cost : zEn.cost = 0 := rfl
theorem pk_cost {s : Sc} (k : ByteArray) (h : s.cost ≤ 1048576) : (pk s k).cost ≤ 1048576 := by
  unfold pk pkE
  split
  · cases hl : look s.all k with
    | none => rw [Option.getD_none, zEn_cost]; omega
    | some e =>
      have hm := look_mem hl
      rw [Option.getD_some]
      unfold Sc.cost at h
      rcases List.mem_append.1 hm with hm | hm
      · have := costL_le (f := En.cost) hm; omega
      · have := costL_le (f := En.cost) hm; omega
  · rw [zEn_cost]; omega
theorem peekEntry_law (x : StA) (k : ByteArray) (M : PH) (hi : x.inn M) (ho : x.c.okl) :
    ACall env 5 [x.val, Tx k] M fun r M' => r = B true ∧ M.Le M' := by
  refine xcall_of_vc Tryz.func5 rfl _ Tryz.ntmps5 _ rfl (fun _ _ => Tryz.call5 _ _) rfl (fun w0 ρ0 => ?_)
  conv => whnf
  refine caseB_dec (fun h => ?_) (fun _ => ?_)
  · conv => whnf
    exact ⟨_, PH.Le.refl _, rfl, PH.Le.refl _⟩
  conv => whnf
  refine ACall.step (szStore_ret x _ M hi ho (by omega) (by omega)) fun v M0 hh => ?_
  obtain ⟨m, rfl, rfl, hm⟩ := hh
  conv => whnf
  refine caseB_dec (fun h0 => ?_) (fun h0 => ?_)
  · conv => whnf
    exact ⟨_, PH.Le.refl _, rfl, PH.Le.refl _⟩
  have hm := hm (by omega)
  have hco : x.c.cost ≤ 1048576 := by omega
  clear hm h0 ho
  have hpc := pk_cost k hco
  conv => whnf
  refine ACall.step (toStore_ret x _ hi hco) fun v M1 hh => ?_
  obtain ⟨y1, rfl, e1, l1, i1⟩ := hh
  conv => whnf
  refine ACall.step (peekEntry_spec y1 k M1 i1 (by rw [e1]; exact hco)) fun v M2 hh => ?_
  obtain ⟨z1, rfl, c1, N1⟩ := hh
  rw [e1] at c1 ⊢
  have l2 := l1.trans N1.le
  conv => whnf
  refine ACall.step (toStore_own x _ (hi.mono l2) hco) fun v M3 hh => ?_
  obtain ⟨s, rfl, es, l3, D, F⟩ := hh
  have l4 := l2.trans l3
  conv => whnf
  have hsv := s.sta_val
  have hsc := s.sta_c
  have hcs : s.sta.c.cost ≤ 1048576 := by rw [hsc, es]; exact hco
  have hI := peekEntry_impl s.sta k M3 D.inn hcs
  rw [hsv, hsc, es] at hI
  refine ACall.step hI fun v M4 hh => ?_
  obtain ⟨z2, rfl, c2, N2⟩ := hh
  have l5 := l4.trans N2.le
  conv => whnf
  have W1 := N1.ed.mono (l3.trans N2.le)
  have W2 := N2.ed
  have ap1 := apart_of N1.ed.kn F
  have ap2 : ∀ a ∈ EP.blks z2, ∀ b ∈ soL s, Apart a b := fun a ha b hb => (apart_of D.kn N2.fr b hb a ha).symm
  have ap12 : ∀ a ∈ EP.blks z1, ∀ b ∈ EP.blks z2, Apart a b := apart_of (N1.ed.mono l3).kn N2.fr
  have D := D.mono N2.le
  have q12 : z2.1.c = z1.1.c := by rw [c1, c2]
  have q2 : z2.1.c.cost ≤ 1048576 := by rw [c2]; exact hpc
  refine Ret.go (eqER_ret _ z2.1 z1.1 _ W2.inn W1.inn q12 q2) ?_
  conv => whnf
  refine caseB_false ?_
  conv => whnf
  repeat' (first | (refine ⟨⟨[], rfl⟩, _, PH.Le.refl _, PH.Le.refl _, ?_⟩; conv => whnf) | (refine caseB_true ?_; conv => whnf) | (refine caseB_false ?_; conv => whnf) | ((with_reducible refine caseB_dec (fun h => ?_) (fun h => ?_)) <;> conv => whnf) | ((with_reducible refine caseB_ndec (fun h => ?_) (fun h => ?_)) <;> conv => whnf) | ((with_reducible refine caseB_not (fun h => ?_) (fun h => ?_)) <;> conv => whnf) | (refine draw_rule (.light 0 <| .light 1 <| .alt 2 false (.alt 3 false (.light 4 <| .done) .nil) .nil) (by decide +kernel) ?_; conv => whnf) | (with_reducible refine @And.intro (guardVC _ _ _ _ _) _ ?_ ?_) <;> conv => whnf | (refine caseB_intro (fun h => ?_) (fun h => ?_) <;> (try simp only [Bool.not_eq_true', Bool.not_eq_false', decide_eq_true_eq, decide_eq_false_iff_not] at h) <;> conv => whnf))
  refine ACall.step (toStore_ret x _ (hi.mono l5) hco) fun v M5 hh => ?_
  obtain ⟨y5, rfl, e5, l6, i5⟩ := hh
  (first | (refine ⟨⟨[], rfl⟩, _, l6, PH.Le.refl _, ?_⟩; conv => whnf) | conv => whnf)
  have D := D.mono l6
  have W1 := W1.mono l6
  have W2 := W2.mono l6
  have hq := eqStore_ret s.sta y5 _ D.inn i5 (by rw [hsc, es, e5]) hcs
  rw [hsv] at hq
  refine Ret.go hq ?_
  (first | (refine ⟨⟨[], rfl⟩, _, PH.Le.refl _, PH.Le.refl _, ?_⟩; conv => whnf) | conv => whnf)
  refine caseB_false ?_
  conv => whnf
  have mok : Mok 1 s := Mok.of (by omega) (by rw [← hsc]; omega)
  refine ACall.step (markStore_ret s 1 _ D mok) fun v M6 hh => ?_
  obtain ⟨s', rfl, _, _, K6⟩ := hh
  have hps := posS_end mok
  have W1 := W1.keepsL K6 ap1
  have W2 := W2.keepsL K6 ap2
  have L6 : M0.Le M6 := K6.over (l5.trans l6) (F.le l2)
  conv => whnf
  refine caseB_dec (fun h => ?_) (fun _ => ?_)
  · exfalso; omega
  conv => whnf
  repeat (refine caseB_false ?_; conv => whnf)
  refine Ret.go (eqER_ret _ z2.1 z1.1 _ W2.inn W1.inn q12 q2) ?_
  conv => whnf
  repeat (refine caseB_false ?_; conv => whnf)
  refine ACall.step (markER_ret _ z2 _ W2 N2.ap q2) fun v M7 hh => ?_
  obtain ⟨rfl, W2, K7⟩ := hh
  have W1 := W1.keepsL K7 ap12
  have L7 : M0.Le M7 := K7.over L6 (N2.fr.le l4)
  have h0 : 0 ≤ m3k z2.1.c := by show 0 ≤ 1 + 2 * (z2.1.c.hs.length : Int) + 1 * (z2.1.c.body.length : Int) + 1 * (z2.1.c.tags.length : Int); omega
  conv => whnf
  refine Ret.go (heldER_ret _ z2 _ W2 q2) ?_
  conv => whnf
  refine caseB_dec (fun h => ?_) (fun _ => ?_)
  · exfalso; have h : m3k z2.1.c < 0 := h; omega
  conv => whnf
  refine caseB_ndec (fun h => absurd rfl h) (fun _ => ?_)
  conv => whnf
  refine ACall.step (toStore_ret x _ (hi.mono L7) hco) fun v M8 hh => ?_
  obtain ⟨y8, rfl, e8, l8, i8⟩ := hh
  conv => whnf
  refine ACall.step (peekEntry_impl y8 k M8 i8 (by rw [e8]; exact hco)) fun v M9 hh => ?_
  obtain ⟨z9, rfl, c9, N9⟩ := hh
  rw [e8] at c9 ⊢
  conv => whnf
  have W1 := (W1.mono l8).mono N9.le
  have W2 := (W2.mono l8).mono N9.le
  refine Ret.go (eqER_ret _ z9.1 z1.1 _ N9.ed.inn W1.inn (by rw [c9, c1]) (by rw [c9]; exact hpc)) ?_
  conv => whnf
  refine caseB_false ?_
  conv => whnf
  refine Ret.go (heldER_ret _ z2 _ W2 q2) ?_
  conv => whnf
  refine caseB_dec (fun h => ?_) (fun _ => ?_)
  · exfalso; have h : m3k z2.1.c < 0 := h; omega
  conv => whnf
  refine caseB_ndec (fun h => absurd rfl h) (fun _ => ?_)
  conv => whnf
  exact ⟨_, PH.Le.refl _, rfl, (L7.trans l8).trans N9.le⟩
end Go.Proofs.YtafgnmiflngjhaaGreatDoor
