/-
  STORES of one's own: copied by the laws; marked; read again.
-/
import Derived.Test.YtafgnmiflngjhaaGreatDoorVf
namespace Go.Proofs.YtafgnmiflngjhaaGreatDoor
set_option maxRecDepth 100000
set_option linter.unusedSimpArgs false
set_option linter.unusedVariables false
open Go.Xe
structure So where
  b : Int
  g : Int
  o1 : Option Nat
  A1 : Option Addr
  c1 : Nat
  p1 : List EP
  o2 : Option Nat
  A2 : Option Addr
  c2 : Nat
  p2 : List EP
abbrev So.val (s : So) : Value := .agg #[I s.b, I s.g, .slice s.A1 s.p1.length s.c1, .slice s.A2 s.p2.length s.c2]
def So.c (s : So) : Sc := ⟨s.b, s.g, s.p1.map (·.1.c), s.p2.map (·.1.c)⟩
def soL (s : So) : List (Option Nat) := dwL s.o1 s.p1 ++ dwL s.o2 s.p2
structure Dso (M : PH) (s : So) : Prop where
  t : Dw M s.o1 s.A1 s.c1 s.p1
  k : Dw M s.o2 s.A2 s.c2 s.p2
  ap : ∀ a ∈ dwL s.o1 s.p1, ∀ b ∈ dwL s.o2 s.p2, Apart a b
theorem Dso.mono {M M' : PH} {s : So} (h : Dso M s) (l : M.Le M') : Dso M' s := ⟨h.t.mono l, h.k.mono l, h.ap⟩
theorem Dso.kn {M : PH} {s : So} (h : Dso M s) : Kn M (soL s) := fun b hb => (List.mem_append.1 hb).elim (fun hb => h.t.kn b hb) (fun hb => h.k.kn b hb)
theorem Dso.keepsL {M M' : PH} {s : So} {L : List (Option Nat)} (h : Dso M s) (k : KeepsL L M M') (ha : ∀ a ∈ soL s, ∀ b ∈ L, Apart a b) : Dso M' s :=
  ⟨h.t.keepsL k fun a h1 => ha a (List.mem_append_left _ h1), h.k.keepsL k fun a h1 => ha a (List.mem_append_right _ h1), h.ap⟩
theorem Dw.ens {M : PH} {o : Option Nat} {A : Option Addr} {c : Nat} {ps : List EP} (h : Dw M o A c ps) : Ens M A (ps.map (·.1)) := by
  refine ⟨⟨fun hne => (h.row.sl EP.len).ne fun e => hne (by rw [e]; rfl), fun i x hx => ?_⟩, fun x hx => ?_⟩
  · rw [List.getElem?_map] at hx
    cases hp : ps[i]? with
    | none => rw [hp] at hx; cases hx
    | some p =>
      rw [hp] at hx
      cases hx
      exact (h.row.sl EP.len).at_ i p hp
  · obtain ⟨p, hp, rfl⟩ := List.mem_map.1 hx
    obtain ⟨j, hj⟩ := List.mem_iff_getElem?.1 hp
    have h2 := h.ed j p hj
    exact ⟨h2.h.sl Hd.len, h2.y.sl by_len, h2.t.sl st_len⟩
def So.sta (s : So) : StA := ⟨s.b, s.g, s.p1.map (·.1), s.p2.map (·.1), s.A1, s.c1, s.A2, s.c2⟩
theorem So.sta_val (s : So) : s.sta.val = s.val := by simp [So.sta, So.val]
theorem So.sta_c (s : So) : s.sta.c = s.c := by simp [So.sta, So.c, StA.c, conts]
theorem Dso.inn {M : PH} {s : So} (h : Dso M s) : s.sta.inn M := ⟨h.t.ens, h.k.ens, by simpa [So.sta] using h.t.row.le, by simpa [So.sta] using h.k.row.le⟩
theorem toStore_own (x : StA) (M : PH) (hi : x.inn M) (hco : x.c.cost ≤ 1048576) :
    ACall env 18 [x.val] M fun r M' => ∃ s : So, r = s.val ∧ s.c = x.c ∧ M.Le M' ∧ Dso M' s ∧ Fr M (soL s) := by
  have hc1 : costL En.cost (conts x.tr) ≤ 1048576 := by unfold Sc.cost StA.c at hco; simp only at hco; omega
  have hc2 : costL En.cost (conts x.kp) ≤ 1048576 := by unfold Sc.cost StA.c at hco; simp only at hco; omega
  refine xcall_of_vc Tryz.func18 rfl _ Tryz.ntmps18 _ rfl (fun _ _ => Tryz.call18 _ _) rfl (fun w0 ρ0 => ?_)
  conv => whnf
  refine ACall.step (toEntryS_own x.tA x.tc x.tr M hi.t.sl (ens_cost hi.t (n := 0) hc1) (costE hc1).1) fun v M1 hh => ?_
  obtain ⟨o1, A1, c1, p1, rfl, l1, d1, f1, e1⟩ := hh
  conv => whnf
  refine ACall.step (toEntryS_own x.kA x.kc x.kp M1 (hi.k.mono l1).sl (ens_cost (hi.k.mono l1) (n := 0) hc2) (costE hc2).1) fun v M2 hh => ?_
  obtain ⟨o2, A2, c2, p2, rfl, l2, d2, f2, e2⟩ := hh
  conv => whnf
  exact ⟨_, PH.Le.refl _, ⟨x.b, x.g, o1, A1, c1, p1, o2, A2, c2, p2⟩, rfl, by unfold So.c StA.c; rw [e1, e2], l1.trans l2, ⟨d1.mono l2, d2, apart_of d1.kn f2⟩, f1.app (f2.le l1)⟩
theorem dwL_mk {k : Int} {o : Option Nat} {ps qs : List EP} (h : Mk k ps qs ps.length) : dwL o qs = dwL o ps := by
  unfold dwL
  congr 1
  rw [List.flatMap_def, List.flatMap_def]
  congr 1
  apply List.ext_getElem?
  intro j
  rw [List.getElem?_map, List.getElem?_map]
  cases hp : ps[j]? with
  | none =>
    have : qs[j]? = none := by
      rw [List.getElem?_eq_none_iff] at hp ⊢
      rw [h.1]; exact hp
    rw [this]
  | some p =>
    have hj := (List.getElem?_eq_some_iff.1 hp).1
    rw [h.2 j p hp, if_pos hj]
    rfl
structure Mok (k : Int) (s : So) : Prop where
  lo : 0 ≤ k
  hi : k + totE s.p1 + totE s.p2 ≤ 800000000000
  t1 : totE s.p1 ≤ 4294967296
  t2 : totE s.p2 ≤ 4294967296
  n1 : s.p1.length ≤ 4294967296
  n2 : s.p2.length ≤ 4294967296
theorem Mok.of {k : Int} {s : So} (h0 : 0 ≤ k ∧ k ≤ 1000) (h : s.c.cost ≤ 8388608) : Mok k s := by
  have a1 := totE_le s.p1
  have a2 := totE_le s.p2
  have b1 := costL_len En.cost (s.p1.map (·.1.c))
  have b2 := costL_len En.cost (s.p2.map (·.1.c))
  rw [List.length_map] at b1 b2
  unfold Sc.cost So.c at h
  simp only at h
  exact ⟨by omega, by omega, by omega, by omega, by omega, by omega⟩
def posS (k : Int) (s : So) : Int := posE (posE k s.p1 s.p1.length) s.p2 s.p2.length
structure Mks (k : Int) (s s' : So) : Prop where
  t : Mk k s.p1 s'.p1 s.p1.length
  k : Mk (posE k s.p1 s.p1.length) s.p2 s'.p2 s.p2.length
  e : s'.val = s.val
  l : soL s' = soL s
  a : s'.A1 = s.A1 ∧ s'.A2 = s.A2 ∧ s'.c1 = s.c1 ∧ s'.c2 = s.c2
theorem posE_end {k : Int} {ps : List EP} (h0 : 0 ≤ k) (h1 : k + totE ps ≤ 800000000000) : posE k ps ps.length = k + totE ps := by
  rw [(posE_val h0 h1 ps.length (Nat.le_refl _)).1, List.take_length]
theorem posS_end {k : Int} {s : So} (h : Mok k s) : 0 ≤ posS k s ∧ posS k s = k + totE s.p1 + totE s.p2 := by
  obtain ⟨h0, h1, _, _, _, _⟩ := h
  unfold posS
  have := posE_end (k := k) (ps := s.p1) h0 (by omega)
  rw [posE_end (by omega) (by omega), this]
  omega
theorem markStore_ret (s : So) (k : Int) (M : PH) (h : Dso M s) (hk : Mok k s) :
    ACall env 24 [s.val, I k] M fun r M' => ∃ s', r = I (posS k s) ∧ Mks k s s' ∧ Dso M' s' ∧ KeepsL (soL s) M M' := by
  obtain ⟨h0, h1, t1, t2, n1, n2⟩ := hk
  have hp := posE_end (k := k) (ps := s.p1) h0 (by omega)
  refine xcall_of_vc Tryz.func24 rfl _ Tryz.ntmps24 _ rfl (fun _ _ => Tryz.call24 _ _) rfl (fun w0 ρ0 => ?_)
  conv => whnf
  refine ACall.step (markEntryS_ret s.o1 s.A1 s.c1 s.p1 k M h.t h0 (by omega) t1 n1) fun v M1 hh => ?_
  obtain ⟨q1, rfl, m1, d1, k1⟩ := hh
  conv => whnf
  have d2 := h.k.keepsL k1 fun a ha b hb => (h.ap b hb a ha).symm
  refine ACall.step (markEntryS_ret s.o2 s.A2 s.c2 s.p2 (posE k s.p1 s.p1.length) M1 d2 (by omega) (by omega) t2 n2) fun v M2 hh => ?_
  obtain ⟨q2, rfl, m2, d3, k2⟩ := hh
  conv => whnf
  have d4 := d1.keepsL k2 fun a ha b hb => by
    rw [dwL_mk m1] at ha
    exact h.ap a ha b hb
  refine ⟨_, PH.Le.refl _, ⟨s.b, s.g, s.o1, s.A1, s.c1, q1, s.o2, s.A2, s.c2, q2⟩, rfl, ⟨m1, m2, by simp [So.val, m1.1, m2.1], by unfold soL; rw [dwL_mk m1, dwL_mk m2], rfl, rfl, rfl, rfl⟩, ⟨d4, d3, fun a ha b hb => ?_⟩, (k1.mono fun a ha => List.mem_append_left _ ha).trans (k2.mono fun a ha => List.mem_append_right _ ha)⟩
  rw [dwL_mk m1] at ha
  rw [dwL_mk m2] at hb
  exact h.ap a ha b hb
theorem heldStore_ret (s s' : So) (k : Int) (M : PH) (h : Dso M s') (hk : Mok k s) (hm : Mks k s s') (hA : s'.A1 = s.A1 ∧ s'.A2 = s.A2 ∧ s'.c1 = s.c1 ∧ s'.c2 = s.c2) :
    Ret 93 [s.val, I k] M (I (posS k s)) := by
  have hps := posS_end hk
  obtain ⟨h0, h1, t1, t2, n1, n2⟩ := hk
  have hp := posE_end (k := k) (ps := s.p1) h0 (by omega)
  obtain ⟨a1, a2, _, _⟩ := hA
  have r1 := heldEntryS_ret s.A1 s.c1 s.p1 s'.p1 k M hm.t (a1 ▸ h.t.es) h0 (by omega) t1 n1
  have r2 := heldEntryS_ret s.A2 s.c2 s.p2 s'.p2 (posE k s.p1 s.p1.length) M hm.k (a2 ▸ h.k.es) (by omega) (by omega) t2 n2
  refine xcall_of_vc Tryz.func93 rfl _ Tryz.ntmps93 _ rfl (fun _ _ => Tryz.call93 _ _) rfl (fun w0 ρ0 => ?_)
  conv => whnf
  refine Ret.go r1 ?_
  conv => whnf
  refine caseB_dec (fun h => ?_) (fun _ => ?_)
  · exfalso; omega
  conv => whnf
  refine Ret.go r2 ?_
  conv => whnf
  refine caseB_dec (fun h => ?_) (fun _ => ?_)
  · exfalso; have h : posS k s < 0 := h; omega
  conv => whnf
  exact ⟨_, PH.Le.refl _, rfl, rfl⟩
end Go.Proofs.YtafgnmiflngjhaaGreatDoor
