/-
  MARKS of entries: a row of entries of one's own, each with its own rows, in memory apart.
-/
import Derived.Test.YtafgnmiflngjhaaGreatDoorVb
import Derived.Test.YtafgnmiflngjhaaGreatDoorOc
namespace Go.Proofs.YtafgnmiflngjhaaGreatDoor
set_option maxRecDepth 100000
set_option linter.unusedSimpArgs false
set_option linter.unusedVariables false
open Go.Xe
/-- An entry with the blocks of its rows. -/
abbrev EP := EnA × Option Nat × Option Nat × Option Nat
abbrev EP.cs (p : EP) : List Value := p.1.cs
theorem EP.len (p : EP) : (EP.cs p).length = 13 := rfl
theorem EP.one (p : EP) : ∀ v ∈ EP.cs p, v.oneCell' = true := EnA.one p.1
def EP.blks (p : EP) : List (Option Nat) := [p.2.1, p.2.2.1, p.2.2.2]
structure Ed (M : PH) (p : EP) : Prop where
  h : Ow M p.2.1 p.1.hA p.1.hc 2 Hd.cs p.1.c.hs
  y : Ow M p.2.2.1 p.1.bA p.1.bc 1 byC p.1.c.body
  t : Ow M p.2.2.2 p.1.tA p.1.tc 1 stC p.1.c.tags
abbrev Apart (a b : Option Nat) : Prop := ∀ g, a = some g → b ≠ some g
theorem Apart.symm {a b : Option Nat} (h : Apart a b) : Apart b a := fun g e e' => h g e' e
def Sep (l : List (Option Nat)) : Prop := l.Pairwise Apart
structure Dw (M : PH) (o : Option Nat) (A : Option Addr) (c : Nat) (ps : List EP) : Prop where
  row : Ow M o A c 13 EP.cs ps
  ed : ∀ (j : Nat) p, ps[j]? = some p → Ed M p
  sep : Sep (o :: ps.flatMap EP.blks)
/-- Known as it was, but for these blocks. -/
def KeepsL (L : List (Option Nat)) (M M' : PH) : Prop := ∀ k ob, M k = some ob → some k ∉ L → M' k = some ob
theorem KeepsL.refl (L : List (Option Nat)) (M : PH) : KeepsL L M M := fun _ _ h _ => h
theorem KeepsL.trans {L : List (Option Nat)} {A B C : PH} (h : KeepsL L A B) (k : KeepsL L B C) : KeepsL L A C := fun j ob hj hn => k j ob (h j ob hj hn) hn
theorem Keeps.inL {o : Option Nat} {L : List (Option Nat)} {M M' : PH} (h : Keeps o M M') (hm : o ∈ L) : KeepsL L M M' := fun k ob hk hn => h k ob hk (fun e => hn (e ▸ hm))
theorem KeepsL.mono {L L' : List (Option Nat)} {M M' : PH} (h : KeepsL L M M') (hs : ∀ a ∈ L, a ∈ L') : KeepsL L' M M' := fun k ob hk hn => h k ob hk (fun e => hn (hs _ e))
abbrev dwL (o : Option Nat) (ps : List EP) : List (Option Nat) := o :: ps.flatMap EP.blks
theorem blks_set {ps : List EP} {i : Nat} {x : EP} (hi : i < ps.length) (h : EP.blks x = EP.blks ps[i]) : (ps.set i x).flatMap EP.blks = ps.flatMap EP.blks := by
  rw [List.flatMap_def, List.flatMap_def]
  congr 1
  apply List.ext_getElem?
  intro j
  rw [List.getElem?_map, List.getElem?_map, List.getElem?_set]
  by_cases e : i = j
  · subst e
    simp [hi, h]
  · simp [e]
theorem sep_o {o : Option Nat} {ps : List EP} (h : Sep (dwL o ps)) {j : Nat} {p : EP} (hp : ps[j]? = some p) : ∀ b ∈ EP.blks p, Apart o b := fun b hb =>
  (List.pairwise_cons.1 h).1 b (List.mem_flatMap.2 ⟨p, List.mem_of_getElem? hp, hb⟩)
theorem sep_in {o : Option Nat} {ps : List EP} (h : Sep (dwL o ps)) {j : Nat} {p : EP} (hp : ps[j]? = some p) : (EP.blks p).Pairwise Apart :=
  (List.pairwise_flatMap.1 (List.pairwise_cons.1 h).2).1 p (List.mem_of_getElem? hp)
theorem sep_ij {o : Option Nat} {ps : List EP} (h : Sep (dwL o ps)) {i j : Nat} {p q : EP} (hi : ps[i]? = some p) (hj : ps[j]? = some q) (hne : i ≠ j) : ∀ a ∈ EP.blks p, ∀ b ∈ EP.blks q, Apart a b := by
  have h2 := (List.pairwise_flatMap.1 (List.pairwise_cons.1 h).2).2
  obtain ⟨hi1, rfl⟩ := List.getElem?_eq_some_iff.1 hi
  obtain ⟨hj1, rfl⟩ := List.getElem?_eq_some_iff.1 hj
  rw [List.pairwise_iff_getElem] at h2
  rcases Nat.lt_or_gt_of_ne hne with h3 | h3
  · exact fun a ha b hb => h2 i j hi1 hj1 h3 a ha b hb
  · exact fun a ha b hb => (h2 j i hj1 hi1 h3 b hb a ha).symm
theorem Ed.keeps {M M' : PH} {p : EP} {b : Option Nat} (h : Ed M p) (hk : Keeps b M M') (hb : ∀ a ∈ EP.blks p, Apart b a) : Ed M' p :=
  ⟨h.h.keeps hk fun g e e' => hb _ (by simp [EP.blks]) g e' e, h.y.keeps hk fun g e e' => hb _ (by simp [EP.blks]) g e' e, h.t.keeps hk fun g e e' => hb _ (by simp [EP.blks]) g e' e⟩
/-- A write into a cell of an entry that leaves its rows as they were. -/
theorem Dw.put {M M' : PH} {o : Option Nat} {A : Option Addr} {c : Nat} {ps : List EP} {i : Nat} (h : Dw M o A c ps) (hi : i < ps.length) (x : EP) (hO : Ow M' o A c 13 EP.cs (ps.set i x)) (hk : Keeps o M M') (hx : x.2 = ps[i].2) (hE : ∀ M, Ed M ps[i] → Ed M x) : Dw M' o A c (ps.set i x) := by
  have hget : ps[i]? = some ps[i] := List.getElem?_eq_getElem hi
  refine ⟨hO, fun j p hp => ?_, ?_⟩
  · rw [List.getElem?_set] at hp
    by_cases e : i = j
    · subst e
      simp only [if_true, hi] at hp
      cases hp
      exact hE _ ((h.ed i _ hget).keeps hk (sep_o h.sep hget))
    · rw [if_neg e] at hp
      exact (h.ed j p hp).keeps hk (sep_o h.sep hp)
  · have e := blks_set (ps := ps) (x := x) hi (by unfold EP.blks; rw [hx])
    have := h.sep
    unfold dwL at *
    rw [e]
    exact this
/-- One of an entry's rows is turned; the entry's own cells stay. -/
theorem Dw.sub {M M' : PH} {o : Option Nat} {A : Option Addr} {c : Nat} {ps : List EP} {i : Nat} (h : Dw M o A c ps) (hi : i < ps.length) (x : EP) (b : Option Nat) (hbm : b ∈ EP.blks ps[i]) (hk : Keeps b M M') (hx : x.2 = ps[i].2) (hcs : EP.cs x = EP.cs ps[i])
    (hE : Ed M' x) : Dw M' o A c (ps.set i x) := by
  have hget : ps[i]? = some ps[i] := List.getElem?_eq_getElem hi
  refine ⟨?_, fun j p hp => ?_, ?_⟩
  · have h1 : Ow M' o A c 13 EP.cs ps := h.row.keeps hk fun g e e' => sep_o h.sep hget b hbm g e e'
    cases o with
    | none => obtain ⟨rfl, hc⟩ := h1; simp at hi
    | some g =>
      obtain ⟨off, cells, ty, e, hg, h2, h3, h4⟩ := h1
      refine ⟨off, cells, ty, e, hg, h2, by simpa using h3, fun j p hp => ?_⟩
      rw [List.getElem?_set] at hp
      by_cases e : i = j
      · subst e
        simp only [if_true, hi] at hp
        cases hp
        rw [hcs]
        exact h4 i _ hget
      · rw [if_neg e] at hp
        exact h4 j p hp
  · rw [List.getElem?_set] at hp
    by_cases e : i = j
    · subst e
      simp only [if_true, hi] at hp
      cases hp
      exact hE
    · rw [if_neg e] at hp
      exact (h.ed j p hp).keeps hk fun a ha => sep_ij h.sep hget hp e b hbm a ha
  · have e := blks_set (ps := ps) (x := x) hi (by unfold EP.blks; rw [hx])
    have := h.sep
    unfold dwL at *
    rw [e]
    exact this
/-! ### The numbers -/
def e2 (k : Int) : Int := IntKind.i64.wrap (IntKind.i64.wrap (k + 1) + 1)
def e3 (k : Int) (e : En) : Int := e2 k + 2 * e.hs.length
def e4 (k : Int) (e : En) : Int := e3 k e + 1 * e.body.length
def e5 (k : Int) (e : En) : Int := IntKind.i64.wrap (e4 k e + 1)
def e6 (k : Int) (e : En) : Int := IntKind.i64.wrap (e5 k e + 1)
def e7 (k : Int) (e : En) : Int := IntKind.i64.wrap (e6 k e + 1)
def e8 (k : Int) (e : En) : Int := IntKind.i64.wrap (e7 k e + 1)
def e9 (k : Int) (e : En) : Int := IntKind.i64.wrap (e8 k e + 1)
def e10 (k : Int) (e : En) : Int := IntKind.i64.wrap (e9 k e + 1)
def e11 (k : Int) (e : En) : Int := IntKind.i64.wrap (e10 k e + 1)
def e12 (k : Int) (e : En) : Int := e11 k e + 1 * e.tags.length
def nxE (k : Int) (e : En) : Int := IntKind.i64.wrap (e12 k e + 1)
def mkE (k : Int) (e : En) : En := ⟨mText k, IntKind.i64.wrap (k + 1), marksL mkH 2 (e2 k) e.hs.length, marksL mkB 1 (e3 k e) e.body.length,
  ⟨e4 k e, e5 k e, e6 k e, e7 k e, e8 k e, decide ((e9 k e).tmod 3 = 0), decide ((e10 k e).tmod 3 = 0)⟩, marksL mText 1 (e11 k e) e.tags.length, e12 k e⟩
def tE (e : En) : Nat := 10 + 2 * e.hs.length + e.body.length + e.tags.length
theorem tE_le (e : En) : tE e ≤ 10 * (1 + e.cost) := by
  have := costL_len Hd.cost e.hs
  have := costL_len stSz e.tags
  unfold tE En.cost
  omega
structure Kok (k : Int) (e : En) : Prop where
  lo : 0 ≤ k
  hi : k + tE e ≤ 800000000000
theorem Kok.vals {k : Int} {e : En} (h : Kok k e) : IntKind.i64.wrap (k + 1) = k + 1 ∧ e2 k = k + 2 ∧ e3 k e = k + 2 + 2 * e.hs.length ∧ e4 k e = k + 2 + 2 * e.hs.length + e.body.length ∧ e5 k e = e4 k e + 1 ∧ e6 k e = e4 k e + 2 ∧ e7 k e = e4 k e + 3 ∧ e8 k e = e4 k e + 4 ∧ e9 k e = e4 k e + 5 ∧ e10 k e = e4 k e + 6 ∧ e11 k e = e4 k e + 7 ∧ e12 k e = e4 k e + 7 + e.tags.length ∧ nxE k e = k + tE e := by
  obtain ⟨h1, h2⟩ := h
  unfold tE at h2
  have a1 : IntKind.i64.wrap (k + 1) = k + 1 := wrap_id (by omega) (by omega)
  have a2 : e2 k = k + 2 := by unfold e2; rw [a1, wrap_id (by omega) (by omega)]; omega
  have a3 : e3 k e = k + 2 + 2 * e.hs.length := by unfold e3; rw [a2]
  have a4 : e4 k e = k + 2 + 2 * e.hs.length + e.body.length := by unfold e4; rw [a3]; omega
  have a5 : e5 k e = e4 k e + 1 := wrap_id (by omega) (by omega)
  have a6 : e6 k e = e4 k e + 2 := by unfold e6; rw [a5, wrap_id (by omega) (by omega)]; omega
  have a7 : e7 k e = e4 k e + 3 := by unfold e7; rw [a6, wrap_id (by omega) (by omega)]; omega
  have a8 : e8 k e = e4 k e + 4 := by unfold e8; rw [a7, wrap_id (by omega) (by omega)]; omega
  have a9 : e9 k e = e4 k e + 5 := by unfold e9; rw [a8, wrap_id (by omega) (by omega)]; omega
  have a10 : e10 k e = e4 k e + 6 := by unfold e10; rw [a9, wrap_id (by omega) (by omega)]; omega
  have a11 : e11 k e = e4 k e + 7 := by unfold e11; rw [a10, wrap_id (by omega) (by omega)]; omega
  have a12 : e12 k e = e4 k e + 7 + e.tags.length := by unfold e12; rw [a11]; omega
  refine ⟨a1, a2, a3, a4, a5, a6, a7, a8, a9, a10, a11, a12, ?_⟩
  unfold nxE tE
  rw [a12, wrap_id (by omega) (by omega)]
  omega
def mkP (k : Int) (p : EP) : EP := ({ p.1 with c := mkE k p.1.c }, p.2)
/-- The number at which entry i is marked. -/
def posE (k : Int) (ps : List EP) (i : Nat) : Int := (ps.take i).foldl (fun k p => nxE k p.1.c) k
theorem posE_succ (k : Int) {ps : List EP} {i : Nat} (h : i < ps.length) : posE k ps (i + 1) = nxE (posE k ps i) ps[i].1.c := by
  unfold posE
  rw [List.take_succ_eq_append_getElem h, List.foldl_append]
  rfl
def totE (es : List EP) : Nat := (es.map fun p => tE p.1.c).sum
theorem posE_val {k : Int} {ps : List EP} (h0 : 0 ≤ k) (h1 : k + totE ps ≤ 800000000000) : ∀ i, i ≤ ps.length → posE k ps i = k + totE (ps.take i) ∧ totE (ps.take i) ≤ totE ps ∧ (∀ hi : i < ps.length, Kok (posE k ps i) ps[i].1.c) := by
  have hle : ∀ i, totE (ps.take i) ≤ totE ps := fun i => by
    have e : totE ps = totE (ps.take i) + totE (ps.drop i) := by
      conv => lhs; rw [← List.take_append_drop i ps]
      unfold totE
      rw [List.map_append, List.sum_append]
    omega
  have hstep : ∀ i, ∀ h : i < ps.length, totE (ps.take (i + 1)) = totE (ps.take i) + tE ps[i].1.c := fun i h => by
    unfold totE
    rw [List.take_succ_eq_append_getElem h, List.map_append, List.sum_append]
    simp
  have hkok : ∀ i, posE k ps i = k + totE (ps.take i) → ∀ hi : i < ps.length, Kok (posE k ps i) ps[i].1.c := fun i e hi => by
    have h2 := hstep i hi
    have h3 := hle (i + 1)
    exact ⟨by omega, by omega⟩
  intro i
  induction i with
  | zero => exact fun _ => ⟨by simp [posE, totE], hle 0, hkok 0 (by simp [posE, totE])⟩
  | succ i ih =>
    intro hi
    obtain ⟨e, _, hk⟩ := ih (by omega)
    have h2 := (Kok.vals (hk (by omega))).2.2.2.2.2.2.2.2.2.2.2.2
    have e1 : posE k ps (i + 1) = k + totE (ps.take (i + 1)) := by
      rw [posE_succ k (by omega), h2, hstep i (by omega), e]
      omega
    exact ⟨e1, hle _, hkok _ e1⟩
theorem totE_le (ps : List EP) : totE ps ≤ 10 * costL En.cost (ps.map (·.1.c)) := by
  unfold totE costL
  induction ps with
  | nil => simp
  | cons x r ih =>
    have := tE_le x.1.c
    simp only [List.map_cons, List.sum_cons, List.length_cons, List.map_map] at ih ⊢
    omega
end Go.Proofs.YtafgnmiflngjhaaGreatDoor
