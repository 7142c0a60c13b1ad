/-
  MARKS of entries: a row of entries of one's own, each with its own rows, in memory apart. MARKS of entries, stores. MARKS of entries read again; stores marked and read again. STORES of one's own: copied by the laws; marked; read again. STORES of one's own: copied by the laws; marked; read again.
-/
import Derived.Test.YtgjaiabenjafeaaGreatDoorVb
import Derived.Test.YtgjaiabenjafeaaGreatDoorOc
namespace Go.Proofs.YtgjaiabenjafeaaGreatDoor
set_option maxRecDepth 100000
set_option linter.unusedSimpArgs false
set_option linter.unusedVariables false
open Go.Xe
/-- An entry with the blocks of its rows. -/
abbrev EP := EnA × Option Nat × Option Nat × Option Nat
abbrev EP.cs (p : EP) : List Value := p.1.cs
theorem EP.len (p : EP) : (EP.cs p).length = 13 := rfl
theorem EP.one (p : EP) : ∀ v ∈ EP.cs p, v.oneCell' = true := EnA.one p.1
def EP.blks (p : EP) : List (Option Nat) := [p.2.1, p.2.2.1, p.2.2.2]
structure Ed (M : PH) (p : EP) : Prop where
  h : Ow M p.2.1 p.1.hA p.1.hc 2 Hd.cs p.1.c.hs
  y : Ow M p.2.2.1 p.1.bA p.1.bc 1 byC p.1.c.body
  t : Ow M p.2.2.2 p.1.tA p.1.tc 1 stC p.1.c.tags
abbrev Apart (a b : Option Nat) : Prop := ∀ g, a = some g → b ≠ some g
theorem Apart.symm {a b : Option Nat} (h : Apart a b) : Apart b a := fun g e e' => h g e' e
def Sep (l : List (Option Nat)) : Prop := l.Pairwise Apart
structure Dw (M : PH) (o : Option Nat) (A : Option Addr) (c : Nat) (ps : List EP) : Prop where
  row : Ow M o A c 13 EP.cs ps
  ed : ∀ (j : Nat) p, ps[j]? = some p → Ed M p
  sep : Sep (o :: ps.flatMap EP.blks)
/-- Known as it was, but for these blocks. -/
def KeepsL (L : List (Option Nat)) (M M' : PH) : Prop := ∀ k ob, M k = some ob → some k ∉ L → M' k = some ob
theorem KeepsL.refl (L : List (Option Nat)) (M : PH) : KeepsL L M M := fun _ _ h _ => h
theorem KeepsL.trans {L : List (Option Nat)} {A B C : PH} (h : KeepsL L A B) (k : KeepsL L B C) : KeepsL L A C := fun j ob hj hn => k j ob (h j ob hj hn) hn
theorem Keeps.inL {o : Option Nat} {L : List (Option Nat)} {M M' : PH} (h : Keeps o M M') (hm : o ∈ L) : KeepsL L M M' := fun k ob hk hn => h k ob hk (fun e => hn (e ▸ hm))
theorem KeepsL.mono {L L' : List (Option Nat)} {M M' : PH} (h : KeepsL L M M') (hs : ∀ a ∈ L, a ∈ L') : KeepsL L' M M' := fun k ob hk hn => h k ob hk (fun e => hn (hs _ e))
abbrev dwL (o : Option Nat) (ps : List EP) : List (Option Nat) := o :: ps.flatMap EP.blks
theorem blks_set {ps : List EP} {i : Nat} {x : EP} (hi : i < ps.length) (h : EP.blks x = EP.blks ps[i]) : (ps.set i x).flatMap EP.blks = ps.flatMap EP.blks := by
  rw [List.flatMap_def, List.flatMap_def]
  congr 1
  apply List.ext_getElem?
  intro j
  rw [List.getElem?_map, List.getElem?_map, List.getElem?_set]
  by_cases e : i = j
  · subst e
    simp [hi, h]
  · simp [e]
theorem sep_o {o : Option Nat} {ps : List EP} (h : Sep (dwL o ps)) {j : Nat} {p : EP} (hp : ps[j]? = some p) : ∀ b ∈ EP.blks p, Apart o b := fun b hb =>
  (List.pairwise_cons.1 h).1 b (List.mem_flatMap.2 ⟨p, List.mem_of_getElem? hp, hb⟩)
theorem sep_in {o : Option Nat} {ps : List EP} (h : Sep (dwL o ps)) {j : Nat} {p : EP} (hp : ps[j]? = some p) : (EP.blks p).Pairwise Apart :=
  (List.pairwise_flatMap.1 (List.pairwise_cons.1 h).2).1 p (List.mem_of_getElem? hp)
theorem sep_ij {o : Option Nat} {ps : List EP} (h : Sep (dwL o ps)) {i j : Nat} {p q : EP} (hi : ps[i]? = some p) (hj : ps[j]? = some q) (hne : i ≠ j) : ∀ a ∈ EP.blks p, ∀ b ∈ EP.blks q, Apart a b := by
  have h2 := (List.pairwise_flatMap.1 (List.pairwise_cons.1 h).2).2
  obtain ⟨hi1, rfl⟩ := List.getElem?_eq_some_iff.1 hi
  obtain ⟨hj1, rfl⟩ := List.getElem?_eq_some_iff.1 hj
  rw [List.pairwise_iff_getElem] at h2
  rcases Nat.lt_or_gt_of_ne hne with h3 | h3
  · exact fun a ha b hb => h2 i j hi1 hj1 h3 a ha b hb
  · exact fun a ha b hb => (h2 j i hj1 hi1 h3 b hb a ha).symm
theorem Ed.keeps {M M' : PH} {p : EP} {b : Option Nat} (h : Ed M p) (hk : Keeps b M M') (hb : ∀ a ∈ EP.blks p, Apart b a) : Ed M' p :=
  ⟨h.h.keeps hk fun g e e' => hb _ (by simp [EP.blks]) g e' e, h.y.keeps hk fun g e e' => hb _ (by simp [EP.blks]) g e' e, h.t.keeps hk fun g e e' => hb _ (by simp [EP.blks]) g e' e⟩
/-- A write into a cell of an entry that leaves its rows as they were. -/
theorem Dw.put {M M' : PH} {o : Option Nat} {A : Option Addr} {c : Nat} {ps : List EP} {i : Nat} (h : Dw M o A c ps) (hi : i < ps.length) (x : EP) (hO : Ow M' o A c 13 EP.cs (ps.set i x)) (hk : Keeps o M M') (hx : x.2 = ps[i].2) (hE : ∀ M, Ed M ps[i] → Ed M x) : Dw M' o A c (ps.set i x) := by
  have hget : ps[i]? = some ps[i] := List.getElem?_eq_getElem hi
  refine ⟨hO, fun j p hp => ?_, ?_⟩
  · rw [List.getElem?_set] at hp
    by_cases e : i = j
    · subst e
      simp only [if_true, hi] at hp
      cases hp
      exact hE _ ((h.ed i _ hget).keeps hk (sep_o h.sep hget))
    · rw [if_neg e] at hp
      exact (h.ed j p hp).keeps hk (sep_o h.sep hp)
  · have e := blks_set (ps := ps) (x := x) hi (by unfold EP.blks; rw [hx])
    have := h.sep
    unfold dwL at *
    rw [e]
    exact this
/-- One of an entry's rows is turned; the entry's own cells stay. -/
theorem Dw.sub {M M' : PH} {o : Option Nat} {A : Option Addr} {c : Nat} {ps : List EP} {i : Nat} (h : Dw M o A c ps) (hi : i < ps.length) (x : EP) (b : Option Nat) (hbm : b ∈ EP.blks ps[i]) (hk : Keeps b M M') (hx : x.2 = ps[i].2) (hcs : EP.cs x = EP.cs ps[i])
    (hE : Ed M' x) : Dw M' o A c (ps.set i x) := by
  have hget : ps[i]? = some ps[i] := List.getElem?_eq_getElem hi
  refine ⟨?_, fun j p hp => ?_, ?_⟩
  · have h1 : Ow M' o A c 13 EP.cs ps := h.row.keeps hk fun g e e' => sep_o h.sep hget b hbm g e e'
    cases o with
    | none => obtain ⟨rfl, hc⟩ := h1; simp at hi
    | some g =>
      obtain ⟨off, cells, ty, e, hg, h2, h3, h4⟩ := h1
      refine ⟨off, cells, ty, e, hg, h2, by simpa using h3, fun j p hp => ?_⟩
      rw [List.getElem?_set] at hp
      by_cases e : i = j
      · subst e
        simp only [if_true, hi] at hp
        cases hp
        rw [hcs]
        exact h4 i _ hget
      · rw [if_neg e] at hp
        exact h4 j p hp
  · rw [List.getElem?_set] at hp
    by_cases e : i = j
    · subst e
      simp only [if_true, hi] at hp
      cases hp
      exact hE
    · rw [if_neg e] at hp
      exact (h.ed j p hp).keeps hk fun a ha => sep_ij h.sep hget hp e b hbm a ha
  · have e := blks_set (ps := ps) (x := x) hi (by unfold EP.blks; rw [hx])
    have := h.sep
    unfold dwL at *
    rw [e]
    exact this
/-! ### The numbers -/
def e2 (k : Int) : Int := IntKind.i64.wrap (IntKind.i64.wrap (k + 1) + 1)
def e3 (k : Int) (e : En) : Int := e2 k + 2 * e.hs.length
def e4 (k : Int) (e : En) : Int := e3 k e + 1 * e.body.length
def e5 (k : Int) (e : En) : Int := IntKind.i64.wrap (e4 k e + 1)
def e6 (k : Int) (e : En) : Int := IntKind.i64.wrap (e5 k e + 1)
def e7 (k : Int) (e : En) : Int := IntKind.i64.wrap (e6 k e + 1)
def e8 (k : Int) (e : En) : Int := IntKind.i64.wrap (e7 k e + 1)
def e9 (k : Int) (e : En) : Int := IntKind.i64.wrap (e8 k e + 1)
def e10 (k : Int) (e : En) : Int := IntKind.i64.wrap (e9 k e + 1)
def e11 (k : Int) (e : En) : Int := IntKind.i64.wrap (e10 k e + 1)
def e12 (k : Int) (e : En) : Int := e11 k e + 1 * e.tags.length
def nxE (k : Int) (e : En) : Int := IntKind.i64.wrap (e12 k e + 1)
def mkE (k : Int) (e : En) : En := ⟨mText k, IntKind.i64.wrap (k + 1), marksL mkH 2 (e2 k) e.hs.length, marksL mkB 1 (e3 k e) e.body.length,
  ⟨e4 k e, e5 k e, e6 k e, e7 k e, e8 k e, decide ((e9 k e).tmod 3 = 0), decide ((e10 k e).tmod 3 = 0)⟩, marksL mText 1 (e11 k e) e.tags.length, e12 k e⟩
def tE (e : En) : Nat := 10 + 2 * e.hs.length + e.body.length + e.tags.length
theorem tE_le (e : En) : tE e ≤ 10 * (1 + e.cost) := by
  have := costL_len Hd.cost e.hs
  have := costL_len stSz e.tags
  unfold tE En.cost
  omega
structure Kok (k : Int) (e : En) : Prop where
  lo : 0 ≤ k
  hi : k + tE e ≤ 800000000000
theorem Kok.vals {k : Int} {e : En} (h : Kok k e) : IntKind.i64.wrap (k + 1) = k + 1 ∧ e2 k = k + 2 ∧ e3 k e = k + 2 + 2 * e.hs.length ∧ e4 k e = k + 2 + 2 * e.hs.length + e.body.length ∧ e5 k e = e4 k e + 1 ∧ e6 k e = e4 k e + 2 ∧ e7 k e = e4 k e + 3 ∧ e8 k e = e4 k e + 4 ∧ e9 k e = e4 k e + 5 ∧ e10 k e = e4 k e + 6 ∧ e11 k e = e4 k e + 7 ∧ e12 k e = e4 k e + 7 + e.tags.length ∧ nxE k e = k + tE e := by
  obtain ⟨h1, h2⟩ := h
  unfold tE at h2
  have a1 : IntKind.i64.wrap (k + 1) = k + 1 := wrap_id (by omega) (by omega)
  have a2 : e2 k = k + 2 := by unfold e2; rw [a1, wrap_id (by omega) (by omega)]; omega
  have a3 : e3 k e = k + 2 + 2 * e.hs.length := by unfold e3; rw [a2]
  have a4 : e4 k e = k + 2 + 2 * e.hs.length + e.body.length := by unfold e4; rw [a3]; omega
  have a5 : e5 k e = e4 k e + 1 := wrap_id (by omega) (by omega)
  have a6 : e6 k e = e4 k e + 2 := by unfold e6; rw [a5, wrap_id (by omega) (by omega)]; omega
  have a7 : e7 k e = e4 k e + 3 := by unfold e7; rw [a6, wrap_id (by omega) (by omega)]; omega
  have a8 : e8 k e = e4 k e + 4 := by unfold e8; rw [a7, wrap_id (by omega) (by omega)]; omega
  have a9 : e9 k e = e4 k e + 5 := by unfold e9; rw [a8, wrap_id (by omega) (by omega)]; omega
  have a10 : e10 k e = e4 k e + 6 := by unfold e10; rw [a9, wrap_id (by omega) (by omega)]; omega
  have a11 : e11 k e = e4 k e + 7 := by unfold e11; rw [a10, wrap_id (by omega) (by omega)]; omega
  have a12 : e12 k e = e4 k e + 7 + e.tags.length := by unfold e12; rw [a11]; omega
  refine ⟨a1, a2, a3, a4, a5, a6, a7, a8, a9, a10, a11, a12, ?_⟩
  unfold nxE tE
  rw [a12, wrap_id (by omega) (by omega)]
  omega
def mkP (k : Int) (p : EP) : EP := ({ p.1 with c := mkE k p.1.c }, p.2)
/-- The number at which entry i is marked. -/
def posE (k : Int) (ps : List EP) (i : Nat) : Int := (ps.take i).foldl (fun k p => nxE k p.1.c) k
theorem posE_succ (k : Int) {ps : List EP} {i : Nat} (h : i < ps.length) : posE k ps (i + 1) = nxE (posE k ps i) ps[i].1.c := by
  unfold posE
  rw [List.take_succ_eq_append_getElem h, List.foldl_append]
  rfl
def totE (es : List EP) : Nat := (es.map fun p => tE p.1.c).sum
theorem posE_val {k : Int} {ps : List EP} (h0 : 0 ≤ k) (h1 : k + totE ps ≤ 800000000000) : ∀ i, i ≤ ps.length → posE k ps i = k + totE (ps.take i) ∧ totE (ps.take i) ≤ totE ps ∧ (∀ hi : i < ps.length, Kok (posE k ps i) ps[i].1.c) := by
  have hle : ∀ i, totE (ps.take i) ≤ totE ps := fun i => by
    have e : totE ps = totE (ps.take i) + totE (ps.drop i) := by
      conv => lhs; rw [← List.take_append_drop i ps]
      unfold totE
      rw [List.map_append, List.sum_append]
    omega
  have hstep : ∀ i, ∀ h : i < ps.length, totE (ps.take (i + 1)) = totE (ps.take i) + tE ps[i].1.c := fun i h => by
    unfold totE
    rw [List.take_succ_eq_append_getElem h, List.map_append, List.sum_append]
    simp
  have hkok : ∀ i, posE k ps i = k + totE (ps.take i) → ∀ hi : i < ps.length, Kok (posE k ps i) ps[i].1.c := fun i e hi => by
    have h2 := hstep i hi
    have h3 := hle (i + 1)
    exact ⟨by omega, by omega⟩
  intro i
  induction i with
  | zero => exact fun _ => ⟨by simp [posE, totE], hle 0, hkok 0 (by simp [posE, totE])⟩
  | succ i ih =>
    intro hi
    obtain ⟨e, _, hk⟩ := ih (by omega)
    have h2 := (Kok.vals (hk (by omega))).2.2.2.2.2.2.2.2.2.2.2.2
    have e1 : posE k ps (i + 1) = k + totE (ps.take (i + 1)) := by
      rw [posE_succ k (by omega), h2, hstep i (by omega), e]
      omega
    exact ⟨e1, hle _, hkok _ e1⟩
theorem totE_le (ps : List EP) : totE ps ≤ 10 * costL En.cost (ps.map (·.1.c)) := by
  unfold totE costL
  induction ps with
  | nil => simp
  | cons x r ih =>
    have := tE_le x.1.c
    simp only [List.map_cons, List.sum_cons, List.length_cons, List.map_map] at ih ⊢
    omega
def EP.wth (q : EP) (e : En) : EP := ({ q.1 with c := e }, q.2)
section
variable {M M' : PH} {o : Option Nat} {A : Option Addr} {c : Nat} {qs : List EP} {i : Nat} {x : EP}
theorem set_at (hi : i < qs.length) : (qs.set i x)[i]? = some x := by simp [hi]
theorem Dw.at (h : Dw M o A c (qs.set i x)) (hi : i < qs.length) : Ed M x := h.ed i x (set_at hi)
theorem Dw.cell (h : Dw M o A c (qs.set i x)) (hi : i < qs.length) (j : Nat) {v : Value} (hv : (EP.cs x)[j]? = some v) : M.cells A (i * 13 + j) [v] := cells_cut ((h.row.sl EP.len).at_ i x (set_at hi)).2 j hv
theorem Dw.sm (h : Dw M o A c (qs.set i x)) (hi : i < qs.length) : A.isSome = true := (h.row.sl EP.len).ne (fun e => by have := congrArg List.length e; simp at this; subst this; simp at hi)
theorem Dw.store {K : PH → Prop} (h : Dw M o A c (qs.set i x)) (hi : i < qs.length) {j : Nat} {vs : List Value} (hj : j + vs.length ≤ 13) (x' : EP) (hx : EP.cs x' = spl (EP.cs x) j vs) (h2 : x'.2 = x.2) (hE : ∀ M, Ed M x → Ed M x')
    (hk : ∀ M', Dw M' o A c (qs.set i x') → Keeps o M M' → K M') :
    ∃ (g : Nat) (off : Nat) (cells : List Value) (ty : TypeId) (fz : Nat × Nat), A = some ⟨g, off, none⟩ ∧ M g = some (.cells cells.toArray ty fz) ∧ (off + (i * 13 + j) + vs.length ≤ cells.length ∧ (fz.2 ≤ off + (i * 13 + j) ∨ off + (i * 13 + j) + vs.length ≤ fz.1)) ∧ K (M.set g (.cells (spl cells (off + (i * 13 + j)) vs).toArray ty fz)) := by
  have hi2 : i < (qs.set i x).length := by simpa using hi
  have hg : (qs.set i x)[i] = x := by simp
  refine own_store (i := i) (j := j) h.row EP.len hi2 hj x' (by rw [hg]; exact hx) fun M2 hO hK => ?_
  have hD := Dw.put h hi2 x' hO hK (by rw [hg]; exact h2) (fun M hE' => hE M (by rw [hg] at hE'; exact hE'))
  rw [List.set_set] at hD
  exact hk M2 hD hK
theorem Dw.subs (h : Dw M o A c (qs.set i x)) (hi : i < qs.length) (x' : EP) (b : Option Nat) (hbm : b ∈ EP.blks x) (hk : Keeps b M M') (hx : x'.2 = x.2) (hcs : EP.cs x' = EP.cs x) (hE : Ed M' x') : Dw M' o A c (qs.set i x') := by
  have hi2 : i < (qs.set i x).length := by simpa using hi
  have hg : (qs.set i x)[i] = x := by simp
  have hD := Dw.sub h hi2 x' b (by rw [hg]; exact hbm) hk (by rw [hg]; exact hx) (by rw [hg]; exact hcs) hE
  rwa [List.set_set] at hD
theorem Dw.pw (h : Dw M o A c (qs.set i x)) (hi : i < qs.length) : Apart x.2.1 x.2.2.1 ∧ Apart x.2.1 x.2.2.2 ∧ Apart x.2.2.1 x.2.2.2 := by
  have := sep_in h.sep (set_at hi)
  unfold EP.blks at this
  simp only [List.pairwise_cons, List.mem_cons, List.not_mem_nil, or_false, forall_eq_or_imp, forall_eq] at this
  exact ⟨this.1.1, this.1.2, this.2.1⟩
end
theorem totE_mem {ps : List EP} {i : Nat} (hi : i < ps.length) : tE ps[i].1.c ≤ totE ps := by
  have key : ∀ (l : List EP) (x : EP), x ∈ l → tE x.1.c ≤ (l.map fun p => tE p.1.c).sum := by
    intro l
    induction l with
    | nil => intro x h; cases h
    | cons y r ih =>
      intro x h
      rcases List.mem_cons.1 h with rfl | h
      · simp
      · have := ih x h
        simp only [List.map_cons, List.sum_cons]
        omega
  exact key ps _ (List.getElem_mem hi)
theorem tE_len (e : En) : e.hs.length ≤ tE e ∧ e.body.length ≤ tE e ∧ e.tags.length ≤ tE e := by unfold tE; omega
/-- The first i are marked. -/
def Mk (k : Int) (ps qs : List EP) (i : Nat) : Prop := qs.length = ps.length ∧ ∀ (j : Nat) p, ps[j]? = some p → qs[j]? = some (if j < i then mkP (posE k ps j) p else p)
theorem Mk.zero (k : Int) (ps : List EP) : Mk k ps ps 0 := ⟨rfl, fun j p h => by simpa using h⟩
theorem Mk.step {k : Int} {ps qs : List EP} {i : Nat} (h : Mk k ps qs i) (hi : i < ps.length) : Mk k ps (qs.set i (mkP (posE k ps i) ps[i])) (i + 1) := by
  refine ⟨by rw [List.length_set]; exact h.1, fun j p hp => ?_⟩
  rw [List.getElem?_set]
  by_cases e : i = j
  · subst e
    rw [List.getElem?_eq_getElem hi] at hp
    cases hp
    simp [h.1, hi]
  · rw [if_neg e, h.2 j p hp]
    by_cases h2 : j < i
    · rw [if_pos h2, if_pos (by omega)]
    · rw [if_neg h2, if_neg (by omega)]
theorem Mk.at {k : Int} {ps qs : List EP} {i : Nat} (h : Mk k ps qs i) (hi : i < ps.length) : qs.set i ps[i] = qs := by
  have h2 := h.2 i _ (List.getElem?_eq_getElem hi)
  rw [if_neg (by omega)] at h2
  obtain ⟨h3, h4⟩ := List.getElem?_eq_some_iff.1 h2
  rw [← h4, List.set_getElem_self]
theorem Mk.all {k : Int} {ps qs : List EP} (h : Mk k ps qs ps.length) {j : Nat} (hj : j < ps.length) : qs[j]? = some (mkP (posE k ps j) ps[j]) := by
  rw [h.2 j _ (List.getElem?_eq_getElem hj), if_pos hj]
set_option maxHeartbeats 4000000 in
theorem markEntryS_ret (o : Option Nat) (A : Option Addr) (c : Nat) (ps : List EP) (k : Int) (M : PH) (h : Dw M o A c ps) (h0 : 0 ≤ k) (h1 : k + totE ps ≤ 800000000000) (hT : totE ps ≤ 4294967296) (hn : ps.length ≤ 4294967296) :
    ACall env 69 [.slice A ps.length c, I k] M fun r M' => ∃ qs, r = I (posE k ps ps.length) ∧ Mk k ps qs ps.length ∧ Dw M' o A c qs ∧ KeepsL (dwL o ps) M M' := by
  refine xcall_of_vc Tryz.func69 rfl _ Tryz.ntmps69 _ rfl (fun _ _ => Tryz.call69 _ _) rfl (fun w0 ρ0 => ?_)
  conv => whnf
  refine loop_rule (fun z : Nat × List EP => ⟨slots 116 [(0, .v (.slice A ps.length c)), (1, .v (I (posE k ps z.1))), (5, .v (I z.1))], []⟩) (fun z M' => z.1 ≤ ps.length ∧ Mk k ps z.2 z.1 ∧ Dw M' o A c z.2 ∧ KeepsL (dwL o ps) M M') (fun z => ps.length - z.1) (0, ps) ?_ ?_ ?_
  · exact ⟨by simp [slots, leT, posE], ⟨[], rfl⟩, Nat.zero_le _, rfl, rfl⟩
  · exact ⟨Nat.zero_le _, Mk.zero k ps, h, KeepsL.refl _ M⟩
  rintro ⟨i, qs⟩ M0 ⟨hi, hm, D0, K0⟩
  have hi : i ≤ ps.length := hi
  have hm : Mk k ps qs i := hm
  have D0 : Dw M0 o A c qs := D0
  conv => whnf
  refine caseB_dec (fun hb => ?_) (fun hb => ?_)
  · have hb : (i : Int) < ps.length := hb
    have hi' : i < ps.length := by omega
    have hi2 : i < qs.length := by rw [hm.1]; exact hi'
    have hw : IntKind.i64.wrap ((i : Int) + 1) = (i : Int) + 1 := wr_id (by omega) (by omega)
    obtain ⟨hv, _, hok⟩ := posE_val h0 h1 i hi
    have hok := hok hi'
    have hnx := posE_succ k hi'
    have htm := totE_mem hi'
    have hst := hm.step hi'
    have hbm : ∀ b ∈ EP.blks ps[i], b ∈ dwL o ps := fun b hb => List.mem_cons_of_mem _ (List.mem_flatMap.2 ⟨_, List.getElem_mem hi', hb⟩)
    rw [← hm.at hi'] at D0
    have hA := D0.sm hi2
    obtain ⟨P12, P13, P23⟩ := D0.pw hi2
    generalize ps[i] = q at *
    generalize posE k ps i = κ at *
    obtain ⟨v1, v2, v3, v4, v5, v6, v7, v8, v9, v10, v11, v12, v13⟩ := hok.vals
    obtain ⟨t1, t2, t3⟩ := tE_len q.1.c
    have hlo := hok.lo
    have hhi := hok.hi
    have t4 : tE q.1.c = 10 + 2 * q.1.c.hs.length + q.1.c.body.length + q.1.c.tags.length := rfl
    have D0 : Dw M0 o A c (qs.set i (q.wth q.1.c)) := D0
    have hz : nxE κ q.1.c = IntKind.i64.wrap (e11 κ q.1.c + q.1.c.tags.length + 1) := by unfold nxE e12; rw [Int.one_mul]
    have hl1 : q.1.c.hs.length ≤ 4294967296 := by omega
    have hl2 : q.1.c.body.length ≤ 4294967296 := by omega
    have hl3 : q.1.c.tags.length ≤ 4294967296 := by omega
    conv => whnf
    refine Ret.go (markText_ret _ _ (by omega)) ?_
    conv => whnf
    refine ⟨by omega, by omega, hA, ?_⟩
    conv => whnf
    refine Dw.store (j := 0) D0 hi2 (by simp) (q.wth ⟨mText κ, q.1.c.st, q.1.c.hs, q.1.c.body, ⟨q.1.c.mt.at_, q.1.c.mt.age, q.1.c.mt.life, q.1.c.mt.swr, q.1.c.mt.sie, q.1.c.mt.soft, q.1.c.mt.noc⟩, q.1.c.tags, q.1.c.pins⟩) rfl rfl (fun M h => ⟨h.h, h.y, h.t⟩) fun M1 D1 k1 => ?_
    have K1 := K0.trans (Keeps.inL k1 (by simp : o ∈ dwL o ps))
    conv => whnf
    refine ⟨by omega, by omega, hA, ?_⟩
    conv => whnf
    refine Dw.store (j := 1) D1 hi2 (by simp) (q.wth ⟨mText κ, IntKind.i64.wrap (κ + 1), q.1.c.hs, q.1.c.body, ⟨q.1.c.mt.at_, q.1.c.mt.age, q.1.c.mt.life, q.1.c.mt.swr, q.1.c.mt.sie, q.1.c.mt.soft, q.1.c.mt.noc⟩, q.1.c.tags, q.1.c.pins⟩) rfl rfl (fun M h => ⟨h.h, h.y, h.t⟩) fun M2 D2 k2 => ?_
    have K2 := K1.trans (Keeps.inL k2 (by simp : o ∈ dwL o ps))
    conv => whnf
    refine ⟨by omega, by omega, hA, ?_⟩
    conv => whnf
    refine ⟨_, D2.cell hi2 2 rfl, ?_⟩
    conv => whnf
    have E2 := D2.at hi2
    refine ACall.step (markHeaderS_ret _ _ _ _ (e2 κ) M2 E2.h hl1 ⟨by omega, by omega⟩) fun v M3 hh => ?_
    obtain ⟨rfl, O3, k3⟩ := hh
    have D3 : Dw M3 o A c (qs.set i (q.wth ⟨mText κ, IntKind.i64.wrap (κ + 1), marksL mkH 2 (e2 κ) q.1.c.hs.length, q.1.c.body, ⟨q.1.c.mt.at_, q.1.c.mt.age, q.1.c.mt.life, q.1.c.mt.swr, q.1.c.mt.sie, q.1.c.mt.soft, q.1.c.mt.noc⟩, q.1.c.tags, q.1.c.pins⟩)) := Dw.subs D2 hi2 _ q.2.1 (show q.2.1 ∈ [q.2.1, q.2.2.1, q.2.2.2] by simp) k3 rfl (by simp [EP.cs, EP.wth, marksL_length]) ⟨O3, E2.y.keeps k3 (Apart.symm P12), E2.t.keeps k3 (Apart.symm P13)⟩
    have K3 := K2.trans (Keeps.inL k3 (hbm _ (show q.2.1 ∈ [q.2.1, q.2.2.1, q.2.2.2] by simp)))
    conv => whnf
    refine ⟨by omega, by omega, hA, ?_⟩
    conv => whnf
    refine ⟨_, D3.cell hi2 3 rfl, ?_⟩
    conv => whnf
    have E3 := D3.at hi2
    refine ACall.step (markByteS_ret _ _ _ _ (e3 κ q.1.c) M3 E3.y hl2 ⟨by omega, by omega⟩) fun v M4 hh => ?_
    obtain ⟨rfl, O4, k4⟩ := hh
    have D4 : Dw M4 o A c (qs.set i (q.wth ⟨mText κ, IntKind.i64.wrap (κ + 1), marksL mkH 2 (e2 κ) q.1.c.hs.length, marksL mkB 1 (e3 κ q.1.c) q.1.c.body.length, ⟨q.1.c.mt.at_, q.1.c.mt.age, q.1.c.mt.life, q.1.c.mt.swr, q.1.c.mt.sie, q.1.c.mt.soft, q.1.c.mt.noc⟩, q.1.c.tags, q.1.c.pins⟩)) := Dw.subs D3 hi2 _ q.2.2.1 (show q.2.2.1 ∈ [q.2.1, q.2.2.1, q.2.2.2] by simp) k4 rfl (by simp [EP.cs, EP.wth, marksL_length]) ⟨E3.h.keeps k4 P12, O4, E3.t.keeps k4 (Apart.symm P23)⟩
    have K4 := K3.trans (Keeps.inL k4 (hbm _ (show q.2.2.1 ∈ [q.2.1, q.2.2.1, q.2.2.2] by simp)))
    conv => whnf
    refine ⟨by omega, by omega, hA, ?_⟩
    conv => whnf
    refine Dw.store (j := 4) D4 hi2 (by simp) (q.wth ⟨mText κ, IntKind.i64.wrap (κ + 1), marksL mkH 2 (e2 κ) q.1.c.hs.length, marksL mkB 1 (e3 κ q.1.c) q.1.c.body.length, ⟨e4 κ q.1.c, q.1.c.mt.age, q.1.c.mt.life, q.1.c.mt.swr, q.1.c.mt.sie, q.1.c.mt.soft, q.1.c.mt.noc⟩, q.1.c.tags, q.1.c.pins⟩) rfl rfl (fun M h => ⟨h.h, h.y, h.t⟩) fun M5 D5 k5 => ?_
    have K5 := K4.trans (Keeps.inL k5 (by simp : o ∈ dwL o ps))
    conv => whnf
    refine ⟨by omega, by omega, hA, ?_⟩
    conv => whnf
    refine Dw.store (j := 5) D5 hi2 (by simp) (q.wth ⟨mText κ, IntKind.i64.wrap (κ + 1), marksL mkH 2 (e2 κ) q.1.c.hs.length, marksL mkB 1 (e3 κ q.1.c) q.1.c.body.length, ⟨e4 κ q.1.c, e5 κ q.1.c, q.1.c.mt.life, q.1.c.mt.swr, q.1.c.mt.sie, q.1.c.mt.soft, q.1.c.mt.noc⟩, q.1.c.tags, q.1.c.pins⟩) rfl rfl (fun M h => ⟨h.h, h.y, h.t⟩) fun M6 D6 k6 => ?_
    have K6 := K5.trans (Keeps.inL k6 (by simp : o ∈ dwL o ps))
    conv => whnf
    refine ⟨by omega, by omega, hA, ?_⟩
    conv => whnf
    refine Dw.store (j := 6) D6 hi2 (by simp) (q.wth ⟨mText κ, IntKind.i64.wrap (κ + 1), marksL mkH 2 (e2 κ) q.1.c.hs.length, marksL mkB 1 (e3 κ q.1.c) q.1.c.body.length, ⟨e4 κ q.1.c, e5 κ q.1.c, e6 κ q.1.c, q.1.c.mt.swr, q.1.c.mt.sie, q.1.c.mt.soft, q.1.c.mt.noc⟩, q.1.c.tags, q.1.c.pins⟩) rfl rfl (fun M h => ⟨h.h, h.y, h.t⟩) fun M7 D7 k7 => ?_
    have K7 := K6.trans (Keeps.inL k7 (by simp : o ∈ dwL o ps))
    conv => whnf
    refine ⟨by omega, by omega, hA, ?_⟩
    conv => whnf
    refine Dw.store (j := 7) D7 hi2 (by simp) (q.wth ⟨mText κ, IntKind.i64.wrap (κ + 1), marksL mkH 2 (e2 κ) q.1.c.hs.length, marksL mkB 1 (e3 κ q.1.c) q.1.c.body.length, ⟨e4 κ q.1.c, e5 κ q.1.c, e6 κ q.1.c, e7 κ q.1.c, q.1.c.mt.sie, q.1.c.mt.soft, q.1.c.mt.noc⟩, q.1.c.tags, q.1.c.pins⟩) rfl rfl (fun M h => ⟨h.h, h.y, h.t⟩) fun M8 D8 k8 => ?_
    have K8 := K7.trans (Keeps.inL k8 (by simp : o ∈ dwL o ps))
    conv => whnf
    refine ⟨by omega, by omega, hA, ?_⟩
    conv => whnf
    refine Dw.store (j := 8) D8 hi2 (by simp) (q.wth ⟨mText κ, IntKind.i64.wrap (κ + 1), marksL mkH 2 (e2 κ) q.1.c.hs.length, marksL mkB 1 (e3 κ q.1.c) q.1.c.body.length, ⟨e4 κ q.1.c, e5 κ q.1.c, e6 κ q.1.c, e7 κ q.1.c, e8 κ q.1.c, q.1.c.mt.soft, q.1.c.mt.noc⟩, q.1.c.tags, q.1.c.pins⟩) rfl rfl (fun M h => ⟨h.h, h.y, h.t⟩) fun M9 D9 k9 => ?_
    have K9 := K8.trans (Keeps.inL k9 (by simp : o ∈ dwL o ps))
    conv => whnf
    refine ⟨by decide, ?_⟩
    conv => whnf
    refine ⟨by omega, by omega, hA, ?_⟩
    conv => whnf
    refine Dw.store (j := 9) D9 hi2 (by simp) (q.wth ⟨mText κ, IntKind.i64.wrap (κ + 1), marksL mkH 2 (e2 κ) q.1.c.hs.length, marksL mkB 1 (e3 κ q.1.c) q.1.c.body.length, ⟨e4 κ q.1.c, e5 κ q.1.c, e6 κ q.1.c, e7 κ q.1.c, e8 κ q.1.c, decide ((e9 κ q.1.c).tmod 3 = 0), q.1.c.mt.noc⟩, q.1.c.tags, q.1.c.pins⟩) rfl rfl (fun M h => ⟨h.h, h.y, h.t⟩) fun M10 D10 k10 => ?_
    have K10 := K9.trans (Keeps.inL k10 (by simp : o ∈ dwL o ps))
    conv => whnf
    refine ⟨by decide, ?_⟩
    conv => whnf
    refine ⟨by omega, by omega, hA, ?_⟩
    conv => whnf
    refine Dw.store (j := 10) D10 hi2 (by simp) (q.wth ⟨mText κ, IntKind.i64.wrap (κ + 1), marksL mkH 2 (e2 κ) q.1.c.hs.length, marksL mkB 1 (e3 κ q.1.c) q.1.c.body.length, ⟨e4 κ q.1.c, e5 κ q.1.c, e6 κ q.1.c, e7 κ q.1.c, e8 κ q.1.c, decide ((e9 κ q.1.c).tmod 3 = 0), decide ((e10 κ q.1.c).tmod 3 = 0)⟩, q.1.c.tags, q.1.c.pins⟩) rfl rfl (fun M h => ⟨h.h, h.y, h.t⟩) fun M11 D11 k11 => ?_
    have K11 := K10.trans (Keeps.inL k11 (by simp : o ∈ dwL o ps))
    conv => whnf
    refine ⟨by omega, by omega, hA, ?_⟩
    conv => whnf
    refine ⟨_, D11.cell hi2 11 rfl, ?_⟩
    conv => whnf
    have E11 := D11.at hi2
    refine ACall.step (markStringS_ret _ _ _ _ (e11 κ q.1.c) M11 E11.t hl3 ⟨by omega, by omega⟩) fun v M12 hh => ?_
    obtain ⟨rfl, O12, k12⟩ := hh
    have D12 : Dw M12 o A c (qs.set i (q.wth ⟨mText κ, IntKind.i64.wrap (κ + 1), marksL mkH 2 (e2 κ) q.1.c.hs.length, marksL mkB 1 (e3 κ q.1.c) q.1.c.body.length, ⟨e4 κ q.1.c, e5 κ q.1.c, e6 κ q.1.c, e7 κ q.1.c, e8 κ q.1.c, decide ((e9 κ q.1.c).tmod 3 = 0), decide ((e10 κ q.1.c).tmod 3 = 0)⟩, marksL mText 1 (e11 κ q.1.c) q.1.c.tags.length, q.1.c.pins⟩)) := Dw.subs D11 hi2 _ q.2.2.2 (show q.2.2.2 ∈ [q.2.1, q.2.2.1, q.2.2.2] by simp) k12 rfl (by simp [EP.cs, EP.wth, marksL_length]) ⟨E11.h.keeps k12 P13, E11.y.keeps k12 P23, O12⟩
    have K12 := K11.trans (Keeps.inL k12 (hbm _ (show q.2.2.2 ∈ [q.2.1, q.2.2.1, q.2.2.2] by simp)))
    conv => whnf
    refine ⟨by omega, by omega, hA, ?_⟩
    conv => whnf
    refine Dw.store (j := 12) D12 hi2 (by simp) (q.wth ⟨mText κ, IntKind.i64.wrap (κ + 1), marksL mkH 2 (e2 κ) q.1.c.hs.length, marksL mkB 1 (e3 κ q.1.c) q.1.c.body.length, ⟨e4 κ q.1.c, e5 κ q.1.c, e6 κ q.1.c, e7 κ q.1.c, e8 κ q.1.c, decide ((e9 κ q.1.c).tmod 3 = 0), decide ((e10 κ q.1.c).tmod 3 = 0)⟩, marksL mText 1 (e11 κ q.1.c) q.1.c.tags.length, e12 κ q.1.c⟩) rfl rfl (fun M h => ⟨h.h, h.y, h.t⟩) fun M13 D13 k13 => ?_
    have K13 := K12.trans (Keeps.inL k13 (by simp : o ∈ dwL o ps))
    conv => whnf
    refine ⟨(i + 1, qs.set i (mkP κ q)), ⟨by (simp [slots, leT, hw, hnx, hz, EP.wth]) <;> rfl, ⟨[], rfl⟩, Nat.zero_le _, rfl, rfl⟩, ⟨hi', hst, D13, K13⟩, by show _ - (i + 1) < _ - i; omega⟩
  · have hi' : i = ps.length := by have : ¬ (i : Int) < ps.length := hb; omega
    subst hi'
    conv => whnf
    exact ⟨_, PH.Le.refl _, qs, rfl, hm, D0, K0⟩
/-- Entries that can be read, their rows too. -/
structure Es (M : PH) (A : Option Addr) (ps : List EP) : Prop where
  row : Sl M A 13 EP.cs ps
  h : ∀ (j : Nat) p, ps[j]? = some p → Sl M p.1.hA 2 Hd.cs p.1.c.hs
  y : ∀ (j : Nat) p, ps[j]? = some p → Sl M p.1.bA 1 byC p.1.c.body
  t : ∀ (j : Nat) p, ps[j]? = some p → Sl M p.1.tA 1 stC p.1.c.tags
theorem Dw.es {M : PH} {o : Option Nat} {A : Option Addr} {c : Nat} {ps : List EP} (h : Dw M o A c ps) : Es M A ps :=
  ⟨h.row.sl EP.len, fun j p hp => (h.ed j p hp).h.sl Hd.len, fun j p hp => (h.ed j p hp).y.sl by_len, fun j p hp => (h.ed j p hp).t.sl st_len⟩
set_option maxHeartbeats 4000000 in
theorem heldEntryS_ret (A : Option Addr) (c : Nat) (ps qs : List EP) (k : Int) (M : PH) (hm : Mk k ps qs ps.length) (hE : Es M A qs) (h0 : 0 ≤ k) (h1 : k + totE ps ≤ 800000000000) (hT : totE ps ≤ 4294967296) (hn : ps.length ≤ 4294967296) :
    Ret 130 [.slice A ps.length c, I k] M (I (posE k ps ps.length)) := by
  refine xcall_of_vc Tryz.func130 rfl _ Tryz.ntmps130 _ rfl (fun _ _ => Tryz.call130 _ _) rfl (fun w0 ρ0 => ?_)
  conv => whnf
  refine loop_rule (fun i : Nat => ⟨slots 142 [(0, .v (.slice A ps.length c)), (1, .v (I (posE k ps i))), (4, .v (I 0)), (5, .v (I i))], []⟩) (fun i M' => i ≤ ps.length ∧ M' = M) (fun i => ps.length - i) 0 ?_ ?_ ?_
  · exact ⟨by simp [slots, leT, posE], ⟨[], rfl⟩, Nat.zero_le _, rfl, rfl⟩
  · exact ⟨Nat.zero_le _, rfl⟩
  rintro i M' ⟨hi, rfl⟩
  conv => whnf
  refine caseB_dec (fun hb => ?_) (fun hb => ?_)
  · have hb : (i : Int) < ps.length := hb
    have hi' : i < ps.length := by omega
    have hw : IntKind.i64.wrap ((i : Int) + 1) = (i : Int) + 1 := wr_id (by omega) (by omega)
    obtain ⟨hv, _, hok⟩ := posE_val h0 h1 i hi
    have hok := hok hi'
    have hnx := posE_succ k hi'
    have htm := totE_mem hi'
    have hq := hm.all hi'
    obtain ⟨_, hc⟩ := hE.row.at_ i _ hq
    have hA := hE.row.ne (fun e => by rw [e] at hq; simp at hq)
    have sh := hE.h i _ hq
    have sy := hE.y i _ hq
    have st := hE.t i _ hq
    generalize ps[i] = q at *
    generalize posE k ps i = κ at *
    obtain ⟨v1, v2, v3, v4, v5, v6, v7, v8, v9, v10, v11, v12, v13⟩ := hok.vals
    obtain ⟨t1, t2, t3⟩ := tE_len q.1.c
    have hlo := hok.lo
    have hhi := hok.hi
    have t4 : tE q.1.c = 10 + 2 * q.1.c.hs.length + q.1.c.body.length + q.1.c.tags.length := rfl
    have hz : nxE κ q.1.c = IntKind.i64.wrap (e11 κ q.1.c + q.1.c.tags.length + 1) := by unfold nxE e12; rw [Int.one_mul]
    have hl1 : q.1.c.hs.length ≤ 4294967296 := by omega
    have hl2 : q.1.c.body.length ≤ 4294967296 := by omega
    have hl3 : q.1.c.tags.length ≤ 4294967296 := by omega
    have c0 : M'.cells A (i * 13 + 0) [Tx (mText κ)] := cells_cut hc 0 rfl
    have c1 : M'.cells A (i * 13 + 1) [I (IntKind.i64.wrap (κ + 1))] := cells_cut hc 1 rfl
    have c2 : M'.cells A (i * 13 + 2) [.slice q.1.hA q.1.c.hs.length q.1.hc] := cells_cut hc 2 (by show some _ = some _; rw [show (mkP κ q).1.c.hs.length = q.1.c.hs.length from marksL_length _ _ _ _]; rfl)
    have c3 : M'.cells A (i * 13 + 3) [.slice q.1.bA q.1.c.body.length q.1.bc] := cells_cut hc 3 (by show some _ = some _; rw [show (mkP κ q).1.c.body.length = q.1.c.body.length from marksL_length _ _ _ _]; rfl)
    have c4 : M'.cells A (i * 13 + 4) [I (e4 κ q.1.c)] := cells_cut hc 4 rfl
    have c5 : M'.cells A (i * 13 + 5) [I (e5 κ q.1.c)] := cells_cut hc 5 rfl
    have c6 : M'.cells A (i * 13 + 6) [I (e6 κ q.1.c)] := cells_cut hc 6 rfl
    have c7 : M'.cells A (i * 13 + 7) [I (e7 κ q.1.c)] := cells_cut hc 7 rfl
    have c8 : M'.cells A (i * 13 + 8) [I (e8 κ q.1.c)] := cells_cut hc 8 rfl
    have c9 : M'.cells A (i * 13 + 9) [B (decide ((e9 κ q.1.c).tmod 3 = 0))] := cells_cut hc 9 rfl
    have c10 : M'.cells A (i * 13 + 10) [B (decide ((e10 κ q.1.c).tmod 3 = 0))] := cells_cut hc 10 rfl
    have c11 : M'.cells A (i * 13 + 11) [.slice q.1.tA q.1.c.tags.length q.1.tc] := cells_cut hc 11 (by show some _ = some _; rw [show (mkP κ q).1.c.tags.length = q.1.c.tags.length from marksL_length _ _ _ _]; rfl)
    have c12 : M'.cells A (i * 13 + 12) [I (e12 κ q.1.c)] := cells_cut hc 12 rfl
    conv => whnf
    have hi1 : (0 : Int) ≤ (i : Int) := by omega
    have hi1' : (i : Int) < (ps.length : Int) := hb
    have hkt : κ ≤ 1000000000000 := by omega
    have b1 : 0 ≤ e2 κ ∧ e2 κ ≤ 900000000000 := ⟨by omega, by omega⟩
    have b2 : 0 ≤ e3 κ q.1.c ∧ e3 κ q.1.c ≤ 900000000000 := ⟨by omega, by omega⟩
    have b3 : 0 ≤ e11 κ q.1.c ∧ e11 κ q.1.c ≤ 900000000000 := ⟨by omega, by omega⟩
    repeat' (first | (refine ⟨⟨[], rfl⟩, _, PH.Le.refl _, PH.Le.refl _, ?_⟩; conv => whnf) | (refine ⟨_, c0, ?_⟩; conv => whnf) | (refine ⟨hi1, hi1', hA, ?_⟩; conv => whnf) | (refine caseB_true ?_; conv => whnf) | (refine caseB_false ?_; conv => whnf) | ((with_reducible refine caseB_dec (fun h => ?_) (fun h => ?_)) <;> conv => whnf) | ((with_reducible refine caseB_ndec (fun h => ?_) (fun h => ?_)) <;> conv => whnf) | ((with_reducible refine caseB_not (fun h => ?_) (fun h => ?_)) <;> conv => whnf) | (refine draw_rule (.light 0 <| .light 1 <| .light 2 <| .light 3 <| .light 4 <| .light 5 <| .alt 6 false (.light 7 <| .done) .nil) (by decide +kernel) ?_; conv => whnf) | (refine Ret.go (markText_ret κ _ hkt) ?_; conv => whnf) | (with_reducible refine @And.intro (guardVC _ _ _ _ _) _ ?_ ?_) <;> conv => whnf | (refine caseB_intro (fun h => ?_) (fun h => ?_) <;> (try simp only [Bool.not_eq_true', Bool.not_eq_false', decide_eq_true_eq, decide_eq_false_iff_not] at h) <;> conv => whnf))
    · exfalso; simp [seq_self] at h
    refine ⟨_, c1, ?_⟩
    conv => whnf
    refine caseB_ndec (fun h => absurd rfl h) (fun _ => ?_)
    conv => whnf
    refine ⟨hi1, hi1', hA, ?_⟩
    conv => whnf
    refine ⟨_, c2, ?_⟩
    conv => whnf
    refine Ret.go (heldHeaderS_ret q.1.hA q.1.hc q.1.c.hs.length (e2 κ) _ sh hl1 b1) ?_
    conv => whnf
    refine caseB_dec (fun h => ?_) (fun _ => ?_)
    · exfalso; omega
    conv => whnf
    refine ⟨hi1, hi1', hA, ?_⟩
    conv => whnf
    refine ⟨_, c3, ?_⟩
    conv => whnf
    refine Ret.go (heldByteS_ret q.1.bA q.1.bc q.1.c.body.length (e3 κ q.1.c) _ sy hl2 b2) ?_
    conv => whnf
    refine caseB_dec (fun h => ?_) (fun _ => ?_)
    · exfalso; omega
    conv => whnf
    refine ⟨hi1, hi1', hA, ?_⟩
    conv => whnf
    refine ⟨_, c4, ?_⟩
    conv => whnf
    refine caseB_ndec (fun h => absurd rfl h) (fun _ => ?_)
    conv => whnf
    refine ⟨hi1, hi1', hA, ?_⟩
    conv => whnf
    refine ⟨_, c5, ?_⟩
    conv => whnf
    refine caseB_ndec (fun h => absurd rfl h) (fun _ => ?_)
    conv => whnf
    refine ⟨hi1, hi1', hA, ?_⟩
    conv => whnf
    refine ⟨_, c6, ?_⟩
    conv => whnf
    refine caseB_ndec (fun h => absurd rfl h) (fun _ => ?_)
    conv => whnf
    refine ⟨hi1, hi1', hA, ?_⟩
    conv => whnf
    refine ⟨_, c7, ?_⟩
    conv => whnf
    refine caseB_ndec (fun h => absurd rfl h) (fun _ => ?_)
    conv => whnf
    refine ⟨hi1, hi1', hA, ?_⟩
    conv => whnf
    refine ⟨_, c8, ?_⟩
    conv => whnf
    refine caseB_ndec (fun h => absurd rfl h) (fun _ => ?_)
    conv => whnf
    refine ⟨hi1, hi1', hA, ?_⟩
    conv => whnf
    refine ⟨_, c9, ?_⟩
    conv => whnf
    refine ⟨by decide, ?_⟩
    conv => whnf
    refine caseB_not (fun h => ?_) (fun h => ?_)
    · exact absurd ((beq_self_eq_true (decide ((e9 κ q.1.c).tmod 3 = 0))).symm.trans h) (by simp)
    conv => whnf
    refine ⟨hi1, hi1', hA, ?_⟩
    conv => whnf
    refine ⟨_, c10, ?_⟩
    conv => whnf
    refine ⟨by decide, ?_⟩
    conv => whnf
    refine caseB_not (fun h => ?_) (fun h => ?_)
    · exact absurd ((beq_self_eq_true (decide ((e10 κ q.1.c).tmod 3 = 0))).symm.trans h) (by simp)
    conv => whnf
    refine ⟨hi1, hi1', hA, ?_⟩
    conv => whnf
    refine ⟨_, c11, ?_⟩
    conv => whnf
    refine Ret.go (heldStringS_ret q.1.tA q.1.tc q.1.c.tags.length (e11 κ q.1.c) _ st hl3 b3) ?_
    conv => whnf
    refine caseB_dec (fun h => ?_) (fun _ => ?_)
    · exfalso; omega
    conv => whnf
    refine ⟨hi1, hi1', hA, ?_⟩
    conv => whnf
    refine ⟨_, c12, ?_⟩
    conv => whnf
    refine caseB_ndec (fun h => absurd rfl h) (fun _ => ?_)
    conv => whnf
    exact ⟨i + 1, ⟨by (simp [slots, leT, hw, hnx, hz]) <;> rfl, ⟨[], rfl⟩, Nat.zero_le _, rfl, rfl⟩, ⟨by omega, rfl⟩, by omega⟩
  · have hi' : i = ps.length := by have : ¬ (i : Int) < ps.length := hb; omega
    subst hi'
    conv => whnf
    exact ⟨_, PH.Le.refl _, rfl, rfl⟩
/-- Blocks that M did not know. -/
def Fr (M : PH) (L : List (Option Nat)) : Prop := ∀ b ∈ L, ∀ g, b = some g → M g = none
theorem Fr.le {M M' : PH} {L : List (Option Nat)} (h : Fr M' L) (l : M.Le M') : Fr M L := fun b hb g e => none_of_le l (h b hb g e)
theorem Fr.app {M : PH} {L L' : List (Option Nat)} (h : Fr M L) (h' : Fr M L') : Fr M (L ++ L') := fun b hb g e => (List.mem_append.1 hb).elim (fun hb => h b hb g e) (fun hb => h' b hb g e)
/-- Blocks that M knows. -/
def Kn (M : PH) (L : List (Option Nat)) : Prop := ∀ b ∈ L, ∀ g, b = some g → ∃ ob, M g = some ob
theorem Kn.mono {M M' : PH} {L : List (Option Nat)} (h : Kn M L) (l : M.Le M') : Kn M' L := fun b hb g e => by
  obtain ⟨ob, ho⟩ := h b hb g e
  exact ⟨ob, l _ _ ho⟩
theorem apart_of {M : PH} {L L' : List (Option Nat)} (h : Kn M L) (h' : Fr M L') : ∀ a ∈ L, ∀ b ∈ L', Apart a b := fun a ha b hb g e e' => by
  obtain ⟨ob, ho⟩ := h a ha g e
  rw [h' b hb g e'] at ho
  cases ho
theorem Ed.kn {M : PH} {p : EP} (h : Ed M p) : Kn M (EP.blks p) := by
  intro b hb g e
  unfold EP.blks at hb
  simp only [List.mem_cons, List.not_mem_nil, or_false] at hb
  rcases hb with rfl | rfl | rfl
  · exact h.h.known g e
  · exact h.y.known g e
  · exact h.t.known g e
theorem Ed.mono {M M' : PH} {p : EP} (h : Ed M p) (l : M.Le M') : Ed M' p := ⟨h.h.mono l, h.y.mono l, h.t.mono l⟩
theorem Dw.kn {M : PH} {o : Option Nat} {A : Option Addr} {c : Nat} {ps : List EP} (h : Dw M o A c ps) : Kn M (dwL o ps) := by
  intro b hb g e
  rcases List.mem_cons.1 hb with rfl | hb
  · exact h.row.known g e
  · obtain ⟨p, hp, hb⟩ := List.mem_flatMap.1 hb
    obtain ⟨j, hj⟩ := List.mem_iff_getElem?.1 hp
    exact (h.ed j p hj).kn b hb g e
theorem Dw.mono {M M' : PH} {o : Option Nat} {A : Option Addr} {c : Nat} {ps : List EP} (h : Dw M o A c ps) (l : M.Le M') : Dw M' o A c ps := ⟨h.row.mono l, fun j p hp => (h.ed j p hp).mono l, h.sep⟩
theorem Dw.keepsL {M M' : PH} {o : Option Nat} {A : Option Addr} {c : Nat} {ps : List EP} {L : List (Option Nat)} (h : Dw M o A c ps) (k : KeepsL L M M') (ha : ∀ a ∈ dwL o ps, ∀ b ∈ L, Apart a b) : Dw M' o A c ps := by
  have key : ∀ a ∈ dwL o ps, ∀ g ob, a = some g → M g = some ob → M' g = some ob := fun a h1 g ob e hg => k g ob hg fun hm => ha a h1 _ hm g e rfl
  refine ⟨h.row.keep (key _ (by simp)), fun j p hp => ?_, h.sep⟩
  have hm : ∀ b ∈ EP.blks p, b ∈ dwL o ps := fun b hb => List.mem_cons_of_mem _ (List.mem_flatMap.2 ⟨p, List.mem_of_getElem? hp, hb⟩)
  have h2 := h.ed j p hp
  exact ⟨h2.h.keep (key _ (hm _ (by simp [EP.blks]))), h2.y.keep (key _ (hm _ (by simp [EP.blks]))), h2.t.keep (key _ (hm _ (by simp [EP.blks])))⟩
theorem toEntry_own (x : EnA) (M : PH) (hi : x.inn M) (hco : x.c.cost ≤ 1048576) :
    ACall env 12 [x.val] M fun r M' => ∃ y : EP, r = y.1.val ∧ y.1.c = x.c ∧ M.Le M' ∧ Ed M' y ∧ Fr M (EP.blks y) ∧ (EP.blks y).Pairwise Apart := by
  obtain ⟨_, _, hn1, hn2, hn3⟩ := En.hn hco
  refine xcall_of_vc Tryz.func12 rfl _ Tryz.ntmps12 _ rfl (fun _ _ => Tryz.call12 _ _) rfl (fun w0 ρ0 => ?_)
  conv => whnf
  refine ACall.step (toHeaderS_ret x.hA x.hc x.c.hs M hi.h hn1) fun v M1 hh => ?_
  obtain ⟨g1, hg1, rfl, e1⟩ := hh
  have l1 : M.Le M1 := by rw [e1]; exact PH.Le.set _ hg1
  have o1 : Ow M1 (some g1) (some ⟨g1, 0, none⟩) x.c.hs.length 2 Hd.cs x.c.hs := by rw [e1]; exact Ow.new Hd.len M g1 x.c.hs _
  have k1 := o1.known g1 rfl
  conv => whnf
  refine ACall.step (toByteS_ret x.bA x.bc x.c.body M1 (hi.b.mono l1) hn2) fun v M2 hh => ?_
  obtain ⟨g2, hg2, rfl, e2⟩ := hh
  have l2 : M1.Le M2 := by rw [e2]; exact PH.Le.set _ hg2
  have o2 : Ow M2 (some g2) (some ⟨g2, 0, none⟩) x.c.body.length 1 byC x.c.body := by rw [e2]; exact Ow.new by_len M1 g2 x.c.body _
  have k2 := o2.known g2 rfl
  conv => whnf
  refine Ret.go (toMeta_ret x.c.mt _) ?_
  conv => whnf
  refine ACall.step (toStringS_ret x.tA x.tc x.c.tags M2 (hi.t.mono (l1.trans l2)) hn3) fun v M3 hh => ?_
  obtain ⟨g3, hg3, rfl, e3⟩ := hh
  have l3 : M2.Le M3 := by rw [e3]; exact PH.Le.set _ hg3
  have o3 : Ow M3 (some g3) (some ⟨g3, 0, none⟩) x.c.tags.length 1 stC x.c.tags := by rw [e3]; exact Ow.new st_len M2 g3 x.c.tags _
  conv => whnf
  refine ⟨_, PH.Le.refl _, (⟨x.c, some ⟨g1, 0, none⟩, x.c.hs.length, some ⟨g2, 0, none⟩, x.c.body.length, some ⟨g3, 0, none⟩, x.c.tags.length⟩, some g1, some g2, some g3), rfl, rfl, (l1.trans l2).trans l3, ⟨(o1.mono l2).mono l3, o2.mono l3, o3⟩, ?_, ?_⟩
  · intro b hb g e
    simp only [EP.blks, List.mem_cons, List.not_mem_nil, or_false] at hb
    rcases hb with rfl | rfl | rfl <;> cases e
    · exact hg1
    · exact none_of_le l1 hg2
    · exact none_of_le (l1.trans l2) hg3
  · have n12 : g1 ≠ g2 := fun e => by obtain ⟨ob, ho⟩ := k1; rw [e, hg2] at ho; cases ho
    have n13 : g1 ≠ g3 := fun e => by obtain ⟨ob, ho⟩ := k1; have := l2 _ _ ho; rw [e, hg3] at this; cases this
    have n23 : g2 ≠ g3 := fun e => by obtain ⟨ob, ho⟩ := k2; rw [e, hg3] at ho; cases ho
    simp only [EP.blks, List.pairwise_cons, List.mem_cons, List.not_mem_nil, or_false, forall_eq_or_imp, forall_eq, false_imp_iff, implies_true, List.Pairwise.nil, and_true]
    refine ⟨⟨?_, ?_⟩, ?_⟩ <;> (intro g e e'; cases e; cases e'; contradiction)
theorem toEntryS_own (A : Option Addr) (c : Nat) (ws : List EnA) (M : PH) (hs : Sl M A 13 EnA.cs ws) (hi : ∀ x ∈ ws, x.inn M ∧ x.c.cost ≤ 1048576) (hn : ws.length ≤ 1048576) :
    ACall env 57 [.slice A ws.length c] M fun r M' => ∃ (o : Option Nat) (B : Option Addr) (d : Nat) (us : List EP), r = .slice B us.length d ∧ M.Le M' ∧ Dw M' o B d us ∧ Fr M (dwL o us) ∧ us.map (·.1.c) = conts ws := by
  refine xcall_of_vc Tryz.func57 rfl _ Tryz.ntmps57 _ rfl (fun _ _ => Tryz.call57 _ _) rfl (fun w0 ρ0 => ?_)
  conv => whnf
  refine ⟨rfl, by omega, ?_, by omega, fun g hg => ?_⟩
  · show (152 : Int) * _ ≤ _
    omega
  conv => whnf
  refine loop_rule (fun z : Nat × List EP => ⟨slots 23 [(0, .v (.slice A ws.length c)), (2, .v (.slice none 0 0)), (3, .v (.slice (some ⟨g, 0, none⟩) ws.length ws.length)), (4, .v (I z.1))], []⟩)
    (fun z M' => z.1 ≤ ws.length ∧ z.2.map (·.1.c) = (conts ws).take z.1 ∧ M' g = some (.cells (rowsL EP.cs E0 z.2 ws.length).toArray 44 (0, 0)) ∧ M.Le (rm M' g) ∧ (∀ x ∈ z.2, Ed (rm M' g) x) ∧ Fr M (z.2.flatMap EP.blks) ∧ Sep (z.2.flatMap EP.blks)) (fun z => ws.length - z.1) (0, []) ?_ ?_ ?_
  · exact ⟨by simp [slots, leT], ⟨[], rfl⟩, Nat.zero_le _, rfl, rfl⟩
  · refine ⟨Nat.zero_le _, rfl, ?_, rm_up (PH.Le.set _ hg) hg, by simp, fun b hb => by simp at hb, List.Pairwise.nil⟩
    rw [PH.set_same]
    show some (Obj.cells (madeCells (E0 : List Value).toArray (Int.toNat ws.length * 13)) 44 (0, 0)) = _
    rw [Int.toNat_natCast]
    exact congrArg (fun x => some (Obj.cells x 44 (0, 0))) (made_rows' EP.cs (E0 : List Value).toArray ws.length)
  rintro ⟨i, us⟩ M1 ⟨hi1, hc1, hg1, l1, n1, f1, s1⟩
  have hi1 : i ≤ ws.length := hi1
  have hc1 : us.map (·.1.c) = (conts ws).take i := hc1
  have hg1 : M1 g = some (.cells (rowsL EP.cs E0 us ws.length).toArray 44 (0, 0)) := hg1
  have n1 : ∀ x ∈ us, Ed (rm M1 g) x := n1
  have f1 : Fr M (us.flatMap EP.blks) := f1
  have s1 : Sep (us.flatMap EP.blks) := s1
  have hcl : (conts ws).length = ws.length := List.length_map _
  have hul : us.length = i := by have := congrArg List.length hc1; simpa [Nat.min_eq_left hi1] using this
  have kn1 : Kn (rm M1 g) (us.flatMap EP.blks) := fun b hb => by
    obtain ⟨p, hp, hb⟩ := List.mem_flatMap.1 hb
    exact (n1 p hp).kn b hb
  conv => whnf
  refine caseB_dec (fun h0 => ?_) (fun h0 => ?_)
  · have h0 : (i : Int) < ws.length := h0
    conv => whnf
    have hi' : i < ws.length := by omega
    have hw : IntKind.i64.wrap ((i : Int) + 1) = (i : Int) + 1 := wr_id (by omega) (by omega)
    obtain ⟨hA, _, hc⟩ := hs.get hi'
    obtain ⟨hin, hco⟩ := hi ws[i] (List.getElem_mem hi')
    refine ⟨by omega, by omega, hA, ?_⟩
    conv => whnf
    refine ⟨ws[i].cs, (l1.trans (rm_le M1 g)).cells hc, rfl, ?_⟩
    conv => whnf
    refine ACall.step (ACall.beside (toEntry_own ws[i] (rm M1 g) (hin.mono l1) hco) hg1) fun r M5 hh => ?_
    obtain ⟨M2, ⟨y, rfl, hyc, l2, hy, hyf, hyp⟩, l3, hg5⟩ := hh
    conv => whnf
    refine ⟨by omega, by omega, rfl, ?_⟩
    conv => whnf
    refine ⟨g, 0, rowsL EP.cs E0 us ws.length, 44, (0, 0), rfl, hg5, ⟨?_, .inl (Nat.zero_le _)⟩, ?_⟩
    · show 0 + i * 13 + 13 ≤ _
      rw [rowsL_length EP.len rfl _ _ (by omega)]
      omega
    conv => whnf
    have e : spl (rowsL EP.cs E0 us ws.length) (0 + i * 13) (EP.cs y) = rowsL EP.cs E0 (us ++ [y]) ws.length := by
      rw [Nat.zero_add, ← hul]
      exact rowsL_step EP.len rfl us y ws.length (by omega)
    have hap : ∀ a ∈ us.flatMap EP.blks, ∀ b ∈ EP.blks y, Apart a b := apart_of kn1 hyf
    refine ⟨(i + 1, us ++ [y]), ⟨by simp [slots, leT, hw], ⟨[], rfl⟩, Nat.zero_le _, rfl, rfl⟩, ⟨hi', ?_, ?_, ?_, ?_, ?_, ?_⟩, by show _ - (i + 1) < _ - i; omega⟩
    · show (us ++ [y]).map (·.1.c) = (conts ws).take (i + 1)
      rw [List.take_succ_eq_append_getElem (by omega), List.map_append, hc1, List.map_cons, List.map_nil, hyc]
      simp
    · rw [PH.set_same]
      exact congrArg (fun x : List Value => some (Obj.cells x.toArray 44 (0, 0))) e
    · rw [rm_sets]
      exact (l1.trans l2).trans l3
    · rw [rm_sets]
      intro x hx
      rcases List.mem_append.1 hx with hx | hx
      · exact ((n1 x hx).mono l2).mono l3
      · simp at hx; subst hx; exact hy.mono l3
    · show Fr M ((us ++ [y]).flatMap EP.blks)
      rw [List.flatMap_append]
      refine f1.app ?_
      simpa using hyf.le l1
    · show Sep ((us ++ [y]).flatMap EP.blks)
      rw [List.flatMap_append]
      refine List.pairwise_append.2 ⟨s1, by simpa using hyp, ?_⟩
      simpa using hap
  · have h0 : ¬ (i : Int) < ws.length := h0
    have hi' : i = ws.length := by omega
    subst hi'
    rw [← hcl, List.take_length] at hc1
    conv => whnf
    have hng : ∀ b ∈ us.flatMap EP.blks, Apart (some g) b := fun b hb g' e e' => by
      cases e
      obtain ⟨ob, ho⟩ := kn1 b hb g e'
      unfold rm at ho
      simp at ho
    refine ⟨_, PH.Le.refl _, some g, some ⟨g, 0, none⟩, ws.length, us, by rw [hul]; rfl, l1.trans (rm_le M1 g), ⟨⟨0, _, _, rfl, hg1, ?_, by show us.length ≤ ws.length; omega, fun j x hx j2 v hv => ?_⟩, fun j p hp => (n1 p (List.mem_of_getElem? hp)).mono (rm_le M1 g), List.pairwise_cons.2 ⟨hng, s1⟩⟩, ?_, hc1⟩
    · rw [rowsL_length EP.len rfl _ _ (by show us.length ≤ ws.length; omega)]; omega
    · rw [← hul, rowsL_full, Nat.zero_add]
      exact flatMap_get EP.len us j x hx j2 v hv
    · intro b hb g' e
      rcases List.mem_cons.1 hb with rfl | hb
      · cases e; exact hg
      · exact f1 b hb g' e
structure So where
  b : Int
  g : Int
  o1 : Option Nat
  A1 : Option Addr
  c1 : Nat
  p1 : List EP
  o2 : Option Nat
  A2 : Option Addr
  c2 : Nat
  p2 : List EP
abbrev So.val (s : So) : Value := .agg #[I s.b, I s.g, .slice s.A1 s.p1.length s.c1, .slice s.A2 s.p2.length s.c2]
def So.c (s : So) : Sc := ⟨s.b, s.g, s.p1.map (·.1.c), s.p2.map (·.1.c)⟩
def soL (s : So) : List (Option Nat) := dwL s.o1 s.p1 ++ dwL s.o2 s.p2
structure Dso (M : PH) (s : So) : Prop where
  t : Dw M s.o1 s.A1 s.c1 s.p1
  k : Dw M s.o2 s.A2 s.c2 s.p2
  ap : ∀ a ∈ dwL s.o1 s.p1, ∀ b ∈ dwL s.o2 s.p2, Apart a b
theorem Dso.mono {M M' : PH} {s : So} (h : Dso M s) (l : M.Le M') : Dso M' s := ⟨h.t.mono l, h.k.mono l, h.ap⟩
theorem Dso.kn {M : PH} {s : So} (h : Dso M s) : Kn M (soL s) := fun b hb => (List.mem_append.1 hb).elim (fun hb => h.t.kn b hb) (fun hb => h.k.kn b hb)
theorem Dso.keepsL {M M' : PH} {s : So} {L : List (Option Nat)} (h : Dso M s) (k : KeepsL L M M') (ha : ∀ a ∈ soL s, ∀ b ∈ L, Apart a b) : Dso M' s :=
  ⟨h.t.keepsL k fun a h1 => ha a (List.mem_append_left _ h1), h.k.keepsL k fun a h1 => ha a (List.mem_append_right _ h1), h.ap⟩
theorem Dw.ens {M : PH} {o : Option Nat} {A : Option Addr} {c : Nat} {ps : List EP} (h : Dw M o A c ps) : Ens M A (ps.map (·.1)) := by
  refine ⟨⟨fun hne => (h.row.sl EP.len).ne fun e => hne (by rw [e]; rfl), fun i x hx => ?_⟩, fun x hx => ?_⟩
  · rw [List.getElem?_map] at hx
    cases hp : ps[i]? with
    | none => rw [hp] at hx; cases hx
    | some p =>
      rw [hp] at hx
      cases hx
      exact (h.row.sl EP.len).at_ i p hp
  · obtain ⟨p, hp, rfl⟩ := List.mem_map.1 hx
    obtain ⟨j, hj⟩ := List.mem_iff_getElem?.1 hp
    have h2 := h.ed j p hj
    exact ⟨h2.h.sl Hd.len, h2.y.sl by_len, h2.t.sl st_len⟩
def So.sta (s : So) : StA := ⟨s.b, s.g, s.p1.map (·.1), s.p2.map (·.1), s.A1, s.c1, s.A2, s.c2⟩
theorem So.sta_val (s : So) : s.sta.val = s.val := by simp [So.sta, So.val]
theorem So.sta_c (s : So) : s.sta.c = s.c := by simp [So.sta, So.c, StA.c, conts]
theorem Dso.inn {M : PH} {s : So} (h : Dso M s) : s.sta.inn M := ⟨h.t.ens, h.k.ens, by simpa [So.sta] using h.t.row.le, by simpa [So.sta] using h.k.row.le⟩
theorem toStore_own (x : StA) (M : PH) (hi : x.inn M) (hco : x.c.cost ≤ 1048576) :
    ACall env 11 [x.val] M fun r M' => ∃ s : So, r = s.val ∧ s.c = x.c ∧ M.Le M' ∧ Dso M' s ∧ Fr M (soL s) := by
  have hc1 : costL En.cost (conts x.tr) ≤ 1048576 := by unfold Sc.cost StA.c at hco; simp only at hco; omega
  have hc2 : costL En.cost (conts x.kp) ≤ 1048576 := by unfold Sc.cost StA.c at hco; simp only at hco; omega
  refine xcall_of_vc Tryz.func11 rfl _ Tryz.ntmps11 _ rfl (fun _ _ => Tryz.call11 _ _) rfl (fun w0 ρ0 => ?_)
  conv => whnf
  refine ACall.step (toEntryS_own x.tA x.tc x.tr M hi.t.sl (ens_cost hi.t (n := 0) hc1) (costE hc1).1) fun v M1 hh => ?_
  obtain ⟨o1, A1, c1, p1, rfl, l1, d1, f1, e1⟩ := hh
  conv => whnf
  refine ACall.step (toEntryS_own x.kA x.kc x.kp M1 (hi.k.mono l1).sl (ens_cost (hi.k.mono l1) (n := 0) hc2) (costE hc2).1) fun v M2 hh => ?_
  obtain ⟨o2, A2, c2, p2, rfl, l2, d2, f2, e2⟩ := hh
  conv => whnf
  exact ⟨_, PH.Le.refl _, ⟨x.b, x.g, o1, A1, c1, p1, o2, A2, c2, p2⟩, rfl, by unfold So.c StA.c; rw [e1, e2], l1.trans l2, ⟨d1.mono l2, d2, apart_of d1.kn f2⟩, f1.app (f2.le l1)⟩
theorem dwL_mk {k : Int} {o : Option Nat} {ps qs : List EP} (h : Mk k ps qs ps.length) : dwL o qs = dwL o ps := by
  unfold dwL
  congr 1
  rw [List.flatMap_def, List.flatMap_def]
  congr 1
  apply List.ext_getElem?
  intro j
  rw [List.getElem?_map, List.getElem?_map]
  cases hp : ps[j]? with
  | none =>
    have : qs[j]? = none := by
      rw [List.getElem?_eq_none_iff] at hp ⊢
      rw [h.1]; exact hp
    rw [this]
  | some p =>
    have hj := (List.getElem?_eq_some_iff.1 hp).1
    rw [h.2 j p hp, if_pos hj]
    rfl
structure Mok (k : Int) (s : So) : Prop where
  lo : 0 ≤ k
  hi : k + totE s.p1 + totE s.p2 ≤ 800000000000
  t1 : totE s.p1 ≤ 4294967296
  t2 : totE s.p2 ≤ 4294967296
  n1 : s.p1.length ≤ 4294967296
  n2 : s.p2.length ≤ 4294967296
theorem Mok.of {k : Int} {s : So} (h0 : 0 ≤ k ∧ k ≤ 1000) (h : s.c.cost ≤ 8388608) : Mok k s := by
  have a1 := totE_le s.p1
  have a2 := totE_le s.p2
  have b1 := costL_len En.cost (s.p1.map (·.1.c))
  have b2 := costL_len En.cost (s.p2.map (·.1.c))
  rw [List.length_map] at b1 b2
  unfold Sc.cost So.c at h
  simp only at h
  exact ⟨by omega, by omega, by omega, by omega, by omega, by omega⟩
def posS (k : Int) (s : So) : Int := posE (posE k s.p1 s.p1.length) s.p2 s.p2.length
structure Mks (k : Int) (s s' : So) : Prop where
  t : Mk k s.p1 s'.p1 s.p1.length
  k : Mk (posE k s.p1 s.p1.length) s.p2 s'.p2 s.p2.length
  e : s'.val = s.val
  l : soL s' = soL s
  a : s'.A1 = s.A1 ∧ s'.A2 = s.A2 ∧ s'.c1 = s.c1 ∧ s'.c2 = s.c2
theorem posE_end {k : Int} {ps : List EP} (h0 : 0 ≤ k) (h1 : k + totE ps ≤ 800000000000) : posE k ps ps.length = k + totE ps := by
  rw [(posE_val h0 h1 ps.length (Nat.le_refl _)).1, List.take_length]
theorem posS_end {k : Int} {s : So} (h : Mok k s) : 0 ≤ posS k s ∧ posS k s = k + totE s.p1 + totE s.p2 := by
  obtain ⟨h0, h1, _, _, _, _⟩ := h
  unfold posS
  have := posE_end (k := k) (ps := s.p1) h0 (by omega)
  rw [posE_end (by omega) (by omega), this]
  omega
theorem markStore_ret (s : So) (k : Int) (M : PH) (h : Dso M s) (hk : Mok k s) :
    ACall env 17 [s.val, I k] M fun r M' => ∃ s', r = I (posS k s) ∧ Mks k s s' ∧ Dso M' s' ∧ KeepsL (soL s) M M' := by
  obtain ⟨h0, h1, t1, t2, n1, n2⟩ := hk
  have hp := posE_end (k := k) (ps := s.p1) h0 (by omega)
  refine xcall_of_vc Tryz.func17 rfl _ Tryz.ntmps17 _ rfl (fun _ _ => Tryz.call17 _ _) rfl (fun w0 ρ0 => ?_)
  conv => whnf
  refine ACall.step (markEntryS_ret s.o1 s.A1 s.c1 s.p1 k M h.t h0 (by omega) t1 n1) fun v M1 hh => ?_
  obtain ⟨q1, rfl, m1, d1, k1⟩ := hh
  conv => whnf
  have d2 := h.k.keepsL k1 fun a ha b hb => (h.ap b hb a ha).symm
  refine ACall.step (markEntryS_ret s.o2 s.A2 s.c2 s.p2 (posE k s.p1 s.p1.length) M1 d2 (by omega) (by omega) t2 n2) fun v M2 hh => ?_
  obtain ⟨q2, rfl, m2, d3, k2⟩ := hh
  conv => whnf
  have d4 := d1.keepsL k2 fun a ha b hb => by
    rw [dwL_mk m1] at ha
    exact h.ap a ha b hb
  refine ⟨_, PH.Le.refl _, ⟨s.b, s.g, s.o1, s.A1, s.c1, q1, s.o2, s.A2, s.c2, q2⟩, rfl, ⟨m1, m2, by simp [So.val, m1.1, m2.1], by unfold soL; rw [dwL_mk m1, dwL_mk m2], rfl, rfl, rfl, rfl⟩, ⟨d4, d3, fun a ha b hb => ?_⟩, (k1.mono fun a ha => List.mem_append_left _ ha).trans (k2.mono fun a ha => List.mem_append_right _ ha)⟩
  rw [dwL_mk m1] at ha
  rw [dwL_mk m2] at hb
  exact h.ap a ha b hb
theorem heldStore_ret (s s' : So) (k : Int) (M : PH) (h : Dso M s') (hk : Mok k s) (hm : Mks k s s') (hA : s'.A1 = s.A1 ∧ s'.A2 = s.A2 ∧ s'.c1 = s.c1 ∧ s'.c2 = s.c2) :
    Ret 73 [s.val, I k] M (I (posS k s)) := by
  have hps := posS_end hk
  obtain ⟨h0, h1, t1, t2, n1, n2⟩ := hk
  have hp := posE_end (k := k) (ps := s.p1) h0 (by omega)
  obtain ⟨a1, a2, _, _⟩ := hA
  have r1 := heldEntryS_ret s.A1 s.c1 s.p1 s'.p1 k M hm.t (a1 ▸ h.t.es) h0 (by omega) t1 n1
  have r2 := heldEntryS_ret s.A2 s.c2 s.p2 s'.p2 (posE k s.p1 s.p1.length) M hm.k (a2 ▸ h.k.es) (by omega) (by omega) t2 n2
  refine xcall_of_vc Tryz.func73 rfl _ Tryz.ntmps73 _ rfl (fun _ _ => Tryz.call73 _ _) rfl (fun w0 ρ0 => ?_)
  conv => whnf
  refine Ret.go r1 ?_
  conv => whnf
  refine caseB_dec (fun h => ?_) (fun _ => ?_)
  · exfalso; omega
  conv => whnf
  refine Ret.go r2 ?_
  conv => whnf
  refine caseB_dec (fun h => ?_) (fun _ => ?_)
  · exfalso; have h : posS k s < 0 := h; omega
  conv => whnf
  exact ⟨_, PH.Le.refl _, rfl, rfl⟩
end Go.Proofs.YtgjaiabenjafeaaGreatDoor
