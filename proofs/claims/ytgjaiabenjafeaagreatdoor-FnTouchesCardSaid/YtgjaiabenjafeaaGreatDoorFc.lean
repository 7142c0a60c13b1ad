/-
  PLAIN LAWS: what a store is like behind a pin.
-/
import Derived.Test.YtgjaiabenjafeaaGreatDoorFb
namespace Go.Proofs.YtgjaiabenjafeaaGreatDoor
set_option maxRecDepth 100000
set_option linter.unusedSimpArgs false
set_option linter.unusedVariables false
open Go.Xe
/-- Pinned, where the key is the one asked for. -/
def pf (k : ByteArray) (d : Int) (e : En) : En := if seq e.key k then pin1 e d else e
theorem pf_key (k : ByteArray) (d : Int) (e : En) : (pf k d e).key = e.key := by unfold pf; split <;> rfl
theorem pf_ne {k : ByteArray} {d : Int} {e : En} (h : e.key ≠ k) : pf k d e = e := by unfold pf; rw [seq_ne.2 h]; rfl
theorem pinK_map {es : List En} (k : ByteArray) (d : Int) (h : AptG En.key es) : pinK es k d = es.map (pf k d) := by
  rcases keyC_cases es k with ⟨e, hn⟩ | ⟨i, hi, e, h1, h2⟩
  · have : es.map (pf k d) = es := by
      conv => rhs; rw [← List.map_id es]
      refine List.map_congr_left fun x hx => ?_
      exact pf_ne (fun e0 => by have := hn x hx; rw [e0, seq_self] at this; cases this)
    rw [this]
    exact pinK_no (by omega) d
  · unfold pinK
    rw [if_pos (by omega), e, Int.toNat_natCast]
    unfold pinL
    rw [List.getElem?_eq_getElem hi]
    apply List.ext_getElem?
    intro j
    show (es.set i (pin1 es[i] d))[j]? = _
    rw [List.getElem?_set, List.getElem?_map]
    by_cases hj : i = j
    · subst hj
      rw [if_pos rfl, if_pos hi, List.getElem?_eq_getElem hi]
      show _ = some (pf k d es[i])
      unfold pf
      rw [h1]; rfl
    · rw [if_neg hj]
      cases hx : es[j]? with
      | none => rfl
      | some y =>
        show some y = some (pf k d y)
        rw [pf_ne]
        intro e0
        obtain ⟨hjl, hjy⟩ := List.getElem?_eq_some_iff.1 hx
        have hp := List.pairwise_iff_getElem.1 h
        have hk := seq_iff.1 h1
        rcases Nat.lt_or_gt_of_ne hj with h3 | h3
        · exact hp i j hi hjl h3 (by rw [hjy, hk, e0])
        · exact hp j i hjl hi h3 (by rw [hjy, hk, e0])
theorem pinS_map {s : Sc} (k : ByteArray) (d : Int) (h : AptG En.key s.all) : pinS s k d = ⟨s.bud, s.gd, s.tr.map (pf k d), s.kp.map (pf k d)⟩ := by
  obtain ⟨h1, h2, _⟩ := List.pairwise_append.1 h
  unfold pinS
  rw [pinK_map k d h1, pinK_map k d h2]
theorem pinS_all {s : Sc} (k : ByteArray) (d : Int) (h : AptG En.key s.all) : (pinS s k d).all = s.all.map (pf k d) := by
  rw [pinS_map k d h]
  exact (List.map_append).symm
theorem apt_map {es : List En} (k : ByteArray) (d : Int) (h : AptG En.key es) : AptG En.key (es.map (pf k d)) := by
  unfold AptG
  rw [List.pairwise_map]
  exact h.imp fun {x y} hxy => by rw [pf_key, pf_key]; exact hxy
theorem eCost_pf (k : ByteArray) (d : Int) (e : En) : eCost (pf k d e) = eCost e := by unfold pf; split <;> rfl
theorem eCosts_pf (k : ByteArray) (d : Int) (es : List En) : eCosts (es.map (pf k d)) = eCosts es := by
  unfold eCosts
  rw [List.map_map]
  congr 1
  exact List.map_congr_left fun x _ => eCost_pf k d x
theorem look_pf {es : List En} (k : ByteArray) (d : Int) : look (es.map (pf k d)) k = (look es k).map (pf k d) := by
  induction es with
  | nil => rfl
  | cons x r ih =>
    unfold look at ih ⊢
    rw [List.map_cons, List.find?_cons, List.find?_cons, pf_key]
    cases seq x.key k with
    | true => rfl
    | false => exact ih
theorem enF_pins {e : En} {p : Int} (h : enFault e = 0) (hp : 0 ≤ p ∧ p ≤ 20) : enFault { e with pins := p } = 0 := by
  have h3 : inB p 0 20 = true := by simp [inB, hp]
  unfold enFault at h ⊢
  split at h
  · cases h
  · rename_i k1
    split at h
    · cases h
    · rename_i k2
      split at h
      · cases h
      · rw [if_neg k1, if_neg k2, if_neg (by show ¬ inB p 0 20 = false; rw [h3]; simp)]
        exact h
/-- A pin that fits: what it asks. -/
structure PinL (s : Sc) (k : ByteArray) (d : Int) (e : En) : Prop where
  f : Free s
  l : look s.all k = some e
  dd : -20 ≤ d ∧ d ≤ 20
  p : 0 ≤ e.pins ∧ e.pins ≤ 20
  q : 0 ≤ e.pins + d ∧ e.pins + d ≤ 20
theorem pinC_0 {s : Sc} {k : ByteArray} {d : Int} (h : pinCode s k d = 0) : ∃ e, PinL s k d e := by
  unfold pinCode at h
  split at h
  · contradiction
  · rename_i h0
    have h0 : swF s k = 0 := by simpa using h0
    obtain ⟨hf, hl⟩ := swF_0 h0
    obtain ⟨e, hl⟩ := Option.isSome_iff_exists.1 hl
    have hp := pins_of hf (look_mem hl)
    have hpe : pkE s k = e := by unfold pkE; rw [hl]; rfl
    unfold pinC at h
    rw [hpe] at h
    split at h
    · rename_i h1
      simp only [Bool.and_eq_true, inB, decide_eq_true_eq] at h1
      obtain ⟨h1, h2⟩ := h1
      rw [wrap_id (by omega) (by omega)] at h2
      exact ⟨e, free_of hf, hl, h1, hp, h2⟩
    · cases h
theorem PinL.code {s : Sc} {k : ByteArray} {d : Int} {e : En} (h : PinL s k d e) : pinCode s k d = 0 := by
  have hs : swF s k = 0 := by unfold swF; rw [if_neg (by simpa using h.f.ok), if_neg (by rw [h.l]; simp)]
  have hpe : pkE s k = e := by unfold pkE; rw [h.l]; rfl
  unfold pinCode
  rw [if_neg (by simpa using hs)]
  unfold pinC
  have hd := h.dd
  have hp := h.p
  rw [hpe, wrap_id (by omega) (by omega), if_pos]
  simp [inB, hd, h.q]
theorem pf_at {k : ByteArray} {d : Int} {s : Sc} {e : En} (h : PinL s k d e) {x : En} (hx : x ∈ s.all) : (x = e ∧ pf k d x = { e with pins := e.pins + d }) ∨ (x ≠ e ∧ pf k d x = x) := by
  have hek : e.key = k := seq_iff.1 (by have := List.find?_some h.l; exact this)
  by_cases hxk : x.key = k
  · have hxe : x = e := by
      have := look_apt h.f.a hx
      rw [hxk, h.l] at this
      exact (Option.some.inj this).symm
    subst hxe
    refine .inl ⟨rfl, ?_⟩
    unfold pf
    rw [hek, seq_self]
    show pin1 x d = _
    unfold pin1
    have hd := h.dd
    have hp := h.p
    rw [wrap_id (by omega) (by omega), ← hek]
  · refine .inr ⟨fun e0 => hxk (by rw [e0]; exact hek), pf_ne hxk⟩
theorem PinL.free {s : Sc} {k : ByteArray} {d : Int} {e : En} (h : PinL s k d e) : Free (pinS s k d) := by
  have ha := pinS_all k d h.f.a
  have hm := pinS_map k d h.f.a
  have hc := h.f.c
  have hk := h.f.k
  refine ⟨h.f.b, h.f.g, by rw [ha, List.length_map]; exact h.f.n, fun y hy => ?_, by rw [ha]; exact apt_map k d h.f.a, by rw [ha, eCosts_pf]; exact hc, by rw [hm]; show (eCosts (s.kp.map (pf k d)) : Int) ≤ s.gd; rw [eCosts_pf]; exact hk⟩
  rw [ha] at hy
  obtain ⟨x, hx, rfl⟩ := List.mem_map.1 hy
  rcases pf_at h hx with ⟨_, e1⟩ | ⟨_, e1⟩
  · rw [e1]; exact enF_pins (h.f.e e (look_mem h.l)) h.q
  · rw [e1]; exact h.f.e x hx
theorem PinL.back {s : Sc} {k : ByteArray} {d : Int} {e : En} (h : PinL s k d e) : PinL (pinS s k d) k (-d) { e with pins := e.pins + d } := by
  have ha := pinS_all k d h.f.a
  have hd := h.dd
  have hp := h.p
  refine ⟨h.free, ?_, by omega, h.q, by show 0 ≤ e.pins + d + -d ∧ e.pins + d + -d ≤ 20; omega⟩
  rw [ha, look_pf, h.l]
  show some (pf k d e) = _
  rcases pf_at h (look_mem h.l) with ⟨_, e1⟩ | ⟨e0, _⟩
  · rw [e1]
  · exact absurd rfl e0
theorem PinL.twice {s : Sc} {k : ByteArray} {d : Int} {e : En} (h : PinL s k d e) : pinS (pinS s k d) k (-d) = s := by
  have key : ∀ x ∈ s.all, pf k (-d) (pf k d x) = x := fun x hx => by
    have hb := h.back
    have hd := h.dd
    have hp := h.p
    have hm : pf k d x ∈ (pinS s k d).all := by rw [pinS_all k d h.f.a]; exact List.mem_map.2 ⟨x, hx, rfl⟩
    rcases pf_at h hx with ⟨e0, e1⟩ | ⟨e0, e1⟩
    · rw [e1]
      rw [e1] at hm
      rcases pf_at hb hm with ⟨_, e3⟩ | ⟨e2, _⟩
      · rw [e3, e0]
        show ({ e with pins := e.pins + d + -d } : En) = e
        rw [show e.pins + d + -d = e.pins by omega]
      · exact absurd rfl e2
    · rw [e1]
      rw [e1] at hm
      rcases pf_at hb hm with ⟨e2, _⟩ | ⟨_, e3⟩
      · exfalso
        have hek : e.key = k := seq_iff.1 (by have := List.find?_some h.l; exact this)
        have hxk : x.key = k := by rw [e2]; exact hek
        have := look_apt h.f.a hx
        rw [hxk, h.l] at this
        exact e0 (Option.some.inj this).symm
      · exact e3
  rw [pinS_map k (-d) h.free.a, pinS_map k d h.f.a]
  have m1 : (s.tr.map (pf k d)).map (pf k (-d)) = s.tr := by
    rw [List.map_map]
    conv => rhs; rw [← List.map_id s.tr]
    exact List.map_congr_left fun x hx => key x (List.mem_append_left _ hx)
  have m2 : (s.kp.map (pf k d)).map (pf k (-d)) = s.kp := by
    rw [List.map_map]
    conv => rhs; rw [← List.map_id s.kp]
    exact List.map_congr_left fun x hx => key x (List.mem_append_right _ hx)
  show (⟨s.bud, s.gd, (s.tr.map (pf k d)).map (pf k (-d)), (s.kp.map (pf k d)).map (pf k (-d))⟩ : Sc) = s
  rw [m1, m2]
end Go.Proofs.YtgjaiabenjafeaaGreatDoor
