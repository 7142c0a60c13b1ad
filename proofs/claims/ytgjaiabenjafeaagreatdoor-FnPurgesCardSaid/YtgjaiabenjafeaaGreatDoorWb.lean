/-
  CONTRACTS AND THE LAW: an entry looked at.
-/
import Derived.Test.YtgjaiabenjafeaaGreatDoorWa
namespace Go.Proofs.YtgjaiabenjafeaaGreatDoor
set_option maxRecDepth 100000
set_option linter.unusedSimpArgs false
set_option linter.unusedVariables false
open Go.Xe
theorem Ed.inn {M : PH} {y : EP} (h : Ed M y) : y.1.inn M := ⟨h.h.sl Hd.len, h.y.sl by_len, h.t.sl st_len⟩
theorem Ed.keepsL {M M' : PH} {p : EP} {L : List (Option Nat)} (h : Ed M p) (k : KeepsL L M M') (ha : ∀ a ∈ EP.blks p, ∀ b ∈ L, Apart a b) : Ed M' p :=
  ⟨ow_keepsL h.h k (ha _ (by simp [EP.blks])), ow_keepsL h.y k (ha _ (by simp [EP.blks])), ow_keepsL h.t k (ha _ (by simp [EP.blks]))⟩
abbrev erV (k : Int) (x : EnA) : Value := .agg #[I k, Tx x.c.key, I x.c.st, .slice x.hA x.c.hs.length x.hc, .slice x.bA x.c.body.length x.bc, I x.c.mt.at_, I x.c.mt.age, I x.c.mt.life, I x.c.mt.swr, I x.c.mt.sie, B x.c.mt.soft, B x.c.mt.noc, .slice x.tA x.c.tags.length x.tc, I x.c.pins]
noncomputable def pk (s : Sc) (k : ByteArray) : En := if swF s k = 0 then pkE s k else zEn
theorem swF_0 {s : Sc} {k : ByteArray} (h : swF s k = 0) : stFault s = 0 ∧ (look s.all k).isSome = true := by
  unfold swF at h
  split at h
  · exact absurd h ‹_›
  · rename_i h1
    split at h
    · cases h
    · rename_i h2
      refine ⟨by simpa using h1, ?_⟩
      cases hl : look s.all k with
      | none => exact absurd hl h2
      | some e => rfl
theorem peekEntry_impl (x : StA) (k : ByteArray) (M : PH) (hi : x.inn M) (hco : x.c.cost ≤ 1048576) :
    ACall env 29 [x.val, Tx k] M fun r M' => ∃ y : EP, r = erV (swF x.c k) y.1 ∧ y.1.c = pk x.c k ∧ NewE M M' y := by
  obtain ⟨n1, n2, hd⟩ := st_split hco
  have hf := findP_cases k hi
  refine xcall_of_vc Tryz.func29 rfl _ Tryz.ntmps29 _ rfl (fun _ _ => Tryz.call29 _ _) rfl (fun w0 ρ0 => ?_)
  conv => whnf
  refine Ret.go (storeWith_ret x k _ hi hco) ?_
  conv => whnf
  refine caseB_ndec (fun h => ?_) (fun h => ?_)
  · conv => whnf
    exact ⟨_, PH.Le.refl _, zEP, rfl, by unfold pk; rw [if_neg h]; rfl, zEP_new M⟩
  conv => whnf
  refine XCall.lift (find_ret x k M hi n1 n2) [0] ?_ (by simp) (by simp) (by simp [AV.plain]) ?_
  · simp [ren]
  rintro r bs' M1 ⟨rfl, rfl, rfl⟩
  refine ⟨by simp [AV.plain], ?_⟩
  rcases hf with ⟨e1, e2⟩ | ⟨a, y, hy, e1, e2, hc⟩
  · have := (swF_0 h).2
    rw [e2] at this
    cases this
  rw [e1]
  have hyi : y.inn M1 := (List.mem_append.1 hy).elim (fun h => hi.t.inn y h) (fun h => hi.k.inn y h)
  have hyc := hd y hy
  have e3 : pk x.c k = y.c := by unfold pk; rw [if_pos h]; unfold pkE; rw [e2]; rfl
  rw [e3, h]
  conv => whnf
  refine ⟨_, hc, rfl, ?_⟩
  conv => whnf
  refine ACall.step (copyEntry_ret y _ hyi hyc) fun v M2 hh => ?_
  obtain ⟨z, rfl, ez, hz⟩ := hh
  conv => whnf
  exact ⟨_, PH.Le.refl _, z, rfl, ez, hz⟩
def m3 (e : En) : En := { e with hs := marksL mkH 2 1 e.hs.length, body := marksL mkB 1 (1 + 2 * e.hs.length) e.body.length, tags := marksL mText 1 (1 + 2 * e.hs.length + 1 * e.body.length) e.tags.length }
abbrev m3k (e : En) : Int := 1 + 2 * (e.hs.length : Int) + 1 * (e.body.length : Int) + 1 * (e.tags.length : Int)
theorem apart3 {y : EP} (h : (EP.blks y).Pairwise Apart) : Apart y.2.1 y.2.2.1 ∧ Apart y.2.1 y.2.2.2 ∧ Apart y.2.2.1 y.2.2.2 := by
  unfold EP.blks at h
  simp only [List.pairwise_cons, List.mem_cons, List.not_mem_nil, or_false, forall_eq_or_imp, forall_eq] at h
  exact ⟨h.1.1, h.1.2, h.2.1⟩
theorem markEntry_ret (y : EP) (M : PH) (h : Ed M y) (hp : (EP.blks y).Pairwise Apart) (hco : y.1.c.cost ≤ 1048576) :
    ACall env 18 [y.1.val, I 1] M fun r M' => r = I (m3k y.1.c) ∧ Ed M' (y.wth (m3 y.1.c)) ∧ KeepsL (EP.blks y) M M' := by
  obtain ⟨_, _, hn1, hn2, hn3⟩ := En.hn hco
  obtain ⟨p12, p13, p23⟩ := apart3 hp
  refine xcall_of_vc Tryz.func18 rfl _ Tryz.ntmps18 _ rfl (fun _ _ => Tryz.call18 _ _) rfl (fun w0 ρ0 => ?_)
  conv => whnf
  refine ACall.step (markHeaderS_ret _ _ _ _ 1 M h.h (by omega) ⟨by omega, by omega⟩) fun v M1 hh => ?_
  obtain ⟨rfl, h1, k1⟩ := hh
  have y1 := h.y.keeps k1 p12.symm
  have t1 := h.t.keeps k1 p13.symm
  conv => whnf
  refine ACall.step (markByteS_ret _ _ _ _ (1 + 2 * (y.1.c.hs.length : Int)) M1 y1 (by omega) ⟨by omega, by omega⟩) fun v M2 hh => ?_
  obtain ⟨rfl, h2, k2⟩ := hh
  have h1 := h1.keeps k2 p12
  have t2 := t1.keeps k2 p23.symm
  conv => whnf
  refine ACall.step (markStringS_ret _ _ _ _ (1 + 2 * (y.1.c.hs.length : Int) + 1 * (y.1.c.body.length : Int)) M2 t2 (by omega) ⟨by omega, by omega⟩) fun v M3 hh => ?_
  obtain ⟨rfl, h3, k3⟩ := hh
  have h1 := h1.keeps k3 p13
  have h2 := h2.keeps k3 p23
  conv => whnf
  exact ⟨_, PH.Le.refl _, rfl, ⟨h1, h2, h3⟩, ((Keeps.inL k1 (show y.2.1 ∈ [y.2.1, y.2.2.1, y.2.2.2] by simp)).trans (Keeps.inL k2 (show y.2.2.1 ∈ [y.2.1, y.2.2.1, y.2.2.2] by simp))).trans (Keeps.inL k3 (show y.2.2.2 ∈ [y.2.1, y.2.2.1, y.2.2.2] by simp))⟩
theorem look_mem {es : List En} {k : ByteArray} {e : En} (h : look es k = some e) : e ∈ es := List.mem_of_find?_eq_some h
theorem zEn_cost : zEn.cost = 0 := rfl
theorem pk_cost {s : Sc} (k : ByteArray) (h : s.cost ≤ 1048576) : (pk s k).cost ≤ 1048576 := by
  unfold pk pkE
  split
  · cases hl : look s.all k with
    | none => rw [Option.getD_none, zEn_cost]; omega
    | some e =>
      have hm := look_mem hl
      rw [Option.getD_some]
      unfold Sc.cost at h
      rcases List.mem_append.1 hm with hm | hm
      · have := costL_le (f := En.cost) hm; omega
      · have := costL_le (f := En.cost) hm; omega
  · rw [zEn_cost]; omega
end Go.Proofs.YtgjaiabenjafeaaGreatDoor
