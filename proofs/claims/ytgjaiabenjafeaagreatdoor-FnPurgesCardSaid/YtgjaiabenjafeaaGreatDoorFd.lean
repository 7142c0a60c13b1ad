/-
  PLAIN LAWS: what a store is like behind a purge.
-/
import Derived.Test.YtgjaiabenjafeaaGreatDoorFb
namespace Go.Proofs.YtgjaiabenjafeaaGreatDoor
set_option maxRecDepth 100000
set_option linter.unusedSimpArgs false
set_option linter.unusedVariables false
open Go.Xe
def outK (es : List En) (ks : List ByteArray) : List En := es.filter fun e => !tagT ks e.key
def outS (s : Sc) (ks : List ByteArray) : Sc := ⟨s.bud, s.gd, outK s.tr ks, outK s.kp ks⟩
theorem tagT_nil (t : ByteArray) : tagT [] t = false := rfl
theorem outK_snoc (es : List En) (ks : List ByteArray) (k : ByteArray) : dropK (outK es ks) k = outK es (ks ++ [k]) := by
  unfold dropK outK
  rw [List.filter_filter]
  congr 1
  funext e
  rw [tagT_snoc, seq_comm k, Bool.not_or, Bool.and_comm]
theorem drops_out (s : Sc) : ∀ (a ks : List ByteArray), ks.foldl dropS (outS s a) = outS s (a ++ ks)
  | a, [] => by simp
  | a, k :: r => by
    have h1 : dropS (outS s a) k = outS s (a ++ [k]) := by
      unfold dropS outS
      simp only [outK_snoc]
    rw [List.foldl_cons, h1, drops_out s (a ++ [k]) r, List.append_assoc]
    rfl
theorem outS_nil (s : Sc) : outS s [] = s := by
  have h : ∀ es : List En, outK es [] = es := fun es => by
    unfold outK
    rw [List.filter_eq_self]
    intro e _
    rfl
  unfold outS
  rw [h, h]
theorem purge_hard (s : Sc) (ks : List ByteArray) : purgeS s ks true = outS s ks := by
  have := drops_out s [] ks
  rw [outS_nil, List.nil_append] at this
  exact this
theorem purge_soft (s : Sc) (ks : List ByteArray) : purgeS s ks false = softS s ks := rfl
theorem softK_snoc (es : List En) (ks : List ByteArray) (k : ByteArray) : softK (softK es ks) [k] = softK es (ks ++ [k]) := by
  unfold softK
  rw [List.map_map]
  refine List.map_congr_left fun e _ => ?_
  show (if tagT [k] (if tagT ks e.key = true then soft1 e else e).key = true then soft1 (if tagT ks e.key = true then soft1 e else e) else (if tagT ks e.key = true then soft1 e else e)) = _
  have h1 : (if tagT ks e.key = true then soft1 e else e).key = e.key := by split <;> rfl
  rw [h1, tagT_snoc]
  have h2 : tagT [k] e.key = seq k e.key := by unfold tagT; simp
  rw [h2]
  cases tagT ks e.key <;> cases seq k e.key <;> rfl
theorem purge_step (s : Sc) (ks : List ByteArray) (k : ByteArray) (hard : Bool) : purgeS (purgeS s ks hard) [k] hard = purgeS s (ks ++ [k]) hard := by
  cases hard with
  | true =>
    rw [purge_hard s ks, purge_hard s (ks ++ [k])]
    show dropS (outS s ks) k = _
    unfold dropS outS
    simp only [outK_snoc]
  | false =>
    show softS (softS s ks) [k] = softS s (ks ++ [k])
    unfold softS
    simp only [softK_snoc]
theorem soft_all (s : Sc) (ks : List ByteArray) : (softS s ks).all = softK s.all ks := (List.map_append).symm
theorem out_all (s : Sc) (ks : List ByteArray) : (outS s ks).all = outK s.all ks := (List.filter_append ..).symm
theorem soft_fault (e : En) : enFault (soft1 e) = enFault e := rfl
theorem soft_eCost (e : En) : eCost (soft1 e) = eCost e := rfl
theorem soft_eCosts (es : List En) (ks : List ByteArray) : eCosts (softK es ks) = eCosts es := by
  unfold eCosts softK
  rw [List.map_map]
  congr 1
  exact List.map_congr_left fun e _ => by show eCost (if tagT ks e.key = true then soft1 e else e) = _; split <;> rfl
theorem purge_free {s : Sc} (h : Free s) (ks : List ByteArray) (hard : Bool) : Free (purgeS s ks hard) := by
  cases hard with
  | true => rw [purge_hard]; exact h.less List.filter_sublist List.filter_sublist
  | false =>
    have hc := h.c
    have hk := h.k
    refine ⟨h.b, h.g, ?_, fun x hx => ?_, ?_, ?_, ?_⟩
    · show (softS s ks).all.length ≤ 40
      rw [soft_all]
      unfold softK
      rw [List.length_map]; exact h.n
    · have hx : x ∈ (softS s ks).all := hx
      rw [soft_all] at hx
      obtain ⟨y, hy, rfl⟩ := List.mem_map.1 hx
      split
      · exact h.e y hy
      · exact h.e y hy
    · show AptG En.key (softS s ks).all
      rw [soft_all]
      have h1 := h.a
      unfold AptG at h1 ⊢
      unfold softK
      rw [List.pairwise_map]
      refine h1.imp fun {x y} hxy => ?_
      have k1 : ∀ z : En, (if tagT ks z.key = true then soft1 z else z).key = z.key := fun z => by split <;> rfl
      rw [k1, k1]; exact hxy
    · show ((eCosts (softS s ks).all : Nat) : Int) ≤ s.bud
      rw [soft_all, soft_eCosts]; exact hc
    · show ((eCosts (softK s.kp ks) : Nat) : Int) ≤ s.gd
      rw [soft_eCosts]; exact hk
theorem tagT_in {ks : List ByteArray} {k : ByteArray} : tagT ks k = true ↔ k ∈ ks := by
  unfold tagT
  rw [List.any_eq_true]
  constructor
  · rintro ⟨x, hx, h⟩
    rw [← seq_iff.1 h]; exact hx
  · intro h; exact ⟨k, h, seq_self k⟩
theorem look_in {es : List En} {k : ByteArray} (h : ∃ e ∈ es, e.key = k) : (look es k).isSome = true := by
  obtain ⟨e, he, hk⟩ := h
  cases hl : look es k with
  | some _ => rfl
  | none =>
    unfold look at hl
    have := List.find?_eq_none.1 hl e he
    rw [hk, seq_self] at this
    exact absurd rfl this
/-- The keys asked for are there until they are purged. -/
theorem purge_there {s : Sc} {ks : List ByteArray} {k : ByteArray} (hard : Bool) (h : ∃ e ∈ s.all, e.key = k) (hn : k ∉ ks) : (look (purgeS s ks hard).all k).isSome = true := by
  obtain ⟨e, he, hk⟩ := h
  cases hard with
  | true =>
    rw [purge_hard, out_all]
    refine look_in ⟨e, List.mem_filter.2 ⟨he, ?_⟩, hk⟩
    have : tagT ks e.key = false := by
      rw [← Bool.not_eq_true, tagT_in, hk]; exact hn
    rw [this]; rfl
  | false =>
    show (look (softS s ks).all k).isSome = true
    rw [soft_all]
    refine look_in ⟨_, List.mem_map.2 ⟨e, he, rfl⟩, ?_⟩
    split <;> exact hk
theorem purge_gone {s : Sc} {ks : List ByteArray} {k : ByteArray} (hk : k ∈ ks) : look (purgeS s ks true).all k = none := by
  rw [purge_hard, out_all]
  refine look_none fun x hx => ?_
  have := (List.mem_filter.1 hx).2
  intro e
  rw [e, tagT_in.2 hk] at this
  cases this
theorem purge_is_soft {s : Sc} {ks : List ByteArray} {k : ByteArray} (h : ∃ e ∈ s.all, e.key = k) (hk : k ∈ ks) : ∃ e, look (purgeS s ks false).all k = some e ∧ e.mt.soft = true := by
  have hl : (look (softS s ks).all k).isSome = true := by
    obtain ⟨e, he, hek⟩ := h
    rw [soft_all]
    refine look_in ⟨_, List.mem_map.2 ⟨e, he, rfl⟩, ?_⟩
    split <;> exact hek
  obtain ⟨y, hy⟩ := Option.isSome_iff_exists.1 hl
  refine ⟨y, hy, ?_⟩
  have hm := look_mem hy
  have hyk : y.key = k := seq_iff.1 (by have := List.find?_some hy; exact this)
  rw [soft_all] at hm
  obtain ⟨x, hx, rfl⟩ := List.mem_map.1 hm
  have hxk : x.key = k := by
    split at hyk <;> exact hyk
  rw [hxk, if_pos (tagT_in.2 hk)]
  rfl
theorem keysL_mem {pr : En → Bool} {es : List En} {k : ByteArray} (h : k ∈ keysL pr es) : ∃ e ∈ es, e.key = k := by
  obtain ⟨e, he, rfl⟩ := List.mem_map.1 h
  exact ⟨e, (List.mem_filter.1 he).1, rfl⟩
theorem keysL_nodup {pr : En → Bool} {es : List En} (h : AptG En.key es) {i : Nat} (hi : i < (keysL pr es).length) : (keysL pr es)[i] ∉ (keysL pr es).take i := by
  have hp : (keysL pr es).Pairwise fun a b => a ≠ b := by
    unfold keysL
    rw [List.pairwise_map]
    exact h.sublist List.filter_sublist
  intro hm
  obtain ⟨j, hj, e⟩ := List.getElem_of_mem hm
  rw [List.length_take] at hj
  rw [List.getElem_take] at e
  exact (List.pairwise_iff_getElem.1 hp) j i (by omega) hi (by omega) e
theorem out_len {es : List En} (pr : En → Bool) (h : AptG En.key es) : (outK es (keysL pr es)).length + (keysL pr es).length = es.length := by
  have key : outK es (keysL pr es) = es.filter fun e => !pr e := by
    unfold outK
    refine List.filter_congr fun e he => ?_
    congr 1
    rw [Bool.eq_iff_iff, tagT_in]
    constructor
    · intro hm
      obtain ⟨x, hx, hxe⟩ := List.mem_map.1 hm
      obtain ⟨hx1, hx2⟩ := List.mem_filter.1 hx
      have h1 := look_apt h hx1
      have h2 := look_apt h he
      have h3 : x.key = e.key := hxe
      rw [h3, h2] at h1
      rw [Option.some.inj h1]
      exact hx2
    · intro hp
      exact List.mem_map.2 ⟨e, List.mem_filter.2 ⟨he, hp⟩, rfl⟩
  rw [key]
  unfold keysL
  rw [List.length_map]
  clear key h
  induction es with
  | nil => rfl
  | cons x r ih =>
    rw [List.filter_cons, List.filter_cons]
    cases pr x with
    | true => simp; omega
    | false => simp; omega
theorem keysL_true (es : List En) : (keysL (fun _ => true) es).length = es.length := by
  unfold keysL
  rw [List.length_map, List.filter_eq_self.2 (fun _ _ => rfl)]
end Go.Proofs.YtgjaiabenjafeaaGreatDoor
