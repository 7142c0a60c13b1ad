/-
  STORES of one's own: copied by the laws; marked; read again.
-/
import Derived.Test.YtafgnmiflngjhaaGreatDoorVe
namespace Go.Proofs.YtafgnmiflngjhaaGreatDoor
set_option maxRecDepth 100000
set_option linter.unusedSimpArgs false
set_option linter.unusedVariables false
open Go.Xe
/-- Blocks that M did not know. -/
def Fr (M : PH) (L : List (Option Nat)) : Prop := ∀ b ∈ L, ∀ g, b = some g → M g = none
theorem Fr.le {M M' : PH} {L : List (Option Nat)} (h : Fr M' L) (l : M.Le M') : Fr M L := fun b hb g e => none_of_le l (h b hb g e)
theorem Fr.app {M : PH} {L L' : List (Option Nat)} (h : Fr M L) (h' : Fr M L') : Fr M (L ++ L') := fun b hb g e => (List.mem_append.1 hb).elim (fun hb => h b hb g e) (fun hb => h' b hb g e)
/-- Blocks that M knows. -/
def Kn (M : PH) (L : List (Option Nat)) : Prop := ∀ b ∈ L, ∀ g, b = some g → ∃ ob, M g = some ob
theorem Kn.mono {M M' : PH} {L : List (Option Nat)} (h : Kn M L) (l : M.Le M') : Kn M' L := fun b hb g e => by
  obtain ⟨ob, ho⟩ := h b hb g e
  exact ⟨ob, l _ _ ho⟩
theorem apart_of {M : PH} {L L' : List (Option Nat)} (h : Kn M L) (h' : Fr M L') : ∀ a ∈ L, ∀ b ∈ L', Apart a b := fun a ha b hb g e e' => by
  obtain ⟨ob, ho⟩ := h a ha g e
  rw [h' b hb g e'] at ho
  cases ho
theorem Ed.kn {M : PH} {p : EP} (h : Ed M p) : Kn M (EP.blks p) := by
  intro b hb g e
  unfold EP.blks at hb
  simp only [List.mem_cons, List.not_mem_nil, or_false] at hb
  rcases hb with rfl | rfl | rfl
  · exact h.h.known g e
  · exact h.y.known g e
  · exact h.t.known g e
theorem Ed.mono {M M' : PH} {p : EP} (h : Ed M p) (l : M.Le M') : Ed M' p := ⟨h.h.mono l, h.y.mono l, h.t.mono l⟩
theorem Dw.kn {M : PH} {o : Option Nat} {A : Option Addr} {c : Nat} {ps : List EP} (h : Dw M o A c ps) : Kn M (dwL o ps) := by
  intro b hb g e
  rcases List.mem_cons.1 hb with rfl | hb
  · exact h.row.known g e
  · obtain ⟨p, hp, hb⟩ := List.mem_flatMap.1 hb
    obtain ⟨j, hj⟩ := List.mem_iff_getElem?.1 hp
    exact (h.ed j p hj).kn b hb g e
theorem Dw.mono {M M' : PH} {o : Option Nat} {A : Option Addr} {c : Nat} {ps : List EP} (h : Dw M o A c ps) (l : M.Le M') : Dw M' o A c ps := ⟨h.row.mono l, fun j p hp => (h.ed j p hp).mono l, h.sep⟩
theorem Dw.keepsL {M M' : PH} {o : Option Nat} {A : Option Addr} {c : Nat} {ps : List EP} {L : List (Option Nat)} (h : Dw M o A c ps) (k : KeepsL L M M') (ha : ∀ a ∈ dwL o ps, ∀ b ∈ L, Apart a b) : Dw M' o A c ps := by
  have key : ∀ a ∈ dwL o ps, ∀ g ob, a = some g → M g = some ob → M' g = some ob := fun a h1 g ob e hg => k g ob hg fun hm => ha a h1 _ hm g e rfl
  refine ⟨h.row.keep (key _ (by simp)), fun j p hp => ?_, h.sep⟩
  have hm : ∀ b ∈ EP.blks p, b ∈ dwL o ps := fun b hb => List.mem_cons_of_mem _ (List.mem_flatMap.2 ⟨p, List.mem_of_getElem? hp, hb⟩)
  have h2 := h.ed j p hp
  exact ⟨h2.h.keep (key _ (hm _ (by simp [EP.blks]))), h2.y.keep (key _ (hm _ (by simp [EP.blks]))), h2.t.keep (key _ (hm _ (by simp [EP.blks])))⟩
theorem toEntry_own (x : EnA) (M : PH) (hi : x.inn M) (hco : x.c.cost ≤ 1048576) :
    ACall env 19 [x.val] M fun r M' => ∃ y : EP, r = y.1.val ∧ y.1.c = x.c ∧ M.Le M' ∧ Ed M' y ∧ Fr M (EP.blks y) ∧ (EP.blks y).Pairwise Apart := by
  obtain ⟨_, _, hn1, hn2, hn3⟩ := En.hn hco
  refine xcall_of_vc Tryz.func19 rfl _ Tryz.ntmps19 _ rfl (fun _ _ => Tryz.call19 _ _) rfl (fun w0 ρ0 => ?_)
  conv => whnf
  refine ACall.step (toHeaderS_ret x.hA x.hc x.c.hs M hi.h hn1) fun v M1 hh => ?_
  obtain ⟨g1, hg1, rfl, e1⟩ := hh
  have l1 : M.Le M1 := by rw [e1]; exact PH.Le.set _ hg1
  have o1 : Ow M1 (some g1) (some ⟨g1, 0, none⟩) x.c.hs.length 2 Hd.cs x.c.hs := by rw [e1]; exact Ow.new Hd.len M g1 x.c.hs _
  have k1 := o1.known g1 rfl
  conv => whnf
  refine ACall.step (toByteS_ret x.bA x.bc x.c.body M1 (hi.b.mono l1) hn2) fun v M2 hh => ?_
  obtain ⟨g2, hg2, rfl, e2⟩ := hh
  have l2 : M1.Le M2 := by rw [e2]; exact PH.Le.set _ hg2
  have o2 : Ow M2 (some g2) (some ⟨g2, 0, none⟩) x.c.body.length 1 byC x.c.body := by rw [e2]; exact Ow.new by_len M1 g2 x.c.body _
  have k2 := o2.known g2 rfl
  conv => whnf
  refine Ret.go (toMeta_ret x.c.mt _) ?_
  conv => whnf
  refine ACall.step (toStringS_ret x.tA x.tc x.c.tags M2 (hi.t.mono (l1.trans l2)) hn3) fun v M3 hh => ?_
  obtain ⟨g3, hg3, rfl, e3⟩ := hh
  have l3 : M2.Le M3 := by rw [e3]; exact PH.Le.set _ hg3
  have o3 : Ow M3 (some g3) (some ⟨g3, 0, none⟩) x.c.tags.length 1 stC x.c.tags := by rw [e3]; exact Ow.new st_len M2 g3 x.c.tags _
  conv => whnf
  refine ⟨_, PH.Le.refl _, (⟨x.c, some ⟨g1, 0, none⟩, x.c.hs.length, some ⟨g2, 0, none⟩, x.c.body.length, some ⟨g3, 0, none⟩, x.c.tags.length⟩, some g1, some g2, some g3), rfl, rfl, (l1.trans l2).trans l3, ⟨(o1.mono l2).mono l3, o2.mono l3, o3⟩, ?_, ?_⟩
  · intro b hb g e
    simp only [EP.blks, List.mem_cons, List.not_mem_nil, or_false] at hb
    rcases hb with rfl | rfl | rfl <;> cases e
    · exact hg1
    · exact none_of_le l1 hg2
    · exact none_of_le (l1.trans l2) hg3
  · have n12 : g1 ≠ g2 := fun e => by obtain ⟨ob, ho⟩ := k1; rw [e, hg2] at ho; cases ho
    have n13 : g1 ≠ g3 := fun e => by obtain ⟨ob, ho⟩ := k1; have := l2 _ _ ho; rw [e, hg3] at this; cases this
    have n23 : g2 ≠ g3 := fun e => by obtain ⟨ob, ho⟩ := k2; rw [e, hg3] at ho; cases ho
    simp only [EP.blks, List.pairwise_cons, List.mem_cons, List.not_mem_nil, or_false, forall_eq_or_imp, forall_eq, false_imp_iff, implies_true, List.Pairwise.nil, and_true]
    refine ⟨⟨?_, ?_⟩, ?_⟩ <;> (intro g e e'; cases e; cases e'; contradiction)
theorem toEntryS_own (A : Option Addr) (c : Nat) (ws : List EnA) (M : PH) (hs : Sl M A 13 EnA.cs ws) (hi : ∀ x ∈ ws, x.inn M ∧ x.c.cost ≤ 1048576) (hn : ws.length ≤ 1048576) :
    ACall env 77 [.slice A ws.length c] M fun r M' => ∃ (o : Option Nat) (B : Option Addr) (d : Nat) (us : List EP), r = .slice B us.length d ∧ M.Le M' ∧ Dw M' o B d us ∧ Fr M (dwL o us) ∧ us.map (·.1.c) = conts ws := by
  refine xcall_of_vc Tryz.func77 rfl _ Tryz.ntmps77 _ rfl (fun _ _ => Tryz.call77 _ _) rfl (fun w0 ρ0 => ?_)
  conv => whnf
  refine ⟨rfl, by omega, ?_, by omega, fun g hg => ?_⟩
  · show (152 : Int) * _ ≤ _
    omega
  conv => whnf
  refine loop_rule (fun z : Nat × List EP => ⟨slots 23 [(0, .v (.slice A ws.length c)), (2, .v (.slice none 0 0)), (3, .v (.slice (some ⟨g, 0, none⟩) ws.length ws.length)), (4, .v (I z.1))], []⟩)
    (fun z M' => z.1 ≤ ws.length ∧ z.2.map (·.1.c) = (conts ws).take z.1 ∧ M' g = some (.cells (rowsL EP.cs E0 z.2 ws.length).toArray 44 (0, 0)) ∧ M.Le (rm M' g) ∧ (∀ x ∈ z.2, Ed (rm M' g) x) ∧ Fr M (z.2.flatMap EP.blks) ∧ Sep (z.2.flatMap EP.blks)) (fun z => ws.length - z.1) (0, []) ?_ ?_ ?_
  · exact ⟨by simp [slots, leT], ⟨[], rfl⟩, Nat.zero_le _, rfl, rfl⟩
  · refine ⟨Nat.zero_le _, rfl, ?_, rm_up (PH.Le.set _ hg) hg, by simp, fun b hb => by simp at hb, List.Pairwise.nil⟩
    rw [PH.set_same]
    show some (Obj.cells (madeCells (E0 : List Value).toArray (Int.toNat ws.length * 13)) 44 (0, 0)) = _
    rw [Int.toNat_natCast]
    exact congrArg (fun x => some (Obj.cells x 44 (0, 0))) (made_rows' EP.cs (E0 : List Value).toArray ws.length)
  rintro ⟨i, us⟩ M1 ⟨hi1, hc1, hg1, l1, n1, f1, s1⟩
  have hi1 : i ≤ ws.length := hi1
  have hc1 : us.map (·.1.c) = (conts ws).take i := hc1
  have hg1 : M1 g = some (.cells (rowsL EP.cs E0 us ws.length).toArray 44 (0, 0)) := hg1
  have n1 : ∀ x ∈ us, Ed (rm M1 g) x := n1
  have f1 : Fr M (us.flatMap EP.blks) := f1
  have s1 : Sep (us.flatMap EP.blks) := s1
  have hcl : (conts ws).length = ws.length := List.length_map _
  have hul : us.length = i := by have := congrArg List.length hc1; simpa [Nat.min_eq_left hi1] using this
  have kn1 : Kn (rm M1 g) (us.flatMap EP.blks) := fun b hb => by
    obtain ⟨p, hp, hb⟩ := List.mem_flatMap.1 hb
    exact (n1 p hp).kn b hb
  conv => whnf
  refine caseB_dec (fun h0 => ?_) (fun h0 => ?_)
  · have h0 : (i : Int) < ws.length := h0
    conv => whnf
    have hi' : i < ws.length := by omega
    have hw : IntKind.i64.wrap ((i : Int) + 1) = (i : Int) + 1 := wr_id (by omega) (by omega)
    obtain ⟨hA, _, hc⟩ := hs.get hi'
    obtain ⟨hin, hco⟩ := hi ws[i] (List.getElem_mem hi')
    refine ⟨by omega, by omega, hA, ?_⟩
    conv => whnf
    refine ⟨ws[i].cs, (l1.trans (rm_le M1 g)).cells hc, rfl, ?_⟩
    conv => whnf
    refine ACall.step (ACall.beside (toEntry_own ws[i] (rm M1 g) (hin.mono l1) hco) hg1) fun r M5 hh => ?_
    obtain ⟨M2, ⟨y, rfl, hyc, l2, hy, hyf, hyp⟩, l3, hg5⟩ := hh
    conv => whnf
    refine ⟨by omega, by omega, rfl, ?_⟩
    conv => whnf
    refine ⟨g, 0, rowsL EP.cs E0 us ws.length, 44, (0, 0), rfl, hg5, ⟨?_, .inl (Nat.zero_le _)⟩, ?_⟩
    · show 0 + i * 13 + 13 ≤ _
      rw [rowsL_length EP.len rfl _ _ (by omega)]
      omega
    conv => whnf
    have e : spl (rowsL EP.cs E0 us ws.length) (0 + i * 13) (EP.cs y) = rowsL EP.cs E0 (us ++ [y]) ws.length := by
      rw [Nat.zero_add, ← hul]
      exact rowsL_step EP.len rfl us y ws.length (by omega)
    have hap : ∀ a ∈ us.flatMap EP.blks, ∀ b ∈ EP.blks y, Apart a b := apart_of kn1 hyf
    refine ⟨(i + 1, us ++ [y]), ⟨by simp [slots, leT, hw], ⟨[], rfl⟩, Nat.zero_le _, rfl, rfl⟩, ⟨hi', ?_, ?_, ?_, ?_, ?_, ?_⟩, by show _ - (i + 1) < _ - i; omega⟩
    · show (us ++ [y]).map (·.1.c) = (conts ws).take (i + 1)
      rw [List.take_succ_eq_append_getElem (by omega), List.map_append, hc1, List.map_cons, List.map_nil, hyc]
      simp
    · rw [PH.set_same]
      exact congrArg (fun x : List Value => some (Obj.cells x.toArray 44 (0, 0))) e
    · rw [rm_sets]
      exact (l1.trans l2).trans l3
    · rw [rm_sets]
      intro x hx
      rcases List.mem_append.1 hx with hx | hx
      · exact ((n1 x hx).mono l2).mono l3
      · simp at hx; subst hx; exact hy.mono l3
    · show Fr M ((us ++ [y]).flatMap EP.blks)
      rw [List.flatMap_append]
      refine f1.app ?_
      simpa using hyf.le l1
    · show Sep ((us ++ [y]).flatMap EP.blks)
      rw [List.flatMap_append]
      refine List.pairwise_append.2 ⟨s1, by simpa using hyp, ?_⟩
      simpa using hap
  · have h0 : ¬ (i : Int) < ws.length := h0
    have hi' : i = ws.length := by omega
    subst hi'
    rw [← hcl, List.take_length] at hc1
    conv => whnf
    have hng : ∀ b ∈ us.flatMap EP.blks, Apart (some g) b := fun b hb g' e e' => by
      cases e
      obtain ⟨ob, ho⟩ := kn1 b hb g e'
      unfold rm at ho
      simp at ho
    refine ⟨_, PH.Le.refl _, some g, some ⟨g, 0, none⟩, ws.length, us, by rw [hul]; rfl, l1.trans (rm_le M1 g), ⟨⟨0, _, _, rfl, hg1, ?_, by show us.length ≤ ws.length; omega, fun j x hx j2 v hv => ?_⟩, fun j p hp => (n1 p (List.mem_of_getElem? hp)).mono (rm_le M1 g), List.pairwise_cons.2 ⟨hng, s1⟩⟩, ?_, hc1⟩
    · rw [rowsL_length EP.len rfl _ _ (by show us.length ≤ ws.length; omega)]; omega
    · rw [← hul, rowsL_full, Nat.zero_add]
      exact flatMap_get EP.len us j x hx j2 v hv
    · intro b hb g' e
      rcases List.mem_cons.1 hb with rfl | hb
      · cases e; exact hg
      · exact f1 b hb g' e
end Go.Proofs.YtafgnmiflngjhaaGreatDoor
