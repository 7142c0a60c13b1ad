/-
  WHAT VARIES: the walks.
-/
import Derived.Test.YtdgipmlkkmmliaaGreatDoorIg
namespace Go.Proofs.YtdgipmlkkmmliaaGreatDoor
set_option maxRecDepth 100000
set_option linter.unusedSimpArgs false
set_option linter.unusedVariables false
open Go.Xe
theorem any_take {α : Type} (p : α → Bool) {l : List α} {k : Nat} (h : k < l.length) : (l.take (k + 1)).any p = ((l.take k).any p || p l[k]) := by
  rw [List.take_succ_eq_append_getElem h, List.any_append]
  simp
set_option maxHeartbeats 4000000 in
theorem l6Vary_ret (A A' : Option Addr) (c c' : Nat) (ws : List Hd) (ns : List ByteArray) (M : PH) (hs : Sl M A 2 Hd.cs ws) (hns : Sl M A' 1 stC ns) (hco : costL Hd.cost ws ≤ 1048576) (ho : ∀ x ∈ ws, x.okl) (hn : ns.length ≤ 1048576) (hno : ∀ x ∈ ns, x.size ≤ maxLen) :
    Ret 65 [.slice A ws.length c, .slice A' ns.length c'] M (B (varyT ws ns)) := by
  refine Ret.of ?_
  refine xcall_of_vc Tryz.func65 rfl _ Tryz.ntmps65 _ rfl (fun _ _ => Tryz.call65 _ _) rfl (fun w0 ρ0 => ?_)
  conv => whnf
  refine ACall.step (l6Items_ret A c ws varyL M hs hco ho (by decide +kernel)) fun r M1 hh => ?_
  obtain ⟨A1, c1, rfl, S1, l1⟩ := hh
  have hxn := parR_n (t := jn (vals ws varyL))
  have hxl := parR_len (jn (vals ws varyL))
  have e0 : varyT ws ns = (decide (parC (jn (vals ws varyL)) = 0) && !(parR (jn (vals ws varyL))).any (badI ns)) := rfl
  rw [e0]
  clear e0
  have hns1 := hns.mono l1
  generalize parR (jn (vals ws varyL)) = xs at *
  generalize parC (jn (vals ws varyL)) = k0 at *
  conv => whnf
  repeat' (first | (refine ⟨⟨[], rfl⟩, _, PH.Le.refl _, PH.Le.refl _, ?_⟩; conv => whnf) | (refine caseB_true ?_; conv => whnf) | (refine caseB_false ?_; conv => whnf) | ((with_reducible refine caseB_dec (fun h => ?_) (fun h => ?_)) <;> conv => whnf) | ((with_reducible refine caseB_ndec (fun h => ?_) (fun h => ?_)) <;> conv => whnf) | ((with_reducible refine caseB_not (fun h => ?_) (fun h => ?_)) <;> conv => whnf) | (with_reducible refine @And.intro (guardVC _ _ _ _ _) _ ?_ ?_) <;> conv => whnf | (refine caseB_intro (fun h => ?_) (fun h => ?_) <;> (try simp only [Bool.not_eq_true', Bool.not_eq_false', decide_eq_true_eq, decide_eq_false_iff_not] at h) <;> conv => whnf))
  · refine ⟨_, PH.Le.refl _, ?_, l1⟩
    show B false = B (decide (k0 = 0) && !xs.any (badI ns))
    rw [decide_eq_false h]; rfl
  have h0 : k0 = 0 := h
  rw [decide_eq_true h0]
  refine loop_rule (fun i : Nat => ⟨slots 55 [(0, .v (.slice A ws.length c)), (1, .v (.slice A' ns.length c')), (4, .v (B false)), (5, .v (.slice A1 xs.length c1)), (7, .v (I i))], []⟩)
    (fun i M' => i ≤ xs.length ∧ (∀ j, j < i → ∀ hj : j < xs.length, badI ns xs[j] = false) ∧ M' = M1) (fun i => xs.length - i) 0 ?_ ?_ ?_
  · exact ⟨by simp [slots, leT], ⟨[], rfl⟩, Nat.zero_le _, rfl, rfl⟩
  · exact ⟨Nat.zero_le _, fun j hj => absurd hj (Nat.not_lt_zero _), rfl⟩
  rintro i M2 ⟨hi, hq, rfl⟩
  conv => whnf
  refine caseB_dec (fun hb => ?_) (fun hb => ?_)
  · have hb : (i : Int) < xs.length := hb
    have hi' : i < xs.length := by omega
    have hw : IntKind.i64.wrap ((i : Int) + 1) = (i : Int) + 1 := wr_id (by omega) (by omega)
    obtain ⟨hA, _, hc⟩ := S1.get hi'
    have hxs := hxn _ (List.getElem_mem hi')
    have hbad : badI ns xs[i] = true → xs.any (badI ns) = true := fun h => anyG_yes hi' h
    have hstep : badI ns xs[i] = false → ∀ j, j < i + 1 → ∀ hj : j < xs.length, badI ns xs[j] = false := fun h j hj hj2 => by
      rcases Nat.lt_succ_iff_lt_or_eq.1 hj with h2 | h2
      · exact hq j h2 hj2
      · subst h2; exact h
    generalize xs[i] = x at *
    have c0 : M2.cells A1 (i * 3) [Tx x.n] := cells_cut hc 0 rfl
    have ch : M2.cells A1 (i * 3 + 1) [B x.h] := cells_cut hc 1 rfl
    conv => whnf
    refine loop_rule (fun k : Nat => ⟨slots 55 [(0, .v (.slice A ws.length c)), (1, .v (.slice A' ns.length c')), (4, .v (B false)), (5, .v (.slice A1 xs.length c1)), (7, .v (I i)), (8, .v (B ((ns.take k).any fun n => alikeT x.n n && !seq n starB))), (9, .v (I k))], []⟩)
      (fun k M' => k ≤ ns.length ∧ M' = M2) (fun k => ns.length - k) 0 ?_ ?_ ?_
    · exact ⟨by simp [slots, leT], ⟨[], rfl⟩, Nat.zero_le _, rfl, rfl⟩
    · exact ⟨Nat.zero_le _, rfl⟩
    rintro k M3 ⟨hk, rfl⟩
    conv => whnf
    refine caseB_dec (fun hb2 => ?_) (fun hb2 => ?_)
    · have hb2 : (k : Int) < ns.length := hb2
      have hk' : k < ns.length := by omega
      have hw2 : IntKind.i64.wrap ((k : Int) + 1) = (k : Int) + 1 := wr_id (by omega) (by omega)
      obtain ⟨hA', _, hc'⟩ := hns1.get hk'
      have hok := hno _ (List.getElem_mem hk')
      have hat := any_take (fun n => alikeT x.n n && !seq n starB) hk'
      generalize ns[k] = n at *
      conv => whnf
      repeat' (first | (refine ⟨⟨[], rfl⟩, _, PH.Le.refl _, PH.Le.refl _, ?_⟩; conv => whnf) | (refine ⟨_, hc', ?_⟩; conv => whnf) | (refine ⟨_, c0, ?_⟩; conv => whnf) | (refine ⟨by omega, hb2, hA', ?_⟩; conv => whnf) | (refine ⟨by omega, hb, hA, ?_⟩; conv => whnf) | (refine caseB_true ?_; conv => whnf) | (refine caseB_false ?_; conv => whnf) | ((with_reducible refine caseB_dec (fun h => ?_) (fun h => ?_)) <;> conv => whnf) | ((with_reducible refine caseB_ndec (fun h => ?_) (fun h => ?_)) <;> conv => whnf) | ((with_reducible refine caseB_not (fun h => ?_) (fun h => ?_)) <;> conv => whnf) | (refine Ret.go (l4Alike_ret x.n n _ (by unfold maxLen; omega) hok) ?_; conv => whnf) | (refine draw_rule (.light 0 <| .light 1 <| .light 2 <| .light 3 <| .light 4 <| .light 5 <| .light 6 <| .light 7 <| .light 8 <| .alt 9 false (.light 10 <| .light 11 <| .light 12 <| .light 13 <| .light 14 <| .light 15 <| .light 16 <| .done) .nil) (by decide +kernel) ?_; conv => whnf) | (with_reducible refine @And.intro (guardVC _ _ _ _ _) _ ?_ ?_) <;> conv => whnf | (refine caseB_intro (fun h => ?_) (fun h => ?_) <;> (try simp only [Bool.not_eq_true', Bool.not_eq_false', decide_eq_true_eq, decide_eq_false_iff_not] at h) <;> conv => whnf))
      all_goals first
        | (have ha : alikeT x.n n = true := by assumption
           have hs9 : seq n starB = false := by assumption
           have e : ((ns.take (k + 1)).any fun n => alikeT x.n n && !seq n starB) = true := by rw [hat, ha, hs9]; simp
           exact ⟨k + 1, ⟨by simp [slots, leT, hw2, e], ⟨[], rfl⟩, Nat.zero_le _, rfl, rfl⟩, ⟨hk', rfl⟩, by omega⟩)
        | (have e : ((ns.take (k + 1)).any fun n => alikeT x.n n && !seq n starB) = ((ns.take k).any fun n => alikeT x.n n && !seq n starB) := by
             rw [hat]
             first
               | (have ha : alikeT x.n n = false := by assumption
                  rw [ha]; simp; done)
               | (have hs9 : seq n starB = true := by assumption
                  rw [hs9]; simp; done)
           exact ⟨k + 1, ⟨by simp [slots, leT, hw2, e], ⟨[], rfl⟩, Nat.zero_le _, rfl, rfl⟩, ⟨hk', rfl⟩, by omega⟩)
    · have hke : k = ns.length := by have hb2 : ¬ (k : Int) < ns.length := hb2; omega
      subst hke
      rw [List.take_length, found_eq]
      have hbd : badI ns x = (x.h || !(!seq x.n starB && fitsN ns x)) := by
        unfold badI
        cases x.h <;> cases seq x.n starB <;> cases fitsN ns x <;> rfl
      generalize (!seq x.n starB && fitsN ns x) = fd at *
      conv => whnf
      cases fd
      · have h9 := hbad (by rw [hbd]; cases x.h <;> rfl)
        repeat' (first | (refine ⟨⟨[], rfl⟩, _, PH.Le.refl _, PH.Le.refl _, ?_⟩; conv => whnf) | (refine caseB_true ?_; conv => whnf) | (refine caseB_false ?_; conv => whnf) | ((with_reducible refine caseB_dec (fun h => ?_) (fun h => ?_)) <;> conv => whnf) | ((with_reducible refine caseB_ndec (fun h => ?_) (fun h => ?_)) <;> conv => whnf) | ((with_reducible refine caseB_not (fun h => ?_) (fun h => ?_)) <;> conv => whnf) | (with_reducible refine @And.intro (guardVC _ _ _ _ _) _ ?_ ?_) <;> conv => whnf | (refine caseB_intro (fun h => ?_) (fun h => ?_) <;> (try simp only [Bool.not_eq_true', Bool.not_eq_false', decide_eq_true_eq, decide_eq_false_iff_not] at h) <;> conv => whnf))
        refine ⟨_, PH.Le.refl _, ?_, l1⟩
        rw [h9]; rfl
      · cases hh : x.h with
        | true =>
          have h9 := hbad (by rw [hbd, hh]; rfl)
          rw [hh] at ch
          repeat' (first | (refine ⟨⟨[], rfl⟩, _, PH.Le.refl _, PH.Le.refl _, ?_⟩; conv => whnf) | (refine ⟨_, ch, ?_⟩; conv => whnf) | (refine ⟨by omega, hb, hA, ?_⟩; conv => whnf) | (refine caseB_true ?_; conv => whnf) | (refine caseB_false ?_; conv => whnf) | ((with_reducible refine caseB_dec (fun h => ?_) (fun h => ?_)) <;> conv => whnf) | ((with_reducible refine caseB_ndec (fun h => ?_) (fun h => ?_)) <;> conv => whnf) | ((with_reducible refine caseB_not (fun h => ?_) (fun h => ?_)) <;> conv => whnf) | (with_reducible refine @And.intro (guardVC _ _ _ _ _) _ ?_ ?_) <;> conv => whnf | (refine caseB_intro (fun h => ?_) (fun h => ?_) <;> (try simp only [Bool.not_eq_true', Bool.not_eq_false', decide_eq_true_eq, decide_eq_false_iff_not] at h) <;> conv => whnf))
          refine ⟨_, PH.Le.refl _, ?_, l1⟩
          rw [h9]; rfl
        | false =>
          have h9 := hstep (by rw [hbd, hh]; rfl)
          rw [hh] at ch
          repeat' (first | (refine ⟨⟨[], rfl⟩, _, PH.Le.refl _, PH.Le.refl _, ?_⟩; conv => whnf) | (refine ⟨_, ch, ?_⟩; conv => whnf) | (refine ⟨by omega, hb, hA, ?_⟩; conv => whnf) | (refine caseB_true ?_; conv => whnf) | (refine caseB_false ?_; conv => whnf) | ((with_reducible refine caseB_dec (fun h => ?_) (fun h => ?_)) <;> conv => whnf) | ((with_reducible refine caseB_ndec (fun h => ?_) (fun h => ?_)) <;> conv => whnf) | ((with_reducible refine caseB_not (fun h => ?_) (fun h => ?_)) <;> conv => whnf) | (with_reducible refine @And.intro (guardVC _ _ _ _ _) _ ?_ ?_) <;> conv => whnf | (refine caseB_intro (fun h => ?_) (fun h => ?_) <;> (try simp only [Bool.not_eq_true', Bool.not_eq_false', decide_eq_true_eq, decide_eq_false_iff_not] at h) <;> conv => whnf))
          exact ⟨i + 1, ⟨by simp [slots, leT, hw], ⟨[], rfl⟩, Nat.zero_le _, rfl, rfl⟩, ⟨hi', h9, rfl⟩, by omega⟩
  · conv => whnf
    refine ⟨_, PH.Le.refl _, ?_, l1⟩
    have hie : i = xs.length := by have hb : ¬ (i : Int) < xs.length := hb; omega
    rw [anyG_no fun j hj => hq j (by omega) hj]
    rfl
end Go.Proofs.YtdgipmlkkmmliaaGreatDoor
