/-
  THE LAW: what was put is there, and all is within its bounds.
-/
import Derived.Test.YtgjaiabenjafeaaGreatDoorEe
import Derived.Test.YtgjaiabenjafeaaGreatDoorBh
namespace Go.Proofs.YtgjaiabenjafeaaGreatDoor
set_option maxRecDepth 100000
set_option linter.unusedSimpArgs false
set_option linter.unusedVariables false
open Go.Xe
theorem lwTexts_ret (A A' : Option Addr) (c c' : Nat) (ws : List ByteArray) (M : PH) (hs : Sl M A 1 stC ws) (hs' : Sl M A' 1 stC ws) (hn : ws.length ≤ 1048576) : Ret 27 [.slice A ws.length c, .slice A' ws.length c'] M (B true) := by
  refine xcall_of_vc Tryz.func27 rfl _ Tryz.ntmps27 _ rfl (fun _ _ => Tryz.call27 _ _) rfl (fun w0 ρ0 => ?_)
  conv => whnf
  refine caseB_ndec (fun h => absurd rfl h) (fun _ => ?_)
  conv => whnf
  refine loop_rule (fun i : Nat => ⟨slots 26 [(0, .v (.slice A ws.length c)), (1, .v (.slice A' ws.length c')), (5, .v (I i))], []⟩) (fun i M' => i ≤ ws.length ∧ M' = M) (fun i => ws.length - i) 0 ?_ ?_ ?_
  · exact ⟨by simp [slots, leT], ⟨[], rfl⟩, Nat.zero_le _, rfl, rfl⟩
  · exact ⟨Nat.zero_le _, rfl⟩
  rintro i M' ⟨hi, rfl⟩
  conv => whnf
  refine caseB_dec (fun h0 => ?_) (fun h0 => ?_)
  · have hi' : i < ws.length := by omega
    have hw : IntKind.i64.wrap ((i : Int) + 1) = (i : Int) + 1 := wr_id (by omega) (by omega)
    obtain ⟨hA, _, hc⟩ := hs.get hi'
    obtain ⟨hA', _, hc'⟩ := hs'.get hi'
    conv => whnf
    repeat' (first | (refine ⟨⟨[], rfl⟩, _, PH.Le.refl _, PH.Le.refl _, ?_⟩; conv => whnf) | (refine ⟨_, hc', ?_⟩; conv => whnf) | (refine ⟨_, hc, ?_⟩; conv => whnf) | (refine ⟨by omega, by omega, hA', ?_⟩; conv => whnf) | (refine ⟨by omega, by omega, hA, ?_⟩; conv => whnf) | (refine caseB_true ?_; conv => whnf) | (refine caseB_false ?_; conv => whnf) | ((with_reducible refine caseB_dec (fun h => ?_) (fun h => ?_)) <;> conv => whnf) | ((with_reducible refine caseB_ndec (fun h => ?_) (fun h => ?_)) <;> conv => whnf) | ((with_reducible refine caseB_not (fun h => ?_) (fun h => ?_)) <;> conv => whnf) | (refine draw_rule (.light 0 <| .light 1 <| .light 2 <| .light 3 <| .light 4 <| .light 5 <| .light 6 <| .light 7 <| .light 8 <| .done) (by decide +kernel) ?_; conv => whnf) | (with_reducible refine @And.intro (guardVC _ _ _ _ _) _ ?_ ?_) <;> conv => whnf | (refine caseB_intro (fun h => ?_) (fun h => ?_) <;> (try simp only [Bool.not_eq_true', Bool.not_eq_false', decide_eq_true_eq, decide_eq_false_iff_not] at h) <;> conv => whnf))
    all_goals first | (exfalso; simp [seq_self] at h; done) | exact ⟨i + 1, ⟨by simp [slots, leT, hw], ⟨[], rfl⟩, Nat.zero_le _, rfl, rfl⟩, ⟨by omega, rfl⟩, by omega⟩
  · conv => whnf
    exact ⟨_, PH.Le.refl _, rfl, rfl⟩
theorem lwBytes_ret (A A' : Option Addr) (c c' : Nat) (ws : List Int) (M : PH) (hs : Sl M A 1 byC ws) (hs' : Sl M A' 1 byC ws) : Ret 39 [.slice A ws.length c, .slice A' ws.length c'] M (B true) := by
  have f1 := hs.flat by_len
  have f2 := hs'.flat by_len
  rw [byC_flat] at f1 f2
  refine xcall_of_vc Tryz.func39 rfl _ Tryz.ntmps39 _ rfl (fun _ _ => Tryz.call39 _ _) rfl (fun w0 ρ0 => ?_)
  conv => whnf
  refine ⟨ws, ⟨rfl, f1⟩, ?_⟩
  conv => whnf
  refine ⟨ws, ⟨rfl, f2⟩, ?_⟩
  conv => whnf
  exact ⟨_, PH.Le.refl _, by simp [resV, seq_self], rfl⟩
theorem StA.len_of {x : StA} {b : Nat} (h : x.c.cost ≤ b) : x.tr.length + x.kp.length ≤ b := by
  have a1 := costL_len En.cost (conts x.tr)
  have a2 := costL_len En.cost (conts x.kp)
  have : x.c.cost = costL En.cost (conts x.tr) + costL En.cost (conts x.kp) := rfl
  unfold conts at a1 a2 this
  rw [List.length_map] at a1 a2
  omega
theorem putR_small {s : Sc} {e : En} (hs : s.cost ≤ 70000) (he : e.cost ≤ 30000) : (putR s e).cost ≤ 200000 := by
  unfold putR
  split
  · show costL En.cost [] + costL En.cost [] ≤ _; decide
  · split
    · show costL En.cost [] + costL En.cost [] ≤ _; decide
    · cases hp : putE s e with
      | none => show costL En.cost [] + costL En.cost [] ≤ _; decide
      | some r =>
        obtain ⟨a, b, c⟩ := putE_some hp
        have ca := sub_cost (f := En.cost) a
        have cb := sub_cost (f := En.cost) b
        rw [costL_cons] at ca
        have ce : costL En.cost [e] = 1 + e.cost := by simp [costL]
        have hcs : s.cost = costL En.cost s.tr + costL En.cost s.kp := rfl
        show costL En.cost r.tr + costL En.cost r.kp ≤ _
        omega
abbrev putBox (k : Int) (s : So) (A : Option Addr) (n c : Nat) : Box := ⟨38, [.v (I k), .v (I s.b), .v (I s.g), .v (.slice s.A1 s.p1.length s.c1), .v (.slice s.A2 s.p2.length s.c2), .v (.slice A n c)]⟩
theorem swF_some {s : Sc} {k : ByteArray} {e : En} (h : stFault s = 0) (hl : look s.all k = some e) : swF s k = 0 ∧ pk s k = e := by
  have h0 : swF s k = 0 := by unfold swF; rw [if_neg (by simpa using h), if_neg (by rw [hl]; simp)]
  exact ⟨h0, by unfold pk pkE; rw [if_pos h0, hl]; rfl⟩
theorem swF_none {s : Sc} {k : ByteArray} (h : stFault s = 0) (hl : look s.all k = none) : swF s k = 4 := by unfold swF; rw [if_neg (by simpa using h), if_pos hl]
theorem putC_0 {s : Sc} {e : En} (h : putC s e = 0) : stFault s = 0 ∧ enFault e = 0 ∧ ∃ r, putE s e = some r ∧ putR s e = evS s r ∧ putG s e = r.gone := by
  unfold putC at h
  split at h
  · contradiction
  · rename_i h1
    split at h
    · contradiction
    · rename_i h2
      have h1 : stFault s = 0 := by simpa using h1
      have h2 : enFault e = 0 := by simpa using h2
      cases hp : putE s e with
      | none => rw [hp] at h; cases h
      | some r => exact ⟨h1, h2, r, rfl, by unfold putR; rw [if_neg (by simpa using h1), if_neg (by simpa using h2), hp], by unfold putG; rw [if_neg (by simpa using h1), if_neg (by simpa using h2), hp]⟩
set_option maxHeartbeats 8000000 in
theorem stores_law (A : Option Addr) (c : Nat) (bs : List Int) (M : PH) (hs : Sl M A 1 byC bs) (hby : ∀ (i : Nat) b, bs[i]? = some b → 0 ≤ b ∧ b ≤ 255) :
    ACall env 5 [.slice A bs.length c] M fun r M' => r = B true ∧ M.Le M' := by
  refine xcall_of_vc Tryz.func5 rfl _ Tryz.ntmps5 _ rfl (fun _ _ => Tryz.call5 _ _) rfl (fun w0 ρ0 => ?_)
  conv => whnf
  repeat' (first | (refine ⟨⟨[], rfl⟩, _, PH.Le.refl _, PH.Le.refl _, ?_⟩; conv => whnf) | (refine caseB_true ?_; conv => whnf) | (refine caseB_false ?_; conv => whnf) | ((with_reducible refine caseB_dec (fun h => ?_) (fun h => ?_)) <;> conv => whnf) | ((with_reducible refine caseB_ndec (fun h => ?_) (fun h => ?_)) <;> conv => whnf) | ((with_reducible refine caseB_not (fun h => ?_) (fun h => ?_)) <;> conv => whnf) | (refine Ret.go (lwBig_ret A c bs _) ?_; conv => whnf) | (with_reducible refine @And.intro (guardVC _ _ _ _ _) _ ?_ ?_) <;> conv => whnf | (refine caseB_intro (fun h => ?_) (fun h => ?_) <;> (try simp only [Bool.not_eq_true', Bool.not_eq_false', decide_eq_true_eq, decide_eq_false_iff_not] at h) <;> conv => whnf))
  · exact ⟨_, PH.Le.refl _, rfl, PH.Le.refl _⟩
  have hb : Byt M A bs := ⟨hs, by omega, hby⟩
  refine ACall.step (drawPut_ret A c bs M hb) fun r M1 hh => ?_
  obtain ⟨x, e, rfl, hx, hxc, he, hec, l1⟩ := hh
  clear hs hb hby h
  conv => whnf
  refine ACall.step (putEntry_impl x e M1 hx he (by omega) (by omega)) fun r M2 hh => ?_
  obtain ⟨p, o2, A2, c2, rfl, ep, P2⟩ := hh
  have l2 := P2.st.le
  conv => whnf
  refine ACall.step (putEntry_spec x e M2 (hx.mono l2) (he.mono l2) (by omega) (by omega)) fun r M3 hh => ?_
  obtain ⟨q, o3, A3, c3, rfl, eq, P3⟩ := hh
  have l3 := P3.st.le
  have P2 : NewP M1 M3 p o2 A2 c2 (putG x.c e.c) := P2.mono l3
  have hx3 := (hx.mono l2).mono l3
  have he3 := (he.mono l2).mono l3
  have L3 := (l1.trans l2).trans l3
  have hok := putR_ok (s := x.c) (e := e.c) (by omega) (by omega)
  have hsm := putR_small (s := x.c) (e := e.c) hxc hec
  conv => whnf
  have hg := hok.g
  have r1 := lwTexts_ret A2 A3 c2 c3 (putG x.c e.c) M3 (P2.w.sl st_len) (P3.w.sl st_len) (by omega)
  have r2 := storeFault_impl x M3 hx3 (by omega)
  have r3 := storeFault_spec x M3 hx3 (by omega)
  have r4 := entryFault_impl e M3 he3 (by omega)
  have r5 := entryFault_spec e M3 he3 (by omega)
  repeat' (first | (refine ⟨⟨[], rfl⟩, _, PH.Le.refl _, PH.Le.refl _, ?_⟩; conv => whnf) | (refine caseB_true ?_; conv => whnf) | (refine caseB_false ?_; conv => whnf) | ((with_reducible refine caseB_dec (fun h => ?_) (fun h => ?_)) <;> conv => whnf) | ((with_reducible refine caseB_ndec (fun h => ?_) (fun h => ?_)) <;> conv => whnf) | ((with_reducible refine caseB_not (fun h => ?_) (fun h => ?_)) <;> conv => whnf) | (refine Ret.go (r1) ?_; conv => whnf) | (refine Ret.go (r2) ?_; conv => whnf) | (refine Ret.go (r3) ?_; conv => whnf) | (refine Ret.go (r4) ?_; conv => whnf) | (refine Ret.go (r5) ?_; conv => whnf) | (refine draw_rule (.light 0 <| .light 1 <| .light 2 <| .light 3 <| .light 4 <| .light 5 <| .light 6 <| .light 7 <| .light 8 <| .light 9 <| .alt 10 false (.light 11 <| .light 12 <| .light 13 <| .light 14 <| .light 16 <| .alt 15 false (.alt 17 false (.light 18 <| .light 19 <| .light 20 <| .light 21 <| .light 23 <| .alt 22 false (.alt 24 false (.light 25 <| .light 26 <| .done) .nil) .nil) .nil) .nil) .nil) (by decide +kernel) ?_; conv => whnf) | (refine draw_rule (.light 0 <| .light 1 <| .alt 2 false (.light 3 <| .light 4 <| .light 5 <| .light 6 <| .light 7 <| .light 8 <| .light 9 <| .light 10 <| .light 11 <| .light 12 <| .light 13 <| .light 14 <| .alt 15 false (.light 16 <| .light 17 <| .light 18 <| .light 19 <| .light 20 <| .light 21 <| .light 22 <| .light 23 <| .light 24 <| .light 25 <| .light 26 <| .light 27 <| .light 28 <| .light 29 <| .light 30 <| .light 31 <| .light 32 <| .light 33 <| .light 34 <| .light 35 <| .light 36 <| .light 37 <| .light 38 <| .light 39 <| .light 40 <| .light 41 <| .alt 42 false (.light 43 <| .light 44 <| .light 45 <| .done) .nil) .nil) .nil) (by decide +kernel) ?_; conv => whnf) | (refine draw_rule (.light 0 <| .light 1 <| .light 2 <| .light 3 <| .light 4 <| .light 5 <| .alt 6 false (.alt 7 false (.alt 8 true (.done) .nil) .nil) (.alt 7 false (.alt 6 false (.alt 8 true (.done) .nil) .nil) .nil)) (by decide +kernel) ?_; conv => whnf) | (refine draw_rule (.light 0 <| .light 1 <| .light 2 <| .light 3 <| .light 4 <| .light 5 <| .light 6 <| .light 7 <| .light 8 <| .light 9 <| .light 10 <| .light 11 <| .light 12 <| .light 13 <| .light 14 <| .light 15 <| .light 16 <| .alt 17 false (.light 18 <| .light 19 <| .light 20 <| .done) .nil) (by decide +kernel) ?_; conv => whnf) | (refine draw_rule (.light 0 <| .light 1 <| .light 2 <| .light 3 <| .light 6 <| .light 7 <| .alt 4 false (.light 5 <| .alt 8 false (.light 9 <| .light 10 <| .light 11 <| .done) .nil) .nil) (by decide +kernel) ?_; conv => whnf) | (with_reducible refine @And.intro (guardVC _ _ _ _ _) _ ?_ ?_) <;> conv => whnf | (refine caseB_intro (fun h => ?_) (fun h => ?_) <;> (try simp only [Bool.not_eq_true', Bool.not_eq_false', decide_eq_true_eq, decide_eq_false_iff_not] at h) <;> conv => whnf))
  all_goals first | (exfalso; exact absurd rfl h; done) | skip
  · exact ⟨_, PH.Le.refl _, rfl, L3⟩
  have h0 : putC x.c e.c = 0 := h
  obtain ⟨hf, hef, ev, hE, eR, eG⟩ := putC_0 h0
  have hL := putE_law (free_of hf) hef hE
  rw [eR] at ep hsm
  rw [eG] at P2 ⊢
  have hR := hL.fr.ok
  have hDp := P2.st.d
  have hpc : p.c.cost ≤ 200000 := by rw [ep]; exact hsm
  have fe := swF_some hR hL.lk
  clear r1 r2 r3 r4 r5 P3 hok hg
  have pe := peekEntry_impl p.sta e.c.key M3 hDp.inn (by rw [p.sta_c]; omega)
  rw [p.sta_val, p.sta_c, ep, fe.1, fe.2] at pe
  refine ACall.step pe fun r M4 hh => ?_
  obtain ⟨y, rfl, ey, Ny⟩ := hh
  have l4 := Ny.le
  have hDp := hDp.mono l4
  have P2 := P2.mono l4
  have he4 := he3.mono l4
  have hx4 := hx3.mono l4
  conv => whnf
  have ci := costIn_impl p.sta M4 hDp.inn (by rw [p.sta_c]; omega)
  have hci : costInR (evS x.c ev) = ⟨0, eCosts (evS x.c ev).all⟩ := by unfold costInR; rw [if_pos hR]
  rw [p.sta_val, p.sta_c, ep, hci] at ci
  refine Ret.go ci ?_
  conv => whnf
  have sf := storeFault_impl p.sta M4 hDp.inn (by rw [p.sta_c]; omega)
  rw [p.sta_val, p.sta_c, ep, hR] at sf
  have co := costOf_impl e M4 he4 (by omega)
  have hco : costR e.c = ⟨0, eCost e.c⟩ := by unfold costR; rw [if_pos hef]
  rw [hco] at co
  have yb : Sl M4 y.1.bA 1 byC e.c.body := by have := Ny.ed.y.sl by_len; rw [ey] at this; exact this
  have lb := lwBytes_ret y.1.bA e.bA y.1.bc e.bc e.c.body M4 yb he4.b
  rw [ey]
  repeat' (first | (refine ⟨⟨[], rfl⟩, _, PH.Le.refl _, PH.Le.refl _, ?_⟩; conv => whnf) | (refine caseB_true ?_; conv => whnf) | (refine caseB_false ?_; conv => whnf) | ((with_reducible refine caseB_dec (fun h => ?_) (fun h => ?_)) <;> conv => whnf) | ((with_reducible refine caseB_ndec (fun h => ?_) (fun h => ?_)) <;> conv => whnf) | ((with_reducible refine caseB_not (fun h => ?_) (fun h => ?_)) <;> conv => whnf) | (refine Ret.go (sf) ?_; conv => whnf) | (refine Ret.go (lb) ?_; conv => whnf) | (refine Ret.go (co) ?_; conv => whnf) | (refine draw_rule (.light 0 <| .light 1 <| .light 2 <| .light 3 <| .light 4 <| .light 5 <| .light 6 <| .light 7 <| .light 8 <| .light 9 <| .alt 10 false (.light 11 <| .light 12 <| .light 13 <| .light 14 <| .light 16 <| .alt 15 false (.alt 17 false (.light 18 <| .light 19 <| .light 20 <| .light 21 <| .light 23 <| .alt 22 false (.alt 24 false (.light 25 <| .light 26 <| .done) .nil) .nil) .nil) .nil) .nil) (by decide +kernel) ?_; conv => whnf) | (refine draw_rule (.light 0 <| .light 1 <| .alt 2 false (.light 3 <| .light 4 <| .light 5 <| .light 6 <| .light 7 <| .light 8 <| .light 9 <| .light 10 <| .light 11 <| .light 12 <| .light 13 <| .light 14 <| .alt 15 false (.light 16 <| .light 17 <| .light 18 <| .light 19 <| .light 20 <| .light 21 <| .light 22 <| .light 23 <| .light 24 <| .light 25 <| .light 26 <| .light 27 <| .light 28 <| .light 29 <| .light 30 <| .light 31 <| .light 32 <| .light 33 <| .light 34 <| .light 35 <| .light 36 <| .light 37 <| .light 38 <| .light 39 <| .light 40 <| .light 41 <| .alt 42 false (.light 43 <| .light 44 <| .light 45 <| .done) .nil) .nil) .nil) (by decide +kernel) ?_; conv => whnf) | (refine draw_rule (.light 0 <| .light 1 <| .light 2 <| .light 3 <| .light 4 <| .light 5 <| .alt 6 false (.alt 7 false (.alt 8 true (.done) .nil) .nil) (.alt 7 false (.alt 6 false (.alt 8 true (.done) .nil) .nil) .nil)) (by decide +kernel) ?_; conv => whnf) | (refine draw_rule (.light 0 <| .light 1 <| .light 2 <| .light 3 <| .light 4 <| .light 5 <| .light 6 <| .light 7 <| .light 8 <| .light 9 <| .light 10 <| .light 11 <| .light 12 <| .light 13 <| .light 14 <| .light 15 <| .light 16 <| .alt 17 false (.light 18 <| .light 19 <| .light 20 <| .done) .nil) (by decide +kernel) ?_; conv => whnf) | (refine draw_rule (.light 0 <| .light 1 <| .light 2 <| .light 3 <| .light 6 <| .light 7 <| .alt 4 false (.light 5 <| .alt 8 false (.light 9 <| .light 10 <| .light 11 <| .done) .nil) .nil) (by decide +kernel) ?_; conv => whnf) | (with_reducible refine @And.intro (guardVC _ _ _ _ _) _ ?_ ?_) <;> conv => whnf | (refine caseB_intro (fun h => ?_) (fun h => ?_) <;> (try simp only [Bool.not_eq_true', Bool.not_eq_false', decide_eq_true_eq, decide_eq_false_iff_not] at h) <;> conv => whnf))
  · exact absurd rfl h
  · exfalso
    have h1 := hL.fr.c
    have h2 : x.b < (eCosts (evS x.c ev).all : Int) := h
    have h3 : (evS x.c ev).bud = x.b := rfl
    omega
  · exfalso
    have h1 := hL.ec
    have h2 : (eCosts (evS x.c ev).all : Int) < (eCost e.c : Int) := h
    omega
  have w2 := P2.w.sl st_len
  refine loop_rule (fun i : Nat => ⟨slots 154 [(2, .v (B false)), (3, .bp 0 0), (4, .bp 1 0), (5, .bp 2 0), (9, .v (I i))], [stBox x, enBox (e, none, none, none), putBox (putC x.c e.c) p A2 ev.gone.length c2]⟩)
    (fun i M' => i ≤ ev.gone.length ∧ M4.Le M') (fun i => ev.gone.length - i) 0 ?_ ?_ ?_
  · exact ⟨by simp [slots, leT], ⟨[_, _, _], rfl⟩, Nat.zero_le _, rfl, rfl⟩
  · exact ⟨Nat.zero_le _, PH.Le.refl _⟩
  rintro i M5 ⟨hi, l5⟩
  have hDp := hDp.mono l5
  have he5 := he4.mono l5
  have hx5 := hx4.mono l5
  have w5 := w2.mono l5
  conv => whnf
  refine caseB_dec (fun hb2 => ?_) (fun hb2 => ?_)
  · have hi' : i < ev.gone.length := by have hb2 : (i : Int) < ev.gone.length := hb2; omega
    have hw : IntKind.i64.wrap ((i : Int) + 1) = (i : Int) + 1 := wr_id (by have := P2.w.le; omega) (by have := putE_some hE; have := stF_40 hf; omega)
    obtain ⟨hA, _, hc⟩ := w5.get hi'
    obtain ⟨⟨w, hwl, hwp⟩, hnl⟩ := hL.go _ (List.getElem_mem hi')
    generalize ev.gone[i] = z at *
    have hb1 : (0 : Int) ≤ (i : Int) := by omega
    have s1 := swF_some hf hwl
    have s2 := swF_none hR hnl
    have pe1 := peekEntry_impl x z M5 hx5 (by omega)
    rw [s1.1, s1.2] at pe1
    have pe2 : ∀ N, M5.Le N → ACall env 29 [p.val, Tx z] N fun r M' => ∃ y : EP, r = erV 4 y.1 ∧ N.Le M' := fun N l => by
      have := peekEntry_impl p.sta z N (hDp.mono l).inn (by rw [p.sta_c]; omega)
      rw [p.sta_val, p.sta_c, ep, s2] at this
      exact this.mono fun r M' ⟨y, h1, _, h3⟩ => ⟨y, h1, h3.le⟩
    conv => whnf
    repeat' (first | (refine ⟨⟨[], rfl⟩, _, PH.Le.refl _, PH.Le.refl _, ?_⟩; conv => whnf) | (refine ⟨⟨_, rfl⟩, _, PH.Le.refl _, PH.Le.refl _, ?_⟩; conv => whnf) | (refine ACall.step pe1 fun r M6 hh => ?_; obtain ⟨y6, rfl, ey6, N6⟩ := hh; (first | (refine ⟨⟨[], rfl⟩, _, N6.le, PH.Le.refl _, ?_⟩; conv => whnf) | (refine ⟨⟨_, rfl⟩, _, N6.le, PH.Le.refl _, ?_⟩; conv => whnf) | conv => whnf)) | (refine ACall.step (pe2 M6 N6.le) fun r M7 hh => ?_; obtain ⟨y7, rfl, l7⟩ := hh; (first | (refine ⟨⟨[], rfl⟩, _, l7, PH.Le.refl _, ?_⟩; conv => whnf) | (refine ⟨⟨_, rfl⟩, _, l7, PH.Le.refl _, ?_⟩; conv => whnf) | conv => whnf)) | (refine ⟨_, N6.le.cells hc, ?_⟩; conv => whnf) | (refine ⟨_, hc, ?_⟩; conv => whnf) | (refine ⟨hb1, hb2, hA, ?_⟩; conv => whnf) | (refine caseB_true ?_; conv => whnf) | (refine caseB_false ?_; conv => whnf) | ((with_reducible refine caseB_dec (fun h => ?_) (fun h => ?_)) <;> conv => whnf) | ((with_reducible refine caseB_ndec (fun h => ?_) (fun h => ?_)) <;> conv => whnf) | ((with_reducible refine caseB_not (fun h => ?_) (fun h => ?_)) <;> conv => whnf) | (refine draw_rule (.light 0 <| .light 1 <| .light 2 <| .light 3 <| .light 4 <| .light 5 <| .light 6 <| .light 7 <| .light 8 <| .light 9 <| .alt 10 false (.light 11 <| .light 12 <| .light 13 <| .light 14 <| .light 16 <| .alt 15 false (.alt 17 false (.light 18 <| .light 19 <| .light 20 <| .light 21 <| .light 23 <| .alt 22 false (.alt 24 false (.light 25 <| .light 26 <| .done) .nil) .nil) .nil) .nil) .nil) (by decide +kernel) ?_; conv => whnf) | (refine draw_rule (.light 0 <| .light 1 <| .alt 2 false (.light 3 <| .light 4 <| .light 5 <| .light 6 <| .light 7 <| .light 8 <| .light 9 <| .light 10 <| .light 11 <| .light 12 <| .light 13 <| .light 14 <| .alt 15 false (.light 16 <| .light 17 <| .light 18 <| .light 19 <| .light 20 <| .light 21 <| .light 22 <| .light 23 <| .light 24 <| .light 25 <| .light 26 <| .light 27 <| .light 28 <| .light 29 <| .light 30 <| .light 31 <| .light 32 <| .light 33 <| .light 34 <| .light 35 <| .light 36 <| .light 37 <| .light 38 <| .light 39 <| .light 40 <| .light 41 <| .alt 42 false (.light 43 <| .light 44 <| .light 45 <| .done) .nil) .nil) .nil) (by decide +kernel) ?_; conv => whnf) | (refine draw_rule (.light 0 <| .light 1 <| .light 2 <| .light 3 <| .light 4 <| .light 5 <| .alt 6 false (.alt 7 false (.alt 8 true (.done) .nil) .nil) (.alt 7 false (.alt 6 false (.alt 8 true (.done) .nil) .nil) .nil)) (by decide +kernel) ?_; conv => whnf) | (refine draw_rule (.light 0 <| .light 1 <| .light 2 <| .light 3 <| .light 4 <| .light 5 <| .light 6 <| .light 7 <| .light 8 <| .light 9 <| .light 10 <| .light 11 <| .light 12 <| .light 13 <| .light 14 <| .light 15 <| .light 16 <| .alt 17 false (.light 18 <| .light 19 <| .light 20 <| .done) .nil) (by decide +kernel) ?_; conv => whnf) | (refine draw_rule (.light 0 <| .light 1 <| .light 2 <| .light 3 <| .light 6 <| .light 7 <| .alt 4 false (.light 5 <| .alt 8 false (.light 9 <| .light 10 <| .light 11 <| .done) .nil) .nil) (by decide +kernel) ?_; conv => whnf) | (with_reducible refine @And.intro (guardVC _ _ _ _ _) _ ?_ ?_) <;> conv => whnf | (refine caseB_intro (fun h => ?_) (fun h => ?_) <;> (try simp only [Bool.not_eq_true', Bool.not_eq_false', decide_eq_true_eq, decide_eq_false_iff_not] at h) <;> conv => whnf))
    all_goals first
      | (exfalso; exact absurd (by rw [ey6]; exact hwp) h)
      | exact ⟨i + 1, ⟨by simp [slots, leT, hw], ⟨[_], rfl⟩, Nat.zero_le _, rfl, rfl⟩, ⟨hi', (l5.trans N6.le).trans l7⟩, by omega⟩
  · have hdr : ACall env 41 [p.val, Tx e.c.key] M5 fun r M' => ∃ s : So, r = srS 0 s ∧ s.c = dropS (evS x.c ev) e.c.key ∧ NewS M5 M' s := by
      have := dropEntry_impl p.sta e.c.key M5 hDp.inn (by rw [p.sta_c]; omega)
      rw [p.sta_val, p.sta_c, ep, fe.1] at this
      exact this.mono fun r M' ⟨s, h1, h2, h3⟩ => ⟨s, h1, by rw [h2]; unfold dropR; rw [if_pos fe.1], h3⟩
    have hdf : Free (dropS (evS x.c ev) e.c.key) := hL.fr.less List.filter_sublist List.filter_sublist
    have hdl : look (dropS (evS x.c ev) e.c.key).all e.c.key = none := look_none fun y hy e0 => by
      have hy : y ∈ dropK (evS x.c ev).tr e.c.key ++ dropK (evS x.c ev).kp e.c.key := hy
      rw [← dropK_app] at hy
      have h3 : (!seq y.key e.c.key) = true := (List.mem_filter.1 hy).2
      rw [e0, seq_self] at h3; cases h3
    have s4 := swF_none hdf.ok hdl
    have hdc : (dropS (evS x.c ev) e.c.key).cost ≤ 200000 := by
      have a := sub_cost (f := En.cost) (List.filter_sublist (p := fun y : En => !seq y.key e.c.key) (l := (evS x.c ev).tr))
      have b := sub_cost (f := En.cost) (List.filter_sublist (p := fun y : En => !seq y.key e.c.key) (l := (evS x.c ev).kp))
      have c0 : (evS x.c ev).cost = costL En.cost (evS x.c ev).tr + costL En.cost (evS x.c ev).kp := rfl
      show costL En.cost (dropK (evS x.c ev).tr e.c.key) + costL En.cost (dropK (evS x.c ev).kp e.c.key) ≤ _
      unfold dropK
      omega
    conv => whnf
    repeat' (first | (refine ⟨⟨[], rfl⟩, _, PH.Le.refl _, PH.Le.refl _, ?_⟩; conv => whnf) | (refine caseB_true ?_; conv => whnf) | (refine caseB_false ?_; conv => whnf) | ((with_reducible refine caseB_dec (fun h => ?_) (fun h => ?_)) <;> conv => whnf) | ((with_reducible refine caseB_ndec (fun h => ?_) (fun h => ?_)) <;> conv => whnf) | ((with_reducible refine caseB_not (fun h => ?_) (fun h => ?_)) <;> conv => whnf) | (refine draw_rule (.light 0 <| .light 1 <| .light 2 <| .light 3 <| .light 4 <| .light 5 <| .light 6 <| .light 7 <| .light 8 <| .light 9 <| .alt 10 false (.light 11 <| .light 12 <| .light 13 <| .light 14 <| .light 16 <| .alt 15 false (.alt 17 false (.light 18 <| .light 19 <| .light 20 <| .light 21 <| .light 23 <| .alt 22 false (.alt 24 false (.light 25 <| .light 26 <| .done) .nil) .nil) .nil) .nil) .nil) (by decide +kernel) ?_; conv => whnf) | (refine draw_rule (.light 0 <| .light 1 <| .alt 2 false (.light 3 <| .light 4 <| .light 5 <| .light 6 <| .light 7 <| .light 8 <| .light 9 <| .light 10 <| .light 11 <| .light 12 <| .light 13 <| .light 14 <| .alt 15 false (.light 16 <| .light 17 <| .light 18 <| .light 19 <| .light 20 <| .light 21 <| .light 22 <| .light 23 <| .light 24 <| .light 25 <| .light 26 <| .light 27 <| .light 28 <| .light 29 <| .light 30 <| .light 31 <| .light 32 <| .light 33 <| .light 34 <| .light 35 <| .light 36 <| .light 37 <| .light 38 <| .light 39 <| .light 40 <| .light 41 <| .alt 42 false (.light 43 <| .light 44 <| .light 45 <| .done) .nil) .nil) .nil) (by decide +kernel) ?_; conv => whnf) | (refine draw_rule (.light 0 <| .light 1 <| .light 2 <| .light 3 <| .light 4 <| .light 5 <| .alt 6 false (.alt 7 false (.alt 8 true (.done) .nil) .nil) (.alt 7 false (.alt 6 false (.alt 8 true (.done) .nil) .nil) .nil)) (by decide +kernel) ?_; conv => whnf) | (refine draw_rule (.light 0 <| .light 1 <| .light 2 <| .light 3 <| .light 4 <| .light 5 <| .light 6 <| .light 7 <| .light 8 <| .light 9 <| .light 10 <| .light 11 <| .light 12 <| .light 13 <| .light 14 <| .light 15 <| .light 16 <| .alt 17 false (.light 18 <| .light 19 <| .light 20 <| .done) .nil) (by decide +kernel) ?_; conv => whnf) | (refine draw_rule (.light 0 <| .light 1 <| .light 2 <| .light 3 <| .light 6 <| .light 7 <| .alt 4 false (.light 5 <| .alt 8 false (.light 9 <| .light 10 <| .light 11 <| .done) .nil) .nil) (by decide +kernel) ?_; conv => whnf) | (with_reducible refine @And.intro (guardVC _ _ _ _ _) _ ?_ ?_) <;> conv => whnf | (refine caseB_intro (fun h => ?_) (fun h => ?_) <;> (try simp only [Bool.not_eq_true', Bool.not_eq_false', decide_eq_true_eq, decide_eq_false_iff_not] at h) <;> conv => whnf))
    refine ACall.step hdr fun r M6 hh => ?_
    obtain ⟨s6, rfl, e6, N6⟩ := hh
    (first | (refine ⟨⟨[], rfl⟩, _, N6.le, PH.Le.refl _, ?_⟩; conv => whnf) | (refine ⟨⟨_, rfl⟩, _, N6.le, PH.Le.refl _, ?_⟩; conv => whnf) | conv => whnf)
    have pe6 := peekEntry_impl s6.sta e.c.key M6 N6.d.inn (by rw [s6.sta_c, e6]; omega)
    rw [s6.sta_val, s6.sta_c, e6, s4] at pe6
    refine ACall.step pe6 fun r M7 hh => ?_
    obtain ⟨y7, rfl, _, N7⟩ := hh
    (first | (refine ⟨⟨[], rfl⟩, _, N7.le, PH.Le.refl _, ?_⟩; conv => whnf) | (refine ⟨⟨_, rfl⟩, _, N7.le, PH.Le.refl _, ?_⟩; conv => whnf) | conv => whnf)
    exact ⟨_, PH.Le.refl _, rfl, (((L3.trans l4).trans l5).trans N6.le).trans N7.le⟩
end Go.Proofs.YtgjaiabenjafeaaGreatDoor
