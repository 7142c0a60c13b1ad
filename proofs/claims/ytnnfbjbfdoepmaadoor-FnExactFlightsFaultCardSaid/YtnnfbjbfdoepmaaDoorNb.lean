/-
  CONTRACTS: requests and flights, copied, compared, measured.
-/
import Derived.Test.YtnnfbjbfdoepmaaDoorNa
namespace Go.Proofs.YtnnfbjbfdoepmaaDoor
set_option maxRecDepth 100000
set_option linter.unusedSimpArgs false
set_option linter.unusedVariables false
open Go.Xe
structure Rq where
  m : ByteArray
  h : ByteArray
  p : ByteArray
  hs : List Hd
def Rq.cost (r : Rq) : Nat := r.m.size + r.h.size + r.p.size + costL Hd.cost r.hs
def Rq.okl (r : Rq) : Prop := r.m.size ≤ maxLen ∧ r.h.size ≤ maxLen ∧ r.p.size ≤ maxLen ∧ r.hs.length ≤ maxLen ∧ ∀ x ∈ r.hs, x.okl
theorem Rq.hn {r : Rq} (h : r.cost ≤ 1048576) : r.hs.length ≤ 1048576 := by
  have := costL_len Hd.cost r.hs
  unfold Rq.cost at h; omega
abbrev rqV (r : Rq) (A : Option Addr) (c : Nat) : Value := .agg #[Tx r.m, Tx r.h, Tx r.p, .slice A r.hs.length c]
theorem toRequest_ret (r : Rq) (A : Option Addr) (c : Nat) (M : PH) (hs : Sl M A 2 Hd.cs r.hs) (hn : r.hs.length ≤ 1048576) :
    ACall env 20 [rqV r A c] M fun v M' => ∃ g, M g = none ∧ v = rqV r (some ⟨g, 0, none⟩) r.hs.length ∧ M.Le M' ∧ Sl M' (some ⟨g, 0, none⟩) 2 Hd.cs r.hs := by
  refine xcall_of_vc Tryd.func20 rfl _ Tryd.ntmps20 _ rfl (fun _ _ => Tryd.call20 _ _) rfl (fun w0 ρ0 => ?_)
  conv => whnf
  refine ACall.step (toHeaderS_new A c r.hs M hs hn) fun v M' hh => ?_
  obtain ⟨g, hg, rfl, hl, hS⟩ := hh
  conv => whnf
  exact ⟨_, PH.Le.refl _, g, hg, rfl, hl, hS⟩
theorem eqRequest_ret (r : Rq) (A A' : Option Addr) (c c' : Nat) (M : PH) (hs : Sl M A 2 Hd.cs r.hs) (hs' : Sl M A' 2 Hd.cs r.hs) (hn : r.hs.length ≤ 1048576) :
    Ret 29 [rqV r A c, rqV r A' c'] M (B true) := by
  refine xcall_of_vc Tryd.func29 rfl _ Tryd.ntmps29 _ rfl (fun _ _ => Tryd.call29 _ _) rfl (fun w0 ρ0 => ?_)
  conv => whnf
  repeat' (first | (refine ⟨⟨[], rfl⟩, _, PH.Le.refl _, PH.Le.refl _, ?_⟩; conv => whnf) | (refine caseB_true ?_; conv => whnf) | (refine caseB_false ?_; conv => whnf) | ((with_reducible refine caseB_dec (fun h => ?_) (fun h => ?_)) <;> conv => whnf) | ((with_reducible refine caseB_ndec (fun h => ?_) (fun h => ?_)) <;> conv => whnf) | ((with_reducible refine caseB_not (fun h => ?_) (fun h => ?_)) <;> conv => whnf) | (refine Ret.go (eqHeaderS_ret A A' c c' r.hs _ hs hs' hn) ?_; conv => whnf) | (with_reducible refine @And.intro (guardVC _ _ _ _ _) _ ?_ ?_) <;> conv => whnf | (refine caseB_intro (fun h => ?_) (fun h => ?_) <;> (try simp only [Bool.not_eq_true', Bool.not_eq_false', decide_eq_true_eq, decide_eq_false_iff_not] at h) <;> conv => whnf))
  all_goals first | (exfalso; simp [seq_self] at h; done) | exact ⟨_, PH.Le.refl _, rfl, rfl⟩
theorem szRequest_ret (r : Rq) (A : Option Addr) (c : Nat) (n : Int) (M : PH) (hs : Sl M A 2 Hd.cs r.hs) (ho : r.okl) (h0 : 0 ≤ n) (h1 : n ≤ 1048576) :
    ACall env 15 [rqV r A c, I n] M fun v M' => ∃ m, v = I m ∧ M' = M ∧ (0 ≤ m → m = n - r.cost) := by
  have e63 : maxLen = 9223372036854775807 := rfl
  obtain ⟨o1, o2, o3, o4, o5⟩ := ho
  have e1 : IntKind.i64.wrap (n - r.m.size) = n - r.m.size := wrap_id (by omega) (by omega)
  have e2 : 0 ≤ n - r.m.size → IntKind.i64.wrap (IntKind.i64.wrap (n - r.m.size) - r.h.size) = n - r.m.size - r.h.size := fun h => by rw [e1]; exact wrap_id (by omega) (by omega)
  have e3 : 0 ≤ n - r.m.size → 0 ≤ n - r.m.size - r.h.size → IntKind.i64.wrap (IntKind.i64.wrap (IntKind.i64.wrap (n - r.m.size) - r.h.size) - r.p.size) = n - r.m.size - r.h.size - r.p.size := fun h h' => by rw [e2 h]; exact wrap_id (by omega) (by omega)
  unfold Rq.cost
  refine xcall_of_vc Tryd.func15 rfl _ Tryd.ntmps15 _ rfl (fun _ _ => Tryd.call15 _ _) rfl (fun w0 ρ0 => ?_)
  conv => whnf
  repeat' (first | (refine ⟨⟨[], rfl⟩, _, PH.Le.refl _, PH.Le.refl _, ?_⟩; conv => whnf) | (refine ACall.step (szHeaderS_ret A c r.hs _ _ hs o5 o4 (by omega) (by omega)) fun v M2 hh => ?_; obtain ⟨m, rfl, rfl, hm⟩ := hh; conv => whnf) | (refine caseB_true ?_; conv => whnf) | (refine caseB_false ?_; conv => whnf) | ((with_reducible refine caseB_dec (fun h => ?_) (fun h => ?_)) <;> conv => whnf) | ((with_reducible refine caseB_ndec (fun h => ?_) (fun h => ?_)) <;> conv => whnf) | ((with_reducible refine caseB_not (fun h => ?_) (fun h => ?_)) <;> conv => whnf) | (with_reducible refine @And.intro (guardVC _ _ _ _ _) _ ?_ ?_) <;> conv => whnf | (refine caseB_intro (fun h => ?_) (fun h => ?_) <;> (try simp only [Bool.not_eq_true', Bool.not_eq_false', decide_eq_true_eq, decide_eq_false_iff_not] at h) <;> conv => whnf))
  all_goals exact ⟨_, PH.Le.refl _, _, rfl, rfl, by omega⟩
structure Fc where
  id : Int
  key : ByteArray
  back : Bool
  out : Bool
  due : Int
  doomed : Bool
  get : Rq
  ws : List Wr
def Fc.cost (f : Fc) : Nat := f.key.size + f.get.cost + f.ws.length
def Fc.okl (f : Fc) : Prop := f.key.size ≤ maxLen ∧ f.get.okl ∧ f.ws.length ≤ maxLen
structure FlA where
  c : Fc
  hA : Option Addr
  hc : Nat
  wA : Option Addr
  wc : Nat
abbrev FlA.cs (x : FlA) : List Value := [I x.c.id, Tx x.c.key, B x.c.back, B x.c.out, I x.c.due, B x.c.doomed, Tx x.c.get.m, Tx x.c.get.h, Tx x.c.get.p, .slice x.hA x.c.get.hs.length x.hc, .slice x.wA x.c.ws.length x.wc]
abbrev FlA.val (x : FlA) : Value := .agg #[I x.c.id, Tx x.c.key, B x.c.back, B x.c.out, I x.c.due, B x.c.doomed, Tx x.c.get.m, Tx x.c.get.h, Tx x.c.get.p, .slice x.hA x.c.get.hs.length x.hc, .slice x.wA x.c.ws.length x.wc]
theorem FlA.len (x : FlA) : x.cs.length = 11 := rfl
structure FlA.inn (M : PH) (x : FlA) : Prop where
  h : Sl M x.hA 2 Hd.cs x.c.get.hs
  w : Sl M x.wA 4 Wr.cs x.c.ws
/-- There is room for what is there. -/
def FlA.cap (x : FlA) : Prop := x.c.ws.length ≤ x.wc
theorem FlA.inn.mono {M M' : PH} {x : FlA} (h : x.inn M) (l : M.Le M') : x.inn M' := ⟨h.h.mono l, h.w.mono l⟩
theorem Fc.hn {f : Fc} (h : f.cost ≤ 1048576) : f.get.cost ≤ 1048576 ∧ f.get.hs.length ≤ 1048576 ∧ f.ws.length ≤ 1048576 := by
  unfold Fc.cost at h
  exact ⟨by omega, Rq.hn (by omega), by omega⟩
theorem toFlight_ret (x : FlA) (M : PH) (hi : x.inn M) (hco : x.c.cost ≤ 1048576) :
    ACall env 7 [x.val] M fun r M' => ∃ y : FlA, r = y.val ∧ y.c = x.c ∧ M.Le M' ∧ y.inn M' ∧ y.cap := by
  obtain ⟨hq, hn1, hn2⟩ := Fc.hn hco
  refine xcall_of_vc Tryd.func7 rfl _ Tryd.ntmps7 _ rfl (fun _ _ => Tryd.call7 _ _) rfl (fun w0 ρ0 => ?_)
  conv => whnf
  refine ACall.step (toRequest_ret x.c.get x.hA x.hc M hi.h hn1) fun v M1 hh => ?_
  obtain ⟨g, hg, rfl, l1, s1⟩ := hh
  conv => whnf
  refine ACall.step (toWaiterS_new x.wA x.wc x.c.ws M1 (hi.w.mono l1) hn2) fun v M2 hh => ?_
  obtain ⟨g2, hg2, rfl, l2, s2⟩ := hh
  conv => whnf
  exact ⟨_, PH.Le.refl _, ⟨x.c, some ⟨g, 0, none⟩, x.c.get.hs.length, some ⟨g2, 0, none⟩, x.c.ws.length⟩, rfl, rfl, l1.trans l2, ⟨s1.mono l2, s2⟩, Nat.le_refl _⟩
theorem eqFlight_ret (x y : FlA) (M : PH) (hi : x.inn M) (hi' : y.inn M) (e : x.c = y.c) (hco : x.c.cost ≤ 1048576) :
    Ret 9 [x.val, y.val] M (B true) := by
  obtain ⟨hq, hn1, hn2⟩ := Fc.hn hco
  obtain ⟨c, hA, hc, wA, wc⟩ := x
  obtain ⟨c', hA', hc', wA', wc'⟩ := y
  simp only at e hn1 hn2
  subst e
  refine xcall_of_vc Tryd.func9 rfl _ Tryd.ntmps9 _ rfl (fun _ _ => Tryd.call9 _ _) rfl (fun w0 ρ0 => ?_)
  conv => whnf
  repeat' (first | (refine ⟨⟨[], rfl⟩, _, PH.Le.refl _, PH.Le.refl _, ?_⟩; conv => whnf) | (refine caseB_true ?_; conv => whnf) | (refine caseB_false ?_; conv => whnf) | ((with_reducible refine caseB_dec (fun h => ?_) (fun h => ?_)) <;> conv => whnf) | ((with_reducible refine caseB_ndec (fun h => ?_) (fun h => ?_)) <;> conv => whnf) | ((with_reducible refine caseB_not (fun h => ?_) (fun h => ?_)) <;> conv => whnf) | (refine Ret.go (eqRequest_ret c.get hA hA' hc hc' _ hi.h hi'.h hn1) ?_; conv => whnf) | (refine Ret.go (eqWaiterS_ret wA wA' wc wc' c.ws _ hi.w hi'.w hn2) ?_; conv => whnf) | (with_reducible refine @And.intro (guardVC _ _ _ _ _) _ ?_ ?_) <;> conv => whnf | (refine caseB_intro (fun h => ?_) (fun h => ?_) <;> (try simp only [Bool.not_eq_true', Bool.not_eq_false', decide_eq_true_eq, decide_eq_false_iff_not] at h) <;> conv => whnf))
  all_goals first | (exfalso; exact h rfl; done) | (exfalso; simp [seq_self] at h; done) | exact ⟨_, PH.Le.refl _, rfl, rfl⟩
theorem szFlight_ret (x : FlA) (n : Int) (M : PH) (h : x.inn M ∧ x.c.okl) (h0 : 0 ≤ n) (h1 : n ≤ 1048576) :
    ACall env 5 [x.val, I n] M fun v M' => ∃ m, v = I m ∧ M' = M ∧ (0 ≤ m → m = n - x.c.cost) := by
  have e63 : maxLen = 9223372036854775807 := rfl
  obtain ⟨hi, o1, o2, o3⟩ := h
  have e1 : IntKind.i64.wrap (n - x.c.key.size) = n - x.c.key.size := wrap_id (by omega) (by omega)
  unfold Fc.cost
  refine xcall_of_vc Tryd.func5 rfl _ Tryd.ntmps5 _ rfl (fun _ _ => Tryd.call5 _ _) rfl (fun w0 ρ0 => ?_)
  conv => whnf
  repeat' (first | (refine ⟨⟨[], rfl⟩, _, PH.Le.refl _, PH.Le.refl _, ?_⟩; conv => whnf) | (refine ACall.step (szWaiterS_ret x.wA x.wc x.c.ws _ _ o3 (by omega) (by omega)) fun v M2 hh => ?_; obtain ⟨m2, rfl, rfl, hm2⟩ := hh; conv => whnf) | (refine ACall.step (szRequest_ret x.c.get x.hA x.hc _ _ hi.h o2 (by omega) (by omega)) fun v M2 hh => ?_; obtain ⟨m, rfl, rfl, hm⟩ := hh; conv => whnf) | (refine caseB_true ?_; conv => whnf) | (refine caseB_false ?_; conv => whnf) | ((with_reducible refine caseB_dec (fun h => ?_) (fun h => ?_)) <;> conv => whnf) | ((with_reducible refine caseB_ndec (fun h => ?_) (fun h => ?_)) <;> conv => whnf) | ((with_reducible refine caseB_not (fun h => ?_) (fun h => ?_)) <;> conv => whnf) | (with_reducible refine @And.intro (guardVC _ _ _ _ _) _ ?_ ?_) <;> conv => whnf | (refine caseB_intro (fun h => ?_) (fun h => ?_) <;> (try simp only [Bool.not_eq_true', Bool.not_eq_false', decide_eq_true_eq, decide_eq_false_iff_not] at h) <;> conv => whnf))
  all_goals exact ⟨_, PH.Le.refl _, _, rfl, rfl, by omega⟩
abbrev F0 : List Value := [I 0, Tx ByteArray.empty, B false, B false, I 0, B false, Tx ByteArray.empty, Tx ByteArray.empty, Tx ByteArray.empty, .slice none 0 0, .slice none 0 0]
theorem toFlightS_ret (A : Option Addr) (c : Nat) (ws : List FlA) (M : PH) (hs : Sl M A 11 FlA.cs ws) (hi : ∀ x ∈ ws, x.inn M ∧ x.c.cost ≤ 1048576) (hn : ws.length ≤ 1048576) :
    ACall env 12 [.slice A ws.length c] M fun r M' => ∃ (g : Nat) (us : List FlA), M g = none ∧ r = .slice (some ⟨g, 0, none⟩) us.length us.length ∧ M.Le M' ∧ Sl M' (some ⟨g, 0, none⟩) 11 FlA.cs us ∧ (∀ x ∈ us, x.inn M' ∧ x.cap) ∧ us.map (·.c) = ws.map (·.c) := by
  refine xcall_of_vc Tryd.func12 rfl _ Tryd.ntmps12 _ rfl (fun _ _ => Tryd.call12 _ _) rfl (fun w0 ρ0 => ?_)
  conv => whnf
  refine ⟨rfl, by omega, ?_, by omega, fun g hg => ?_⟩
  · show (144 : Int) * _ ≤ _
    omega
  conv => whnf
  refine loop_rule (fun z : Nat × List FlA => ⟨slots 23 [(0, .v (.slice A ws.length c)), (2, .v (.slice none 0 0)), (3, .v (.slice (some ⟨g, 0, none⟩) ws.length ws.length)), (4, .v (I z.1))], []⟩)
    (fun z M' => z.1 ≤ ws.length ∧ z.2.map (·.c) = (ws.take z.1).map (·.c) ∧ M' g = some (.cells (rowsL FlA.cs F0 z.2 ws.length).toArray 35 (0, 0)) ∧ M.Le (rm M' g) ∧ ∀ x ∈ z.2, x.inn (rm M' g) ∧ x.cap) (fun z => ws.length - z.1) (0, []) ?_ ?_ ?_
  · exact ⟨by simp [slots, leT], ⟨[], rfl⟩, Nat.zero_le _, rfl, rfl⟩
  · refine ⟨Nat.zero_le _, rfl, ?_, rm_up (PH.Le.set _ hg) hg, by simp⟩
    rw [PH.set_same]
    show some (Obj.cells (madeCells (F0 : List Value).toArray (Int.toNat ws.length * 11)) 35 (0, 0)) = _
    rw [Int.toNat_natCast]
    exact congrArg (fun x => some (Obj.cells x 35 (0, 0))) (made_rows' FlA.cs (F0 : List Value).toArray ws.length)
  rintro ⟨i, us⟩ M1 ⟨hi1, hc1, hg1, l1, n1⟩
  have hi1 : i ≤ ws.length := hi1
  have hc1 : us.map (·.c) = (ws.take i).map (·.c) := hc1
  have hg1 : M1 g = some (.cells (rowsL FlA.cs F0 us ws.length).toArray 35 (0, 0)) := hg1
  have n1 : ∀ x ∈ us, x.inn (rm M1 g) ∧ x.cap := n1
  have hul : us.length = i := by have := congrArg List.length hc1; simpa [Nat.min_eq_left hi1] using this
  conv => whnf
  refine caseB_dec (fun h0 => ?_) (fun h0 => ?_)
  · have h0 : (i : Int) < ws.length := h0
    conv => whnf
    have hi' : i < ws.length := by omega
    have hw : IntKind.i64.wrap ((i : Int) + 1) = (i : Int) + 1 := wr_id (by omega) (by omega)
    obtain ⟨hA, _, hc⟩ := hs.get hi'
    obtain ⟨hin, hco⟩ := hi ws[i] (List.getElem_mem hi')
    refine ⟨by omega, by omega, hA, ?_⟩
    conv => whnf
    refine ⟨ws[i].cs, (l1.trans (rm_le M1 g)).cells hc, rfl, ?_⟩
    conv => whnf
    refine ACall.step (ACall.beside (toFlight_ret ws[i] (rm M1 g) (hin.mono l1) hco) hg1) fun r M5 hh => ?_
    obtain ⟨M2, ⟨y, rfl, hyc, l2, hy, hyp⟩, l3, hg5⟩ := hh
    conv => whnf
    refine ⟨by omega, by omega, rfl, ?_⟩
    conv => whnf
    refine ⟨g, 0, rowsL FlA.cs F0 us ws.length, 35, (0, 0), rfl, hg5, ⟨?_, .inl (Nat.zero_le _)⟩, ?_⟩
    · show 0 + i * 11 + 11 ≤ _
      rw [rowsL_length FlA.len rfl _ _ (by omega)]
      omega
    conv => whnf
    have e : spl (rowsL FlA.cs F0 us ws.length) (0 + i * 11) y.cs = rowsL FlA.cs F0 (us ++ [y]) ws.length := by
      rw [Nat.zero_add, ← hul]
      exact rowsL_step FlA.len rfl us y ws.length (by omega)
    refine ⟨(i + 1, us ++ [y]), ⟨by simp [slots, leT, hw], ⟨[], rfl⟩, Nat.zero_le _, rfl, rfl⟩, ⟨hi', ?_, ?_, ?_, ?_⟩, by show _ - (i + 1) < _ - i; omega⟩
    · show (us ++ [y]).map (·.c) = (ws.take (i + 1)).map (·.c)
      rw [List.take_succ_eq_append_getElem hi', List.map_append, List.map_append, hc1, List.map_cons, List.map_nil, hyc]; rfl
    · rw [PH.set_same]
      exact congrArg (fun x : List Value => some (Obj.cells x.toArray 35 (0, 0))) e
    · rw [rm_sets]
      exact (l1.trans l2).trans l3
    · rw [rm_sets]
      intro x hx
      rcases List.mem_append.1 hx with hx | hx
      · exact ⟨((n1 x hx).1.mono l2).mono l3, (n1 x hx).2⟩
      · simp at hx; subst hx; exact ⟨hy.mono l3, hyp⟩
  · have h0 : ¬ (i : Int) < ws.length := h0
    have hi' : i = ws.length := by omega
    subst hi'
    rw [List.take_length] at hc1
    conv => whnf
    refine ⟨_, PH.Le.refl _, g, us, hg, by rw [hul]; rfl, l1.trans (rm_le M1 g), sl_at FlA.len (ty := 35) (fz := (0, 0)) ?_, fun x hx => ⟨(n1 x hx).1.mono (rm_le M1 g), (n1 x hx).2⟩, hc1⟩
    rw [hg1, ← hul, rowsL_full]
theorem eqFlightS_ret (A A' : Option Addr) (c c' : Nat) (ws us : List FlA) (M : PH) (hs : Sl M A 11 FlA.cs ws) (hs' : Sl M A' 11 FlA.cs us) (hi : ∀ x ∈ ws, x.inn M ∧ x.c.cost ≤ 1048576) (hi' : ∀ x ∈ us, x.inn M) (hc : us.map (·.c) = ws.map (·.c)) (hn : ws.length ≤ 1048576) :
    Ret 14 [.slice A ws.length c, .slice A' us.length c'] M (B true) := by
  have hl : us.length = ws.length := by simpa using congrArg List.length hc
  rw [hl]
  refine xcall_of_vc Tryd.func14 rfl _ Tryd.ntmps14 _ rfl (fun _ _ => Tryd.call14 _ _) rfl (fun w0 ρ0 => ?_)
  conv => whnf
  repeat' (first | (refine ⟨⟨[], rfl⟩, _, PH.Le.refl _, PH.Le.refl _, ?_⟩; conv => whnf) | (refine caseB_true ?_; conv => whnf) | (refine caseB_false ?_; conv => whnf) | ((with_reducible refine caseB_dec (fun h => ?_) (fun h => ?_)) <;> conv => whnf) | ((with_reducible refine caseB_ndec (fun h => ?_) (fun h => ?_)) <;> conv => whnf) | ((with_reducible refine caseB_not (fun h => ?_) (fun h => ?_)) <;> conv => whnf) | (with_reducible refine @And.intro (guardVC _ _ _ _ _) _ ?_ ?_) <;> conv => whnf | (refine caseB_intro (fun h => ?_) (fun h => ?_) <;> (try simp only [Bool.not_eq_true', Bool.not_eq_false', decide_eq_true_eq, decide_eq_false_iff_not] at h) <;> conv => whnf))
  · exact absurd rfl ‹_›
  refine loop_rule (fun i : Nat => ⟨slots 27 [(0, .v (.slice A ws.length c)), (1, .v (.slice A' ws.length c')), (4, .v (B false)), (5, .v (I i))], []⟩) (fun i M' => i ≤ ws.length ∧ M' = M) (fun i => ws.length - i) 0 ?_ ?_ ?_
  · exact ⟨by simp [slots, leT], ⟨[], rfl⟩, Nat.zero_le _, rfl, rfl⟩
  · exact ⟨Nat.zero_le _, rfl⟩
  rintro i M' ⟨hi1, rfl⟩
  conv => whnf
  refine caseB_dec (fun h0 => ?_) (fun h0 => ?_)
  · conv => whnf
    have h1 : i < ws.length := by omega
    have h2 : i < us.length := by omega
    have hw : IntKind.i64.wrap ((i : Int) + 1) = (i : Int) + 1 := wr_id (by omega) (by omega)
    obtain ⟨hA, _, hcc⟩ := hs.get h1
    obtain ⟨hA', _, hcc'⟩ := hs'.get h2
    have e : us[i].c = ws[i].c := by
      have := congrArg (fun l : List Fc => l[i]?) hc
      simpa [h1, h2] using this
    obtain ⟨hin, hco⟩ := hi ws[i] (List.getElem_mem h1)
    repeat' (first | (refine ⟨⟨[], rfl⟩, _, PH.Le.refl _, PH.Le.refl _, ?_⟩; conv => whnf) | (refine ⟨us[i].cs, hcc', rfl, ?_⟩; conv => whnf) | (refine ⟨ws[i].cs, hcc, rfl, ?_⟩; conv => whnf) | (refine ⟨by omega, by omega, hA', ?_⟩; conv => whnf) | (refine ⟨by omega, by omega, hA, ?_⟩; conv => whnf) | (refine caseB_true ?_; conv => whnf) | (refine caseB_false ?_; conv => whnf) | ((with_reducible refine caseB_dec (fun h => ?_) (fun h => ?_)) <;> conv => whnf) | ((with_reducible refine caseB_ndec (fun h => ?_) (fun h => ?_)) <;> conv => whnf) | ((with_reducible refine caseB_not (fun h => ?_) (fun h => ?_)) <;> conv => whnf) | (refine draw_rule (.light 0 <| .light 1 <| .light 2 <| .light 3 <| .light 4 <| .light 5 <| .light 6 <| .light 7 <| .alt 8 false (.light 9 <| .done) .nil) (by decide +kernel) ?_; conv => whnf) | (refine Ret.go (eqFlight_ret ws[i] us[i] _ hin (hi' us[i] (List.getElem_mem h2)) e.symm hco) ?_; conv => whnf) | (with_reducible refine @And.intro (guardVC _ _ _ _ _) _ ?_ ?_) <;> conv => whnf | (refine caseB_intro (fun h => ?_) (fun h => ?_) <;> (try simp only [Bool.not_eq_true', Bool.not_eq_false', decide_eq_true_eq, decide_eq_false_iff_not] at h) <;> conv => whnf))
    exact ⟨i + 1, ⟨by simp [slots, leT, hw], ⟨[], rfl⟩, Nat.zero_le _, rfl, rfl⟩, ⟨by omega, rfl⟩, by omega⟩
  · conv => whnf
    exact ⟨_, PH.Le.refl _, rfl, rfl⟩

theorem szFlightS_ret (A : Option Addr) (c : Nat) (ws : List FlA) (n : Int) (M : PH) (hs : Sl M A 11 FlA.cs ws) (hi : ∀ x ∈ ws, x.inn M ∧ x.c.okl) (hl : ws.length ≤ maxLen) (h0 : 0 ≤ n) (h1 : n ≤ 1048576) :
    ACall env 10 [.slice A ws.length c, I n] M fun r M' => ∃ m, r = I m ∧ M' = M ∧ (0 ≤ m → m = n - costL (fun x : FlA => x.c.cost) ws) := by
  have e63 : maxLen = 9223372036854775807 := rfl
  have e1 : IntKind.i64.wrap (n - ws.length) = n - ws.length := wrap_id (by omega) (by omega)
  refine xcall_of_vc Tryd.func10 rfl _ Tryd.ntmps10 _ rfl (fun _ _ => Tryd.call10 _ _) rfl (fun w0 ρ0 => ?_)
  conv => whnf
  refine caseB_dec (fun hb => ?_) (fun hb => ?_)
  · conv => whnf
    exact ⟨_, PH.Le.refl _, -1, rfl, rfl, by omega⟩
  conv => whnf
  refine loop_rule (fun i : Nat => ⟨slots 27 [(0, .v (.slice A ws.length c)), (1, .v (I (n - ws.length - (costT (fun x : FlA => x.c.cost) ws i : Nat)))), (4, .v (I 0)), (5, .v (I i))], []⟩)
    (fun i M' => i ≤ ws.length ∧ M' = M ∧ (0 : Int) ≤ n - ws.length - (costT (fun x : FlA => x.c.cost) ws i : Nat)) (fun i => ws.length - i) 0 ?_ ?_ ?_
  · exact ⟨by simp [slots, leT, costT, e1], ⟨[], rfl⟩, Nat.zero_le _, rfl, rfl⟩
  · refine ⟨Nat.zero_le _, rfl, ?_⟩
    simp [costT]; omega
  rintro i M' ⟨hi1, rfl, hp⟩
  conv => whnf
  refine caseB_dec (fun h2 => ?_) (fun h2 => ?_)
  · conv => whnf
    have hi' : i < ws.length := by omega
    have hw : IntKind.i64.wrap ((i : Int) + 1) = (i : Int) + 1 := wr_id (by omega) (by omega)
    obtain ⟨hA, _, hc⟩ := hs.get hi'
    have hx := hi ws[i] (List.getElem_mem hi')
    have ht := costT_step (fun x : FlA => x.c.cost) hi'
    repeat' (first | (refine ⟨⟨[], rfl⟩, _, PH.Le.refl _, PH.Le.refl _, ?_⟩; conv => whnf) | (refine ACall.step (szFlight_ret ws[i] _ _ hx hp (by omega)) fun r M2 hh => ?_; obtain ⟨m, rfl, rfl, hm⟩ := hh; (first | (refine ⟨⟨[], rfl⟩, _, PH.Le.refl _, PH.Le.refl _, ?_⟩; conv => whnf) | conv => whnf)) | (refine ⟨ws[i].cs, hc, rfl, ?_⟩; conv => whnf) | (refine ⟨by omega, by omega, hA, ?_⟩; conv => whnf) | (refine caseB_true ?_; conv => whnf) | (refine caseB_false ?_; conv => whnf) | ((with_reducible refine caseB_dec (fun h => ?_) (fun h => ?_)) <;> conv => whnf) | ((with_reducible refine caseB_ndec (fun h => ?_) (fun h => ?_)) <;> conv => whnf) | ((with_reducible refine caseB_not (fun h => ?_) (fun h => ?_)) <;> conv => whnf) | (with_reducible refine @And.intro (guardVC _ _ _ _ _) _ ?_ ?_) <;> conv => whnf | (refine caseB_intro (fun h => ?_) (fun h => ?_) <;> (try simp only [Bool.not_eq_true', Bool.not_eq_false', decide_eq_true_eq, decide_eq_false_iff_not] at h) <;> conv => whnf))
    · exact ⟨_, PH.Le.refl _, -1, rfl, rfl, by omega⟩
    · have hm := hm (by omega)
      refine ⟨i + 1, ⟨?_, ⟨[], rfl⟩, Nat.zero_le _, rfl, rfl⟩, ⟨by omega, rfl, ?_⟩, by omega⟩
      · have e : n - ws.length - ((costT (fun x : FlA => x.c.cost) ws (i + 1) : Nat) : Int) = m := by rw [ht, hm]; omega
        rw [e]
        simp [slots, leT, hw]
      · rw [ht]; omega
  · conv => whnf
    have hi' : i = ws.length := by omega
    subst hi'
    have := costT_all (fun x : FlA => x.c.cost) ws
    exact ⟨_, PH.Le.refl _, _, rfl, rfl, by omega⟩

theorem costF {ws : List FlA} {n : Nat} (h : costL (fun x : FlA => x.c.cost) ws ≤ n) : ws.length ≤ n ∧ ∀ x ∈ ws, x.c.cost ≤ n := by
  have := costL_len (fun x : FlA => x.c.cost) ws
  exact ⟨by omega, fun x hx => by have := costL_le (f := fun x : FlA => x.c.cost) hx; omega⟩
theorem inns {M M' : PH} {ws : List FlA} (h : ∀ x ∈ ws, x.inn M ∧ x.c.cost ≤ 1048576) (l : M.Le M') : ∀ x ∈ ws, x.inn M' ∧ x.c.cost ≤ 1048576 := fun x hx => ⟨(h x hx).1.mono l, (h x hx).2⟩
theorem costs_of {ws us : List FlA} {M : PH} (h : ∀ x ∈ ws, x.c.cost ≤ 1048576) (hi : ∀ x ∈ us, x.inn M) (hc : us.map (·.c) = ws.map (·.c)) : ∀ x ∈ us, x.inn M ∧ x.c.cost ≤ 1048576 := fun x hx => ⟨hi x hx, by
  have : x.c ∈ us.map (·.c) := List.mem_map.2 ⟨x, hx, rfl⟩
  rw [hc] at this
  obtain ⟨y, hy, e⟩ := List.mem_map.1 this
  rw [← e]; exact h y hy⟩
end Go.Proofs.YtnnfbjbfdoepmaaDoor
