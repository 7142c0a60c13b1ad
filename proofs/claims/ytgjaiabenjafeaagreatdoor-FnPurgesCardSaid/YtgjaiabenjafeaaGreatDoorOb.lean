/-
  CONTRACTS: entries, stores: copied, compared, measured; what is wrong with the times of an entry.
-/
import Derived.Test.YtgjaiabenjafeaaGreatDoorOa
namespace Go.Proofs.YtgjaiabenjafeaaGreatDoor
set_option maxRecDepth 100000
set_option linter.unusedSimpArgs false
set_option linter.unusedVariables false
open Go.Xe
structure Mt where
  at_ : Int
  age : Int
  life : Int
  swr : Int
  sie : Int
  soft : Bool
  noc : Bool
abbrev Mt.v (m : Mt) : Value := .agg #[I m.at_, I m.age, I m.life, I m.swr, I m.sie, B m.soft, B m.noc]
theorem toMeta_ret (m : Mt) (M : PH) : Ret 60 [m.v] M m.v := by
  refine xcall_of_vc Tryz.func60 rfl _ Tryz.ntmps60 _ rfl (fun _ _ => Tryz.call60 _ _) rfl (fun w0 ρ0 => ?_)
  conv => whnf
  all_goals first | (refine ⟨M, PH.Le.refl _, ?_, rfl⟩; simp [resV, *]; done) | (refine ⟨M, PH.Le.refl _, ?_, rfl, rfl⟩; simp [resV, *]; done) | (exfalso; simp_all; done)
theorem eqMeta_ret (m : Mt) (M : PH) : Ret 68 [m.v, m.v] M (B true) := by
  refine xcall_of_vc Tryz.func68 rfl _ Tryz.ntmps68 _ rfl (fun _ _ => Tryz.call68 _ _) rfl (fun w0 ρ0 => ?_)
  conv => whnf
  repeat' (first | (refine ⟨⟨[], rfl⟩, _, PH.Le.refl _, PH.Le.refl _, ?_⟩; conv => whnf) | (refine caseB_true ?_; conv => whnf) | (refine caseB_false ?_; conv => whnf) | ((with_reducible refine caseB_dec (fun h => ?_) (fun h => ?_)) <;> conv => whnf) | ((with_reducible refine caseB_ndec (fun h => ?_) (fun h => ?_)) <;> conv => whnf) | ((with_reducible refine caseB_not (fun h => ?_) (fun h => ?_)) <;> conv => whnf) | (with_reducible refine @And.intro (guardVC _ _ _ _ _) _ ?_ ?_) <;> conv => whnf | (refine caseB_intro (fun h => ?_) (fun h => ?_) <;> (try simp only [Bool.not_eq_true', Bool.not_eq_false', decide_eq_true_eq, decide_eq_false_iff_not] at h) <;> conv => whnf))
  all_goals first | (exfalso; exact h rfl; done) | (exfalso; simp at h; done) | exact ⟨_, PH.Le.refl _, rfl, rfl⟩
def metaOk (m : Mt) : Bool := isT m.at_ && isT m.age && isT m.life && isT m.swr && isT m.sie
def metaFault (m : Mt) : Int := if metaOk m then 0 else 3
theorem metaFault_spec (m : Mt) (M : PH) : Ret 108 [m.v] M (I (metaFault m)) := by
  refine xcall_of_vc Tryz.func108 rfl _ Tryz.ntmps108 _ rfl (fun _ _ => Tryz.call108 _ _) rfl (fun w0 ρ0 => ?_)
  conv => whnf
  repeat' (first | (refine ⟨⟨[], rfl⟩, _, PH.Le.refl _, PH.Le.refl _, ?_⟩; conv => whnf) | (refine caseB_true ?_; conv => whnf) | (refine caseB_false ?_; conv => whnf) | ((with_reducible refine caseB_dec (fun h => ?_) (fun h => ?_)) <;> conv => whnf) | ((with_reducible refine caseB_ndec (fun h => ?_) (fun h => ?_)) <;> conv => whnf) | ((with_reducible refine caseB_not (fun h => ?_) (fun h => ?_)) <;> conv => whnf) | (refine Ret.go (l1Time_ret _ _) ?_; conv => whnf) | (with_reducible refine @And.intro (guardVC _ _ _ _ _) _ ?_ ?_) <;> conv => whnf | (refine caseB_intro (fun h => ?_) (fun h => ?_) <;> (try simp only [Bool.not_eq_true', Bool.not_eq_false', decide_eq_true_eq, decide_eq_false_iff_not] at h) <;> conv => whnf))
  all_goals first | (refine ⟨M, PH.Le.refl _, ?_, rfl⟩; simp [resV, metaFault, metaOk, *]; done) | (refine ⟨M, PH.Le.refl _, ?_, rfl, rfl⟩; simp [resV, metaFault, metaOk, *]; done) | (exfalso; simp_all; done)
theorem metaFault_impl (m : Mt) (M : PH) : Ret 106 [m.v] M (I (metaFault m)) := by
  refine xcall_of_vc Tryz.func106 rfl _ Tryz.ntmps106 _ rfl (fun _ _ => Tryz.call106 _ _) rfl (fun w0 ρ0 => ?_)
  conv => whnf
  refine unroll_rule 6 ?_
  conv => whnf
  repeat' (first | (refine ⟨⟨[], rfl⟩, _, PH.Le.refl _, PH.Le.refl _, ?_⟩; conv => whnf) | (refine ⟨by decide, by decide, _, rfl, ?_⟩; conv => whnf) | (refine caseB_true ?_; conv => whnf) | (refine caseB_false ?_; conv => whnf) | ((with_reducible refine caseB_dec (fun h => ?_) (fun h => ?_)) <;> conv => whnf) | ((with_reducible refine caseB_ndec (fun h => ?_) (fun h => ?_)) <;> conv => whnf) | ((with_reducible refine caseB_not (fun h => ?_) (fun h => ?_)) <;> conv => whnf) | (refine Ret.go (isTime_ret _ _) ?_; conv => whnf) | (with_reducible refine @And.intro (guardVC _ _ _ _ _) _ ?_ ?_) <;> conv => whnf | (refine caseB_intro (fun h => ?_) (fun h => ?_) <;> (try simp only [Bool.not_eq_true', Bool.not_eq_false', decide_eq_true_eq, decide_eq_false_iff_not] at h) <;> conv => whnf))
  all_goals first | (refine ⟨M, PH.Le.refl _, ?_, rfl⟩; simp [resV, metaFault, metaOk, *]; done) | (refine ⟨M, PH.Le.refl _, ?_, rfl, rfl⟩; simp [resV, metaFault, metaOk, *]; done) | (exfalso; simp_all; done)
structure En where
  key : ByteArray
  st : Int
  hs : List Hd
  body : List Int
  mt : Mt
  tags : List ByteArray
  pins : Int
def En.cost (e : En) : Nat := e.key.size + costL Hd.cost e.hs + e.body.length + costL stSz e.tags
def bytesOk (bs : List Int) : Prop := ∀ b ∈ bs, 0 ≤ b ∧ b ≤ 255
def En.okl (e : En) : Prop := e.key.size ≤ maxLen ∧ e.hs.length ≤ maxLen ∧ (∀ x ∈ e.hs, x.okl) ∧ e.body.length ≤ maxLen ∧ e.tags.length ≤ maxLen ∧ (∀ x ∈ e.tags, x.size ≤ maxLen) ∧ bytesOk e.body
structure EnA where
  c : En
  hA : Option Addr
  hc : Nat
  bA : Option Addr
  bc : Nat
  tA : Option Addr
  tc : Nat
abbrev EnA.cs (x : EnA) : List Value := [Tx x.c.key, I x.c.st, .slice x.hA x.c.hs.length x.hc, .slice x.bA x.c.body.length x.bc, I x.c.mt.at_, I x.c.mt.age, I x.c.mt.life, I x.c.mt.swr, I x.c.mt.sie, B x.c.mt.soft, B x.c.mt.noc, .slice x.tA x.c.tags.length x.tc, I x.c.pins]
abbrev EnA.val (x : EnA) : Value := .agg #[Tx x.c.key, I x.c.st, .slice x.hA x.c.hs.length x.hc, .slice x.bA x.c.body.length x.bc, I x.c.mt.at_, I x.c.mt.age, I x.c.mt.life, I x.c.mt.swr, I x.c.mt.sie, B x.c.mt.soft, B x.c.mt.noc, .slice x.tA x.c.tags.length x.tc, I x.c.pins]
theorem EnA.len (x : EnA) : x.cs.length = 13 := rfl
theorem EnA.one (x : EnA) : ∀ v ∈ x.cs, v.oneCell' = true := by intro v hv; simp at hv; rcases hv with rfl | rfl | rfl | rfl | rfl | rfl | rfl | rfl | rfl | rfl | rfl | rfl | rfl <;> rfl
structure EnA.inn (M : PH) (x : EnA) : Prop where
  h : Sl M x.hA 2 Hd.cs x.c.hs
  b : Sl M x.bA 1 byC x.c.body
  t : Sl M x.tA 1 stC x.c.tags
def EnA.cap (x : EnA) : Prop := x.c = x.c
theorem EnA.inn.mono {M M' : PH} {x : EnA} (h : x.inn M) (l : M.Le M') : x.inn M' := ⟨h.h.mono l, h.b.mono l, h.t.mono l⟩
theorem En.hn {e : En} (h : e.cost ≤ 1048576) : e.key.size ≤ 1048576 ∧ costL Hd.cost e.hs ≤ 1048576 ∧ e.hs.length ≤ 1048576 ∧ e.body.length ≤ 1048576 ∧ e.tags.length ≤ 1048576 := by
  unfold En.cost at h
  have := costL_len Hd.cost e.hs
  have := costL_len stSz e.tags
  exact ⟨by omega, by omega, by omega, by omega, by omega⟩
theorem toEntry_ret (x : EnA) (M : PH) (hi : x.inn M) (hco : x.c.cost ≤ 1048576) :
    ACall env 12 [x.val] M fun r M' => ∃ y : EnA, r = y.val ∧ y.c = x.c ∧ M.Le M' ∧ y.inn M' ∧ y.cap := by
  obtain ⟨_, _, hn1, hn2, hn3⟩ := En.hn hco
  refine xcall_of_vc Tryz.func12 rfl _ Tryz.ntmps12 _ rfl (fun _ _ => Tryz.call12 _ _) rfl (fun w0 ρ0 => ?_)
  conv => whnf
  refine ACall.step (toHeaderS_new x.hA x.hc x.c.hs M hi.h hn1) fun v M1 hh => ?_
  obtain ⟨g1, hg1, rfl, l1, s1⟩ := hh
  conv => whnf
  refine ACall.step (toByteS_new x.bA x.bc x.c.body M1 (hi.b.mono l1) hn2) fun v M2 hh => ?_
  obtain ⟨g2, hg2, rfl, l2, s2⟩ := hh
  conv => whnf
  refine Ret.go (toMeta_ret x.c.mt _) ?_
  conv => whnf
  refine ACall.step (toStringS_new x.tA x.tc x.c.tags M2 (hi.t.mono (l1.trans l2)) hn3) fun v M3 hh => ?_
  obtain ⟨g3, hg3, rfl, l3, s3⟩ := hh
  conv => whnf
  exact ⟨_, PH.Le.refl _, ⟨x.c, some ⟨g1, 0, none⟩, x.c.hs.length, some ⟨g2, 0, none⟩, x.c.body.length, some ⟨g3, 0, none⟩, x.c.tags.length⟩, rfl, rfl, (l1.trans l2).trans l3, ⟨(s1.mono l2).mono l3, s2.mono l3, s3⟩, rfl⟩
theorem eqEntry_ret (x y : EnA) (M : PH) (hi : x.inn M) (hi' : y.inn M) (e : x.c = y.c) (hco : x.c.cost ≤ 1048576) :
    Ret 16 [x.val, y.val] M (B true) := by
  obtain ⟨_, _, hn1, hn2, hn3⟩ := En.hn hco
  obtain ⟨c, hA, hc, bA, bc, tA, tc⟩ := x
  obtain ⟨c', hA', hc', bA', bc', tA', tc'⟩ := y
  simp only at e hn1 hn2 hn3
  subst e
  refine xcall_of_vc Tryz.func16 rfl _ Tryz.ntmps16 _ rfl (fun _ _ => Tryz.call16 _ _) rfl (fun w0 ρ0 => ?_)
  conv => whnf
  repeat' (first | (refine ⟨⟨[], rfl⟩, _, PH.Le.refl _, PH.Le.refl _, ?_⟩; conv => whnf) | (refine caseB_true ?_; conv => whnf) | (refine caseB_false ?_; conv => whnf) | ((with_reducible refine caseB_dec (fun h => ?_) (fun h => ?_)) <;> conv => whnf) | ((with_reducible refine caseB_ndec (fun h => ?_) (fun h => ?_)) <;> conv => whnf) | ((with_reducible refine caseB_not (fun h => ?_) (fun h => ?_)) <;> conv => whnf) | (refine Ret.go (eqHeaderS_ret hA hA' hc hc' c.hs _ hi.h hi'.h hn1) ?_; conv => whnf) | (refine Ret.go (eqByteS_ret bA bA' bc bc' c.body _ hi.b hi'.b hn2) ?_; conv => whnf) | (refine Ret.go (eqMeta_ret c.mt _) ?_; conv => whnf) | (refine Ret.go (eqStringS_ret tA tA' tc tc' c.tags _ hi.t hi'.t hn3) ?_; conv => whnf) | (with_reducible refine @And.intro (guardVC _ _ _ _ _) _ ?_ ?_) <;> conv => whnf | (refine caseB_intro (fun h => ?_) (fun h => ?_) <;> (try simp only [Bool.not_eq_true', Bool.not_eq_false', decide_eq_true_eq, decide_eq_false_iff_not] at h) <;> conv => whnf))
  all_goals first | (exfalso; exact h rfl; done) | (exfalso; simp [seq_self] at h; done) | exact ⟨_, PH.Le.refl _, rfl, rfl⟩
theorem szEntry_ret (x : EnA) (n : Int) (M : PH) (h : x.inn M ∧ x.c.okl) (h0 : 0 ≤ n) (h1 : n ≤ 1048576) :
    ACall env 9 [x.val, I n] M fun v M' => ∃ m, v = I m ∧ M' = M ∧ (0 ≤ m → m = n - x.c.cost) := by
  have e63 : maxLen = 9223372036854775807 := rfl
  obtain ⟨hi, o1, o2, o3, o4, o5, o6, o7⟩ := h
  have e1 : IntKind.i64.wrap (n - x.c.key.size) = n - x.c.key.size := wrap_id (by omega) (by omega)
  unfold En.cost
  refine xcall_of_vc Tryz.func9 rfl _ Tryz.ntmps9 _ rfl (fun _ _ => Tryz.call9 _ _) rfl (fun w0 ρ0 => ?_)
  conv => whnf
  repeat' (first | (refine ⟨⟨[], rfl⟩, _, PH.Le.refl _, PH.Le.refl _, ?_⟩; conv => whnf) | (refine ACall.step (szStringS_ret x.tA x.tc x.c.tags _ _ hi.t o6 o5 (by omega) (by omega)) fun v M2 hh => ?_; obtain ⟨m3, rfl, rfl, hm3⟩ := hh; conv => whnf) | (refine ACall.step (szByteS_ret x.bA x.bc x.c.body _ _ o4 (by omega) (by omega)) fun v M2 hh => ?_; obtain ⟨m2, rfl, rfl, hm2⟩ := hh; conv => whnf) | (refine ACall.step (szHeaderS_ret x.hA x.hc x.c.hs _ _ hi.h o3 o2 (by omega) (by omega)) fun v M2 hh => ?_; obtain ⟨m, rfl, rfl, hm⟩ := hh; conv => whnf) | (refine caseB_true ?_; conv => whnf) | (refine caseB_false ?_; conv => whnf) | ((with_reducible refine caseB_dec (fun h => ?_) (fun h => ?_)) <;> conv => whnf) | ((with_reducible refine caseB_ndec (fun h => ?_) (fun h => ?_)) <;> conv => whnf) | ((with_reducible refine caseB_not (fun h => ?_) (fun h => ?_)) <;> conv => whnf) | (with_reducible refine @And.intro (guardVC _ _ _ _ _) _ ?_ ?_) <;> conv => whnf | (refine caseB_intro (fun h => ?_) (fun h => ?_) <;> (try simp only [Bool.not_eq_true', Bool.not_eq_false', decide_eq_true_eq, decide_eq_false_iff_not] at h) <;> conv => whnf))
  all_goals exact ⟨_, PH.Le.refl _, _, rfl, rfl, by omega⟩
abbrev E0 : List Value := [Tx ByteArray.empty, I 0, .slice none 0 0, .slice none 0 0, I 0, I 0, I 0, I 0, I 0, B false, B false, .slice none 0 0, I 0]
theorem toEntryS_ret (A : Option Addr) (c : Nat) (ws : List EnA) (M : PH) (hs : Sl M A 13 EnA.cs ws) (hi : ∀ x ∈ ws, x.inn M ∧ x.c.cost ≤ 1048576) (hn : ws.length ≤ 1048576) :
    ACall env 57 [.slice A ws.length c] M fun r M' => ∃ (g : Nat) (us : List EnA), M g = none ∧ r = .slice (some ⟨g, 0, none⟩) us.length us.length ∧ M.Le M' ∧ Sl M' (some ⟨g, 0, none⟩) 13 EnA.cs us ∧ (∀ x ∈ us, x.inn M' ∧ x.cap) ∧ us.map (·.c) = ws.map (·.c) := by
  refine xcall_of_vc Tryz.func57 rfl _ Tryz.ntmps57 _ rfl (fun _ _ => Tryz.call57 _ _) rfl (fun w0 ρ0 => ?_)
  conv => whnf
  refine ⟨rfl, by omega, ?_, by omega, fun g hg => ?_⟩
  · show (152 : Int) * _ ≤ _
    omega
  conv => whnf
  refine loop_rule (fun z : Nat × List EnA => ⟨slots 23 [(0, .v (.slice A ws.length c)), (2, .v (.slice none 0 0)), (3, .v (.slice (some ⟨g, 0, none⟩) ws.length ws.length)), (4, .v (I z.1))], []⟩)
    (fun z M' => z.1 ≤ ws.length ∧ z.2.map (·.c) = (ws.take z.1).map (·.c) ∧ M' g = some (.cells (rowsL EnA.cs E0 z.2 ws.length).toArray 44 (0, 0)) ∧ M.Le (rm M' g) ∧ ∀ x ∈ z.2, x.inn (rm M' g) ∧ x.cap) (fun z => ws.length - z.1) (0, []) ?_ ?_ ?_
  · exact ⟨by simp [slots, leT], ⟨[], rfl⟩, Nat.zero_le _, rfl, rfl⟩
  · refine ⟨Nat.zero_le _, rfl, ?_, rm_up (PH.Le.set _ hg) hg, by simp⟩
    rw [PH.set_same]
    show some (Obj.cells (madeCells (E0 : List Value).toArray (Int.toNat ws.length * 13)) 44 (0, 0)) = _
    rw [Int.toNat_natCast]
    exact congrArg (fun x => some (Obj.cells x 44 (0, 0))) (made_rows' EnA.cs (E0 : List Value).toArray ws.length)
  rintro ⟨i, us⟩ M1 ⟨hi1, hc1, hg1, l1, n1⟩
  have hi1 : i ≤ ws.length := hi1
  have hc1 : us.map (·.c) = (ws.take i).map (·.c) := hc1
  have hg1 : M1 g = some (.cells (rowsL EnA.cs E0 us ws.length).toArray 44 (0, 0)) := hg1
  have n1 : ∀ x ∈ us, x.inn (rm M1 g) ∧ x.cap := n1
  have hul : us.length = i := by have := congrArg List.length hc1; simpa [Nat.min_eq_left hi1] using this
  conv => whnf
  refine caseB_dec (fun h0 => ?_) (fun h0 => ?_)
  · have h0 : (i : Int) < ws.length := h0
    conv => whnf
    have hi' : i < ws.length := by omega
    have hw : IntKind.i64.wrap ((i : Int) + 1) = (i : Int) + 1 := wr_id (by omega) (by omega)
    obtain ⟨hA, _, hc⟩ := hs.get hi'
    obtain ⟨hin, hco⟩ := hi ws[i] (List.getElem_mem hi')
    refine ⟨by omega, by omega, hA, ?_⟩
    conv => whnf
    refine ⟨ws[i].cs, (l1.trans (rm_le M1 g)).cells hc, rfl, ?_⟩
    conv => whnf
    refine ACall.step (ACall.beside (toEntry_ret ws[i] (rm M1 g) (hin.mono l1) hco) hg1) fun r M5 hh => ?_
    obtain ⟨M2, ⟨y, rfl, hyc, l2, hy, hyp⟩, l3, hg5⟩ := hh
    conv => whnf
    refine ⟨by omega, by omega, rfl, ?_⟩
    conv => whnf
    refine ⟨g, 0, rowsL EnA.cs E0 us ws.length, 44, (0, 0), rfl, hg5, ⟨?_, .inl (Nat.zero_le _)⟩, ?_⟩
    · show 0 + i * 13 + 13 ≤ _
      rw [rowsL_length EnA.len rfl _ _ (by omega)]
      omega
    conv => whnf
    have e : spl (rowsL EnA.cs E0 us ws.length) (0 + i * 13) y.cs = rowsL EnA.cs E0 (us ++ [y]) ws.length := by
      rw [Nat.zero_add, ← hul]
      exact rowsL_step EnA.len rfl us y ws.length (by omega)
    refine ⟨(i + 1, us ++ [y]), ⟨by simp [slots, leT, hw], ⟨[], rfl⟩, Nat.zero_le _, rfl, rfl⟩, ⟨hi', ?_, ?_, ?_, ?_⟩, by show _ - (i + 1) < _ - i; omega⟩
    · show (us ++ [y]).map (·.c) = (ws.take (i + 1)).map (·.c)
      rw [List.take_succ_eq_append_getElem hi', List.map_append, List.map_append, hc1, List.map_cons, List.map_nil, hyc]; rfl
    · rw [PH.set_same]
      exact congrArg (fun x : List Value => some (Obj.cells x.toArray 44 (0, 0))) e
    · rw [rm_sets]
      exact (l1.trans l2).trans l3
    · rw [rm_sets]
      intro x hx
      rcases List.mem_append.1 hx with hx | hx
      · exact ⟨((n1 x hx).1.mono l2).mono l3, (n1 x hx).2⟩
      · simp at hx; subst hx; exact ⟨hy.mono l3, hyp⟩
  · have h0 : ¬ (i : Int) < ws.length := h0
    have hi' : i = ws.length := by omega
    subst hi'
    rw [List.take_length] at hc1
    conv => whnf
    refine ⟨_, PH.Le.refl _, g, us, hg, by rw [hul]; rfl, l1.trans (rm_le M1 g), sl_at EnA.len (ty := 44) (fz := (0, 0)) ?_, fun x hx => ⟨(n1 x hx).1.mono (rm_le M1 g), (n1 x hx).2⟩, hc1⟩
    rw [hg1, ← hul, rowsL_full]
theorem eqEntryS_ret (A A' : Option Addr) (c c' : Nat) (ws us : List EnA) (M : PH) (hs : Sl M A 13 EnA.cs ws) (hs' : Sl M A' 13 EnA.cs us) (hi : ∀ x ∈ ws, x.inn M ∧ x.c.cost ≤ 1048576) (hi' : ∀ x ∈ us, x.inn M) (hc : us.map (·.c) = ws.map (·.c)) (hn : ws.length ≤ 1048576) :
    Ret 65 [.slice A ws.length c, .slice A' us.length c'] M (B true) := by
  have hl : us.length = ws.length := by simpa using congrArg List.length hc
  rw [hl]
  refine xcall_of_vc Tryz.func65 rfl _ Tryz.ntmps65 _ rfl (fun _ _ => Tryz.call65 _ _) rfl (fun w0 ρ0 => ?_)
  conv => whnf
  repeat' (first | (refine ⟨⟨[], rfl⟩, _, PH.Le.refl _, PH.Le.refl _, ?_⟩; conv => whnf) | (refine caseB_true ?_; conv => whnf) | (refine caseB_false ?_; conv => whnf) | ((with_reducible refine caseB_dec (fun h => ?_) (fun h => ?_)) <;> conv => whnf) | ((with_reducible refine caseB_ndec (fun h => ?_) (fun h => ?_)) <;> conv => whnf) | ((with_reducible refine caseB_not (fun h => ?_) (fun h => ?_)) <;> conv => whnf) | (with_reducible refine @And.intro (guardVC _ _ _ _ _) _ ?_ ?_) <;> conv => whnf | (refine caseB_intro (fun h => ?_) (fun h => ?_) <;> (try simp only [Bool.not_eq_true', Bool.not_eq_false', decide_eq_true_eq, decide_eq_false_iff_not] at h) <;> conv => whnf))
  · exact absurd rfl ‹_›
  refine loop_rule (fun i : Nat => ⟨slots 27 [(0, .v (.slice A ws.length c)), (1, .v (.slice A' ws.length c')), (4, .v (B false)), (5, .v (I i))], []⟩) (fun i M' => i ≤ ws.length ∧ M' = M) (fun i => ws.length - i) 0 ?_ ?_ ?_
  · exact ⟨by simp [slots, leT], ⟨[], rfl⟩, Nat.zero_le _, rfl, rfl⟩
  · exact ⟨Nat.zero_le _, rfl⟩
  rintro i M' ⟨hi1, rfl⟩
  conv => whnf
  refine caseB_dec (fun h0 => ?_) (fun h0 => ?_)
  · conv => whnf
    have h1 : i < ws.length := by omega
    have h2 : i < us.length := by omega
    have hw : IntKind.i64.wrap ((i : Int) + 1) = (i : Int) + 1 := wr_id (by omega) (by omega)
    obtain ⟨hA, _, hcc⟩ := hs.get h1
    obtain ⟨hA', _, hcc'⟩ := hs'.get h2
    have e : us[i].c = ws[i].c := by
      have := congrArg (fun l : List En => l[i]?) hc
      simpa [h1, h2] using this
    obtain ⟨hin, hco⟩ := hi ws[i] (List.getElem_mem h1)
    repeat' (first | (refine ⟨⟨[], rfl⟩, _, PH.Le.refl _, PH.Le.refl _, ?_⟩; conv => whnf) | (refine ⟨us[i].cs, hcc', rfl, ?_⟩; conv => whnf) | (refine ⟨ws[i].cs, hcc, rfl, ?_⟩; conv => whnf) | (refine ⟨by omega, by omega, hA', ?_⟩; conv => whnf) | (refine ⟨by omega, by omega, hA, ?_⟩; conv => whnf) | (refine caseB_true ?_; conv => whnf) | (refine caseB_false ?_; conv => whnf) | ((with_reducible refine caseB_dec (fun h => ?_) (fun h => ?_)) <;> conv => whnf) | ((with_reducible refine caseB_ndec (fun h => ?_) (fun h => ?_)) <;> conv => whnf) | ((with_reducible refine caseB_not (fun h => ?_) (fun h => ?_)) <;> conv => whnf) | (refine draw_rule (.light 0 <| .light 1 <| .light 2 <| .light 3 <| .light 4 <| .light 5 <| .light 6 <| .light 7 <| .alt 8 false (.light 9 <| .done) .nil) (by decide +kernel) ?_; conv => whnf) | (refine Ret.go (eqEntry_ret ws[i] us[i] _ hin (hi' us[i] (List.getElem_mem h2)) e.symm hco) ?_; conv => whnf) | (with_reducible refine @And.intro (guardVC _ _ _ _ _) _ ?_ ?_) <;> conv => whnf | (refine caseB_intro (fun h => ?_) (fun h => ?_) <;> (try simp only [Bool.not_eq_true', Bool.not_eq_false', decide_eq_true_eq, decide_eq_false_iff_not] at h) <;> conv => whnf))
    exact ⟨i + 1, ⟨by simp [slots, leT, hw], ⟨[], rfl⟩, Nat.zero_le _, rfl, rfl⟩, ⟨by omega, rfl⟩, by omega⟩
  · conv => whnf
    exact ⟨_, PH.Le.refl _, rfl, rfl⟩

theorem szEntryS_ret (A : Option Addr) (c : Nat) (ws : List EnA) (n : Int) (M : PH) (hs : Sl M A 13 EnA.cs ws) (hi : ∀ x ∈ ws, x.inn M ∧ x.c.okl) (hl : ws.length ≤ maxLen) (h0 : 0 ≤ n) (h1 : n ≤ 1048576) :
    ACall env 51 [.slice A ws.length c, I n] M fun r M' => ∃ m, r = I m ∧ M' = M ∧ (0 ≤ m → m = n - costL (fun x : EnA => x.c.cost) ws) := by
  have e63 : maxLen = 9223372036854775807 := rfl
  have e1 : IntKind.i64.wrap (n - ws.length) = n - ws.length := wrap_id (by omega) (by omega)
  refine xcall_of_vc Tryz.func51 rfl _ Tryz.ntmps51 _ rfl (fun _ _ => Tryz.call51 _ _) rfl (fun w0 ρ0 => ?_)
  conv => whnf
  refine caseB_dec (fun hb => ?_) (fun hb => ?_)
  · conv => whnf
    exact ⟨_, PH.Le.refl _, -1, rfl, rfl, by omega⟩
  conv => whnf
  refine loop_rule (fun i : Nat => ⟨slots 27 [(0, .v (.slice A ws.length c)), (1, .v (I (n - ws.length - (costT (fun x : EnA => x.c.cost) ws i : Nat)))), (4, .v (I 0)), (5, .v (I i))], []⟩)
    (fun i M' => i ≤ ws.length ∧ M' = M ∧ (0 : Int) ≤ n - ws.length - (costT (fun x : EnA => x.c.cost) ws i : Nat)) (fun i => ws.length - i) 0 ?_ ?_ ?_
  · exact ⟨by simp [slots, leT, costT, e1], ⟨[], rfl⟩, Nat.zero_le _, rfl, rfl⟩
  · refine ⟨Nat.zero_le _, rfl, ?_⟩
    simp [costT]; omega
  rintro i M' ⟨hi1, rfl, hp⟩
  conv => whnf
  refine caseB_dec (fun h2 => ?_) (fun h2 => ?_)
  · conv => whnf
    have hi' : i < ws.length := by omega
    have hw : IntKind.i64.wrap ((i : Int) + 1) = (i : Int) + 1 := wr_id (by omega) (by omega)
    obtain ⟨hA, _, hc⟩ := hs.get hi'
    have hx := hi ws[i] (List.getElem_mem hi')
    have ht := costT_step (fun x : EnA => x.c.cost) hi'
    repeat' (first | (refine ⟨⟨[], rfl⟩, _, PH.Le.refl _, PH.Le.refl _, ?_⟩; conv => whnf) | (refine ACall.step (szEntry_ret ws[i] _ _ hx hp (by omega)) fun r M2 hh => ?_; obtain ⟨m, rfl, rfl, hm⟩ := hh; (first | (refine ⟨⟨[], rfl⟩, _, PH.Le.refl _, PH.Le.refl _, ?_⟩; conv => whnf) | conv => whnf)) | (refine ⟨ws[i].cs, hc, rfl, ?_⟩; conv => whnf) | (refine ⟨by omega, by omega, hA, ?_⟩; conv => whnf) | (refine caseB_true ?_; conv => whnf) | (refine caseB_false ?_; conv => whnf) | ((with_reducible refine caseB_dec (fun h => ?_) (fun h => ?_)) <;> conv => whnf) | ((with_reducible refine caseB_ndec (fun h => ?_) (fun h => ?_)) <;> conv => whnf) | ((with_reducible refine caseB_not (fun h => ?_) (fun h => ?_)) <;> conv => whnf) | (with_reducible refine @And.intro (guardVC _ _ _ _ _) _ ?_ ?_) <;> conv => whnf | (refine caseB_intro (fun h => ?_) (fun h => ?_) <;> (try simp only [Bool.not_eq_true', Bool.not_eq_false', decide_eq_true_eq, decide_eq_false_iff_not] at h) <;> conv => whnf))
    · exact ⟨_, PH.Le.refl _, -1, rfl, rfl, by omega⟩
    · have hm := hm (by omega)
      refine ⟨i + 1, ⟨?_, ⟨[], rfl⟩, Nat.zero_le _, rfl, rfl⟩, ⟨by omega, rfl, ?_⟩, by omega⟩
      · have e : n - ws.length - ((costT (fun x : EnA => x.c.cost) ws (i + 1) : Nat) : Int) = m := by rw [ht, hm]; omega
        rw [e]
        simp [slots, leT, hw]
      · rw [ht]; omega
  · conv => whnf
    have hi' : i = ws.length := by omega
    subst hi'
    have := costT_all (fun x : EnA => x.c.cost) ws
    exact ⟨_, PH.Le.refl _, _, rfl, rfl, by omega⟩

end Go.Proofs.YtgjaiabenjafeaaGreatDoor
