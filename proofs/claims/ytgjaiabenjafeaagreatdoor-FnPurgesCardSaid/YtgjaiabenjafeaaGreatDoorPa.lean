/-
  CONTRACTS: what is the same: entries, stores.
-/
import Derived.Test.YtgjaiabenjafeaaGreatDoorOc
import Derived.Test.YtgjaiabenjafeaaGreatDoorBf
namespace Go.Proofs.YtgjaiabenjafeaaGreatDoor
set_option maxRecDepth 100000
set_option linter.unusedSimpArgs false
set_option linter.unusedVariables false
open Go.Xe
theorem PH.cells_sub {M : PH} {A : Option Addr} {o : Nat} {cs : List Value} (h : M.cells A o cs) (i n : Nat) : M.cells A (o + i) ((cs.drop i).take n) := by
  obtain ⟨a, ha, hc⟩ := h
  refine ⟨a, ha, fun j x hx => ?_⟩
  rw [List.getElem?_take] at hx
  split at hx
  · rw [List.getElem?_drop] at hx
    rw [Nat.add_assoc]
    exact hc _ _ hx
  · cases hx
/-- A call by addresses of elements that hands back v and does nothing else. -/
theorem bytes_inj : ∀ {a b : List Int}, bytesOk a → bytesOk b → strOfNums a = strOfNums b → a = b := by
  intro a b ha hb e
  have e1 : (a.map fun n => UInt8.ofNat n.toNat) = b.map fun n => UInt8.ofNat n.toNat := by
    have := congrArg (fun s : ByteArray => s.data.toList) e
    simpa [strOfNums_data] using this
  clear e
  induction a generalizing b with
  | nil => cases b with
    | nil => rfl
    | cons y ys => simp at e1
  | cons x xs ih => cases b with
    | nil => simp at e1
    | cons y ys =>
      simp only [List.map_cons, List.cons.injEq] at e1
      obtain ⟨h1, h2⟩ := e1
      have hx := ha x (by simp)
      have hy := hb y (by simp)
      have h3 : x.toNat = y.toNat := by
        have := congrArg UInt8.toNat h1
        rw [UInt8.toNat_ofNat', UInt8.toNat_ofNat'] at this
        omega
      have h4 : x = y := by omega
      rw [h4, ih (fun z hz => ha z (by simp [hz])) (fun z hz => hb z (by simp [hz])) h2]
theorem mt_eq (x y : Mt) : (decide (x.at_ = y.at_) && (decide (x.age = y.age) && (decide (x.life = y.life) && (decide (x.swr = y.swr) && (decide (x.sie = y.sie) && ((x.soft == y.soft) && ((x.noc == y.noc) && true))))))) = true ↔ x = y := by
  cases x; cases y; simp
theorem sl_bytes {M : PH} {A : Option Addr} {ws : List Int} (h : Sl M A 1 byC ws) : ws.length = 0 ∨ M.cells A 0 (ws.map Y) := by
  cases ws with
  | nil => exact .inl rfl
  | cons x xs =>
    have h1 := h.ne (by simp)
    obtain ⟨a, rfl⟩ := Option.isSome_iff_exists.1 h1
    refine .inr ⟨a, rfl, fun j v hv => ?_⟩
    rw [List.getElem?_map] at hv
    cases hj : (x :: xs)[j]? with
    | none => rw [hj] at hv; cases hv
    | some y =>
      rw [hj] at hv
      obtain ⟨b, hb, hc⟩ := (h.at_ j y hj).2
      cases hb
      simp only [Option.map_some, Option.some.injEq] at hv
      subst hv
      have := hc 0 (Y y) rfl
      simpa using this
theorem seq_bytes {ws us : List Int} (ho : bytesOk ws) (ho' : bytesOk us) : seq (strOfNums ws) (strOfNums us) = sameB ws us := by
  by_cases e : ws = us
  · rw [sameB_true e, e, seq_self]
  · rw [sameB_false e]
    cases h : seq (strOfNums ws) (strOfNums us) with
    | false => rfl
    | true => exact absurd (bytes_inj ho ho' (seq_iff.1 h)) e
theorem bytesEqual_ret (A A' : Option Addr) (c c' : Nat) (ws us : List Int) (M : PH) (hs : Sl M A 1 byC ws) (hs' : Sl M A' 1 byC us) (ho : bytesOk ws) (ho' : bytesOk us) :
    Ret 144 [.slice A ws.length c, .slice A' us.length c'] M (B (sameB ws us)) := by
  refine xcall_of_vc Tryz.func144 rfl _ Tryz.ntmps144 _ rfl (fun _ _ => Tryz.call144 _ _) rfl (fun w0 ρ0 => ?_)
  conv => whnf
  refine ⟨ws, ⟨rfl, sl_bytes hs⟩, ?_⟩
  conv => whnf
  refine ⟨us, ⟨rfl, sl_bytes hs'⟩, ?_⟩
  conv => whnf
  refine ⟨_, PH.Le.refl _, ?_, rfl⟩
  rw [← seq_bytes ho ho']
  rfl
theorem equalString_ret (A A' : Option Addr) (c c' : Nat) (ws us : List ByteArray) (M : PH) (hs : Sl M A 1 stC ws) (hs' : Sl M A' 1 stC us) (hn : ws.length ≤ 1048576) :
    Ret 145 [.slice A ws.length c, .slice A' us.length c'] M (B (sameB ws us)) := by
  refine xcall_of_vc Tryz.func145 rfl _ Tryz.ntmps145 _ rfl (fun _ _ => Tryz.call145 _ _) rfl (fun w0 ρ0 => ?_)
  conv => whnf
  repeat' (first | (refine ⟨⟨[], rfl⟩, _, PH.Le.refl _, PH.Le.refl _, ?_⟩; conv => whnf) | (refine caseB_true ?_; conv => whnf) | (refine caseB_false ?_; conv => whnf) | ((with_reducible refine caseB_dec (fun h => ?_) (fun h => ?_)) <;> conv => whnf) | ((with_reducible refine caseB_ndec (fun h => ?_) (fun h => ?_)) <;> conv => whnf) | ((with_reducible refine caseB_not (fun h => ?_) (fun h => ?_)) <;> conv => whnf) | (with_reducible refine @And.intro (guardVC _ _ _ _ _) _ ?_ ?_) <;> conv => whnf | (refine caseB_intro (fun h => ?_) (fun h => ?_) <;> (try simp only [Bool.not_eq_true', Bool.not_eq_false', decide_eq_true_eq, decide_eq_false_iff_not] at h) <;> conv => whnf))
  · refine ⟨_, PH.Le.refl _, ?_, rfl⟩
    rw [sameB_false (fun e => by subst e; simp_all)]
    rfl
  refine loop_rule (fun i : Nat => ⟨slots 26 [(0, .v (.slice A ws.length c)), (1, .v (.slice A' us.length c')), (4, .v (B false)), (12, .v (I ws.length)), (13, .v (I i))], []⟩) (fun i M' => i ≤ ws.length ∧ ws.take i = us.take i ∧ M' = M) (fun i => ws.length - i) 0 ?_ ?_ ?_
  · exact ⟨by simp [slots, leT], ⟨[], rfl⟩, Nat.zero_le _, rfl, rfl⟩
  · exact ⟨Nat.zero_le _, rfl, rfl⟩
  · rintro i M' ⟨hi, ht, rfl⟩
    conv => whnf
    repeat' (first | (refine ⟨⟨[], rfl⟩, _, PH.Le.refl _, PH.Le.refl _, ?_⟩; conv => whnf) | (refine caseB_true ?_; conv => whnf) | (refine caseB_false ?_; conv => whnf) | ((with_reducible refine caseB_dec (fun h => ?_) (fun h => ?_)) <;> conv => whnf) | ((with_reducible refine caseB_ndec (fun h => ?_) (fun h => ?_)) <;> conv => whnf) | ((with_reducible refine caseB_not (fun h => ?_) (fun h => ?_)) <;> conv => whnf) | (with_reducible refine @And.intro (guardVC _ _ _ _ _) _ ?_ ?_) <;> conv => whnf | (refine caseB_intro (fun h => ?_) (fun h => ?_) <;> (try simp only [Bool.not_eq_true', Bool.not_eq_false', decide_eq_true_eq, decide_eq_false_iff_not] at h) <;> conv => whnf))
    · have hi' : i < ws.length := by omega
      have hi2 : i < us.length := by omega
      have hw : IntKind.i64.wrap ((i : Int) + 1) = (i : Int) + 1 := wr_id (by omega) (by omega)
      obtain ⟨hA, _, hc⟩ := hs.get hi'
      obtain ⟨hA', _, hc'⟩ := hs'.get hi2
      repeat' (first | (refine ⟨⟨[], rfl⟩, _, PH.Le.refl _, PH.Le.refl _, ?_⟩; conv => whnf) | (refine ⟨Tx us[i], hc', ?_⟩; conv => whnf) | (refine ⟨Tx ws[i], hc, ?_⟩; conv => whnf) | (refine ⟨by omega, by omega, hA', ?_⟩; conv => whnf) | (refine ⟨by omega, by omega, hA, ?_⟩; conv => whnf) | (refine caseB_true ?_; conv => whnf) | (refine caseB_false ?_; conv => whnf) | ((with_reducible refine caseB_dec (fun h => ?_) (fun h => ?_)) <;> conv => whnf) | ((with_reducible refine caseB_ndec (fun h => ?_) (fun h => ?_)) <;> conv => whnf) | ((with_reducible refine caseB_not (fun h => ?_) (fun h => ?_)) <;> conv => whnf) | (refine draw_rule (.light 0 <| .light 1 <| .light 2 <| .light 3 <| .light 4 <| .light 5 <| .light 6 <| .light 7 <| .light 8 <| .done) (by decide +kernel) ?_; conv => whnf) | (with_reducible refine @And.intro (guardVC _ _ _ _ _) _ ?_ ?_) <;> conv => whnf | (refine caseB_intro (fun h => ?_) (fun h => ?_) <;> (try simp only [Bool.not_eq_true', Bool.not_eq_false', decide_eq_true_eq, decide_eq_false_iff_not] at h) <;> conv => whnf))
      · rename_i h
        refine ⟨_, PH.Le.refl _, ?_, rfl⟩
        rw [sameB_false (fun e => by subst e; simp [seq_self] at h)]
        rfl
      · rename_i h
        exact ⟨i + 1, ⟨by simp [slots, leT, hw], ⟨[], rfl⟩, Nat.zero_le _, rfl, rfl⟩, ⟨by omega, take_step ht hi' hi2 (seq_iff.1 (by simpa using h)), rfl⟩, by omega⟩
    · refine ⟨_, PH.Le.refl _, ?_, rfl⟩
      rw [sameB_true (take_all ht (by omega) (by omega))]
      rfl
theorem l1SameTexts_ret (A A' : Option Addr) (c c' : Nat) (ws us : List ByteArray) (M : PH) (hs : Sl M A 1 stC ws) (hs' : Sl M A' 1 stC us) (hn : ws.length ≤ 1048576) :
    Ret 175 [.slice A ws.length c, .slice A' us.length c'] M (B (sameB ws us)) := by
  refine xcall_of_vc Tryz.func175 rfl _ Tryz.ntmps175 _ rfl (fun _ _ => Tryz.call175 _ _) rfl (fun w0 ρ0 => ?_)
  conv => whnf
  repeat' (first | (refine ⟨⟨[], rfl⟩, _, PH.Le.refl _, PH.Le.refl _, ?_⟩; conv => whnf) | (refine caseB_true ?_; conv => whnf) | (refine caseB_false ?_; conv => whnf) | ((with_reducible refine caseB_dec (fun h => ?_) (fun h => ?_)) <;> conv => whnf) | ((with_reducible refine caseB_ndec (fun h => ?_) (fun h => ?_)) <;> conv => whnf) | ((with_reducible refine caseB_not (fun h => ?_) (fun h => ?_)) <;> conv => whnf) | (with_reducible refine @And.intro (guardVC _ _ _ _ _) _ ?_ ?_) <;> conv => whnf | (refine caseB_intro (fun h => ?_) (fun h => ?_) <;> (try simp only [Bool.not_eq_true', Bool.not_eq_false', decide_eq_true_eq, decide_eq_false_iff_not] at h) <;> conv => whnf))
  · refine ⟨_, PH.Le.refl _, ?_, rfl⟩
    rw [sameB_false (fun e => by subst e; simp_all)]
    rfl
  refine loop_rule (fun i : Nat => ⟨slots 26 [(0, .v (.slice A ws.length c)), (1, .v (.slice A' us.length c')), (4, .v (B false)), (5, .v (I i))], []⟩) (fun i M' => i ≤ ws.length ∧ ws.take i = us.take i ∧ M' = M) (fun i => ws.length - i) 0 ?_ ?_ ?_
  · exact ⟨by simp [slots, leT], ⟨[], rfl⟩, Nat.zero_le _, rfl, rfl⟩
  · exact ⟨Nat.zero_le _, rfl, rfl⟩
  · rintro i M' ⟨hi, ht, rfl⟩
    conv => whnf
    repeat' (first | (refine ⟨⟨[], rfl⟩, _, PH.Le.refl _, PH.Le.refl _, ?_⟩; conv => whnf) | (refine caseB_true ?_; conv => whnf) | (refine caseB_false ?_; conv => whnf) | ((with_reducible refine caseB_dec (fun h => ?_) (fun h => ?_)) <;> conv => whnf) | ((with_reducible refine caseB_ndec (fun h => ?_) (fun h => ?_)) <;> conv => whnf) | ((with_reducible refine caseB_not (fun h => ?_) (fun h => ?_)) <;> conv => whnf) | (with_reducible refine @And.intro (guardVC _ _ _ _ _) _ ?_ ?_) <;> conv => whnf | (refine caseB_intro (fun h => ?_) (fun h => ?_) <;> (try simp only [Bool.not_eq_true', Bool.not_eq_false', decide_eq_true_eq, decide_eq_false_iff_not] at h) <;> conv => whnf))
    · have hi' : i < ws.length := by omega
      have hi2 : i < us.length := by omega
      have hw : IntKind.i64.wrap ((i : Int) + 1) = (i : Int) + 1 := wr_id (by omega) (by omega)
      obtain ⟨hA, _, hc⟩ := hs.get hi'
      obtain ⟨hA', _, hc'⟩ := hs'.get hi2
      repeat' (first | (refine ⟨⟨[], rfl⟩, _, PH.Le.refl _, PH.Le.refl _, ?_⟩; conv => whnf) | (refine ⟨Tx us[i], hc', ?_⟩; conv => whnf) | (refine ⟨Tx ws[i], hc, ?_⟩; conv => whnf) | (refine ⟨by omega, by omega, hA', ?_⟩; conv => whnf) | (refine ⟨by omega, by omega, hA, ?_⟩; conv => whnf) | (refine caseB_true ?_; conv => whnf) | (refine caseB_false ?_; conv => whnf) | ((with_reducible refine caseB_dec (fun h => ?_) (fun h => ?_)) <;> conv => whnf) | ((with_reducible refine caseB_ndec (fun h => ?_) (fun h => ?_)) <;> conv => whnf) | ((with_reducible refine caseB_not (fun h => ?_) (fun h => ?_)) <;> conv => whnf) | (refine draw_rule (.light 0 <| .light 1 <| .light 2 <| .light 3 <| .light 4 <| .light 5 <| .light 6 <| .light 7 <| .light 8 <| .done) (by decide +kernel) ?_; conv => whnf) | (with_reducible refine @And.intro (guardVC _ _ _ _ _) _ ?_ ?_) <;> conv => whnf | (refine caseB_intro (fun h => ?_) (fun h => ?_) <;> (try simp only [Bool.not_eq_true', Bool.not_eq_false', decide_eq_true_eq, decide_eq_false_iff_not] at h) <;> conv => whnf))
      · rename_i h
        refine ⟨_, PH.Le.refl _, ?_, rfl⟩
        rw [sameB_false (fun e => by subst e; simp [seq_self] at h)]
        rfl
      · rename_i h
        exact ⟨i + 1, ⟨by simp [slots, leT, hw], ⟨[], rfl⟩, Nat.zero_le _, rfl, rfl⟩, ⟨by omega, take_step ht hi' hi2 (seq_iff.1 (by simpa using h)), rfl⟩, by omega⟩
    · refine ⟨_, PH.Le.refl _, ?_, rfl⟩
      rw [sameB_true (take_all ht (by omega) (by omega))]
      rfl
theorem sameHeaders_spec (A A' : Option Addr) (c c' : Nat) (ws us : List Hd) (M : PH) (hs : Sl M A 2 Hd.cs ws) (hs' : Sl M A' 2 Hd.cs us) (hn : ws.length ≤ 1048576) :
    Ret 174 [.slice A ws.length c, .slice A' us.length c'] M (B (sameB ws us)) := by
  refine xcall_of_vc Tryz.func174 rfl _ Tryz.ntmps174 _ rfl (fun _ _ => Tryz.call174 _ _) rfl (fun w0 ρ0 => ?_)
  conv => whnf
  repeat' (first | (refine ⟨⟨[], rfl⟩, _, PH.Le.refl _, PH.Le.refl _, ?_⟩; conv => whnf) | (refine caseB_true ?_; conv => whnf) | (refine caseB_false ?_; conv => whnf) | ((with_reducible refine caseB_dec (fun h => ?_) (fun h => ?_)) <;> conv => whnf) | ((with_reducible refine caseB_ndec (fun h => ?_) (fun h => ?_)) <;> conv => whnf) | ((with_reducible refine caseB_not (fun h => ?_) (fun h => ?_)) <;> conv => whnf) | (with_reducible refine @And.intro (guardVC _ _ _ _ _) _ ?_ ?_) <;> conv => whnf | (refine caseB_intro (fun h => ?_) (fun h => ?_) <;> (try simp only [Bool.not_eq_true', Bool.not_eq_false', decide_eq_true_eq, decide_eq_false_iff_not] at h) <;> conv => whnf))
  · refine ⟨_, PH.Le.refl _, ?_, rfl⟩
    rw [sameB_false (fun e => by subst e; simp_all)]
    rfl
  refine loop_rule (fun i : Nat => ⟨slots 26 [(0, .v (.slice A ws.length c)), (1, .v (.slice A' us.length c')), (4, .v (B false)), (5, .v (I i))], []⟩) (fun i M' => i ≤ ws.length ∧ ws.take i = us.take i ∧ M' = M) (fun i => ws.length - i) 0 ?_ ?_ ?_
  · exact ⟨by simp [slots, leT], ⟨[], rfl⟩, Nat.zero_le _, rfl, rfl⟩
  · exact ⟨Nat.zero_le _, rfl, rfl⟩
  · rintro i M' ⟨hi, ht, rfl⟩
    conv => whnf
    repeat' (first | (refine ⟨⟨[], rfl⟩, _, PH.Le.refl _, PH.Le.refl _, ?_⟩; conv => whnf) | (refine caseB_true ?_; conv => whnf) | (refine caseB_false ?_; conv => whnf) | ((with_reducible refine caseB_dec (fun h => ?_) (fun h => ?_)) <;> conv => whnf) | ((with_reducible refine caseB_ndec (fun h => ?_) (fun h => ?_)) <;> conv => whnf) | ((with_reducible refine caseB_not (fun h => ?_) (fun h => ?_)) <;> conv => whnf) | (with_reducible refine @And.intro (guardVC _ _ _ _ _) _ ?_ ?_) <;> conv => whnf | (refine caseB_intro (fun h => ?_) (fun h => ?_) <;> (try simp only [Bool.not_eq_true', Bool.not_eq_false', decide_eq_true_eq, decide_eq_false_iff_not] at h) <;> conv => whnf))
    · have hi' : i < ws.length := by omega
      have hi2 : i < us.length := by omega
      have hw : IntKind.i64.wrap ((i : Int) + 1) = (i : Int) + 1 := wr_id (by omega) (by omega)
      obtain ⟨hA, _, hc⟩ := hs.get hi'
      obtain ⟨hA', _, hc'⟩ := hs'.get hi2
      repeat' (first | (refine ⟨⟨[], rfl⟩, _, PH.Le.refl _, PH.Le.refl _, ?_⟩; conv => whnf) | (refine ⟨us[i].cs, hc', rfl, ?_⟩; conv => whnf) | (refine ⟨ws[i].cs, hc, rfl, ?_⟩; conv => whnf) | (refine ⟨by omega, by omega, hA', ?_⟩; conv => whnf) | (refine ⟨by omega, by omega, hA, ?_⟩; conv => whnf) | (refine caseB_true ?_; conv => whnf) | (refine caseB_false ?_; conv => whnf) | ((with_reducible refine caseB_dec (fun h => ?_) (fun h => ?_)) <;> conv => whnf) | ((with_reducible refine caseB_ndec (fun h => ?_) (fun h => ?_)) <;> conv => whnf) | ((with_reducible refine caseB_not (fun h => ?_) (fun h => ?_)) <;> conv => whnf) | (refine draw_rule (.light 0 <| .light 1 <| .light 2 <| .light 3 <| .light 4 <| .light 5 <| .light 6 <| .light 7 <| .light 8 <| .done) (by decide +kernel) ?_; conv => whnf) | (with_reducible refine @And.intro (guardVC _ _ _ _ _) _ ?_ ?_) <;> conv => whnf | (refine caseB_intro (fun h => ?_) (fun h => ?_) <;> (try simp only [Bool.not_eq_true', Bool.not_eq_false', decide_eq_true_eq, decide_eq_false_iff_not] at h) <;> conv => whnf))
      · rename_i h
        refine ⟨_, PH.Le.refl _, ?_, rfl⟩
        rw [sameB_false (fun e => by subst e; simp [seq_self] at h)]
        rfl
      · rename_i h
        rw [hd_eq] at h
        exact ⟨i + 1, ⟨by simp [slots, leT, hw], ⟨[], rfl⟩, Nat.zero_le _, rfl, rfl⟩, ⟨by omega, take_step ht hi' hi2 h, rfl⟩, by omega⟩
    · refine ⟨_, PH.Le.refl _, ?_, rfl⟩
      rw [sameB_true (take_all ht (by omega) (by omega))]
      rfl

theorem en_same {f f' : En} (h1 : f.key = f'.key) (h2 : f.st = f'.st) (h3 : f.hs = f'.hs) (h4 : f.body = f'.body) (h5 : f.mt = f'.mt) (h6 : f.tags = f'.tags) : sameB f f' = decide (f.pins = f'.pins) := by
  obtain ⟨a1, a2, a3, a4, a5, a6, a7⟩ := f
  obtain ⟨b1, b2, b3, b4, b5, b6, b7⟩ := f'
  simp only at h1 h2 h3 h4 h5 h6
  subst h1; subst h2; subst h3; subst h4; subst h5; subst h6
  by_cases e : a7 = b7
  · rw [sameB_true (by rw [e])]; simp [e]
  · rw [sameB_false (fun h => e (by cases h; rfl))]; simp [e]
theorem sameEntries_ret (x y : EnA) (M : PH) (hx : x.inn M ∧ x.c.cost ≤ 1048576) (hy : y.inn M) (ox : bytesOk x.c.body) (oy : bytesOk y.c.body) :
    Ret 89 [x.val, y.val] M (B (sameB x.c y.c)) := by
  obtain ⟨hi, hco⟩ := hx
  obtain ⟨_, _, hn1, hn2, hn3⟩ := En.hn hco
  refine xcall_of_vc Tryz.func89 rfl _ Tryz.ntmps89 _ rfl (fun _ _ => Tryz.call89 _ _) rfl (fun w0 ρ0 => ?_)
  conv => whnf
  repeat' (first | (refine ⟨⟨[], rfl⟩, _, PH.Le.refl _, PH.Le.refl _, ?_⟩; conv => whnf) | (refine caseB_true ?_; conv => whnf) | (refine caseB_false ?_; conv => whnf) | ((with_reducible refine caseB_dec (fun h => ?_) (fun h => ?_)) <;> conv => whnf) | ((with_reducible refine caseB_ndec (fun h => ?_) (fun h => ?_)) <;> conv => whnf) | ((with_reducible refine caseB_not (fun h => ?_) (fun h => ?_)) <;> conv => whnf) | (refine Ret.go (equalHeader_ret x.hA y.hA x.hc y.hc x.c.hs y.c.hs _ hi.h hy.h hn1) ?_; conv => whnf) | (refine Ret.go (bytesEqual_ret x.bA y.bA x.bc y.bc x.c.body y.c.body _ hi.b hy.b ox oy) ?_; conv => whnf) | (refine Ret.go (equalString_ret x.tA y.tA x.tc y.tc x.c.tags y.c.tags _ hi.t hy.t hn3) ?_; conv => whnf) | (with_reducible refine @And.intro (guardVC _ _ _ _ _) _ ?_ ?_) <;> conv => whnf | (refine caseB_intro (fun h => ?_) (fun h => ?_) <;> (try simp only [Bool.not_eq_true', Bool.not_eq_false', decide_eq_true_eq, decide_eq_false_iff_not] at h) <;> conv => whnf))
  all_goals refine ⟨_, PH.Le.refl _, ?_, rfl⟩
  all_goals first
    | (rw [sameB_false (fun e => by rw [e] at h; first | exact h rfl | (simp [seq_self, sameB_true] at h; done))]; rfl; done)
    | (rw [en_same (seq_iff.1 (by assumption)) (by assumption) (sameB_iff.1 (by assumption)) (sameB_iff.1 (by assumption)) ((mt_eq _ _).1 (by assumption)) (sameB_iff.1 (by assumption))]; rfl; done)
    | fail
set_option maxHeartbeats 4000000 in
theorem l8SameEntry_ret (A A' : Option Addr) (o o' : Nat) (x y : EnA) (M : PH) (hA : M.cells A o x.cs) (hA' : M.cells A' o' y.cs) (hx : x.inn M ∧ x.c.cost ≤ 1048576) (hy : y.inn M) (ox : bytesOk x.c.body) (oy : bytesOk y.c.body) :
    RetE 146 [.el A o, .el A' o'] M (B (sameB x.c y.c)) := by
  obtain ⟨hi, hco⟩ := hx
  obtain ⟨_, _, hn1, hn2, hn3⟩ := En.hn hco
  have a0 : M.cells A (o + 0) [Tx x.c.key] := PH.cells_sub hA 0 1
  have a1 : M.cells A (o + 1) [I x.c.st] := PH.cells_sub hA 1 1
  have a2 : M.cells A (o + 2) [.slice x.hA x.c.hs.length x.hc] := PH.cells_sub hA 2 1
  have a3 : M.cells A (o + 3) [.slice x.bA x.c.body.length x.bc] := PH.cells_sub hA 3 1
  have a4 : M.cells A (o + 4) [I x.c.mt.at_, I x.c.mt.age, I x.c.mt.life, I x.c.mt.swr, I x.c.mt.sie, B x.c.mt.soft, B x.c.mt.noc] := PH.cells_sub hA 4 7
  have a5 : M.cells A (o + 11) [.slice x.tA x.c.tags.length x.tc] := PH.cells_sub hA 11 1
  have a6 : M.cells A (o + 12) [I x.c.pins] := PH.cells_sub hA 12 1
  have b0 : M.cells A' (o' + 0) [Tx y.c.key] := PH.cells_sub hA' 0 1
  have b1 : M.cells A' (o' + 1) [I y.c.st] := PH.cells_sub hA' 1 1
  have b2 : M.cells A' (o' + 2) [.slice y.hA y.c.hs.length y.hc] := PH.cells_sub hA' 2 1
  have b3 : M.cells A' (o' + 3) [.slice y.bA y.c.body.length y.bc] := PH.cells_sub hA' 3 1
  have b4 : M.cells A' (o' + 4) [I y.c.mt.at_, I y.c.mt.age, I y.c.mt.life, I y.c.mt.swr, I y.c.mt.sie, B y.c.mt.soft, B y.c.mt.noc] := PH.cells_sub hA' 4 7
  have b5 : M.cells A' (o' + 11) [.slice y.tA y.c.tags.length y.tc] := PH.cells_sub hA' 11 1
  have b6 : M.cells A' (o' + 12) [I y.c.pins] := PH.cells_sub hA' 12 1
  refine xcall_of_vc Tryz.func146 rfl _ Tryz.ntmps146 _ rfl (fun _ _ => Tryz.call146 _ _) rfl (fun w0 ρ0 => ?_)
  conv => whnf
  repeat' (first | (refine ⟨⟨[], rfl⟩, _, PH.Le.refl _, PH.Le.refl _, ?_⟩; conv => whnf) | (refine ⟨y.c.body, ⟨rfl, sl_bytes hy.b⟩, ?_⟩; conv => whnf) | (refine ⟨x.c.body, ⟨rfl, sl_bytes hi.b⟩, ?_⟩; conv => whnf) | (refine ⟨_, b6, ?_⟩; conv => whnf) | (refine ⟨_, b5, ?_⟩; conv => whnf) | (refine ⟨_, b4, rfl, ?_⟩; conv => whnf) | (refine ⟨_, b3, ?_⟩; conv => whnf) | (refine ⟨_, b2, ?_⟩; conv => whnf) | (refine ⟨_, b1, ?_⟩; conv => whnf) | (refine ⟨_, b0, ?_⟩; conv => whnf) | (refine ⟨_, a6, ?_⟩; conv => whnf) | (refine ⟨_, a5, ?_⟩; conv => whnf) | (refine ⟨_, a4, rfl, ?_⟩; conv => whnf) | (refine ⟨_, a3, ?_⟩; conv => whnf) | (refine ⟨_, a2, ?_⟩; conv => whnf) | (refine ⟨_, a1, ?_⟩; conv => whnf) | (refine ⟨_, a0, ?_⟩; conv => whnf) | (refine caseB_true ?_; conv => whnf) | (refine caseB_false ?_; conv => whnf) | ((with_reducible refine caseB_dec (fun h => ?_) (fun h => ?_)) <;> conv => whnf) | ((with_reducible refine caseB_ndec (fun h => ?_) (fun h => ?_)) <;> conv => whnf) | ((with_reducible refine caseB_not (fun h => ?_) (fun h => ?_)) <;> conv => whnf) | (refine Ret.go (sameHeaders_spec x.hA y.hA x.hc y.hc x.c.hs y.c.hs _ hi.h hy.h hn1) ?_; conv => whnf) | (refine Ret.go (l1SameTexts_ret x.tA y.tA x.tc y.tc x.c.tags y.c.tags _ hi.t hy.t hn3) ?_; conv => whnf) | (refine draw_rule (.light 0 <| .light 1 <| .light 2 <| .light 3 <| .light 4 <| .light 5 <| .light 6 <| .light 7 <| .light 8 <| .light 9 <| .light 10 <| .light 11 <| .light 12 <| .light 13 <| .light 14 <| .light 15 <| .light 16 <| .light 17 <| .light 18 <| .light 19 <| .light 20 <| .light 21 <| .light 22 <| .light 23 <| .light 24 <| .light 25 <| .light 26 <| .light 27 <| .light 28 <| .alt 29 false (.light 30 <| .light 31 <| .light 32 <| .light 33 <| .light 34 <| .light 35 <| .light 36 <| .light 37 <| .light 38 <| .light 39 <| .light 40 <| .light 41 <| .light 42 <| .light 43 <| .light 44 <| .light 45 <| .light 46 <| .light 47 <| .light 48 <| .light 49 <| .light 50 <| .light 51 <| .light 52 <| .light 53 <| .light 54 <| .light 55 <| .light 56 <| .light 57 <| .light 58 <| .light 59 <| .light 60 <| .light 61 <| .light 62 <| .light 63 <| .alt 64 false (.light 65 <| .light 66 <| .light 67 <| .light 68 <| .light 69 <| .light 70 <| .light 71 <| .light 72 <| .light 73 <| .light 74 <| .light 75 <| .light 76 <| .light 77 <| .done) .nil) .nil) (by decide +kernel) ?_; conv => whnf) | (with_reducible refine @And.intro (guardVC _ _ _ _ _) _ ?_ ?_) <;> conv => whnf | (refine caseB_intro (fun h => ?_) (fun h => ?_) <;> (try simp only [Bool.not_eq_true', Bool.not_eq_false', decide_eq_true_eq, decide_eq_false_iff_not] at h) <;> conv => whnf))
  all_goals refine ⟨_, PH.Le.refl _, ?_, rfl, rfl⟩
  all_goals first
    | (rw [sameB_false (fun e => by rw [e] at h; first | exact h rfl | (simp [seq_self, sameB_true] at h; done))]; rfl; done)
    | (rw [en_same (seq_iff.1 (by assumption)) (by assumption) (sameB_iff.1 (by assumption)) (bytes_inj ox oy (seq_iff.1 (by assumption))) ((mt_eq _ _).1 (by assumption)) (sameB_iff.1 (by assumption))]; rfl; done)
    | fail
end Go.Proofs.YtgjaiabenjafeaaGreatDoor
