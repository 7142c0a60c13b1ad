/-
  CONTRACTS: the first value of a name; the mark of an answer.
-/
import Derived.Test.YtdgipmlkkmmliaaGreatDoorTe
import Derived.Test.YtdgipmlkkmmliaaGreatDoorOc
namespace Go.Proofs.YtdgipmlkkmmliaaGreatDoor
set_option maxRecDepth 100000
set_option linter.unusedSimpArgs false
set_option linter.unusedVariables false
open Go.Xe
def firstV (vs : List ByteArray) : ByteArray := match vs with | [] => ByteArray.empty | x :: _ => x
theorem firstValue_ret (A : Option Addr) (c : Nat) (ws : List Hd) (nm : ByteArray) (M : PH) (hs : Sl M A 2 Hd.cs ws) (hn : ws.length ≤ 1048576) (ho : ∀ x ∈ ws, x.okl) (hnm : nm.size ≤ maxLen) :
    Ret 52 [.slice A ws.length c, Tx nm] M (.tuple #[Tx (firstV (vals ws nm)), B (!(vals ws nm).isEmpty)]) := by
  refine Ret.of ?_
  refine xcall_of_vc Tryz.func52 rfl _ Tryz.ntmps52 _ rfl (fun _ _ => Tryz.call52 _ _) rfl (fun w0 ρ0 => ?_)
  conv => whnf
  refine ACall.step (valuesOf_ret A c ws nm _ hs hn ho hnm) fun v M1 hh => ?_
  obtain ⟨o, B', c', rfl, hB, hN⟩ := hh
  have hS := hN.ow.sl st_len
  generalize vals ws nm = vs at *
  cases vs with
  | nil =>
    conv => whnf
    repeat' (first | (refine ⟨⟨[], rfl⟩, _, PH.Le.refl _, PH.Le.refl _, ?_⟩; conv => whnf) | (refine caseB_true ?_; conv => whnf) | (refine caseB_false ?_; conv => whnf) | ((with_reducible refine caseB_dec (fun h => ?_) (fun h => ?_)) <;> conv => whnf) | ((with_reducible refine caseB_ndec (fun h => ?_) (fun h => ?_)) <;> conv => whnf) | ((with_reducible refine caseB_not (fun h => ?_) (fun h => ?_)) <;> conv => whnf) | (with_reducible refine @And.intro (guardVC _ _ _ _ _) _ ?_ ?_) <;> conv => whnf | (refine caseB_intro (fun h => ?_) (fun h => ?_) <;> (try simp only [Bool.not_eq_true', Bool.not_eq_false', decide_eq_true_eq, decide_eq_false_iff_not] at h) <;> conv => whnf))
    all_goals exact ⟨_, PH.Le.refl _, rfl, hN.le⟩
  | cons x r =>
    obtain ⟨hA, _, hc⟩ := hS.get (i := 0) (by simp)
    conv => whnf
    repeat' (first | (refine ⟨⟨[], rfl⟩, _, PH.Le.refl _, PH.Le.refl _, ?_⟩; conv => whnf) | (refine ⟨_, hc, ?_⟩; conv => whnf) | (refine ⟨by omega, by show (0 : Int) < ((r.length + 1 : Nat) : Int); omega, hA, ?_⟩; conv => whnf) | (refine caseB_true ?_; conv => whnf) | (refine caseB_false ?_; conv => whnf) | ((with_reducible refine caseB_dec (fun h => ?_) (fun h => ?_)) <;> conv => whnf) | ((with_reducible refine caseB_ndec (fun h => ?_) (fun h => ?_)) <;> conv => whnf) | ((with_reducible refine caseB_not (fun h => ?_) (fun h => ?_)) <;> conv => whnf) | (with_reducible refine @And.intro (guardVC _ _ _ _ _) _ ?_ ?_) <;> conv => whnf | (refine caseB_intro (fun h => ?_) (fun h => ?_) <;> (try simp only [Bool.not_eq_true', Bool.not_eq_false', decide_eq_true_eq, decide_eq_false_iff_not] at h) <;> conv => whnf))
    all_goals exact ⟨_, PH.Le.refl _, rfl, hN.le⟩
theorem l6First_ret (A : Option Addr) (c : Nat) (ws : List Hd) (nm : ByteArray) (M : PH) (hs : Sl M A 2 Hd.cs ws) (hn : ws.length ≤ 1048576) (ho : ∀ x ∈ ws, x.okl) (hnm : nm.size ≤ maxLen) :
    Ret 74 [.slice A ws.length c, Tx nm] M (.tuple #[Tx (firstV (vals ws nm)), B (!(vals ws nm).isEmpty)]) := by
  refine xcall_of_vc Tryz.func74 rfl _ Tryz.ntmps74 _ rfl (fun _ _ => Tryz.call74 _ _) rfl (fun w0 ρ0 => ?_)
  conv => whnf
  refine loop_rule (fun i : Nat => ⟨slots 25 [(0, .v (.slice A ws.length c)), (1, .v (Tx nm)), (6, .v (I i))], []⟩) (fun i M' => i ≤ ws.length ∧ vals (ws.take i) nm = [] ∧ M' = M) (fun i => ws.length - i) 0 ?_ ?_ ?_
  · exact ⟨by simp [slots, leT], ⟨[], rfl⟩, Nat.zero_le _, rfl, rfl⟩
  · exact ⟨Nat.zero_le _, rfl, rfl⟩
  rintro i M' ⟨hi, hv, rfl⟩
  conv => whnf
  refine caseB_dec (fun h0 => ?_) (fun h0 => ?_)
  · have h0 : (i : Int) < ws.length := h0
    have hi' : i < ws.length := by omega
    have hw : IntKind.i64.wrap ((i : Int) + 1) = (i : Int) + 1 := wr_id (by omega) (by omega)
    obtain ⟨hA, _, hc⟩ := hs.get hi'
    have hx := ho ws[i] (List.getElem_mem hi')
    conv => whnf
    repeat' (first | (refine ⟨⟨[], rfl⟩, _, PH.Le.refl _, PH.Le.refl _, ?_⟩; conv => whnf) | (refine ⟨_, cells_cut hc 1 rfl, ?_⟩; conv => whnf) | (refine ⟨_, cells_cut hc 0 rfl, ?_⟩; conv => whnf) | (refine ⟨by omega, by omega, hA, ?_⟩; conv => whnf) | (refine caseB_true ?_; conv => whnf) | (refine caseB_false ?_; conv => whnf) | ((with_reducible refine caseB_dec (fun h => ?_) (fun h => ?_)) <;> conv => whnf) | ((with_reducible refine caseB_ndec (fun h => ?_) (fun h => ?_)) <;> conv => whnf) | ((with_reducible refine caseB_not (fun h => ?_) (fun h => ?_)) <;> conv => whnf) | (refine Ret.go (l4Alike_ret _ _ _ hx.1 hnm) ?_; conv => whnf) | (with_reducible refine @And.intro (guardVC _ _ _ _ _) _ ?_ ?_) <;> conv => whnf | (refine caseB_intro (fun h => ?_) (fun h => ?_) <;> (try simp only [Bool.not_eq_true', Bool.not_eq_false', decide_eq_true_eq, decide_eq_false_iff_not] at h) <;> conv => whnf))
    · have e1 := vals_yes hi' h
      rw [hv] at e1
      have e2 : ∃ r, vals ws nm = ws[i].v :: r := by
        have := List.take_append_drop (i + 1) ws
        refine ⟨vals (ws.drop (i + 1)) nm, ?_⟩
        conv => lhs; rw [← this]
        have ea : ∀ a b : List Hd, vals (a ++ b) nm = vals a nm ++ vals b nm := fun a b => by simp [vals]
        rw [ea, e1]; rfl
      obtain ⟨r, e2⟩ := e2
      exact ⟨_, PH.Le.refl _, by rw [e2]; rfl, rfl⟩
    · exact ⟨i + 1, ⟨by simp [slots, leT, hw], ⟨_, rfl⟩, Nat.zero_le _, rfl, rfl⟩, ⟨by omega, by rw [vals_no hi' h]; exact hv, rfl⟩, by omega⟩
  · have hi' : i = ws.length := by have : ¬ (i : Int) < ws.length := h0; omega
    subst hi'
    rw [List.take_length] at hv
    conv => whnf
    exact ⟨_, PH.Le.refl _, by rw [hv]; rfl, rfl⟩
def etagU : ByteArray := ⟨#[69, 84, 97, 103]⟩
def etagL : ByteArray := ⟨#[101, 116, 97, 103]⟩
theorem etag_eq (ws : List Hd) : vals ws etagU = vals ws etagL := by
  have : lowerB etagU = lowerB etagL := by decide +kernel
  unfold vals alikeT
  rw [this]
structure TR where
  why : Int
  t : ByteArray
abbrev TR.v (r : TR) : Value := .agg #[I r.why, Tx r.t]
def etagOf (ws : List Hd) : TR := if hdsFault ws ≠ 0 then ⟨hdsFault ws, ByteArray.empty⟩ else if seq (firstV (vals ws etagL)) ⟨#[]⟩ = true then ⟨4, ByteArray.empty⟩ else ⟨0, firstV (vals ws etagL)⟩
theorem etagOf_impl (A : Option Addr) (c : Nat) (ws : List Hd) (M : PH) (hs : Sl M A 2 Hd.cs ws) (hn : ws.length ≤ 1048576) (ho : ∀ x ∈ ws, x.okl) : Ret 20 [.slice A ws.length c] M (etagOf ws).v := by
  refine xcall_of_vc Tryz.func20 rfl _ Tryz.ntmps20 _ rfl (fun _ _ => Tryz.call20 _ _) rfl (fun w0 ρ0 => ?_)
  conv => whnf
  repeat' (first | (refine ⟨⟨[], rfl⟩, _, PH.Le.refl _, PH.Le.refl _, ?_⟩; conv => whnf) | (refine caseB_true ?_; conv => whnf) | (refine caseB_false ?_; conv => whnf) | ((with_reducible refine caseB_dec (fun h => ?_) (fun h => ?_)) <;> conv => whnf) | ((with_reducible refine caseB_ndec (fun h => ?_) (fun h => ?_)) <;> conv => whnf) | ((with_reducible refine caseB_not (fun h => ?_) (fun h => ?_)) <;> conv => whnf) | (refine Ret.go (headersFault_impl A c ws _ hs hn ho) ?_; conv => whnf) | (refine Ret.go (firstValue_ret A c ws etagU _ hs hn ho (by decide)) ?_; conv => whnf) | (with_reducible refine @And.intro (guardVC _ _ _ _ _) _ ?_ ?_) <;> conv => whnf | (refine caseB_intro (fun h => ?_) (fun h => ?_) <;> (try simp only [Bool.not_eq_true', Bool.not_eq_false', decide_eq_true_eq, decide_eq_false_iff_not] at h) <;> conv => whnf))
  all_goals refine ⟨_, PH.Le.refl _, ?_, rfl⟩
  all_goals try rw [etag_eq] at *
  all_goals simp [resV, etagOf, *]
theorem l6Etag_ret (A : Option Addr) (c : Nat) (ws : List Hd) (M : PH) (hs : Sl M A 2 Hd.cs ws) (hn : ws.length ≤ 1048576) (ho : ∀ x ∈ ws, x.okl) : Ret 66 [.slice A ws.length c] M (Tx (firstV (vals ws etagL))) := by
  refine xcall_of_vc Tryz.func66 rfl _ Tryz.ntmps66 _ rfl (fun _ _ => Tryz.call66 _ _) rfl (fun w0 ρ0 => ?_)
  conv => whnf
  repeat' (first | (refine ⟨⟨[], rfl⟩, _, PH.Le.refl _, PH.Le.refl _, ?_⟩; conv => whnf) | (refine caseB_true ?_; conv => whnf) | (refine caseB_false ?_; conv => whnf) | ((with_reducible refine caseB_dec (fun h => ?_) (fun h => ?_)) <;> conv => whnf) | ((with_reducible refine caseB_ndec (fun h => ?_) (fun h => ?_)) <;> conv => whnf) | ((with_reducible refine caseB_not (fun h => ?_) (fun h => ?_)) <;> conv => whnf) | (refine Ret.go (l6First_ret A c ws etagL _ hs hn ho (by decide)) ?_; conv => whnf) | (with_reducible refine @And.intro (guardVC _ _ _ _ _) _ ?_ ?_) <;> conv => whnf | (refine caseB_intro (fun h => ?_) (fun h => ?_) <;> (try simp only [Bool.not_eq_true', Bool.not_eq_false', decide_eq_true_eq, decide_eq_false_iff_not] at h) <;> conv => whnf))
  exact ⟨_, PH.Le.refl _, rfl, rfl⟩
theorem etagOf_spec (A : Option Addr) (c : Nat) (ws : List Hd) (M : PH) (hs : Sl M A 2 Hd.cs ws) (hn : ws.length ≤ 1048576) (ho : ∀ x ∈ ws, x.okl) : Ret 25 [.slice A ws.length c] M (etagOf ws).v := by
  refine xcall_of_vc Tryz.func25 rfl _ Tryz.ntmps25 _ rfl (fun _ _ => Tryz.call25 _ _) rfl (fun w0 ρ0 => ?_)
  conv => whnf
  repeat' (first | (refine ⟨⟨[], rfl⟩, _, PH.Le.refl _, PH.Le.refl _, ?_⟩; conv => whnf) | (refine Ret.go (l6Etag_ret A c ws _ hs hn ho) ?_; conv => whnf) | (refine caseB_true ?_; conv => whnf) | (refine caseB_false ?_; conv => whnf) | ((with_reducible refine caseB_dec (fun h => ?_) (fun h => ?_)) <;> conv => whnf) | ((with_reducible refine caseB_ndec (fun h => ?_) (fun h => ?_)) <;> conv => whnf) | ((with_reducible refine caseB_not (fun h => ?_) (fun h => ?_)) <;> conv => whnf) | (refine Ret.go (headersFault_spec A c ws _ hs hn ho) ?_; conv => whnf) | (with_reducible refine @And.intro (guardVC _ _ _ _ _) _ ?_ ?_) <;> conv => whnf | (refine caseB_intro (fun h => ?_) (fun h => ?_) <;> (try simp only [Bool.not_eq_true', Bool.not_eq_false', decide_eq_true_eq, decide_eq_false_iff_not] at h) <;> conv => whnf))
  all_goals refine ⟨_, PH.Le.refl _, ?_, rfl⟩
  all_goals simp [resV, etagOf, *]
theorem open_hds {W : World} {cs : List Value} (h : (Sh.slice shHd 2).ok W cs) : ∃ (A : Option Addr) (c : Nat) (xs : List Hd), cs = [.slice A xs.length c] ∧ Sl (whole W) A 2 Hd.cs xs ∧ xs.length ≤ maxLen ∧ ∀ x ∈ xs, x.okl :=
  open_sld Hd.cs Hd.okl (fun es h => open_hd h) h
theorem openHds {H : Type} {enc : TypeId × Value → H} {W : World} {base : Nat} {v : Value} {d : DataW H} {p : List MemPlace} (hv : Value.okWide Tryz.prog W .any base 22 v)
    (h : DataW.Trod enc Tryz.prog W 0 (fun _ => true) true 22 v d p) : ∃ (A : Option Addr) (c : Nat) (ws : List Hd), v = .slice A ws.length c ∧ Sl (whole W) A 2 Hd.cs ws ∧ ws.length ≤ maxLen ∧ (∀ x ∈ ws, x.okl) := by
  obtain ⟨cs, rfl, hs⟩ := open_arg env 9 (ti := ti22) (by kernel_rfl) (s := .slice shHd 2) (by kernel_rfl) hv h
  obtain ⟨A, c, ws, rfl, hS, hl, hx⟩ := open_hds hs
  exact ⟨A, c, ws, rfl, hS, hl, hx⟩
theorem hd_okl {ws : List Hd} (h : costL Hd.cost ws ≤ 1048576) : ∀ x ∈ ws, x.okl := fun x hx => by
  have e63 : maxLen = 9223372036854775807 := rfl
  have h1 : Hd.cost x ≤ costL Hd.cost ws := costL_le hx
  have e : Hd.cost x = x.n.size + x.v.size := rfl
  exact ⟨by omega, by omega⟩
end Go.Proofs.YtdgipmlkkmmliaaGreatDoor
