/-
  THE EXECUTOR: a verification-condition generator over Go's operations, with its soundness. Plain definitions and theorems.
  A state is a list of abstract values (the slots), a list of boxes (blocks of the call's own, told apart by their numbers) and a map M (what is known of all other memory).
-/
import Derived.WalkKit
import Derived.WalkLawsBesides
import Derived.OrdersHeld
import Derived.LoopN
import Derived.Laws.Rows
import Derived.Laws.Cells
import Derived.Laws.Tables
import Derived.Laws.StructEq
import Derived.Laws.MakeOwn
import Derived.Laws.AppendOwn
import Derived.Laws.BytesArg
import Derived.Laws.IdiomStrings
set_option linter.unusedVariables false
set_option linter.unusedSimpArgs false
namespace Go.Xe
open Go.RowKit

/-! ### 1. Tables of types -/
structure TI where
  desc : TypeDesc
  zero : Value
  size : Nat
  bytes : Nat
  eq : Bool
def TI.isAgg (ti : TI) : Bool := match ti.desc with | .struct _ | .array _ _ => true | _ => false
def TI.fields (ti : TI) : List Field := match ti.desc with | .struct fs => fs.toList | _ => []
def TI.elem (ti : TI) : Option TypeId := match ti.desc with | .slice e => some e | .array _ e => some e | .pointer e => some e | _ => none
abbrev Tab := List (Option TI)
def Tab.at (tb : Tab) (t : TypeId) : Option TI := match tb[t]? with | some (some ti) => some ti | _ => none
structure TI.Ok (P : Program) (t : TypeId) (ti : TI) : Prop where
  und : P.underlying t = some ti.desc
  inf : (P.info? t).map (fun i => (i.zero, i.size, i.bytes)) = some (some ti.zero, ti.size, ti.bytes)
  eqs : (!ti.eq || (!P.stoodInHeld t && !P.eqGuardType P.depth t && ti.fields.all fun f => !(f.name == "_"))) = true
structure Env where
  P : Program
  tb : Tab
  ok : ∀ t ti, tb.at t = some ti → TI.Ok P t ti
  mixed : P.follows .mixedOrders = true

theorem TI.Ok.info {P : Program} {t : TypeId} {ti : TI} (h : TI.Ok P t ti) : ∃ i, P.info? t = some i ∧ i.zero = some ti.zero ∧ i.size = ti.size ∧ i.bytes = ti.bytes := by
  have := h.inf
  cases hi : P.info? t with
  | none => simp [hi] at this
  | some i => simp [hi] at this; exact ⟨i, rfl, this.1, this.2.1, this.2.2⟩
theorem TI.Ok.run_und {P : Program} {t : TypeId} {ti : TI} (h : TI.Ok P t ti) (w : World) : (underlying t).run P w = .ok ti.desc w := run_underlying h.und w
theorem TI.Ok.run_info {P : Program} {t : TypeId} {ti : TI} (h : TI.Ok P t ti) (w : World) : ∃ i, (typeInfo t).run P w = .ok i w ∧ i.zero = some ti.zero ∧ i.size = ti.size ∧ i.bytes = ti.bytes := by
  obtain ⟨i, hi, h1, h2, h3⟩ := h.info
  exact ⟨i, by simp [typeInfo, hi], h1, h2, h3⟩
theorem TI.Ok.run_size {P : Program} {t : TypeId} {ti : TI} (h : TI.Ok P t ti) (w : World) : (sizeOf t).run P w = .ok ti.size w := by
  obtain ⟨i, hi, _, h2, _⟩ := h.run_info w
  simp [sizeOf, hi, h2]
theorem TI.Ok.run_zero {P : Program} {t : TypeId} {ti : TI} (h : TI.Ok P t ti) (w : World) : (zeroValue t).run P w = .ok ti.zero w := by
  obtain ⟨i, hi, h1, _, _⟩ := h.run_info w
  simp [zeroValue, hi, h1]
theorem TI.Ok.run_agg {P : Program} {t : TypeId} {ti : TI} (h : TI.Ok P t ti) (w : World) : (Go.isAgg t).run P w = .ok ti.isAgg w := by
  simp only [Go.isAgg, TI.isAgg, Sem.run_bind, h.run_und w, Result.andThen_ok]
  split <;> simp_all

def AllOk (P : Program) : Nat → Tab → Prop
  | _, [] => True
  | b, x :: l => (∀ ti, x = some ti → TI.Ok P b ti) ∧ AllOk P (b + 1) l
theorem AllOk.one {P : Program} {b : Nat} {ti : TI} {l : Tab} (h : TI.Ok P b ti) (r : AllOk P (b + 1) l) : AllOk P b (some ti :: l) := ⟨fun _ e => by cases e; exact h, r⟩
theorem AllOk.no {P : Program} {b : Nat} {l : Tab} (r : AllOk P (b + 1) l) : AllOk P b (none :: l) := ⟨(fun _ e => nomatch e), r⟩
theorem AllOk.get {P : Program} : ∀ {b : Nat} {l : Tab}, AllOk P b l → ∀ (i : Nat) ti, l[i]? = some (some ti) → TI.Ok P (b + i) ti
  | _, [], _, i, ti, h => by simp at h
  | b, x :: l, h, 0, ti, hi => by simp at hi; exact h.1 ti hi
  | b, x :: l, h, i + 1, ti, hi => by
    have := AllOk.get h.2 i ti (by simpa using hi)
    rw [show b + (i + 1) = b + 1 + i by omega]
    exact this

/-! ### 2. Abstract values, boxes, known memory -/
inductive AV where
  | v (x : Value)
  | bp (i o : Nat)
  | fn (f : FuncId) (cap : List Nat)
  | el (A : Option Addr) (o : Nat)
  | junk
structure Box where
  ty : TypeId
  cs : List AV
structure St where
  t : List AV
  bx : List Box
abbrev PH := Nat → Option Obj

def bptr (ρ : Nat → Nat) (i o : Nat) : Value := .pointer (some ⟨ρ i, o, none⟩)
def rel (ρ : Nat → Nat) : AV → Value → Prop
  | .v x, y => y = x
  | .bp i o, y => y = bptr ρ i o
  | .fn f cap, y => y = .func (.func f) #[] (cap.map fun i => bptr ρ i 0).toArray
  | .el A o, y => ∃ a, A = some a ∧ y = .pointer (some (a.add o))
  | .junk, _ => True
def RelL (ρ : Nat → Nat) : List AV → List Value → Prop
  | [], [] => True
  | a :: l, x :: m => rel ρ a x ∧ RelL ρ l m
  | _, _ => False
/-- The boxes that a value names are below n. -/
def AV.below (n : Nat) : AV → Prop
  | .bp i _ => i < n
  | .fn _ cap => ∀ i ∈ cap, i < n
  | _ => True

theorem rel_congr {ρ ρ' : Nat → Nat} {n : Nat} (hρ : ∀ i, i < n → ρ' i = ρ i) {a : AV} (ha : a.below n) {x : Value} (h : rel ρ a x) : rel ρ' a x := by
  cases a with
  | v y => exact h
  | bp i o => simp only [rel, bptr] at *; rw [hρ i ha]; exact h
  | fn f cap =>
    simp only [rel] at *
    rw [h]
    congr 2
    exact List.map_congr_left (fun i hi => by simp [bptr, hρ i (ha i hi)])
  | el A o => exact h
  | junk => trivial

theorem RelL.length {ρ : Nat → Nat} : ∀ {l : List AV} {m : List Value}, RelL ρ l m → l.length = m.length
  | [], [], _ => rfl
  | _ :: _, _ :: _, h => by simp [RelL.length h.2]
theorem RelL.get {ρ : Nat → Nat} : ∀ {l : List AV} {m : List Value}, RelL ρ l m → ∀ (i : Nat) (a : AV), l[i]? = some a → ∃ x, m[i]? = some x ∧ rel ρ a x
  | a :: l, x :: m, h, 0, b, hb => by simp at hb; subst hb; exact ⟨x, by simp, h.1⟩
  | a :: l, x :: m, h, i + 1, b, hb => by simp at hb ⊢; exact RelL.get h.2 i b hb
theorem RelL.set {ρ : Nat → Nat} : ∀ {l : List AV} {m : List Value}, RelL ρ l m → ∀ i {a : AV} {x : Value}, rel ρ a x → RelL ρ (l.set i a) (m.set i x)
  | [], [], _, _, _, _, _ => trivial
  | _ :: _, _ :: _, h, 0, _, _, hx => ⟨hx, h.2⟩
  | _ :: _, _ :: _, h, i + 1, _, _, hx => ⟨h.1, RelL.set h.2 i hx⟩
theorem RelL.append {ρ : Nat → Nat} : ∀ {l : List AV} {m : List Value} {l' : List AV} {m' : List Value}, RelL ρ l m → RelL ρ l' m' → RelL ρ (l ++ l') (m ++ m')
  | [], [], _, _, _, h' => h'
  | _ :: _, _ :: _, _, _, h, h' => ⟨h.1, RelL.append h.2 h'⟩
theorem RelL.drop {ρ : Nat → Nat} : ∀ {l : List AV} {m : List Value}, RelL ρ l m → ∀ n, RelL ρ (l.drop n) (m.drop n)
  | _, _, h, 0 => by simpa using h
  | [], [], _, _ + 1 => trivial
  | _ :: _, _ :: _, h, n + 1 => by simpa using RelL.drop h.2 n
theorem RelL.take {ρ : Nat → Nat} : ∀ {l : List AV} {m : List Value}, RelL ρ l m → ∀ n, RelL ρ (l.take n) (m.take n)
  | _, _, _, 0 => by simp [RelL]
  | [], [], _, _ + 1 => by simp [RelL]
  | _ :: _, _ :: _, h, n + 1 => by simpa [RelL] using ⟨h.1, RelL.take h.2 n⟩
theorem RelL.vs {ρ : Nat → Nat} : ∀ (l : List Value), RelL ρ (l.map .v) l
  | [] => trivial
  | _ :: l => ⟨rfl, RelL.vs l⟩
theorem RelL.vs_eq {ρ : Nat → Nat} : ∀ {l : List Value} {m : List Value}, RelL ρ (l.map .v) m → m = l
  | [], [], _ => rfl
  | _ :: _, _ :: _, h => by rw [h.1, RelL.vs_eq h.2]
theorem RelL.junks {ρ : Nat → Nat} : ∀ (l : List Value) (n : Nat), l.length = n → RelL ρ (List.replicate n .junk) l
  | [], 0, _ => trivial
  | _ :: l, n + 1, h => by rw [List.replicate_succ]; exact ⟨trivial, RelL.junks l n (by simpa using h)⟩
def Below' (n : Nat) (l : List AV) : Prop := ∀ a ∈ l, a.below n
theorem RelL.congr {ρ ρ' : Nat → Nat} {n : Nat} (hρ : ∀ i, i < n → ρ' i = ρ i) : ∀ {l : List AV} {m : List Value}, Below' n l → RelL ρ l m → RelL ρ' l m
  | [], [], _, _ => trivial
  | a :: l, x :: m, hb, h => ⟨rel_congr hρ (hb a (by simp)) h.1, RelL.congr hρ (fun b h' => hb b (by simp [h'])) h.2⟩

def PH.set (M : PH) (g : Nat) (o : Obj) : PH := fun k => if k = g then some o else M k
theorem PH.set_same (M : PH) (g : Nat) (o : Obj) : M.set g o g = some o := if_pos rfl
theorem PH.set_other (M : PH) {g k : Nat} (o : Obj) (h : k ≠ g) : M.set g o k = M k := if_neg h
def PH.In (M : PH) (w : World) : Prop := ∀ k o, M k = some o → w.heap[k]? = some o
def PH.Le (M M' : PH) : Prop := ∀ k o, M k = some o → M' k = some o
theorem PH.Le.set {M : PH} {g : Nat} (o : Obj) (h : M g = none) : M.Le (M.set g o) := fun k x hk => by
  by_cases e : k = g
  · subst e; rw [h] at hk; cases hk
  · rw [PH.set_other _ _ e]; exact hk
theorem PH.Le.refl (M : PH) : M.Le M := fun _ _ h => h
theorem PH.Le.trans {A B C : PH} (h : A.Le B) (k : B.Le C) : A.Le C := fun i o hi => k i o (h i o hi)

def BoxesAt (ρ : Nat → Nat) (bx : List Box) (w : World) : Prop :=
  ∀ i b, bx[i]? = some b → ∃ cs : Array Value, w.heap[ρ i]? = some (.cells cs b.ty (0, 0)) ∧ RelL ρ b.cs cs.toList ∧ Below' bx.length b.cs

/-- What a call (or a piece of one) has done to the world: m boxes aside, what was known was M and is M'. -/
structure Post (w w' : World) (ρ : Nat → Nat) (m : Nat) (M M' : PH) : Prop where
  os : w'.os = w.os
  tape : w'.tape = w.tape
  output : w'.output = w.output
  size : w.heap.size ≤ w'.heap.size
  inn : M'.In w'
  fresh : ∀ k o, M' k = some o → (∃ o', M k = some o') ∨ w.heap.size ≤ k
  frame : ∀ k, k < w.heap.size → M k = none → (∀ i, i < m → ρ i ≠ k) → w'.heap[k]? = w.heap[k]?

theorem Post.refl {w : World} {ρ : Nat → Nat} {m : Nat} {M : PH} (h : M.In w) : Post w w ρ m M M := ⟨rfl, rfl, rfl, Nat.le_refl _, h, fun k o hk => .inl ⟨o, hk⟩, fun _ _ _ _ => rfl⟩
theorem PH.In.lt {M : PH} {w : World} (h : M.In w) {k : Nat} {o : Obj} (hk : M k = some o) : k < w.heap.size := (Array.getElem?_eq_some_iff.1 (h k o hk)).1

/-- A call's run: a function of the program is entered, or the model's own entry answers at once. -/
def Enters (P : Program) (f : FuncId) (as : Array Value) (w : World) (Q : Ending → World → Prop) : Prop :=
  ((callFunc f as).run P w = .ok (.enter f as) w ∧ Calls P f as w Q) ∨ ∃ v w', (callFunc f as).run P w = .ok (.value v) w' ∧ Q (.returned v) w'
theorem Enters.mono {P : Program} {f : FuncId} {as : Array Value} {w : World} {Q Q' : Ending → World → Prop} (h : Enters P f as w Q) (k : ∀ e w', Q e w' → Q' e w') : Enters P f as w Q' :=
  h.elim (fun ⟨a, b⟩ => .inl ⟨a, b.mono k⟩) (fun ⟨v, w', a, b⟩ => .inr ⟨v, w', a, k _ _ b⟩)
/-- The contract of a call: arguments 'args', boxes 'bx', known memory M; R: the result, the boxes and the known memory behind it. -/
structure XCall (E : Env) (f : FuncId) (args : List AV) (bx : List Box) (M : PH) (R : Value → List Box → PH → Prop) : Prop where
  en : True
  run : ∀ (ρ : Nat → Nat) (w : World) (vs : List Value), (∀ i j, i < bx.length → j < bx.length → ρ i = ρ j → i = j) → BoxesAt ρ bx w → (∀ i, i < bx.length → M (ρ i) = none) → M.In w →
    RelL ρ args vs → Enters E.P f vs.toArray w fun e w' => ∃ r bx' M', e = .returned r ∧ bx'.length = bx.length ∧ BoxesAt ρ bx' w' ∧ Post w w' ρ bx.length M M' ∧ R r bx' M'

theorem XCall.mono {E : Env} {f : FuncId} {args : List AV} {bx : List Box} {M : PH} {R R' : Value → List Box → PH → Prop} (h : XCall E f args bx M R) (hr : ∀ r b m, R r b m → R' r b m) : XCall E f args bx M R' :=
  ⟨h.en, fun ρ w vs h1 h2 h3 h4 h5 => (h.run ρ w vs h1 h2 h3 h4 h5).mono fun e w' ⟨r, bx', M', a, b, c, d, e⟩ => ⟨r, bx', M', a, b, c, d, hr _ _ _ e⟩⟩

/-- The contract of a call by plain values. -/
def ACall (E : Env) (f : FuncId) (args : List Value) (M : PH) (R : Value → PH → Prop) : Prop := XCall E f (args.map .v) [] M fun r _ M' => R r M'
theorem ACall.mono {E : Env} {f : FuncId} {args : List Value} {M : PH} {R R' : Value → PH → Prop} (h : ACall E f args M R) (hr : ∀ r m, R r m → R' r m) : ACall E f args M R' := XCall.mono h fun r _ m => hr r m

/-- A call by plain values amid boxes. -/
theorem ACall.step {E : Env} {f : FuncId} {args : List Value} {bx : List Box} {M : PH} {R : Value → PH → Prop} {K : Value → List Box → PH → Prop}
    (h : ACall E f args M R) (hk : ∀ r M', R r M' → K r bx M') : XCall E f (args.map .v) bx M K := by
  refine ⟨h.en, ?_⟩
  intro ρ w vs hinj hbx hdis hin hrel
  have hv := RelL.vs_eq hrel
  subst hv
  refine (h.run ρ w vs (by simp) (by intro i b hb; simp at hb) (by simp) hin (RelL.vs vs)).mono ?_
  rintro e w' ⟨r, bx', M', rfl, hl, _, hp, hR⟩
  refine ⟨r, bx, M', rfl, rfl, ?_, ⟨hp.os, hp.tape, hp.output, hp.size, hp.inn, hp.fresh, fun k hk hm _ => hp.frame k hk hm (by simp)⟩, hk r M' hR⟩
  intro i b hb
  obtain ⟨cs, hc, hr, hbl⟩ := hbx i b hb
  have hi : i < bx.length := (List.getElem?_eq_some_iff.1 hb).1
  refine ⟨cs, ?_, hr, hbl⟩
  rw [hp.frame (ρ i) ((Array.getElem?_eq_some_iff.1 hc).1) (hdis i hi) (by simp)]
  exact hc

/-! ### 3. The state of a walk -/
structure Ctx where
  E : Env
  w0 : World
  M0 : PH
  m : Nat
  ρ0 : Nat → Nat

structure Sim (C : Ctx) (ρ : Nat → Nat) (s : St) (M : PH) (a : Act) (w : World) : Prop where
  defers : a.defers = []
  tmps : RelL ρ s.t a.tmps.toList
  tb : Below' s.bx.length s.t
  boxes : BoxesAt ρ s.bx w
  mle : C.m ≤ s.bx.length
  old : ∀ i, i < C.m → ρ i = C.ρ0 i
  new : ∀ i, C.m ≤ i → i < s.bx.length → C.w0.heap.size ≤ ρ i
  inj : ∀ i j, i < s.bx.length → j < s.bx.length → ρ i = ρ j → i = j
  dis : ∀ i, i < s.bx.length → M (ρ i) = none
  post : Post C.w0 w C.ρ0 C.m C.M0 M

theorem BoxesAt.lt {ρ : Nat → Nat} {bx : List Box} {w : World} (h : BoxesAt ρ bx w) {i : Nat} (hi : i < bx.length) : ρ i < w.heap.size := by
  obtain ⟨cs, hc, _⟩ := h i bx[i] (List.getElem?_eq_getElem hi)
  exact (Array.getElem?_eq_some_iff.1 hc).1

def ev (s : List AV) : Operand → AV
  | .tmp t => s.getD t .junk
  | .const v => .v v
  | .func f => .fn f []
  | .global _ => .junk

theorem ev_rel {C : Ctx} {ρ : Nat → Nat} {s : St} {M : PH} {a : Act} {w : World} (h : Sim C ρ s M a w) (x : Operand) : rel ρ (ev s.t x) (a.eval x) := by
  cases x with
  | tmp t =>
    simp only [ev, Act.eval]
    rw [List.getD_eq_getElem?_getD]
    cases hs : s.t[t]? with
    | none => trivial
    | some b =>
      obtain ⟨y, hy, hr⟩ := h.tmps.get t b hs
      have : a.tmps.getD t undef = y := by
        rw [Array.getD_eq_getD_getElem?, ← Array.getElem?_toList, hy]; rfl
      rw [this]; exact hr
  | const v => rfl
  | func f => simp [ev, rel, Act.eval]
  | global g => trivial

theorem ev_below {C : Ctx} {ρ : Nat → Nat} {s : St} {M : PH} {a : Act} {w : World} (h : Sim C ρ s M a w) (x : Operand) : (ev s.t x).below s.bx.length := by
  cases x with
  | tmp t =>
    simp only [ev]
    rw [List.getD_eq_getElem?_getD]
    cases hs : s.t[t]? with
    | none => trivial
    | some b => exact h.tb b (List.mem_of_getElem? hs)
  | const v => trivial
  | func f => intro i hi; cases hi
  | global g => trivial

/-- What a step hands on: a value, the boxes, the known memory. -/
abbrev K1 := AV → List Box → PH → Prop

/-- The walk's end behind an operation. -/
def Next1 (C : Ctx) (s : St) (a : Act) (k : K1) (next : Value → World → Prop) : Prop :=
  ∀ ρ' av x bx' M' w', Sim C ρ' ⟨s.t, bx'⟩ M' a w' → rel ρ' av x → av.below bx'.length → k av bx' M' → next x w'

section steps
variable {C : Ctx} {ρ : Nat → Nat} {s : St} {M : PH} {a : Act} {w : World} {k : K1} {next : Value → World → Prop}

/-- A new box. -/
theorem sim_alloc (h : Sim C ρ s M a w) (ty : TypeId) (cs : List AV) (vs : Array Value) (hr : RelL ρ cs vs.toList) (hb : Below' s.bx.length cs) :
    ∃ ρ', (∀ i, i < s.bx.length → ρ' i = ρ i) ∧ ρ' s.bx.length = w.heap.size ∧ Sim C ρ' ⟨s.t, s.bx ++ [⟨ty, cs⟩]⟩ M a (w.alloc (.cells vs ty (0, 0))) := by
  obtain ⟨ρ', hρ, hn⟩ : ∃ ρ' : Nat → Nat, (∀ i, i < s.bx.length → ρ' i = ρ i) ∧ ρ' s.bx.length = w.heap.size :=
    ⟨fun i => if i = s.bx.length then w.heap.size else ρ i, fun i hi => by simp [Nat.ne_of_lt hi], by simp⟩
  refine ⟨ρ', hρ, hn, ?_⟩
  have hlt := fun i hi => h.boxes.lt (i := i) hi
  have old : ∀ k, k < w.heap.size → (w.alloc (.cells vs ty (0, 0))).heap[k]? = w.heap[k]? := fun k hk => Below.heap_alloc w _ k hk
  refine ⟨h.defers, RelL.congr hρ h.tb h.tmps, fun b hb' => ?_, ?_, ?_, ?_, ?_, ?_, ?_, ?_⟩
  · have := h.tb b hb'
    cases b <;> simp_all [AV.below]
    · omega
    · intro i hi; have := this i hi; omega
  · intro i b hib
    rw [List.getElem?_append] at hib
    split at hib
    · rename_i hi
      obtain ⟨cs', hc, hr', hb'⟩ := h.boxes i b hib
      refine ⟨cs', ?_, RelL.congr hρ hb' hr', fun b hb2 => ?_⟩
      · rw [hρ i hi, old _ (hlt i hi)]; exact hc
      · have := hb' b hb2
        cases b <;> simp_all [AV.below]
        · omega
        · intro i hi; have := this i hi; omega
    · rename_i hi
      have : i = s.bx.length := by
        have := (List.getElem?_eq_some_iff.1 hib).1
        simp at this; omega
      subst this
      simp at hib
      subst hib
      refine ⟨vs, ?_, RelL.congr hρ hb hr, fun b hb2 => ?_⟩
      · rw [hn]; show (w.heap.push _)[w.heap.size]? = _; simp
      · have := hb b hb2
        cases b <;> simp_all [AV.below]
        · omega
        · intro i hi; have := this i hi; omega
  · have := h.mle; simp; omega
  · intro i hi; have := h.mle; rw [hρ i (by omega)]; exact h.old i hi
  · intro i h1 h2
    by_cases hne : i = s.bx.length
    · rw [hne, hn]; exact h.post.size
    · simp at h2; rw [hρ i (by omega)]; exact h.new i h1 (by omega)
  · intro i j hi hj hij
    simp at hi hj
    by_cases h1 : i = s.bx.length <;> by_cases h2 : j = s.bx.length
    · omega
    · rw [h1, hn, hρ j (by omega)] at hij; have := hlt j (by omega); omega
    · rw [h2, hn, hρ i (by omega)] at hij; have := hlt i (by omega); omega
    · rw [hρ i (by omega), hρ j (by omega)] at hij; exact h.inj i j (by omega) (by omega) hij
  · intro i hi
    by_cases hne : i = s.bx.length
    · rw [hne, hn]
      cases hm : M w.heap.size with
      | none => rfl
      | some o => have := h.post.inn.lt hm; omega
    · simp at hi; rw [hρ i (by omega)]; exact h.dis i (by omega)
  · refine ⟨h.post.os, h.post.tape, h.post.output, ?_, ?_, h.post.fresh, ?_⟩
    · have := h.post.size; show _ ≤ (w.heap.push _).size; simp; omega
    · intro k o hk; rw [old k (h.post.inn.lt hk)]; exact h.post.inn k o hk
    · intro k hk hm hne; rw [old k (by have := h.post.size; omega)]; exact h.post.frame k hk hm hne

/-- A box written. -/
theorem sim_set (h : Sim C ρ s M a w) (i : Nat) (b : Box) (hi : s.bx[i]? = some b) (cs : List AV) (vs : Array Value) (hr : RelL ρ cs vs.toList) (hb : Below' s.bx.length cs) (w' : World)
    (hw : w'.heap[ρ i]? = some (.cells vs b.ty (0, 0))) (ho : ∀ k, k ≠ ρ i → w'.heap[k]? = w.heap[k]?) (hs : w'.heap.size = w.heap.size) (h1 : w'.os = w.os) (h2 : w'.tape = w.tape) (h3 : w'.output = w.output) :
    Sim C ρ ⟨s.t, s.bx.set i ⟨b.ty, cs⟩⟩ M a w' := by
  have hil : i < s.bx.length := (List.getElem?_eq_some_iff.1 hi).1
  refine ⟨h.defers, h.tmps, by simpa using h.tb, ?_, by simpa using h.mle, h.old, by simpa using h.new, by simpa using h.inj, by simpa using h.dis, ?_⟩
  · intro j c hj
    rw [List.getElem?_set] at hj
    split at hj
    · rename_i hij; subst hij
      simp [hil] at hj; subst hj
      exact ⟨vs, hw, hr, by simpa using hb⟩
    · rename_i hij
      obtain ⟨cs', hc, hr', hb'⟩ := h.boxes j c hj
      have hjl : j < s.bx.length := (List.getElem?_eq_some_iff.1 hj).1
      exact ⟨cs', by rw [ho _ (fun e => hij (h.inj i j hil hjl e.symm))]; exact hc, hr', by simpa using hb'⟩
  · refine ⟨h1.trans h.post.os, h2.trans h.post.tape, h3.trans h.post.output, by rw [hs]; exact h.post.size, ?_, h.post.fresh, ?_⟩
    · intro k o hk
      rw [ho k (fun e => by have := h.dis i hil; rw [← e, hk] at this; cases this)]
      exact h.post.inn k o hk
    · intro k hk hm hne
      rw [ho k ?_]
      · exact h.post.frame k hk hm hne
      · rintro rfl
        by_cases him : i < C.m
        · exact hne i him (h.old i him).symm
        · have := h.new i (by omega) hil; omega

/-- New memory. -/
theorem sim_grow (h : Sim C ρ s M a w) (o : Obj) : Sim C ρ s (M.set w.heap.size o) a (w.alloc o) := by
  have hlt := fun i hi => h.boxes.lt (i := i) hi
  have old : ∀ k, k < w.heap.size → (w.alloc o).heap[k]? = w.heap[k]? := fun k hk => Below.heap_alloc w _ k hk
  refine ⟨h.defers, h.tmps, h.tb, fun i b hi => ?_, h.mle, h.old, h.new, h.inj, fun i hi => ?_, ?_⟩
  · obtain ⟨cs, hc, hr⟩ := h.boxes i b hi
    exact ⟨cs, by rw [old _ (hlt i (List.getElem?_eq_some_iff.1 hi).1)]; exact hc, hr⟩
  · rw [PH.set_other _ _ (Nat.ne_of_lt (hlt i hi))]; exact h.dis i hi
  · refine ⟨h.post.os, h.post.tape, h.post.output, ?_, ?_, ?_, ?_⟩
    · have := h.post.size; show _ ≤ (w.heap.push _).size; simp; omega
    · intro k x hk
      by_cases e : k = w.heap.size
      · subst e
        rw [PH.set_same] at hk
        cases hk
        show (w.heap.push _)[w.heap.size]? = _
        simp
      · rw [PH.set_other _ _ e] at hk
        rw [old k (h.post.inn.lt hk)]; exact h.post.inn k x hk
    · intro k x hk
      by_cases e : k = w.heap.size
      · subst e; exact .inr h.post.size
      · rw [PH.set_other _ _ e] at hk; exact h.post.fresh k x hk
    · intro k hk hm hne; rw [old k (by have := h.post.size; omega)]; exact h.post.frame k hk hm hne
theorem sim_fresh (h : Sim C ρ s M a w) : M w.heap.size = none := by
  cases hm : M w.heap.size with
  | none => rfl
  | some o => have := h.post.inn.lt hm; omega
/-- Known memory written. -/
theorem sim_write (h : Sim C ρ s M a w) {g : Nat} {o o' : Obj} (hg : M g = some o) (w' : World)
    (hw : w'.heap[g]? = some o') (ho : ∀ k, k ≠ g → w'.heap[k]? = w.heap[k]?) (hs : w'.heap.size = w.heap.size) (h1 : w'.os = w.os) (h2 : w'.tape = w.tape) (h3 : w'.output = w.output) :
    Sim C ρ s (M.set g o') a w' := by
  have hne : ∀ i, i < s.bx.length → ρ i ≠ g := fun i hi e => by have := h.dis i hi; rw [e, hg] at this; cases this
  refine ⟨h.defers, h.tmps, h.tb, fun i b hi => ?_, h.mle, h.old, h.new, h.inj, fun i hi => ?_, ?_⟩
  · obtain ⟨cs, hc, hr⟩ := h.boxes i b hi
    exact ⟨cs, by rw [ho _ (hne i (List.getElem?_eq_some_iff.1 hi).1)]; exact hc, hr⟩
  · rw [PH.set_other _ _ (hne i hi)]; exact h.dis i hi
  · refine ⟨h1.trans h.post.os, h2.trans h.post.tape, h3.trans h.post.output, by rw [hs]; exact h.post.size, ?_, ?_, ?_⟩
    · intro k x hk
      by_cases e : k = g
      · subst e; rw [PH.set_same] at hk; cases hk; exact hw
      · rw [PH.set_other _ _ e] at hk; rw [ho k e]; exact h.post.inn k x hk
    · intro k x hk
      by_cases e : k = g
      · subst e; exact h.post.fresh k o hg
      · rw [PH.set_other _ _ e] at hk; exact h.post.fresh k x hk
    · intro k hk hm hne'
      have e : k ≠ g := by
        rintro rfl
        rcases h.post.fresh k o hg with ⟨x, hx⟩ | hge
        · rw [hm] at hx; cases hx
        · omega
      rw [ho k e]; exact h.post.frame k hk hm hne'

/-- The tape has been asked. -/
theorem sim_drew (h : Sim C ρ s M a w) : Sim C ρ s M a w.drew :=
  ⟨h.defers, h.tmps, h.tb, h.boxes, h.mle, h.old, h.new, h.inj, h.dis, ⟨h.post.os, h.post.tape, h.post.output, h.post.size, h.post.inn, h.post.fresh, h.post.frame⟩⟩
end steps

/-! ### 4. What one operation owes -/
/-- An operation that the executor doesn't take. -/
structure Stuck (why : String) : Prop where out : False
/-- A test: both ways. -/
structure caseB (b : Bool) (t f : Prop) : Prop where
  yes : b = true → t
  no : b = false → f
theorem caseB_true {t f : Prop} (h : t) : caseB true t f := ⟨fun _ => h, (fun e => nomatch e)⟩
theorem caseB_false {t f : Prop} (h : f) : caseB false t f := ⟨(fun e => nomatch e), fun _ => h⟩
theorem caseB_intro {b : Bool} {t f : Prop} (ht : b = true → t) (hf : b = false → f) : caseB b t f := ⟨ht, hf⟩
theorem caseB_dec {p : Prop} [Decidable p] {t f : Prop} (ht : p → t) (hf : ¬ p → f) : caseB (decide p) t f := ⟨fun h => ht (of_decide_eq_true h), fun h => hf (of_decide_eq_false h)⟩
theorem caseB_ndec {p : Prop} [Decidable p] {t f : Prop} (ht : ¬ p → t) (hf : p → f) : caseB (!decide p) t f :=
  ⟨fun h => ht (of_decide_eq_false (by simpa using h)), fun h => hf (of_decide_eq_true (by simpa using h))⟩
theorem caseB_not {b : Bool} {t f : Prop} (ht : b = false → t) (hf : b = true → f) : caseB (!b) t f := ⟨fun h => ht (by simpa using h), fun h => hf (by simpa using h)⟩

/-- The equality of texts, as the model has it. -/
def seq (a b : ByteArray) : Bool := a.toList == b.toList

def binI (op : BinOp) (k : IntKind) (a b : Int) : Option Value :=
  match op with
  | .add => some (.int k (k.wrap (a + b)))
  | .sub => some (.int k (k.wrap (a - b)))
  | .mul => some (.int k (k.wrap (a * b)))
  | .eql => some (.bool (decide (a = b)))
  | .neq => some (.bool (!decide (a = b)))
  | .lss => some (.bool (decide (a < b)))
  | .leq => some (.bool (decide (a ≤ b)))
  | .gtr => some (.bool (decide (b < a)))
  | .geq => some (.bool (decide (b ≤ a)))
  | _ => none
def binS (op : BinOp) (a b : ByteArray) : Option Value :=
  match op with
  | .eql => some (.bool (seq a b))
  | .neq => some (.bool (!seq a b))
  | .lss => some (.bool (Op.bytesLess a.toList b.toList))
  | .leq => some (.bool (Op.bytesLess a.toList b.toList || seq a b))
  | _ => none
def isEq : BinOp → Bool | .eql | .neq => true | _ => false

theorem binI_run {op : BinOp} {k : IntKind} {a b : Int} {r : Value} (h : binI op k a b = some r) (P : Program) (t : TypeId) (w : World) : (binOp op t (.int k a) (.int k b)).run P w = .ok r w := by
  cases op <;> simp [binI] at h <;> subst h <;> simp [binOp, Op.intArith, Op.intCmp] <;> rfl
theorem guard_int (op : BinOp) (P : Program) (t : TypeId) (x y : Operand) (k k' : IntKind) (a b : Int) (w : World) : (eqGuard op t x y (.int k a) (.int k' b)).run P w = .ok () w := by
  cases op <;> simp [eqGuard]
theorem guard_str (op : BinOp) (P : Program) (t : TypeId) (x y : Operand) (a b : ByteArray) (w : World) : (eqGuard op t x y (.string a) (.string b)).run P w = .ok () w := by
  cases op <;> simp [eqGuard]
theorem guard_bool (op : BinOp) (P : Program) (t : TypeId) (x y : Operand) (a b : Bool) (w : World) : (eqGuard op t x y (.bool a) (.bool b)).run P w = .ok () w := by
  cases op <;> simp [eqGuard]
theorem binS_run {op : BinOp} {a b : ByteArray} {r : Value} (h : binS op a b = some r) (P : Program) (t : TypeId) (w : World) : (binOp op t (.string a) (.string b)).run P w = .ok r w := by
  cases op <;> simp [binS] at h <;> subst h <;> simp [binOp, Op.stringOp, seq]

/-- The equality of values, as one Bool. -/
def eqFs (part : TypeId → Nat → Array Value → Option Value) (f : TypeId → Value → Value → Option Bool) (xs ys : Array Value) : List Field → Option Bool
  | [] => some true
  | fd :: l => match part fd.type fd.offset xs with
    | some a => match part fd.type fd.offset ys with
      | some b => match f fd.type a b with
        | some r => match eqFs part f xs ys l with
          | some q => some (r && q)
          | none => none
        | none => none
      | none => none
    | none => none
/-- A part of an aggregate, as a value of a type. -/
def partL (ti : TI) (cs : List Value) (o : Nat) : Option Value :=
  match ti.isAgg with
  | true => match decide (o + ti.size ≤ cs.length) with | true => some (.agg ((cs.drop o).take ti.size).toArray) | false => none
  | false => cs[o]?
def partT (tb : Tab) (t : TypeId) (o : Nat) (xs : Array Value) : Option Value := match tb.at t with | some ti => partL ti xs.toList o | none => none
def eqV (tb : Tab) : Nat → TypeId → Value → Value → Option Bool
  | 0, _, _, _ => none
  | n + 1, t, x, y => match tb.at t with
    | none => none
    | some ti => match ti.desc with
      | .bool => match x, y with | .bool a, .bool b => some (a == b) | _, _ => none
      | .int _ => match x, y with | .int k a, .int k' b => (match decide (k = k') with | true => some (decide (a = b)) | false => none) | _, _ => none
      | .string => match x, y with | .string a, .string b => some (seq a b) | _, _ => none
      | .struct fs => match x, y with
        | .agg xs, .agg ys => match ti.eq with | true => eqFs (partT tb) (eqV tb n) xs ys fs.toList | false => none
        | _, _ => none
      | _ => none

/-- All are plain values. -/
def vals : List AV → Option (List Value)
  | [] => some []
  | .v x :: l => match vals l with | some xs => some (x :: xs) | none => none
  | _ => none
theorem vals_eq : ∀ {l : List AV} {xs : List Value}, vals l = some xs → l = xs.map .v
  | [], xs, h => by simp [vals] at h; subst h; rfl
  | .v x :: l, xs, h => by
    simp only [vals] at h
    cases hv : vals l with
    | none => simp [hv] at h
    | some ys => simp [hv] at h; subst h; rw [vals_eq hv]; rfl
  | .bp _ _ :: _, _, h => by simp [vals] at h
  | .fn _ _ :: _, _, h => by simp [vals] at h
  | .el _ _ :: _, _, h => by simp [vals] at h
  | .junk :: _, _, h => by simp [vals] at h

def AV.one : AV → Bool
  | .v x => x.oneCell'
  | .junk => false
  | _ => true
theorem AV.one_rel {ρ : Nat → Nat} {a : AV} {x : Value} (h : a.one = true) (hr : rel ρ a x) : x.oneCell' = true := by
  cases a with
  | v y => simp only [rel] at hr; subst hr; exact h
  | bp i o => simp only [rel] at hr; subst hr; rfl
  | fn f c => simp only [rel] at hr; subst hr; rfl
  | el A o => obtain ⟨a, _, rfl⟩ := hr; rfl
  | junk => cases h
theorem one_all {ρ : Nat → Nat} : ∀ {l : List AV} {m : List Value}, l.all AV.one = true → RelL ρ l m → ∀ x ∈ m, x.oneCell' = true
  | [], [], _, _, x, hx => by cases hx
  | a :: l, y :: m, h, hr, x, hx => by
    simp at h
    cases hx with
    | head => exact AV.one_rel h.1 hr.1
    | tail _ hx => exact one_all (by simpa using h.2) hr.2 x hx

/-- The cells of a value that is stored. -/
def cellsA : AV → List AV
  | .v (.agg cs) => cs.toList.map .v
  | a => [a]
theorem cellsA_rel {ρ : Nat → Nat} {a : AV} {x : Value} (h : rel ρ a x) (h1 : (cellsA a).all AV.one = true) : RelL ρ (cellsA a) x.cells.toList := by
  cases a with
  | v y =>
    simp only [rel] at h; subst h
    cases x with
    | agg cs => exact RelL.vs _
    | tuple vs => simp [cellsA, AV.one, Value.oneCell'] at h1
    | _ => exact ⟨rfl, trivial⟩
  | bp i o => simp only [rel] at h; subst h; exact ⟨rfl, trivial⟩
  | fn f c => simp only [rel] at h; subst h; exact ⟨rfl, trivial⟩
  | el A o => obtain ⟨b, hb, rfl⟩ := h; exact ⟨⟨b, hb, rfl⟩, trivial⟩
  | junk => simp [cellsA, AV.one] at h1
theorem cellsA_below {n : Nat} {a : AV} (h : a.below n) : Below' n (cellsA a) := by
  unfold cellsA
  split
  · intro b hb; simp at hb; obtain ⟨x, _, rfl⟩ := hb; trivial
  · intro b hb; simp at hb; subst hb; exact h

/-- A part of a row, as a value of a type. -/
def partA (ti : TI) (cs : List AV) (o : Nat) : Option AV :=
  match ti.isAgg with
  | true => match vals ((cs.drop o).take ti.size) with
    | some xs => match decide (xs.length = ti.size) with | true => some (.v (.agg xs.toArray)) | false => none
    | none => none
  | false => cs[o]?

theorem wp_val {P : Program} {o : Oper} {a : Act} {w w' : World} {nx : Act → World → Prop} {Q : Exit → Act → World → Prop} {x : Value} (h : (execOp a.eval o).run P w = .ok (.value x) w') (hn : nx (a.put o.dst x) w') : o.wp P a w nx Q := by
  unfold Oper.wp; rw [h]; exact hn
theorem wp_skp {P : Program} {o : Oper} {a : Act} {w w' : World} {nx : Act → World → Prop} {Q : Exit → Act → World → Prop} (h : (execOp a.eval o).run P w = .ok .skip w') (hn : nx (a.put o.dst undef) w') : o.wp P a w nx Q := by
  unfold Oper.wp; rw [h]; exact hn

/-! ### 5. Evaluation, made strict -/
def forceV (x : Value) (k : Value → Prop) : Prop :=
  match x with
  | .bool b => k (.bool b)
  | .int q n => k (.int q n)
  | .string t => k (.string t)
  | .pointer a => k (.pointer a)
  | .slice a n c => k (.slice a n c)
  | .agg cs => k (.agg cs)
  | .tuple vs => k (.tuple vs)
  | y => k y
theorem forceV_eq (x : Value) (k : Value → Prop) : forceV x k = k x := by cases x <;> rfl
def forceA (a : AV) (k : AV → Prop) : Prop :=
  match a with
  | .v x => forceV x fun x => k (.v x)
  | .bp i o => k (.bp i o)
  | .fn f c => k (.fn f c)
  | .el A o => k (.el A o)
  | .junk => k .junk
theorem forceA_eq (a : AV) (k : AV → Prop) : forceA a k = k a := by cases a <;> simp [forceA, forceV_eq]
def forceL : List AV → (List AV → Prop) → Prop
  | [], k => k []
  | a :: l, k => forceA a fun a => forceL l fun l => k (a :: l)
theorem forceL_eq : ∀ (l : List AV) (k : List AV → Prop), forceL l k = k l
  | [], _ => rfl
  | a :: l, k => by simp only [forceL, forceA_eq, forceL_eq l]
def forceT : List AV → (List AV → Prop) → Prop
  | [], k => k []
  | a :: l, k => forceT l fun l => k (a :: l)
theorem forceT_eq : ∀ (l : List AV) (k : List AV → Prop), forceT l k = k l
  | [], _ => rfl
  | a :: l, k => by simp only [forceT, forceT_eq l]
def forceB : List Box → (List Box → Prop) → Prop
  | [], k => k []
  | ⟨ty, cs⟩ :: l, k => forceB l fun l => k (⟨ty, cs⟩ :: l)
theorem forceB_eq : ∀ (l : List Box) (k : List Box → Prop), forceB l k = k l
  | [], _ => rfl
  | ⟨ty, cs⟩ :: l, k => by simp only [forceB, forceB_eq l]
def forceN : Nat → (Nat → Prop) → Prop
  | 0, k => k 0
  | n + 1, k => forceN n fun n => k (n + 1)
theorem forceN_eq : ∀ (n : Nat) (k : Nat → Prop), forceN n k = k n
  | 0, _ => rfl
  | n + 1, k => by simp only [forceN, forceN_eq n]

/-! ### 6. One operation -/
/-- What is known of the cell at an address. -/
def PH.cell (M : PH) (p : Addr) : Option Value :=
  match M p.block with
  | some (.cells c _ _) => if p.spot.isSome then none else c[p.off]?
  | _ => none
theorem PH.In.cell {M : PH} {w : World} (h : M.In w) {p : Addr} {x : Value} (hp : M.cell p = some x) : w.cell? p = some x := by
  unfold PH.cell at hp
  split at hp
  · rename_i c t fz hm
    simp only [World.cell?, h _ _ hm]
    exact hp
  · cases hp
/-- From cell o of a row on there stand these cells. -/
def PH.cells (M : PH) (A : Option Addr) (o : Nat) (cs : List Value) : Prop := ∃ a, A = some a ∧ ∀ (j : Nat) x, cs[j]? = some x → M.cell (a.add (o + j)) = some x

def loadEl (ti : TI) (M : PH) (A : Option Addr) (o : Nat) (k : AV → Prop) : Prop :=
  match ti.isAgg with
  | true => ∃ cs : List Value, M.cells A o cs ∧ cs.length = ti.size ∧ k (.v (.agg cs.toArray))
  | false => ∃ x : Value, M.cells A o [x] ∧ k (.v x)

/-- A store into what is known. -/
def spl (cells : List Value) (off : Nat) (l : List Value) : List Value := cells.take off ++ l ++ cells.drop (off + l.length)
def storeEl (ti : TI) (A : Option Addr) (o : Nat) (y : AV) (M : PH) (k : PH → Prop) : Prop :=
  match vals (cellsA y) with
  | some xs => match xs.all Value.oneCell' && decide (xs.length = ti.size) with
    | true => ∃ (g : Nat) (off : Nat) (c : List Value) (ty : TypeId) (fz : Nat × Nat), A = some ⟨g, off, none⟩ ∧ M g = some (.cells c.toArray ty fz) ∧ (off + o + xs.length ≤ c.length ∧ (fz.2 ≤ off + o ∨ off + o + xs.length ≤ fz.1)) ∧ k (M.set g (.cells (spl c (off + o) xs).toArray ty fz))
    | false => Stuck "store: cells"
  | none => Stuck "store: values"

def addrA (a : AV) (kb : Nat → Nat → Prop) (ke : Option Addr → Nat → Prop) : Prop :=
  match a with
  | .bp i o => kb i o
  | .el A o => ke A o
  | .v (.pointer (some p)) => ke (some p) 0
  | _ => Stuck "an address"

/-! Building. -/
def fillL (place : Nat → Option (Nat × Nat)) : List Value → List (Nat × Value) → Option (List Value)
  | cells, [] => some cells
  | cells, (i, v) :: rest => match place i with
    | none => none
    | some (off, size) => match decide (v.cells.size = size) && decide (off + v.cells.size ≤ cells.length) with
      | true => fillL place (spl cells off v.cells.toList) rest
      | false => none
def placesA (E : Env) : List Field → Option (List (Nat × Nat))
  | [] => some []
  | f :: l => match E.tb.at f.type with
    | some tf => match placesA E l with
      | some ps => some ((f.offset, tf.size) :: ps)
      | none => none
    | none => none
def zipP : List (Nat × Operand) → List Value → List (Nat × Value)
  | (i, _) :: l, v :: vs => (i, v) :: zipP l vs
  | _, _ => []
def forceVs : List Value → (List Value → Prop) → Prop
  | [], k => k []
  | x :: l, k => forceV x fun x => forceVs l fun l => k (x :: l)
theorem forceVs_eq : ∀ (l : List Value) (k : List Value → Prop), forceVs l k = k l
  | [], _ => rfl
  | x :: l, k => by simp only [forceVs, forceV_eq, forceVs_eq l]
/-- The same, each step reckoned at once. -/
def fillP (place : Nat → Option (Nat × Nat)) : List Value → List (Nat × Value) → (List Value → Prop) → Prop
  | cells, [], k => k cells
  | cells, (i, v) :: rest, k => match place i with
    | none => Stuck "build: place"
    | some (off, size) => match decide (v.cells.size = size) && decide (off + v.cells.size ≤ cells.length) with
      | true => forceVs (spl cells off v.cells.toList) fun cells => fillP place cells rest k
      | false => Stuck "build: size"
theorem fillP_out {place : Nat → Option (Nat × Nat)} {k : List Value → Prop} : ∀ {parts : List (Nat × Value)} {cells : List Value}, fillP place cells parts k → ∃ r, fillL place cells parts = some r ∧ k r
  | [], cells, h => ⟨cells, rfl, h⟩
  | (i, v) :: rest, cells, h => by
    simp only [fillP] at h
    simp only [fillL]
    cases hp : place i with
    | none => rw [hp] at h; exact h.out.elim
    | some q =>
      rw [hp] at h
      simp only at h ⊢
      cases hc : (decide (v.cells.size = q.2) && decide (q.1 + v.cells.size ≤ cells.length)) with
      | true => rw [hc] at h; simp only [forceVs_eq] at h ⊢; exact fillP_out h
      | false => rw [hc] at h; exact h.out.elim
def buildP (E : Env) (ti : TI) (parts : List (Nat × Value)) (k : List Value → Prop) : Prop :=
  match ti.desc with
  | .struct fs => match placesA E fs.toList with
    | some ps => forceVs ti.zero.cells.toList fun cells => fillP (fun i => ps[i]?) cells parts k
    | none => Stuck "build: places"
  | .array _ e => match E.tb.at e with
    | some te => forceVs ti.zero.cells.toList fun cells => fillP (fun i => some (i * te.size, te.size)) cells parts k
    | none => Stuck "build: places"
  | _ => Stuck "build"
/-- Byte i of a text. -/
def bt (s : ByteArray) (i : Int) : Int := ((s.data.toList.getD i.toNat 0).toNat : Int)
/-- Where a cut of a slice begins. -/
def subA (A : Option Addr) (l sz m : Nat) : Option Addr := if m = l then A else A.map (·.add (l * sz))
def capsA : List AV → Option (List Nat)
  | [] => some []
  | .bp i 0 :: l => match capsA l with | some is => some (i :: is) | none => none
  | _ => none
/-- An index in its bounds. -/
def intV (a : AV) (k : Int → Prop) : Prop := match a with | .v (.int _ j) => k j | _ => Stuck "an index"
def optI (s : St) (x : Option Operand) (d : Int) (k : Int → Prop) : Prop := match x with | none => k d | some x => intV (ev s.t x) k

def heavyB : Builtin → Bool | .append | .copy | .clear => true | _ => false
/-- n elements' zeros. -/
def zerosL (te : TI) (n : Nat) : List Value := (List.replicate n te.zero.cells.toList).flatten
/-- What an append of m elements (their cells: news) onto a slice owes. -/
def appVC (te : TI) (e : TypeId) (A : Option Addr) (n c m : Nat) (news : List Value) (M : PH) (k : AV → PH → Prop) : Prop :=
  ∃ olds : List Value, olds.length = n * te.size ∧ (n = 0 ∨ M.cells A 0 olds) ∧ (n + m) * te.bytes ≤ 140737488355328 ∧ n + m ≤ 9223372036854775807 ∧
    (c < n + m → ∀ (g c' : Nat), M g = none → n + m ≤ c' → k (.v (.slice (some ⟨g, 0, none⟩) (n + m) c')) (M.set g (.cells (olds ++ news ++ zerosL te (c' - (n + m))).toArray e (0, 0)))) ∧
    (n + m ≤ c → (m = 0 ∧ k (.v (.slice A n c)) M) ∨ ∃ (g off : Nat) (cells : List Value) (ty : TypeId) (fz : Nat × Nat), A = some ⟨g, off, none⟩ ∧ M g = some (.cells cells.toArray ty fz) ∧ (off + (n + m) * te.size ≤ cells.length ∧ (fz.2 ≤ off + n * te.size ∨ off + (n + m) * te.size ≤ fz.1)) ∧
      news.all Value.oneCell' = true ∧ k (.v (.slice A (n + m) c)) (M.set g (.cells (spl cells (off + n * te.size) news).toArray ty fz)))
/-- What a write of these cells at a slice's head owes. -/
def putCVC (A : Option Addr) (cs : List Value) (M : PH) (k : PH → Prop) : Prop :=
  (cs = [] ∧ k M) ∨ ∃ (g off : Nat) (cells : List Value) (ty : TypeId), A = some ⟨g, off, none⟩ ∧ M g = some (.cells cells.toArray ty (0, 0)) ∧ off + cs.length ≤ cells.length ∧ cs.all Value.oneCell' = true ∧
    k (M.set g (.cells (spl cells off cs).toArray ty (0, 0)))
def hvVC (E : Env) (b : Builtin) (ts : List TypeId) (xs : List AV) (M : PH) (k : AV → PH → Prop) : Prop :=
  match b with
  | .append => match ts with
    | [t, t'] => match xs with
      | [.v (.slice A n c), y] => match E.tb.at t with
        | some ti => match ti.desc with
          | .slice e => match E.tb.at e with
            | some te => match decide (te.zero.cells.size = te.size) with
              | true => match E.tb.at t' with
                | some ti' => match ti'.desc with
                  | .slice _ => match y with
                    | .v (.slice B m _) => ∃ news : List Value, news.length = m * te.size ∧ (m = 0 ∨ M.cells B 0 news) ∧ appVC te e A n c m news M k
                    | _ => Stuck "append: what"
                  | .int _ => match y with
                    | .v (.int _ l) => (0 ≤ l ∧ l ≤ 4611686018427387904) ∧ appVC te e A n c l.toNat (zerosL te l.toNat) M k
                    | _ => Stuck "append: what"
                  | .string => match y with
                    | .v (.string b) => match te.size with
                      | 1 => appVC te e A n c b.size (b.data.toList.map fun (x : UInt8) => Value.int .u8 (x.toNat : Int)) M k
                      | _ => Stuck "append: a string"
                    | _ => Stuck "append: what"
                  | _ => Stuck "append: what"
                | none => Stuck "append: type"
              | false => Stuck "append: zero"
            | none => Stuck "append: type"
          | _ => Stuck "append: type"
        | none => Stuck "append: type"
      | _ => Stuck "append: operands"
    | _ => Stuck "append: operands"
  | .copy => match ts with
    | [t, _] => match xs with
      | [.v (.slice A n _), y] => match E.tb.at t with
        | some ti => match ti.desc with
          | .slice e => match E.tb.at e with
            | some te => match y with
              | .v (.slice B m _) => ∃ cs : List Value, cs.length = Nat.min m n * te.size ∧ (Nat.min m n = 0 ∨ M.cells B 0 cs) ∧ putCVC A cs M fun M' => k (.v (.int .i64 (Nat.min m n : Nat))) M'
              | _ => Stuck "copy: what"
            | none => Stuck "copy: type"
          | _ => Stuck "copy: type"
        | none => Stuck "copy: type"
      | _ => Stuck "copy: operands"
    | _ => Stuck "copy: operands"
  | .clear => match ts with
    | [t] => match xs with
      | [.v (.slice A n _)] => match E.tb.at t with
        | some ti => match ti.desc with
          | .slice e => match E.tb.at e with
            | some te => (n = 0 ∧ k (.v (.tuple #[])) M) ∨ (n ≠ 0 ∧ putCVC A (zerosL te n) M fun M' => k (.v (.tuple #[])) M')
            | none => Stuck "clear: type"
          | _ => Stuck "clear: type"
        | none => Stuck "clear: type"
      | _ => Stuck "clear: operands"
    | _ => Stuck "clear: operands"
  | _ => Stuck "builtin"
def biVC (E : Env) (b : Builtin) (ts : List TypeId) (xs : List AV) (k : AV → Prop) : Prop :=
  match b with
  | .len => match ts with
    | [t] => match xs with
      | [x] => match E.tb.at t with
        | some ti => match ti.desc with
          | .string => match x with
            | .v (.string b) => k (.v (.int .i64 b.size))
            | _ => Stuck "len: string"
          | .slice _ => match x with
            | .v (.slice _ n _) => k (.v (.int .i64 n))
            | _ => Stuck "len: slice"
          | _ => Stuck "len"
        | none => Stuck "len: type"
      | _ => Stuck "len"
    | _ => Stuck "len"
  | .cap => match ts with
    | [t] => match xs with
      | [x] => match E.tb.at t with
        | some ti => match ti.desc with
          | .slice _ => match x with
            | .v (.slice _ _ c) => k (.v (.int .i64 c))
            | _ => Stuck "cap: slice"
          | _ => Stuck "cap"
        | none => Stuck "cap: type"
      | _ => Stuck "cap"
    | _ => Stuck "cap"
  | .min => match xs with
    | [.v (.int q a), .v (.int _ b)] => k (.v (.int q (if b < a then b else a)))
    | _ => Stuck "min"
  | .max => match xs with
    | [.v (.int q a), .v (.int _ b)] => k (.v (.int q (if a < b then b else a)))
    | _ => Stuck "max"
  | _ => Stuck "builtin"

def stepVC (E : Env) (op : Op) (s : St) (M : PH) (k : K1) : Prop :=
  match op with
  | .move x | .assign x => k (ev s.t x) s.bx M
  | .pick c a b => match ev s.t c with
    | .v (.bool d) => caseB d (k (ev s.t a) s.bx M) (k (ev s.t b) s.bx M)
    | _ => Stuck "pick"
  | .alloc t => match E.tb.at t with
    | some ti => forceL (ti.zero.cells.toList.map .v) fun cs => forceN s.bx.length fun n => k (.bp n 0) (s.bx ++ [⟨t, cs⟩]) M
    | none => Stuck "alloc"
  | .box t x => forceL (cellsA (ev s.t x)) fun cs => match cs.all AV.one with
    | true => forceN s.bx.length fun n => k (.bp n 0) (s.bx ++ [⟨t, cs⟩]) M
    | false => Stuck "box"
  | .load t x => match E.tb.at t with
    | none => Stuck "load: type"
    | some ti => addrA (ev s.t x)
      (fun i o => match s.bx[i]? with
        | some b => match partA ti b.cs o with
          | some av => match av with
            | .junk => Stuck "load: nothing known"
            | av => k av s.bx M
          | none => Stuck "load: part"
        | none => Stuck "load: box")
      (fun A o => loadEl ti M A o fun av => k av s.bx M)
  | .store t x y => match E.tb.at t with
    | none => Stuck "store: type"
    | some ti => match ev s.t x with
      | .bp i o => match s.bx[i]? with
        | some b => forceL (cellsA (ev s.t y)) fun cs => match cs.all AV.one && decide (cs.length = ti.size) && decide (o + cs.length ≤ b.cs.length) with
          | true => forceL (b.cs.take o ++ cs ++ b.cs.drop (o + cs.length)) fun cs' => k (.v undef) (s.bx.set i ⟨b.ty, cs'⟩) M
          | false => Stuck "store: cells"
        | none => Stuck "store: box"
      | .el A o => storeEl ti A o (ev s.t y) M fun M' => k (.v undef) s.bx M'
      | .v (.pointer (some p)) => storeEl ti (some p) 0 (ev s.t y) M fun M' => k (.v undef) s.bx M'
      | _ => Stuck "store: address"
  | .fieldAddr t x f => match E.tb.at t with
    | none => Stuck "fieldAddr: type"
    | some ti => match ti.fields[f]? with
      | none => Stuck "fieldAddr: field"
      | some fd => match E.tb.at fd.type with
        | none => Stuck "fieldAddr: field's type"
        | some tf => match decide (tf.size = 0) with
          | true => Stuck "fieldAddr: size 0"
          | false => addrA (ev s.t x) (fun i o => forceN (o + fd.offset) fun o => k (.bp i o) s.bx M) (fun A o => k (.el A (o + fd.offset)) s.bx M)
  | .nilCheck x => match ev s.t x with
    | .bp i o => k (.bp i o) s.bx M
    | .el A o => k (.el A o) s.bx M
    | .v (.pointer (some p)) => k (.v (.pointer (some p))) s.bx M
    | .fn f c => k (.fn f c) s.bx M
    | _ => Stuck "nilCheck"
  | .binOp op t x y _ => match ev s.t x, ev s.t y with
    | .v (.int q a), .v (.int q' b) => match decide (q = q') with
      | true => match binI op q a b with
        | some r => k (.v r) s.bx M
        | none => match op with
          | .quo => b ≠ 0 ∧ k (.v (.int q (q.wrap (a.tdiv b)))) s.bx M
          | .rem => b ≠ 0 ∧ k (.v (.int q (a.tmod b))) s.bx M
          | _ => Stuck "binOp: int"
      | false => Stuck "binOp: kinds"
    | .v (.string a), .v (.string b) => match binS op a b with
      | some r => k (.v r) s.bx M
      | none => match op with
        | .add => ((a.size + b.size : Nat) : Int) ≤ IntKind.i64.max ∧ k (.v (.string (a ++ b))) s.bx M
        | _ => Stuck "binOp: string"
    | .v (.bool a), .v (.bool b) => match E.tb.at t with
      | some ti => match ti.desc with
        | .bool => match op with
          | .eql => k (.v (.bool (a == b))) s.bx M
          | .neq => k (.v (.bool (!(a == b)))) s.bx M
          | _ => Stuck "binOp: bool"
        | _ => Stuck "binOp: bool's type"
      | none => Stuck "binOp: bool's type"
    | .v (.agg xs), .v (.agg ys) => match op with
      | .eql => match eqV E.tb 9 t (.agg xs) (.agg ys) with
        | some r => k (.v (.bool r)) s.bx M
        | none => Stuck "binOp: struct"
      | .neq => match eqV E.tb 9 t (.agg xs) (.agg ys) with
        | some r => k (.v (.bool (!r))) s.bx M
        | none => Stuck "binOp: struct"
      | _ => Stuck "binOp: struct"
    | .v (.pointer A), .v (.pointer none) => match E.tb.at t with
      | some ti => match ti.desc with
        | .pointer _ => match op with
          | .eql => k (.v (.bool A.isNone)) s.bx M
          | .neq => k (.v (.bool (!A.isNone))) s.bx M
          | _ => Stuck "binOp: pointer"
        | _ => Stuck "binOp: pointer's type"
      | none => Stuck "binOp: pointer's type"
    | .v (.slice A _ _), .v (.slice none _ _) => match E.tb.at t with
      | some ti => match ti.desc with
        | .slice _ => match op with
          | .eql => k (.v (.bool A.isNone)) s.bx M
          | .neq => k (.v (.bool (!A.isNone))) s.bx M
          | _ => Stuck "binOp: slice"
        | _ => Stuck "binOp: slice's type"
      | none => Stuck "binOp: slice's type"
    | _, _ => Stuck "binOp"
  | .unOp op _ x => match op, ev s.t x with
    | .not, .v (.bool b) => k (.v (.bool (!b))) s.bx M
    | .neg, .v (.int q n) => k (.v (.int q (q.wrap (0 - n)))) s.bx M
    | _, _ => Stuck "unOp"
  | .build t parts => match E.tb.at t with
    | some ti => match vals (parts.toList.map fun p => ev s.t p.2) with
      | some vs => buildP E ti (zipP parts.toList vs) fun cells => k (.v (.agg cells.toArray)) s.bx M
      | none => Stuck "build: parts"
    | none => Stuck "build: type"
  | .field t x f => match E.tb.at t with
    | some ti => match ti.fields[f]? with
      | some fd => match E.tb.at fd.type with
        | some tf => match ev s.t x with
          | .v (.agg cs) => match partL tf cs.toList fd.offset with
            | some y => k (.v y) s.bx M
            | none => Stuck "field"
          | _ => Stuck "field: value"
        | none => Stuck "field: type"
      | none => Stuck "field: type"
    | none => Stuck "field: type"
  | .index t x i => match E.tb.at t with
    | some ti => intV (ev s.t i) fun j => match ti.desc, ev s.t x with
      | .string, .v (.string b) => 0 ≤ j ∧ j < b.size ∧ k (.v (.int .u8 (bt b j))) s.bx M
      | .array n e, .v (.agg cs) => match E.tb.at e with
        | some te => match te.isAgg with
          | false => match te.size with
            | 1 => 0 ≤ j ∧ j < n ∧ ∃ y, cs.toList[j.toNat]? = some y ∧ k (.v y) s.bx M
            | _ => Stuck "index: element"
          | true => Stuck "index: element"
        | none => Stuck "index: type"
      | _, _ => Stuck "index: value"
    | none => Stuck "index: type"
  | .indexAddr t x i => match E.tb.at t with
    | some ti => intV (ev s.t i) fun j => match ti.desc, ev s.t x with
      | .slice e, .v (.slice A n c) => match E.tb.at e with
        | some te => 0 ≤ j ∧ j < n ∧ A.isSome = true ∧ k (.el A (j.toNat * te.size)) s.bx M
        | none => Stuck "indexAddr: type"
      | .array n e, .bp i o => match E.tb.at e with
        | some te => 0 ≤ j ∧ j < n ∧ forceN (o + j.toNat * te.size) fun o => k (.bp i o) s.bx M
        | none => Stuck "indexAddr: type"
      | _, _ => Stuck "indexAddr: value"
    | none => Stuck "indexAddr: type"
  | .slice t x lo hi mx => match E.tb.at t with
    | some ti => match ti.desc with
      | .slice e => match E.tb.at e with
        | some te => match ev s.t x with
          | .v (.slice A n c) => match mx with
            | none => optI s lo 0 fun l => match hi with
              | none => (0 ≤ l ∧ l ≤ n) ∧ k (.v (.slice (subA A l.toNat te.size c) (n - l.toNat) (c - l.toNat))) s.bx M
              | some hi => intV (ev s.t hi) fun h => (0 ≤ l ∧ l ≤ h ∧ h ≤ c) ∧ k (.v (.slice (subA A l.toNat te.size c) (h.toNat - l.toNat) (c - l.toNat))) s.bx M
            | some mx => match hi with
              | none => Stuck "slice: max"
              | some hi => optI s lo 0 fun l => intV (ev s.t hi) fun h => intV (ev s.t mx) fun m => (0 ≤ l ∧ l ≤ h ∧ h ≤ m ∧ m ≤ c) ∧ k (.v (.slice (subA A l.toNat te.size m.toNat) (h.toNat - l.toNat) (m.toNat - l.toNat))) s.bx M
          | _ => Stuck "slice: value"
        | none => Stuck "slice: type"
      | .string => match ev s.t x with
        | .v (.string b) => match mx with
          | none => optI s lo 0 fun l => match hi with
            | none => (0 ≤ l ∧ l ≤ b.size) ∧ k (.v (.string (b.extract l.toNat b.size))) s.bx M
            | some hi => intV (ev s.t hi) fun h => (0 ≤ l ∧ l ≤ h ∧ h ≤ b.size) ∧ k (.v (.string (b.extract l.toNat h.toNat))) s.bx M
          | some _ => Stuck "slice: max of a string"
        | _ => Stuck "slice: value"
      | _ => Stuck "slice: type"
    | none => Stuck "slice: type"
  | .makeFunc f first captured => match f, first.toList with
    | .func g, [] => match capsA (captured.toList.map (ev s.t)) with
      | some is => k (.fn g is) s.bx M
      | none => Stuck "makeFunc: captured"
    | _, _ => Stuck "makeFunc"
  | .convert src dst x => match E.tb.at src with
    | some ts => match E.tb.at dst with
      | some td => match ts.desc with
        | .int _ => match td.desc with
          | .int q => match ev s.t x with
            | .v (.int _ n) => k (.v (.int q (q.wrap n))) s.bx M
            | _ => Stuck "convert: value"
          | _ => Stuck "convert"
        | .string => match td.desc with
          | .string => match ev s.t x with
            | .v (.string b) => k (.v (.string b)) s.bx M
            | _ => Stuck "convert: value"
          | .slice e => match E.tb.at e with
            | some te => match te.desc with
              | .int .u8 => match ev s.t x with
                | .v (.string b) => ∀ (g c : Nat), M g = none → b.size ≤ c →
                  k (.v (.slice (some ⟨g, 0, none⟩) b.size c)) s.bx (M.set g (.cells (b.data.toList.map (fun (x : UInt8) => Value.int .u8 (x.toNat : Int)) ++ List.replicate (c - b.size) (Value.int .u8 0)).toArray e (c, c + 1)))
                | _ => Stuck "convert: value"
              | _ => Stuck "convert: string to what"
            | none => Stuck "convert: type"
          | _ => Stuck "convert: string to what"
        | .slice e => match E.tb.at e with
          | some te => match te.desc with
            | .int .u8 => match td.desc with
              | .string => match ev s.t x with
                | .v (.slice A n _) => ∃ bs : List Int, (bs.length = n ∧ (n = 0 ∨ M.cells A 0 (bs.map (.int .u8)))) ∧ k (.v (.string (strOfNums bs))) s.bx M
                | _ => Stuck "convert: value"
              | _ => Stuck "convert: bytes to what"
            | _ => Stuck "convert: slice"
          | none => Stuck "convert: type"
        | _ => Stuck "convert"
      | none => Stuck "convert: type"
    | none => Stuck "convert: type"
  | .buildSlice t len parts => match E.tb.at t with
    | some ti => match ti.desc with
      | .slice e => match E.tb.at e with
        | some te => match decide (te.zero.cells.size = te.size) && (decide (len * te.size ≤ 16777216) && (decide (len = 0) || !decide (len * te.size = 0))) with
          | true => match vals (parts.toList.map fun p => ev s.t p.2) with
            | some vs => forceVs (List.replicate len te.zero.cells.toList).flatten fun cells => fillP (fun i => some (i * te.size, te.size)) cells (zipP parts.toList vs) fun cells =>
              ∀ g, M g = none → k (.v (.slice (some ⟨g, 0, none⟩) len len)) s.bx (M.set g (.cells cells.toArray e (0, 0)))
            | none => Stuck "buildSlice: parts"
          | false => Stuck "buildSlice: size"
        | none => Stuck "buildSlice: type"
      | _ => Stuck "buildSlice: type"
    | none => Stuck "buildSlice: type"
  | .makeSlice t l c => match E.tb.at t with
    | some ti => match ti.desc with
      | .slice e => match E.tb.at e with
        | some te => intV (ev s.t l) fun n => intV (ev s.t c) fun m => n = m ∧ 0 ≤ n ∧ (te.bytes : Int) * n ≤ 281474976710656 ∧ n ≤ 9223372036854775807 ∧
          ∀ g, M g = none → k (.v (.slice (some ⟨g, 0, none⟩) n.toNat n.toNat)) s.bx (M.set g (.cells (madeCells te.zero.cells (n.toNat * te.size)) e (0, 0)))
        | none => Stuck "makeSlice"
      | _ => Stuck "makeSlice"
    | none => Stuck "makeSlice"
  | .extract x i => match ev s.t x with
    | .v (.tuple vs) => match vs.toList[i]? with
      | some y => k (.v y) s.bx M
      | none => Stuck "extract"
    | _ => Stuck "extract"
  | .call c => match c.callee with
    | .value f => match ev s.t f with
      | .fn g cap => forceL (c.args.toList.map (ev s.t) ++ cap.map (fun i => .bp i 0)) fun as => XCall E g as s.bx M fun r bx' M' => k (.v r) bx' M'
      | .v (.func (.func g) ⟨[]⟩ ⟨cap⟩) => forceL (c.args.toList.map (ev s.t) ++ cap.map .v) fun as => XCall E g as s.bx M fun r bx' M' => k (.v r) bx' M'
      | _ => Stuck "call: value"
    | .builtin b => match heavyB b with
      | true => hvVC E b c.argTypes.toList (c.args.toList.map (ev s.t)) M fun av M' => k av s.bx M'
      | false => biVC E b c.argTypes.toList (c.args.toList.map (ev s.t)) fun av => k av s.bx M
    | _ => Stuck "call"
  | _ => Stuck "operation"

/-! ### 7. It is so -/
theorem vals_rel {ρ : Nat → Nat} {l : List AV} {xs m : List Value} (hv : vals l = some xs) (h : RelL ρ l m) : m = xs := by
  rw [vals_eq hv] at h; exact RelL.vs_eq h
theorem getL_rel {ρ : Nat → Nat} {l : List AV} {m : List Value} (h : RelL ρ l m) {i : Nat} {a : AV} (ha : l[i]? = some a) : ∃ x, m[i]? = some x ∧ rel ρ a x := h.get i a ha
theorem add_at (b o j : Nat) : (⟨b, o, none⟩ : Addr).add j = ⟨b, o + j, none⟩ := by unfold Addr.add; split <;> simp_all
theorem add_add (a : Addr) (i j : Nat) : (a.add i).add j = a.add (i + j) := by
  unfold Addr.add
  by_cases hi : i = 0 <;> by_cases hj : j = 0 <;> simp [hi, hj, Nat.add_assoc]

/-- A load out of a row that stands whole. -/
theorem run_load_part {P : Program} {t : TypeId} {ti : TI} (ht : TI.Ok P t ti) {g o : Nat} {cs : Array Value} {ty : TypeId} {fz : Nat × Nat} {ρ : Nat → Nat} {l : List AV}
    (hl : RelL ρ l cs.toList) {av : AV} (hp : partA ti l o = some av) : ∃ x, rel ρ av x ∧ ∀ w : World, w.heap[g]? = some (.cells cs ty fz) → (loadVar t ⟨g, o, none⟩).run P w = .ok x w := by
  unfold partA at hp
  have hcell : ∀ (w : World), w.heap[g]? = some (.cells cs ty fz) → ∀ j, w.cell? ⟨g, j, none⟩ = cs[j]? := fun w hg j => by simp [World.cell?, hg]
  cases hA : ti.isAgg with
  | true =>
    rw [hA] at hp
    simp only at hp
    cases hv : vals ((l.drop o).take ti.size) with
    | none => rw [hv] at hp; simp at hp
    | some xs =>
      rw [hv] at hp
      simp only at hp
      split at hp
      · rename_i hlen
        have hlen := of_decide_eq_true hlen
        simp at hp; subst hp
        have hm := vals_rel hv ((hl.drop o).take ti.size)
        refine ⟨.agg xs.toArray, rfl, fun w hg => ?_⟩
        have hr := run_loadCells_list (P := P) (w := w) ⟨g, o, none⟩ xs (fun j v hj => by
          rw [add_at, hcell w hg]
          rw [← hm, List.getElem?_take] at hj
          split at hj
          · rw [List.getElem?_drop] at hj; simpa using hj
          · cases hj)
        rw [hlen] at hr
        simp only [loadVar, Sem.run_bind, ht.run_agg, Result.andThen_ok, hA, if_true, ht.run_size, hr, Sem.run_pure]
      · cases hp
  | false =>
    rw [hA] at hp
    simp only at hp
    obtain ⟨x, hx, hr⟩ := hl.get o av hp
    refine ⟨x, hr, fun w hg => ?_⟩
    have : w.cell? ⟨g, o, none⟩ = some x := by rw [hcell w hg]; simpa using hx
    simp only [loadVar, Sem.run_bind, ht.run_agg, Result.andThen_ok, hA, Bool.false_eq_true, if_false, run_load, this]

theorem partA_below {n : Nat} {ti : TI} {l : List AV} {o : Nat} {av : AV} (hl : Below' n l) (hp : partA ti l o = some av) : av.below n := by
  unfold partA at hp
  split at hp
  · split at hp
    · split at hp
      · simp at hp; subst hp; trivial
      · cases hp
    · cases hp
  · exact hl av (List.mem_of_getElem? hp)

/-- A load out of what is known. -/
theorem run_load_known {P : Program} {t : TypeId} {ti : TI} (ht : TI.Ok P t ti) {M : PH} {A : Option Addr} {o : Nat} {k : AV → Prop} (h : loadEl ti M A o k) :
    ∃ a x, A = some a ∧ k (.v x) ∧ ∀ w : World, M.In w → (loadVar t (a.add o)).run P w = .ok x w := by
  unfold loadEl at h
  cases hA : ti.isAgg with
  | true =>
    rw [hA] at h
    obtain ⟨cs, ⟨a, ha, hc⟩, hlen, hk⟩ := h
    refine ⟨a, .agg cs.toArray, ha, hk, fun w hM => ?_⟩
    have hr := run_loadCells_list (P := P) (w := w) (a.add o) cs (fun j v hj => by rw [add_add]; exact hM.cell (hc j v hj))
    rw [hlen] at hr
    simp only [loadVar, Sem.run_bind, ht.run_agg, Result.andThen_ok, hA, if_true, ht.run_size, hr, Sem.run_pure]
  | false =>
    rw [hA] at h
    obtain ⟨x, ⟨a, ha, hc⟩, hk⟩ := h
    refine ⟨a, x, ha, hk, fun w hM => ?_⟩
    have : w.cell? (a.add o) = some x := hM.cell (by simpa using hc 0 x rfl)
    simp only [loadVar, Sem.run_bind, ht.run_agg, Result.andThen_ok, hA, Bool.false_eq_true, if_false, run_load, this]

section sound
variable {C : Ctx} {ρ : Nat → Nat} {s : St} {M : PH} {a : Act} {w : World} {k : K1} {o : Oper} {nx : Act → World → Prop} {Q : Exit → Act → World → Prop}

/-- What the step's end is worth. -/
abbrev Nx (C : Ctx) (ρ : Nat → Nat) (s : St) (a : Act) (dst : Option Tmp) (k : K1) (nx : Act → World → Prop) : Prop :=
  ∀ ρ' av x bx' M' w', (∀ i, i < s.bx.length → ρ' i = ρ i) → Sim C ρ' ⟨s.t, bx'⟩ M' a w' → rel ρ' av x → av.below bx'.length → k av bx' M' → nx (a.put dst x) w'

/-- Another world in which the boxes and what is known are as they are. -/
structure Agree (ρ : Nat → Nat) (bx : List Box) (M : PH) (w' : World) : Prop where
  bx : BoxesAt ρ bx w'
  inn : M.In w'
def isLoad (tb : Tab) : Op → Bool
  | .load _ _ => true
  | .convert src _ _ => match tb.at src with
    | some ti => match ti.desc with | .slice _ => true | _ => false
    | none => false
  | _ => false
def isLight (tb : Tab) : Op → Bool
  | .move _ | .assign _ | .pick _ _ _ | .load _ _ | .fieldAddr _ _ _ | .nilCheck _ | .binOp _ _ _ _ _ | .unOp _ _ _ | .build _ _ | .field _ _ _ | .index _ _ _ | .indexAddr _ _ _ | .extract _ _ | .makeFunc _ _ _ => true
  | .slice _ _ _ _ _ => true
  | .convert src dst _ => match tb.at src with
    | some ti => match ti.desc with
      | .string => match tb.at dst with
        | some td => match td.desc with | .string => true | _ => false
        | none => false
      | _ => true
    | none => true
  | .call c => match c.callee with | .builtin b => !heavyB b | _ => false
  | _ => false
theorem rel_det {ρ : Nat → Nat} {a : AV} {x y : Value} (hj : a ≠ .junk) (hx : rel ρ a x) (hy : rel ρ a y) : x = y := by
  cases a with
  | v z => simp only [rel] at hx hy; rw [hx, hy]
  | bp i o => simp only [rel] at hx hy; rw [hx, hy]
  | fn f c => simp only [rel] at hx hy; rw [hx, hy]
  | el A o => obtain ⟨p, hp, rfl⟩ := hx; obtain ⟨q, hq, rfl⟩ := hy; rw [hp] at hq; cases hq; rfl
  | junk => exact absurd rfl hj
/-- The operation yields a value in every such world, and does nothing else. -/
def Yld (C : Ctx) (ρ : Nat → Nat) (s : St) (M : PH) (a : Act) (w : World) (o : Oper) (k : K1) : Prop :=
  ∃ x av, rel ρ av x ∧ av.below s.bx.length ∧ k av s.bx M ∧ ∀ w', (isLoad C.E.tb o.op = true → Agree ρ s.bx M w') → (execOp a.eval o).run C.E.P w' = .ok (.value x) w'
theorem Sim.agree (h : Sim C ρ s M a w) : Agree ρ s.bx M w := ⟨h.boxes, h.post.inn⟩
theorem so_of_li (h : Sim C ρ s M a w) (hn : Nx C ρ s a o.dst k nx) (hy : Yld C ρ s M a w o k) : o.wp C.E.P a w nx Q := by
  obtain ⟨x, av, hr, hb, hk, hx⟩ := hy
  exact wp_val (hx w fun _ => h.agree) (hn ρ av x s.bx M w (fun _ _ => rfl) h hr hb hk)
theorem li_pure {x : Value} {av : AV} (hr : rel ρ av x) (hb : av.below s.bx.length) (hx : ∀ w', (isLoad C.E.tb o.op = true → Agree ρ s.bx M w') → (execOp a.eval o).run C.E.P w' = .ok (.value x) w') (hk : k av s.bx M) : Yld C ρ s M a w o k :=
  ⟨x, av, hr, hb, hk, hx⟩

theorem li_move (x : Operand) (ho : o.op = .move x ∨ o.op = .assign x) (h : Sim C ρ s M a w) (hk : k (ev s.t x) s.bx M) : Yld C ρ s M a w o k :=
  li_pure (ev_rel h x) (ev_below h x) (fun _ _ => by rcases ho with ho | ho <;> simp [execOp, ho]) hk

theorem li_pick (c x y : Operand) (ho : o.op = .pick c x y) (h : Sim C ρ s M a w) (hk : stepVC C.E (.pick c x y) s M k) : Yld C ρ s M a w o k := by
  simp only [stepVC] at hk
  have hc := ev_rel h c
  split at hk
  · rename_i d hd
    rw [hd] at hc
    simp only [rel] at hc
    cases d with
    | true => exact li_pure (ev_rel h x) (ev_below h x) (fun _ _ => by simp [execOp, ho, hc, asBool]) (hk.yes rfl)
    | false => exact li_pure (ev_rel h y) (ev_below h y) (fun _ _ => by simp [execOp, ho, hc, asBool]) (hk.no rfl)
  · exact hk.out.elim

theorem so_new (ty : TypeId) (vs : Array Value) (cs : List AV) (h : Sim C ρ s M a w) (hr : RelL ρ cs vs.toList) (hb : Below' s.bx.length cs)
    (hx : (execOp a.eval o).run C.E.P w = .ok (.value (.pointer (some ⟨w.heap.size, 0, none⟩))) (w.alloc (.cells vs ty (0, 0)))) (hn : Nx C ρ s a o.dst k nx) (hk : k (.bp s.bx.length 0) (s.bx ++ [⟨ty, cs⟩]) M) : o.wp C.E.P a w nx Q := by
  obtain ⟨ρ', h1, h2, h3⟩ := sim_alloc h ty cs vs hr hb
  exact wp_val hx (hn ρ' _ _ _ M _ h1 h3 (by simp [rel, bptr, h2]) (by simp [AV.below]) hk)

theorem so_alloc (t : TypeId) (ho : o.op = .alloc t) (h : Sim C ρ s M a w) (hn : Nx C ρ s a o.dst k nx) (hk : stepVC C.E (.alloc t) s M k) : o.wp C.E.P a w nx Q := by
  simp only [stepVC] at hk
  split at hk
  · rename_i ti ht
    rw [forceL_eq, forceN_eq] at hk
    have ht := C.E.ok t ti ht
    refine so_new t ti.zero.cells _ h (RelL.vs _) (by intro b hb; simp at hb; obtain ⟨x, _, rfl⟩ := hb; trivial) ?_ hn hk
    simp [execOp, ho, Instr.alloc, ht.run_zero, newVar, newRow]
  · exact hk.out.elim

theorem so_box (t : TypeId) (x : Operand) (ho : o.op = .box t x) (h : Sim C ρ s M a w) (hn : Nx C ρ s a o.dst k nx) (hk : stepVC C.E (.box t x) s M k) : o.wp C.E.P a w nx Q := by
  simp only [stepVC] at hk
  rw [forceL_eq] at hk
  split at hk
  · rename_i h1
    rw [forceN_eq] at hk
    refine so_new t (a.eval x).cells _ h (cellsA_rel (ev_rel h x) h1) (cellsA_below (ev_below h x)) ?_ hn hk
    simp [execOp, ho, Instr.box, newVar, newRow]
  · exact hk.out.elim

theorem addrA_cases {a : AV} {kb : Nat → Nat → Prop} {ke : Option Addr → Nat → Prop} {x : Value} (h : addrA a kb ke) (hr : rel ρ a x) :
    (∃ i o, a = .bp i o ∧ x = bptr ρ i o ∧ kb i o) ∨ (∃ A o, (∀ p, A = some p → x = .pointer (some (p.add o))) ∧ (∃ p, A = some p) ∧ ke A o) := by
  unfold addrA at h
  split at h
  · exact .inl ⟨_, _, rfl, hr, h⟩
  · obtain ⟨p, hp, hx⟩ := hr
    exact .inr ⟨_, _, fun q hq => by rw [hp] at hq; cases hq; exact hx, ⟨p, hp⟩, h⟩
  · exact .inr ⟨_, _, fun q hq => by cases hq; simp only [rel] at hr; rw [hr]; rfl, ⟨_, rfl⟩, h⟩
  · exact h.out.elim

theorem li_load (t : TypeId) (x : Operand) (ho : o.op = .load t x) (h : Sim C ρ s M a w) (hk : stepVC C.E (.load t x) s M k) : Yld C ρ s M a w o k := by
  simp only [stepVC] at hk
  split at hk
  · exact hk.out.elim
  · rename_i ti ht
    have ht := C.E.ok t ti ht
    rcases addrA_cases hk (ev_rel h x) with ⟨i, off, hi, hx, hk⟩ | ⟨A, off, hx, ⟨p, hp⟩, hk⟩
    · split at hk
      · rename_i b hb
        split at hk
        · rename_i av hav
          obtain ⟨cs, hc, hr, hbl⟩ := h.boxes i b hb
          obtain ⟨y, hry, hy⟩ := run_load_part (g := ρ i) (ty := b.ty) (fz := (0, 0)) ht hr hav
          split at hk
          · exact hk.out.elim
          · rename_i hnj
            refine li_pure hry (partA_below hbl hav) (fun w' hw' => ?_) hk
            obtain ⟨cs', hc', hr', _⟩ := (hw' (by rw [ho]; rfl)).bx i b hb
            obtain ⟨y', hry', hy'⟩ := run_load_part (g := ρ i) (ty := b.ty) (fz := (0, 0)) ht hr' hav
            have e := rel_det hnj hry' hry
            subst e
            have hy := hy' w' hc'
            simp [execOp, ho, Instr.loadAt, hx, bptr, Instr.sureAddr, hy]
        · exact hk.out.elim
      · exact hk.out.elim
    · obtain ⟨q, y, hq, hk, hy⟩ := run_load_known ht hk
      refine li_pure (av := .v y) rfl trivial (fun w' hw' => ?_) hk
      have hy := hy w' (hw' (by rw [ho]; rfl)).inn
      simp [execOp, ho, Instr.loadAt, hx q hq, Instr.sureAddr, hy]

theorem run_store_box {P : Program} {t : TypeId} {ti : TI} (ht : TI.Ok P t ti) {w : World} {g o : Nat} {old : Array Value} {ty : TypeId} (hg : w.heap[g]? = some (.cells old ty (0, 0))) {x : Value} (hs : x.cells.size = ti.size)
    (h1 : ∀ v ∈ x.cells.toList, v.oneCell' = true) (hl : o + x.cells.size ≤ old.size) :
    (storeVar t ⟨g, o, none⟩ x).run P w = .ok () (w.setRow g (old.toList.take o ++ x.cells.toList ++ old.toList.drop (o + x.cells.size)).toArray) := by
  have := run_storeCells_at (P := P) g o ty x.cells.toList 0 old w hg (by simpa using hl) h1
  simp only [storeVar, Sem.run_bind, ht.run_size, Result.andThen_ok, hs, ne_eq, not_true_eq_false, if_false]
  rw [this]
  simp [hs]

/-- Cells stored beside what is frozen of a row. -/
theorem run_storeCells_atG (P : Program) (g o : Nat) (t : TypeId) (fz : Nat × Nat) : ∀ (vs : List Value) (i : Nat) (cur : Array Value) (w : World), w.heap[g]? = some (.cells cur t fz) → (fz.2 ≤ o + i ∨ o + i + vs.length ≤ fz.1) → o + i + vs.length ≤ cur.size → (∀ v ∈ vs, v.oneCell' = true) →
    (storeCells ⟨g, o, none⟩ vs i).run P w = .ok () (w.setRow g (cur.toList.take (o + i) ++ vs ++ cur.toList.drop (o + i + vs.length)).toArray)
  | [], i, cur, w, hg, _, _, _ => by
    simp only [storeCells, List.append_nil, List.length_nil, Nat.add_zero, List.take_append_drop, Array.toArray_toList]
    rw [setRow_self w g cur t fz hg]
    rfl
  | v :: rest, i, cur, w, hg, hfz, hl, h1 => by
    have hi : o + i < cur.size := by simp at hl; omega
    have hadd : (⟨g, o, none⟩ : Addr).add i = ⟨g, o + i, none⟩ := by unfold Addr.add; split <;> simp_all
    have hcell : w.cell? ⟨g, o + i, none⟩ = some cur[o + i] := by simp [World.cell?, hg, hi]
    have hfro : w.frozen? ⟨g, o + i, none⟩ = false := by
      obtain ⟨lo, hi'⟩ := fz
      simp only [World.frozen?, hg, Bool.and_eq_false_iff, decide_eq_false_iff_not]
      simp only [List.length_cons] at hfz
      rcases hfz with hfz | hfz
      · right; omega
      · left; omega
    have hst : (store ((⟨g, o, none⟩ : Addr).add i) v).run P w = .ok () (w.setRow g (cur.setIfInBounds (o + i) v)) := by
      rw [hadd, run_store P w _ v _ (h1 v (by simp)), hcell]
      simp [hfro, setCell_eq_setRow w g (o + i) cur t fz v hg]
    have ih := run_storeCells_atG P g o t fz rest (i + 1) (cur.setIfInBounds (o + i) v) (w.setRow g (cur.setIfInBounds (o + i) v)) (setRow_heap w g cur _ t _ hg) (by simp only [List.length_cons] at hfz; omega) (by simp at hl ⊢; omega) (fun x hx => h1 x (by simp [hx]))
    simp only [storeCells, Sem.run_bind, hst, Result.andThen_ok, ih, setRow_setRow]
    congr 3
    have e := list_seg_step cur.toList (o + i) v rest (by simp at hl ⊢; omega)
    simpa [Array.toList_setIfInBounds, Nat.add_assoc] using e
theorem run_store_rowG {P : Program} {t : TypeId} {ti : TI} (ht : TI.Ok P t ti) {w : World} {g o : Nat} {old : Array Value} {ty : TypeId} {fz : Nat × Nat} (hg : w.heap[g]? = some (.cells old ty fz)) {x : Value} (hs : x.cells.size = ti.size) (hf : fz.2 ≤ o ∨ o + x.cells.size ≤ fz.1)
    (h1 : ∀ v ∈ x.cells.toList, v.oneCell' = true) (hl : o + x.cells.size ≤ old.size) :
    (storeVar t ⟨g, o, none⟩ x).run P w = .ok () (w.setRow g (old.toList.take o ++ x.cells.toList ++ old.toList.drop (o + x.cells.size)).toArray) := by
  have := run_storeCells_atG P g o ty fz x.cells.toList 0 old w hg (by simpa using hf) (by simpa using hl) h1
  simp only [storeVar, Sem.run_bind, ht.run_size, Result.andThen_ok, hs, ne_eq, not_true_eq_false, if_false]
  rw [this]
  simp [hs]

theorem so_storeEl {t : TypeId} {ti : TI} {x y : Operand} (ho : o.op = .store t x y) (ht : TI.Ok C.E.P t ti) (h : Sim C ρ s M a w) (hn : Nx C ρ s a o.dst k nx) {A : Option Addr} {off : Nat} (hx : ∃ p, A = some p ∧ a.eval x = .pointer (some (p.add off)))
    (hk : storeEl ti A off (ev s.t y) M fun M' => k (.v undef) s.bx M') : o.wp C.E.P a w nx Q := by
  unfold storeEl at hk
  split at hk
  · rename_i xs hxs
    split at hk
    · rename_i hc
      simp only [Bool.and_eq_true, decide_eq_true_eq] at hc
      obtain ⟨g, ao, c, ty, fz, rfl, hg, ⟨hle, hfz⟩, hk⟩ := hk
      obtain ⟨p, hp, hxr⟩ := hx
      cases hp
      have h1' : (cellsA (ev s.t y)).all AV.one = true := by
        rw [vals_eq hxs, List.all_map]
        exact hc.1
      have hy := cellsA_rel (ev_rel h y) h1'
      have hyx := vals_rel hxs hy
      have hsz : (a.eval y).cells.size = ti.size := by rw [← hc.2, ← hyx, Array.length_toList]
      have hyl : xs.length = (a.eval y).cells.size := by rw [← hyx, Array.length_toList]
      have hst := run_store_rowG (P := C.E.P) ht (o := ao + off) (h.post.inn g _ hg) hsz (by rw [← hyl]; exact hfz) (one_all h1' hy) (by simp; omega)
      have hxr' : a.eval x = .pointer (some ⟨g, ao + off, none⟩) := by rw [hxr, add_at]
      refine wp_skp (w' := w.setRow g (c.take (ao + off) ++ (a.eval y).cells.toList ++ c.drop (ao + off + (a.eval y).cells.size)).toArray) ?_ ?_
      · simp [execOp, ho, Instr.storeAt, hxr', Instr.sureAddr, hst]
      · refine hn ρ (.v undef) undef _ _ _ (fun _ _ => rfl) (sim_write h hg _ ?_ (fun k' hk' => ?_) ?_ rfl rfl rfl) rfl trivial hk
        · have e : (spl c (ao + off) xs).toArray = (c.take (ao + off) ++ (a.eval y).cells.toList ++ c.drop (ao + off + (a.eval y).cells.size)).toArray := by simp only [spl, hyx, hyl]
          rw [e]
          exact setRow_heap w g _ _ _ _ (h.post.inn g _ hg)
        · simp only [World.setRow, Array.getElem?_modify]
          rw [if_neg (fun e => hk' e.symm)]
        · simp [World.setRow]
    · exact hk.out.elim
  · exact hk.out.elim

theorem so_store (t : TypeId) (x y : Operand) (ho : o.op = .store t x y) (h : Sim C ρ s M a w) (hn : Nx C ρ s a o.dst k nx) (hk : stepVC C.E (.store t x y) s M k) : o.wp C.E.P a w nx Q := by
  simp only [stepVC] at hk
  split at hk
  · exact hk.out.elim
  · rename_i ti ht
    have ht := C.E.ok t ti ht
    split at hk
    · rename_i i off hx
      have hxr := ev_rel h x
      rw [hx] at hxr
      split at hk
      · rename_i b hb
        rw [forceL_eq] at hk
        split at hk
        · rename_i hc
          rw [forceL_eq] at hk
          simp only [Bool.and_eq_true, decide_eq_true_eq] at hc
          obtain ⟨⟨hc1, hc2⟩, hc3⟩ := hc
          obtain ⟨old, hg, hr, hbl⟩ := h.boxes i b hb
          have hy := cellsA_rel (ev_rel h y) hc1
          have hsz : (a.eval y).cells.size = ti.size := by rw [← hc2, hy.length, Array.length_toList]
          have hlen : b.cs.length = old.size := by rw [hr.length, Array.length_toList]
          have hyl : (cellsA (ev s.t y)).length = (a.eval y).cells.size := by rw [hy.length, Array.length_toList]
          have hst := run_store_box (P := C.E.P) ht (o := off) hg hsz (one_all hc1 hy) (by omega)
          refine wp_skp (w' := w.setRow (ρ i) ((old.toList.take off ++ (a.eval y).cells.toList ++ old.toList.drop (off + (a.eval y).cells.size)).toArray)) ?_ ?_
          · simp only [rel, bptr] at hxr
            simp [execOp, ho, Instr.storeAt, hxr, Instr.sureAddr, hst]
          · refine hn ρ (.v undef) undef _ M _ (fun _ _ => rfl) (sim_set h i b hb _ _ ?_ ?_ _ (setRow_heap w (ρ i) _ _ _ _ hg) (fun k' hk' => ?_) ?_ rfl rfl rfl) rfl trivial hk
            · simp only [List.toList_toArray]
              rw [hyl]
              exact (((hr.take off).append hy).append (hr.drop _))
            · intro c hc
              simp only [List.mem_append] at hc
              rcases hc with (hc | hc) | hc
              · exact hbl c (List.mem_of_mem_take hc)
              · exact cellsA_below (ev_below h y) c hc
              · exact hbl c (List.mem_of_mem_drop hc)
            · simp only [World.setRow, Array.getElem?_modify]
              rw [if_neg (fun e => hk' e.symm)]
            · simp [World.setRow]
        · exact hk.out.elim
      · exact hk.out.elim
    · rename_i A off hx
      have hxr := ev_rel h x
      rw [hx] at hxr
      exact so_storeEl ho ht h hn hxr hk
    · rename_i p hx
      have hxr := ev_rel h x
      rw [hx] at hxr
      simp only [rel] at hxr
      exact so_storeEl ho ht h hn ⟨p, rfl, by rw [hxr]; rfl⟩ hk
    · exact hk.out.elim

theorem so_makeSlice (t : TypeId) (l c : Operand) (ho : o.op = .makeSlice t l c) (h : Sim C ρ s M a w) (hn : Nx C ρ s a o.dst k nx) (hk : stepVC C.E (.makeSlice t l c) s M k) : o.wp C.E.P a w nx Q := by
  simp only [stepVC] at hk
  split at hk
  · rename_i ti ht
    have ht := C.E.ok t ti ht
    split at hk
    · rename_i e hd
      split at hk
      · rename_i te hte
        have hte := C.E.ok e te hte
        have hl := ev_rel h l
        have hc := ev_rel h c
        unfold intV at hk
        split at hk
        · rename_i q n hle
          rw [hle] at hl; simp only [rel] at hl
          split at hk
          · rename_i q' m hce
            rw [hce] at hc; simp only [rel] at hc
            obtain ⟨rfl, h0, hb, h63, hk⟩ := hk
            have hund := ht.und
            rw [hd] at hund
            obtain ⟨i, hi, hz, hsz, hby⟩ := hte.info
            have hr := run_make (P := C.E.P) w t e i te.zero hund hi hz q q' n n h0 (Int.le_refl _) (by rw [hby]; exact hb) h63
            refine wp_val (w' := w.alloc (.cells (madeCells te.zero.cells (n.toNat * te.size)) e (0, 0))) ?_ (hn ρ (.v (.slice (some ⟨w.heap.size, 0, none⟩) n.toNat n.toNat)) _ s.bx _ _ (fun _ _ => rfl) (sim_grow h _) rfl trivial (hk w.heap.size (sim_fresh h)))
            rw [hsz] at hr
            simp only [execOp, ho, hl, hc, Sem.run_bind, hr, Result.andThen_ok, Sem.run_pure]
          · exact hk.out.elim
        · exact hk.out.elim
      · exact hk.out.elim
    · exact hk.out.elim
  · exact hk.out.elim

theorem li_fieldAddr (t : TypeId) (x : Operand) (f : Nat) (ho : o.op = .fieldAddr t x f) (h : Sim C ρ s M a w) (hk : stepVC C.E (.fieldAddr t x f) s M k) : Yld C ρ s M a w o k := by
  simp only [stepVC] at hk
  split at hk
  · exact hk.out.elim
  · rename_i ti ht
    have ht := C.E.ok t ti ht
    split at hk
    · exact hk.out.elim
    · rename_i fd hfd
      split at hk
      · exact hk.out.elim
      · rename_i tf htf
        have htf := C.E.ok fd.type tf htf
        split at hk
        · exact hk.out.elim
        · rename_i hsz
          have hsz := of_decide_eq_false hsz
          have hrun : ∀ (w : World) (p : Addr), (Instr.fieldAt t (.pointer (some p)) f).run C.E.P w = .ok (.pointer (some (p.add fd.offset))) w := by
            intro w p
            unfold TI.fields at hfd
            split at hfd
            · rename_i fs hfs
              have hu := ht.run_und w
              rw [hfs] at hu
              have hf : fs[f]? = some fd := by rw [← Array.getElem?_toList]; exact hfd
              simp [Instr.fieldAt, hu, hf, Instr.sureAddr, fieldPlace, htf.run_size, hsz]
            · simp at hfd
          rcases addrA_cases hk (ev_rel h x) with ⟨i, off, hi, hx, hk⟩ | ⟨A, off, hx, ⟨p, hp⟩, hk⟩
          · rw [forceN_eq] at hk
            have hb := ev_below h x
            rw [hi] at hb
            refine li_pure (av := .bp i (off + fd.offset)) rfl hb (fun w' _ => ?_) hk
            simp [execOp, ho, hx, bptr, hrun, add_at]
          · refine li_pure (av := .el A (off + fd.offset)) ⟨p, hp, rfl⟩ trivial (fun w' _ => ?_) hk
            simp [execOp, ho, hx p hp, hrun, add_add]

theorem li_nilCheck (x : Operand) (ho : o.op = .nilCheck x) (h : Sim C ρ s M a w) (hk : stepVC C.E (.nilCheck x) s M k) : Yld C ρ s M a w o k := by
  simp only [stepVC] at hk
  have hr := ev_rel h x
  have hb := ev_below h x
  split at hk
  · rename_i i off hx
    rw [hx] at hr hb
    simp only [rel, bptr] at hr
    exact li_pure (av := .bp i off) rfl hb (fun _ _ => by simp [execOp, ho, hr, bptr]) hk
  · rename_i A off hx
    rw [hx] at hr hb
    obtain ⟨p, hp, hr⟩ := hr
    exact li_pure (av := .el A off) ⟨p, hp, rfl⟩ trivial (fun _ _ => by simp [execOp, ho, hr]) hk
  · rename_i p hx
    rw [hx] at hr hb
    simp only [rel] at hr
    exact li_pure (av := .v (.pointer (some p))) rfl trivial (fun _ _ => by simp [execOp, ho, hr]) hk
  · rename_i f c hx
    rw [hx] at hr hb
    simp only [rel] at hr
    exact li_pure (av := .fn f c) rfl hb (fun _ _ => by simp [execOp, ho, hr]) hk
  · exact hk.out.elim

theorem run_part {P : Program} {t : TypeId} {ti : TI} (ht : TI.Ok P t ti) {cs : Array Value} {o : Nat} {y : Value} (h : partL ti cs.toList o = some y) (w : World) : (part t cs o).run P w = .ok y w := by
  unfold partL at h
  cases hA : ti.isAgg with
  | true =>
    rw [hA] at h
    simp only at h
    split at h
    · simp at h; subst h
      simp only [part, Sem.run_bind, ht.run_agg, Result.andThen_ok, hA, if_true, ht.run_size, Sem.run_pure]
      congr 2
      apply Array.ext'
      simp [List.extract_eq_take_drop]
    · cases h
  | false =>
    rw [hA] at h
    simp only [Array.getElem?_toList] at h
    simp only [part, Sem.run_bind, ht.run_agg, Result.andThen_ok, hA, Bool.false_eq_true, if_false, h, Sem.run_pure]

theorem run_partT (E : Env) {t : TypeId} {o : Nat} {xs : Array Value} {y : Value} (h : partT E.tb t o xs = some y) (w : World) : (part t xs o).run E.P w = .ok y w := by
  unfold partT at h
  split at h
  · rename_i ti ht
    exact run_part (E.ok t ti ht) h w
  · cases h
theorem run_eqFs (E : Env) (d : Nat) (f : TypeId → Value → Value → Option Bool) (hf : ∀ t a b r, f t a b = some r → ∀ w, (Op.equalIn d t a b).run E.P w = .ok r w) (xs ys : Array Value) (w : World) :
    ∀ (l : List Field) (r : Bool), (l.all fun f => !(f.name == "_")) = true → eqFs (partT E.tb) f xs ys l = some r → (Op.eqFields d xs ys l).run E.P w = .ok r w
  | [], r, _, h => by simp [eqFs] at h; subst h; simp [Op.eqFields]
  | fd :: l, r, hn, h => by
    simp only [List.all_cons, Bool.and_eq_true, Bool.not_eq_true', beq_eq_false_iff_ne, ne_eq] at hn
    simp only [eqFs] at h
    split at h
    · rename_i a ha
      split at h
      · rename_i b hb
        split at h
        · rename_i q hq
          split at h
          · rename_i q' hq'
            simp at h; subst h
            rw [Op.eqFields]
            have hrec := run_eqFs E d f hf xs ys w l q' hn.2 hq'
            simp only [ne_eq, hn.1, not_false_eq_true, if_true, Sem.run_bind, run_partT E ha, run_partT E hb, hf _ _ _ _ hq, Result.andThen_ok]
            cases q
            · simp
            · simpa using hrec
          · cases h
        · cases h
      · cases h
    · cases h
theorem run_eqV (E : Env) : ∀ (n : Nat) (t : TypeId) (x y : Value) (r : Bool), eqV E.tb n t x y = some r → ∀ (d : Nat), n ≤ d → ∀ w, (Op.equalIn d t x y).run E.P w = .ok r w := by
  intro n
  induction n with
  | zero => intro t x y r h; simp [eqV] at h
  | succ n ih =>
    intro t x y r h d hd w
    obtain ⟨d, rfl⟩ : ∃ m, d = m + 1 := ⟨d - 1, by omega⟩
    simp only [eqV] at h
    split at h
    · cases h
    · rename_i ti ht
      have ht := E.ok t ti ht
      have hu := ht.run_und w
      split at h
      · rename_i hd'
        rw [hd'] at hu
        split at h
        · simp at h; subst h
          rw [Op.equalIn]
          simp only [Sem.run_bind, hu, Result.andThen_ok, Sem.run_pure]
        · cases h
      · rename_i k hd'
        rw [hd'] at hu
        split at h
        · rename_i k1 a k2 b
          split at h
          · rename_i hk
            obtain rfl := of_decide_eq_true hk
            simp at h; subst h
            rw [Op.equalIn]
            simp only [Sem.run_bind, hu, Result.andThen_ok, if_true, Sem.run_pure]
            rfl
          · cases h
        · cases h
      · rename_i hd'
        rw [hd'] at hu
        split at h
        · rename_i a b
          simp at h; subst h
          rw [Op.equalIn]
          simp only [Sem.run_bind, hu, Result.andThen_ok, Sem.run_pure, beq_toListBytes, seq]
        · cases h
      · rename_i fs hd'
        split at h
        · rename_i xs ys
          split at h
          · rename_i he
            have hq := ht.eqs
            simp only [he, Bool.not_true, Bool.false_or, Bool.and_eq_true, Bool.not_eq_true'] at hq
            have hfs : ti.fields = fs.toList := by unfold TI.fields; rw [hd']
            have hund := ht.und
            rw [hd'] at hund
            have hf : E.P.fieldsOf t = fs := by simp [Program.fieldsOf, hund]
            rw [run_equalIn_struct (P := E.P) w d t xs ys (by rw [hf]; exact hund) hq.1.1, hf]
            exact run_eqFs E d (eqV E.tb n) (fun t a b r hr w => ih t a b r hr d (by omega) w) xs ys w fs.toList r (by rw [← hfs]; simpa using hq.2) h
          · cases h
        · cases h
      · cases h
theorem run_eqAgg (E : Env) {t : TypeId} {xs ys : Array Value} {r : Bool} (h : eqV E.tb 9 t (.agg xs) (.agg ys) = some r) (op : BinOp) (x y : Operand) (w : World) :
    (Op.equal t (.agg xs) (.agg ys)).run E.P w = .ok r w ∧ (eqGuard op t x y (.agg xs) (.agg ys)).run E.P w = .ok () w := by
  refine ⟨run_eqV E 9 t _ _ r h Op.maxDepth (by decide) w, ?_⟩
  have hg : E.P.eqGuardType E.P.depth t = false := by
    unfold eqV at h
    split at h
    · cases h
    · rename_i ti ht
      have ht := E.ok t ti ht
      cases hd : ti.desc with
      | struct fs =>
        rw [hd] at h
        simp only at h
        cases he : ti.eq with
        | true =>
          have hq := ht.eqs
          simp only [he, Bool.not_true, Bool.false_or, Bool.and_eq_true, Bool.not_eq_true'] at hq
          exact hq.1.2
        | false => rw [he] at h; simp at h
      | _ => rw [hd] at h; simp at h
  cases op <;> simp [eqGuard, hg]

theorem li_binOp (op : BinOp) (t : TypeId) (x y : Operand) (t' : TypeId) (ho : o.op = .binOp op t x y t') (h : Sim C ρ s M a w) (hk : stepVC C.E (.binOp op t x y t') s M k) : Yld C ρ s M a w o k := by
  simp only [stepVC] at hk
  have hx := ev_rel h x
  have hy := ev_rel h y
  split at hk
  · rename_i q a' q' b' hxe hye
    rw [hxe] at hx
    rw [hye] at hy
    simp only [rel] at hx hy
    split at hk
    · rename_i hq
      obtain rfl := of_decide_eq_true hq
      split at hk
      · rename_i r hr
        exact li_pure (av := .v r) rfl trivial (fun _ _ => by simp [execOp, ho, hx, hy, guard_int, binI_run hr]) hk
      · split at hk
        · exact li_pure (av := .v (.int q (q.wrap (a'.tdiv b')))) rfl trivial (fun _ _ => by simp [execOp, ho, hx, hy, eqGuard, binOp, Op.intDiv, hk.1]) hk.2
        · exact li_pure (av := .v (.int q (a'.tmod b'))) rfl trivial (fun _ _ => by simp [execOp, ho, hx, hy, eqGuard, binOp, Op.intDiv, hk.1]) hk.2
        · exact hk.out.elim
    · exact hk.out.elim
  · rename_i a' b' hxe hye
    rw [hxe] at hx
    rw [hye] at hy
    simp only [rel] at hx hy
    split at hk
    · rename_i r hr
      exact li_pure (av := .v r) rfl trivial (fun _ _ => by simp [execOp, ho, hx, hy, guard_str, binS_run hr]) hk
    · split at hk
      · refine li_pure (av := .v (.string (a' ++ b'))) rfl trivial (fun w' _ => ?_) hk.2
        have := hk.1
        have h' : ¬ ((a'.size + b'.size : Nat) : Int) > IntKind.i64.max := by omega
        simp only [execOp, ho, hx, hy, Sem.run_bind, guard_str, Result.andThen_ok, binOp, Op.stringOp]
        rw [if_neg h']
        rfl
      · exact hk.out.elim
  · rename_i a' b' hxe hye
    rw [hxe] at hx
    rw [hye] at hy
    simp only [rel] at hx hy
    split at hk
    · rename_i ti ht
      have ht := C.E.ok t ti ht
      split at hk
      · rename_i hd
        have heq : ∀ w : World, (Op.equal t (.bool a') (.bool b')).run C.E.P w = .ok (a' == b') w := by
          intro w
          have hu := ht.run_und w
          rw [hd] at hu
          have e : Op.equal t (.bool a') (.bool b') = Op.equalIn (9999 + 1) t (.bool a') (.bool b') := rfl
          rw [e, Op.equalIn]
          simp only [Sem.run_bind, hu, Result.andThen_ok, Sem.run_pure]
        split at hk
        · exact li_pure (av := .v (.bool (a' == b'))) rfl trivial (fun _ _ => by simp only [execOp, ho, hx, hy, Sem.run_bind, guard_bool, Result.andThen_ok, binOp, heq, Sem.run_pure]) hk
        · exact li_pure (av := .v (.bool (!(a' == b')))) rfl trivial (fun _ _ => by simp only [execOp, ho, hx, hy, Sem.run_bind, guard_bool, Result.andThen_ok, binOp, heq, Sem.run_pure]) hk
        · exact hk.out.elim
      · exact hk.out.elim
    · exact hk.out.elim
  · rename_i xs ys hxe hye
    rw [hxe] at hx
    rw [hye] at hy
    simp only [rel] at hx hy
    split at hk
    · split at hk
      · rename_i r hr
        refine li_pure (av := .v (.bool r)) rfl trivial (fun w' _ => ?_) hk
        obtain ⟨h1, h2⟩ := run_eqAgg C.E hr .eql x y w'
        simp only [execOp, ho, hx, hy, Sem.run_bind, h2, Result.andThen_ok, binOp, h1, Sem.run_pure]
      · exact hk.out.elim
    · split at hk
      · rename_i r hr
        refine li_pure (av := .v (.bool (!r))) rfl trivial (fun w' _ => ?_) hk
        obtain ⟨h1, h2⟩ := run_eqAgg C.E hr .neq x y w'
        simp only [execOp, ho, hx, hy, Sem.run_bind, h2, Result.andThen_ok, binOp, h1, Sem.run_pure]
      · exact hk.out.elim
    · exact hk.out.elim
  · rename_i A hxe hye
    rw [hxe] at hx
    rw [hye] at hy
    simp only [rel] at hx hy
    split at hk
    · rename_i ti ht
      have ht := C.E.ok t ti ht
      split at hk
      · rename_i e hd
        have heq : ∀ w : World, (Op.equal t (.pointer A) (.pointer none)).run C.E.P w = .ok A.isNone w := by
          intro w
          have hu := ht.run_und w
          rw [hd] at hu
          have e : Op.equal t (.pointer A) (.pointer none) = Op.equalIn (9999 + 1) t (.pointer A) (.pointer none) := rfl
          rw [e, Op.equalIn]
          simp only [Sem.run_bind, hu, Result.andThen_ok]
          cases A <;> rfl
        have hgd : ∀ (op : BinOp) w, (eqGuard op t x y (.pointer A) (.pointer none)).run C.E.P w = .ok () w := by intro op w; cases op <;> simp [eqGuard]
        split at hk
        · exact li_pure (av := .v (.bool A.isNone)) rfl trivial (fun _ _ => by simp only [execOp, ho, hx, hy, Sem.run_bind, hgd, Result.andThen_ok, binOp, heq, Sem.run_pure]) hk
        · exact li_pure (av := .v (.bool (!A.isNone))) rfl trivial (fun _ _ => by simp only [execOp, ho, hx, hy, Sem.run_bind, hgd, Result.andThen_ok, binOp, heq, Sem.run_pure]) hk
        · exact hk.out.elim
      · exact hk.out.elim
    · exact hk.out.elim
  · rename_i A n1 c1 n2 c2 hxe hye
    rw [hxe] at hx
    rw [hye] at hy
    simp only [rel] at hx hy
    split at hk
    · rename_i ti ht
      have ht := C.E.ok t ti ht
      split at hk
      · rename_i e hd
        have heq : ∀ w : World, (Op.equal t (.slice A n1 c1) (.slice none n2 c2)).run C.E.P w = .ok A.isNone w := by
          intro w
          have hu := ht.run_und w
          rw [hd] at hu
          have e : Op.equal t (.slice A n1 c1) (.slice none n2 c2) = Op.equalIn (9999 + 1) t (.slice A n1 c1) (.slice none n2 c2) := rfl
          rw [e, Op.equalIn]
          simp only [Sem.run_bind, hu, Result.andThen_ok]
          cases A <;> rfl
        have hgd : ∀ (op : BinOp) w, (eqGuard op t x y (.slice A n1 c1) (.slice none n2 c2)).run C.E.P w = .ok () w := by intro op w; cases op <;> simp [eqGuard]
        split at hk
        · exact li_pure (av := .v (.bool A.isNone)) rfl trivial (fun _ _ => by simp only [execOp, ho, hx, hy, Sem.run_bind, hgd, Result.andThen_ok, binOp, heq, Sem.run_pure]) hk
        · exact li_pure (av := .v (.bool (!A.isNone))) rfl trivial (fun _ _ => by simp only [execOp, ho, hx, hy, Sem.run_bind, hgd, Result.andThen_ok, binOp, heq, Sem.run_pure]) hk
        · exact hk.out.elim
      · exact hk.out.elim
    · exact hk.out.elim
  · exact hk.out.elim

theorem li_unOp (op : UnOp) (t : TypeId) (x : Operand) (ho : o.op = .unOp op t x) (h : Sim C ρ s M a w) (hk : stepVC C.E (.unOp op t x) s M k) : Yld C ρ s M a w o k := by
  simp only [stepVC] at hk
  have hx := ev_rel h x
  split at hk
  · rename_i b hxe
    rw [hxe] at hx; simp only [rel] at hx
    exact li_pure (av := .v (.bool (!b))) rfl trivial (fun _ _ => by simp [execOp, ho, hx, Op.unary]) hk
  · rename_i q n hxe
    rw [hxe] at hx; simp only [rel] at hx
    exact li_pure (av := .v (.int q (q.wrap (0 - n)))) rfl trivial (fun _ _ => by simp [execOp, ho, hx, Op.unary, Op.intArith]) hk
  · exact hk.out.elim

theorem li_extract (x : Operand) (i : Nat) (ho : o.op = .extract x i) (h : Sim C ρ s M a w) (hk : stepVC C.E (.extract x i) s M k) : Yld C ρ s M a w o k := by
  simp only [stepVC] at hk
  have hx := ev_rel h x
  split at hk
  · rename_i vs hxe
    rw [hxe] at hx; simp only [rel] at hx
    split at hk
    · rename_i y hy
      have hy : vs[i]? = some y := by rw [← Array.getElem?_toList]; exact hy
      exact li_pure (av := .v y) rfl trivial (fun _ _ => by simp [execOp, ho, hx, Instr.extract, hy]) hk
    · exact hk.out.elim
  · exact hk.out.elim

theorem evs_rel (h : Sim C ρ s M a w) : ∀ l : List Operand, RelL ρ (l.map (ev s.t)) (l.map a.eval)
  | [] => trivial
  | x :: l => ⟨ev_rel h x, evs_rel h l⟩
theorem caps_rel (ρ : Nat → Nat) : ∀ l : List Nat, RelL ρ (l.map fun i => .bp i 0) (l.map fun i => bptr ρ i 0)
  | [] => trivial
  | _ :: l => ⟨rfl, caps_rel ρ l⟩

theorem desc_struct {ti : TI} {f : Nat} {fd : Field} (h : ti.fields[f]? = some fd) : ∃ fs, ti.desc = .struct fs ∧ fs[f]? = some fd := by
  unfold TI.fields at h
  split at h
  · rename_i fs hfs; exact ⟨fs, hfs, by rw [← Array.getElem?_toList]; exact h⟩
  · simp at h
theorem li_field (t : TypeId) (x : Operand) (f : Nat) (ho : o.op = .field t x f) (h : Sim C ρ s M a w) (hk : stepVC C.E (.field t x f) s M k) : Yld C ρ s M a w o k := by
  simp only [stepVC] at hk
  have hx := ev_rel h x
  split at hk
  · rename_i ti ht
    have ht := C.E.ok t ti ht
    split at hk
    · rename_i fd hfd
      obtain ⟨fs, hfs, hf⟩ := desc_struct hfd
      split at hk
      · rename_i tf htf
        have htf := C.E.ok fd.type tf htf
        split at hk
        · rename_i cs hxe
          rw [hxe] at hx; simp only [rel] at hx
          split at hk
          · rename_i y hy
            refine li_pure (av := .v y) rfl trivial (fun w' _ => ?_) hk
            have hu := ht.run_und w'
            rw [hfs] at hu
            simp only [execOp, ho, hx, Instr.field, Sem.run_bind, hu, Result.andThen_ok, hf, asAgg, Sem.run_pure, run_part htf hy]
          · exact hk.out.elim
        · exact hk.out.elim
      · exact hk.out.elim
    · exact hk.out.elim
  · exact hk.out.elim

theorem foldl_spl (off : Nat) : ∀ (l : List Value) (k : Nat) (cells : Array Value) (i : Nat),
    ((l.zipIdx k).foldl (fun cs (p : Value × Nat) => cs.setIfInBounds (off + p.2) p.1) cells)[i]? = if off + k ≤ i ∧ i < off + k + l.length ∧ i < cells.size then l[i - (off + k)]? else cells[i]?
  | [], k, cells, i => by simp; omega
  | x :: l, k, cells, i => by
    rw [List.zipIdx_cons, List.foldl_cons, foldl_spl off l (k + 1)]
    simp only [Array.size_setIfInBounds, List.length_cons, Array.getElem?_setIfInBounds]
    by_cases h1 : i = off + k
    · subst h1
      by_cases h2 : off + k < cells.size
      · rw [if_neg (by omega), if_pos rfl, if_pos h2, if_pos (by omega)]; simp
      · rw [if_neg (by omega), if_pos rfl, if_neg h2, if_neg (by omega), Array.getElem?_eq_none (Nat.not_lt.1 h2)]
    · by_cases h2 : off + (k + 1) ≤ i ∧ i < off + (k + 1) + l.length ∧ i < cells.size
      · rw [if_pos h2, if_pos (by omega), show i - (off + k) = (i - (off + (k + 1))) + 1 by omega, List.getElem?_cons_succ]
      · rw [if_neg h2, if_neg (by omega), if_neg (by omega)]
theorem fill_eq (place : Nat → Option (Nat × Nat)) : ∀ (parts : List (Nat × Value)) (cells : Array Value) (r : List Value), fillL place cells.toList parts = some r → Instr.fill place cells parts = some r.toArray
  | [], cells, r, h => by simp [fillL] at h; subst h; simp [Instr.fill]
  | (i, v) :: rest, cells, r, h => by
    simp only [fillL] at h
    simp only [Instr.fill]
    split at h
    · cases h
    · rename_i off size hp
      rw [hp]
      split at h
      · rename_i hc
        simp only [Bool.and_eq_true, decide_eq_true_eq, Array.length_toList] at hc
        simp only
        rw [if_neg (by simp; omega)]
        refine fill_eq place rest _ r ?_
        rw [← h]
        congr 1
        apply List.ext_getElem?
        intro j
        rw [Array.getElem?_toList, ← Array.foldl_toList, Array.toList_zipIdx]
        have e := foldl_spl off v.cells.toList 0 cells j
        simp only [Nat.add_zero] at e
        refine e.trans ?_
        simp only [spl, List.length_take, Array.length_toList, List.append_assoc]
        by_cases h1 : j < off
        · rw [if_neg (by omega), List.getElem?_append_left (by simp; omega), List.getElem?_take, if_pos h1, Array.getElem?_toList]
        · rw [List.getElem?_append_right (by simp; omega)]
          simp only [List.length_take, Array.length_toList]
          by_cases h2 : j < off + v.cells.size
          · rw [if_pos (by omega), List.getElem?_append_left (by simp; omega)]
            congr 1; omega
          · rw [if_neg (by omega), List.getElem?_append_right (by simp; omega), List.getElem?_drop, ← Array.getElem?_toList]
            congr 1; simp; omega
      · cases h
theorem run_places (E : Env) (w : World) : ∀ (l : List Field) (ps : List (Nat × Nat)), placesA E l = some ps → (l.mapM fun f => (do pure (f.offset, ← sizeOf f.type) : Sem (Nat × Nat))).run E.P w = .ok ps w
  | [], ps, h => by simp [placesA] at h; subst h; rfl
  | f :: l, ps, h => by
    simp only [placesA] at h
    split at h
    · rename_i tf htf
      have htf := E.ok f.type tf htf
      split at h
      · rename_i qs hqs
        simp at h; subst h
        rw [List.mapM_cons]
        simp only [Sem.run_bind, htf.run_size, Result.andThen_ok, Sem.run_pure, run_places E w l qs hqs]
      · cases h
    · cases h
theorem zipP_eq (g : Operand → Value) : ∀ (l : List (Nat × Operand)) (vs : List Value), l.map (fun p => g p.2) = vs → zipP l vs = l.map fun p => (p.1, g p.2)
  | [], _, h => by simp at h; subst h; rfl
  | (i, x) :: l, vs, h => by
    simp only [List.map_cons] at h
    subst h
    simp [zipP, zipP_eq g l _ rfl]

theorem li_build (t : TypeId) (parts : Array (Nat × Operand)) (ho : o.op = .build t parts) (h : Sim C ρ s M a w) (hk : stepVC C.E (.build t parts) s M k) : Yld C ρ s M a w o k := by
  simp only [stepVC] at hk
  split at hk
  · rename_i ti ht
    have ht := C.E.ok t ti ht
    split at hk
    · rename_i vs hvs
      have hrel : RelL ρ (parts.toList.map fun p => ev s.t p.2) (parts.toList.map fun p => a.eval p.2) := by
        have := evs_rel h (parts.toList.map (·.2))
        rw [List.map_map, List.map_map] at this
        exact this
      have hz := zipP_eq a.eval parts.toList vs (vals_rel hvs hrel)
      have hp : (parts.map fun (p : Nat × Operand) => (p.1, a.eval p.2)).toList = zipP parts.toList vs := by rw [hz]; simp
      unfold buildP at hk
      split at hk
      · rename_i fs hfs
        split at hk
        · rename_i ps hps
          rw [forceVs_eq] at hk
          obtain ⟨cells, hc, hk⟩ := fillP_out hk
          refine li_pure (av := .v (.agg cells.toArray)) rfl trivial (fun w' _ => ?_) hk
          have hu := ht.run_und w'
          rw [hfs] at hu
          have hf := fill_eq _ _ _ _ hc
          have hm := run_places C.E w' fs.toList ps hps
          simp only [execOp, ho, Instr.build, Sem.run_bind, ht.run_zero, hu, Result.andThen_ok, Array.mapM_eq_mapM_toList, Sem.run_map]
          erw [hm]
          simp only [Result.andThen_ok, hp, List.getElem?_toArray, hf, Sem.run_pure]
        · exact hk.out.elim
      · rename_i n e hfs
        split at hk
        · rename_i te hte
          have hte := C.E.ok e te hte
          rw [forceVs_eq] at hk
          obtain ⟨cells, hc, hk⟩ := fillP_out hk
          refine li_pure (av := .v (.agg cells.toArray)) rfl trivial (fun w' _ => ?_) hk
          have hu := ht.run_und w'
          rw [hfs] at hu
          have hf := fill_eq _ _ _ _ hc
          simp only [execOp, ho, Instr.build, Sem.run_bind, ht.run_zero, hu, Result.andThen_ok, hte.run_size, hp, hf, Sem.run_pure]
        · exact hk.out.elim
      · exact hk.out.elim
    · exact hk.out.elim
  · exact hk.out.elim

theorem li_convert (src dst : TypeId) (x : Operand) (hl : isLight C.E.tb (.convert src dst x) = true) (ho : o.op = .convert src dst x) (h : Sim C ρ s M a w) (hk : stepVC C.E (.convert src dst x) s M k) : Yld C ρ s M a w o k := by
  simp only [stepVC] at hk
  have hx := ev_rel h x
  split at hk
  · rename_i ts hts
    split at hk
    · rename_i td htd
      split at hk
      · rename_i q0 hs
        split at hk
        · rename_i q hd
          split at hk
          · rename_i q1 n hxe
            rw [hxe] at hx; simp only [rel] at hx
            refine li_pure (av := .v (.int q (q.wrap n))) rfl trivial (fun w' _ => ?_) hk
            have hu := (C.E.ok src ts hts).run_und w'
            have hv := (C.E.ok dst td htd).run_und w'
            rw [hs] at hu
            rw [hd] at hv
            simp only [execOp, ho, hx, convert, Sem.run_bind, hu, hv, Result.andThen_ok, Conv.intToInt, Sem.run_pure]
          · exact hk.out.elim
        · exact hk.out.elim
      · rename_i hs
        split at hk
        · rename_i hd
          split at hk
          · rename_i b hxe
            rw [hxe] at hx; simp only [rel] at hx
            refine li_pure (av := .v (.string b)) rfl trivial (fun w' _ => ?_) hk
            have hu := (C.E.ok src ts hts).run_und w'
            have hv := (C.E.ok dst td htd).run_und w'
            rw [hs] at hu
            rw [hd] at hv
            simp only [execOp, ho, hx, convert, Sem.run_bind, hu, hv, Result.andThen_ok, Sem.run_pure]
          · exact hk.out.elim
        · rename_i e hd
          simp [isLight, hts, hs, htd, hd] at hl
        · exact hk.out.elim
      · rename_i e hs
        split at hk
        · rename_i te hte
          split at hk
          · rename_i he
            split at hk
            · rename_i hd
              split at hk
              · rename_i A n cp hxe
                rw [hxe] at hx; simp only [rel] at hx
                obtain ⟨bs, ⟨hlen, hm⟩, hk⟩ := hk
                refine li_pure (av := .v (.string (strOfNums bs))) rfl trivial (fun w' hag => ?_) hk
                have hag := hag (by rw [ho]; simp [isLoad, hts, hs])
                have hu := (C.E.ok src ts hts).und
                have hv := (C.E.ok dst td htd).und
                have hwe := (C.E.ok e te hte).und
                rw [hs] at hu
                rw [hd] at hv
                rw [he] at hwe
                have hr : (convert src dst (.slice A n cp)).run C.E.P w' = .ok (.string (strOfNums bs)) w' := by
                  cases A with
                  | none =>
                    have h0 : n = 0 := by
                      rcases hm with h0 | ⟨p, hp, _⟩
                      · exact h0
                      · cases hp
                    have : bs = [] := List.eq_nil_of_length_eq_zero (by omega)
                    subst this
                    rw [run_convert_bytes_nil w' src e hu hwe n cp dst hv]
                    rfl
                  | some p =>
                    have hl : (loadCells p n).run C.E.P w' = .ok (bs.map (Value.int .u8)).toArray w' := by
                      have := run_loadCells_list (P := C.E.P) w' p (bs.map (Value.int .u8)) (fun j v hj => by
                        have hjl := (List.getElem?_eq_some_iff.1 hj).1
                        rcases hm with h0 | ⟨q, hq, hc⟩
                        · simp at hjl; omega
                        · cases hq
                          have := hag.inn.cell (hc j v hj)
                          rwa [Nat.zero_add] at this)
                      simpa [hlen] using this
                    rw [run_convert_bytes_string w' src dst e (some p) n cp hu hwe hv, run_bytesToString w' p n cp bs hl, foldl_push_bytes]
                    simp [strOfNums, ByteArray.empty, ByteArray.emptyWithCapacity]
                    rfl
                simp only [execOp, ho, hx, Sem.run_bind, hr, Result.andThen_ok, Sem.run_pure]
              · exact hk.out.elim
            · exact hk.out.elim
          · exact hk.out.elim
        · exact hk.out.elim
      · exact hk.out.elim
    · exact hk.out.elim
  · exact hk.out.elim
theorem so_convert (src dst : TypeId) (x : Operand) (ho : o.op = .convert src dst x) (h : Sim C ρ s M a w) (hn : Nx C ρ s a o.dst k nx) (hk : stepVC C.E (.convert src dst x) s M k) : o.wp C.E.P a w nx Q := by
  cases hl : isLight C.E.tb (.convert src dst x) with
  | true => exact so_of_li h hn (li_convert src dst x hl ho h hk)
  | false =>
    simp only [stepVC] at hk
    have hx := ev_rel h x
    simp only [isLight] at hl
    split at hl
    · rename_i ts hts
      rw [hts] at hk
      split at hl
      · rename_i hs
        simp only at hk
        split at hk
        · rename_i td htd
          rw [hs] at hk
          simp only at hk
          split at hk
          · rename_i hd; simp [htd, hd] at hl
          · rename_i e hd
            split at hk
            · rename_i te hte
              split at hk
              · rename_i he
                split at hk
                · rename_i b hxe
                  rw [hxe] at hx; simp only [rel] at hx
                  have hu := (C.E.ok src ts hts).und
                  have hv := (C.E.ok dst td htd).und
                  have hwe := (C.E.ok e te hte).und
                  rw [hs] at hu
                  rw [hd] at hv
                  rw [he] at hwe
                  have hr := run_bytes_of_string (P := C.E.P) w src dst e b hu hv hwe
                  have hge := grownCap_ge w b.size 0 e
                  generalize grownCap w b.size 0 e = cp at hr hge
                  have hsz : (bytesRow b cp).size = cp := by simp [bytesRow]; show b.size + (cp - b.size) = cp; omega
                  rw [hsz] at hr
                  have hk := hk w.heap.size cp (sim_fresh h) hge
                  refine wp_val ?_ (hn ρ (.v (.slice (some ⟨w.heap.size, 0, none⟩) b.size cp)) _ s.bx _ _ (fun _ _ => rfl) (sim_grow (sim_drew h) _) rfl trivial hk)
                  have e1 : (b.data.toList.map (fun (x : UInt8) => Value.int .u8 (x.toNat : Int)) ++ List.replicate (cp - b.size) (Value.int .u8 0)).toArray = bytesRow b cp := by
                    apply Array.ext'
                    simp [bytesRow]
                  rw [e1]
                  simp only [execOp, ho, hx, Sem.run_bind, hr, Result.andThen_ok, Sem.run_pure]
                · exact hk.out.elim
              · exact hk.out.elim
            · exact hk.out.elim
          · exact hk.out.elim
        · exact hk.out.elim
      · simp at hl
    · simp at hl
theorem madeCells_rep (z : Array Value) (n : Nat) : (madeCells z (n * z.size)).toList = (List.replicate n z.toList).flatten := by
  unfold madeCells
  rw [Array.toList_map, Array.toList_range]
  induction n with
  | zero => simp
  | succ n ih =>
    rw [List.replicate_succ', List.flatten_append, ← ih, Nat.succ_mul, List.range_add, List.map_append]
    congr 1
    simp only [List.flatten_cons, List.flatten_nil, List.append_nil, List.map_map]
    apply List.ext_getElem?
    intro i
    by_cases hi : i < z.size
    · simp [hi, Nat.mod_eq_of_lt hi]
    · simp [hi]
theorem so_buildSlice (t : TypeId) (len : Nat) (parts : Array (Nat × Operand)) (ho : o.op = .buildSlice t len parts) (h : Sim C ρ s M a w) (hn : Nx C ρ s a o.dst k nx) (hk : stepVC C.E (.buildSlice t len parts) s M k) : o.wp C.E.P a w nx Q := by
  simp only [stepVC] at hk
  split at hk
  · rename_i ti ht
    have ht := C.E.ok t ti ht
    split at hk
    · rename_i e hd
      split at hk
      · rename_i te hte
        have hte := C.E.ok e te hte
        split at hk
        · rename_i hc
          simp only [Bool.and_eq_true, Bool.or_eq_true, decide_eq_true_eq] at hc
          split at hk
          · rename_i vs hvs
            rw [forceVs_eq] at hk
            obtain ⟨cells, hf, hk⟩ := fillP_out hk
            have hrel : RelL ρ (parts.toList.map fun p => ev s.t p.2) (parts.toList.map fun p => a.eval p.2) := by
              have := evs_rel h (parts.toList.map (·.2))
              rw [List.map_map, List.map_map] at this
              exact this
            have hz := zipP_eq a.eval parts.toList vs (vals_rel hvs hrel)
            have hp : (parts.map fun (p : Nat × Operand) => (p.1, a.eval p.2)).toList = zipP parts.toList vs := by rw [hz]; simp
            have hu := ht.run_und w
            rw [hd] at hu
            have hmade : (madeCells te.zero.cells (len * te.size)).toList = (List.replicate len te.zero.cells.toList).flatten := by rw [← hc.1]; exact madeCells_rep _ _
            rw [← hmade] at hf
            have hfill := fill_eq _ _ _ _ hf
            refine wp_val (w' := w.alloc (.cells cells.toArray e (0, 0))) ?_ (hn ρ (.v (.slice (some ⟨w.heap.size, 0, none⟩) len len)) _ s.bx _ _ (fun _ _ => rfl) (sim_grow h _) rfl trivial (hk w.heap.size (sim_fresh h)))
            have hle : ¬ (len * te.size > 2 ^ 24) := by simpa using hc.2.1
            unfold madeCells at hfill
            rw [hz] at hfill
            by_cases hl0 : len = 0
            · subst hl0
              simp only [execOp, ho, Instr.buildSlice, Sem.run_bind, hu, Result.andThen_ok, hte.run_size, if_neg hle, Nat.zero_mul, if_true, Sem.run_pure]
              have er : ∀ g : Nat → Value, (Array.range 0).map g = #[] := fun g => by apply Array.ext'; simp
              rw [Nat.zero_mul, er, hz.symm] at hfill
              simp [er, hz.symm, hfill, newRow]
            · have h0 : ¬ (len * te.size = 0) := by
                have := hc.2.2
                simp [hl0] at this
                simp; omega
              simp only [execOp, ho, Instr.buildSlice, Sem.run_bind, hu, Result.andThen_ok, hte.run_size, if_neg hle, if_neg h0, Sem.run_pure, hte.run_zero]
              simp [hfill, newRow]
          · exact hk.out.elim
        · exact hk.out.elim
      · exact hk.out.elim
    · exact hk.out.elim
  · exact hk.out.elim

theorem run_bound (P : Program) (k : IntKind) (i : Int) (y : Nat) (code : BoundsCode) (h0 : 0 ≤ i) (h1 : i ≤ y) (w : World) : (Instr.sliceBound (.int k i) y code).run P w = .ok i.toNat w := by
  simp [Instr.sliceBound, asIntOf, h0, h1]
theorem li_slice (t : TypeId) (x : Operand) (lo hi mx : Option Operand) (ho : o.op = .slice t x lo hi mx) (h : Sim C ρ s M a w) (hk : stepVC C.E (.slice t x lo hi mx) s M k) : Yld C ρ s M a w o k := by
  simp only [stepVC] at hk
  have hx := ev_rel h x
  have low : ∀ {K : Int → Prop}, optI s lo 0 K → ∃ l, K l ∧ ((lo = none ∧ l = 0) ∨ ∃ q y, lo = some y ∧ a.eval y = .int q l) := by
    intro K hK
    cases lo with
    | none => exact ⟨0, hK, .inl ⟨rfl, rfl⟩⟩
    | some y =>
      simp only [optI] at hK
      unfold intV at hK
      have hy := ev_rel h y
      split at hK
      · rename_i q l hye
        rw [hye] at hy; simp only [rel] at hy
        exact ⟨l, hK, .inr ⟨q, y, rfl, hy⟩⟩
      · exact hK.out.elim
  have int : ∀ {y : Operand} {K : Int → Prop}, intV (ev s.t y) K → ∃ q l, K l ∧ a.eval y = .int q l := by
    intro y K hK
    unfold intV at hK
    have hy := ev_rel h y
    split at hK
    · rename_i q l hye
      rw [hye] at hy; simp only [rel] at hy
      exact ⟨q, l, hK, hy⟩
    · exact hK.out.elim
  split at hk
  · rename_i ti ht
    have ht := C.E.ok t ti ht
    split at hk
    · rename_i e hd
      split at hk
      · rename_i te hte
        have hte := C.E.ok e te hte
        split at hk
        · rename_i A n cp hxe
          rw [hxe] at hx; simp only [rel] at hx
          have fin : ∀ {l h m : Nat}, (∀ w', (Instr.sliceBounds true n cp (lo.map a.eval) (hi.map a.eval) (mx.map a.eval)).run C.E.P w' = .ok (l, h, m) w') → k (.v (.slice (subA A l te.size m) (h - l) (m - l))) s.bx M → Yld C ρ s M a w o k := by
            intro l hh m hb hk
            refine li_pure (av := .v (.slice (subA A l te.size m) (hh - l) (m - l))) rfl trivial (fun w' _ => ?_) hk
            have hu := ht.run_und w'
            rw [hd] at hu
            simp only [execOp, ho, hx, Instr.sliceAt, Instr.slice, Sem.run_bind, hu, Result.andThen_ok, hb, hte.run_size, Sem.run_pure, subA]
          split at hk
          · obtain ⟨l, hk, hlo⟩ := low hk
            split at hk
            · obtain ⟨⟨h0, h1⟩, hk⟩ := hk
              refine fin (l := l.toNat) (h := n) (m := cp) (fun w' => ?_) hk
              rcases hlo with ⟨rfl, rfl⟩ | ⟨q, y, rfl, hy⟩
              · simp [Instr.sliceBounds]
              · simp only [Instr.sliceBounds, Option.map_none, Option.map_some, hy, Sem.run_bind, Sem.run_pure, Result.andThen_ok, run_bound C.E.P q l n _ h0 h1]
            · obtain ⟨qh, hh, ⟨⟨h0, h1, h2⟩, hk⟩, hhe⟩ := int hk
              refine fin (l := l.toNat) (h := hh.toNat) (m := cp) (fun w' => ?_) hk
              rcases hlo with ⟨rfl, rfl⟩ | ⟨q, y, rfl, hy⟩
              · simp only [Instr.sliceBounds, Option.map_none, Option.map_some, hhe, Sem.run_bind, Sem.run_pure, Result.andThen_ok, if_true, run_bound C.E.P qh hh cp _ (by omega) h2]
                rfl
              · simp only [Instr.sliceBounds, Option.map_none, Option.map_some, hy, hhe, Sem.run_bind, Sem.run_pure, Result.andThen_ok, if_true, run_bound C.E.P qh hh cp _ (by omega) h2, run_bound C.E.P q l hh.toNat _ h0 (by omega)]
          · split at hk
            · exact hk.out.elim
            · obtain ⟨l, hk, hlo⟩ := low hk
              obtain ⟨qh, hh, hk, hhe⟩ := int hk
              obtain ⟨qm, m, ⟨⟨h0, h1, h2, h3⟩, hk⟩, hme⟩ := int hk
              refine fin (l := l.toNat) (h := hh.toNat) (m := m.toNat) (fun w' => ?_) hk
              rcases hlo with ⟨rfl, rfl⟩ | ⟨q, y, rfl, hy⟩
              · simp only [Instr.sliceBounds, Option.map_none, Option.map_some, hhe, hme, Sem.run_bind, Sem.run_pure, Result.andThen_ok, if_true, run_bound C.E.P qm m cp _ (by omega) h3, run_bound C.E.P qh hh m.toNat _ (by omega) (by omega)]
                rfl
              · simp only [Instr.sliceBounds, Option.map_none, Option.map_some, hy, hhe, hme, Sem.run_bind, Sem.run_pure, Result.andThen_ok, if_true, Option.isSome_some, run_bound C.E.P qm m cp _ (by omega) h3, run_bound C.E.P qh hh m.toNat _ (by omega) (by omega), run_bound C.E.P q l hh.toNat _ h0 (by omega)]
        · exact hk.out.elim
      · exact hk.out.elim
    · rename_i hd
      split at hk
      · rename_i b hxe
        rw [hxe] at hx; simp only [rel] at hx
        have fin : ∀ {l h m : Nat}, mx = none → (∀ w', (Instr.sliceBounds false b.size b.size (lo.map a.eval) (hi.map a.eval) none).run C.E.P w' = .ok (l, h, m) w') → k (.v (.string (b.extract l h))) s.bx M → Yld C ρ s M a w o k := by
          intro l hh m hmx hb hk
          refine li_pure (av := .v (.string (b.extract l hh))) rfl trivial (fun w' _ => ?_) hk
          have hu := ht.run_und w'
          rw [hd] at hu
          simp [execOp, ho, hx, hmx, Instr.sliceAt, Instr.slice, Sem.run_bind, hu, Result.andThen_ok, hb, Sem.run_pure]
        split at hk
        · obtain ⟨l, hk, hlo⟩ := low hk
          split at hk
          · obtain ⟨⟨h0, h1⟩, hk⟩ := hk
            refine fin (l := l.toNat) (h := b.size) (m := b.size) rfl (fun w' => ?_) hk
            rcases hlo with ⟨rfl, rfl⟩ | ⟨q, y, rfl, hy⟩
            · simp [Instr.sliceBounds]
            · simp only [Instr.sliceBounds, Option.map_none, Option.map_some, hy, Sem.run_bind, Sem.run_pure, Result.andThen_ok, run_bound C.E.P q l b.size _ h0 h1]
          · obtain ⟨qh, hh, ⟨⟨h0, h1, h2⟩, hk⟩, hhe⟩ := int hk
            refine fin (l := l.toNat) (h := hh.toNat) (m := b.size) rfl (fun w' => ?_) hk
            rcases hlo with ⟨rfl, rfl⟩ | ⟨q, y, rfl, hy⟩
            · simp only [Instr.sliceBounds, Option.map_none, Option.map_some, hhe, Sem.run_bind, Sem.run_pure, Result.andThen_ok, if_true, run_bound C.E.P qh hh b.size _ (by omega) h2]
              rfl
            · simp only [Instr.sliceBounds, Option.map_none, Option.map_some, hy, hhe, Sem.run_bind, Sem.run_pure, Result.andThen_ok, if_true, run_bound C.E.P qh hh b.size _ (by omega) h2, run_bound C.E.P q l hh.toNat _ h0 (by omega)]
        · exact hk.out.elim
      · exact hk.out.elim
    · exact hk.out.elim
  · exact hk.out.elim
theorem li_index (t : TypeId) (x i : Operand) (ho : o.op = .index t x i) (h : Sim C ρ s M a w) (hk : stepVC C.E (.index t x i) s M k) : Yld C ρ s M a w o k := by
  simp only [stepVC] at hk
  have hx := ev_rel h x
  have hi := ev_rel h i
  split at hk
  · rename_i ti ht
    have ht := C.E.ok t ti ht
    unfold intV at hk
    split at hk
    · rename_i q j hie
      rw [hie] at hi; simp only [rel] at hi
      split at hk
      · rename_i b hd hxe
        rw [hxe] at hx; simp only [rel] at hx
        obtain ⟨h0, h1, hk⟩ := hk
        refine li_pure (av := .v (.int .u8 (bt b j))) rfl trivial (fun w' _ => ?_) hk
        have hu := ht.run_und w'
        rw [hd] at hu
        have hlt : j.toNat < b.size := by omega
        have hb : b[j.toNat]? = some (b.data.toList.getD j.toNat 0) := by
          have hd : j.toNat < b.data.size := hlt
          rw [getElem?_pos b j.toNat hlt]
          simp only [List.getD_eq_getElem?_getD, Array.getElem?_toList, Array.getElem?_eq_getElem hd, Option.getD_some]
          rfl
        simp only [execOp, ho, hx, hi, Instr.index, asIntOf, Sem.run_bind, Sem.run_pure, Result.andThen_ok, hu, if_pos h0, hb, bt]
      · rename_i n e cs hd hxe
        rw [hxe] at hx; simp only [rel] at hx
        split at hk
        · rename_i te hte
          have hte := C.E.ok e te hte
          split at hk
          · rename_i hA
            split at hk
            · rename_i hs
              obtain ⟨h0, h1, y, hy, hk⟩ := hk
              refine li_pure (av := .v y) rfl trivial (fun w' _ => ?_) hk
              have hu := ht.run_und w'
              rw [hd] at hu
              have hp : partL te cs.toList (j.toNat * 1) = some y := by simp only [partL, hA, Nat.mul_one]; exact hy
              simp only [execOp, ho, hx, hi, Instr.index, asIntOf, Sem.run_bind, Sem.run_pure, Result.andThen_ok, hu, if_pos (And.intro h0 h1), hte.run_size, hs, run_part hte hp]
            · exact hk.out.elim
          · exact hk.out.elim
        · exact hk.out.elim
      · exact hk.out.elim
    · exact hk.out.elim
  · exact hk.out.elim

theorem li_indexAddr (t : TypeId) (x i : Operand) (ho : o.op = .indexAddr t x i) (h : Sim C ρ s M a w) (hk : stepVC C.E (.indexAddr t x i) s M k) : Yld C ρ s M a w o k := by
  simp only [stepVC] at hk
  have hx := ev_rel h x
  have hi := ev_rel h i
  split at hk
  · rename_i ti ht
    have ht := C.E.ok t ti ht
    unfold intV at hk
    split at hk
    · rename_i q j hie
      rw [hie] at hi; simp only [rel] at hi
      split at hk
      · rename_i e A n c hd hxe
        rw [hxe] at hx; simp only [rel] at hx
        split at hk
        · rename_i te hte
          have hte := C.E.ok e te hte
          obtain ⟨h0, h1, hA, hk⟩ := hk
          obtain ⟨p, rfl⟩ := Option.isSome_iff_exists.1 hA
          refine li_pure (av := .el (some p) (j.toNat * te.size)) ⟨p, rfl, rfl⟩ trivial (fun w' _ => ?_) hk
          have hu := ht.run_und w'
          rw [hd] at hu
          simp only [execOp, ho, hx, hi, Instr.indexAt, asIntOf, Sem.run_bind, Sem.run_pure, Result.andThen_ok, hu, if_pos (And.intro h0 h1), hte.run_size]
        · exact hk.out.elim
      · rename_i n e i0 off hd hxe
        have hb := ev_below h x
        rw [hxe] at hx hb; simp only [rel, bptr] at hx
        split at hk
        · rename_i te hte
          have hte := C.E.ok e te hte
          obtain ⟨h0, h1, hk⟩ := hk
          rw [forceN_eq] at hk
          refine li_pure (av := .bp i0 (off + j.toNat * te.size)) rfl hb (fun w' _ => ?_) hk
          have hu := ht.run_und w'
          rw [hd] at hu
          simp only [execOp, ho, hx, hi, Instr.indexAt, Instr.sureAddr, asIntOf, Sem.run_bind, Sem.run_pure, Result.andThen_ok, hu, if_pos (And.intro h0 h1), hte.run_size, bptr, add_at]
        · exact hk.out.elim
      · exact hk.out.elim
    · exact hk.out.elim
  · exact hk.out.elim

theorem capsA_eq : ∀ {l : List AV} {is : List Nat}, capsA l = some is → l = is.map fun i => .bp i 0
  | [], is, h => by simp [capsA] at h; subst h; rfl
  | .bp i 0 :: l, is, h => by
    simp only [capsA] at h
    split at h
    · rename_i js hjs; simp at h; subst h; rw [capsA_eq hjs]; rfl
    · cases h
  | .bp i (o + 1) :: l, is, h => by simp [capsA] at h
  | .v _ :: l, is, h => by simp [capsA] at h
  | .fn _ _ :: l, is, h => by simp [capsA] at h
  | .el _ _ :: l, is, h => by simp [capsA] at h
  | .junk :: l, is, h => by simp [capsA] at h
theorem caps_rel_eq (ρ : Nat → Nat) : ∀ {is : List Nat} {m : List Value}, RelL ρ (is.map fun i => .bp i 0) m → m = is.map fun i => bptr ρ i 0
  | [], [], _ => rfl
  | _ :: is, _ :: m, h => by rw [caps_rel_eq ρ h.2]; simp only [List.map_cons]; rw [h.1]

theorem li_makeFunc (f : Fn) (first captured : Array Operand) (ho : o.op = .makeFunc f first captured) (h : Sim C ρ s M a w) (hk : stepVC C.E (.makeFunc f first captured) s M k) : Yld C ρ s M a w o k := by
  simp only [stepVC] at hk
  split at hk
  · rename_i g hf
    split at hk
    · rename_i is his
      have hr := evs_rel h captured.toList
      rw [capsA_eq his] at hr
      have he := caps_rel_eq ρ hr
      have hb : (AV.fn g is).below s.bx.length := by
        intro i hi
        have hm : AV.bp i 0 ∈ captured.toList.map (ev s.t) := by rw [capsA_eq his]; exact List.mem_map.2 ⟨i, hi, rfl⟩
        obtain ⟨x, _, hx⟩ := List.mem_map.1 hm
        have := ev_below h x
        rw [hx] at this
        exact this
      refine li_pure (av := .fn g is) rfl hb (fun w' _ => ?_) hk
      have e1 : first = #[] := by apply Array.ext'; simpa using hf
      have e2 : captured.map a.eval = (is.map fun i => bptr ρ i 0).toArray := by apply Array.ext'; simp [he]
      simp only [execOp, ho, Instr.makeFunc, e1, e2, Sem.run_bind, Sem.run_pure, Result.andThen_ok, Array.map_empty]
    · exact hk.out.elim
  · exact hk.out.elim

/-- Behind a call. -/
theorem sim_call (h : Sim C ρ s M a w) {bx' : List Box} {M' : PH} {w' : World} (hl : bx'.length = s.bx.length) (hb : BoxesAt ρ bx' w') (hp : Post w w' ρ s.bx.length M M') : Sim C ρ ⟨s.t, bx'⟩ M' a w' := by
  refine ⟨h.defers, h.tmps, by simpa [hl] using h.tb, hb, by simpa [hl] using h.mle, h.old, by simpa [hl] using h.new, by simpa [hl] using h.inj, ?_, ?_⟩
  · intro i hi
    simp only [hl] at hi
    cases hm : M' (ρ i) with
    | none => rfl
    | some o =>
      rcases hp.fresh _ o hm with ⟨o', ho'⟩ | hge
      · rw [h.dis i hi] at ho'; cases ho'
      · have := h.boxes.lt hi; omega
  · have h0 := h.post
    refine ⟨hp.os.trans h0.os, hp.tape.trans h0.tape, hp.output.trans h0.output, Nat.le_trans h0.size hp.size, hp.inn, ?_, ?_⟩
    · intro k o hk
      rcases hp.fresh k o hk with ⟨o', ho'⟩ | hge
      · exact h0.fresh k o' ho'
      · exact .inr (Nat.le_trans h0.size hge)
    · intro k hk hm hne
      rw [hp.frame k (Nat.lt_of_lt_of_le hk h0.size) ?_ ?_]
      · exact h0.frame k hk hm hne
      · cases hmk : M k with
        | none => rfl
        | some o =>
          rcases h0.fresh k o hmk with ⟨o', ho'⟩ | hge
          · rw [hm] at ho'; cases ho'
          · omega
      · intro i hi
        by_cases him : i < C.m
        · rw [h.old i him]; exact hne i him
        · have := h.new i (by omega) hi; omega

theorem RelL.one {ρ : Nat → Nat} {a : AV} : ∀ {m : List Value}, RelL ρ [a] m → ∃ y, m = [y] ∧ rel ρ a y
  | [y], h => ⟨y, rfl, h.1⟩
theorem RelL.two {ρ : Nat → Nat} {a b : AV} : ∀ {m : List Value}, RelL ρ [a, b] m → ∃ y z, m = [y, z] ∧ rel ρ a y ∧ rel ρ b z
  | [y, z], h => ⟨y, z, rfl, h.1, h.2.1⟩
theorem li_builtin (c : Call) (b : Builtin) (hb : c.callee = .builtin b) (hv : heavyB b = false) (ho : o.op = .call c) (h : Sim C ρ s M a w) (hk : stepVC C.E (.call c) s M k) : Yld C ρ s M a w o k := by
  simp only [stepVC, hb, hv] at hk
  have hr := evs_rel h c.args.toList
  have hargs : (c.args.map a.eval).toList = c.args.toList.map a.eval := by simp
  generalize hxs : c.args.toList.map (ev s.t) = xs at hk hr
  generalize hvs : c.args.toList.map a.eval = vs at hr hargs
  have hargs' : c.args.map a.eval = vs.toArray := by apply Array.ext'; simp [← hvs]
  obtain ⟨cs, run⟩ : ∃ cs, ∀ w', (execOp a.eval o).run C.E.P w' = (builtin b c.argTypes o.type cs vs.toArray).run C.E.P w' := ⟨_, fun w' => by
    simp only [execOp, ho, resolve, hb, Sem.run_bind, Sem.run_pure, Result.andThen_ok, invoke, hargs']; rfl⟩
  unfold biVC at hk
  split at hk
  · split at hk
    · rename_i t hts
      split at hk
      · rename_i x
        split at hk
        · rename_i ti ht
          have ht := C.E.ok t ti ht
          have hts' : c.argTypes = #[t] := by apply Array.ext'; simpa using hts
          obtain ⟨y, rfl, hy⟩ := hr.one
          split at hk
          · rename_i hd
            split at hk
            · rename_i bs
              simp only [rel] at hy
              subst hy
              refine li_pure (av := .v (.int .i64 bs.size)) rfl trivial (fun w' _ => ?_) hk
              have hu := ht.run_und w'
              rw [hd] at hu
              rw [run]
              simp [builtin, Builtin.len_, hts', hu, goInt]
            · exact hk.out.elim
          · rename_i e hd
            split at hk
            · rename_i A n cp
              simp only [rel] at hy
              subst hy
              refine li_pure (av := .v (.int .i64 n)) rfl trivial (fun w' _ => ?_) hk
              have hu := ht.run_und w'
              rw [hd] at hu
              rw [run]
              simp [builtin, Builtin.len_, hts', hu, goInt]
            · exact hk.out.elim
          · exact hk.out.elim
        · exact hk.out.elim
      · exact hk.out.elim
    · exact hk.out.elim
  · split at hk
    · rename_i t hts
      split at hk
      · rename_i x
        split at hk
        · rename_i ti ht
          have ht := C.E.ok t ti ht
          have hts' : c.argTypes = #[t] := by apply Array.ext'; simpa using hts
          obtain ⟨y, rfl, hy⟩ := hr.one
          split at hk
          · rename_i e hd
            split at hk
            · rename_i A n cp
              simp only [rel] at hy
              subst hy
              refine li_pure (av := .v (.int .i64 cp)) rfl trivial (fun w' _ => ?_) hk
              have hu := ht.run_und w'
              rw [hd] at hu
              rw [run]
              simp [builtin, Builtin.cap_, hts', hu, goInt]
            · exact hk.out.elim
          · exact hk.out.elim
        · exact hk.out.elim
      · exact hk.out.elim
    · exact hk.out.elim
  · split at hk
    · rename_i q m q' n
      obtain ⟨y, z, rfl, hy, hz⟩ := hr.two
      simp only [rel] at hy hz
      subst hy; subst hz
      refine li_pure (av := .v (.int q (if n < m then n else m))) rfl trivial (fun w' _ => ?_) hk
      rw [run]
      simp [builtin, Builtin.min_, Builtin.min2]
    · exact hk.out.elim
  · split at hk
    · rename_i q m q' n
      obtain ⟨y, z, rfl, hy, hz⟩ := hr.two
      simp only [rel] at hy hz
      subst hy; subst hz
      refine li_pure (av := .v (.int q (if m < n then n else m))) rfl trivial (fun w' _ => ?_) hk
      rw [run]
      simp [builtin, Builtin.max_, Builtin.max2]
    · exact hk.out.elim
  · exact hk.out.elim

theorem PH.In.first {M : PH} {w : World} (hin : M.In w) {P : Program} {A : Option Addr} {n c size : Nat} {olds : List Value} (hl : olds.length = n * size) (h : n = 0 ∨ M.cells A 0 olds) : (Builtin.firstCells size n (.slice A n c)).run P w = .ok olds.toArray w := by
  cases A with
  | none =>
    have h0 : n = 0 := by
      rcases h with h0 | ⟨p, hp, _⟩
      · exact h0
      · cases hp
    subst h0
    have : olds = [] := List.eq_nil_of_length_eq_zero (by omega)
    subst this
    rw [run_firstCells_none]
  | some p =>
    refine run_firstCells_some w size n p n c olds hl fun j v hj => ?_
    rcases h with h0 | ⟨q, hq, hc⟩
    · have := (List.getElem?_eq_some_iff.1 hj).1; simp [h0] at hl; simp [hl] at hj
    · cases hq
      have := hin.cell (hc j v hj)
      rwa [Nat.zero_add] at this
theorem PH.In.firstN {M : PH} {w : World} (hin : M.In w) {P : Program} {A : Option Addr} {m n c size : Nat} {olds : List Value} (hl : olds.length = m * size) (h : m = 0 ∨ M.cells A 0 olds) : (Builtin.firstCells size m (.slice A n c)).run P w = .ok olds.toArray w := by
  have := hin.first (P := P) (c := c) hl h
  cases A <;> simpa [Builtin.firstCells] using this
theorem PH.In.drew {M : PH} {w : World} (hin : M.In w) : M.In w.drew := fun k o hk => hin k o hk
theorem firstCells_str {P : Program} (b : ByteArray) (w : World) : (Builtin.firstCells 1 b.size (.string b)).run P w = .ok (b.data.toList.map fun (x : UInt8) => Value.int .u8 (x.toNat : Int)).toArray w := by
  simp only [Builtin.firstCells, Sem.run_pure]
  congr 1
  apply Array.ext'
  have : (b.extract 0 b.size) = b := ByteArray.extract_zero_size
  rw [this]
  simp
theorem zeroCells_list (te : TI) (n : Nat) : (Builtin.zeroCells te.zero.cells n).toList = zerosL te n := madeCells_rep te.zero.cells n

/-- An append of known cells: where there is no room. -/
theorem run_append_new {P : Program} (w : World) (t t' ty e : TypeId) (te : TI) (ht : P.underlying t = some (.slice e)) (ht' : (∃ e', P.underlying t' = some (.slice e')) ∨ P.underlying t' = some .string) (he : TI.Ok P e te)
    (A : Option Addr) (n c m : Nat) (x : Value) (hx : ∀ w, (Builtin.lenOf x).run P w = .ok m w) (olds news : List Value) (h1 : (Builtin.firstCells te.size n (.slice A n c)).run P w.drew = .ok olds.toArray w.drew)
    (h2 : (Builtin.firstCells te.size m x).run P w.drew = .ok news.toArray w.drew) (hg : c < n + m) (h63 : n + m ≤ 9223372036854775807) (hb : (n + m) * te.bytes ≤ 140737488355328) :
    (Builtin.append_ #[t, t'] ty #[.slice A n c, x]).run P w = .ok (.slice (some ⟨w.heap.size, 0, none⟩) (n + m) (grownCap w (n + m) c e)) (w.drew.alloc (.cells (olds ++ news ++ zerosL te (grownCap w (n + m) c e - (n + m))).toArray e (0, 0))) := by
  obtain ⟨i, hi, hz, hsz, hby⟩ := he.info
  have hn : ¬ (n + m ≤ c) := by omega
  have h63' : ¬ (9223372036854775807 < ((n : Int) + (m : Int))) := by omega
  have hfit := growslice_fits hg hb
  have h48' : ¬ (281474976710656 < Builtin.nextslicecap (n + m) c * te.bytes) := by omega
  have hzl := zeroCells_list te (grownCap w (n + m) c e - (n + m))
  rcases ht' with ⟨e', ht'⟩ | ht' <;>
  · simp [Builtin.append_, run_underlying ht, run_underlying ht', sizeOf, typeInfo, zeroValue, hi, hz, hsz, hby, hx, hn, h63', h48', Question.forced, h1, h2, newRow]
    rw [← grownCap]
    refine ⟨rfl, ?_⟩
    congr 2
    apply Array.ext'
    simp [List.append_assoc, hzl]
theorem run_append_fit {P : Program} (w : World) (t t' ty e : TypeId) (te : TI) (ht : P.underlying t = some (.slice e)) (ht' : (∃ e', P.underlying t' = some (.slice e')) ∨ P.underlying t' = some .string) (he : TI.Ok P e te)
    (A : Option Addr) (n c m : Nat) (x : Value) (hx : ∀ w, (Builtin.lenOf x).run P w = .ok m w) (news : List Value) (h2 : (Builtin.firstCells te.size m x).run P w = .ok news.toArray w) (hg : n + m ≤ c)
    (w' : World) (hs : ∀ p, A = some p → (storeCells (p.add (n * te.size)) news).run P w = .ok () w') (hs0 : A = none → w' = w) :
    (Builtin.append_ #[t, t'] ty #[.slice A n c, x]).run P w = .ok (.slice A (n + m) c) w' := by
  obtain ⟨i, hi, hz, hsz, hby⟩ := he.info
  rcases ht' with ⟨e', ht'⟩ | ht' <;>
  · cases A with
    | none => simp [Builtin.append_, run_underlying ht, run_underlying ht', sizeOf, typeInfo, hi, hsz, hx, hg, h2, hs0]
    | some p => simp [Builtin.append_, run_underlying ht, run_underlying ht', sizeOf, typeInfo, hi, hsz, hx, hg, h2, hs p rfl]
theorem storeCells_nil {P : Program} (p : Addr) (w : World) : (storeCells p []).run P w = .ok () w := rfl
theorem so_appendG {e : TypeId} {te : TI} {t t' : TypeId} {c : Call} (ho : o.op = .call c) (hb : c.callee = .builtin .append) (hts : c.argTypes = #[t, t']) {A : Option Addr} {n cp : Nat} {x : Value} (hargs : (c.args.map a.eval) = #[.slice A n cp, x])
    {m : Nat} {news : List Value} (rn : ∀ olds : List Value, (Builtin.firstCells te.size n (.slice A n cp)).run C.E.P w.drew = .ok olds.toArray w.drew → cp < n + m → n + m ≤ 9223372036854775807 → (n + m) * te.bytes ≤ 140737488355328 →
      (Builtin.append_ #[t, t'] o.type #[.slice A n cp, x]).run C.E.P w = .ok (.slice (some ⟨w.heap.size, 0, none⟩) (n + m) (grownCap w (n + m) cp e)) (w.drew.alloc (.cells (olds ++ news ++ zerosL te (grownCap w (n + m) cp e - (n + m))).toArray e (0, 0))))
    (rf : n + m ≤ cp → (n + m) * te.bytes ≤ 140737488355328 → ∀ w', (∀ p, A = some p → (storeCells (p.add (n * te.size)) news).run C.E.P w = .ok () w') → (A = none → w' = w) → (Builtin.append_ #[t, t'] o.type #[.slice A n cp, x]).run C.E.P w = .ok (.slice A (n + m) cp) w') (hnl : news.length = m * te.size) (h : Sim C ρ s M a w) (hn : Nx C ρ s a o.dst k nx) (hk : appVC te e A n cp m news M fun av M' => k av s.bx M') : o.wp C.E.P a w nx Q := by
  obtain ⟨olds, hol, hom, hby, h63, hgrow, hroom⟩ := hk
  have run : ∀ {v w'}, (Builtin.append_ #[t, t'] o.type #[.slice A n cp, x]).run C.E.P w = .ok v w' → (execOp a.eval o).run C.E.P w = .ok (.value v) w' := fun hr => by
    simp only [execOp, ho, resolve, hb, Sem.run_bind, Sem.run_pure, Result.andThen_ok, invoke, hargs, hts, builtin, hr]
  by_cases hc : cp < n + m
  · have hr := rn olds (h.post.inn.drew.first hol hom) hc h63 hby
    have hge := grownCap_ge w (n + m) cp e
    have hk := hgrow hc w.heap.size _ (sim_fresh h) hge
    exact wp_val (run hr) (hn ρ (.v (.slice (some ⟨w.heap.size, 0, none⟩) (n + m) (grownCap w (n + m) cp e))) _ s.bx _ _ (fun _ _ => rfl) (sim_grow (sim_drew h) _) rfl trivial hk)
  · have hc' : n + m ≤ cp := by omega
    rcases hroom hc' with ⟨rfl, hk⟩ | ⟨g, off, cells, ty, fz, rfl, hg, ⟨hle, hfz⟩, h1, hk⟩
    · have hnil : news = [] := List.eq_nil_of_length_eq_zero (by omega)
      subst hnil
      have hr := rf hc' hby w (fun p _ => storeCells_nil _ w) (fun _ => rfl)
      exact wp_val (run hr) (hn ρ (.v (.slice A n cp)) _ s.bx _ _ (fun _ _ => rfl) h rfl trivial hk)
    · have hst := run_storeCells_atG C.E.P g (off + n * te.size) ty fz news 0 cells.toArray w (h.post.inn g _ hg) (by rw [Nat.add_mul] at hfz; omega) (by simp [hnl]; rw [Nat.add_mul] at hle; omega) (by simpa using h1)
      have hr := rf hc' hby _ (fun p hp => by cases hp; rw [add_at]; exact hst) (fun e => nomatch e)
      refine wp_val (run hr) (hn ρ (.v (.slice (some ⟨g, off, none⟩) (n + m) cp)) _ s.bx _ _ (fun _ _ => rfl) (sim_write h hg _ ?_ (fun k' hk' => ?_) ?_ rfl rfl rfl) rfl trivial hk)
      · have := setRow_heap w g cells.toArray (cells.toArray.toList.take (off + n * te.size + 0) ++ news ++ cells.toArray.toList.drop (off + n * te.size + 0 + news.length)).toArray ty fz (h.post.inn g _ hg)
        simpa [spl] using this
      · simp only [World.setRow, Array.getElem?_modify]
        rw [if_neg (fun e => hk' e.symm)]
      · simp [World.setRow]
theorem so_append {e : TypeId} {te : TI} {t t' : TypeId} {c : Call} (ho : o.op = .call c) (hb : c.callee = .builtin .append) (hts : c.argTypes = #[t, t']) {A : Option Addr} {n cp : Nat} {x : Value} (hargs : (c.args.map a.eval) = #[.slice A n cp, x])
    (ht : C.E.P.underlying t = some (.slice e)) (ht' : (∃ e', C.E.P.underlying t' = some (.slice e')) ∨ C.E.P.underlying t' = some .string) (he : TI.Ok C.E.P e te) {m : Nat} {news : List Value} (hx : ∀ w, (Builtin.lenOf x).run C.E.P w = .ok m w)
    (h2 : ∀ w', M.In w' → (Builtin.firstCells te.size m x).run C.E.P w' = .ok news.toArray w') (hnl : news.length = m * te.size) (h : Sim C ρ s M a w) (hn : Nx C ρ s a o.dst k nx) (hk : appVC te e A n cp m news M fun av M' => k av s.bx M') : o.wp C.E.P a w nx Q :=
  so_appendG (te := te) (e := e) ho hb hts hargs
    (fun olds ho h1 h63 hby => run_append_new w t t' o.type e te ht ht' he A n cp m x hx olds news ho (h2 _ h.post.inn.drew) h1 h63 hby)
    (fun h1 _ w' hs hs0 => run_append_fit w t t' o.type e te ht ht' he A n cp m x hx news (h2 _ h.post.inn) h1 w' hs hs0) hnl h hn hk
/-- Appends of zeros: Go's own word for 'append(s, make(..)...)'. -/
theorem zerosL_none {te : TI} (hz : te.zero.cells.size = te.size) {l : Nat} (h0 : l * te.size = 0) : zerosL te l = [] := by
  apply List.eq_nil_of_length_eq_zero
  rw [← zeroCells_list te l, Builtin.zeroCells]
  simp only [Array.length_toList, Array.size_map, Array.size_range, hz]
  exact h0
theorem run_zeros_new {P : Program} (w : World) (t t' ty e : TypeId) (te : TI) (kq kn : IntKind) (ht : P.underlying t = some (.slice e)) (ht' : P.underlying t' = some (.int kn)) (he : TI.Ok P e te) (hzs : te.zero.cells.size = te.size)
    (A : Option Addr) (n c m : Nat) (hm : m ≤ 4611686018427387904) (olds : List Value) (h1 : (Builtin.firstCells te.size n (.slice A n c)).run P w.drew = .ok olds.toArray w.drew)
    (hg : c < n + m) (h63 : n + m ≤ 9223372036854775807) (hb : (n + m) * te.bytes ≤ 140737488355328) :
    (Builtin.append_ #[t, t'] ty #[.slice A n c, .int kq m]).run P w = .ok (.slice (some ⟨w.heap.size, 0, none⟩) (n + m) (grownCap w (n + m) c e)) (w.drew.alloc (.cells (olds ++ zerosL te m ++ zerosL te (grownCap w (n + m) c e - (n + m))).toArray e (0, 0))) := by
  obtain ⟨i, hi, hz, hsz, hby⟩ := he.info
  have hn : ¬ (n + m ≤ c) := by omega
  have h63' : ¬ (9223372036854775807 < ((n : Int) + (m : Int))) := by omega
  have hfit := growslice_fits hg hb
  have h48' : ¬ (281474976710656 < Builtin.nextslicecap (n + m) c * te.bytes) := by omega
  have hmb : m * te.bytes ≤ (n + m) * te.bytes := Nat.mul_le_mul_right _ (by omega)
  have h48i : ¬ (281474976710656 < (m : Int) * (te.bytes : Int)) := by
    rw [← Int.natCast_mul]
    omega
  have hw : IntKind.i64.wrap (m : Int) = m := by rw [IntKind.wrap_i64]; omega
  have hneg : ¬ ((m : Int) < 0) := by omega
  have hzl := zeroCells_list te (grownCap w (n + m) c e - (n + m))
  have hzm := zeroCells_list te m
  by_cases hns : m * te.size = 0
  · have hz0 := zerosL_none hzs hns
    simp [Builtin.append_, run_underlying ht, run_underlying ht', sizeOf, typeInfo, zeroValue, hi, hz, hsz, hby, asInt, asIntOf, hw, hn, hneg, hns, h63', h48', h48i, Question.forced, h1, newRow, hz0]
    rw [← grownCap]
    refine ⟨rfl, ?_⟩
    congr 2
    apply Array.ext'
    simp [hzl]
  · simp [Builtin.append_, run_underlying ht, run_underlying ht', sizeOf, typeInfo, zeroValue, hi, hz, hsz, hby, asInt, asIntOf, hw, hn, hneg, hns, h63', h48', h48i, Question.forced, h1, newRow]
    rw [← grownCap]
    refine ⟨rfl, ?_⟩
    congr 2
    apply Array.ext'
    simp [hzl, hzm]
theorem run_zeros_fit {P : Program} (w : World) (t t' ty e : TypeId) (te : TI) (kq kn : IntKind) (ht : P.underlying t = some (.slice e)) (ht' : P.underlying t' = some (.int kn)) (he : TI.Ok P e te) (hzs : te.zero.cells.size = te.size)
    (A : Option Addr) (n c m : Nat) (hm : m ≤ 4611686018427387904) (hg : n + m ≤ c) (hb : (n + m) * te.bytes ≤ 140737488355328)
    (w' : World) (hs : ∀ p, A = some p → (storeCells (p.add (n * te.size)) (zerosL te m)).run P w = .ok () w') (hs0 : A = none → w' = w) :
    (Builtin.append_ #[t, t'] ty #[.slice A n c, .int kq m]).run P w = .ok (.slice A (n + m) c) w' := by
  obtain ⟨i, hi, hz, hsz, hby⟩ := he.info
  have hmb : m * te.bytes ≤ (n + m) * te.bytes := Nat.mul_le_mul_right _ (by omega)
  have h48i : ¬ (281474976710656 < (m : Int) * (te.bytes : Int)) := by
    rw [← Int.natCast_mul]
    omega
  have hw : IntKind.i64.wrap (m : Int) = m := by rw [IntKind.wrap_i64]; omega
  have hneg : ¬ ((m : Int) < 0) := by omega
  have hzm := zeroCells_list te m
  by_cases hns : m * te.size = 0
  · have hz0 := zerosL_none hzs hns
    rw [hz0] at hs
    cases A with
    | none => simp [Builtin.append_, run_underlying ht, run_underlying ht', sizeOf, typeInfo, zeroValue, hi, hz, hsz, hby, asInt, asIntOf, hw, hg, hneg, hns, h48i, hs0]
    | some p => simp [Builtin.append_, run_underlying ht, run_underlying ht', sizeOf, typeInfo, zeroValue, hi, hz, hsz, hby, asInt, asIntOf, hw, hg, hneg, hns, h48i, hs p rfl]
  · rw [← hzm] at hs
    cases A with
    | none => simp [Builtin.append_, run_underlying ht, run_underlying ht', sizeOf, typeInfo, zeroValue, hi, hz, hsz, hby, asInt, asIntOf, hw, hg, hneg, hns, h48i, hs0]
    | some p => simp [Builtin.append_, run_underlying ht, run_underlying ht', sizeOf, typeInfo, zeroValue, hi, hz, hsz, hby, asInt, asIntOf, hw, hg, hneg, hns, h48i, hs p rfl]
/-- Cells written at the head of a slice. -/
theorem so_putC {A : Option Addr} {cs : List Value} {v : Value} {kk : PH → Prop} (h : Sim C ρ s M a w) (hn : Nx C ρ s a o.dst k nx) (hv : ∀ M', kk M' → k (.v v) s.bx M') (hk : putCVC A cs M kk)
    (run : ∀ w', (∀ p, A = some p → (storeCells p cs).run C.E.P w = .ok () w') → (A = none → cs = [] → w' = w) → (A = none → cs = []) → (execOp a.eval o).run C.E.P w = .ok (.value v) w') : o.wp C.E.P a w nx Q := by
  rcases hk with ⟨rfl, hk⟩ | ⟨g, off, cells, ty, rfl, hg, hle, h1, hk⟩
  · exact wp_val (run w (fun p _ => storeCells_nil _ w) (fun _ _ => rfl) (fun _ => rfl)) (hn ρ (.v v) _ s.bx _ _ (fun _ _ => rfl) h rfl trivial (hv _ hk))
  · have hst := run_storeCells_at C.E.P g off ty cs 0 cells.toArray w (h.post.inn g _ hg) (by simpa using hle) (by simpa using h1)
    refine wp_val (w' := w.setRow g (cells.toArray.toList.take (off + 0) ++ cs ++ cells.toArray.toList.drop (off + 0 + cs.length)).toArray) (run _ (fun p hp => by cases hp; exact hst) (fun e => nomatch e) (fun e => nomatch e)) (hn ρ (.v v) _ s.bx _ _ (fun _ _ => rfl) (sim_write h hg _ ?_ (fun k' hk' => ?_) ?_ rfl rfl rfl) rfl trivial (hv _ hk))
    · have := setRow_heap w g cells.toArray (cells.toArray.toList.take (off + 0) ++ cs ++ cells.toArray.toList.drop (off + 0 + cs.length)).toArray ty (0, 0) (h.post.inn g _ hg)
      simpa [spl] using this
    · simp only [World.setRow, Array.getElem?_modify]
      rw [if_neg (fun e => hk' e.symm)]
    · simp [World.setRow]
theorem so_heavy (c : Call) (b : Builtin) (hb : c.callee = .builtin b) (hv : heavyB b = true) (ho : o.op = .call c) (h : Sim C ρ s M a w) (hn : Nx C ρ s a o.dst k nx) (hk : stepVC C.E (.call c) s M k) : o.wp C.E.P a w nx Q := by
  simp only [stepVC, hb, hv] at hk
  have hr := evs_rel h c.args.toList
  generalize hxs : c.args.toList.map (ev s.t) = xs at hk hr
  generalize hvs : c.args.toList.map a.eval = vs at hr
  have hargs' : c.args.map a.eval = vs.toArray := by apply Array.ext'; simp [← hvs]
  unfold hvVC at hk
  split at hk
  · split at hk
    · rename_i t t' hts
      have hts' : c.argTypes = #[t, t'] := by apply Array.ext'; simpa using hts
      split at hk
      · rename_i A n cp y
        obtain ⟨v1, x, rfl, hv1, hxr⟩ := hr.two
        simp only [rel] at hv1
        subst hv1
        split at hk
        · rename_i ti ht
          split at hk
          · rename_i e hd
            have hu := (C.E.ok t ti ht).und
            rw [hd] at hu
            split at hk
            · rename_i te hte
              have hte := C.E.ok e te hte
              split at hk
              · split at hk
                · rename_i ti' ht'
                  have hu' := (C.E.ok t' ti' ht').und
                  split at hk
                  · rename_i e' hd'
                    rw [hd'] at hu'
                    split at hk
                    · rename_i B m cm
                      simp only [rel] at hxr
                      subst hxr
                      obtain ⟨news, hnl, hnm, hk⟩ := hk
                      exact so_append ho hb hts' hargs' hu (.inl ⟨_, hu'⟩) hte (fun w => by simp [Builtin.lenOf]) (fun w' hin => hin.first hnl hnm) hnl h hn hk
                    · exact hk.out.elim
                  · rename_i q hd'
                    rw [hd'] at hu'
                    split at hk
                    · rename_i q' l
                      simp only [rel] at hxr
                      subst hxr
                      obtain ⟨⟨hl0, hl1⟩, hk⟩ := hk
                      obtain ⟨m, rfl⟩ := Int.eq_ofNat_of_zero_le hl0
                      rw [Int.toNat_natCast] at hk
                      have hzd : te.zero.cells.size = te.size := of_decide_eq_true (by assumption)
                      exact so_appendG ho hb hts' hargs' (fun olds h1 h2 h3 h4 => run_zeros_new w t t' o.type e te q' q hu hu' hte hzd A n cp m (by omega) olds h1 h2 h3 h4)
                        (fun h1 h2 w' h3 h4 => run_zeros_fit w t t' o.type e te q' q hu hu' hte hzd A n cp m (by omega) h1 h2 w' h3 h4)
                        (by rw [← zeroCells_list, Builtin.zeroCells]; simp [hzd]) h hn hk
                    · exact hk.out.elim
                  · rename_i hd'
                    rw [hd'] at hu'
                    split at hk
                    · rename_i bs
                      simp only [rel] at hxr
                      subst hxr
                      split at hk
                      · rename_i hsz
                        refine so_append ho hb hts' hargs' hu (.inr hu') hte (fun w => by simp [Builtin.lenOf]) (fun w' hin => ?_) ?_ h hn hk
                        · rw [hsz]; exact firstCells_str bs w'
                        · rw [hsz]; simp
                      · exact hk.out.elim
                    · exact hk.out.elim
                  · exact hk.out.elim
                · exact hk.out.elim
              · exact hk.out.elim
            · exact hk.out.elim
          · exact hk.out.elim
        · exact hk.out.elim
      · exact hk.out.elim
    · exact hk.out.elim
  · split at hk
    · rename_i t t' hts
      have hts' : c.argTypes = #[t, t'] := by apply Array.ext'; simpa using hts
      split at hk
      · rename_i A n cp y
        obtain ⟨v1, x, rfl, hv1, hxr⟩ := hr.two
        simp only [rel] at hv1
        subst hv1
        split at hk
        · rename_i ti ht
          split at hk
          · rename_i e hd
            have hu := (C.E.ok t ti ht).und
            rw [hd] at hu
            split at hk
            · rename_i te hte
              have hte := C.E.ok e te hte
              split at hk
              · rename_i B m cm
                simp only [rel] at hxr
                subst hxr
                obtain ⟨cs, hcl, hcm, hk⟩ := hk
                refine so_putC (v := .int .i64 (Nat.min m n : Nat)) h hn (fun M' h' => h') hk (fun w' hs h0 h00 => ?_)
                have hf := h.post.inn.firstN (P := C.E.P) (n := m) (c := cm) hcl hcm
                cases A with
                | none =>
                  have := h0 rfl (h00 rfl); subst this
                  simp [execOp, ho, resolve, hb, invoke, hargs', hts', builtin, Builtin.copy_, run_underlying hu, Builtin.lenOf, hte.run_size, hf, goInt]
                | some p =>
                  have := hs p rfl
                  simp [execOp, ho, resolve, hb, invoke, hargs', hts', builtin, Builtin.copy_, run_underlying hu, Builtin.lenOf, hte.run_size, hf, goInt, this]
              · exact hk.out.elim
            · exact hk.out.elim
          · exact hk.out.elim
        · exact hk.out.elim
      · exact hk.out.elim
    · exact hk.out.elim
  · split at hk
    · rename_i t hts
      have hts' : c.argTypes = #[t] := by apply Array.ext'; simpa using hts
      split at hk
      · rename_i A n cp
        obtain ⟨v1, rfl, hv1⟩ := hr.one
        simp only [rel] at hv1
        subst hv1
        split at hk
        · rename_i ti ht
          split at hk
          · rename_i e hd
            have hu := (C.E.ok t ti ht).und
            rw [hd] at hu
            split at hk
            · rename_i te hte
              have hte := C.E.ok e te hte
              rcases hk with ⟨rfl, hk⟩ | ⟨hn0, hk⟩
              · refine wp_val (w' := w) ?_ (hn ρ (.v (.tuple #[])) _ s.bx _ _ (fun _ _ => rfl) h rfl trivial hk)
                cases A <;> simp [execOp, ho, resolve, hb, invoke, hargs', hts', builtin, Builtin.clear_, run_underlying hu]
              · refine so_putC (v := .tuple #[]) h hn (fun M' h' => h') hk (fun w' hs h0 h00 => ?_)
                have hzl := zeroCells_list te n
                cases A with
                | none =>
                  have := h0 rfl (h00 rfl); subst this
                  simp [execOp, ho, resolve, hb, invoke, hargs', hts', builtin, Builtin.clear_, run_underlying hu]
                | some p =>
                  have := hs p rfl
                  obtain ⟨j, rfl⟩ : ∃ j, n = j + 1 := ⟨n - 1, by omega⟩
                  simp [execOp, ho, resolve, hb, invoke, hargs', hts', builtin, Builtin.clear_, run_underlying hu, hte.run_zero, hzl, this]
            · exact hk.out.elim
          · exact hk.out.elim
        · exact hk.out.elim
      · exact hk.out.elim
    · exact hk.out.elim
  · exact hk.out.elim

theorem so_call (c : Call) (ho : o.op = .call c) (h : Sim C ρ s M a w) (hn : Nx C ρ s a o.dst k nx) (hQ : LetsOut Q ∨ True) (hk : stepVC C.E (.call c) s M k) : o.wp C.E.P a w nx Q := by
  simp only [stepVC] at hk
  split at hk
  · rename_i f hf
    have hfr := ev_rel h f
    have hfb := ev_below h f
    split at hk
    · rename_i g cap hfe
      rw [hfe] at hfr hfb
      simp only [rel] at hfr
      rw [forceL_eq] at hk
      have hargs := (evs_rel h c.args.toList).append (caps_rel ρ cap)
      have hc := hk.run ρ w _ h.inj h.boxes h.dis h.post.inn hargs
      have hrun : ∀ S w', (callFunc g (c.args.toList.map a.eval ++ cap.map fun i => bptr ρ i 0).toArray).run C.E.P w = .ok S w' → (execOp a.eval o).run C.E.P w = .ok S w' := fun S w' he => by
        have e : (c.args.map a.eval ++ (cap.map fun i => bptr ρ i 0).toArray) = (c.args.toList.map a.eval ++ cap.map fun i => bptr ρ i 0).toArray := by
          apply Array.ext'
          simp
        simp only [execOp, ho, resolve, hf, hfr, Deferred.ofValue, Sem.run_bind, Sem.run_pure, Result.andThen_ok, invoke, Array.empty_append, e, he]
      rcases hc with ⟨he, hc⟩ | ⟨v, w', he, r, bx', M', e, hl, hb, hp, hk⟩
      · unfold Oper.wp
        rw [hrun _ _ he]
        show Calls _ _ _ _ _
        refine hc.mono ?_
        rintro e w' ⟨r, bx', M', rfl, hl, hb, hp, hk⟩
        exact hn ρ (.v r) r bx' M' w' (fun _ _ => rfl) (sim_call h hl hb hp) rfl trivial hk
      · cases e
        exact wp_val (hrun _ _ he) (hn ρ (.v v) v bx' M' w' (fun _ _ => rfl) (sim_call h hl hb hp) rfl trivial hk)
    · rename_i g cap hfe
      rw [hfe] at hfr hfb
      simp only [rel] at hfr
      rw [forceL_eq] at hk
      have hargs := (evs_rel h c.args.toList).append (RelL.vs (ρ := ρ) cap)
      have hc := hk.run ρ w _ h.inj h.boxes h.dis h.post.inn hargs
      have hrun : ∀ S w', (callFunc g (c.args.toList.map a.eval ++ cap).toArray).run C.E.P w = .ok S w' → (execOp a.eval o).run C.E.P w = .ok S w' := fun S w' he => by
        have e : (c.args.map a.eval ++ (⟨cap⟩ : Array Value)) = (c.args.toList.map a.eval ++ cap).toArray := by
          apply Array.ext'
          simp
        have e0 : ((⟨[]⟩ : Array Value) ++ Array.map a.eval c.args ++ (⟨cap⟩ : Array Value)) = (c.args.toList.map a.eval ++ cap).toArray := by
          apply Array.ext'
          simp
        simp only [execOp, ho, resolve, hf, hfr, Deferred.ofValue, Sem.run_bind, Sem.run_pure, Result.andThen_ok, invoke, Array.empty_append, e, e0, he]
      rcases hc with ⟨he, hc⟩ | ⟨v, w', he, r, bx', M', e, hl, hb, hp, hk⟩
      · unfold Oper.wp
        rw [hrun _ _ he]
        show Calls _ _ _ _ _
        refine hc.mono ?_
        rintro e w' ⟨r, bx', M', rfl, hl, hb, hp, hk⟩
        exact hn ρ (.v r) r bx' M' w' (fun _ _ => rfl) (sim_call h hl hb hp) rfl trivial hk
      · cases e
        exact wp_val (hrun _ _ he) (hn ρ (.v v) v bx' M' w' (fun _ _ => rfl) (sim_call h hl hb hp) rfl trivial hk)
    · exact hk.out.elim
  · rename_i b hb
    cases hv : heavyB b with
    | true => exact so_heavy c b hb hv ho h hn (by simpa only [stepVC, hb] using hk)
    | false => exact so_of_li h hn (li_builtin c b hb hv ho h (by simpa only [stepVC, hb] using hk))
  · exact hk.out.elim
end sound

/-! ### 8. A list of operations -/
def putT (dst : Option Tmp) (av : AV) (t : List AV) : List AV := match dst with | some d => t.set d av | none => t
def putVC (dst : Option Tmp) (av : AV) (t : List AV) (k : List AV → Prop) : Prop :=
  match dst with
  | some d => forceA av fun av => forceT (t.set d av) k
  | none => k t

def guardVC (all : List Oper) (g : Option (Nat × Bool)) (s : St) (run skip : St → Prop) : Prop :=
  match g with
  | none => run s
  | some (j, want) => match all[j]? with
    | none => Stuck "guard: no such operation"
    | some oj => match oj.dst with
      | none => Stuck "guard: no slot"
      | some d => match s.t[d]? with
        | some (.v (.bool b)) => match want with
          | true => caseB b (forceT (s.t.set d (.v (.bool true))) fun t => run ⟨t, s.bx⟩) (forceT (s.t.set d (.v (.bool false))) fun t => skip ⟨t, s.bx⟩)
          | false => caseB b (forceT (s.t.set d (.v (.bool true))) fun t => skip ⟨t, s.bx⟩) (forceT (s.t.set d (.v (.bool false))) fun t => run ⟨t, s.bx⟩)
        | some (.v (.tuple _)) => skip s
        | _ => Stuck "guard: not decided"

abbrev KS := St → PH → Prop

def vcOps (E : Env) (all : List Oper) (K : KS) : List Oper → St → PH → Prop
  | [], s, M => K s M
  | o :: os, s, M => guardVC all o.guard s
      (fun s => stepVC E o.op s M fun av bx M' => putVC o.dst av s.t fun t => forceB bx fun bx => vcOps E all K os ⟨t, bx⟩ M')
      (fun s => putVC o.dst (.v undef) s.t fun t => vcOps E all K os ⟨t, s.bx⟩ M)

section
variable {C : Ctx} {ρ : Nat → Nat} {s : St} {M : PH} {a : Act} {w : World} {o : Oper} {nx : Act → World → Prop} {Q : Exit → Act → World → Prop}

theorem sim_put (h : Sim C ρ s M a w) (dst : Option Tmp) {av : AV} {x : Value} (hr : rel ρ av x) (hb : av.below s.bx.length) : Sim C ρ ⟨putT dst av s.t, s.bx⟩ M (a.put dst x) w := by
  cases dst with
  | none => exact h
  | some d =>
    refine ⟨h.defers, ?_, ?_, h.boxes, h.mle, h.old, h.new, h.inj, h.dis, h.post⟩
    · show RelL ρ _ (a.tmps.setIfInBounds d x).toList
      rw [Array.toList_setIfInBounds]
      exact h.tmps.set d hr
    · intro b hb'
      rcases List.mem_or_eq_of_mem_set hb' with h1 | h1
      · exact h.tb b h1
      · subst h1; exact hb
theorem putVC_out {dst : Option Tmp} {av : AV} {t : List AV} {k : List AV → Prop} (h : putVC dst av t k) : k (putT dst av t) := by
  cases dst with
  | none => exact h
  | some d => simpa only [putVC, putT, forceA_eq, forceT_eq] using h

theorem step_sound {k : K1} (h : Sim C ρ s M a w) (hn : Nx C ρ s a o.dst k nx) (hk : stepVC C.E o.op s M k) : o.wp C.E.P a w nx Q := by
  cases ho : o.op with
  | move x => rw [ho] at hk; exact so_of_li h hn (li_move x (.inl ho) h hk)
  | assign x => rw [ho] at hk; exact so_of_li h hn (li_move x (.inr ho) h hk)
  | pick c x y => rw [ho] at hk; exact so_of_li h hn (li_pick c x y ho h hk)
  | alloc t => rw [ho] at hk; exact so_alloc t ho h hn hk
  | box t x => rw [ho] at hk; exact so_box t x ho h hn hk
  | load t x => rw [ho] at hk; exact so_of_li h hn (li_load t x ho h hk)
  | store t x y => rw [ho] at hk; exact so_store t x y ho h hn hk
  | fieldAddr t x f => rw [ho] at hk; exact so_of_li h hn (li_fieldAddr t x f ho h hk)
  | nilCheck x => rw [ho] at hk; exact so_of_li h hn (li_nilCheck x ho h hk)
  | binOp op t x y t' => rw [ho] at hk; exact so_of_li h hn (li_binOp op t x y t' ho h hk)
  | unOp op t x => rw [ho] at hk; exact so_of_li h hn (li_unOp op t x ho h hk)
  | extract x i => rw [ho] at hk; exact so_of_li h hn (li_extract x i ho h hk)
  | build t ps => rw [ho] at hk; exact so_of_li h hn (li_build t ps ho h hk)
  | field t x f => rw [ho] at hk; exact so_of_li h hn (li_field t x f ho h hk)
  | index t x i => rw [ho] at hk; exact so_of_li h hn (li_index t x i ho h hk)
  | indexAddr t x i => rw [ho] at hk; exact so_of_li h hn (li_indexAddr t x i ho h hk)
  | makeFunc f fs cs => rw [ho] at hk; exact so_of_li h hn (li_makeFunc f fs cs ho h hk)
  | makeSlice t l c => rw [ho] at hk; exact so_makeSlice t l c ho h hn hk
  | convert t u x => rw [ho] at hk; exact so_convert t u x ho h hn hk
  | slice t x lo hi mx => rw [ho] at hk; exact so_of_li h hn (li_slice t x lo hi mx ho h hk)
  | buildSlice t n ps => rw [ho] at hk; exact so_buildSlice t n ps ho h hn hk
  | call c => rw [ho] at hk; exact so_call c ho h hn (.inr trivial) hk
  | _ => rw [ho] at hk; exact hk.out.elim

theorem set_same {l : List AV} {d : Nat} {x : AV} (h : l[d]? = some x) : l.set d x = l := by
  apply List.ext_getElem?
  intro i
  rw [List.getElem?_set]
  split
  · rename_i e; subst e
    have h1 : d < l.length := (List.getElem?_eq_some_iff.1 h).1
    rw [if_pos h1, h]
  · rfl

theorem guardVC_out {all : List Oper} {g : Option (Nat × Bool)} {run skip : St → Prop} (h : Sim C ρ s M a w) (hg : guardVC all g s run skip) :
    (Region.wanted ⟨none, .ready 0, 0, "", #[], g⟩ (yielded all.toArray a.tmps) = true ∧ run s) ∨ (Region.wanted ⟨none, .ready 0, 0, "", #[], g⟩ (yielded all.toArray a.tmps) = false ∧ skip s) := by
  unfold guardVC at hg
  split at hg
  · exact .inl ⟨rfl, hg⟩
  · rename_i j want
    split at hg
    · exact hg.out.elim
    · rename_i oj hj
      split at hg
      · exact hg.out.elim
      · rename_i d hd
        have hy : ∀ x, (∃ av, s.t[d]? = some av ∧ rel ρ av x) → a.tmps[d]? = some x → yielded all.toArray a.tmps j = match (some x : Option Value) with | some (.bool b) => some b | _ => none := by
          intro x _ hx
          have e : ((all.toArray[j]?).bind (·.dst)).bind (a.tmps[·]?) = some x := by simp [hj, hd, hx]
          unfold yielded
          rw [e]
          cases x <;> rfl
        split at hg
        · rename_i b hb
          obtain ⟨x, hx, hr⟩ := h.tmps.get d _ hb
          simp only [rel] at hr; subst hr
          have hx' : a.tmps[d]? = some (.bool b) := by rw [← Array.getElem?_toList]; exact hx
          have hyy := hy (.bool b) ⟨_, hb, rfl⟩ hx'
          simp only [Region.wanted, hyy]
          cases want <;> cases b <;> simp only [forceT_eq, set_same hb] at hg <;> simp <;> first | exact hg.yes rfl | exact hg.no rfl
        · rename_i vs hb
          obtain ⟨x, hx, hr⟩ := h.tmps.get d _ hb
          simp only [rel] at hr; subst hr
          have hx' : a.tmps[d]? = some (.tuple vs) := by rw [← Array.getElem?_toList]; exact hx
          have hyy := hy (.tuple vs) ⟨_, hb, rfl⟩ hx'
          exact .inr ⟨by simp [Region.wanted, hyy], hg⟩
        · exact hg.out.elim

theorem wanted_guard (o : Oper) (y : Nat → Option Bool) : Region.wanted o y = Region.wanted ⟨none, .ready 0, 0, "", #[], o.guard⟩ y := rfl

theorem vcOps_sound {all : List Oper} {K : KS} (hK : ∀ ρ s M a w, Sim C ρ s M a w → K s M → Q .normal a w) :
    ∀ (l : List Oper) (ρ : Nat → Nat) (s : St) (M : PH) (a : Act) (w : World), vcOps C.E all K l s M → Sim C ρ s M a w → wpList C.E.P all.toArray Q l a w
  | [], ρ, s, M, a, w, hv, h => hK ρ s M a w h hv
  | o :: os, ρ, s, M, a, w, hv, h => by
    refine wpList_step fun K' hK' => ?_
    rw [wanted_guard]
    rcases guardVC_out h hv with ⟨hw, hr⟩ | ⟨hw, hr⟩
    · rw [hw]
      simp only [if_true]
      refine step_sound h (fun ρ' av x bx' M' w' _ h' hr' hb' hk' => hK' _ _ ?_) hr
      have hp := putVC_out hk'
      rw [forceB_eq] at hp
      exact vcOps_sound hK os ρ' _ M' _ w' hp (sim_put h' o.dst hr' hb')
    · rw [hw]
      simp only [Bool.false_eq_true, if_false]
      have hp := putVC_out hr
      exact hK' _ _ (vcOps_sound hK os ρ _ M _ w hp (sim_put h o.dst (av := .v undef) rfl trivial))
end

/-- A loop, told by a ghost. -/
theorem wp_loop_ghost {P : Program} {α : Type} {c : Code} {Q : Exit → Act → World → Prop} (I : α → Act → World → Prop) (μ : α → Nat) (x0 : α) {a : Act} {w : World} (h0 : I x0 a w)
    (round : ∀ x a w, I x a w → c.wp P (Exit.then (fun a' w' => ∃ y, I y a' w' ∧ μ y < μ x) Q) a w) : (Code.loop c).wp P Q a w := by
  have key : ∀ (n : Nat) x a w, μ x < n → I x a w → Code.rounds P c Q n a w := by
    intro n
    induction n with
    | zero => intro x a w h; omega
    | succ n ih =>
      intro x a w h hI
      rw [rounds_succ]
      refine wp_mono (round x a w hI) fun e a' w' hq => ?_
      cases e with
      | normal =>
        obtain ⟨y, hy, hlt⟩ := hq
        exact ih y a' w' (by omega) hy
      | _ => exact hq
  exact wp_loop_rounds (μ x0 + 1) (key _ x0 a w (by omega) h0)

/-! ### 9. Code -/
inductive Ex where
  | normal
  | exit (id : Nat)
  | ret
def Ex.rel : Ex → Exit → Prop
  | .normal, .normal => True
  | .exit i, .exit j => i = j
  | .ret, .ret => True
  | _, _ => False
abbrev KC := Ex → St → PH → Prop

/-- What a walk's end is worth to the machine. -/
def Lift (C : Ctx) (Q : KC) (e : Exit) (a : Act) (w : World) : Prop := ∃ x ρ s M, Ex.rel x e ∧ Sim C ρ s M a w ∧ Q x s M
/-- A piece of code, from a state on, whatever memory looks like. -/
structure AWp (C : Ctx) (c : Code) (Q : KC) (s : St) (M : PH) : Prop where
  out : ∀ ρ a w, Sim C ρ s M a w → c.wp C.E.P (Lift C Q) a w

/-- A region that draws its order, a loop: laws of their own. (By the recursor itself: the kernel reckons it fast.) -/
noncomputable def vc (C : Ctx) (c : Code) : KC → St → PH → Prop :=
  @Code.rec (fun _ => KC → St → PH → Prop)
    (fun Q s M => Q .normal s M)
    (fun id ops draw Q s M => match draw with
      | false => vcOps C.E ops.toList (Q .normal) ops.toList s M
      | true => AWp C (.region id ops true) Q s M)
    (fun _ _ va vb Q s M => va (fun e s M => match e with | .normal => vb Q s M | .exit i => Q (.exit i) s M | .ret => Q .ret s M) s M)
    (fun c _ _ va vb Q s M => match ev s.t c with
      | .v (.bool d) => caseB d (va Q s M) (vb Q s M)
      | _ => Stuck "cond")
    (fun id _ vb Q s M => vb (fun e s M => match e with | .exit j => (match decide (j = id) with | true => Q .normal s M | false => Q (.exit j) s M) | .normal => Q .normal s M | .ret => Q .ret s M) s M)
    (fun c _ Q s M => AWp C (.loop c) Q s M)
    (fun _ _ _ _ _ _ _ _ _ => Stuck "rangeFunc")
    (fun id Q s M => Q (.exit id) s M)
    (fun _ _ _ _ _ => Stuck "scope")
    (fun _ _ _ _ => Stuck "label")
    (fun _ _ _ _ => Stuck "goto")
    (fun Q s M => Q .ret s M)
    (fun _ _ _ _ => Stuck "refuse")
    c

section
variable {C : Ctx}
theorem lift_mono {Q Q' : KC} (h : ∀ e s M, Q e s M → Q' e s M) {e : Exit} {a : Act} {w : World} (hl : Lift C Q e a w) : Lift C Q' e a w := by
  obtain ⟨x, ρ, s, M, h1, h2, h3⟩ := hl
  exact ⟨x, ρ, s, M, h1, h2, h _ _ _ h3⟩
theorem AWp.mono {c : Code} {Q Q' : KC} {s : St} {M : PH} (h : AWp C c Q s M) (hq : ∀ e s M, Q e s M → Q' e s M) : AWp C c Q' s M :=
  ⟨fun ρ a w hs => wp_mono (h.out ρ a w hs) fun _ _ _ => lift_mono hq⟩

theorem region_list {P : Program} {id : Nat} {ops : Array Oper} {Q : Exit → Act → World → Prop} {a : Act} {w : World} (h : wpList P ops.toList.toArray Q ops.toList a w) : (Code.region id ops false).wp P Q a w :=
  wp_region_list (by simpa using h)

theorem vc_sound : ∀ (c : Code) (Q : KC) (s : St) (M : PH), vc C c Q s M → AWp C c Q s M
  | .skip, Q, s, M, h => ⟨fun ρ a w hs => wp_skip ⟨.normal, ρ, s, M, trivial, hs, h⟩⟩
  | .ret, Q, s, M, h => ⟨fun ρ a w hs => wp_ret ⟨.ret, ρ, s, M, trivial, hs, h⟩⟩
  | .exit id, Q, s, M, h => ⟨fun ρ a w hs => wp_exit ⟨.exit id, ρ, s, M, rfl, hs, h⟩⟩
  | .region id ops false, Q, s, M, h => ⟨fun ρ a w hs => region_list (vcOps_sound (fun ρ s M a w hs hk => ⟨.normal, ρ, s, M, trivial, hs, hk⟩) _ ρ s M a w h hs)⟩
  | .region id ops true, Q, s, M, h => h
  | .seq x y, Q, s, M, h => ⟨fun ρ a w hs => wp_seq (wp_mono ((vc_sound x _ s M h).out ρ a w hs) fun e a' w' hl => by
      obtain ⟨ex, ρ', s', M', hr, hs', hq⟩ := hl
      cases ex with
      | normal =>
        cases e <;> simp only [Ex.rel] at hr
        exact (vc_sound y Q s' M' hq).out ρ' a' w' hs'
      | exit i =>
        cases e <;> simp only [Ex.rel] at hr
        exact ⟨.exit i, ρ', s', M', hr, hs', hq⟩
      | ret =>
        cases e <;> simp only [Ex.rel] at hr
        exact ⟨.ret, ρ', s', M', trivial, hs', hq⟩)⟩
  | .cond c x y, Q, s, M, h => ⟨fun ρ a w hs => by
      change (match ev s.t c with | .v (.bool d) => caseB d (vc C x Q s M) (vc C y Q s M) | _ => Stuck "cond") at h
      have hc := ev_rel hs c
      split at h
      · rename_i d hd
        rw [hd] at hc
        simp only [rel] at hc
        cases d with
        | true => exact wp_cond_true hc ((vc_sound x Q s M (h.yes rfl)).out ρ a w hs)
        | false => exact wp_cond_false hc ((vc_sound y Q s M (h.no rfl)).out ρ a w hs)
      · exact h.out.elim⟩
  | .block id c, Q, s, M, h => ⟨fun ρ a w hs => wp_block (wp_mono ((vc_sound c _ s M h).out ρ a w hs) fun e a' w' hl => by
      obtain ⟨ex, ρ', s', M', hr, hs', hq⟩ := hl
      cases ex with
      | normal =>
        cases e <;> simp only [Ex.rel] at hr
        exact ⟨.normal, ρ', s', M', trivial, hs', hq⟩
      | exit i =>
        cases e <;> simp only [Ex.rel] at hr
        subst hr
        simp only [Exit.inBlock]
        by_cases hi : i = id
        · rw [if_pos hi]; simp only [hi, decide_true] at hq; exact ⟨.normal, ρ', s', M', trivial, hs', hq⟩
        · rw [if_neg hi]; simp only [hi, decide_false] at hq; exact ⟨.exit i, ρ', s', M', rfl, hs', hq⟩
      | ret =>
        cases e <;> simp only [Ex.rel] at hr
        exact ⟨.ret, ρ', s', M', trivial, hs', hq⟩)⟩
  | .loop c, Q, s, M, h => h
  | .rangeFunc _ _ _ _, _, _, _, h => h.out.elim
  | .scope _, _, _, _, h => h.out.elim
  | .label _, _, _, _, h => h.out.elim
  | .goto _, _, _, _, h => h.out.elim
  | .refuse _, _, _, _, h => h.out.elim

end
/-! ### 10a. A region that draws its order -/
/-- An order of the work: operation i first (it yields the same wherever it comes) · whichever of these comes. -/
inductive Sch where
  | done
  | light (i : Nat) (r : Sch)
  | alt (i : Nat) (tail : Bool) (r : Sch) (more : Sch)
  | nil
def Sch.ids : Sch → List Nat
  | .alt i _ _ more => i :: more.ids
  | _ => []
/-- Number j waits for every load. -/
def tailOp (tb : Tab) (ops : Array Oper) (j : Nat) : Bool :=
  match ops[j]? with
  | none => false
  | some oj => (List.range ops.size).all fun k => match ops[k]? with
    | none => true
    | some ok => !isLoad tb ok.op || oj.after.any (fun e => Region.binds .any e && e.on == k)
def lightAt (tb : Tab) (ops : Array Oper) (i : Nat) : Bool := match ops[i]? with | some o => isLight tb o.op | none => false
/-- The order fits the region. (head: not amid alternatives.) -/
def schedOk (tb : Tab) (ops : Array Oper) : Sch → Bool → Array Bool → Bool
  | .done, _, listed => (Region.ready .any ops listed).isEmpty
  | .light i r, _, listed => (Region.ready .any ops listed).contains i && Region.free .any ops listed i && lightAt tb ops i && schedOk tb ops r true (listed.setIfInBounds i true)
  | .alt i tail r more, head, listed => (!head || decide (i :: more.ids = Region.ready .any ops listed)) && (!tail || tailOp tb ops i) && (ops[i]?).isSome && schedOk tb ops r true (listed.setIfInBounds i true) && schedOk tb ops more false listed
  | .nil, head, _ => !head

/-- What an operation that isn't taken first must leave as it was: the boxes, and of the known memory that part F which the loads lean on (F may be chosen anew). -/
def junkB (b : Box) : Box := ⟨b.ty, b.cs.map fun _ => .junk⟩
def maskJ (js : List Nat) : Nat → List Box → List Box
  | _, [] => []
  | i, b :: l => (match js.contains i with | true => b | false => junkB b) :: maskJ js (i + 1) l
/-- The boxes that loads may lean on: all, or these alone (of the others nothing is known). -/
def mask (J : Option (List Nat)) (bx : List Box) : List Box := match J with | none => bx | some js => maskJ js 0 bx
theorem maskJ_length (js : List Nat) : ∀ (i : Nat) (bx : List Box), (maskJ js i bx).length = bx.length
  | _, [] => rfl
  | i, b :: l => by simp [maskJ, maskJ_length js (i + 1) l]
theorem mask_length (J : Option (List Nat)) (bx : List Box) : (mask J bx).length = bx.length := by cases J <;> simp [mask, maskJ_length]
theorem maskJ_get (js : List Nat) : ∀ (i : Nat) (bx : List Box) (n : Nat) (b : Box), (maskJ js i bx)[n]? = some b → ∃ b0, bx[n]? = some b0 ∧ (b = b0 ∨ b = junkB b0)
  | _, [], n, b, h => by simp [maskJ] at h
  | i, c :: l, 0, b, h => by
    simp only [maskJ, List.getElem?_cons_zero, Option.some.injEq] at h
    refine ⟨c, rfl, ?_⟩
    cases hj : js.contains i <;> rw [hj] at h <;> simp only at h
    · exact .inr h.symm
    · exact .inl h.symm
  | i, c :: l, n + 1, b, h => by
    simp only [maskJ, List.getElem?_cons_succ] at h ⊢
    exact maskJ_get js (i + 1) l n b h
def keepVC (J : Option (List Nat)) (tail : Bool) (bx bx' : List Box) (F M' : PH) (p : PH → Prop) : Prop :=
  match tail with
  | true => p M'
  | false => (∃ rest, mask J bx' = mask J bx ++ rest) ∧ ∃ F', F.Le F' ∧ F'.Le M' ∧ p F'

abbrev KD := St → PH → PH → Prop
noncomputable def vcD (E : Env) (J : Option (List Nat)) (ops : List Oper) (K : KS) (d : Sch) : KD :=
  @Sch.rec (fun _ => KD)
    (fun s M _ => K s M)
    (fun i _ vr s M F => match ops[i]? with
      | some o => guardVC ops o.guard s
        (fun s => stepVC E o.op ⟨s.t, mask J s.bx⟩ F fun av _ _ => putVC o.dst av s.t fun t => vr ⟨t, s.bx⟩ M F)
        (fun s => putVC o.dst (.v undef) s.t fun t => vr ⟨t, s.bx⟩ M F)
      | none => Stuck "draw")
    (fun i tail _ more vr vm s M F => match ops[i]? with
      | some o => match more with
        | .nil => guardVC ops o.guard s
          (fun s => stepVC E o.op s M fun av bx M' => keepVC J tail s.bx bx F M' fun F' => putVC o.dst av s.t fun t => forceB bx fun bx => vr ⟨t, bx⟩ M' F')
          (fun s => putVC o.dst (.v undef) s.t fun t => vr ⟨t, s.bx⟩ M F)
        | _ => (guardVC ops o.guard s
          (fun s => stepVC E o.op s M fun av bx M' => keepVC J tail s.bx bx F M' fun F' => putVC o.dst av s.t fun t => forceB bx fun bx => vr ⟨t, bx⟩ M' F')
          (fun s => putVC o.dst (.v undef) s.t fun t => vr ⟨t, s.bx⟩ M F)) ∧ vm s M F
      | none => Stuck "draw")
    (fun _ _ _ => True)
    d

/-- Whatever order is picked from here on; S: what the loads that were taken first lean on. -/
def wpX (tb : Tab) (P : Program) (ops : Array Oper) (Q : Exit → Act → World → Prop) : Nat → (World → Prop) → Array Bool → Act → World → Prop
  | 0, _, listed, a, w => Region.ready .any ops listed = [] ∧ Q .normal a w
  | fuel + 1, S, listed, a, w =>
    (Region.ready .any ops listed = [] → Q .normal a w) ∧
    ∀ i ∈ Region.ready .any ops listed, wpOp P ops Q i (fun a' w' => ∃ S' : World → Prop, S' w' ∧ (tailOp tb ops i = true ∨ ∀ x, S' x → S x) ∧ wpX tb P ops Q fuel S' (listed.setIfInBounds i true) a' w') a w
theorem wpAny_of_X {tb : Tab} {P : Program} {ops : Array Oper} {Q : Exit → Act → World → Prop} : ∀ (fuel : Nat) (S : World → Prop) (listed : Array Bool) (a : Act) (w : World), wpX tb P ops Q fuel S listed a w → wpAny P .any ops Q fuel listed a w
  | 0, _, _, _, _, h => h
  | fuel + 1, _, _, _, _, h => ⟨h.1, fun i hi => wpOp_mono (fun a' w' ⟨S', _, _, h'⟩ => wpAny_of_X fuel S' _ a' w' h') (h.2 i hi)⟩

theorem wpX_first {tb : Tab} {P : Program} {ops : Array Oper} {Q : Exit → Act → World → Prop} {i : Nat} {oi : Oper} {v : Value} (hi : ops[i]? = some oi) (hsel : ∀ (j : Nat) (o : Oper) cs b, ops[j]? = some o → o.op ≠ .select cs b)
    (hQ : ∀ c a w, Q (.panic c) (a.put oi.dst v) w → Q (.panic c) a w) :
    ∀ (fuel : Nat) (S S₀ : World → Prop) (listed : Array Bool) (a : Act) (w : World), (∀ x, S x → S₀ x) → (isLoad tb oi.op = true ∨ ∀ x, S₀ x) →
      (∀ j oj, ops[j]? = some oj → j ≠ i → listed.getD j true = false → (∀ e ∈ oj.after, Region.binds .any e = true → e.on ≠ i) → oi.apart ops oj = true) →
      i ∈ Region.ready .any ops listed → YieldsIf P ops S₀ oi v a → S w →
      wpX tb P ops Q fuel S (listed.setIfInBounds i true) (a.put oi.dst v) w → wpX tb P ops Q (fuel + 1) S listed a w := by
  intro fuel
  induction fuel with
  | zero =>
    intro S S₀ listed a w hS0 hT _ hr hy hS H
    refine ⟨fun h => (by rw [h] at hr; cases hr), fun j hj => ?_⟩
    by_cases hji : j = i
    · subst hji; exact hy.wpOp hi (hS0 w hS) ⟨S, hS, .inr fun _ => id, H⟩
    · have := ready_mono hj hji
      rw [H.1] at this
      cases this
  | succ fuel ih =>
    intro S S₀ listed a w hS0 hT hfree hr hy hS H
    refine ⟨fun h => (by rw [h] at hr; cases hr), fun j hj => ?_⟩
    by_cases hji : j = i
    · subst hji; exact hy.wpOp hi (hS0 w hS) ⟨S, hS, .inr fun _ => id, H⟩
    · have h1 := H.2 j (ready_mono hj hji)
      obtain ⟨hjun, oj, hoj, hall⟩ := mem_ready.1 hj
      have hnot : ∀ e ∈ oj.after, Region.binds .any e = true → e.on ≠ i := fun e he hb heq => by
        have h1 := hall e he hb
        have h0 := (mem_ready.1 hr).1
        rw [heq] at h1
        rcases Nat.lt_or_ge i listed.size with h' | h'
        · simp [h'] at h0 h1; rw [h0] at h1; cases h1
        · simp [Array.getElem?_eq_none h'] at h1
      have h2 := wpOp_putIf hoj (hfree j oj hoj hji hjun hnot) (fun cs b => hsel i oi cs b hi) (fun cs b => hsel j oj cs b hoj) hQ hy h1
      have hfree' : ∀ k ok, ops[k]? = some ok → k ≠ i → (listed.setIfInBounds j true).getD k true = false →
          (∀ e ∈ ok.after, Region.binds .any e = true → e.on ≠ i) → oi.apart ops ok = true := fun k ok hk hki hun hno => by
        refine hfree k ok hk hki ?_ hno
        by_cases hjk : j = k
        · subst hjk; exact hjun
        · rw [getD_set_ne true hjk] at hun; exact hun
      refine wpOp_mono (fun a' w' h3 => ?_) h2
      obtain ⟨hy', S', hS', hsub, hrec⟩ := h3
      have hle : (∀ x, S' x → S₀ x) := by
        rcases hT with hT | hT
        · rcases hsub with ht | hs
          · exfalso
            unfold tailOp at ht
            rw [hoj] at ht
            have hilt : i < ops.size := (Array.getElem?_eq_some_iff.1 hi).1
            have := List.all_eq_true.1 ht i (List.mem_range.2 hilt)
            rw [hi] at this
            simp only [hT, Bool.not_true, Bool.false_or] at this
            obtain ⟨e, he, hb⟩ := Array.any_eq_true'.1 this
            simp only [Bool.and_eq_true, beq_iff_eq] at hb
            exact hnot e he hb.1 hb.2
          · exact fun x hx => hS0 x (hs x hx)
        · exact fun x _ => hT x
      refine ⟨S', hS', hsub, ih S' S₀ (listed.setIfInBounds j true) a' w' hle hT hfree' (ready_mono hr (Ne.symm hji)) hy' hS' ?_⟩
      rw [Array.setIfInBounds_comm _ _ hji]
      exact hrec

section
variable {C : Ctx} {ρ : Nat → Nat} {s : St} {M : PH} {a : Act} {w : World} {o : Oper} {k : K1}
theorem light_yld (hl : isLight C.E.tb o.op = true) (h : Sim C ρ s M a w) (hk : stepVC C.E o.op s M k) : Yld C ρ s M a w o k := by
  cases ho : o.op with
  | move x => rw [ho] at hk; exact li_move x (.inl ho) h hk
  | assign x => rw [ho] at hk; exact li_move x (.inr ho) h hk
  | pick c x y => rw [ho] at hk; exact li_pick c x y ho h hk
  | load t x => rw [ho] at hk; exact li_load t x ho h hk
  | fieldAddr t x f => rw [ho] at hk; exact li_fieldAddr t x f ho h hk
  | nilCheck x => rw [ho] at hk; exact li_nilCheck x ho h hk
  | binOp op t x y t' => rw [ho] at hk; exact li_binOp op t x y t' ho h hk
  | unOp op t x => rw [ho] at hk; exact li_unOp op t x ho h hk
  | extract x i => rw [ho] at hk; exact li_extract x i ho h hk
  | build t ps => rw [ho] at hk; exact li_build t ps ho h hk
  | field t x f => rw [ho] at hk; exact li_field t x f ho h hk
  | index t x i => rw [ho] at hk; exact li_index t x i ho h hk
  | indexAddr t x i => rw [ho] at hk; exact li_indexAddr t x i ho h hk
  | makeFunc f fs cs => rw [ho] at hk; exact li_makeFunc f fs cs ho h hk
  | convert t u x => rw [ho] at hk hl; exact li_convert t u x hl ho h hk
  | slice t x lo hi mx => rw [ho] at hk; exact li_slice t x lo hi mx ho h hk
  | call c =>
    rw [ho] at hk hl
    simp only [isLight] at hl
    split at hl
    · rename_i b hb; exact li_builtin c b hb (by simpa using hl) ho h hk
    · cases hl
  | _ => rw [ho] at hl; simp [isLight] at hl

def Sch.depth : Sch → Nat
  | .done => 0
  | .nil => 0
  | .light _ r => r.depth + 1
  | .alt _ _ r more => max (r.depth + 1) more.depth

theorem Sim.shrink {F : PH} (h : Sim C ρ s M a w) (hF : F.Le M) : Sim C ρ s F a w := by
  refine ⟨h.defers, h.tmps, h.tb, h.boxes, h.mle, h.old, h.new, h.inj, fun i hi => ?_, ⟨h.post.os, h.post.tape, h.post.output, h.post.size, fun k o hk => h.post.inn k o (hF k o hk), fun k o hk => h.post.fresh k o (hF k o hk), h.post.frame⟩⟩
  cases hf : F (ρ i) with
  | none => rfl
  | some o => have := hF _ _ hf; rw [h.dis i hi] at this; cases this
theorem Sim.mask (h : Sim C ρ s M a w) (J : Option (List Nat)) : Sim C ρ ⟨s.t, Xe.mask J s.bx⟩ M a w := by
  cases J with
  | none => exact h
  | some js =>
    have hl := maskJ_length js 0 s.bx
    refine ⟨h.defers, h.tmps, by show Below' (maskJ js 0 s.bx).length s.t; rw [hl]; exact h.tb, fun i b hi => ?_, by show C.m ≤ (maskJ js 0 s.bx).length; rw [hl]; exact h.mle, h.old, fun i h1 h2 => h.new i h1 (by rw [← hl]; exact h2), fun i j h1 h2 => h.inj i j (by rw [← hl]; exact h1) (by rw [← hl]; exact h2), fun i h1 => h.dis i (by rw [← hl]; exact h1), h.post⟩
    obtain ⟨b0, h0, hb⟩ := maskJ_get js 0 s.bx i b hi
    obtain ⟨cs, h1, h2, h3⟩ := h.boxes i b0 h0
    have h3 : Below' (maskJ js 0 s.bx).length b0.cs := by rw [hl]; exact h3
    rcases hb with rfl | rfl
    · exact ⟨cs, h1, h2, h3⟩
    · refine ⟨cs, h1, ?_, fun c hc => ?_⟩
      · show RelL ρ (b0.cs.map fun _ => AV.junk) cs.toList
        have : (b0.cs.map fun _ => AV.junk) = List.replicate b0.cs.length .junk := List.map_const' ..
        rw [this]
        exact RelL.junks _ _ h2.length.symm
      · simp [junkB] at hc
        rw [← hc.2]; trivial
theorem agree_sub {ρ' : Nat → Nat} {bx' : List Box} {M' F : PH} (h : Sim C ρ s M a w) (hρ : ∀ i, i < s.bx.length → ρ' i = ρ i) (hb : ∃ rest, bx' = s.bx ++ rest) (hM : F.Le M') (x : World) (hx : Agree ρ' bx' M' x) : Agree ρ s.bx F x := by
  obtain ⟨rest, rfl⟩ := hb
  refine ⟨fun i b hi => ?_, fun k o hk => hx.inn k o (hM k o hk)⟩
  have hil : i < s.bx.length := (List.getElem?_eq_some_iff.1 hi).1
  obtain ⟨cs, h1, h2, _⟩ := hx.bx i b (by rw [List.getElem?_append_left hil]; exact hi)
  obtain ⟨_, _, _, h3⟩ := h.boxes i b hi
  exact ⟨cs, by rw [← hρ i hil]; exact h1, RelL.congr (fun j hj => (hρ j hj).symm) h3 h2, h3⟩

theorem vcD_alt {E : Env} {J : Option (List Nat)} {ops : List Oper} {K : KS} {i : Nat} {tail : Bool} {r more : Sch} {s : St} {M F : PH} (hv : vcD E J ops K (.alt i tail r more) s M F) :
    ∃ o, ops[i]? = some o ∧ guardVC ops o.guard s (fun s => stepVC E o.op s M fun av bx M' => keepVC J tail s.bx bx F M' fun F' => putVC o.dst av s.t fun t => forceB bx fun bx => vcD E J ops K r ⟨t, bx⟩ M' F') (fun s => putVC o.dst (.v undef) s.t fun t => vcD E J ops K r ⟨t, s.bx⟩ M F) ∧ (more.ids ≠ [] → vcD E J ops K more s M F) := by
  cases ho : ops[i]? with
  | none =>
    have : vcD E J ops K (.alt i tail r more) s M F = Stuck "draw" := by simp only [vcD, ho]
    rw [this] at hv
    exact hv.out.elim
  | some o =>
    refine ⟨o, rfl, ?_⟩
    cases more with
    | nil => simp only [vcD, ho] at hv; exact ⟨hv, fun hne => absurd rfl hne⟩
    | done => simp only [vcD, ho] at hv; exact ⟨hv.1, fun _ => hv.2⟩
    | light _ _ => simp only [vcD, ho] at hv; exact ⟨hv.1, fun _ => hv.2⟩
    | alt _ _ _ _ => simp only [vcD, ho] at hv; exact ⟨hv.1, fun _ => hv.2⟩

abbrev After (tb : Tab) (P : Program) (ops : Array Oper) (Q : Exit → Act → World → Prop) (S : World → Prop) (fuel : Nat) (listed : Array Bool) (i : Nat) (a' : Act) (w' : World) : Prop :=
  ∃ S' : World → Prop, S' w' ∧ (tailOp tb ops i = true ∨ ∀ x, S' x → S x) ∧ wpX tb P ops Q fuel S' (listed.setIfInBounds i true) a' w'

theorem vcD_sound {J : Option (List Nat)} {Q : KC} {ops : Array Oper} (hsel : Region.noSelect ops = true) : ∀ (d : Sch),
    (∀ (fuel : Nat) (listed : Array Bool) (ρ : Nat → Nat) (s : St) (M F : PH) (a : Act) (w : World), F.Le M → d.depth ≤ fuel → schedOk C.E.tb ops d true listed = true → vcD C.E J ops.toList (Q .normal) d s M F → Sim C ρ s M a w →
      wpX C.E.tb C.E.P ops (Lift C Q) fuel (Agree ρ (mask J s.bx) F) listed a w) ∧
    (∀ (fuel : Nat) (listed : Array Bool) (ρ : Nat → Nat) (s : St) (M F : PH) (a : Act) (w : World), F.Le M → d.depth ≤ fuel + 1 → schedOk C.E.tb ops d false listed = true → vcD C.E J ops.toList (Q .normal) d s M F → Sim C ρ s M a w →
      ∀ j ∈ d.ids, wpOp C.E.P ops (Lift C Q) j (After C.E.tb C.E.P ops (Lift C Q) (Agree ρ (mask J s.bx) F) fuel listed j) a w) := by
  have hQ : ∀ (dst : Option Tmp) (v : Value) c a w, Lift C Q (.panic c) (a.put dst v) w → Lift C Q (.panic c) a w := by
    rintro dst v c a w ⟨x, _, _, _, hx, _⟩
    cases x <;> exact hx.elim
  intro d
  induction d with
  | nil => exact ⟨fun _ _ _ _ _ _ _ _ _ _ h => by simp [schedOk] at h, fun _ _ _ _ _ _ _ _ _ _ _ _ _ j hj => by cases hj⟩
  | done =>
    refine ⟨fun fuel listed ρ s M F a w hF _ hs hv h => ?_, fun _ _ _ _ _ _ _ _ _ _ _ _ _ j hj => by cases hj⟩
    simp only [schedOk, List.isEmpty_iff] at hs
    have hq : Lift C Q .normal a w := ⟨.normal, ρ, s, M, trivial, h, hv⟩
    cases fuel with
    | zero => exact ⟨hs, hq⟩
    | succ n => exact ⟨fun _ => hq, fun i hi => by rw [hs] at hi; cases hi⟩
  | light i r ih =>
    refine ⟨fun fuel listed ρ s M F a w hF hd hs hv h => ?_, fun _ _ _ _ _ _ _ _ _ _ _ _ _ j hj => by cases hj⟩
    simp only [schedOk, Bool.and_eq_true] at hs
    obtain ⟨⟨⟨hrd, hfr⟩, hli⟩, hr⟩ := hs
    obtain ⟨fuel, rfl⟩ : ∃ n, fuel = n + 1 := ⟨fuel - 1, by simp [Sch.depth] at hd; omega⟩
    have hd' : r.depth ≤ fuel := by simp [Sch.depth] at hd; omega
    change (match ops.toList[i]? with | some o => guardVC ops.toList o.guard s (fun s => stepVC C.E o.op ⟨s.t, mask J s.bx⟩ F fun av _ _ => putVC o.dst av s.t fun t => vcD C.E J ops.toList (Q .normal) r ⟨t, s.bx⟩ M F) (fun s => putVC o.dst (.v undef) s.t fun t => vcD C.E J ops.toList (Q .normal) r ⟨t, s.bx⟩ M F) | none => Stuck "draw") at hv
    split at hv
    · rename_i o ho
      have hi : ops[i]? = some o := by rw [← Array.getElem?_toList]; exact ho
      have hl : isLight C.E.tb o.op = true := by simpa [lightAt, hi] using hli
      have hrd' : i ∈ Region.ready .any ops listed := by simpa using hrd
      rcases guardVC_out h hv with ⟨hw, hrun⟩ | ⟨hw, hskip⟩
      · rw [← wanted_guard, Array.toArray_toList] at hw
        obtain ⟨x, av, h1, h2, h3, h4⟩ := light_yld hl ((h.shrink hF).mask J) hrun
        have h2 : av.below s.bx.length := by have := h2; rwa [mask_length] at this
        refine wpX_first (v := x) hi (Region.noSelect_spec hsel) (hQ _ _) fuel _ (fun w' => isLoad C.E.tb o.op = true → Agree ρ (mask J s.bx) F w') listed a w (fun _ hx _ => hx) ?_ (Region.free_spec hi hfr) hrd' (.inl ⟨hw, h4⟩) ((h.shrink hF).mask J).agree ?_
        · cases hld : isLoad C.E.tb o.op with
          | true => exact .inl rfl
          | false => exact .inr (fun _ hx => by cases hx)
        · have hp := putVC_out h3
          exact ih.1 fuel _ ρ ⟨putT o.dst av s.t, s.bx⟩ M F _ w hF hd' hr hp (sim_put h o.dst h1 h2)
      · rw [← wanted_guard, Array.toArray_toList] at hw
        refine wpX_first (v := undef) hi (Region.noSelect_spec hsel) (hQ _ _) fuel _ (fun _ => True) listed a w (fun _ _ => trivial) (.inr fun _ => trivial) (Region.free_spec hi hfr) hrd' (.inr ⟨hw, rfl⟩) ((h.shrink hF).mask J).agree ?_
        exact ih.1 fuel _ ρ ⟨putT o.dst (.v undef) s.t, s.bx⟩ M F _ w hF hd' hr (putVC_out hskip) (sim_put h o.dst (av := .v undef) rfl trivial)
    · exact hv.out.elim
  | alt i tail r more ihr ihm =>
    have each : ∀ (fuel : Nat) (listed : Array Bool) (ρ : Nat → Nat) (s : St) (M F : PH) (a : Act) (w : World), F.Le M → (Sch.alt i tail r more).depth ≤ fuel + 1 → ∀ head, schedOk C.E.tb ops (.alt i tail r more) head listed = true → vcD C.E J ops.toList (Q .normal) (.alt i tail r more) s M F → Sim C ρ s M a w →
        ∀ j ∈ (Sch.alt i tail r more).ids, wpOp C.E.P ops (Lift C Q) j (After C.E.tb C.E.P ops (Lift C Q) (Agree ρ (mask J s.bx) F) fuel listed j) a w := by
      intro fuel listed ρ s M F a w hF hd head hs hv h j hj
      simp only [schedOk, Bool.and_eq_true] at hs
      obtain ⟨⟨⟨⟨_, htl⟩, hsome⟩, hr⟩, hm⟩ := hs
      have hd1 : r.depth ≤ fuel := by simp [Sch.depth] at hd; omega
      have hd2 : more.depth ≤ fuel + 1 := by simp [Sch.depth] at hd; omega
      obtain ⟨o, hi⟩ := Option.isSome_iff_exists.1 hsome
      have hi' : ops.toList[i]? = some o := by rw [Array.getElem?_toList]; exact hi
      obtain ⟨hv1, hv2⟩ : guardVC ops.toList o.guard s (fun s => stepVC C.E o.op s M fun av bx M' => keepVC J tail s.bx bx F M' fun F' => putVC o.dst av s.t fun t => forceB bx fun bx => vcD C.E J ops.toList (Q .normal) r ⟨t, bx⟩ M' F') (fun s => putVC o.dst (.v undef) s.t fun t => vcD C.E J ops.toList (Q .normal) r ⟨t, s.bx⟩ M F) ∧ (more.ids ≠ [] → vcD C.E J ops.toList (Q .normal) more s M F) := by
        obtain ⟨o', ho', h1, h2⟩ := vcD_alt hv
        rw [hi'] at ho'; cases ho'
        exact ⟨h1, h2⟩
      simp only [Sch.ids, List.mem_cons] at hj
      rcases hj with rfl | hj
      · unfold wpOp
        rw [hi]
        rcases guardVC_out h hv1 with ⟨hw, hrun⟩ | ⟨hw, hskip⟩
        · rw [← wanted_guard, Array.toArray_toList] at hw
          simp only [hw, if_true]
          refine .inl (step_sound h (fun ρ' av x bx' M' w' hρ h' hr' hb' hk' => ?_) hrun)
          have out : ∀ p : PH → Prop, keepVC J tail s.bx bx' F M' p → ∃ F', F'.Le M' ∧ (tailOp C.E.tb ops j = true ∨ ∀ x, Agree ρ' (mask J bx') F' x → Agree ρ (mask J s.bx) F x) ∧ p F' := by
            intro p hp
            unfold keepVC at hp
            cases tail with
            | true => exact ⟨M', PH.Le.refl _, .inl (by simpa using htl), hp⟩
            | false =>
              obtain ⟨hb, F', h1, h2, h3⟩ := hp
              exact ⟨F', h2, .inr (agree_sub (h.mask J) (fun i hi => hρ i (by have := hi; rwa [mask_length] at this)) hb h1), h3⟩
          obtain ⟨F', hF', h1, h2⟩ := out _ hk'
          have hp := putVC_out h2
          rw [forceB_eq] at hp
          exact ⟨Agree ρ' (mask J bx') F', ((h'.shrink hF').mask J).agree, h1, ihr.1 fuel _ ρ' _ M' F' _ w' hF' hd1 hr hp (sim_put h' o.dst hr' hb')⟩
        · rw [← wanted_guard, Array.toArray_toList] at hw
          simp only [hw, Bool.false_eq_true, if_false]
          exact ⟨Agree ρ (mask J s.bx) F, ((h.shrink hF).mask J).agree, .inr fun _ => id, ihr.1 fuel _ ρ ⟨putT o.dst (.v undef) s.t, s.bx⟩ M F _ w hF hd1 hr (putVC_out hskip) (sim_put h o.dst (av := .v undef) rfl trivial)⟩
      · exact ihm.2 fuel listed ρ s M F a w hF hd2 hm (hv2 (List.ne_nil_of_mem hj)) h j hj
    refine ⟨fun fuel listed ρ s M F a w hF hd hs hv h => ?_, fun fuel listed ρ s M F a w hF hd hs hv h => each fuel listed ρ s M F a w hF hd false hs hv h⟩
    obtain ⟨fuel, rfl⟩ : ∃ n, fuel = n + 1 := ⟨fuel - 1, by simp [Sch.depth] at hd; omega⟩
    have hids : i :: more.ids = Region.ready .any ops listed := by
      simp only [schedOk, Bool.and_eq_true] at hs
      simpa using hs.1.1.1.1
    refine ⟨fun h0 => (by rw [h0] at hids; cases hids), fun j hj => ?_⟩
    rw [← hids] at hj
    exact each fuel listed ρ s M F a w hF hd true hs hv h j hj

theorem draw_ruleJ {E : Env} {w0 : World} {M0 : PH} {m : Nat} {ρ0 : Nat → Nat} {id : Nat} {ops : Array Oper} {Q : KC} (J : Option (List Nat)) (d : Sch) (hd : (schedOk E.tb ops d true (Array.replicate ops.size false) && decide (d.depth ≤ ops.size) && Region.noSelect ops) = true) {F : PH} (hF : F.Le M)
    (hv : vcD E J ops.toList (Q .normal) d s M F) : AWp ⟨E, w0, M0, m, ρ0⟩ (.region id ops true) Q s M := by
  simp only [Bool.and_eq_true, decide_eq_true_eq] at hd
  exact ⟨fun ρ a w hs => wp_region_any E.mixed (wpAny_of_X _ _ _ _ _ ((vcD_sound (C := ⟨E, w0, M0, m, ρ0⟩) hd.2 d).1 _ _ ρ s M F a _ hF hd.1.2 hd.1.1 hv (sim_drew hs)))⟩
theorem draw_ruleF {E : Env} {w0 : World} {M0 : PH} {m : Nat} {ρ0 : Nat → Nat} {id : Nat} {ops : Array Oper} {Q : KC} (d : Sch) (hd : (schedOk E.tb ops d true (Array.replicate ops.size false) && decide (d.depth ≤ ops.size) && Region.noSelect ops) = true) {F : PH} (hF : F.Le M)
    (hv : vcD E none ops.toList (Q .normal) d s M F) : AWp ⟨E, w0, M0, m, ρ0⟩ (.region id ops true) Q s M := draw_ruleJ none d hd hF hv
theorem draw_rule {E : Env} {w0 : World} {M0 : PH} {m : Nat} {ρ0 : Nat → Nat} {id : Nat} {ops : Array Oper} {Q : KC} (d : Sch) (hd : (schedOk E.tb ops d true (Array.replicate ops.size false) && decide (d.depth ≤ ops.size) && Region.noSelect ops) = true)
    (hv : vcD E none ops.toList (Q .normal) d s M M) : AWp ⟨E, w0, M0, m, ρ0⟩ (.region id ops true) Q s M := draw_ruleF d hd (PH.Le.refl M) hv
end

section
variable {C : Ctx}
/-! ### 10. Loops -/
/-- The state at hand is one of those that the other speaks of: slots that it calls junk may hold anything. -/
def leT : List AV → List AV → Prop
  | [], [] => True
  | a :: l, b :: m => (match b with | .junk => leT l m | b => a = b ∧ leT l m)
  | _, _ => False
theorem leT_rel {ρ : Nat → Nat} : ∀ {l m : List AV} {xs : List Value}, leT l m → RelL ρ l xs → RelL ρ m xs
  | [], [], _, _, h => h
  | a :: l, b :: m, x :: xs, h, hr => by
    cases b with
    | junk => exact ⟨trivial, leT_rel (l := l) h hr.2⟩
    | v y => obtain ⟨rfl, h⟩ := h; exact ⟨hr.1, leT_rel h hr.2⟩
    | bp i o => obtain ⟨rfl, h⟩ := h; exact ⟨hr.1, leT_rel h hr.2⟩
    | fn f c => obtain ⟨rfl, h⟩ := h; exact ⟨hr.1, leT_rel h hr.2⟩
    | el A o => obtain ⟨rfl, h⟩ := h; exact ⟨hr.1, leT_rel h hr.2⟩
/-- No name of a box from n on (told by computing). -/
def AV.belowB (n : Nat) : AV → Bool
  | .bp i _ => decide (i < n)
  | .fn _ cap => cap.all fun i => decide (i < n)
  | _ => true
theorem belowB_iff {n : Nat} {a : AV} (h : a.belowB n = true) : a.below n := by
  cases a <;> simp_all [AV.belowB, AV.below]
/-- The boxes at hand begin with those that the other speaks of. -/
def leB (bx bx' : List Box) : Prop := ∃ rest, bx = bx' ++ rest
structure LeS (m : Nat) (s s' : St) : Prop where
  t : leT s.t s'.t
  b : leB s.bx s'.bx
  m : m ≤ s'.bx.length
  tb : s'.t.all (AV.belowB s'.bx.length) = true
  bb : (s'.bx.all fun b => b.cs.all (AV.belowB s'.bx.length)) = true
theorem sim_le {ρ : Nat → Nat} {s s' : St} {M : PH} {a : Act} {w : World} (h : Sim C ρ s M a w) (hl : LeS C.m s s') : Sim C ρ s' M a w := by
  obtain ⟨rest, hb⟩ := hl.b
  have hlen : s.bx.length = s'.bx.length + rest.length := by rw [hb]; simp
  refine ⟨h.defers, leT_rel hl.t h.tmps, fun b hb' => belowB_iff (List.all_eq_true.1 hl.tb b hb'), ?_, hl.m, h.old, fun i h1 h2 => h.new i h1 (by omega), fun i j h1 h2 => h.inj i j (by omega) (by omega), fun i h1 => h.dis i (by omega), h.post⟩
  intro i b hi
  have hi' : s.bx[i]? = some b := by
    rw [hb, List.getElem?_append_left (List.getElem?_eq_some_iff.1 hi).1]; exact hi
  obtain ⟨cs, h1, h2, _⟩ := h.boxes i b hi'
  refine ⟨cs, h1, h2, fun c hc => belowB_iff (List.all_eq_true.1 (List.all_eq_true.1 hl.bb b (List.mem_of_getElem? hi)) c hc)⟩

/-- A loop. H: the states at the head, with what is known there; μ: what each round lowers. -/
theorem loop_rule {α : Type} {c : Code} {Q : KC} {s : St} {M : PH} (H : α → St) (I : α → PH → Prop) (μ : α → Nat) (x0 : α) (h0 : LeS C.m s (H x0)) (hI : I x0 M)
    (hr : ∀ x M, I x M → vc C c (fun e s M => match e with | .normal => ∃ y, LeS C.m s (H y) ∧ I y M ∧ μ y < μ x | .exit i => Q (.exit i) s M | .ret => Q .ret s M) (H x) M) : AWp C (.loop c) Q s M := by
  constructor
  intro ρ a w hs
  refine wp_loop_ghost (fun x a w => ∃ ρ M, Sim C ρ (H x) M a w ∧ I x M) μ x0 ⟨ρ, M, sim_le hs h0, hI⟩ ?_
  rintro x a w ⟨ρ, M, hs, hI⟩
  refine wp_mono ((vc_sound c _ _ _ (hr x M hI)).out ρ a w hs) fun e a' w' hl => ?_
  obtain ⟨ex, ρ', s', M', hrel, hs', hq⟩ := hl
  cases ex with
  | normal =>
    cases e <;> simp only [Ex.rel] at hrel
    obtain ⟨y, h1, h2, h3⟩ := hq
    exact ⟨y, ⟨ρ', M', sim_le hs' h1, h2⟩, h3⟩
  | exit i =>
    cases e <;> simp only [Ex.rel] at hrel
    exact ⟨.exit i, ρ', s', M', hrel, hs', hq⟩
  | ret =>
    cases e <;> simp only [Ex.rel] at hrel
    exact ⟨.ret, ρ', s', M', trivial, hs', hq⟩
/-- A loop of so many rounds at the most. -/
noncomputable def roundsVC (C : Ctx) (c : Code) (Q : KC) (n : Nat) : St → PH → Prop :=
  @Nat.rec (fun _ => St → PH → Prop) (fun _ _ => Stuck "loop: more rounds")
    (fun _ ih s M => vc C c (fun e s M => match e with | .normal => ih s M | .exit i => Q (.exit i) s M | .ret => Q .ret s M) s M) n
theorem unroll_rule {c : Code} {Q : KC} {s : St} {M : PH} (n : Nat) (h : roundsVC C c Q n s M) : AWp C (.loop c) Q s M := by
  have key : ∀ (n : Nat) (s : St) (M : PH), roundsVC C c Q n s M → ∀ ρ a w, Sim C ρ s M a w → Code.rounds C.E.P c (Lift C Q) n a w := by
    intro n
    induction n with
    | zero => intro s M h; exact h.out.elim
    | succ n ih =>
      intro s M h ρ a w hs
      rw [rounds_succ]
      refine wp_mono ((vc_sound c _ _ _ h).out ρ a w hs) fun e a' w' hl => ?_
      obtain ⟨ex, ρ', s', M', hrel, hs', hq⟩ := hl
      cases ex with
      | normal =>
        cases e <;> simp only [Ex.rel] at hrel
        exact ih s' M' hq ρ' a' w' hs'
      | exit i =>
        cases e <;> simp only [Ex.rel] at hrel
        exact ⟨.exit i, ρ', s', M', hrel, hs', hq⟩
      | ret =>
        cases e <;> simp only [Ex.rel] at hrel
        exact ⟨.ret, ρ', s', M', trivial, hs', hq⟩
  exact ⟨fun ρ a w hs => wp_loop_rounds n (key n s M h ρ a w hs)⟩
end

/-! ### 11. A function -/
def resA (E : Env) (s : St) : List ResultVar → Option (List Value)
  | [] => some []
  | .tmp t :: l => match s.t.getD t .junk with
    | .v x => match resA E s l with
      | some xs => some (x :: xs)
      | none => none
    | _ => none
  | .cell p ty :: l => match s.t.getD p .junk with
    | .bp i o => match E.tb.at ty with
      | some ti => match s.bx[i]? with
        | some b => match partA ti b.cs o with
          | some (.v x) => match resA E s l with
            | some xs => some (x :: xs)
            | none => none
          | _ => none
        | none => none
      | none => none
    | _ => none
def resV : List Value → Value
  | [x] => x
  | l => .tuple l.toArray
/-- What is owed at a function's end. -/
def retVC (E : Env) (rs : List ResultVar) (m : Nat) (R : Value → List Box → PH → Prop) (s : St) (M : PH) : Prop :=
  match resA E s rs with
  | some xs => match (s.bx.take m).all fun b => b.cs.all (AV.belowB m) with
    | true => ∃ M' : PH, M'.Le M ∧ R (resV xs) (s.bx.take m) M'
    | false => Stuck "return: boxes"
  | none => match rs with
    | [.tmp t] => match s.t.getD t .junk with
      | .bp i 0 => match decide (m ≤ i) with
        | true => match s.bx[i]? with
          | some b => match vals b.cs with
            | some xs => match (s.bx.take m).all fun b => b.cs.all (AV.belowB m) with
              | true => ∀ g, M g = none → ∃ M' : PH, M'.Le (M.set g (.cells xs.toArray b.ty (0, 0))) ∧ R (.pointer (some ⟨g, 0, none⟩)) (s.bx.take m) M'
              | false => Stuck "return: boxes"
            | none => Stuck "return: a box handed out"
          | none => Stuck "return: a box handed out"
        | false => Stuck "return: a box handed out"
      | .el (some q) o => match (s.bx.take m).all fun b => b.cs.all (AV.belowB m) with
        | true => ∃ M' : PH, M'.Le M ∧ R (.pointer (some (q.add o))) (s.bx.take m) M'
        | false => Stuck "return: boxes"
      | _ => Stuck "return"
    | _ => Stuck "return"

section
variable {C : Ctx} {ρ : Nat → Nat} {s : St} {M : PH} {a : Act} {w : World}

theorem resA_run (h : Sim C ρ s M a w) (g : ResultVar → Sem Value) (hg : g = fun | .tmp t => pure (a.tmps.getD t undef) | .cell p t => do loadVar t (← asAddr (a.tmps.getD p undef))) :
    ∀ (l : List ResultVar) (xs : List Value), resA C.E s l = some xs → (l.mapM g).run C.E.P w = .ok xs w
  | [], xs, hx => by simp [resA] at hx; subst hx; rfl
  | .tmp t :: l, xs, hx => by
    simp only [resA] at hx
    have he := ev_rel h (.tmp t)
    simp only [ev, Act.eval] at he
    split at hx
    · rename_i x hxt
      rw [hxt] at he
      simp only [rel] at he
      split at hx
      · rename_i ys hys
        simp at hx; subst hx
        rw [List.mapM_cons]
        have e : (g (.tmp t)).run C.E.P w = .ok x w := by rw [hg]; simp only [Sem.run_pure, he]
        simp only [Sem.run_bind, e, Result.andThen_ok, resA_run h g hg l ys hys, Sem.run_pure]
      · cases hx
    · cases hx
  | .cell p ty :: l, xs, hx => by
    simp only [resA] at hx
    have he := ev_rel h (.tmp p)
    simp only [ev, Act.eval] at he
    split at hx
    · rename_i i o hxt
      rw [hxt] at he
      simp only [rel, bptr] at he
      split at hx
      · rename_i ti hti
        split at hx
        · rename_i b hb
          split at hx
          · rename_i x hxp
            split at hx
            · rename_i ys hys
              simp at hx; subst hx
              obtain ⟨cs, h1, h2, _⟩ := h.boxes i b hb
              obtain ⟨y, hry, hy⟩ := run_load_part (g := ρ i) (ty := b.ty) (fz := (0, 0)) (C.E.ok ty ti hti) h2 hxp
              have hy := hy w h1
              simp only [rel] at hry
              subst hry
              rw [List.mapM_cons]
              have e : (g (.cell p ty)).run C.E.P w = .ok y w := by rw [hg]; simp only [Sem.run_bind, he, asAddr, Sem.run_pure, Result.andThen_ok, hy]
              simp only [Sem.run_bind, e, Result.andThen_ok, resA_run h g hg l ys hys, Sem.run_pure]
            · cases hx
          · cases hx
        · cases hx
      · cases hx
    · cases hx

theorem ret_boxes (h : Sim C ρ s M a w) (hall : ((s.bx.take C.m).all fun b => b.cs.all (AV.belowB C.m)) = true) : BoxesAt C.ρ0 (s.bx.take C.m) w := by
  have hmle := h.mle
  intro i b hi
  have hi' : s.bx[i]? = some b := by
    rw [List.getElem?_take] at hi
    split at hi
    · exact hi
    · cases hi
  have him : i < C.m := by
    have := (List.getElem?_eq_some_iff.1 hi).1
    simp at this; omega
  obtain ⟨cs, h1, h2, h3⟩ := h.boxes i b hi'
  have hbm : ∀ c ∈ b.cs, c.below (s.bx.take C.m).length := fun c hc => by
    have := belowB_iff (List.all_eq_true.1 (List.all_eq_true.1 hall b (List.mem_of_getElem? hi)) c hc)
    have e : (s.bx.take C.m).length = C.m := by simp; omega
    rw [e]; exact this
  refine ⟨cs, by rw [← h.old i him]; exact h1, ?_, hbm⟩
  refine RelL.congr (n := (s.bx.take C.m).length) (fun j hj => ?_) hbm h2
  simp at hj
  exact (h.old j (by omega)).symm
theorem ret_sound {fn : Func} {R : Value → List Box → PH → Prop} {m : Nat} (hm : C.m = m) (h : Sim C ρ s M a w) (hv : retVC C.E fn.results.toList m R s M) :
    ∃ v, (results fn a.tmps).run C.E.P w = .ok v w ∧ ∃ bx' M', bx'.length = m ∧ BoxesAt C.ρ0 bx' w ∧ Post C.w0 w C.ρ0 m C.M0 M' ∧ R v bx' M' := by
  subst hm
  have hmle := h.mle
  unfold retVC at hv
  split at hv
  · rename_i xs hxs
    split at hv
    · rename_i hall
      obtain ⟨M', hle, hR⟩ := hv
      have hrun := resA_run h _ rfl _ xs hxs
      refine ⟨resV xs, ?_, s.bx.take C.m, M', by simp; omega, ret_boxes h hall, ?_, hR⟩
      · unfold results
        simp only [Array.mapM_eq_mapM_toList, Sem.run_bind, Sem.run_map]
        erw [hrun]
        simp only [Result.andThen_ok, Sem.run_pure]
        congr 1
        match xs with
        | [] => rfl
        | [x] => rfl
        | x :: y :: l => simp [resV]
      · have hp := h.post
        exact ⟨hp.os, hp.tape, hp.output, hp.size, fun k o hk => hp.inn k o (hle k o hk), fun k o hk => hp.fresh k o (hle k o hk), hp.frame⟩
    · exact hv.out.elim
  · split at hv
    · rename_i t hrs
      split at hv
      · rename_i i hti
        split at hv
        · rename_i hmi
          have hmi := of_decide_eq_true hmi
          split at hv
          · rename_i b hb
            split at hv
            · rename_i xs hxs
              split at hv
              · rename_i hall
                have hil : i < s.bx.length := (List.getElem?_eq_some_iff.1 hb).1
                obtain ⟨M', hle, hR⟩ := hv (ρ i) (h.dis i hil)
                obtain ⟨cs, hc, hr, _⟩ := h.boxes i b hb
                have hcs := vals_rel hxs hr
                have he := ev_rel h (.tmp t)
                simp only [ev, Act.eval, hti, rel, bptr] at he
                refine ⟨.pointer (some ⟨ρ i, 0, none⟩), ?_, s.bx.take C.m, M', by simp; omega, ret_boxes h hall, ?_, hR⟩
                · have hfr : fn.results = #[.tmp t] := by apply Array.ext'; simpa using hrs
                  unfold results
                  rw [hfr]
                  rw [Array.getD_eq_getD_getElem?] at he
                  simp [he]
                · have hp := h.post
                  refine ⟨hp.os, hp.tape, hp.output, hp.size, fun k o hk => ?_, fun k o hk => ?_, hp.frame⟩
                  · have hk := hle k o hk
                    by_cases e : k = ρ i
                    · subst e
                      rw [PH.set_same] at hk
                      cases hk
                      rw [hc, ← hcs]
                    · rw [PH.set_other _ _ e] at hk; exact hp.inn k o hk
                  · have hk := hle k o hk
                    by_cases e : k = ρ i
                    · subst e; exact .inr (h.new i hmi hil)
                    · rw [PH.set_other _ _ e] at hk; exact hp.fresh k o hk
              · exact hv.out.elim
            · exact hv.out.elim
          · exact hv.out.elim
        · exact hv.out.elim
      · rename_i q oo hti
        split at hv
        · rename_i hall
          obtain ⟨M', hle, hR⟩ := hv
          have he := ev_rel h (.tmp t)
          simp only [ev, Act.eval, hti, rel] at he
          obtain ⟨q', hq', he⟩ := he
          cases hq'
          refine ⟨.pointer (some (q.add oo)), ?_, s.bx.take C.m, M', by simp; omega, ret_boxes h hall, ?_, hR⟩
          · have hfr : fn.results = #[.tmp t] := by apply Array.ext'; simpa using hrs
            unfold results
            rw [hfr]
            rw [Array.getD_eq_getD_getElem?] at he
            simp [he]
          · have hp := h.post
            exact ⟨hp.os, hp.tape, hp.output, hp.size, fun k o hk => hp.inn k o (hle k o hk), fun k o hk => hp.fresh k o (hle k o hk), hp.frame⟩
        · exact hv.out.elim
      · exact hv.out.elim
    · exact hv.out.elim

theorem xcall_of_vc {E : Env} {f : FuncId} {fn : Func} {c : Code} (hf : E.P.funcs[f]? = some fn) (hb : fn.body = some c) (n : Nat) (hn : fn.ntmps = n) (rs : List ResultVar) (hrs : fn.results.toList = rs)
    (hen : ∀ (as : Array Value) (w : World), (callFunc f as).run E.P w = .ok (.enter f as) w) {args : List AV} {bx : List Box} {M : PH} {R : Value → List Box → PH → Prop}
    (ha : (args.all (AV.belowB bx.length)) = true)
    (hv : ∀ w0 ρ0, forceT (args ++ List.replicate (n - args.length) (.v undef)) fun t => vc ⟨E, w0, M, bx.length, ρ0⟩ c (fun e s M' => match e with | .normal => retVC E rs bx.length R s M' | .ret => retVC E rs bx.length R s M' | .exit _ => Stuck "exit") ⟨t, bx⟩ M) :
    XCall E f args bx M R := by
  refine ⟨trivial, ?_⟩
  intro ρ w vs hinj hbx hdis hin hrel
  refine .inl ⟨hen _ _, ?_⟩
  refine calls_of_wp hf hb ?_
  have hv := hv w ρ
  rw [forceT_eq] at hv
  have hlen : args.length = vs.length := hrel.length
  let C : Ctx := ⟨E, w, M, bx.length, ρ⟩
  have hs : Sim C ρ ⟨args ++ List.replicate (n - args.length) (.v undef), bx⟩ M ⟨vs.toArray ++ Array.replicate (fn.ntmps - vs.toArray.size) undef, []⟩ w := by
    refine ⟨rfl, ?_, ?_, hbx, Nat.le_refl _, fun _ _ => rfl, fun i h1 h2 => absurd h2 (Nat.not_lt.2 h1), hinj, hdis, Post.refl hin⟩
    · have e : (vs.toArray ++ Array.replicate (fn.ntmps - vs.toArray.size) undef).toList = vs ++ List.replicate (n - args.length) undef := by
        simp [hn, hlen]
      rw [e]
      have := RelL.vs (ρ := ρ) (List.replicate (n - args.length) undef)
      rw [List.map_replicate] at this
      exact hrel.append this
    · intro b hb'
      simp only [List.mem_append] at hb'
      rcases hb' with hb' | hb'
      · exact belowB_iff (List.all_eq_true.1 ha b hb')
      · rw [List.eq_of_mem_replicate hb']; trivial
  refine wp_mono ((vc_sound (C := C) c _ _ M hv).out ρ _ w hs) fun e a' w' hl => ?_
  obtain ⟨x, ρ', s', M', hr, hs', hq⟩ := hl
  have fin : retVC E rs bx.length R s' M' → a'.defers = [] ∧ ∃ v, (results fn a'.tmps).run E.P w' = .ok v w' ∧ (fun e w' => ∃ r bx' M', e = Ending.returned r ∧ bx'.length = bx.length ∧ BoxesAt ρ bx' w' ∧ Post w w' ρ bx.length M M' ∧ R r bx' M') (.returned v) w' := fun hq => by
    rw [← hrs] at hq
    obtain ⟨v, h1, bx', M'', h2, h3, h4, h5⟩ := ret_sound (C := C) rfl hs' hq
    exact ⟨hs'.defers, v, h1, v, bx', M'', rfl, h2, h3, h4, h5⟩
  cases x with
  | normal => cases e <;> simp only [Ex.rel] at hr; exact fin hq
  | ret => cases e <;> simp only [Ex.rel] at hr; exact fin hq
  | exit i => exact hq.out.elim
end
/-! ### 12. A contract with pointers, at other boxes -/
def AV.plain : AV → Bool
  | .bp _ _ => false
  | .fn _ _ => false
  | _ => true
def ren (js : List Nat) : AV → AV
  | .bp n o => .bp (js.getD n 0) o
  | .fn f cap => .fn f (cap.map fun n => js.getD n 0)
  | a => a
def putAll : List Box → List Nat → List Box → List Box
  | bx, j :: js, b :: bs => putAll (bx.set j b) js bs
  | bx, _, _ => bx
theorem putAll_length : ∀ (bx : List Box) (js : List Nat) (bs : List Box), (putAll bx js bs).length = bx.length
  | bx, [], bs => by simp [putAll]
  | bx, j :: js, [] => by simp [putAll]
  | bx, j :: js, b :: bs => by simp [putAll, putAll_length]
theorem putAll_get : ∀ (js : List Nat) (bx bs : List Box), bs.length = js.length → ∀ (i : Nat) b, (putAll bx js bs)[i]? = some b → (∃ n : Nat, js[n]? = some i ∧ bs[n]? = some b) ∨ (i ∉ js ∧ bx[i]? = some b)
  | [], bx, [], _, i, b, h => .inr ⟨by simp, by simpa [putAll] using h⟩
  | j :: js, bx, c :: bs, hl, i, b, h => by
    rcases putAll_get js (bx.set j c) bs (by simpa using hl) i b h with ⟨n, h1, h2⟩ | ⟨h1, h2⟩
    · exact .inl ⟨n + 1, by simpa using h1, by simpa using h2⟩
    · rw [List.getElem?_set] at h2
      split at h2
      · rename_i e
        split at h2
        · simp at h2; subst h2; exact .inl ⟨0, by simp [e], by simp⟩
        · cases h2
      · rename_i e
        exact .inr ⟨by simp [h1]; exact fun e' => e e'.symm, h2⟩
theorem rel_ren {ρ : Nat → Nat} {js : List Nat} {a : AV} {x : Value} (h : rel ρ (ren js a) x) : rel (fun n => ρ (js.getD n 0)) a x := by
  cases a with
  | fn f cap =>
    simp only [ren, rel] at h ⊢
    rw [h, List.map_map]
    rfl
  | _ => exact h
theorem RelL.ren {ρ : Nat → Nat} {js : List Nat} : ∀ {l : List AV} {m : List Value}, RelL ρ (l.map (Xe.ren js)) m → RelL (fun n => ρ (js.getD n 0)) l m
  | [], [], _ => trivial
  | _ :: _, _ :: _, h => ⟨rel_ren h.1, RelL.ren h.2⟩
theorem RelL.plain {ρ ρ' : Nat → Nat} : ∀ {l : List AV} {m : List Value}, l.all AV.plain = true → RelL ρ l m → RelL ρ' l m
  | [], [], _, _ => trivial
  | a :: l, x :: m, hp, h => by
    simp only [List.all_cons, Bool.and_eq_true] at hp
    refine ⟨?_, RelL.plain hp.2 h.2⟩
    have h1 := h.1
    cases a <;> first | exact h1 | (simp [AV.plain] at hp; done)
theorem plain_below {n : Nat} {l : List AV} (h : l.all AV.plain = true) : Below' n l := by
  intro a ha
  have := List.all_eq_true.1 h a ha
  cases a <;> first | trivial | (simp [AV.plain] at this)

theorem XCall.lift {E : Env} {f : FuncId} {args' : List AV} {bs : List Box} {M : PH} {R' : Value → List Box → PH → Prop} (h : XCall E f args' bs M R') (js : List Nat) {args : List AV} {bx : List Box} {K : Value → List Box → PH → Prop}
    (ha : args = args'.map (ren js)) (hb : js.map (fun j => bx[j]?) = bs.map some) (hn : js.Nodup) (hp : (bs.all fun b => b.cs.all AV.plain) = true)
    (hk : ∀ r bs' M', R' r bs' M' → (bs'.all fun b => b.cs.all AV.plain) = true ∧ K r (putAll bx js bs') M') : XCall E f args bx M K := by
  subst ha
  have hl : js.length = bs.length := by simpa using congrArg List.length hb
  have hjs : ∀ n b, bs[n]? = some b → bx[js.getD n 0]? = some b := by
    intro n b hnb
    have hlt := (List.getElem?_eq_some_iff.1 hnb).1
    have hlt' : n < js.length := by omega
    have e := congrArg (fun l => l[n]?) hb
    simp only [List.getElem?_map, hnb, Option.map_some] at e
    rw [List.getElem?_eq_getElem hlt'] at e
    simp only [Option.map_some, Option.some.injEq] at e
    rw [List.getD_eq_getElem?_getD, List.getElem?_eq_getElem hlt']
    exact e
  have hjl : ∀ n, n < bs.length → js.getD n 0 < bx.length := by
    intro n hn
    exact (List.getElem?_eq_some_iff.1 (hjs n _ (List.getElem?_eq_getElem hn))).1
  have hjn : ∀ n, n < bs.length → js[n]? = some (js.getD n 0) := by
    intro n hn
    have hlt' : n < js.length := by omega
    rw [List.getD_eq_getElem?_getD, List.getElem?_eq_getElem hlt']; rfl
  refine ⟨h.en, fun ρ w vs hinj hbx hdis hin hrel => ?_⟩
  have hinj' : ∀ i j, i < bs.length → j < bs.length → ρ (js.getD i 0) = ρ (js.getD j 0) → i = j := by
    intro i j hi hj e
    have e1 := hinj _ _ (hjl i hi) (hjl j hj) e
    have h1 := hjn i hi
    have h2 := hjn j hj
    rw [e1] at h1
    exact (List.getElem?_inj (by rw [hl]; exact hi) hn).1 (h1.trans h2.symm)
  refine (h.run (fun n => ρ (js.getD n 0)) w vs hinj' ?_ (fun i hi => hdis _ (hjl i hi)) hin (RelL.ren hrel)).mono ?_
  · intro n b hnb
    obtain ⟨cs, h1, h2, _⟩ := hbx _ b (hjs n b hnb)
    have hpl := List.all_eq_true.1 hp b (List.mem_of_getElem? hnb)
    exact ⟨cs, h1, RelL.plain hpl h2, plain_below hpl⟩
  · rintro e w' ⟨r, bs', M', rfl, hl', hb', hpost, hR⟩
    obtain ⟨hpl, hK⟩ := hk r bs' M' hR
    refine ⟨r, putAll bx js bs', M', rfl, putAll_length _ _ _, ?_, ⟨hpost.os, hpost.tape, hpost.output, hpost.size, hpost.inn, hpost.fresh, fun k hk hm hne => hpost.frame k hk hm fun i hi => hne _ (hjl i hi)⟩, hK⟩
    intro i b hi
    rcases putAll_get js bx bs' (by omega) i b hi with ⟨n, h1, h2⟩ | ⟨h1, h2⟩
    · obtain ⟨cs, h3, h4, _⟩ := hb' n b h2
      have hpb := List.all_eq_true.1 hpl b (List.mem_of_getElem? h2)
      have e : js.getD n 0 = i := by rw [List.getD_eq_getElem?_getD, h1]; rfl
      exact ⟨cs, by rw [← e]; exact h3, RelL.plain hpb h4, plain_below hpb⟩
    · obtain ⟨cs, h3, h4, h5⟩ := hbx i b h2
      have hil : i < bx.length := (List.getElem?_eq_some_iff.1 h2).1
      refine ⟨cs, ?_, h4, by rw [putAll_length]; exact h5⟩
      rw [hpost.frame (ρ i) ((Array.getElem?_eq_some_iff.1 h3).1) (hdis i hil) ?_]
      · exact h3
      · intro n hn e
        have := hinj _ _ (hjl n hn) hil e
        exact h1 (by rw [← this]; exact List.mem_of_getElem? (hjn n hn))
end Go.Xe
