/-
  THE ROW'S SIDE: what an argument that came in reads like (its shape, reckoned from its type), and a contract over the whole memory turned into a call that changes nothing of what stood.
-/
import Derived.Test.YtdgipmlkkmmliaaGreatDoorXe
import Derived.Deep.Slices
import Derived.ProofKit
set_option linter.unusedVariables false
namespace Go.Xe
open Go.ChangeShapes Go.WideShapes Go.RowKit Go.Deep

inductive Sh where
  | bool
  | int (k : IntKind)
  | str
  | slice (e : Sh) (sz : Nat)
  | fnil
  | fcons (s : Sh) (n : Nat) (r : Sh)

def Sh.ok (W : World) : Sh → List Value → Prop
  | .bool, cs => ∃ b, cs = [.bool b]
  | .int k, cs => ∃ n, (Lit.int k n).wf = true ∧ cs = [.int k n]
  | .str, cs => ∃ s : ByteArray, s.size ≤ maxLen ∧ cs = [.string s]
  | .slice e sz, cs => cs = [.slice none 0 0] ∨ ∃ (a : Addr) (len cap : Nat), cs = [.slice (some a) len cap] ∧ len ≤ cap ∧ cap ≤ maxLen ∧
      ∀ i, i < len → ∃ es : List Value, es.length = sz ∧ e.ok W es ∧ ∀ (j : Nat) v, es[j]? = some v → W.cell? (a.add (i * sz + j)) = some v
  | .fnil, cs => cs = []
  | .fcons s n r, cs => ∃ c d, c.length = n ∧ s.ok W c ∧ r.ok W d ∧ cs = c ++ d

def shFs (tb : Tab) (f : TypeId → Option Sh) : List Field → Nat → Nat → Option Sh
  | [], off, tot => if off = tot then some .fnil else none
  | fd :: l, off, tot => match f fd.type with
    | some s => match tb.at fd.type with
      | some tf => if fd.offset = off ∧ off + tf.size ≤ tot then match shFs tb f l (off + tf.size) tot with
          | some r => some (.fcons s tf.size r)
          | none => none
        else none
      | none => none
    | none => none
def shOf (tb : Tab) : Nat → TypeId → Option Sh
  | 0, _ => none
  | n + 1, t => match tb.at t with
    | none => none
    | some ti => match ti.desc with
      | .bool => some .bool
      | .int k => some (.int k)
      | .string => some .str
      | .slice e => match shOf tb n e with
        | some s => match tb.at e with
          | some te => some (.slice s te.size)
          | none => none
        | none => none
      | .struct fs => shFs tb (shOf tb n) fs.toList 0 ti.size
      | _ => none

theorem cellsOf_eq {P : Program} {t : TypeId} {ti : TI} (h : TI.Ok P t ti) : P.cellsOf t = ti.size := by
  obtain ⟨i, hi, _, h2, _⟩ := h.info
  simp [Program.cellsOf, hi, h2]

section
variable {H : Type} {enc : TypeId × Value → H} {w : World} {base : Nat} {spare : Nat → Bool} {held : Bool}

theorem sh_fs (E : Env) (f : TypeId → Option Sh) (cs : List Value) (tot : Nat) (hcs : cs.length = tot)
    (hf : ∀ fd : Field, ∀ s, f fd.type = some s → (∃ (m : Nat) (x : DataW H × List MemPlace), DataW.trod enc E.P w base spare held m fd.type ((cs.drop fd.offset).take (E.P.cellsOf fd.type)) = some x) → s.ok w ((cs.drop fd.offset).take (E.P.cellsOf fd.type))) :
    ∀ (l : List Field) (off : Nat) (r : Sh), shFs E.tb f l off tot = some r → off ≤ tot → (∀ fd ∈ l, ∃ (m : Nat) (x : DataW H × List MemPlace), DataW.trod enc E.P w base spare held m fd.type ((cs.drop fd.offset).take (E.P.cellsOf fd.type)) = some x) →
      r.ok w (cs.drop off)
  | [], off, r, h, hle, _ => by
    simp only [shFs] at h
    split at h
    · rename_i e
      simp at h; subst h
      simp [Sh.ok, e, hcs]
    · cases h
  | fd :: l, off, r, h, hle, ht => by
    simp only [shFs] at h
    split at h
    · rename_i s hs
      split at h
      · rename_i tf htf
        have hc := cellsOf_eq (E.ok fd.type tf htf)
        split at h
        · rename_i hoff
          obtain ⟨h1, h2⟩ := hoff
          split at h
          · rename_i r' hr'
            simp at h; subst h
            refine ⟨(cs.drop off).take tf.size, cs.drop (off + tf.size), by simp; omega, ?_, sh_fs E f cs tot hcs hf l _ r' hr' h2 (fun fd' h' => ht fd' (by simp [h'])), ?_⟩
            · have := hf fd s hs (ht fd (by simp))
              rw [hc, h1] at this
              exact this
            · rw [← List.drop_drop, List.take_append_drop]
          · cases h
        · cases h
      · cases h
    · cases h

theorem sh_trod (E : Env) : ∀ (n : Nat) (t : TypeId) (s : Sh) (fuel : Nat) (cs : List Value) (x : DataW H × List MemPlace), shOf E.tb n t = some s → DataW.trod enc E.P w base spare held fuel t cs = some x → s.ok w cs := by
  intro n
  induction n with
  | zero => intro t s fuel cs x h; simp [shOf] at h
  | succ n ih =>
    intro t s fuel cs x h ht
    simp only [shOf] at h
    split at h
    · cases h
    · rename_i ti hti
      have hok := E.ok t ti hti
      have hund := hok.und
      split at h
      · rename_i hd; rw [hd] at hund
        simp at h; subst h
        obtain ⟨b, rfl, _⟩ := DataW.trod_bool hund ht
        exact ⟨b, rfl⟩
      · rename_i k hd; rw [hd] at hund
        simp at h; subst h
        obtain ⟨b, rfl, _, hw⟩ := DataW.trod_int hund ht
        exact ⟨b, hw, rfl⟩
      · rename_i hd; rw [hd] at hund
        simp at h; subst h
        obtain ⟨b, rfl, _, hw⟩ := DataW.trod_string hund ht
        exact ⟨b, hw, rfl⟩
      · rename_i e hd; rw [hd] at hund
        split at h
        · rename_i se hse
          split at h
          · rename_i te hte
            simp at h; subst h
            have hc := cellsOf_eq (E.ok e te hte)
            rcases open_slice hund ht with ⟨hcs, _⟩ | ⟨a, len, cap, m, k, D, Pl, hcs, _, hl, hm, hmm, _, hi⟩
            · exact .inl hcs
            · refine .inr ⟨a, len, cap, hcs, hl, hm, fun i hil => ?_⟩
              obtain ⟨cs', h1, h2⟩ := hi i (by rw [hmm]; split <;> omega)
              obtain ⟨_, hlen, hat⟩ := World.cells?_some h1
              refine ⟨cs', by rw [hlen, hc], ih e se k cs' _ hse h2, fun j v hv => ?_⟩
              have hj := hat j (by rw [← hlen]; exact (List.getElem?_eq_some_iff.1 hv).1)
              rw [Go.Xe.add_add, hc] at hj
              rw [hj, hv]
          · cases h
        · cases h
      · rename_i fs hd; rw [hd] at hund
        obtain ⟨xs, m, _, _, hlen, hxl, hget⟩ := DataW.trod_struct hund ht
        rw [cellsOf_eq hok] at hlen
        have := sh_fs (enc := enc) (w := w) (base := base) (spare := spare) (held := held) E (shOf E.tb n) cs ti.size hlen (fun fd s hs ⟨m', x', hx'⟩ => ih fd.type s m' _ x' hs hx') fs.toList 0 s h (Nat.zero_le _) (fun fd hfd => by
          obtain ⟨i, hi⟩ := List.mem_iff_getElem?.1 hfd
          have hi' : fs[i]? = some fd := by rw [← Array.getElem?_toList]; exact hi
          have hlt : i < xs.length := by rw [hxl]; exact (Array.getElem?_eq_some_iff.1 hi').1
          exact ⟨m, xs[i], by rw [hget i fd hi', List.getElem?_eq_getElem hlt]⟩)
        simpa using this
      · cases h
end

/-- No value of a type that is no struct and no array is an aggregate. -/
theorem okWide_noAgg {P : Program} {W : World} {r : Reach} {b : Nat} {t : TypeId} {ti : TI} (hok : TI.Ok P t ti) (hA : ti.isAgg = false) {v : Value} (h : Value.okWide P W r b t v) : v.cells = #[v] := by
  have hund := hok.und
  unfold Value.okWide at h
  rw [hund] at h
  unfold TI.isAgg at hA
  cases hd : ti.desc <;> rw [hd] at h hA <;> first | (simp at hA; done) | (cases v <;> first | rfl | (exfalso; simp [Cell.okWide, hund, hd, Cell.ok] at h; done))
theorem okWide_agg {P : Program} {W : World} {r : Reach} {b : Nat} {t : TypeId} {ti : TI} (hok : TI.Ok P t ti) (hA : ti.isAgg = true) {v : Value} (h : Value.okWide P W r b t v) : ∃ cs, v = .agg cs := by
  have hund := hok.und
  unfold Value.okWide at h
  rw [hund] at h
  unfold TI.isAgg at hA
  cases hd : ti.desc <;> rw [hd] at h hA <;> first | (simp at hA; done) | (obtain ⟨cs, h, _⟩ := h; exact ⟨cs, h⟩)
/-- The value of these cells. -/
def mkV (agg : Bool) (cs : List Value) : Value := match agg with | true => .agg cs.toArray | false => match cs with | [x] => x | _ => .agg cs.toArray

/-- AN ARGUMENT, OPENED. -/
theorem open_arg {H : Type} {enc : TypeId × Value → H} (E : Env) {W : World} {base b0 : Nat} {spare : Nat → Bool} {held : Bool} {r : Reach} {t : TypeId} {v : Value} {d : DataW H} {p : List MemPlace} (n : Nat) {s : Sh} {ti : TI} (ht : E.tb.at t = some ti) (hs : shOf E.tb n t = some s)
    (hv : Value.okWide E.P W r b0 t v) (h : DataW.Trod enc E.P W base spare held t v d p) : ∃ cs, v = mkV ti.isAgg cs ∧ s.ok W cs := by
  obtain ⟨fuel, hf⟩ := h
  have hok := E.ok t ti ht
  refine ⟨v.cells.toList, ?_, sh_trod E n t s fuel _ _ hs hf⟩
  cases hA : ti.isAgg with
  | true =>
    obtain ⟨cs, rfl⟩ := okWide_agg hok hA hv
    simp [mkV, Value.cells]
  | false =>
    rw [okWide_noAgg hok hA hv]
    rfl

/-! ### The whole memory -/
def whole (W : World) : PH := fun k => W.heap[k]?
theorem whole_in (W : World) : (whole W).In W := fun _ _ h => h
/-- A contract over the whole memory: a call that changes nothing of what stood. -/
theorem calls_of_acall {E : Env} {f : FuncId} {args : Array Value} {W : World} {R : Value → Prop} (hen : (callFunc f args).run E.P W = .ok (.enter f args) W) (h : ACall E f args.toList (whole W) fun r M' => R r ∧ (whole W).Le M') :
    Calls E.P f args W fun e W' => ∃ r, e = .returned r ∧ R r ∧ Below W.heap.size W W' := by
  have := h.run (fun _ => 0) W args.toList (by simp) (by intro i b hb; simp at hb) (by simp) (whole_in W) (RelL.vs _)
  rcases this with ⟨_, this⟩ | ⟨v, w', he, _⟩
  case inr =>
    have he : (callFunc f args).run E.P W = .ok (.value v) w' := he
    rw [hen] at he
    cases he
  refine Calls.mono this ?_
  rintro e w' ⟨r, bx', M', rfl, _, _, hp, hR, hle⟩
  refine ⟨r, rfl, hR, hp.os, hp.tape, hp.output, hp.size, fun k hk => ?_⟩
  have hk' : whole W k = some (W.heap[k]) := Array.getElem?_eq_getElem hk
  rw [hp.inn k _ (hle k _ hk')]
  exact hk'.symm
end Go.Xe
