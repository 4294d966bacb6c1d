/-
  Words on memory for the walks of this seat: a block known whole, cuts inside a region, loads of whole structs.
-/
import Derived.Test.YtkckgjjhnjcffaaKit
import Derived.WideLaws
import Derived.Lib.Hide
import Derived.Outline
import Derived.Laws.Rows
import Derived.Deep.QuietTactic
import Derived.BigQuiet
namespace Go
set_option linter.unusedVariables false
theorem Oper.wp_then {P : Program} {o : Oper} {a : Act} {w : World} {K K' : Act → World → Prop} {R : Act → World → Prop} {Q : Exit → Act → World → Prop} (h : ∀ a w, K a w → K' a w)
    (hh : o.wp P a w K (Exit.then R Q)) : o.wp P a w K' Q := by
  unfold Oper.wp at *
  generalize (execOp a.eval o).run P w = r at *
  cases r with
  | ok n w' =>
    cases n <;> simp only [Oper.upon] at hh ⊢ <;>
      first
        | exact h _ _ hh
        | exact Calls.mono hh (fun e w'' he => by cases e <;> first | exact h _ _ he | exact he)
        | exact Rows.mono hh (fun _ _ he => h _ _ he)
  | halt x w' => cases x <;> simp only [Oper.upon] at hh ⊢ <;> exact hh
theorem wpList_cut {P : Program} {ops : Array Oper} {Q : Exit → Act → World → Prop} (R : Act → World → Prop) {l2 : List Oper} :
    ∀ (l1 : List Oper) (a : Act) (w : World), wpList P ops (Exit.then R Q) l1 a w → (∀ a w, R a w → wpList P ops Q l2 a w) → wpList P ops Q (l1 ++ l2) a w
  | [], a, w, h, h2 => h2 a w h
  | o :: l, a, w, h, h2 => by
    unfold wpList at h
    simp only [List.cons_append]
    unfold wpList
    split at h
    · rename_i hw
      rw [if_pos hw]
      rcases h with h | ⟨h1, h⟩
      · exact .inl (Oper.wp_then (fun a w hr => wpList_cut R l a w hr h2) h)
      · exact .inr ⟨h1, h⟩
    · rename_i hw
      rw [if_neg hw]
      exact wpList_cut R l _ _ h h2
/-- A cut behind the first n operations of a region that does not draw. -/
theorem wpList_cut_n {P : Program} {ops : Array Oper} {Q : Exit → Act → World → Prop} {l : List Oper} {a : Act} {w : World} (n : Nat) (R : Act → World → Prop)
    (h1 : wpList P ops (Exit.then R Q) (l.take n) a w) (h2 : ∀ a w, R a w → wpList P ops Q (l.drop n) a w) : wpList P ops Q l a w := by
  rw [← List.take_append_drop n l]
  exact wpList_cut R _ _ _ h1 h2
/-- The state at this place, as far as it counts. -/
theorem wpList_gen {P : Program} {ops : Array Oper} {Q : Exit → Act → World → Prop} {l : List Oper} {a : Act} {w : World} (R : Act → World → Prop) (h : R a w) (h2 : ∀ a w, R a w → wpList P ops Q l a w) : wpList P ops Q l a w := h2 a w h
/-- 'The operation that stands next writes this slot.' -/
theorem at_slot {P : Program} {ops : Array Oper} {Q : Exit → Act → World → Prop} {rest : List Oper} {a : Act} {w : World} {o : Oper} (n : Nat) (_ : o.dst = some n) (h : wpList P ops Q (o :: rest) a w) : wpList P ops Q (o :: rest) a w := h

/-- 'The operation that stands next loads a value of this type.' -/
theorem at_load {P : Program} {ops : Array Oper} {Q : Exit → Act → World → Prop} {rest : List Oper} {a : Act} {w : World} {o : Oper} (ty : TypeId) (x : Operand) (_ : o.op = .load ty x) (h : wpList P ops Q (o :: rest) a w) : wpList P ops Q (o :: rest) a w := h

/-- Block g is o. -/
def Has (w : World) (g : Nat) (o : Obj) : Prop := w.heap[g]? = some o
theorem Has.lt {w : World} {g : Nat} {o : Obj} (h : Has w g o) : g < w.heap.size := by
  have : w.heap[g]? = some o := h
  exact (Array.getElem?_eq_some_iff.1 this).1
theorem Has.new (w : World) (o : Obj) : Has (w.alloc o) w.heap.size o := heap_alloc_new w o
theorem Has.alloc {w : World} {g : Nat} {o : Obj} (h : Has w g o) (x : Obj) : Has (w.alloc x) g o := (RowKit.Below.heap_alloc w x g h.lt).trans h
theorem Has.below {w w' : World} {g : Nat} {o : Obj} (h : Has w g o) (hb : RowKit.Below w.heap.size w w') : Has w' g o := (hb.block g h.lt).trans h
theorem Has.cell {w : World} {g : Nat} {cs : Array Value} {t : TypeId} {fr : Nat × Nat} (h : Has w g (.cells cs t fr)) (j : Nat) : w.cell? ⟨g, j, none⟩ = cs[j]? := cell_of_row w g j cs t fr h

/-- The cells of a part of a block: a struct within a struct, or the whole. -/
theorem run_loadVar_part {P : Program} (w : World) (g off : Nat) (t ty : TypeId) (cs : Array Value) (fr : Nat × Nat) (d : TypeDesc) (vs : List Value) (hg : Has w g (.cells cs t fr))
    (hu : P.underlying ty = some d) (hd : (match d with | .struct _ | .array _ _ => true | _ => false) = true) (hi : (P.info? ty).map (·.size) = some vs.length)
    (hvs : ∀ j v, vs[j]? = some v → cs[off + j]? = some v) :
    (loadVar ty ⟨g, off, none⟩).run P w = .ok (.agg vs.toArray) w := by
  have hl : (loadCells ⟨g, off, none⟩ vs.length).run P w = .ok vs.toArray w :=
    run_loadCells_list (P := P) w ⟨g, off, none⟩ vs (fun j v hv => by
      have hadd : (⟨g, off, none⟩ : Addr).add j = ⟨g, off + j, none⟩ := by unfold Addr.add; split <;> simp_all
      rw [hadd, hg.cell]
      exact hvs j v hv)
  cases hq : P.info? ty with
  | none => simp [hq] at hi
  | some i =>
    have hs : i.size = vs.length := by simpa [hq] using hi
    have hagg : (isAgg ty).run P w = .ok true w := by
      unfold isAgg
      rw [Sem.run_bind, run_underlying hu w]
      cases d <;> simp_all
    simp [loadVar, Sem.run_bind, hagg, sizeOf, typeInfo, hq, hs, hl]
theorem drop_take_get {vs cs : List Value} {off n : Nat} (h : (cs.drop off).take n = vs) : ∀ j v, vs[j]? = some v → cs.toArray[off + j]? = some v := by
  intro j v hv
  subst h
  rw [List.getElem?_take] at hv
  split at hv
  · rw [List.getElem?_drop] at hv
    simpa using hv
  · cases hv
theorem wp_load_part {P : Program} {o : Oper} {a : Act} {w : World} {K : Act → World → Prop} {Q : Exit → Act → World → Prop} (ty : TypeId) (x : Operand) (ho : o.op = .load ty x)
    (g off : Nat) (hx : a.eval x = .pointer (some ⟨g, off, none⟩)) (t : TypeId) (cs : List Value) (fr : Nat × Nat) (d : TypeDesc) (vs : List Value) (hg : Has w g (.cells cs.toArray t fr))
    (hu : P.underlying ty = some d) (hd : (match d with | .struct _ | .array _ _ => true | _ => false) = true) (hi : (P.info? ty).map (·.size) = some vs.length)
    (hvs : (cs.drop off).take vs.length = vs) (h : K (a.put o.dst (.agg vs.toArray)) w) : o.wp P a w K Q := by
  unfold Oper.wp execOp
  simp only [ho, hx, Instr.loadAt, Instr.sureAddr, Sem.run_bind, Sem.run_pure, Result.andThen_ok, run_loadVar_part w g off t ty cs.toArray fr d vs hg hu hd hi (drop_take_get hvs)]
  exact h
/-- A struct loaded out of a block that is known whole. -/
theorem wpList_load_part {P : Program} {ops : Array Oper} {rest : List Oper} {o : Oper} {a : Act} {w : World} {Q : Exit → Act → World → Prop} (ty : TypeId) (x : Operand) (ho : o.op = .load ty x) (hgd : o.guard = none)
    (g off : Nat) (hx : a.eval x = .pointer (some ⟨g, off, none⟩)) (t : TypeId) (cs : List Value) (fr : Nat × Nat) (d : TypeDesc) (vs : List Value) (hg : Has w g (.cells cs.toArray t fr))
    (hu : P.underlying ty = some d) (hd : (match d with | .struct _ | .array _ _ => true | _ => false) = true) (hi : (P.info? ty).map (·.size) = some vs.length)
    (hvs : (cs.drop off).take vs.length = vs) (h : wpList P ops Q rest (a.put o.dst (.agg vs.toArray)) w) : wpList P ops Q (o :: rest) a w :=
  wpList_step fun K hK => by
    rw [if_pos (by simp [Region.wanted, hgd])]
    exact wp_load_part ty x ho g off hx t cs fr d vs hg hu hd hi hvs (hK _ _ h)

/-! ### what a call owns: one fact on the memory, handed on from step to step -/
/-- The world w came of w0: blocks of w0 outside S stand; the listed blocks are known whole, and may be written. -/
structure Own (S : Nat → Prop) (w0 w : World) (L : List (Nat × Obj)) : Prop where
  os : w.os = w0.os
  tape : w.tape = w0.tape
  output : w.output = w0.output
  size : w0.heap.size ≤ w.heap.size
  frame : ∀ k, k < w0.heap.size → ¬ S k → w.heap[k]? = w0.heap[k]?
  has : ∀ (i g : Nat) (o : Obj), L[i]? = some (g, o) → Has w g o
  free : ∀ (i g : Nat) (o : Obj), L[i]? = some (g, o) → g < w0.heap.size → S g
  apart : ∀ (i j g : Nat) (o o' : Obj), L[i]? = some (g, o) → L[j]? = some (g, o') → i = j

def nobody : Nat → Prop := fun _ => False

theorem Own.refl (S : Nat → Prop) (w : World) : Own S w w [] where
  os := rfl
  tape := rfl
  output := rfl
  size := Nat.le_refl _
  frame := fun _ _ _ => rfl
  has := by intro i g o h; simp at h
  free := by intro i g o h; simp at h
  apart := by intro i j g o o' h; simp at h

theorem Own.below {w0 w : World} {L : List (Nat × Obj)} (h : Own nobody w0 w L) : RowKit.Below w0.heap.size w0 w :=
  ⟨h.os, h.tape, h.output, h.size, fun k hk => h.frame k hk (fun e => e)⟩

/-- A block of w0 that nobody may write. -/
theorem Own.old {S : Nat → Prop} {w0 w : World} {L : List (Nat × Obj)} (h : Own S w0 w L) {g : Nat} {o : Obj} (ho : Has w0 g o) (hS : ¬ S g) : Has w g o := (h.frame g ho.lt hS).trans ho

theorem Own.alloc {S : Nat → Prop} {w0 w : World} {L : List (Nat × Obj)} (h : Own S w0 w L) (o : Obj) : Own S w0 (w.alloc o) ((w.heap.size, o) :: L) := by
  have hs : (w.alloc o).heap.size = w.heap.size + 1 := by show (w.heap.push o).size = _; simp
  refine ⟨h.os, h.tape, h.output, (by rw [hs]; have := h.size; omega), (fun k hk hS => ?_), (fun i g o' hi => ?_), (fun i g o' hi hg => ?_), (fun i j g o1 o2 hi hj => ?_)⟩
  · rw [RowKit.Below.heap_alloc w o k (by have := h.size; omega)]
    exact h.frame k hk hS
  · cases i with
    | zero => cases hi; exact Has.new w o
    | succ i => exact (h.has i g o' hi).alloc o
  · cases i with
    | zero => cases hi; have := h.size; omega
    | succ i => exact h.free i g o' hi hg
  · cases i with
    | zero =>
      cases j with
      | zero => rfl
      | succ j => cases hi; have := (h.has j _ o2 hj).lt; omega
    | succ i =>
      cases j with
      | zero => cases hj; have := (h.has i _ o1 hi).lt; omega
      | succ j => exact congrArg (· + 1) (h.apart i j g o1 o2 hi hj)

/-- A call that leaves all old memory alone. -/
theorem Own.call {S : Nat → Prop} {w0 w w' : World} {L : List (Nat × Obj)} (h : Own S w0 w L) (hb : RowKit.Below w.heap.size w w') : Own S w0 w' L :=
  ⟨hb.os.trans h.os, hb.tape.trans h.tape, hb.output.trans h.output, Nat.le_trans h.size hb.size, fun k hk hS => (hb.block k (Nat.lt_of_lt_of_le hk h.size)).trans (h.frame k hk hS),
    fun i g o hi => (h.has i g o hi).below hb, h.free, h.apart⟩

theorem Own.drew {S : Nat → Prop} {w0 w : World} {L : List (Nat × Obj)} (h : Own S w0 w L) : Own S w0 w.drew L := h.call ((RowKit.Below.refl _ _).drew)
theorem Own.drewN {S : Nat → Prop} {w0 w : World} {L : List (Nat × Obj)} (h : Own S w0 w L) (n : Nat) : Own S w0 (w.drewN n) L :=
  ⟨h.os, h.tape, h.output, h.size, h.frame, h.has, h.free, h.apart⟩

/-- A known block gets other cells. -/
theorem Own.set {S : Nat → Prop} {w0 w : World} {L : List (Nat × Obj)} (h : Own S w0 w L) (i : Nat) {g : Nat} {cs : Array Value} {t : TypeId} {fr : Nat × Nat} (hi : L[i]? = some (g, .cells cs t fr)) (new : Array Value) :
    Own S w0 (w.setRow g new) (L.set i (g, .cells new t fr)) := by
  have hg := h.has i g _ hi
  have hil : i < L.length := (List.getElem?_eq_some_iff.1 hi).1
  have hsame : Has (w.setRow g new) g (.cells new t fr) := setRow_heap w g cs new t fr hg
  refine ⟨h.os, h.tape, h.output, (by rw [size_setRow]; exact h.size), (fun k hk hS => ?_), (fun j g' o' hj => ?_), (fun j g' o' hj hlt => ?_), (fun j k g' o1 o2 hj hk => ?_)⟩
  · rw [setRow_other w g k new (fun e => by subst e; exact hS (h.free i k _ hi hk))]
    exact h.frame k hk hS
  · by_cases e : i = j
    · subst e
      rw [List.getElem?_set_self hil] at hj
      cases hj
      exact hsame
    · rw [List.getElem?_set_ne e] at hj
      have hne : g' ≠ g := fun e' => by subst e'; exact e (h.apart i j _ _ _ hi hj)
      exact (setRow_other w g g' new hne).trans (h.has j g' o' hj)
  · by_cases e : i = j
    · subst e
      rw [List.getElem?_set_self hil] at hj
      cases hj
      exact h.free i g _ hi hlt
    · rw [List.getElem?_set_ne e] at hj
      exact h.free j g' o' hj hlt
  · by_cases e : i = j
    · subst e
      rw [List.getElem?_set_self hil] at hj
      cases hj
      by_cases e' : i = k
      · exact e'
      · rw [List.getElem?_set_ne e'] at hk
        exact (e' (h.apart i k _ _ _ hi hk)).elim
    · rw [List.getElem?_set_ne e] at hj
      by_cases e' : i = k
      · subst e'
        rw [List.getElem?_set_self hil] at hk
        cases hk
        exact (e (h.apart i j _ _ _ hi hj)).elim
      · rw [List.getElem?_set_ne e'] at hk
        exact h.apart j k _ _ _ hj hk

/-- A known block is forgotten. -/
theorem Own.tail {S : Nat → Prop} {w0 w : World} {p : Nat × Obj} {L : List (Nat × Obj)} (h : Own S w0 w (p :: L)) : Own S w0 w L :=
  ⟨h.os, h.tape, h.output, h.size, h.frame, fun i g o hi => h.has (i + 1) g o hi, fun i g o hi => h.free (i + 1) g o hi, fun i j g o o' hi hj => Nat.succ.inj (h.apart (i + 1) (j + 1) g o o' hi hj)⟩

section
variable {P : Program} {ops : Array Oper} {rest : List Oper} {o : Oper} {a : Act} {w w0 : World} {Q : Exit → Act → World → Prop} {S : Nat → Prop} {L : List (Nat × Obj)}

theorem eval_const (a : Act) (v : Value) : a.eval (.const v) = v := rfl
theorem eval_tmp (a : Act) {i : Nat} {v : Value} (h : a.tmps[i]? = some v) : a.eval (.tmp i) = v := by simp [Act.eval, h]
theorem at_box (ty : TypeId) (x : Operand) (_ : o.op = .box ty x) (h : wpList P ops Q (o :: rest) a w) : wpList P ops Q (o :: rest) a w := h
theorem at_alloc (ty : TypeId) (_ : o.op = .alloc ty) (h : wpList P ops Q (o :: rest) a w) : wpList P ops Q (o :: rest) a w := h
theorem at_store (ty : TypeId) (x y : Operand) (_ : o.op = .store ty x y) (h : wpList P ops Q (o :: rest) a w) : wpList P ops Q (o :: rest) a w := h

theorem own_box (M : Own S w0 w L) (ty : TypeId) (x : Operand) (ho : o.op = .box ty x) (hgd : o.guard = none) {cs : Array Value} (hv : (a.eval x).cells = cs)
    (h : ∀ g w', Own S w0 w' ((g, .cells cs ty (0, 0)) :: L) → wpList P ops Q rest (a.put o.dst (.pointer (some ⟨g, 0, none⟩))) w') : wpList P ops Q (o :: rest) a w :=
  wpList_step fun K hK => by
    rw [if_pos (by simp [Region.wanted, hgd])]
    unfold Oper.wp execOp
    simp only [ho]
    have e : (Instr.box ty (a.eval x)).run P w = .ok (.pointer (some ⟨w.heap.size, 0, none⟩)) (w.alloc (.cells cs ty (0, 0))) := by subst hv; rfl
    simp only [Sem.run_bind, e, Result.andThen_ok]
    exact hK _ _ (h _ _ (M.alloc _))

theorem own_alloc (M : Own S w0 w L) (ty : TypeId) (ho : o.op = .alloc ty) (hgd : o.guard = none) {cs : Array Value} {v : Value} (hz : ∀ w, (zeroValue ty).run P w = .ok v w) (hv : v.cells = cs)
    (h : ∀ g w', Own S w0 w' ((g, .cells cs ty (0, 0)) :: L) → wpList P ops Q rest (a.put o.dst (.pointer (some ⟨g, 0, none⟩))) w') : wpList P ops Q (o :: rest) a w :=
  wpList_step fun K hK => by
    rw [if_pos (by simp [Region.wanted, hgd])]
    unfold Oper.wp execOp
    simp only [ho]
    have e : (Instr.alloc ty true (.tuple #[])).run P w = .ok (.pointer (some ⟨w.heap.size, 0, none⟩)) (w.alloc (.cells cs ty (0, 0))) := by
      unfold Instr.alloc
      simp only [Sem.run_bind, hz, Result.andThen_ok]
      subst hv; rfl
    simp only [Sem.run_bind, e, Result.andThen_ok]
    exact hK _ _ (h _ _ (M.alloc _))

/-- A struct out of a known block. -/
theorem own_load (M : Own S w0 w L) (ty : TypeId) (x : Operand) (ho : o.op = .load ty x) (hgd : o.guard = none) (g off : Nat) (hx : a.eval x = .pointer (some ⟨g, off, none⟩))
    (i : Nat) {cs : List Value} {t : TypeId} {fr : Nat × Nat} (hi : L[i]? = some (g, .cells cs.toArray t fr)) {d : TypeDesc} (hu : P.underlying ty = some d) (hd : (match d with | .struct _ | .array _ _ => true | _ => false) = true)
    (vs : List Value) (hn : (P.info? ty).map (·.size) = some vs.length) (hvs : (cs.drop off).take vs.length = vs) (h : wpList P ops Q rest (a.put o.dst (.agg vs.toArray)) w) : wpList P ops Q (o :: rest) a w :=
  wpList_load_part ty x ho hgd g off hx t cs fr d vs (M.has i g _ hi) hu hd hn hvs h

theorem own_loadN (M : Own S w0 w L) (ty : TypeId) (x : Operand) (ho : o.op = .load ty x) (hgd : o.guard = none) (g off : Nat) (hx : a.eval x = .pointer (some ⟨g, off, none⟩))
    (i : Nat) {cs : List Value} {t : TypeId} {fr : Nat × Nat} (hi : L[i]? = some (g, .cells cs.toArray t fr)) {d : TypeDesc} (hu : P.underlying ty = some d) (hd : (match d with | .struct _ | .array _ _ => true | _ => false) = true)
    (n : Nat) (hn : (P.info? ty).map (·.size) = some n) (hle : off + n ≤ cs.length) (h : wpList P ops Q rest (a.put o.dst (.agg ((cs.drop off).take n).toArray)) w) : wpList P ops Q (o :: rest) a w := by
  have hl : ((cs.drop off).take n).length = n := by simp; omega
  exact own_load M ty x ho hgd g off hx i hi hu hd _ (by rw [hl]; exact hn) (by rw [hl]) h

/-- A single cell out of a known block. -/
theorem own_load1 (M : Own S w0 w L) (ty : TypeId) (x : Operand) (ho : o.op = .load ty x) (hgd : o.guard = none) (g off : Nat) (hx : a.eval x = .pointer (some ⟨g, off, none⟩))
    (i : Nat) {cs : List Value} {t : TypeId} {fr : Nat × Nat} (hi : L[i]? = some (g, .cells cs.toArray t fr)) {d : TypeDesc} (hu : P.underlying ty = some d) (hd : (match d with | .struct _ | .array _ _ => true | _ => false) = false)
    {v : Value} (hv : cs[off]? = some v) (h : wpList P ops Q rest (a.put o.dst v) w) : wpList P ops Q (o :: rest) a w :=
  wpList_step fun K hK => by
    rw [if_pos (by simp [Region.wanted, hgd])]
    unfold Oper.wp execOp
    have hc : w.cell? ⟨g, off, none⟩ = some v := by rw [(M.has i g _ hi).cell]; simpa using hv
    have hl : (load ⟨g, off, none⟩).run P w = .ok v w := by rw [run_load P w ⟨g, off, none⟩]; simp only [hc]
    have hagg : (isAgg ty).run P w = .ok false w := by
      unfold isAgg
      rw [Sem.run_bind, run_underlying hu w]
      cases d <;> simp_all
    have e : (loadVar ty ⟨g, off, none⟩).run P w = .ok v w := by
      unfold loadVar
      simp only [Sem.run_bind, hagg, Result.andThen_ok, Bool.false_eq_true, if_false]
      exact hl
    simp only [ho, hx, Instr.loadAt, Instr.sureAddr, Sem.run_bind, Sem.run_pure, Result.andThen_ok, e]
    exact hK _ _ h

/-- A value into a known block. -/
theorem own_store (M : Own S w0 w L) (ty : TypeId) (x y : Operand) (ho : o.op = .store ty x y) (hgd : o.guard = none) (g off : Nat) (hx : a.eval x = .pointer (some ⟨g, off, none⟩))
    {v : Value} (he : a.eval y = v) {vs : List Value} (hy : v.cells = vs.toArray) (i : Nat) {cs : List Value} {t : TypeId} (hi : L[i]? = some (g, .cells cs.toArray t (0, 0))) (hn : (P.info? ty).map (·.size) = some vs.length)
    (h1 : vs.all (·.oneCell') = true) (hle : off + vs.length ≤ cs.length)
    (h : ∀ w', Own S w0 w' (L.set i (g, .cells (cs.take off ++ vs ++ cs.drop (off + vs.length)).toArray t (0, 0))) → wpList P ops Q rest (a.put o.dst undef) w') : wpList P ops Q (o :: rest) a w :=
  wpList_step fun K hK => by
    rw [if_pos (by simp [Region.wanted, hgd])]
    unfold Oper.wp execOp
    have e0 := run_storeCells_at (P := P) g off t vs 0 cs.toArray w (M.has i g _ hi) (by simpa using hle) (fun v hv => List.all_eq_true.1 h1 v hv)
    have e : (storeVar ty ⟨g, off, none⟩ (a.eval y)).run P w = .ok () (w.setRow g (cs.take off ++ vs ++ cs.drop (off + vs.length)).toArray) := by
      cases hq : P.info? ty with
      | none => simp [hq] at hn
      | some inf =>
        have hs : inf.size = vs.length := by simpa [hq] using hn
        simp only [Nat.add_zero] at e0
        simp [storeVar, sizeOf, typeInfo, hq, he, hy, hs, e0]
    simp only [ho, hx, Instr.storeAt, Instr.sureAddr, Sem.run_bind, Sem.run_pure, Result.andThen_ok, e]
    exact hK _ _ (h _ (M.set i hi _))
/-! ### guards -/
theorem at_guard (g : Nat × Bool) (_ : o.guard = some g) (h : wpList P ops Q (o :: rest) a w) : wpList P ops Q (o :: rest) a w := h
theorem own_guard {i : Nat} {b : Bool} {s : Nat} {c : Bool} (hg : o.guard = some (i, b)) (hi : (ops[i]?).bind (·.dst) = some s) (hs : a.tmps[s]? = some (.bool c))
    (h1 : c = b → wpList P ops Q (⟨o.dst, o.op, o.type, o.pos, o.after, none⟩ :: rest) a w) (h2 : c = !b → wpList P ops Q rest (a.put o.dst undef) w) : wpList P ops Q (o :: rest) a w := by
  have hy : yielded ops a.tmps i = some c := by unfold yielded; rw [hi]; simp only [Option.bind_some, hs]
  have hw : Region.wanted o (yielded ops a.tmps) = (c == b) := by simp [Region.wanted, hg, hy]
  by_cases e : c = b
  · subst e
    have h := h1 rfl
    unfold wpList at h ⊢
    rw [if_pos (by rw [hw]; simp)]
    rw [if_pos (by simp [Region.wanted])] at h
    exact h
  · have e' : c = !b := by cases c <;> cases b <;> simp_all
    unfold wpList
    rw [if_neg (by rw [hw]; simpa using e)]
    exact h2 e'
theorem own_guard_yes {i : Nat} {b : Bool} {s : Nat} (hg : o.guard = some (i, b)) (hi : (ops[i]?).bind (·.dst) = some s) (hs : a.tmps[s]? = some (.bool b))
    (h1 : wpList P ops Q (⟨o.dst, o.op, o.type, o.pos, o.after, none⟩ :: rest) a w) : wpList P ops Q (o :: rest) a w :=
  own_guard hg hi hs (fun _ => h1) (fun e => by cases b <;> cases e)
theorem own_guard_no {i : Nat} {b : Bool} {s : Nat} (hg : o.guard = some (i, b)) (hi : (ops[i]?).bind (·.dst) = some s) (hs : a.tmps[s]? = some (.bool (!b)))
    (h2 : wpList P ops Q rest (a.put o.dst undef) w) : wpList P ops Q (o :: rest) a w :=
  own_guard hg hi hs (fun e => by cases b <;> cases e) (fun _ => h2)
theorem own_storeC (M : Own S w0 w L) (ty : TypeId) (x : Operand) (v : Value) (ho : o.op = .store ty x (.const v)) (hgd : o.guard = none) (g off : Nat) (hx : a.eval x = .pointer (some ⟨g, off, none⟩))
    {vs : List Value} (hy : v.cells = vs.toArray) (i : Nat) {cs : List Value} {t : TypeId} (hi : L[i]? = some (g, .cells cs.toArray t (0, 0))) (hn : (P.info? ty).map (·.size) = some vs.length)
    (h1 : vs.all (·.oneCell') = true) (hle : off + vs.length ≤ cs.length)
    (h : ∀ w', Own S w0 w' (L.set i (g, .cells (cs.take off ++ vs ++ cs.drop (off + vs.length)).toArray t (0, 0))) → wpList P ops Q rest (a.put o.dst undef) w') : wpList P ops Q (o :: rest) a w :=
  own_store M ty x _ ho hgd g off hx (eval_const a v) hy i hi hn h1 hle h
theorem own_storeT (M : Own S w0 w L) (ty : TypeId) (x : Operand) (j : Nat) (ho : o.op = .store ty x (.tmp j)) (hgd : o.guard = none) (g off : Nat) (hx : a.eval x = .pointer (some ⟨g, off, none⟩))
    {v : Value} (hj : a.tmps[j]? = some v) {vs : List Value} (hy : v.cells = vs.toArray) (i : Nat) {cs : List Value} {t : TypeId} (hi : L[i]? = some (g, .cells cs.toArray t (0, 0))) (hn : (P.info? ty).map (·.size) = some vs.length)
    (h1 : vs.all (·.oneCell') = true) (hle : off + vs.length ≤ cs.length)
    (h : ∀ w', Own S w0 w' (L.set i (g, .cells (cs.take off ++ vs ++ cs.drop (off + vs.length)).toArray t (0, 0))) → wpList P ops Q rest (a.put o.dst undef) w') : wpList P ops Q (o :: rest) a w :=
  own_store M ty x _ ho hgd g off hx (eval_tmp a hj) hy i hi hn h1 hle h

/-! ### a pure operation whose run is known -/
theorem own_val (hgd : o.guard = none) {v : Value} (hv : ∀ w, (execOp a.eval o).run P w = .ok (.value v) w) (h : wpList P ops Q rest (a.put o.dst v) w) : wpList P ops Q (o :: rest) a w :=
  wpList_step fun K hK => by
    rw [if_pos (by simp [Region.wanted, hgd])]
    unfold Oper.wp
    rw [hv w]
    exact hK _ _ h
theorem run_bin_agg {b : BinOp} {t t' : TypeId} {x y : Operand} (ho : o.op = .binOp b t x y t') (hm : P.eqGuardType P.depth t = false) {xs ys : Array Value} {v : Value} (hx : a.eval x = .agg xs) (hy : a.eval y = .agg ys) (w : World) (h : (binOp b t (.agg xs) (.agg ys)).run P w = .ok v w) : (execOp a.eval o).run P w = .ok (.value v) w := by
  unfold execOp
  simp only [ho, hx, hy, Sem.run_bind, run_eqGuard_agg w b t x y xs ys hm, h, Result.andThen_ok]
  rfl
theorem at_bin (b : BinOp) (t : TypeId) (x y : Operand) (t' : TypeId) (_ : o.op = .binOp b t x y t') (h : wpList P ops Q (o :: rest) a w) : wpList P ops Q (o :: rest) a w := h

/-! ### calls -/
theorem enters_body {f : FuncId} {fn : Func} (hf : P.funcs[f]? = some fn) (hname : (fn.name == "runtime.NumGoroutine") = false) (hb : fn.body.isSome = true) (args : Array Value) (w : World) : (callFunc f args).run P w = .ok (.enter f args) w := by
  have h1 : fn.name ≠ "runtime.NumGoroutine" := by simpa using hname
  obtain ⟨c, hc⟩ := Option.isSome_iff_exists.1 hb
  simp [callFunc, hf, h1, hc]
theorem run_enter {f : FuncId} {fn : Func} (hf : P.funcs[f]? = some fn) (hname : (fn.name == "runtime.NumGoroutine") = false) (hb : fn.body.isSome = true) {xs : Array Operand} {ts : Array TypeId}
    (ho : o.op = .call { callee := .value (.func f), args := xs, argTypes := ts }) {args : Array Value} (hargs : xs.map a.eval = args) (w : World) : (execOp a.eval o).run P w = .ok (.enter f args) w := by
  have he := enters_body hf hname hb args w
  unfold execOp
  simp [ho, resolve, Deferred.ofValue, invoke, Act.eval, hargs, he]
theorem at_callee (f : FuncId) (xs : Array Operand) (ts : Array TypeId) (_ : o.op = .call { callee := .value (.func f), args := xs, argTypes := ts }) (h : wpList P ops Q (o :: rest) a w) : wpList P ops Q (o :: rest) a w := h
/-- A call of a function that leaves old memory alone. -/
theorem own_callee (M : Own S w0 w L) (f : FuncId) {fn : Func} (hf : P.funcs[f]? = some fn) (hname : (fn.name == "runtime.NumGoroutine") = false) (hb : fn.body.isSome = true) {xs : Array Operand} {ts : Array TypeId}
    (ho : o.op = .call { callee := .value (.func f), args := xs, argTypes := ts }) (hgd : o.guard = none) {args : Array Value} {v : Value} (hc : ∀ w, Calls P f args w fun e w' => e = .returned v ∧ RowKit.Below w.heap.size w w') (hargs : xs.map a.eval = args)
    (h : ∀ w', Own S w0 w' L → wpList P ops Q rest (a.put o.dst v) w') : wpList P ops Q (o :: rest) a w :=
  wpList_step fun K hK => by
    rw [if_pos (by simp [Region.wanted, hgd])]
    unfold Oper.wp
    rw [run_enter hf hname hb ho hargs w, Oper.upon_enter]
    refine (hc w).mono fun e w' ⟨he, hb⟩ => ?_
    subst he
    exact hK _ _ (h w' (M.call hb))

/-! ### results that lie in memory -/
theorem own_loadVar (M : Own S w0 w L) {g : Nat} (i : Nat) {cs : List Value} {t : TypeId} {fr : Nat × Nat} (hi : L[i]? = some (g, .cells cs.toArray t fr)) {ty : TypeId} {d : TypeDesc} (hu : P.underlying ty = some d) (hd : (match d with | .struct _ | .array _ _ => true | _ => false) = true)
    (hn : (P.info? ty).map (·.size) = some cs.length) : (loadVar ty ⟨g, 0, none⟩).run P w = .ok (.agg cs.toArray) w :=
  run_loadVar_part w g 0 t ty cs.toArray fr d cs (M.has i g _ hi) hu hd hn (fun j v h => by simpa using h)
theorem own_ret_cell (M : Own S w0 w L) {fn : Func} {p : Tmp} {ty : TypeId} (h : fn.results = #[.cell p ty]) {tmps : Array Value} {g : Nat} (hp : tmps.getD p undef = .pointer (some ⟨g, 0, none⟩)) (i : Nat) {cs : List Value} {t : TypeId} {fr : Nat × Nat}
    (hi : L[i]? = some (g, .cells cs.toArray t fr)) {d : TypeDesc} (hu : P.underlying ty = some d) (hd : (match d with | .struct _ | .array _ _ => true | _ => false) = true) (hn : (P.info? ty).map (·.size) = some cs.length) :
    (results fn tmps).run P w = .ok (.agg cs.toArray) w := by
  have hp' : tmps[p]?.getD undef = .pointer (some ⟨g, 0, none⟩) := by simpa using hp
  simp [results, h, hp', asAddr, own_loadVar M i hi hu hd hn]
theorem own_ret_cell_tmp (M : Own S w0 w L) {fn : Func} {p q : Tmp} {ty : TypeId} (h : fn.results = #[.cell p ty, .tmp q]) {tmps : Array Value} {g : Nat} (hp : tmps.getD p undef = .pointer (some ⟨g, 0, none⟩)) (i : Nat) {cs : List Value} {t : TypeId} {fr : Nat × Nat}
    (hi : L[i]? = some (g, .cells cs.toArray t fr)) {d : TypeDesc} (hu : P.underlying ty = some d) (hd : (match d with | .struct _ | .array _ _ => true | _ => false) = true) (hn : (P.info? ty).map (·.size) = some cs.length) {v : Value} (hq : tmps.getD q undef = v) :
    (results fn tmps).run P w = .ok (.tuple #[.agg cs.toArray, v]) w := by
  have hp' : tmps[p]?.getD undef = .pointer (some ⟨g, 0, none⟩) := by simpa using hp
  have hq' : tmps[q]?.getD undef = v := by simpa using hq
  simp [results, h, hp', hq', asAddr, own_loadVar M i hi hu hd hn]

/-! ### a region that draws its order and leaves the known blocks alone -/
theorem run_own_load (M : Own S w0 w L) {ty : TypeId} {x : Operand} (ho : o.op = .load ty x) {g off : Nat} (hx : a.eval x = .pointer (some ⟨g, off, none⟩))
    {i : Nat} {cs : List Value} {t : TypeId} {fr : Nat × Nat} (hi : L[i]? = some (g, .cells cs.toArray t fr)) {d : TypeDesc} (hu : P.underlying ty = some d) (hd : (match d with | .struct _ | .array _ _ => true | _ => false) = true)
    {n : Nat} (hn : (P.info? ty).map (·.size) = some n) (hle : off + n ≤ cs.length) : (execOp a.eval o).run P w = .ok (.value (.agg ((cs.drop off).take n).toArray)) w := by
  have hl : ((cs.drop off).take n).length = n := by simp; omega
  have e := run_loadVar_part w g off t ty cs.toArray fr d ((cs.drop off).take n) (M.has i g _ hi) hu hd (by rw [hl]; exact hn) (drop_take_get (n := n) rfl)
  unfold execOp
  simp only [ho, hx, Instr.loadAt, Instr.sureAddr, Sem.run_bind, Sem.run_pure, Result.andThen_ok, e]
theorem run_own_load1 (M : Own S w0 w L) {ty : TypeId} {x : Operand} (ho : o.op = .load ty x) {g off : Nat} (hx : a.eval x = .pointer (some ⟨g, off, none⟩))
    {i : Nat} {cs : List Value} {t : TypeId} {fr : Nat × Nat} (hi : L[i]? = some (g, .cells cs.toArray t fr)) {d : TypeDesc} (hu : P.underlying ty = some d) (hd : (match d with | .struct _ | .array _ _ => true | _ => false) = false)
    {v : Value} (hv : cs[off]? = some v) : (execOp a.eval o).run P w = .ok (.value v) w := by
  unfold execOp
  have hc : w.cell? ⟨g, off, none⟩ = some v := by rw [(M.has i g _ hi).cell]; simpa using hv
  have hl : (load ⟨g, off, none⟩).run P w = .ok v w := by rw [run_load P w ⟨g, off, none⟩]; simp only [hc]
  have hagg : (isAgg ty).run P w = .ok false w := by
    unfold isAgg
    rw [Sem.run_bind, run_underlying hu w]
    cases d <;> simp_all
  have e : (loadVar ty ⟨g, off, none⟩).run P w = .ok v w := by
    unfold loadVar
    simp only [Sem.run_bind, hagg, Result.andThen_ok, Bool.false_eq_true, if_false]
    exact hl
  simp only [ho, hx, Instr.loadAt, Instr.sureAddr, Sem.run_bind, Sem.run_pure, Result.andThen_ok, e]

theorem own_region {id : Nat} {l : List Oper} (M : Own S w0 w L) (hm : P.follows .mixedOrders = true) (hB : Region.lexB .any l.toArray = true)
    (h : wpQuiet P l.toArray (fun w' => Own S w0 w' L) (fun a' => ∀ w', Own S w0 w' L → Q .normal a' w') l a) : (Code.region id l.toArray true).wp P Q a w :=
  wp_region_quiet (C := fun w' => Own S w0 w' L) hm hB (M.call ((RowKit.Below.refl _ _).drew)) h

section
variable {C : World → Prop} {R : Act → Prop}
theorem atq_load (ty : TypeId) (x : Operand) (_ : o.op = .load ty x) (h : wpQuiet P ops C R (o :: rest) a) : wpQuiet P ops C R (o :: rest) a := h
theorem atq_bin (b : BinOp) (t : TypeId) (x y : Operand) (t' : TypeId) (_ : o.op = .binOp b t x y t') (h : wpQuiet P ops C R (o :: rest) a) : wpQuiet P ops C R (o :: rest) a := h
theorem atq_guard (g : Nat × Bool) (_ : o.guard = some g) (h : wpQuiet P ops C R (o :: rest) a) : wpQuiet P ops C R (o :: rest) a := h
theorem ownq_val (hgd : o.guard = none) {v : Value} (hv : ∀ w, C w → (execOp a.eval o).run P w = .ok (.value v) w) (h : wpQuiet P ops C R rest (a.put o.dst v)) : wpQuiet P ops C R (o :: rest) a :=
  wpQuiet_step fun K hK => by
    rw [if_pos (by simp [Region.wanted, hgd])]
    refine ⟨v, fun w hw => ?_, hK _ h⟩
    unfold Oper.quietAt
    rw [hv w hw]
    exact ⟨rfl, rfl⟩
theorem ownq_pure (hgd : o.guard = none) (h : ∃ v, (∀ w, C w → (execOp a.eval o).run P w = .ok (.value v) w) ∧ wpQuiet P ops C R rest (a.put o.dst v)) : wpQuiet P ops C R (o :: rest) a :=
  let ⟨_, h1, h2⟩ := h
  ownq_val hgd h1 h2
theorem atq_callee (f : FuncId) (xs : Array Operand) (ts : Array TypeId) (_ : o.op = .call { callee := .value (.func f), args := xs, argTypes := ts }) (h : wpQuiet P ops C R (o :: rest) a) : wpQuiet P ops C R (o :: rest) a := h
theorem ownq_callee (f : FuncId) {fn : Func} (hf : P.funcs[f]? = some fn) (hname : (fn.name == "runtime.NumGoroutine") = false) (hb : fn.body.isSome = true) {xs : Array Operand} {ts : Array TypeId}
    (ho : o.op = .call { callee := .value (.func f), args := xs, argTypes := ts }) (hgd : o.guard = none) {args : Array Value} {v : Value} (hc : ∀ w, Calls P f args w fun e w' => e = .returned v ∧ RowKit.Below w.heap.size w w') (hargs : xs.map a.eval = args)
    (h : wpQuiet P ops (fun w' => Own S w0 w' L) R rest (a.put o.dst v)) : wpQuiet P ops (fun w' => Own S w0 w' L) R (o :: rest) a :=
  wpQuiet_step fun K hK => by
    rw [if_pos (by simp [Region.wanted, hgd])]
    refine ⟨v, fun w hw => ?_, hK _ h⟩
    unfold Oper.quietAt
    rw [run_enter hf hname hb ho hargs w]
    exact ⟨rfl, (hc w).mono fun e w' ⟨he, hb⟩ => ⟨he, Own.call hw hb⟩⟩
theorem ownq_loadN (ty : TypeId) (x : Operand) (ho : o.op = .load ty x) (hgd : o.guard = none) (g off : Nat) (hx : a.eval x = .pointer (some ⟨g, off, none⟩))
    (i : Nat) {cs : List Value} {t : TypeId} {fr : Nat × Nat} (hi : L[i]? = some (g, .cells cs.toArray t fr)) {d : TypeDesc} (hu : P.underlying ty = some d) (hd : (match d with | .struct _ | .array _ _ => true | _ => false) = true)
    (n : Nat) (hn : (P.info? ty).map (·.size) = some n) (hle : off + n ≤ cs.length) (h : wpQuiet P ops (fun w' => Own S w0 w' L) R rest (a.put o.dst (.agg ((cs.drop off).take n).toArray))) :
    wpQuiet P ops (fun w' => Own S w0 w' L) R (o :: rest) a :=
  ownq_val hgd (fun w hw => run_own_load hw ho hx hi hu hd hn hle) h
theorem ownq_load1 (ty : TypeId) (x : Operand) (ho : o.op = .load ty x) (hgd : o.guard = none) (g off : Nat) (hx : a.eval x = .pointer (some ⟨g, off, none⟩))
    (i : Nat) {cs : List Value} {t : TypeId} {fr : Nat × Nat} (hi : L[i]? = some (g, .cells cs.toArray t fr)) {d : TypeDesc} (hu : P.underlying ty = some d) (hd : (match d with | .struct _ | .array _ _ => true | _ => false) = false)
    {v : Value} (hv : cs[off]? = some v) (h : wpQuiet P ops (fun w' => Own S w0 w' L) R rest (a.put o.dst v)) : wpQuiet P ops (fun w' => Own S w0 w' L) R (o :: rest) a :=
  ownq_val hgd (fun w hw => run_own_load1 hw ho hx hi hu hd hv) h
theorem ownq_guard {i : Nat} {b : Bool} {s : Nat} {c : Bool} (hg : o.guard = some (i, b)) (hi : (ops[i]?).bind (·.dst) = some s) (hs : a.tmps[s]? = some (.bool c))
    (h1 : c = b → wpQuiet P ops C R (⟨o.dst, o.op, o.type, o.pos, o.after, none⟩ :: rest) a) (h2 : c = !b → wpQuiet P ops C R rest (a.put o.dst undef)) : wpQuiet P ops C R (o :: rest) a := by
  have hy : yielded ops a.tmps i = some c := by unfold yielded; rw [hi]; simp only [Option.bind_some, hs]
  have hw : Region.wanted o (yielded ops a.tmps) = (c == b) := by simp [Region.wanted, hg, hy]
  by_cases e : c = b
  · subst e
    have h := h1 rfl
    unfold wpQuiet at h ⊢
    rw [if_pos (by rw [hw]; simp)]
    rw [if_pos (by simp [Region.wanted])] at h
    exact h
  · have e' : c = !b := by cases c <;> cases b <;> simp_all
    unfold wpQuiet
    rw [if_neg (by rw [hw]; simpa using e)]
    exact h2 e'
end
end
end Go
