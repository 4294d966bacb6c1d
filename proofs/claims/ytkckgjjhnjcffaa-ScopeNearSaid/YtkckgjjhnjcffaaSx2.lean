/-
  A symbolic run of Go functions by computation (part 2): what is known of memory, and how it stands to a world.
-/
import Derived.Test.YtkckgjjhnjcffaaSx1
import Derived.Laws.Rows
import Derived.Laws.CopyRow
namespace Go.Sx
set_option linter.unusedVariables false

inductive SObj where
  | dead
  | cells (rows : T (List SV)) (nr es : Nat) (ty : TypeId) (opn ro : Bool)
  | map (es : List (SV × SV × Nat)) (clock : Nat)
  | miter (m since : Nat) (seen : List Nat) (stepped : Nat)
  | siter (s : SX) (pos : Nat)
  | umap (es : List (SV × SV)) -- a map, its entries in whatever order
def SObj.live : SObj → Bool
  | .dead => false
  | _ => true
def entsBeq : List (SV × SV × Nat) → List (SV × SV × Nat) → Bool
  | [], [] => true
  | (k, v, n) :: l, (k', v', n') :: l' => SV.beq k k' && (SV.beq v v' && (Nat.beq n n' && entsBeq l l'))
  | _, _ => false
theorem entsBeq_eq : ∀ (l m : List (SV × SV × Nat)), entsBeq l m = true → l = m
  | [], [], _ => rfl
  | [], _ :: _, h => by simp [entsBeq] at h
  | _ :: _, [], h => by simp [entsBeq] at h
  | (k, v, n) :: l, (k', v', n') :: l', h => by
    simp [entsBeq] at h
    obtain ⟨h1, h2, h3, h4⟩ := h
    rw [SV.beq_eq _ _ h1, SV.beq_eq _ _ h2, h3, entsBeq_eq _ _ h4]
def pairsBeq : List (SV × SV) → List (SV × SV) → Bool
  | [], [] => true
  | (k, v) :: l, (k', v') :: l' => SV.beq k k' && (SV.beq v v' && pairsBeq l l')
  | _, _ => false
theorem pairsBeq_eq : ∀ (l m : List (SV × SV)), pairsBeq l m = true → l = m
  | [], [], _ => rfl
  | [], _ :: _, h => by simp [pairsBeq] at h
  | _ :: _, [], h => by simp [pairsBeq] at h
  | (k, v) :: l, (k', v') :: l', h => by
    simp [pairsBeq] at h
    obtain ⟨h1, h2, h4⟩ := h
    rw [SV.beq_eq _ _ h1, SV.beq_eq _ _ h2, pairsBeq_eq _ _ h4]
def SObj.beq : SObj → SObj → Bool
  | .dead, .dead => true
  | .cells rows nr es ty opn ro, .cells rows' nr' es' ty' opn' ro' => Nat.beq nr nr' && (Nat.beq es es' && (Nat.beq ty ty' && ((opn == opn') && ((ro == ro') && rows.beq SV.beqL rows'))))
  | .map es c, .map es' c' => Nat.beq c c' && entsBeq es es'
  | .miter a b c d, .miter a' b' c' d' => Nat.beq a a' && (Nat.beq b b' && (decide (c = c') && Nat.beq d d'))
  | .siter s p, .siter s' p' => decide (s = s') && Nat.beq p p'
  | .umap l, .umap l' => pairsBeq l l'
  | _, _ => false
theorem SObj.beq_eq (a b : SObj) (h : SObj.beq a b = true) : a = b := by
  cases a <;> cases b <;> simp [SObj.beq] at h ⊢
  · obtain ⟨h1, h2, h3, h4, h5, h6⟩ := h
    exact ⟨T.beq_eq SV.beqL_eq _ _ h6, h1, h2, h3, h4, h5⟩
  · exact ⟨entsBeq_eq _ _ h.2, h.1⟩
  · exact h
  · exact h
  · exact pairsBeq_eq _ _ h

structure St where
  h : T SObj := .nil
  next : Nat := 0
  asm : List (BX × Bool) := []
  resv : List Nat := []

def rowsOk (E : Env) (rows : T (List SV)) (nr es base : Nat) (cs : Array Value) : Prop :=
  ∀ r row, rows.get r = some row → r < nr ∧ row.length = es ∧ ∃ L, SV.denL E row = some L ∧ ∀ (j : Nat) (V : Value), L[j]? = some V → cs[base + (r * es + j)]? = some V
def entsOk (E : Env) : List (SV × SV × Nat) → List MapEntry → Prop
  | [], [] => True
  | (k, v, n) :: l, e :: m => k.den E = some e.key ∧ v.den E = some e.val ∧ e.born = n ∧ entsOk E l m
  | _, _ => False
def pairOf (e : SV × SV × Nat) : SV × SV := (e.1, e.2.1)
def ObjOk (E : Env) (base n : Nat) : SObj → Option Obj → Prop
  | .dead, _ => True
  | .cells rows nr es ty opn ro, O => ∃ cs fr, O = some (.cells cs ty fr) ∧ (ro = false → fr = (0, 0)) ∧ cs.size = base + n ∧ nr * es ≤ n ∧ (opn = false → base = 0 ∧ nr * es = n) ∧ rowsOk E rows nr es base cs
  | .map ents clock, O => ∃ es, O = some (.map es clock) ∧ entsOk E ents es.toList
  | .miter m since seen stepped, O => base = 0 ∧ ∃ x y z, O = some (.mapIter (some x) since seen.toArray stepped) ∧ E.blk m = some (x, y, z)
  | .siter s pos, O => base = 0 ∧ ∃ bs, s.den E = some bs ∧ O = some (.stringIter bs pos)
  | .umap l, O => ∃ es clock ents, O = some (.map es clock) ∧ (ents.map pairOf).Perm l ∧ entsOk E ents es.toList
theorem rowsOk.mono {E F : Env} (le : E.Le F) {rows : T (List SV)} {nr es base : Nat} {cs : Array Value} (h : rowsOk E rows nr es base cs) : rowsOk F rows nr es base cs := by
  intro r row hr
  obtain ⟨h1, h2, L, h3, h4⟩ := h r row hr
  exact ⟨h1, h2, L, SV.monoL le h3, h4⟩
theorem entsOk.mono {E F : Env} (le : E.Le F) : ∀ {l : List (SV × SV × Nat)} {m : List MapEntry}, entsOk E l m → entsOk F l m
  | [], [], _ => trivial
  | [], _ :: _, h => h.elim
  | (_, _, _) :: _, [], h => h.elim
  | (k, v, n) :: l, e :: m, h => ⟨SV.mono le h.1, SV.mono le h.2.1, h.2.2.1, entsOk.mono le h.2.2.2⟩
theorem ObjOk.mono {E F : Env} (le : E.Le F) {base n : Nat} {o : SObj} {O : Option Obj} (h : ObjOk E base n o O) : ObjOk F base n o O := by
  cases o with
  | dead => trivial
  | cells rows nr es ty opn ro => obtain ⟨cs, fr, h1, h2, h3, h4, h5, h6⟩ := h; exact ⟨cs, fr, h1, h2, h3, h4, h5, h6.mono le⟩
  | map ents clock => obtain ⟨es, h1, h2⟩ := h; exact ⟨es, h1, h2.mono le⟩
  | miter m since seen stepped => obtain ⟨h0, x, y, z, h1, h2⟩ := h; exact ⟨h0, x, y, z, h1, le.blk _ _ h2⟩
  | siter s pos => obtain ⟨h0, bs, h1, h2⟩ := h; exact ⟨h0, bs, SX.mono le h1, h2⟩
  | umap l => obtain ⟨es, c, ents, h1, h2, h3⟩ := h; exact ⟨es, c, ents, h1, h2, h3.mono le⟩

/-- What the heap says is so in this world. -/
def Mem (E : Env) (h : T SObj) (w : World) : Prop :=
  ∀ id o, h.get id = some o → o.live = true → ∃ b base n, E.blk id = some (b, base, n) ∧ ObjOk E base n o w.heap[b]?
/-- The world w came of w0, and is as the state says. -/
structure Rel (w0 : World) (E : Env) (s : St) (w : World) : Prop where
  os : w.os = w0.os
  tape : w.tape = w0.tape
  output : w.output = w0.output
  size : w0.heap.size ≤ w.heap.size
  frame : ∀ k, k < w0.heap.size → w.heap[k]? = w0.heap[k]?
  mem : Mem E s.h w
  fresh : ∀ id, s.next ≤ id → E.blk id = none
  new : ∀ id o b base n, s.h.get id = some o → o.live = true → E.blk id = some (b, base, n) → w0.heap.size ≤ b
  inj : ∀ id id' o o' x x', s.h.get id = some o → s.h.get id' = some o' → o.live = true → o'.live = true → E.blk id = some x → E.blk id' = some x' → x.1 = x'.1 → id = id'
  asm : ∀ c v, (c, v) ∈ s.asm → c.den E = some v
  rsv : ∀ id, id ∈ s.resv → id < s.next ∧ E.blk id = none

theorem Rel.below {w0 w : World} {E : Env} {s : St} (R : Rel w0 E s w) : RowKit.Below w0.heap.size w0 w := ⟨R.os, R.tape, R.output, R.size, R.frame⟩
theorem Rel.start (E : Env) (w : World) (asm : List (BX × Bool)) (h : ∀ id, E.blk id = none) (ha : ∀ c v, (c, v) ∈ asm → c.den E = some v) : Rel w E { asm := asm } w where
  os := rfl
  tape := rfl
  output := rfl
  size := Nat.le_refl _
  frame := fun _ _ => rfl
  mem := fun id o h => by simp [T.get_nil] at h
  fresh := fun id _ => h id
  new := fun id o b base n h => by simp [T.get_nil] at h
  inj := fun id id' o o' x x' h => by simp [T.get_nil] at h
  asm := ha
  rsv := fun id h => by simp at h
theorem ObjOk.lt {E : Env} {base n : Nat} {o : SObj} {w : World} {b : Nat} (h : ObjOk E base n o w.heap[b]?) (hl : o.live = true) : b < w.heap.size := by
  have key : ∀ O, w.heap[b]? = some O → b < w.heap.size := fun O e => (Array.getElem?_eq_some_iff.1 e).1
  cases o with
  | dead => cases hl
  | cells rows nr es ty opn ro => obtain ⟨cs, fr, h1, -⟩ := h; exact key _ h1
  | map ents clock => obtain ⟨es, h1, -⟩ := h; exact key _ h1
  | miter m since seen stepped => obtain ⟨-, x, y, z, h1, -⟩ := h; exact key _ h1
  | siter s pos => obtain ⟨-, bs, -, h1⟩ := h; exact key _ h1
  | umap l => obtain ⟨es, c, ents, h1, -⟩ := h; exact key _ h1
/-- w' is w but for block b, which is O. -/
structure Upd (w w' : World) (b : Nat) (O : Obj) : Prop where
  os : w'.os = w.os
  tape : w'.tape = w.tape
  output : w'.output = w.output
  size : w'.heap.size = w.heap.size
  here : w'.heap[b]? = some O
  other : ∀ k, k ≠ b → w'.heap[k]? = w.heap[k]?
theorem Upd.setRow {w : World} {b : Nat} {old : Array Value} {t : TypeId} {fr : Nat × Nat} (h : w.heap[b]? = some (.cells old t fr)) (new : Array Value) : Upd w (w.setRow b new) b (.cells new t fr) :=
  ⟨rfl, rfl, rfl, size_setRow _ _ _, setRow_heap _ _ _ _ _ _ h, fun k hk => setRow_other _ _ _ _ hk⟩
theorem Upd.setObj {w : World} {b : Nat} (h : b < w.heap.size) (O : Obj) : Upd w { w with heap := w.heap.setIfInBounds b O } b O :=
  ⟨rfl, rfl, rfl, by simp, by simp [h], fun k hk => by simp [Ne.symm hk]⟩
section
variable {w0 w w' : World} {E : Env} {s : St}
theorem Rel.same (R : Rel w0 E s w) (h : w'.heap = w.heap) (h1 : w'.os = w.os) (h2 : w'.tape = w.tape) (h3 : w'.output = w.output) : Rel w0 E s w' :=
  ⟨h1.trans R.os, h2.trans R.tape, h3.trans R.output, by rw [h]; exact R.size, by rw [h]; exact R.frame, by unfold Mem; rw [h]; exact R.mem, R.fresh, R.new, R.inj, R.asm, R.rsv⟩
theorem Rel.upd (R : Rel w0 E s w) {id : Nat} {o : SObj} (hid : s.h.get id = some o) (hl : o.live = true) {b base n : Nat} (hb : E.blk id = some (b, base, n)) {O : Obj} (U : Upd w w' b O) {so : SObj} (hO : ObjOk E base n so (some O)) :
    Rel w0 E { s with h := s.h.put id so } w' := by
  have hbw : w0.heap.size ≤ b := R.new id o b base n hid hl hb
  refine ⟨U.os.trans R.os, U.tape.trans R.tape, U.output.trans R.output, by rw [U.size]; exact R.size, fun k hk => ?_, fun id' o' h' hl' => ?_, R.fresh, fun id' o' b' base' n' h' hl' hb' => ?_, fun i j o1 o2 x1 x2 h1 h2 l1 l2 e1 e2 e => ?_, R.asm, R.rsv⟩
  · rw [U.other k (by omega)]; exact R.frame k hk
  · simp only [T.get_put] at h'
    split at h'
    · rename_i e; subst e
      cases h'
      exact ⟨b, base, n, hb, by rw [U.here]; exact hO⟩
    · rename_i e
      obtain ⟨b', base', n', e1, e2⟩ := R.mem id' o' h' hl'
      refine ⟨b', base', n', e1, ?_⟩
      rw [U.other b' (fun e' => e (R.inj id id' o o' _ _ hid h' hl hl' hb e1 e'.symm))]
      exact e2
  · simp only [T.get_put] at h'
    split at h'
    · rename_i e; subst e
      rw [hb] at hb'; cases hb'; exact hbw
    · exact R.new id' o' b' base' n' h' hl' hb'
  · simp only [T.get_put] at h1 h2
    split at h1 <;> split at h2
    · rename_i a c; exact a.symm.trans c
    · rename_i a c; subst a; exact R.inj id j o o2 x1 x2 hid h2 hl l2 e1 e2 e
    · rename_i a c; subst c; exact R.inj i id o1 o x1 x2 h1 hid l1 hl e1 e2 e
    · exact R.inj i j o1 o2 x1 x2 h1 h2 l1 l2 e1 e2 e
theorem Rel.kill (R : Rel w0 E s w) (id : Nat) : Rel w0 E { s with h := s.h.put id .dead } w := by
  refine ⟨R.os, R.tape, R.output, R.size, R.frame, fun id' o' h' hl' => ?_, R.fresh, fun id' o' b' base' n' h' hl' hb' => ?_, fun i j o1 o2 x1 x2 h1 h2 l1 l2 e1 e2 e => ?_, R.asm, R.rsv⟩
  · simp only [T.get_put] at h'
    split at h'
    · cases h'; cases hl'
    · exact R.mem id' o' h' hl'
  · simp only [T.get_put] at h'
    split at h'
    · cases h'; cases hl'
    · exact R.new id' o' b' base' n' h' hl' hb'
  · simp only [T.get_put] at h1 h2
    split at h1
    · cases h1; cases l1
    · split at h2
      · cases h2; cases l2
      · exact R.inj i j o1 o2 x1 x2 h1 h2 l1 l2 e1 e2 e
/-- A name for a block that no live name has. -/
theorem Rel.name (R : Rel w0 E s w) {b base n : Nat} (hb : w0.heap.size ≤ b) (hno : ∀ id o x, s.h.get id = some o → o.live = true → E.blk id = some x → x.1 ≠ b) {so : SObj} (hO : ObjOk (E.add s.next b base n) base n so w.heap[b]?) :
    Rel w0 (E.add s.next b base n) { s with h := s.h.put s.next so, next := s.next + 1 } w := by
  have hn : E.blk s.next = none := R.fresh s.next (Nat.le_refl _)
  have le := E.le_add hn b base n
  have old : ∀ id o, s.h.get id = some o → o.live = true → s.next ≠ id := fun id o h hl e => by
    subst e
    obtain ⟨_, _, _, e1, _⟩ := R.mem _ o h hl
    rw [hn] at e1; cases e1
  refine ⟨R.os, R.tape, R.output, R.size, R.frame, fun id' o' h' hl' => ?_, fun id' hid' => ?_, fun id' o' b' base' n' h' hl' hb' => ?_, fun i j o1 o2 x1 x2 h1 h2 l1 l2 e1 e2 e => ?_, fun c v h => BX.mono le (R.asm c v h), fun id h => ⟨Nat.lt_succ_of_lt (R.rsv id h).1, by rw [Env.add_ne _ _ _ _ (Nat.ne_of_lt (R.rsv id h).1)]; exact (R.rsv id h).2⟩⟩
  · simp only [T.get_put] at h'
    split at h'
    · rename_i e; subst e
      cases h'
      exact ⟨b, base, n, E.add_new _ _ _ _, hO⟩
    · obtain ⟨b', base', n', e1, e2⟩ := R.mem id' o' h' hl'
      exact ⟨b', base', n', le.blk _ _ e1, e2.mono le⟩
  · have h1 : s.next + 1 ≤ id' := hid'
    rw [Env.add_ne _ _ _ _ (by omega)]
    exact R.fresh id' (by omega)
  · simp only [T.get_put] at h'
    split at h'
    · rename_i e; subst e
      rw [Env.add_new] at hb'; cases hb'; exact hb
    · rename_i e
      rw [Env.add_ne _ _ _ _ (Ne.symm e)] at hb'
      exact R.new id' o' b' base' n' h' hl' hb'
  · simp only [T.get_put] at h1 h2
    split at h1 <;> split at h2
    · rename_i a c; exact a.symm.trans c
    · rename_i a c; subst a
      rw [Env.add_new] at e1; cases e1
      rw [Env.add_ne _ _ _ _ (Ne.symm c)] at e2
      exact (hno j o2 x2 h2 l2 e2 e.symm).elim
    · rename_i a c; subst c
      rw [Env.add_new] at e2; cases e2
      rw [Env.add_ne _ _ _ _ (Ne.symm a)] at e1
      exact (hno i o1 x1 h1 l1 e1 e).elim
    · rename_i a c
      rw [Env.add_ne _ _ _ _ (Ne.symm a)] at e1
      rw [Env.add_ne _ _ _ _ (Ne.symm c)] at e2
      exact R.inj i j o1 o2 x1 x2 h1 h2 l1 l2 e1 e2 e
theorem Rel.alloc0 (R : Rel w0 E s w) (O : Obj) : Rel w0 E s (w.alloc O) := by
  refine ⟨R.os, R.tape, R.output, by rw [World.size_alloc]; have := R.size; omega, fun k hk => ?_, fun id' o' h' hl' => ?_, R.fresh, R.new, R.inj, R.asm, R.rsv⟩
  · rw [heap_alloc_old _ _ _ (by have := R.size; omega)]; exact R.frame k hk
  · obtain ⟨b', base', n', e1, e2⟩ := R.mem id' o' h' hl'
    exact ⟨b', base', n', e1, by rw [heap_alloc_old _ _ _ (e2.lt hl')]; exact e2⟩
/-- A new block, and its name. -/
theorem Rel.alloc (R : Rel w0 E s w) (O : Obj) (n : Nat) {so : SObj} (hO : ObjOk (E.add s.next w.heap.size 0 n) 0 n so (some O)) :
    Rel w0 (E.add s.next w.heap.size 0 n) { s with h := s.h.put s.next so, next := s.next + 1 } (w.alloc O) := by
  refine (R.alloc0 O).name R.size (fun id o x h hl hx e => ?_) (by rw [heap_alloc_new]; exact hO)
  obtain ⟨b', base', n', e1, e2⟩ := R.mem id o h hl
  rw [hx] at e1; cases e1
  have := e2.lt hl
  simp at e
  omega
/-- A name is kept for later. -/
def reserve (s : St) : St := { s with next := s.next + 1, resv := s.next :: s.resv }
theorem Rel.reserve (R : Rel w0 E s w) : Rel w0 E (reserve s) w := by
  refine ⟨R.os, R.tape, R.output, R.size, R.frame, R.mem, fun id h => R.fresh id (by have : s.next + 1 ≤ id := h; omega), R.new, R.inj, R.asm, fun id h => ?_⟩
  rcases List.mem_cons.1 h with rfl | h
  · exact ⟨Nat.lt_succ_self _, R.fresh _ (Nat.le_refl _)⟩
  · exact ⟨Nat.lt_succ_of_lt (R.rsv id h).1, (R.rsv id h).2⟩
/-- A new block under a name that was kept. -/
theorem Rel.allocAt (R : Rel w0 E s w) {id : Nat} (hid : id ∈ s.resv) (O : Obj) (n : Nat) {so : SObj} (hO : ObjOk (E.add id w.heap.size 0 n) 0 n so (some O)) :
    Rel w0 (E.add id w.heap.size 0 n) { s with h := s.h.put id so, resv := s.resv.filter fun j => !Nat.beq j id } (w.alloc O) := by
  obtain ⟨hlt, hn⟩ := R.rsv id hid
  have le := E.le_add hn w.heap.size 0 n
  have hsz := R.size
  have old : ∀ id' o, s.h.get id' = some o → o.live = true → id' ≠ id ∧ ∃ b base n', E.blk id' = some (b, base, n') ∧ b < w.heap.size ∧ ObjOk E base n' o w.heap[b]? := fun id' o h hl => by
    obtain ⟨b', base', n', e1, e2⟩ := R.mem id' o h hl
    exact ⟨(fun e => by subst e; rw [hn] at e1; cases e1), b', base', n', e1, e2.lt hl, e2⟩
  refine ⟨R.os, R.tape, R.output, by rw [World.size_alloc]; omega, fun k hk => by rw [heap_alloc_old _ _ _ (by omega)]; exact R.frame k hk, fun id' o' h' hl' => ?_, fun id' hid' => ?_, fun id' o' b' base' n' h' hl' hb' => ?_, fun i j o1 o2 x1 x2 h1 h2 l1 l2 e1 e2 e => ?_, fun c v h => BX.mono le (R.asm c v h), fun id' h' => ?_⟩
  · simp only [T.get_put] at h'
    split at h'
    · rename_i e; subst e
      cases h'
      exact ⟨_, _, _, E.add_new _ _ _ _, by rw [heap_alloc_new]; exact hO⟩
    · obtain ⟨-, b', base', n', e1, e2, e3⟩ := old id' o' h' hl'
      exact ⟨b', base', n', le.blk _ _ e1, by rw [heap_alloc_old _ _ _ e2]; exact e3.mono le⟩
  · have h1 : s.next ≤ id' := hid'
    rw [Env.add_ne _ _ _ _ (by omega)]
    exact R.fresh id' h1
  · simp only [T.get_put] at h'
    split at h'
    · rename_i e; subst e
      rw [Env.add_new] at hb'; cases hb'; exact hsz
    · rename_i e
      rw [Env.add_ne _ _ _ _ (Ne.symm e)] at hb'
      exact R.new id' o' b' base' n' h' hl' hb'
  · simp only [T.get_put] at h1 h2
    have fresh : ∀ k o x, s.h.get k = some o → o.live = true → E.blk k = some x → x.1 ≠ w.heap.size := fun k o x hk hl hx => by
      obtain ⟨-, b', base', n', e1, e2, -⟩ := old k o hk hl
      rw [hx] at e1; cases e1
      simp only
      omega
    split at h1 <;> split at h2
    · rename_i a c; exact a.symm.trans c
    · rename_i a c; subst a
      rw [Env.add_new] at e1; cases e1
      rw [Env.add_ne _ _ _ _ (Ne.symm c)] at e2
      exact (fresh j o2 x2 h2 l2 e2 e.symm).elim
    · rename_i a c; subst c
      rw [Env.add_new] at e2; cases e2
      rw [Env.add_ne _ _ _ _ (Ne.symm a)] at e1
      exact (fresh i o1 x1 h1 l1 e1 e).elim
    · rename_i a c
      rw [Env.add_ne _ _ _ _ (Ne.symm a)] at e1
      rw [Env.add_ne _ _ _ _ (Ne.symm c)] at e2
      exact R.inj i j o1 o2 x1 x2 h1 h2 l1 l2 e1 e2 e
  · have h1 := List.mem_filter.1 h'
    have hne : id' ≠ id := fun e => by subst e; have := h1.2; simp at this
    refine ⟨(R.rsv id' h1.1).1, ?_⟩
    rw [Env.add_ne _ _ _ _ hne]
    exact (R.rsv id' h1.1).2
theorem Rel.le_new (R : Rel w0 E s w) (b base n : Nat) : E.Le (E.add s.next b base n) := E.le_add (R.fresh _ (Nat.le_refl _)) _ _ _
end

/-! ### cells -/
def readCells (h : T SObj) (id off n : Nat) : Option (List SV) :=
  match h.get id with
  | some (.cells rows nr es ty opn ro) =>
    match rows.get (off / es) with
    | some row =>
      match Nat.ble (off % es + n) es with
      | true => some ((row.drop (off % es)).take n)
      | false => none
    | none => none
  | _ => none
def writeCells (h : T SObj) (id off : Nat) (vs : List SV) : Option (T SObj) :=
  match h.get id with
  | some (.cells rows nr es ty opn false) =>
    match rows.get (off / es) with
    | some row =>
      match Nat.ble (off % es + vs.length) es with
      | true => some (h.put id (.cells (rows.put (off / es) (row.take (off % es) ++ (vs ++ row.drop (off % es + vs.length)))) nr es ty opn false))
      | false => none
    | none => none
  | _ => none
theorem split_off (off es j : Nat) : off / es * es + (off % es + j) = off + j := by
  have := Nat.div_add_mod off es
  rw [Nat.mul_comm] at this
  omega
/-- What is read is there. -/
theorem read_ok {E : Env} {h : T SObj} {w : World} (M : Mem E h w) {id off n : Nat} {vs : List SV} (hr : readCells h id off n = some vs) :
    ∃ b base m L, E.blk id = some (b, base, m) ∧ SV.denL E vs = some L ∧ vs.length = n ∧ off + n ≤ m ∧ ∃ cs ty fr, w.heap[b]? = some (.cells cs ty fr) ∧ ∀ (j : Nat) (V : Value), L[j]? = some V → cs[base + off + j]? = some V := by
  unfold readCells at hr
  split at hr
  · rename_i rows nr es ty opn ro hid
    split at hr
    · rename_i row hrow
      split at hr
      · rename_i hle
        cases hr
        have hle' : off % es + n ≤ es := Nat.le_of_ble_eq_true hle
        obtain ⟨b, base, m, hb, cs, fr, hcs, -, hsz, hnr, hcl, hrows⟩ := M id _ hid rfl
        obtain ⟨h1, h2, L, h3, h4⟩ := hrows _ row hrow
        have hoff : off / es * es + es ≤ nr * es := by
          have := Nat.mul_le_mul_right es (Nat.succ_le_of_lt h1)
          rw [Nat.succ_mul] at this
          exact this
        have hs := split_off off es n
        refine ⟨b, base, m, _, hb, denL_take n (denL_drop (off % es) h3), by simp; omega, by omega, cs, ty, fr, hcs, fun j V hj => ?_⟩
        rw [List.getElem?_take] at hj
        split at hj
        · rw [List.getElem?_drop] at hj
          have := h4 _ V hj
          rw [split_off] at this
          rw [Nat.add_assoc]; exact this
        · cases hj
      · cases hr
    · cases hr
  · cases hr
theorem read_cell {E : Env} {h : T SObj} {w : World} (M : Mem E h w) {id off n : Nat} {vs : List SV} (hr : readCells h id off n = some vs) {b base m : Nat} (hb : E.blk id = some (b, base, m)) :
    ∃ L, SV.denL E vs = some L ∧ L.length = n ∧ ∀ (j : Nat) (V : Value), L[j]? = some V → w.cell? ((⟨b, base + off, none⟩ : Addr).add j) = some V := by
  obtain ⟨b', base', m', L, h1, h2, h3, h4, cs, ty, fr, h5, h6⟩ := read_ok M hr
  rw [hb] at h1; cases h1
  refine ⟨L, h2, by rw [denL_length h2, h3], fun j V hj => ?_⟩
  have hadd : (⟨b, base + off, none⟩ : Addr).add j = ⟨b, base + off + j, none⟩ := by unfold Addr.add; split <;> simp_all
  rw [hadd, cell_of_row w b _ cs ty fr h5]
  exact h6 j V hj
theorem run_loadCells_at {P : Program} {E : Env} {h : T SObj} {w : World} (M : Mem E h w) {id off n : Nat} {vs : List SV} (hr : readCells h id off n = some vs) {b base m : Nat} (hb : E.blk id = some (b, base, m)) :
    ∃ L, SV.denL E vs = some L ∧ L.length = n ∧ (loadCells ⟨b, base + off, none⟩ n).run P w = .ok L.toArray w := by
  obtain ⟨L, h1, h2, h3⟩ := read_cell M hr hb
  exact ⟨L, h1, h2, by rw [← h2]; exact run_loadCells_list (P := P) w _ L h3⟩
def SV.one : SV → Bool
  | .agg _ | .tup _ => false
  | _ => true
theorem SV.one_ok {E : Env} {v : SV} {V : Value} (h : v.den E = some V) (h1 : v.one = true) : V.oneCell' = true := by
  cases v <;> simp only [SV.one, SV.den] at h h1
  all_goals first
    | (cases h1; done)
    | (cases h; rfl)
    | (split at h <;> first | (cases h; done) | (cases h; rfl) | (split at h <;> cases h <;> rfl))
theorem SV.one_all {E : Env} : ∀ {vs : List SV} {L : List Value}, SV.denL E vs = some L → vs.all SV.one = true → ∀ V ∈ L, V.oneCell' = true
  | [], L, h, _, V, hV => by simp [SV.denL] at h; subst h; cases hV
  | x :: xs, L, h, h1, V, hV => by
    obtain ⟨U, Us, rfl, h2, h3⟩ := denL_cons_inv h
    simp only [List.all_cons, Bool.and_eq_true] at h1
    rcases List.mem_cons.1 hV with rfl | hV
    · exact SV.one_ok h2 h1.1
    · exact SV.one_all h3 h1.2 V hV
/-- What is written is there from then on. -/
theorem write_ok {P : Program} {w0 w : World} {E : Env} {s : St} (R : Rel w0 E s w) {id off : Nat} {vs : List SV} {h' : T SObj} (hw : writeCells s.h id off vs = some h') (h1 : vs.all SV.one = true) {L : List Value} (hL : SV.denL E vs = some L)
    {b base m : Nat} (hb : E.blk id = some (b, base, m)) :
    ∃ w', (storeCells ⟨b, base + off, none⟩ L).run P w = .ok () w' ∧ Rel w0 E { s with h := h' } w' := by
  unfold writeCells at hw
  split at hw
  · rename_i rows nr es ty opn hid
    split at hw
    · rename_i row hrow
      split at hw
      · rename_i hle
        cases hw
        have hle' : off % es + vs.length ≤ es := Nat.le_of_ble_eq_true hle
        obtain ⟨b', base', m', hb', cs, fr, hcs, hfr, hsz, hnr, hcl, hrows⟩ := R.mem id _ hid rfl
        rw [hb] at hb'; cases hb'
        obtain rfl := hfr rfl
        obtain ⟨r1, r2, Lr, r3, r4⟩ := hrows _ row hrow
        have hoff : off / es * es + es ≤ nr * es := by
          have := Nat.mul_le_mul_right es (Nat.succ_le_of_lt r1)
          rw [Nat.succ_mul] at this
          exact this
        have hs := split_off off es vs.length
        have hlen := denL_length hL
        have hst := run_storeCells_at (P := P) b (base + off) ty L 0 cs w hcs (by omega) (SV.one_all hL h1)
        simp only [Nat.add_zero] at hst
        refine ⟨_, hst, R.upd hid rfl hb (Upd.setRow hcs _) ⟨_, _, rfl, fun _ => rfl, ?_, hnr, hcl, ?_⟩⟩
        · have : base + off + L.length ≤ cs.size := by omega
          simp
          omega
        · intro r row' hr'
          rw [T.get_put] at hr'
          have hsplice : ∀ k, (cs.toList.take (base + off) ++ L ++ cs.toList.drop (base + off + L.length)).toArray[k]? = if k < base + off then cs[k]? else if k < base + off + L.length then L[k - (base + off)]? else cs[k]? := by
            intro k
            have hbo : base + off + L.length ≤ cs.toList.length := by simp; omega
            simp only [List.getElem?_toArray, List.append_assoc]
            by_cases c1 : k < base + off
            · rw [if_pos c1, List.getElem?_append_left (by simp; omega), List.getElem?_take, if_pos c1]
              simp
            · rw [if_neg c1, List.getElem?_append_right (by simp; omega)]
              have e1 : (cs.toList.take (base + off)).length = base + off := by simp; omega
              rw [e1]
              by_cases c2 : k < base + off + L.length
              · rw [if_pos c2, List.getElem?_append_left (by omega)]
              · rw [if_neg c2, List.getElem?_append_right (by omega), List.getElem?_drop]
                have : base + off + L.length + (k - (base + off) - L.length) = k := by omega
                rw [this]
                simp
          split at hr'
          · rename_i e; subst e
            cases hr'
            refine ⟨r1, by simp; omega, _, denL_append (denL_take _ r3) (denL_append hL (denL_drop _ r3)), fun j V hj => ?_⟩
            have hLr := denL_length r3
            have e1 : (Lr.take (off % es)).length = off % es := by simp; omega
            rw [hsplice]
            have hso := split_off off es 0
            simp only [Nat.add_zero] at hso
            by_cases c1 : j < off % es
            · rw [List.getElem?_append_left (by omega), List.getElem?_take, if_pos c1] at hj
              rw [if_pos (by omega)]
              exact r4 j V hj
            · rw [List.getElem?_append_right (by omega), e1] at hj
              rw [if_neg (by omega)]
              by_cases c2 : j < off % es + L.length
              · rw [List.getElem?_append_left (by omega)] at hj
                rw [if_pos (by omega)]
                have : base + (off / es * es + j) - (base + off) = j - off % es := by omega
                rw [this]; exact hj
              · rw [List.getElem?_append_right (by omega), List.getElem?_drop] at hj
                rw [if_neg (by omega)]
                have : off % es + vs.length + (j - off % es - L.length) = j := by omega
                rw [this] at hj
                exact r4 j V hj
          · rename_i e
            obtain ⟨q1, q2, Lq, q3, q4⟩ := hrows r row' hr'
            refine ⟨q1, q2, Lq, q3, fun j V hj => ?_⟩
            have hjl : j < es := by
              have := (List.getElem?_eq_some_iff.1 hj).1
              rw [denL_length q3] at this
              omega
            rw [hsplice]
            have hso := split_off off es 0
            simp only [Nat.add_zero] at hso
            have hne : base + (r * es + j) < base + off ∨ base + off + L.length ≤ base + (r * es + j) := by
              rcases Nat.lt_or_gt_of_ne e with c | c
              · right
                have := Nat.mul_le_mul_right es (Nat.succ_le_of_lt c)
                rw [Nat.succ_mul] at this
                omega
              · left
                have := Nat.mul_le_mul_right es (Nat.succ_le_of_lt c)
                rw [Nat.succ_mul] at this
                omega
            rcases hne with c | c
            · rw [if_pos c]; exact q4 j V hj
            · rw [if_neg (by omega), if_neg (by omega)]; exact q4 j V hj
      · cases hw
    · cases hw
  · cases hw
end Go.Sx
