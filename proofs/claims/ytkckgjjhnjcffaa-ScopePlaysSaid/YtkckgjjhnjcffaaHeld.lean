/-
  Laws for a region that draws its order and in which calls or stores come one by one: loads and pure operations are taken first.
-/
import Derived.Test.YtkckgjjhnjcffaaMem
import Derived.OrdersHeld
namespace Go
set_option linter.unusedVariables false
section
variable {P : Program} {ops : Array Oper} {rest : List Oper} {o : Oper} {a : Act} {w w0 : World} {Q : Exit → Act → World → Prop} {S : Nat → Prop} {L : List (Nat × Obj)}

theorem at_build (ty : TypeId) (parts : Array (Nat × Operand)) (_ : o.op = .build ty parts) (h : wpList P ops Q (o :: rest) a w) : wpList P ops Q (o :: rest) a w := h
theorem run_build_op {ty : TypeId} {parts : Array (Nat × Operand)} {vs : Array (Nat × Value)} {v : Value} (ho : o.op = .build ty parts) (hb : ∀ w, (Instr.build ty vs).run P w = .ok v w) (hp : (parts.map fun p => (p.1, a.eval p.2)) = vs) (w : World) : (execOp a.eval o).run P w = .ok (.value v) w := by
  subst hp
  unfold execOp
  simp only [ho, Sem.run_bind, hb, Result.andThen_ok]
  rfl

/-! ### a region that draws its order, whose calls and stores come one by one: loads and pure operations are taken first -/
theorem held_start {id : Nat} {l : List Oper} {C : World → Prop} (n : Nat) (hn : l.toArray.size = n) (M : Own S w0 w L) (hm : P.follows .mixedOrders = true)
    (h : ∀ w', Own S w0 w' L → wpAnyH P .any l.toArray Q C n (Array.replicate n false) a w') : (Code.region id l.toArray true).wp P Q a w := by
  subst hn
  exact wp_region_held hm (h _ (M.call ((RowKit.Below.refl _ _).drew)))
section
variable {C : World → Prop} {fuel : Nat} {listed : Array Bool}
theorem held_val {i : Nat} (hi : ops[i]? = some o) (hs : Region.noSelect ops = true) (hf : Region.free .any ops listed i = true) (hr : (Region.ready .any ops listed).contains i = true) (hgd : o.guard = none) {v : Value}
    (hQ : ∀ c a w, Q (.panic c) (a.put o.dst v) w → Q (.panic c) a w) (hv : ∀ w, C w → (execOp a.eval o).run P w = .ok (.value v) w) (hC : C w)
    (h : wpAnyH P .any ops Q C fuel (listed.setIfInBounds i true) (a.put o.dst v) w) : wpAnyH P .any ops Q C (fuel + 1) listed a w :=
  wpAnyH_take hi hs hf hr hQ (.inl ⟨by simp [Region.wanted, hgd], hv⟩) hC h
theorem held_pure {i sl : Nat} (hi : ops[i]? = some o) (hs : Region.noSelect ops = true) (hf : Region.free .any ops listed i = true) (hr : (Region.ready .any ops listed).contains i = true) (hgd : o.guard = none) (hdst : o.dst = some sl)
    (hQ : ∀ v c a w, Q (.panic c) (a.put (some sl) v) w → Q (.panic c) a w) (hC : C w)
    (h : ∃ v, (∀ w, C w → (execOp a.eval o).run P w = .ok (.value v) w) ∧ wpAnyH P .any ops Q C fuel (listed.setIfInBounds i true) (a.put (some sl) v) w) : wpAnyH P .any ops Q C (fuel + 1) listed a w :=
  let ⟨v, h1, h2⟩ := h
  held_val hi hs hf hr hgd (by rw [hdst]; exact hQ v) h1 hC (by rw [hdst]; exact h2)
theorem held_loadN {Lc : List (Nat × Obj)} {n sl : Nat} (ix : Nat) (hi : ops[ix]? = some o) (hs : Region.noSelect ops = true) (hf : Region.free .any ops listed ix = true) (hr : (Region.ready .any ops listed).contains ix = true) (hgd : o.guard = none) (hdst : o.dst = some sl)
    (hQ : ∀ v c a w, Q (.panic c) (a.put (some sl) v) w → Q (.panic c) a w) (hC : Own S w0 w Lc) (ty : TypeId) (x : Operand) (ho : o.op = .load ty x) (g off : Nat) (hx : a.eval x = .pointer (some ⟨g, off, none⟩))
    (i : Nat) {cs : List Value} {t : TypeId} {fr : Nat × Nat} (hL : Lc[i]? = some (g, .cells cs.toArray t fr)) {d : TypeDesc} (hu : P.underlying ty = some d) (hd : (match d with | .struct _ | .array _ _ => true | _ => false) = true)
    (hn : (P.info? ty).map (·.size) = some n) (hle : off + n ≤ cs.length)
    (h : wpAnyH P .any ops Q (fun w' => Own S w0 w' Lc) fuel (listed.setIfInBounds ix true) (a.put (some sl) (.agg ((cs.drop off).take n).toArray)) w) : wpAnyH P .any ops Q (fun w' => Own S w0 w' Lc) (fuel + 1) listed a w :=
  held_val hi hs hf hr hgd (by rw [hdst]; exact hQ _) (fun w hw => run_own_load hw ho hx hL hu hd hn hle) hC (by rw [hdst]; exact h)
theorem held_one {i : Nat} (hr : Region.ready .any ops listed = [i]) (hi : ops[i]? = some o) (hgd : o.guard = none)
    (h : o.wp P a w (fun a' w' => C w' ∧ wpAnyH P .any ops Q C fuel (listed.setIfInBounds i true) a' w') Q) : wpAnyH P .any ops Q C (fuel + 1) listed a w := by
  refine wpAnyH_all hr (by simp) fun j hj => ?_
  obtain rfl : j = i := by simpa using hj
  unfold wpOp
  simp only [hi]
  rw [if_pos (by simp [Region.wanted, hgd])]
  exact .inl h
theorem held_callee {i sl : Nat} (M : Own S w0 w L) (hr : Region.ready .any ops listed = [i]) (hi : ops[i]? = some o) (hgd : o.guard = none) (hdst : o.dst = some sl) (f : FuncId) {fn : Func} (hf : P.funcs[f]? = some fn) (hname : (fn.name == "runtime.NumGoroutine") = false) (hb : fn.body.isSome = true)
    {xs : Array Operand} {ts : Array TypeId} (ho : o.op = .call { callee := .value (.func f), args := xs, argTypes := ts }) {args : Array Value} {v : Value} (hc : ∀ w, Calls P f args w fun e w' => e = .returned v ∧ RowKit.Below w.heap.size w w') (hargs : xs.map a.eval = args)
    (hC : ∀ w', Own S w0 w' L → C w') (h : ∀ w', Own S w0 w' L → wpAnyH P .any ops Q C fuel (listed.setIfInBounds i true) (a.put (some sl) v) w') : wpAnyH P .any ops Q C (fuel + 1) listed a w := by
  refine held_one hr hi hgd ?_
  unfold Oper.wp
  rw [run_enter hf hname hb ho hargs w, Oper.upon_enter]
  refine (hc w).mono fun e w' ⟨he, hb⟩ => ?_
  subst he
  exact ⟨hC _ (M.call hb), by rw [hdst]; exact h w' (M.call hb)⟩
theorem held_storeT {i : Nat} (M : Own S w0 w L) (hr : Region.ready .any ops listed = [i]) (hi : ops[i]? = some o) (hgd : o.guard = none) (hdst : o.dst = none) (ty : TypeId) (x : Operand) (j : Nat) (ho : o.op = .store ty x (.tmp j)) (g off : Nat) (hx : a.eval x = .pointer (some ⟨g, off, none⟩))
    {v : Value} (hj : a.tmps[j]? = some v) {vs : List Value} (hy : v.cells = vs.toArray) (ix : Nat) {cs : List Value} {t : TypeId} (hix : L[ix]? = some (g, .cells cs.toArray t (0, 0))) (hn : (P.info? ty).map (·.size) = some vs.length)
    (h1 : vs.all (·.oneCell') = true) (hle : off + vs.length ≤ cs.length)
    (hC : ∀ w', Own S w0 w' (L.set ix (g, .cells (cs.take off ++ vs ++ cs.drop (off + vs.length)).toArray t (0, 0))) → C w')
    (h : ∀ w', Own S w0 w' (L.set ix (g, .cells (cs.take off ++ vs ++ cs.drop (off + vs.length)).toArray t (0, 0))) → wpAnyH P .any ops Q C fuel (listed.setIfInBounds i true) a w') : wpAnyH P .any ops Q C (fuel + 1) listed a w := by
  refine held_one hr hi hgd ?_
  unfold Oper.wp execOp
  have e0 := run_storeCells_at (P := P) g off t vs 0 cs.toArray w (M.has ix g _ hix) (by simpa using hle) (fun v hv => List.all_eq_true.1 h1 v hv)
  have hy' : a.eval (.tmp j) = v := eval_tmp a hj
  have e : (storeVar ty ⟨g, off, none⟩ v).run P w = .ok () (w.setRow g (cs.take off ++ vs ++ cs.drop (off + vs.length)).toArray) := by
    cases hq : P.info? ty with
    | none => simp [hq] at hn
    | some inf =>
      have hs : inf.size = vs.length := by simpa [hq] using hn
      simp only [Nat.add_zero] at e0
      simp [storeVar, sizeOf, typeInfo, hq, hy, hs, e0]
  simp only [ho, hx, hy', Instr.storeAt, Instr.sureAddr, Sem.run_bind, Sem.run_pure, Result.andThen_ok, e]
  exact ⟨hC _ (M.set ix hix _), by rw [hdst]; exact h _ (M.set ix hix _)⟩
end
end
end Go
