/- Sets of keys in a map: how a key is found, looked up and put in. -/
import Derived.Test.YtkdagdiampfjgaaDe
import Derived.Test.YtkdagdiampfjgaaUzC
import Derived.Test.YtkdagdiampfjgaaPRulesClosedx0
namespace Go.Proofs.Ytkdagdiampfjgaa
open Go.RowKit PRulesClosed Go.Proofs.YtkdagdiampfjgaaW.PrintWords
set_option linter.unusedVariables false
set_option linter.unusedSimpArgs false
/-! ### keys -/
abbrev kv (k : S38) : Value := .agg #[.string k.f0, .int .i64 k.f1]
def keq (a b : S38) : Bool := (a.f0.toList == b.f0.toList) && (a.f1 == b.f1)
theorem keq_iff {a b : S38} : keq a b = true ↔ a = b := by
  cases a with | mk s n => cases b with | mk s' n' =>
  simp only [keq, Bool.and_eq_true, beq_iff_eq, S38.mk.injEq]
  exact ⟨fun h => ⟨bytes_ext h.1, h.2⟩, fun h => ⟨by rw [h.1], h.2⟩⟩
instance : DecidableEq S38 := fun a b => if h : keq a b = true then isTrue (keq_iff.1 h) else isFalse (fun e => h (keq_iff.2 e))
theorem eqA_k (d : Nat) (w : World) (a b : S38) : (Op.equalIn (d + 2) 38 (kv a) (kv b)).run Try.prog w = .ok (keq a b) w := by
  refine eqA_of Try.underlying38 (by kernel_rfl) ?_
  refine eqf_cons (by rfl) (by go_simp; rfl) (by go_simp; rfl) (by go_simp) ?_
  exact eqf_last (by rfl) (by go_simp; rfl) (by go_simp; rfl) (by go_simp)
theorem check_k (b : Bool) (k : S38) (w : World) : (Instr.checkKey b 10000 38 (kv k)).run Try.prog w = .ok () w :=
  Go.Sx.keyOk_ok 5 10000 (by omega) b 38 (.agg [.str (.var 0), .int .i64 (.var 0)]) (kv k) w (by kernel_rfl) (E := { strs := [k.f0], ints := [k.f1] }) (by simp [Go.Sx.SV.den, Go.Sx.SV.denL, Go.Sx.SX.den, Go.Sx.IX.den])
/-! ### a set of keys -/
def Set (es : Array MapEntry) (ks : List S38) : Prop := es.toList.map (fun e => (e.key, e.val)) = ks.map fun k => (kv k, Value.bool true)
theorem find_k (k : S38) (w : World) : ∀ (es : List MapEntry) (ks : List S38) (i : Nat), es.map (fun e => (e.key, e.val)) = ks.map (fun k => (kv k, Value.bool true)) →
    ∃ R, (Instr.findAsking 38 (kv k) es i).run Try.prog w = .ok R w ∧ (R = none ∧ k ∉ ks ∨ ∃ j e, R = some (i + j, .bool true) ∧ k ∈ ks ∧ es[j]? = some e ∧ e.key = kv k)
  | [], [], i, _ => ⟨none, by simp [Instr.findAsking], .inl ⟨rfl, by simp⟩⟩
  | [], _ :: _, _, h => by cases h
  | _ :: _, [], _, h => by cases h
  | e :: es, q :: ks, i, h => by
    simp only [List.map_cons, List.cons.injEq, Prod.mk.injEq] at h
    obtain ⟨⟨h1, h2⟩, h3⟩ := h
    have hq : (Op.equal 38 (kv k) e.key).run Try.prog w = .ok (keq k q) w := by rw [h1]; exact eqA_k 9998 w k q
    cases c : keq k q with
    | true =>
      have := keq_iff.1 c
      subst this
      exact ⟨some (i, .bool true), by simp [Instr.findAsking, hq, c, h2], .inr ⟨0, e, rfl, by simp, rfl, h1⟩⟩
    | false =>
      have hne : k ≠ q := fun e => by rw [keq_iff.2 e] at c; cases c
      obtain ⟨R, r1, r2⟩ := find_k k w es ks (i + 1) h3
      refine ⟨R, by simp [Instr.findAsking, hq, c, r1], ?_⟩
      rcases r2 with ⟨rfl, r2⟩ | ⟨j, e', rfl, r3, r4, r5⟩
      · exact .inl ⟨rfl, by simp [hne, r2]⟩
      · exact .inr ⟨j + 1, e', by congr 2; omega, by simp [r3], r4, r5⟩
theorem findKey_k (k : S38) (w : World) {es : Array MapEntry} {ks : List S38} (h : Set es ks) :
    ∃ R, (Instr.findKey 38 (kv k) es.toList).run Try.prog w = .ok R w ∧ (R = none ∧ k ∉ ks ∨ ∃ j e, R = some (j, .bool true) ∧ k ∈ ks ∧ es[j]? = some e ∧ e.key = kv k) := by
  obtain ⟨R, r1, r2⟩ := find_k k w es.toList ks 0 h
  refine ⟨R, ?_, ?_⟩
  · generalize es.toList = l at r1
    cases l with
    | nil =>
      simp [Instr.findAsking] at r1
      subst r1
      simp [Instr.findKey, run_underlying Try.underlying38, Instr.findNow]
    | cons e l =>
      have hnow : ∀ fs, Instr.findNow (.struct fs) (kv k) (e :: l) 0 = none := fun fs => by simp [Instr.findNow, Instr.sameNow]
      simp [Instr.findKey, run_underlying Try.underlying38, hnow, r1]
  · rcases r2 with r2 | ⟨j, e, rfl, r3, r4, r5⟩
    · exact .inl r2
    · exact .inr ⟨j, e, by simp, r3, by simpa using r4, r5⟩
/-! ### the operations -/
theorem own_setMap {S : Nat → Prop} {w0 w : World} {L : List (Nat × Obj)} (h : Own S w0 w L) (i : Nat) {g : Nat} {o : Obj} (hi : L[i]? = some (g, o)) (O : Obj) :
    Own S w0 { w with heap := w.heap.setIfInBounds g O } (L.set i (g, O)) := by
  have hg := h.has i g _ hi
  have hil : i < L.length := (List.getElem?_eq_some_iff.1 hi).1
  have U := Go.Sx.Upd.setObj (w := w) hg.lt O
  refine ⟨h.os, h.tape, h.output, (by simpa using h.size), (fun k hk hS => ?_), (fun j g' o' hj => ?_), (fun j g' o' hj hlt => ?_), (fun j k g' o1 o2 hj hk => ?_)⟩
  · rw [U.other k (fun e => by subst e; exact hS (h.free i _ _ hi hk))]
    exact h.frame k hk hS
  · by_cases e : i = j
    · subst e
      rw [List.getElem?_set_self hil] at hj
      cases hj
      exact U.here
    · rw [List.getElem?_set_ne e] at hj
      have hne : g' ≠ g := fun e' => by subst e'; exact e (h.apart i j _ _ _ hi hj)
      exact (U.other g' hne).trans (h.has j g' o' hj)
  · by_cases e : i = j
    · subst e
      rw [List.getElem?_set_self hil] at hj
      cases hj
      exact h.free i g _ hi hlt
    · rw [List.getElem?_set_ne e] at hj
      exact h.free j g' o' hj hlt
  · by_cases e : i = j
    · subst e
      rw [List.getElem?_set_self hil] at hj
      cases hj
      by_cases e' : i = k
      · exact e'
      · rw [List.getElem?_set_ne e'] at hk
        exact (e' (h.apart i k _ _ _ hi hk)).elim
    · rw [List.getElem?_set_ne e] at hj
      by_cases e' : i = k
      · subst e'
        rw [List.getElem?_set_self hil] at hk
        cases hk
        exact (e (h.apart i j _ _ _ hi hj)).elim
      · rw [List.getElem?_set_ne e'] at hk
        exact h.apart j k _ _ _ hj hk
section
variable {ops : Array Oper} {rest : List Oper} {o : Oper} {a : Act} {w w0 : World} {Q : Exit → Act → World → Prop} {S : Nat → Prop} {L : List (Nat × Obj)}
theorem at_makeMap (ty : TypeId) (_ : o.op = .makeMap ty none) (h : wpList Try.prog ops Q (o :: rest) a w) : wpList Try.prog ops Q (o :: rest) a w := h
theorem at_lookup (ty : TypeId) (x y : Operand) (_ : o.op = .lookup ty x y false) (h : wpList Try.prog ops Q (o :: rest) a w) : wpList Try.prog ops Q (o :: rest) a w := h
theorem at_update (ty : TypeId) (x y z : Operand) (_ : o.op = .mapUpdate ty x y z) (h : wpList Try.prog ops Q (o :: rest) a w) : wpList Try.prog ops Q (o :: rest) a w := h
theorem own_makeMap (M : Own S w0 w L) (ho : o.op = .makeMap 53 none) (hgd : o.guard = none)
    (h : ∀ g w', Own S w0 w' ((g, .map #[] 0) :: L) → wpList Try.prog ops Q rest (a.put o.dst (.map (some g))) w') : wpList Try.prog ops Q (o :: rest) a w :=
  wpList_step fun K hK => by
    rw [if_pos (by simp [Region.wanted, hgd])]
    unfold Oper.wp execOp
    simp only [ho, Instr.makeMap, Option.map_none, Sem.run_bind, Sem.run_pure, Result.andThen_ok, run_newObj]
    exact hK _ _ (h _ _ (M.alloc _))
theorem zeroB (w : World) : (zeroValue 4).run Try.prog w = .ok (.bool false) w := by kernel_rfl
theorem own_lookup (M : Own S w0 w L) (x y : Operand) (ho : o.op = .lookup 53 x y false) (hgd : o.guard = none) (g : Nat) (hx : a.eval x = .map (some g)) (k : S38) (hy : a.eval y = kv k)
    (i : Nat) {es : Array MapEntry} {cl : Nat} (hi : L[i]? = some (g, .map es cl)) {ks : List S38} (hs : Set es ks) (h : wpList Try.prog ops Q rest (a.put o.dst (.bool (decide (k ∈ ks)))) w) : wpList Try.prog ops Q (o :: rest) a w :=
  wpList_step fun K hK => by
    rw [if_pos (by simp [Region.wanted, hgd])]
    unfold Oper.wp execOp
    have h1 : w.heap[g]? = some (.map es cl) := M.has i g _ hi
    have hg : (getObj g).run Try.prog w = .ok (.map es cl) w := by simp [getObj, Sem.run, h1]
    obtain ⟨R, r3, r4⟩ := findKey_k k w hs
    have e : (Instr.lookup 53 (.map (some g)) (kv k) false).run Try.prog w = .ok (.bool (decide (k ∈ ks))) w := by
      simp only [Instr.lookup, Sem.run_bind, run_underlying Try.underlying53, Result.andThen_ok, Sem.run_pure, hg, check_k, r3]
      rcases r4 with ⟨rfl, r4⟩ | ⟨j, e, rfl, r4, -⟩
      · simp [zeroB, r4]
      · simp [r4]
    simp only [ho, hx, hy, Sem.run_bind, e, Result.andThen_ok]
    exact hK _ _ h
theorem own_update (M : Own S w0 w L) (x y : Operand) (ho : o.op = .mapUpdate 53 x y (.const (.bool true))) (hgd : o.guard = none) (g : Nat) (hx : a.eval x = .map (some g)) (k : S38) (hy : a.eval y = kv k)
    (i : Nat) {es : Array MapEntry} {cl : Nat} (hi : L[i]? = some (g, .map es cl)) {ks : List S38} (hs : Set es ks)
    (h : ∀ w' es' cl', Set es' (if k ∈ ks then ks else ks ++ [k]) → Own S w0 w' (L.set i (g, .map es' cl')) → wpList Try.prog ops Q rest (a.put o.dst undef) w') : wpList Try.prog ops Q (o :: rest) a w :=
  wpList_step fun K hK => by
    rw [if_pos (by simp [Region.wanted, hgd])]
    unfold Oper.wp execOp
    have h1 : w.heap[g]? = some (.map es cl) := M.has i g _ hi
    have hg : (getObj g).run Try.prog w = .ok (.map es cl) w := by simp [getObj, Sem.run, h1]
    have hset : ∀ O, (setObj g O).run Try.prog w = .ok () { w with heap := w.heap.setIfInBounds g O } := fun O => by simp [setObj, Sem.run, h1]
    obtain ⟨R, r3, r4⟩ := findKey_k k w hs
    rcases r4 with ⟨rfl, r4⟩ | ⟨j, e, rfl, r4, r5, r6⟩
    · have e : (Instr.mapUpdate 53 (.map (some g)) (kv k) (.bool true)).run Try.prog w = .ok () { w with heap := w.heap.setIfInBounds g (.map (es.push { key := kv k, val := .bool true, born := cl }) (cl + 1)) } := by
        simp only [Instr.mapUpdate, Sem.run_bind, run_underlying Try.underlying53, Result.andThen_ok, hg, check_k, r3, hset]
      simp only [ho, hx, hy, eval_const, Sem.run_bind, e, Result.andThen_ok, Sem.run_pure]
      refine hK _ _ (h _ _ _ ?_ (own_setMap M i hi _))
      rw [if_neg r4]
      unfold Set at hs ⊢
      simp [hs]
    · have hsame := Go.Sx.sameBits_self (E := { strs := [k.f0], ints := [k.f1] }) 6 10000 (by omega) (.agg [.str (.var 0), .int .i64 (.var 0)]) (kv k) (by kernel_rfl) (by simp [Go.Sx.SV.den, Go.Sx.SV.denL, Go.Sx.SX.den, Go.Sx.IX.den])
      have he : (Instr.mapUpdate 53 (.map (some g)) (kv k) (.bool true)).run Try.prog w = .ok () { w with heap := w.heap.setIfInBounds g (.map (es.modify j fun e' => { e' with key := e.key, val := .bool true }) cl) } := by
        simp only [Instr.mapUpdate, Sem.run_bind, run_underlying Try.underlying53, Result.andThen_ok, hg, check_k, r3, r5, Option.map_some, Option.getD_some, Instr.keyThatStays, r6, hsame, if_true, Sem.run_pure, hset]
      simp only [ho, hx, hy, eval_const, Sem.run_bind, he, Result.andThen_ok, Sem.run_pure]
      refine hK _ _ (h _ _ _ ?_ (own_setMap M i hi _))
      rw [if_pos r4]
      unfold Set at hs ⊢
      rw [← hs, Array.toList_modify]
      have hj : es.toList[j]? = some e := by simpa using r5
      have hv : e.val = .bool true := by
        have := congrArg (·[j]?) hs
        simp only [List.getElem?_map, hj, Option.map_some] at this
        cases hk : ks[j]? with
        | none => rw [hk] at this; cases this
        | some q => rw [hk] at this; simp at this; exact this.2
      apply List.ext_getElem?
      intro m
      simp only [List.getElem?_map, List.getElem?_modify]
      by_cases hm : j = m
      · subst hm
        simp [hj, hv]
      · simp [hm]
end
end Go.Proofs.Ytkdagdiampfjgaa
