/- Words on memory: blocks a call owns, in any order; what a callee owns; maps by text; rows that grow. -/
import Derived.Test.YtkckgjjhnjcffaaDe
import Derived.Test.YtkckgjjhnjcffaaHeld
import Derived.Laws.AppendOwn
import Derived.Laws.MakeOwn
namespace Go
set_option linter.unusedVariables false
theorem Own.mem {S : Nat → Prop} {w0 w : World} {L : List (Nat × Obj)} (h : Own S w0 w L) {p : Nat × Obj} (hp : p ∈ L) : Has w p.1 p.2 := by
  obtain ⟨i, hi⟩ := List.mem_iff_getElem?.1 hp
  exact h.has i p.1 p.2 hi
theorem Own.memFree {S : Nat → Prop} {w0 w : World} {L : List (Nat × Obj)} (h : Own S w0 w L) {p : Nat × Obj} (hp : p ∈ L) : p.1 < w0.heap.size → S p.1 := by
  obtain ⟨i, hi⟩ := List.mem_iff_getElem?.1 hp
  exact h.free i p.1 p.2 hi
theorem Own.nodup {S : Nat → Prop} {w0 w : World} {L : List (Nat × Obj)} (h : Own S w0 w L) : (L.map Prod.fst).Nodup := by
  rw [List.Nodup, List.pairwise_iff_getElem]
  intro i j hi hj hij he
  simp only [List.length_map] at hi hj
  simp only [List.getElem_map] at he
  have h1 : L[i]? = some (L[i].1, L[i].2) := by rw [List.getElem?_eq_getElem hi]
  have h2 : L[j]? = some (L[i].1, L[j].2) := by rw [List.getElem?_eq_getElem hj, he]
  have := h.apart i j _ _ _ h1 h2
  omega
theorem Own.mk' {S : Nat → Prop} {w0 w : World} {L : List (Nat × Obj)} (os : w.os = w0.os) (tape : w.tape = w0.tape) (output : w.output = w0.output) (size : w0.heap.size ≤ w.heap.size)
    (frame : ∀ k, k < w0.heap.size → ¬ S k → w.heap[k]? = w0.heap[k]?) (has : ∀ p ∈ L, Has w p.1 p.2) (free : ∀ p ∈ L, p.1 < w0.heap.size → S p.1) (nd : (L.map Prod.fst).Nodup) : Own S w0 w L where
  os := os
  tape := tape
  output := output
  size := size
  frame := frame
  has := fun i g o hi => has (g, o) (List.mem_of_getElem? hi)
  free := fun i g o hi => free (g, o) (List.mem_of_getElem? hi)
  apart := fun i j g o o' hi hj => by
    have hil := (List.getElem?_eq_some_iff.1 hi).1
    have hjl := (List.getElem?_eq_some_iff.1 hj).1
    have h1 : (L.map Prod.fst)[i]? = some g := by rw [List.getElem?_map, hi]; rfl
    have h2 : (L.map Prod.fst)[j]? = some g := by rw [List.getElem?_map, hj]; rfl
    obtain ⟨hi1, e1⟩ := List.getElem?_eq_some_iff.1 h1
    obtain ⟨hj1, e2⟩ := List.getElem?_eq_some_iff.1 h2
    rw [List.Nodup, List.pairwise_iff_getElem] at nd
    rcases Nat.lt_trichotomy i j with hij | hij | hij
    · exact absurd (e1.trans e2.symm) (nd i j hi1 hj1 hij)
    · exact hij
    · exact absurd (e2.trans e1.symm) (nd j i hj1 hi1 hij)
theorem Own.perm {S : Nat → Prop} {w0 w : World} {L L' : List (Nat × Obj)} (h : Own S w0 w L) (p : L.Perm L') : Own S w0 w L' :=
  Own.mk' h.os h.tape h.output h.size h.frame (fun q hq => h.mem (p.mem_iff.2 hq)) (fun q hq => h.memFree (p.mem_iff.2 hq)) ((p.map Prod.fst).nodup_iff.1 h.nodup)
theorem Own.less {S : Nat → Prop} {w0 w : World} {L L' : List (Nat × Obj)} (h : Own S w0 w L) (p : L'.Sublist L) : Own S w0 w L' :=
  Own.mk' h.os h.tape h.output h.size h.frame (fun q hq => h.mem (p.subset hq)) (fun q hq => h.memFree (p.subset hq)) ((p.map Prod.fst).nodup h.nodup)
/-- The blocks of a part of what is owned: a callee's start. -/
theorem Own.start {S : Nat → Prop} {w0 w : World} {A R : List (Nat × Obj)} (h : Own S w0 w (A ++ R)) : Own (fun k => k ∈ A.map Prod.fst) w w A :=
  Own.mk' rfl rfl rfl (Nat.le_refl _) (fun _ _ _ => rfl) (fun q hq => h.mem (List.mem_append_left _ hq)) (fun q hq _ => List.mem_map_of_mem hq) ((List.sublist_append_left A R).map Prod.fst |>.nodup h.nodup)
/-- What a callee did to its part. -/
theorem Own.into {S : Nat → Prop} {w0 w w' : World} {A R A' : List (Nat × Obj)} (h : Own S w0 w (A ++ R)) (n : Own (fun k => k ∈ A.map Prod.fst) w w' A') : Own S w0 w' (A' ++ R) := by
  have hnd := h.nodup
  rw [List.map_append, List.nodup_append] at hnd
  have hR : ∀ q ∈ R, q.1 ∉ A.map Prod.fst := fun q hq hm => hnd.2.2 _ hm _ (List.mem_map_of_mem hq) rfl
  have hRlt : ∀ q ∈ R, q.1 < w.heap.size := fun q hq => (h.mem (List.mem_append_right _ hq)).lt
  refine Own.mk' (n.os.trans h.os) (n.tape.trans h.tape) (n.output.trans h.output) (Nat.le_trans h.size n.size) (fun k hk hS => ?_) (fun q hq => ?_) (fun q hq hlt => ?_) ?_
  · rw [n.frame k (Nat.lt_of_lt_of_le hk h.size) (fun hm => ?_), h.frame k hk hS]
    obtain ⟨p, hp, rfl⟩ := List.mem_map.1 hm
    exact hS (h.memFree (List.mem_append_left _ hp) hk)
  · rcases List.mem_append.1 hq with hq | hq
    · exact n.mem hq
    · exact (n.frame q.1 (hRlt q hq) (hR q hq)).trans (h.mem (List.mem_append_right _ hq))
  · rcases List.mem_append.1 hq with hq | hq
    · have hm := n.memFree hq (Nat.lt_of_lt_of_le hlt h.size)
      obtain ⟨p, hp, e⟩ := List.mem_map.1 hm
      rw [← e]
      exact h.memFree (List.mem_append_left _ hp) (by rw [e]; exact hlt)
    · exact h.memFree (List.mem_append_right _ hq) hlt
  · rw [List.map_append, List.nodup_append]
    refine ⟨n.nodup, hnd.2.1, fun a ha b hb e => ?_⟩
    subst e
    obtain ⟨p, hp, rfl⟩ := List.mem_map.1 ha
    obtain ⟨q, hq, e⟩ := List.mem_map.1 hb
    exact hR q hq (by rw [e]; exact n.memFree hp (by rw [← e]; exact hRlt q hq))
theorem Own.below' {w w' : World} {S : Nat → Prop} {L : List (Nat × Obj)} (h : Own S w w' L) (hS : ∀ k, ¬ S k) : RowKit.Below w.heap.size w w' := ⟨h.os, h.tape, h.output, h.size, fun k hk => h.frame k hk (hS k)⟩
/-- One known block is brought to the front. -/
theorem perm_front {α : Type} {L : List α} {i : Nat} {b : α} (h : L[i]? = some b) : L.Perm (b :: L.eraseIdx i) := by
  induction L generalizing i with
  | nil => simp at h
  | cons a L ih =>
    cases i with
    | zero =>
      simp only [List.getElem?_cons_zero, Option.some.injEq] at h
      subst h
      exact List.Perm.refl _
    | succ i => exact ((ih (by simpa using h)).cons a).trans (List.Perm.swap _ _ _)
theorem Own.front {S : Nat → Prop} {w0 w : World} {L : List (Nat × Obj)} (h : Own S w0 w L) (i : Nat) {b : Nat × Obj} (hi : L[i]? = some b) : Own S w0 w (b :: L.eraseIdx i) := h.perm (perm_front hi)

theorem perm_flatMap_mid {α β : Type} (f : α → List β) (l1 l2 : List α) (a : α) : ((l1 ++ a :: l2).flatMap f).Perm (f a ++ (l1 ++ l2).flatMap f) := by
  simp only [List.flatMap_append, List.flatMap_cons]
  rw [← List.append_assoc, ← List.append_assoc]
  exact List.perm_append_comm.append_right _
theorem split_at {α : Type} {l : List α} {i : Nat} {a : α} (h : l[i]? = some a) : ∃ l1 l2, l = l1 ++ a :: l2 ∧ l1.length = i := by
  obtain ⟨hi, e⟩ := List.getElem?_eq_some_iff.1 h
  refine ⟨l.take i, l.drop (i + 1), ?_, by simp; omega⟩
  rw [← e, List.getElem_cons_drop hi, List.take_append_drop]

/-- A call's start: blocks of the world that it may write. -/
theorem Own.many {w : World} {L : List (Nat × Obj)} (h : ∀ p ∈ L, Has w p.1 p.2) (nd : (L.map Prod.fst).Nodup) : Own (fun k => k ∈ L.map Prod.fst) w w L :=
  Own.mk' rfl rfl rfl (Nat.le_refl _) (fun _ _ _ => rfl) h (fun q hq _ => List.mem_map_of_mem hq) nd
theorem Own.one {w : World} {g : Nat} {o : Obj} (h : Has w g o) : Own (fun k => k ∈ [(g, o)].map Prod.fst) w w [(g, o)] :=
  Own.many (fun p hp => by rw [List.mem_singleton.1 hp]; exact h) (by simp)
/-- What the call may write stands as it did. -/
theorem Own.read {w w' : World} {L L' : List (Nat × Obj)} (h : ∀ p ∈ L, Has w p.1 p.2) (M : Own (fun k => k ∈ L.map Prod.fst) w w' L') (hs : ∀ p ∈ L, p ∈ L') : RowKit.Below w.heap.size w w' :=
  ⟨M.os, M.tape, M.output, M.size, fun k hk => by
    by_cases hm : k ∈ L.map Prod.fst
    · obtain ⟨p, hp, rfl⟩ := List.mem_map.1 hm
      exact (M.mem (hs p hp)).trans (h p hp).symm
    · exact M.frame k hk hm⟩

/-! ### rows that grow -/
/-- A slice's own block: n elements of size cells each stand in front. -/
structure RowOk (sz n cap : Nat) (cur : List Value) (xs : List Value) : Prop where
  len : xs.length = n * sz
  le : n ≤ cap
  max : cap ≤ maxLen
  size : cur.length = cap * sz
  take : cur.take (n * sz) = xs
theorem RowOk.get {size n cap : Nat} {cur : List Value} {xs : List Value} (h : RowOk size n cap cur xs) {j : Nat} {v : Value} (hj : xs[j]? = some v) : cur[j]? = some v := by
  rw [← h.take, List.getElem?_take] at hj
  split at hj
  · exact hj
  · cases hj
abbrev SRow := Option (Nat × Nat × List Value)
def SRow.val (n : Nat) : SRow → Value
  | none => .slice none 0 0
  | some (g, cap, _) => .slice (some ⟨g, 0, none⟩) n cap
def SRow.blks (e : TypeId) : SRow → List (Nat × Obj)
  | none => []
  | some (g, _, cur) => [(g, .cells cur.toArray e (0, 0))]
def SRow.ok (size n : Nat) (xs : List Value) : SRow → Prop
  | none => n = 0 ∧ xs = []
  | some (_, cap, cur) => RowOk size n cap cur xs
theorem SRow.ok_some {size n : Nat} {xs : List Value} {r : SRow} (h : r.ok size (n + 1) xs) : ∃ g cap cur, r = some (g, cap, cur) ∧ RowOk size (n + 1) cap cur xs := by
  cases r with
  | none => exact absurd h.1 (by omega)
  | some p => exact ⟨p.1, p.2.1, p.2.2, rfl, h⟩
section
variable {P : Program}
theorem own_new {S : Nat → Prop} {w0 w : World} {B L : List (Nat × Obj)} (M : Own S w0 w (B ++ L)) (o : Obj) : Own S w0 (w.drew.alloc o) ((w.heap.size, o) :: L) :=
  ((M.less (List.sublist_append_right B L)).drew).alloc o
/-- An append to a row that is owned, or to none. -/
theorem run_append_row {S : Nat → Prop} {w0 w : World} {L : List (Nat × Obj)} (t ty e : TypeId) (i : TypeInfo) (z : Value) (size bytes : Nat) (ht : P.underlying t = some (.slice e)) (hi : P.info? e = some i) (hz : i.zero = some z)
    (hsize : i.size = size) (hby : i.bytes = bytes) (hzs : z.cells.size = size)
    (r : SRow) (n : Nat) (xs : List Value) (M : Own S w0 w (r.blks e ++ L)) (hr : r.ok size n xs)
    (a : Addr) (m c : Nat) (news : List Value) (hm : 0 < m) (hl : news.length = m * size) (hnews : ∀ j u, news[j]? = some u → w.cell? (a.add j) = some u) (h1 : ∀ u ∈ news, u.oneCell' = true)
    (h63 : n + m ≤ maxLen) (hbytes : (n + m) * bytes ≤ 140737488355328) :
    ∃ (r' : SRow) (w' : World), (Builtin.append_ #[t, t] ty #[r.val n, .slice (some a) m c]).run P w = .ok (r'.val (n + m)) w' ∧ r'.ok size (n + m) (xs ++ news) ∧ Own S w0 w' (r'.blks e ++ L) := by
  subst hsize
  subst hby
  have hsmall : n + m ≤ 9223372036854775807 := by simp only [maxLen] at h63; omega
  cases r with
  | none =>
    obtain ⟨rfl, rfl⟩ := hr
    have e1 := run_append_nil (P := P) w t ty e i z ht hi hz a m c news hl hnews hm (by omega) (by have hb := hbytes; simp only [Nat.zero_add] at hb; omega)
    have hge := grownCap_ge w m 0 e
    have hcm : grownCap w m 0 e ≤ maxLen := grownCap_le_maxLen w m 0 e (by omega)
    refine ⟨some (w.heap.size, grownCap w m 0 e, (news.toArray ++ Builtin.zeroCells z.cells (grownCap w m 0 e - m)).toList), _, by simpa [SRow.val] using e1, ⟨by simpa using hl, by omega, hcm, ?_, ?_⟩, ?_⟩
    · simp only [Array.length_toList, Array.size_append, List.size_toArray, size_zeroCells, hzs, hl, ← Nat.add_mul]
      congr 1
      omega
    · simp only [Array.toList_append, List.nil_append, Nat.zero_add, ← hl]
      exact List.take_left
    · simp only [SRow.blks, Array.toArray_toList]
      exact own_new (B := []) M _
  | some p =>
    obtain ⟨g, cap, cur⟩ := p
    have hg : w.heap[g]? = some (.cells cur.toArray e (0, 0)) := M.has 0 g _ rfl
    have hr : RowOk i.size n cap cur xs := hr
    have hlen : (xs ++ news).length = (n + m) * i.size := by rw [List.length_append, hr.len, hl, Nat.add_mul]
    by_cases hroom : n + m ≤ cap
    · have hfit : n * i.size + news.length ≤ cur.length := by rw [hl, hr.size, ← Nat.add_mul]; exact Nat.mul_le_mul_right _ hroom
      have e1 := run_append_room (P := P) w t ty e i ht hi g n cap cur.toArray hg a m c news hl hnews h1 hroom (by simpa using hfit)
      refine ⟨some (g, cap, cur.take (n * i.size) ++ news ++ cur.drop (n * i.size + news.length)), _, e1, ⟨hlen, hroom, hr.max, ?_, ?_⟩, M.set 0 rfl _⟩
      · have := hr.size
        simp only [List.length_append, List.length_take, List.length_drop]
        omega
      · rw [hr.take, ← hlen]
        exact List.take_left
    · have holds : ∀ j u, xs[j]? = some u → w.cell? ((⟨g, 0, none⟩ : Addr).add j) = some u := fun j u hu => by
        have hadd : (⟨g, 0, none⟩ : Addr).add j = ⟨g, j, none⟩ := by unfold Addr.add; split <;> simp_all
        rw [hadd, cell_of_row w g j cur.toArray e (0, 0) hg]
        simpa using hr.get hu
      have e1 := run_append_grow (P := P) w t ty e i z ht hi hz ⟨g, 0, none⟩ n cap xs hr.len holds a m c news hl hnews (by omega) (by omega) (growslice_fits (by omega) hbytes)
      have hge := grownCap_ge w (n + m) cap e
      have hcm : grownCap w (n + m) cap e ≤ maxLen := grownCap_le_maxLen w (n + m) cap e h63
      refine ⟨some (w.heap.size, grownCap w (n + m) cap e, (xs.toArray ++ news.toArray ++ Builtin.zeroCells z.cells (grownCap w (n + m) cap e - (n + m))).toList), _, e1, ⟨hlen, hge, hcm, ?_, ?_⟩, ?_⟩
      · simp only [Array.length_toList, Array.size_append, List.size_toArray, size_zeroCells, hzs, hr.len, hl, ← Nat.add_mul]
        congr 1
        omega
      · simp only [Array.toList_append, List.append_assoc]
        rw [← List.append_assoc, ← hlen]
        exact List.take_left
      · simp only [SRow.blks, Array.toArray_toList]
        exact own_new (B := [(g, .cells cur.toArray e (0, 0))]) M _
variable {ops : Array Oper} {rest : List Oper} {o : Oper} {a : Act} {w w0 : World} {Q : Exit → Act → World → Prop} {S : Nat → Prop} {L : List (Nat × Obj)}
theorem at_append (s x : Operand) (t : TypeId) (_ : o.op = .call { callee := .builtin .append, args := #[s, x], argTypes := #[t, t] }) (h : wpList P ops Q (o :: rest) a w) : wpList P ops Q (o :: rest) a w := h
theorem op_append {K : Act → World → Prop} (s x : Operand) (t : TypeId) (ho : o.op = .call { callee := .builtin .append, args := #[s, x], argTypes := #[t, t] })
    (e : TypeId) (size bytes : Nat) (ht : P.underlying t = some (.slice e)) (hI : (P.info? e).map (fun i => (i.size, i.bytes, i.zero.map fun z => z.cells.size)) = some (size, bytes, some size))
    (r : SRow) (n : Nat) (xs : List Value) (M : Own S w0 w (r.blks e ++ L)) (hr : r.ok size n xs) (hs : a.eval s = r.val n)
    (gx c : Nat) (news : List Value) (hx : a.eval x = .slice (some ⟨gx, 0, none⟩) 1 c) (hgx : Has w gx (.cells news.toArray e (0, 0))) (hl : news.length = size) (h1 : news.all (·.oneCell') = true)
    (h63 : n + 1 ≤ maxLen) (hbytes : (n + 1) * bytes ≤ 140737488355328)
    (h : ∀ (r' : SRow) w', r'.ok size (n + 1) (xs ++ news) → Own S w0 w' (r'.blks e ++ L) → K (a.put o.dst (r'.val (n + 1))) w') : o.wp P a w K Q := by
  cases hi : P.info? e with
  | none => simp [hi] at hI
  | some i =>
    simp only [hi, Option.map_some, Option.some.injEq, Prod.mk.injEq] at hI
    obtain ⟨hsize, hby, hz⟩ := hI
    cases hz' : i.zero with
    | none => simp [hz'] at hz
    | some z =>
      simp only [hz', Option.map_some, Option.some.injEq] at hz
      obtain ⟨r', w', e1, h2, h3⟩ := run_append_row (P := P) t o.type e i z size bytes ht hi hz' hsize hby hz r n xs M hr ⟨gx, 0, none⟩ 1 c news Nat.one_pos (by omega)
        (fun j u hu => by
          have hadd : (⟨gx, 0, none⟩ : Addr).add j = ⟨gx, j, none⟩ := by unfold Addr.add; split <;> simp_all
          rw [hadd, hgx.cell]
          simpa using hu) (fun u hu => List.all_eq_true.1 h1 u hu) h63 hbytes
      unfold Oper.wp execOp
      simp only [ho, resolve, invoke, builtin, Sem.run_bind, Sem.run_pure, Result.andThen_ok, List.map_toArray, List.map_cons, List.map_nil, hs, hx, e1]
      exact h r' w' h2 h3
theorem own_append (s x : Operand) (t : TypeId) (ho : o.op = .call { callee := .builtin .append, args := #[s, x], argTypes := #[t, t] }) (hgd : o.guard = none)
    (e : TypeId) (size bytes : Nat) (ht : P.underlying t = some (.slice e)) (hI : (P.info? e).map (fun i => (i.size, i.bytes, i.zero.map fun z => z.cells.size)) = some (size, bytes, some size))
    (r : SRow) (n : Nat) (xs : List Value) (M : Own S w0 w (r.blks e ++ L)) (hr : r.ok size n xs) (hs : a.eval s = r.val n)
    (gx c : Nat) (news : List Value) (hx : a.eval x = .slice (some ⟨gx, 0, none⟩) 1 c) (hgx : Has w gx (.cells news.toArray e (0, 0))) (hl : news.length = size) (h1 : news.all (·.oneCell') = true)
    (h63 : n + 1 ≤ maxLen) (hbytes : (n + 1) * bytes ≤ 140737488355328)
    (h : ∀ (r' : SRow) w', r'.ok size (n + 1) (xs ++ news) → Own S w0 w' (r'.blks e ++ L) → wpList P ops Q rest (a.put o.dst (r'.val (n + 1))) w') : wpList P ops Q (o :: rest) a w :=
  wpList_step fun K hK => by
    rw [if_pos (by simp [Region.wanted, hgd])]
    exact op_append s x t ho e size bytes ht hI r n xs M hr hs gx c news hx hgx hl h1 h63 hbytes fun r' w' h2 h3 => hK _ _ (h r' w' h2 h3)
/-! ### a slice built -/
theorem at_buildSlice (t : TypeId) (n : Nat) (ps : Array (Nat × Operand)) (_ : o.op = .buildSlice t n ps) (h : wpList P ops Q (o :: rest) a w) : wpList P ops Q (o :: rest) a w := h
theorem op_buildSlice {K : Act → World → Prop} (M : Own S w0 w L) (t : TypeId) (n : Nat) (ps : Array (Nat × Operand)) (ho : o.op = .buildSlice t n ps) {vs : Array (Nat × Value)} (hp : (ps.map fun p => (p.1, a.eval p.2)) = vs) {cs : Array Value} {e : TypeId}
    (hrun : ∀ w, (Instr.buildSlice t n vs).run P w = .ok (.slice (some ⟨w.heap.size, 0, none⟩) n n) (w.alloc (.cells cs e (0, 0))))
    (h : ∀ g w', Own S w0 w' ((g, .cells cs e (0, 0)) :: L) → K (a.put o.dst (.slice (some ⟨g, 0, none⟩) n n)) w') : o.wp P a w K Q := by
  subst hp
  unfold Oper.wp execOp
  simp only [ho, Sem.run_bind, hrun, Result.andThen_ok]
  exact h _ _ (M.alloc _)
theorem own_buildSlice (M : Own S w0 w L) (t : TypeId) (n : Nat) (ps : Array (Nat × Operand)) (ho : o.op = .buildSlice t n ps) (hgd : o.guard = none) {vs : Array (Nat × Value)} (hp : (ps.map fun p => (p.1, a.eval p.2)) = vs) {cs : Array Value} {e : TypeId}
    (hrun : ∀ w, (Instr.buildSlice t n vs).run P w = .ok (.slice (some ⟨w.heap.size, 0, none⟩) n n) (w.alloc (.cells cs e (0, 0))))
    (h : ∀ g w', Own S w0 w' ((g, .cells cs e (0, 0)) :: L) → wpList P ops Q rest (a.put o.dst (.slice (some ⟨g, 0, none⟩) n n)) w') : wpList P ops Q (o :: rest) a w :=
  wpList_step fun K hK => by
    rw [if_pos (by simp [Region.wanted, hgd])]
    exact op_buildSlice M t n ps ho hp hrun fun g w' h' => hK _ _ (h g w' h')
/-! ### one operation of a region that draws its order -/
theorem op_load1 {K : Act → World → Prop} (M : Own S w0 w L) (ty : TypeId) (x : Operand) (ho : o.op = .load ty x) (g off : Nat) (hx : a.eval x = .pointer (some ⟨g, off, none⟩))
    (i : Nat) {cs : List Value} {t : TypeId} {fr : Nat × Nat} (hi : L[i]? = some (g, .cells cs.toArray t fr)) {d : TypeDesc} (hu : P.underlying ty = some d) (hd : (match d with | .struct _ | .array _ _ => true | _ => false) = false)
    {v : Value} (hv : cs[off]? = some v) (h : K (a.put o.dst v) w) : o.wp P a w K Q := by
  unfold Oper.wp
  rw [run_own_load1 M ho hx hi hu hd hv]
  exact h
theorem op_storeT {K : Act → World → Prop} (M : Own S w0 w L) (ty : TypeId) (x : Operand) (j : Nat) (ho : o.op = .store ty x (.tmp j)) (g off : Nat) (hx : a.eval x = .pointer (some ⟨g, off, none⟩))
    {v : Value} (hj : a.tmps[j]? = some v) {vs : List Value} (hy : v.cells = vs.toArray) (ix : Nat) {cs : List Value} {t : TypeId} (hix : L[ix]? = some (g, .cells cs.toArray t (0, 0))) (hn : (P.info? ty).map (·.size) = some vs.length)
    (h1 : vs.all (·.oneCell') = true) (hle : off + vs.length ≤ cs.length)
    (h : ∀ w', Own S w0 w' (L.set ix (g, .cells (cs.take off ++ vs ++ cs.drop (off + vs.length)).toArray t (0, 0))) → K (a.put o.dst undef) w') : o.wp P a w K Q := by
  unfold Oper.wp execOp
  have e0 := run_storeCells_at (P := P) g off t vs 0 cs.toArray w (M.has ix g _ hix) (by simpa using hle) (fun v hv => List.all_eq_true.1 h1 v hv)
  have hy' : a.eval (.tmp j) = v := eval_tmp a hj
  have e : (storeVar ty ⟨g, off, none⟩ v).run P w = .ok () (w.setRow g (cs.take off ++ vs ++ cs.drop (off + vs.length)).toArray) := by
    cases hq : P.info? ty with
    | none => simp [hq] at hn
    | some inf =>
      have hs : inf.size = vs.length := by simpa [hq] using hn
      simp only [Nat.add_zero] at e0
      simp [storeVar, sizeOf, typeInfo, hq, hy, hs, e0]
  simp only [ho, hx, hy', Instr.storeAt, Instr.sureAddr, Sem.run_bind, Sem.run_pure, Result.andThen_ok, e]
  exact h _ (M.set ix hix _)
theorem op_callee {K : Act → World → Prop} (f : FuncId) {fn : Func} (hf : P.funcs[f]? = some fn) (hname : (fn.name == "runtime.NumGoroutine") = false) (hb : fn.body.isSome = true) {xs : Array Operand} {ts : Array TypeId}
    (ho : o.op = .call { callee := .value (.func f), args := xs, argTypes := ts }) {args : Array Value} (hargs : xs.map a.eval = args) (h : Calls P f args w fun e w' => ∃ v, e = .returned v ∧ K (a.put o.dst v) w') : o.wp P a w K Q := by
  unfold Oper.wp
  rw [run_enter hf hname hb ho hargs w, Oper.upon_enter]
  refine h.mono fun e w' ⟨v, he, hk⟩ => ?_
  subst he
  exact hk
section
variable {C : World → Prop} {fuel : Nat} {listed : Array Bool}
theorem held_load1 {Lc : List (Nat × Obj)} {sl : Nat} (ix : Nat) (hi : ops[ix]? = some o) (hs : Region.noSelect ops = true) (hf : Region.free .any ops listed ix = true) (hr : (Region.ready .any ops listed).contains ix = true) (hgd : o.guard = none) (hdst : o.dst = some sl)
    (hQ : ∀ v c a w, Q (.panic c) (a.put (some sl) v) w → Q (.panic c) a w) (hC : Own S w0 w Lc) (ty : TypeId) (x : Operand) (ho : o.op = .load ty x) (g off : Nat) (hx : a.eval x = .pointer (some ⟨g, off, none⟩))
    (i : Nat) {cs : List Value} {t : TypeId} {fr : Nat × Nat} (hL : Lc[i]? = some (g, .cells cs.toArray t fr)) {d : TypeDesc} (hu : P.underlying ty = some d) (hd : (match d with | .struct _ | .array _ _ => true | _ => false) = false)
    {v : Value} (hv : cs[off]? = some v)
    (h : wpAnyH P .any ops Q (fun w' => Own S w0 w' Lc) fuel (listed.setIfInBounds ix true) (a.put (some sl) v) w) : wpAnyH P .any ops Q (fun w' => Own S w0 w' Lc) (fuel + 1) listed a w :=
  held_val hi hs hf hr hgd (by rw [hdst]; exact hQ _) (fun w hw => run_own_load1 hw ho hx hL hu hd hv) hC (by rw [hdst]; exact h)
theorem held_op {i : Nat} {K : Act → World → Prop} (hi : ops[i]? = some o) (hgd : o.guard = none) (h : o.wp P a w K Q) : wpOp P ops Q i K a w := by
  unfold wpOp
  simp only [hi]
  rw [if_pos (by simp [Region.wanted, hgd])]
  exact .inl h
theorem held_two {i j : Nat} (hr : Region.ready .any ops listed = [i, j]) (h1 : wpOp P ops Q i (fun a' w' => C w' ∧ wpAnyH P .any ops Q C fuel (listed.setIfInBounds i true) a' w') a w)
    (h2 : wpOp P ops Q j (fun a' w' => C w' ∧ wpAnyH P .any ops Q C fuel (listed.setIfInBounds j true) a' w') a w) : wpAnyH P .any ops Q C (fuel + 1) listed a w :=
  wpAnyH_all hr (by simp) fun q hq => by
    rcases List.mem_cons.1 hq with rfl | hq
    · exact h1
    · rw [List.mem_singleton.1 hq]; exact h2
end
/-! ### maps by text -/
theorem own_setObj (M : Own S w0 w L) (i : Nat) {g : Nat} {o' : Obj} (hi : L[i]? = some (g, o')) (O : Obj) : Own S w0 { w with heap := w.heap.setIfInBounds g O } ((g, O) :: L.eraseIdx i) := by
  have M := M.front i hi
  have hg := M.has 0 g _ rfl
  have hnd := M.nodup
  simp only [List.map_cons, List.nodup_cons] at hnd
  have hother : ∀ k, k ≠ g → ({ w with heap := w.heap.setIfInBounds g O } : World).heap[k]? = w.heap[k]? := fun k hk => by
    show (w.heap.setIfInBounds g O)[k]? = _
    rw [Array.getElem?_setIfInBounds_ne (Ne.symm hk)]
  refine Own.mk' M.os M.tape M.output (by simpa using M.size) (fun k hk hS => ?_) (fun q hq => ?_) (fun q hq hlt => ?_) (by simpa using hnd)
  · rw [hother k (fun e => by subst e; exact hS (M.free 0 k _ rfl hk)), M.frame k hk hS]
  · rcases List.mem_cons.1 hq with rfl | hq
    · show (w.heap.setIfInBounds g O)[g]? = _
      rw [Array.getElem?_setIfInBounds_self, if_pos hg.lt]
    · exact (hother q.1 (fun e => hnd.1 (by rw [← e]; exact List.mem_map_of_mem hq))).trans (M.mem (List.mem_cons_of_mem _ hq))
  · rcases List.mem_cons.1 hq with rfl | hq
    · exact M.free 0 _ _ rfl hlt
    · exact M.memFree (List.mem_cons_of_mem _ hq) hlt
/-- The entries of a map are these texts, each with its value. -/
def MapOf (es : Array MapEntry) (ps : List (ByteArray × Value)) : Prop := es.toList.map (fun e => (e.key, e.val)) = ps.map fun p => (Value.string p.1, p.2)
theorem findNow_str (k : ByteArray) : ∀ (es : List MapEntry) (ps : List (ByteArray × Value)) (i : Nat), es.map (fun e => (e.key, e.val)) = ps.map (fun p => (Value.string p.1, p.2)) →
    ∃ R, Instr.findNow .string (.string k) es i = some R ∧ R.map (·.2) = (ps.find? (fun p => k == p.1)).map (·.2)
  | [], [], i, _ => ⟨none, rfl, rfl⟩
  | [], _ :: _, _, h => by cases h
  | _ :: _, [], _, h => by cases h
  | e :: es, p :: ps, i, h => by
    simp only [List.map_cons, List.cons.injEq, Prod.mk.injEq] at h
    obtain ⟨⟨h1, h2⟩, h3⟩ := h
    simp only [Instr.findNow, h1, Instr.sameNow, List.find?_cons]
    cases k == p.1 with
    | true => exact ⟨_, rfl, by simp [h2]⟩
    | false =>
      obtain ⟨R, r1, r2⟩ := findNow_str k es ps (i + 1) h3
      exact ⟨R, r1, r2⟩
theorem run_findKey_str {K : TypeId} (hK : P.underlying K = some .string) (k : ByteArray) (w : World) {es : Array MapEntry} {ps : List (ByteArray × Value)} (h : MapOf es ps) :
    ∃ R, (Instr.findKey K (.string k) es.toList).run P w = .ok R w ∧ R.map (·.2) = (ps.find? (fun p => k == p.1)).map (·.2) := by
  obtain ⟨R, r1, r2⟩ := findNow_str k es.toList ps 0 h
  exact ⟨R, by simp [Instr.findKey, run_underlying hK, r1], r2⟩
theorem run_checkKey_str' {K : TypeId} (hK : P.underlying K = some .string) (b : Bool) (k : ByteArray) (w : World) (n : Nat) : (Instr.checkKey b (n + 1) K (.string k)).run P w = .ok () w := by
  simp [Instr.checkKey, run_underlying hK]
theorem run_checkKey_str {K : TypeId} (hK : P.underlying K = some .string) (b : Bool) (k : ByteArray) (w : World) : (Instr.checkKey b 10000 K (.string k)).run P w = .ok () w := run_checkKey_str' hK b k w 9999
theorem at_makeMap' (ty : TypeId) (_ : o.op = .makeMap ty none) (h : wpList P ops Q (o :: rest) a w) : wpList P ops Q (o :: rest) a w := h
theorem at_lookup' (ty : TypeId) (x y : Operand) (_ : o.op = .lookup ty x y false) (h : wpList P ops Q (o :: rest) a w) : wpList P ops Q (o :: rest) a w := h
theorem at_update' (ty : TypeId) (x y z : Operand) (_ : o.op = .mapUpdate ty x y z) (h : wpList P ops Q (o :: rest) a w) : wpList P ops Q (o :: rest) a w := h
theorem own_makeMap' (M : Own S w0 w L) {ty : TypeId} (ho : o.op = .makeMap ty none) (hgd : o.guard = none)
    (h : ∀ g w', Own S w0 w' ((g, .map #[] 0) :: L) → wpList P ops Q rest (a.put o.dst (.map (some g))) w') : wpList P ops Q (o :: rest) a w :=
  wpList_step fun K hK => by
    rw [if_pos (by simp [Region.wanted, hgd])]
    unfold Oper.wp execOp
    simp only [ho, Instr.makeMap, Option.map_none, Sem.run_bind, Sem.run_pure, Result.andThen_ok, run_newObj]
    exact hK _ _ (h _ _ (M.alloc _))
theorem own_lookup_str (M : Own S w0 w L) {ty K E : TypeId} (hty : P.underlying ty = some (.map K E)) (hK : P.underlying K = some .string) {zero : Value} (hz : ∀ w, (zeroValue E).run P w = .ok zero w)
    (x y : Operand) (ho : o.op = .lookup ty x y false) (hgd : o.guard = none) (g : Nat) (hx : a.eval x = .map (some g)) (k : ByteArray) (hy : a.eval y = .string k)
    (i : Nat) {es : Array MapEntry} {cl : Nat} (hi : L[i]? = some (g, Obj.map es cl)) {ps : List (ByteArray × Value)} (hs : MapOf es ps) {v : Value} (hval : ((ps.find? (fun p => k == p.1)).map (·.2)).getD zero = v)
    (h : wpList P ops Q rest (a.put o.dst v) w) : wpList P ops Q (o :: rest) a w :=
  wpList_step fun KK hK' => by
    rw [if_pos (by simp [Region.wanted, hgd])]
    unfold Oper.wp execOp
    subst hval
    have h1 : w.heap[g]? = some (.map es cl) := M.has i g _ hi
    have hg : (getObj g).run P w = .ok (.map es cl) w := by simp [getObj, Sem.run, h1]
    obtain ⟨R, r3, r4⟩ := run_findKey_str hK k w hs
    have e : (Instr.lookup ty (.map (some g)) (.string k) false).run P w = .ok (((ps.find? (fun p => k == p.1)).map (·.2)).getD zero) w := by
      simp only [Instr.lookup, Sem.run_bind, run_underlying hty, Result.andThen_ok, Sem.run_pure, hg, run_checkKey_str hK, r3]
      rw [← r4]
      cases R with
      | none => simp [hz]
      | some q => simp
    simp only [ho, hx, hy, Sem.run_bind, e, Result.andThen_ok]
    exact hK' _ _ h
/-- A text that is not there yet is put in. -/
theorem own_update_str (M : Own S w0 w L) {ty K E : TypeId} (hty : P.underlying ty = some (.map K E)) (hK : P.underlying K = some .string)
    (x y z : Operand) (ho : o.op = .mapUpdate ty x y z) (hgd : o.guard = none) (g : Nat) (hx : a.eval x = .map (some g)) (k : ByteArray) (hy : a.eval y = .string k) (v : Value) (hv : a.eval z = v)
    (i : Nat) {es : Array MapEntry} {cl : Nat} (hi : L[i]? = some (g, Obj.map es cl)) {ps : List (ByteArray × Value)} (hs : MapOf es ps) (hnew : ps.find? (fun p => k == p.1) = none)
    (h : ∀ w' es' cl', MapOf es' (ps ++ [(k, v)]) → Own S w0 w' ((g, .map es' cl') :: L.eraseIdx i) → wpList P ops Q rest (a.put o.dst undef) w') : wpList P ops Q (o :: rest) a w :=
  wpList_step fun KK hK' => by
    rw [if_pos (by simp [Region.wanted, hgd])]
    unfold Oper.wp execOp
    have h1 : w.heap[g]? = some (.map es cl) := M.has i g _ hi
    have hg : (getObj g).run P w = .ok (.map es cl) w := by simp [getObj, Sem.run, h1]
    have hset : ∀ O, (setObj g O).run P w = .ok () { w with heap := w.heap.setIfInBounds g O } := fun O => by simp [setObj, Sem.run, h1]
    obtain ⟨R, r3, r4⟩ := run_findKey_str hK k w hs
    rw [hnew] at r4
    cases R with
    | some q => cases r4
    | none =>
      have e : (Instr.mapUpdate ty (.map (some g)) (.string k) v).run P w = .ok () { w with heap := w.heap.setIfInBounds g (.map (es.push { key := .string k, val := v, born := cl }) (cl + 1)) } := by
        simp only [Instr.mapUpdate, Sem.run_bind, run_underlying hty, Result.andThen_ok, hg, run_checkKey_str hK, r3, hset]
      simp only [ho, hx, hy, hv, Sem.run_bind, e, Result.andThen_ok, Sem.run_pure]
      refine hK' _ _ (h _ _ _ ?_ (own_setObj M i hi _))
      unfold MapOf at hs ⊢
      simp [hs]
end
end Go
