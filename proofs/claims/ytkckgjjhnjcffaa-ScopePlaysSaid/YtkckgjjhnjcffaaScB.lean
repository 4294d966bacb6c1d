/- The document's scopes in memory. -/
import Derived.Test.YtkckgjjhnjcffaaScA
namespace Go.Proofs.Ytkckgjjhnjcffaa
open Go.ChangeShapes Go.WideShapes Go.ChangeAt Go.RowKit
set_option linter.unusedVariables false
set_option linter.unusedSimpArgs false
abbrev Vr.cs (x : Vr) : List Value := [.string x.name, .bool x.fixed, .bool x.has, .int .i64 x.v.k, .int .i64 x.v.n, .string x.v.s]
theorem Vr.cs_len (x : Vr) : x.cs.length = 6 := rfl
structure RowR where
  sc : Sc
  row : SRow
def RowR.val (r : RowR) : Value := r.row.val r.sc.vars.length
def RowR.blks (r : RowR) : List (Nat × Obj) := r.row.blks 83
def RowR.Ok (r : RowR) : Prop := r.row.ok 6 r.sc.vars.length (r.sc.vars.flatMap Vr.cs)
structure ShR where
  gR : Nat
  gP : Nat
  capP : Nat
  curP : List Value
  gQ : Nat
  capQ : Nat
  curQ : List Value
  rows : List RowR
abbrev ShR.top (sh : ShR) : List Value := [.slice (some ⟨sh.gP, 0, none⟩) sh.rows.length sh.capP, .slice (some ⟨sh.gQ, 0, none⟩) sh.rows.length sh.capQ]
def ShR.blks (sh : ShR) : List (Nat × Obj) := (sh.gR, .cells sh.top.toArray 76 (0, 0)) :: (sh.gP, .cells sh.curP.toArray 3 (0, 0)) :: (sh.gQ, .cells sh.curQ.toArray 81 (0, 0)) :: sh.rows.flatMap RowR.blks
def ShR.σ (sh : ShR) : List Sc := sh.rows.map RowR.sc
def RowR.par (r : RowR) : List Value := [.int .i64 r.sc.parent]
def RowR.vals (r : RowR) : List Value := [r.val]
structure ShR.Ok (sh : ShR) : Prop where
  rowP : RowOk 1 sh.rows.length sh.capP sh.curP (sh.rows.flatMap RowR.par)
  rowQ : RowOk 1 sh.rows.length sh.capQ sh.curQ (sh.rows.flatMap RowR.vals)
  row : ∀ r ∈ sh.rows, r.Ok
  par : ParOk (sh.rows.map fun r => r.sc.parent)
theorem RowR.par_len (r : RowR) : r.par.length = 1 := rfl
theorem RowR.vals_len (r : RowR) : r.vals.length = 1 := rfl
theorem ShR.Ok.cellP {sh : ShR} (ok : sh.Ok) {e : Nat} {r : RowR} (h : sh.rows[e]? = some r) : sh.curP[e]? = some (.int .i64 r.sc.parent) := by
  have h1 := flat_get (f := RowR.par) RowR.par_len (k := 0) (by omega) h
  simp only [Nat.mul_one, Nat.add_zero, RowR.par, List.getElem?_cons_zero] at h1
  exact ok.rowP.get h1
theorem ShR.Ok.cellQ {sh : ShR} (ok : sh.Ok) {e : Nat} {r : RowR} (h : sh.rows[e]? = some r) : sh.curQ[e]? = some r.val := by
  have h1 := flat_get (f := RowR.vals) RowR.vals_len (k := 0) (by omega) h
  simp only [Nat.mul_one, Nat.add_zero, RowR.vals, List.getElem?_cons_zero] at h1
  exact ok.rowQ.get h1
theorem SRow.ok_cell {r : SRow} {n : Nat} {vars : List Vr} (h : r.ok 6 n (vars.flatMap Vr.cs)) {j : Nat} {x : Vr} (hj : vars[j]? = some x) : ∃ g cap cur, r = some (g, cap, cur) ∧ RowOk 6 n cap cur (vars.flatMap Vr.cs) ∧ ∀ k, k < 6 → cur[j * 6 + k]? = x.cs[k]? := by
  cases r with
  | none =>
    have := flat_len (f := Vr.cs) Vr.cs_len vars
    rw [h.2] at this
    have hl := lt_of_get hj
    simp at this
    omega
  | some p =>
    obtain ⟨g, cap, cur⟩ := p
    have h : RowOk 6 n cap cur _ := h
    refine ⟨g, cap, cur, rfl, h, fun k hk => ?_⟩
    have h1 := flat_get (f := Vr.cs) Vr.cs_len hk hj
    have h2 : x.cs[k]? = some (x.cs[k]'(by rw [Vr.cs_len]; exact hk)) := List.getElem?_eq_getElem _
    rw [h2] at h1 ⊢
    exact h.get h1
theorem ShR.perm1 {sh : ShR} {e : Nat} {r : RowR} (h : sh.rows[e]? = some r) : ∃ l1 l2, sh.rows = l1 ++ r :: l2 ∧ l1.length = e ∧
    sh.blks.Perm ((sh.gR, .cells sh.top.toArray 76 (0, 0)) :: (sh.gP, .cells sh.curP.toArray 3 (0, 0)) :: (sh.gQ, .cells sh.curQ.toArray 81 (0, 0)) :: (r.row.blks 83 ++ (l1 ++ l2).flatMap RowR.blks)) := by
  obtain ⟨l1, l2, h1, h2⟩ := split_at h
  refine ⟨l1, l2, h1, h2, ?_⟩
  unfold ShR.blks
  rw [h1]
  exact (((perm_flatMap_mid RowR.blks l1 l2 r).cons _).cons _).cons _
end Go.Proofs.Ytkckgjjhnjcffaa
