/-
  api.Value and api.Desc as Lean structures: their cells, how they are read, how == compares them.
-/
import Derived.Test.YtkckgjjhnjcffaaMem
namespace Go.Proofs.Ytkckgjjhnjcffaa
open Go.ChangeShapes Go.WideShapes Go.ChangeAt Go.RowKit
set_option linter.unusedVariables false
set_option maxRecDepth 100000

theorem infoVa : (Try.prog.info? 29).map (·.size) = some 3 := by kernel_rfl
def veq (a b : Va) : Bool := a.k == b.k && (a.n == b.n && (a.s.toList == b.s.toList))
theorem bytes_ext {a b : ByteArray} (h : a.toList = b.toList) : a = b := by
  rw [Go.ByteArray.toList_eq, Go.ByteArray.toList_eq] at h
  cases a with | mk a => cases b with | mk b =>
  have : a.toList = b.toList := h
  rw [Array.toList_inj] at this
  rw [this]
theorem veq_iff {a b : Va} : veq a b = true ↔ a = b := by
  cases a with | mk k n s => cases b with | mk k' n' s' =>
  simp only [veq, Bool.and_eq_true, beq_iff_eq, Va.mk.injEq]
  exact ⟨fun h => ⟨h.1, h.2.1, bytes_ext h.2.2⟩, fun h => ⟨h.1, h.2.1, by rw [h.2.2]⟩⟩
theorem veq_refl (a : Va) : veq a a = true := veq_iff.2 rfl
def Va.zero : Va := ⟨0, 0, ⟨#[]⟩⟩

structure De where
  hv : Bool
  hg : Bool
  hs : Bool
  hw : Bool
  he : Bool
  hc : Bool
  v : Va
  g : Va
  s : Va
  w : Bool
  e : Bool
  c : Bool
abbrev De.cs (d : De) : List Value := [.bool d.hv, .bool d.hg, .bool d.hs, .bool d.hw, .bool d.he, .bool d.hc, .int .i64 d.v.k, .int .i64 d.v.n, .string d.v.s, .int .i64 d.g.k, .int .i64 d.g.n, .string d.g.s, .int .i64 d.s.k, .int .i64 d.s.n, .string d.s.s, .bool d.w, .bool d.e, .bool d.c]
abbrev De.val (d : De) : Value := .agg #[.bool d.hv, .bool d.hg, .bool d.hs, .bool d.hw, .bool d.he, .bool d.hc, .int .i64 d.v.k, .int .i64 d.v.n, .string d.v.s, .int .i64 d.g.k, .int .i64 d.g.n, .string d.g.s, .int .i64 d.s.k, .int .i64 d.s.n, .string d.s.s, .bool d.w, .bool d.e, .bool d.c]
abbrev De.obj (d : De) : Obj := .cells #[.bool d.hv, .bool d.hg, .bool d.hs, .bool d.hw, .bool d.he, .bool d.hc, .int .i64 d.v.k, .int .i64 d.v.n, .string d.v.s, .int .i64 d.g.k, .int .i64 d.g.n, .string d.g.s, .int .i64 d.s.k, .int .i64 d.s.n, .string d.s.s, .bool d.w, .bool d.e, .bool d.c] 45
abbrev Va.obj (v : Va) : Obj := .cells #[.int .i64 v.k, .int .i64 v.n, .string v.s] 29
def De.ok (d : De) : Prop := d.v.ok ∧ d.g.ok ∧ d.s.ok
def De.bulk (d : De) : Nat := d.v.s.size + d.g.s.size + d.s.s.size
def De.zero : De := ⟨false, false, false, false, false, false, Va.zero, Va.zero, Va.zero, false, false, false⟩
theorem infoDe : (Try.prog.info? 45).map (·.size) = some 18 := by kernel_rfl
theorem infoB : (Try.prog.info? 4).map (·.size) = some 1 := by kernel_rfl
theorem infoI : (Try.prog.info? 3).map (·.size) = some 1 := by kernel_rfl
theorem zeroVa (w : World) : (zeroValue 29).run Try.prog w = .ok Va.zero.val w := by kernel_rfl
theorem zeroDe (w : World) : (zeroValue 45).run Try.prog w = .ok De.zero.val w := by kernel_rfl
theorem cellsDe : Try.prog.cellsOf 45 = 18 := by kernel_rfl

section
variable {H : Type} {enc : TypeId × Value → H} {w : World} {base : Nat} {spare : Nat → Bool} {held : Bool}
theorem read_de {fuel : Nat} {cs : List Value} {x : DataW H × List MemPlace} (h : DataW.trod enc Try.prog w base spare held fuel 45 cs = some x) :
    ∃ a : De, cs = a.cs ∧ a.ok ∧ a.bulk + 1 ≤ Rows.uptoBulk x.1 := by
  obtain ⟨xs, n, _, rfl, hl, hlen, hf⟩ := DataW.trod_struct Try.underlying45 h
  rw [cellsDe] at hl
  match cs, hl, xs, hlen with
  | [c0, c1, c2, c3, c4, c5, c6, c7, c8, c9, c10, c11, c12, c13, c14, c15, c16, c17], _, [y0, y1, y2, y3, y4, y5, y6, y7, y8, y9, y10, y11], _ =>
    have h0 : DataW.trod enc Try.prog w base spare held n 4 [c0] = some y0 := hf 0 _ rfl
    have h1 : DataW.trod enc Try.prog w base spare held n 4 [c1] = some y1 := hf 1 _ rfl
    have h2 : DataW.trod enc Try.prog w base spare held n 4 [c2] = some y2 := hf 2 _ rfl
    have h3 : DataW.trod enc Try.prog w base spare held n 4 [c3] = some y3 := hf 3 _ rfl
    have h4 : DataW.trod enc Try.prog w base spare held n 4 [c4] = some y4 := hf 4 _ rfl
    have h5 : DataW.trod enc Try.prog w base spare held n 4 [c5] = some y5 := hf 5 _ rfl
    have h6 : DataW.trod enc Try.prog w base spare held n 29 [c6, c7, c8] = some y6 := hf 6 _ rfl
    have h7 : DataW.trod enc Try.prog w base spare held n 29 [c9, c10, c11] = some y7 := hf 7 _ rfl
    have h8 : DataW.trod enc Try.prog w base spare held n 29 [c12, c13, c14] = some y8 := hf 8 _ rfl
    have h9 : DataW.trod enc Try.prog w base spare held n 4 [c15] = some y9 := hf 9 _ rfl
    have h10 : DataW.trod enc Try.prog w base spare held n 4 [c16] = some y10 := hf 10 _ rfl
    have h11 : DataW.trod enc Try.prog w base spare held n 4 [c17] = some y11 := hf 11 _ rfl
    obtain ⟨b0, e0, rfl⟩ := DataW.trod_bool Try.underlying4 h0
    obtain ⟨b1, e1, rfl⟩ := DataW.trod_bool Try.underlying4 h1
    obtain ⟨b2, e2, rfl⟩ := DataW.trod_bool Try.underlying4 h2
    obtain ⟨b3, e3, rfl⟩ := DataW.trod_bool Try.underlying4 h3
    obtain ⟨b4, e4, rfl⟩ := DataW.trod_bool Try.underlying4 h4
    obtain ⟨b5, e5, rfl⟩ := DataW.trod_bool Try.underlying4 h5
    obtain ⟨v, e6, ok6, z6⟩ := read_va h6
    obtain ⟨g, e7, ok7, z7⟩ := read_va h7
    obtain ⟨s, e8, ok8, z8⟩ := read_va h8
    obtain ⟨b9, e9, rfl⟩ := DataW.trod_bool Try.underlying4 h9
    obtain ⟨b10, e10, rfl⟩ := DataW.trod_bool Try.underlying4 h10
    obtain ⟨b11, e11, rfl⟩ := DataW.trod_bool Try.underlying4 h11
    cases e0; cases e1; cases e2; cases e3; cases e4; cases e5; cases e6; cases e7; cases e8; cases e9; cases e10; cases e11
    exact ⟨⟨b0, b1, b2, b3, b4, b5, v, g, s, b9, b10, b11⟩, rfl, ⟨ok6, ok7, ok8⟩, by simp [Rows.uptoBulk, Rows.uptoBulkAll, De.bulk]; omega⟩
theorem open_de {r : Reach} {b0 : Nat} {v : Value} {d : DataW H} {p : List MemPlace} (hv : Value.okWide Try.prog w r b0 45 v) (h : DataW.Trod enc Try.prog w base spare held 45 v d p) :
    ∃ a : De, v = a.val ∧ a.ok ∧ a.bulk + 1 ≤ Rows.uptoBulk d := by
  obtain ⟨cs, rfl, -⟩ := okWide_struct Try.underlying45 hv
  obtain ⟨fuel, hf⟩ := h
  obtain ⟨a, e, h1, h2⟩ := read_de hf
  refine ⟨a, ?_, h1, h2⟩
  have e' : cs.toList = a.cs := e
  rw [show cs = a.cs.toArray by rw [← e']]
end

/-! ### == -/
section
variable {P : Program} {d : Nat} {xs ys : Array Value} {f : Field} {fs : List Field} {a b : Value} {r s : Bool} {w : World}
theorem eqf_last (hn : (f.name == "_") = false) (ha : (part f.type xs f.offset).run P w = .ok a w) (hb : (part f.type ys f.offset).run P w = .ok b w) (he : (Op.equalIn d f.type a b).run P w = .ok r w) : (Op.eqFields d xs ys [f]).run P w = .ok r w := by
  have hn' : f.name ≠ "_" := by simpa using hn
  simp only [Op.eqFields, if_pos hn', Sem.run_bind, ha, hb, he, Result.andThen_ok]
  cases r <;> simp
theorem eqf_cons (hn : (f.name == "_") = false) (ha : (part f.type xs f.offset).run P w = .ok a w) (hb : (part f.type ys f.offset).run P w = .ok b w) (he : (Op.equalIn d f.type a b).run P w = .ok r w) (hr : (Op.eqFields d xs ys fs).run P w = .ok s w) : (Op.eqFields d xs ys (f :: fs)).run P w = .ok (r && s) w := by
  have hn' : f.name ≠ "_" := by simpa using hn
  rw [Op.eqFields]
  simp only [if_pos hn', Sem.run_bind, ha, hb, he, Result.andThen_ok]
  cases r
  · simp
  · simpa using hr
theorem eqA_of {t : TypeId} {fs : Array Field} (hu : P.underlying t = some (.struct fs)) (hp : P.stoodInHeld t = false) (h : (Op.eqFields d xs ys fs.toList).run P w = .ok r w) : (Op.equalIn (d + 1) t (.agg xs) (.agg ys)).run P w = .ok r w := by
  have hf : P.fieldsOf t = fs := by simp [Program.fieldsOf, hu]
  rw [run_equalIn_struct (P := P) w d t xs ys (by rw [hf]; exact hu) hp, hf]
  exact h
end
theorem eqA_va (d : Nat) (w : World) (x0 y0 : Int) (x1 y1 : Int) (x2 y2 : ByteArray) :
    (Op.equalIn (d + 2) 29 (.agg #[.int .i64 x0, .int .i64 x1, .string x2]) (.agg #[.int .i64 y0, .int .i64 y1, .string y2])).run Try.prog w = .ok (veq ⟨x0, x1, x2⟩ ⟨y0, y1, y2⟩) w := by
  refine eqA_of Try.underlying29 (by kernel_rfl) ?_
  refine eqf_cons (by rfl) (by go_simp; rfl) (by go_simp; rfl) (by go_simp) ?_
  refine eqf_cons (by rfl) (by go_simp; rfl) (by go_simp; rfl) (by go_simp) ?_
  exact eqf_last (by rfl) (by go_simp; rfl) (by go_simp; rfl) (by go_simp)
theorem guardVa : Try.prog.eqGuardType Try.prog.depth 29 = false := by kernel_rfl
theorem run_eql_va (w : World) (x0 y0 : Int) (x1 y1 : Int) (x2 y2 : ByteArray) :
    (binOp .eql 29 (.agg #[.int .i64 x0, .int .i64 x1, .string x2]) (.agg #[.int .i64 y0, .int .i64 y1, .string y2])).run Try.prog w = .ok (.bool (veq ⟨x0, x1, x2⟩ ⟨y0, y1, y2⟩)) w := by
  simp only [binOp]
  simp [Op.equal, Op.maxDepth, eqA_va 9998]
theorem run_neq_va (w : World) (x0 y0 : Int) (x1 y1 : Int) (x2 y2 : ByteArray) :
    (binOp .neq 29 (.agg #[.int .i64 x0, .int .i64 x1, .string x2]) (.agg #[.int .i64 y0, .int .i64 y1, .string y2])).run Try.prog w = .ok (.bool (!veq ⟨x0, x1, x2⟩ ⟨y0, y1, y2⟩)) w := by
  simp only [binOp]
  simp [Op.equal, Op.maxDepth, eqA_va 9998]
end Go.Proofs.Ytkckgjjhnjcffaa
