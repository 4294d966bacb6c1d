/- An Ask as an argument: what a reading gives of it. -/
import Derived.Test.YtegdomkgppddeaaGreatDoorUwVs
import Derived.Test.YtegdomkgppddeaaGreatDoorDe
namespace Go.Proofs.YtegdomkgppddeaaGreatDoor
open Go.ChangeShapes Go.WideShapes Go.ChangeAt Go.RowKit Go.Sx
set_option linter.unusedVariables false
set_option linter.unusedSimpArgs false
set_option maxRecDepth 100000
structure Sk where
  ks : ByteArray
  ky : Int
  v : Va
  r : Va
  d : De
  l : Vs
abbrev Sk.cs (a : Sk) : List Value := [.string a.ks, .int .i64 a.ky, .int .i64 a.v.k, .int .i64 a.v.n, .string a.v.s, .int .i64 a.r.k, .int .i64 a.r.n, .string a.r.s,
  .bool a.d.hv, .bool a.d.hg, .bool a.d.hs, .bool a.d.hw, .bool a.d.he, .bool a.d.hc, .int .i64 a.d.v.k, .int .i64 a.d.v.n, .string a.d.v.s, .int .i64 a.d.g.k, .int .i64 a.d.g.n, .string a.d.g.s, .int .i64 a.d.s.k, .int .i64 a.d.s.n, .string a.d.s.s, .bool a.d.w, .bool a.d.e, .bool a.d.c, a.l.val]
abbrev Sk.val (a : Sk) : Value := .agg a.cs.toArray
def Sk.ok (a : Sk) (w : World) : Prop := wfI a.ky ∧ a.v.ok ∧ a.r.ok ∧ a.d.ok ∧ a.l.ok w ∧ ∀ y ∈ a.l.l, y.ok
/-- Every text of it is at most so long. -/
def Sk.small (a : Sk) (B : Nat) : Prop := a.ks.size ≤ B ∧ a.v.s.size ≤ B ∧ a.r.s.size ≤ B ∧ a.d.v.s.size ≤ B ∧ a.d.g.s.size ≤ B ∧ a.d.s.s.size ≤ B ∧ (∀ y ∈ a.l.l, y.s.size ≤ B) ∧ a.l.l.length ≤ B
theorem cellsAsk : Tryz.prog.cellsOf 41 = 27 := by kernel_rfl
theorem cellsKey : Tryz.prog.cellsOf 38 = 2 := by kernel_rfl
theorem askTypes : (Tryz.prog.cellTypes Tryz.prog.depth 41).map (fun ts => (ts.length, ts[26]?)) = some (27, some 39) := by kernel_rfl
section
variable {H : Type} {enc : TypeId × Value → H} {w : World} {base : Nat} {held : Bool}
theorem open_ask {r : Reach} {b0 : Nat} {v : Value} {d : DataW H} {p : List MemPlace} (hv : Value.okWide Tryz.prog w r b0 41 v) (h : DataW.Trod enc Tryz.prog w base (fun _ => true) held 41 v d p) :
    ∃ a : Sk, v = a.val ∧ a.ok w ∧ a.small (Rows.uptoBulk d) := by
  have hu : Tryz.prog.underlying 39 = some (.slice 30) := by kernel_rfl
  simp only [Value.okWide, Tryz.underlying41] at hv
  obtain ⟨cs, rfl, hsz, ts, hts, -, hcell⟩ := hv
  obtain ⟨fuel, hf0⟩ := h
  have hf0 : DataW.trod enc Tryz.prog w base (fun _ => true) held fuel 41 cs.toList = some (d, p) := hf0
  obtain ⟨xs, n, _, ex, hl, hlen, hf⟩ := DataW.trod_struct Tryz.underlying41 hf0
  have ex : d = _ := congrArg Prod.fst ex
  subst ex
  rw [cellsAsk] at hl
  obtain ⟨cl, rfl⟩ : ∃ l : List Value, cs = l.toArray := ⟨cs.toList, by simp⟩
  have tl : ∀ l : List Value, l.toArray.toList = l := fun _ => rfl
  rw [tl] at hl
  simp only [tl] at hf
  match cl, hl, xs, hlen with
  | [c0, c1, c2, c3, c4, c5, c6, c7, c8, c9, c10, c11, c12, c13, c14, c15, c16, c17, c18, c19, c20, c21, c22, c23, c24, c25, c26], _, [y0, y1, y2, y3, y4], _ =>
    have h0 : DataW.trod enc Tryz.prog w base (fun _ => true) held n 38 [c0, c1] = some y0 := hf 0 _ rfl
    have h1 : DataW.trod enc Tryz.prog w base (fun _ => true) held n 30 [c2, c3, c4] = some y1 := hf 1 _ rfl
    have h2 : DataW.trod enc Tryz.prog w base (fun _ => true) held n 30 [c5, c6, c7] = some y2 := hf 2 _ rfl
    have h3 : DataW.trod enc Tryz.prog w base (fun _ => true) held n 32 [c8, c9, c10, c11, c12, c13, c14, c15, c16, c17, c18, c19, c20, c21, c22, c23, c24, c25] = some y3 := hf 3 _ rfl
    have h4 : DataW.trod enc Tryz.prog w base (fun _ => true) held n 39 [c26] = some y4 := hf 4 _ rfl
    have hw : Value.okWide Tryz.prog w r b0 39 c26 := by
      have key := askTypes
      rw [hts] at key
      simp only [Option.map_some, Option.some.injEq, Prod.mk.injEq] at key
      obtain ⟨u, q1, q2⟩ := hcell 26 c26 rfl
      rw [key.1] at q1
      rw [key.2] at q1
      cases q1
      simp only [Value.okWide, hu]
      exact q2
    obtain ⟨a', len, cap, rfl⟩ := okWide_slice hu hw
    obtain ⟨l, e4, okl, zl, nl⟩ := open_vs (d := y4.1) (p := y4.2) hw ⟨n, h4⟩
    obtain ⟨vv, e1, ok1, z1⟩ := read_va h1
    obtain ⟨rr, e2, ok2, z2⟩ := read_va h2
    obtain ⟨dd, e3, ok3, z3⟩ := read_de h3
    obtain ⟨xk, nk, _, ek, hlk, hlenk, hfk⟩ := DataW.trod_struct Tryz.underlying38 h0
    match xk, hlenk with
    | [k0, k1], _ =>
      have g0 : DataW.trod enc Tryz.prog w base (fun _ => true) held nk 9 [c0] = some k0 := hfk 0 _ rfl
      have g1 : DataW.trod enc Tryz.prog w base (fun _ => true) held nk 3 [c1] = some k1 := hfk 1 _ rfl
      obtain ⟨s, q0, rfl, w0⟩ := DataW.trod_string Tryz.underlying9 g0
      obtain ⟨m, q1, rfl, w1⟩ := DataW.trod_int Tryz.underlying3 g1
      subst ek
      cases q0; cases q1; cases e1; cases e2; cases e3
      refine ⟨⟨s, m, vv, rr, dd, l⟩, by rw [e4], ⟨wfI_of w1, ok1, ok2, ok3, okl, fun y hy => (zl y hy).1⟩, ?_⟩
      simp only [De.bulk] at z3
      refine ⟨?_, ?_, ?_, ?_, ?_, ?_, fun y hy => ?_, ?_⟩
      · simp [Rows.uptoBulk, Rows.uptoBulkAll]; omega
      · simp [Rows.uptoBulk, Rows.uptoBulkAll]; omega
      · simp [Rows.uptoBulk, Rows.uptoBulkAll]; omega
      · simp [Rows.uptoBulk, Rows.uptoBulkAll]; omega
      · simp [Rows.uptoBulk, Rows.uptoBulkAll]; omega
      · simp [Rows.uptoBulk, Rows.uptoBulkAll]; omega
      · have := (zl y hy).2
        simp [Rows.uptoBulk, Rows.uptoBulkAll]; omega
      · simp only [] at nl ⊢
        simp [Rows.uptoBulk, Rows.uptoBulkAll]; omega
end
end Go.Proofs.YtegdomkgppddeaaGreatDoor
