/- Slices of keys and of entries as arguments: what a reading gives of them. -/
import Derived.Test.YtkdagdiampfjgaaKeysWalk
import Derived.Test.YtkdagdiampfjgaaKit
import Derived.Deep.Slices
namespace Go.Proofs.Ytkdagdiampfjgaa
open Go.ChangeShapes Go.WideShapes Go.ChangeAt Go.RowKit PRulesClosed Go.Proofs.YtkdagdiampfjgaaW.PrintWords
set_option linter.unusedVariables false
set_option linter.unusedSimpArgs false
set_option maxRecDepth 100000
instance : Inhabited S38 := ⟨z38⟩
instance : Inhabited S40 := ⟨z40⟩
def De.s25 (d : De) : S25 := ⟨d.hv, d.hg, d.hs, d.hw, d.he, d.hc, ⟨d.v.k, d.v.n, d.v.s⟩, ⟨d.g.k, d.g.n, d.g.s⟩, ⟨d.s.k, d.s.n, d.s.s⟩, d.w, d.e, d.c⟩
theorem cellsK : Try.prog.cellsOf 38 = 2 := by kernel_rfl
theorem cellsE : Try.prog.cellsOf 40 = 20 := by kernel_rfl
section
variable {H : Type} {enc : TypeId × Value → H} {w : World} {base : Nat} {held : Bool} {spare : Nat → Bool}
theorem read_k {fuel : Nat} {cs : List Value} {x : DataW H × List MemPlace} (h : DataW.trod enc Try.prog w base spare held fuel 38 cs = some x) : ∃ k : S38, cs = kcs k := by
  obtain ⟨xs, n, _, rfl, hl, hlen, hf⟩ := DataW.trod_struct Try.underlying38 h
  rw [cellsK] at hl
  match cs, hl, xs, hlen with
  | [c0, c1], _, [y0, y1], _ =>
    have h0 : DataW.trod enc Try.prog w base spare held n 9 [c0] = some y0 := hf 0 _ rfl
    have h1 : DataW.trod enc Try.prog w base spare held n 3 [c1] = some y1 := hf 1 _ rfl
    obtain ⟨s, e0, rfl, -⟩ := DataW.trod_string Try.underlying9 h0
    obtain ⟨m, e1, rfl, -⟩ := DataW.trod_int Try.underlying3 h1
    cases e0; cases e1
    exact ⟨⟨s, m⟩, rfl⟩
theorem read_e {fuel : Nat} {cs : List Value} {x : DataW H × List MemPlace} (h : DataW.trod enc Try.prog w base spare held fuel 40 cs = some x) : ∃ k : S40, cs = ecs k := by
  obtain ⟨xs, n, _, rfl, hl, hlen, hf⟩ := DataW.trod_struct Try.underlying40 h
  rw [cellsE] at hl
  match cs, hl, xs, hlen with
  | [c0, c1, c2, c3, c4, c5, c6, c7, c8, c9, c10, c11, c12, c13, c14, c15, c16, c17, c18, c19], _, [y0, y1], _ =>
    have h0 : DataW.trod enc Try.prog w base spare held n 38 [c0, c1] = some y0 := hf 0 _ rfl
    have h1 : DataW.trod enc Try.prog w base spare held n 25 [c2, c3, c4, c5, c6, c7, c8, c9, c10, c11, c12, c13, c14, c15, c16, c17, c18, c19] = some y1 := hf 1 _ rfl
    obtain ⟨k, e0⟩ := read_k h0
    obtain ⟨d, e1, -, -⟩ := read_de h1
    cases e0; cases e1
    exact ⟨⟨k, d.s25⟩, rfl⟩
theorem open_row {α : Type} [Inhabited α] {T E : TypeId} (d : Kd α) (cells : α → List Value) (hu : Try.prog.underlying T = some (.slice E)) (hsz : d.sz = Try.prog.cellsOf E) (hlen : ∀ a, (cells a).length = d.sz) (hmk : ∀ w a, d.K w a (cells a))
    (hread : ∀ {fuel : Nat} {cs : List Value} {x : DataW H × List MemPlace}, DataW.trod enc Try.prog w base (fun _ => true) held fuel E cs = some x → ∃ a : α, cs = cells a)
    {r : Reach} {b0 : Nat} {v : Value} {dd : DataW H} {p : List MemPlace} (hv : Value.okWide Try.prog w r b0 T v) (h : DataW.Trod enc Try.prog w base (fun _ => true) held T v dd p) :
    ∃ (A : Option Addr) (c : Nat) (l : List α), v = .slice A l.length c ∧ l.length ≤ c ∧ Kd.C d w A l.length l := by
  obtain ⟨a, len, cap, rfl⟩ := okWide_slice hu hv
  obtain ⟨fuel, hf⟩ := h
  have hf : DataW.trod enc Try.prog w base (fun _ => true) held fuel T [.slice a len cap] = some (dd, p) := hf
  rcases Go.Deep.open_slice hu hf with ⟨e, ex⟩ | ⟨a', len', cap', m, n, D, Pl, e, hb, hl, hm, hmm, ex, hx⟩
  · cases e
    exact ⟨none, 0, [], rfl, Nat.le_refl _, rfl, by simp, fun h => by simp at h⟩
  · cases e
    have hmm : m = cap := hmm
    subst hmm
    have key : ∀ i, i < m → ∃ x : α, ∀ (j : Nat) (V : Value), (cells x)[j]? = some V → w.cell? ((a'.add (i * d.sz)).add j) = some V := by
      intro i hi
      obtain ⟨cs', h1, h2⟩ := hx i hi
      obtain ⟨x, rfl⟩ := hread h2
      refine ⟨x, fun j V hj => ?_⟩
      obtain ⟨-, -, h5⟩ := World.cells?_some h1
      have hj3 : j < Try.prog.cellsOf E := by
        have := (List.getElem?_eq_some_iff.1 hj).1
        rw [hlen, hsz] at this
        exact this
      have h6 := h5 j hj3
      rw [hsz, h6, hj]
    obtain ⟨f, hf⟩ := Go.Deep.choose_lt key
    refine ⟨some a', m, (List.range len).map f, by simp, by simpa using hl, by simp, ?_, fun _ => ⟨a', rfl, fun j q hj => ?_⟩⟩
    · unfold maxLen at hm
      simp
      omega
    · simp only [List.getElem?_map] at hj
      cases hr : (List.range len)[j]? with
      | none => rw [hr] at hj; cases hj
      | some i =>
        rw [hr] at hj
        obtain ⟨h10, h11⟩ := List.getElem?_eq_some_iff.1 hr
        simp only [List.getElem_range] at h11
        subst h11
        cases hj
        refine ⟨cells (f j), hlen _, hmk w _, fun i u hu' => ?_⟩
        have := hf j (Nat.lt_of_lt_of_le (by simpa using h10) hl) i u hu'
        rw [Go.Deep.add_add] at this
        exact this
theorem open_ks {r : Reach} {b0 : Nat} {v : Value} {dd : DataW H} {p : List MemPlace} (hv : Value.okWide Try.prog w r b0 35 v) (h : DataW.Trod enc Try.prog w base (fun _ => true) held 35 v dd p) :
    ∃ (A : Option Addr) (c : Nat) (l : List S38), v = .slice A l.length c ∧ l.length ≤ c ∧ Kd.C k38 w A l.length l :=
  open_row k38 kcs (by kernel_rfl) (by rw [cellsK]; rfl) (fun _ => rfl) (fun w a => k38_mk w a) read_k hv h
theorem open_es {r : Reach} {b0 : Nat} {v : Value} {dd : DataW H} {p : List MemPlace} (hv : Value.okWide Try.prog w r b0 26 v) (h : DataW.Trod enc Try.prog w base (fun _ => true) held 26 v dd p) :
    ∃ (A : Option Addr) (c : Nat) (l : List S40), v = .slice A l.length c ∧ l.length ≤ c ∧ Kd.C k40 w A l.length l :=
  open_row k40 ecs (by kernel_rfl) (by rw [cellsE]; rfl) (fun _ => rfl) (fun w a => k40_mk w a) read_e hv h
end
end Go.Proofs.Ytkdagdiampfjgaa
