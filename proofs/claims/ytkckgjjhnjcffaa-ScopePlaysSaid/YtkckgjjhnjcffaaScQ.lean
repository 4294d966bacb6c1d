/- A slice of calls that are asked for, as an argument: what a reading gives of it. -/
import Derived.Test.YtkckgjjhnjcffaaScL
import Derived.Test.YtkckgjjhnjcffaaKit
import Derived.Deep.Slices
namespace Go.Proofs.Ytkckgjjhnjcffaa
open Go.ChangeShapes Go.WideShapes Go.ChangeAt Go.RowKit
set_option linter.unusedVariables false
set_option linter.unusedSimpArgs false
set_option maxRecDepth 100000
instance : Inhabited Ac := ⟨Ac.zero⟩
theorem cellsAc : Try.prog.cellsOf 31 = 7 := by kernel_rfl
section
variable {H : Type} {enc : TypeId × Value → H} {w : World} {base : Nat} {held : Bool} {spare : Nat → Bool}
theorem read_ac {fuel : Nat} {cs : List Value} {x : DataW H × List MemPlace} (h : DataW.trod enc Try.prog w base spare held fuel 31 cs = some x) : ∃ a : Ac, cs = a.cs := by
  obtain ⟨xs, n, _, rfl, hl, hlen, hf⟩ := DataW.trod_struct Try.underlying31 h
  rw [cellsAc] at hl
  match cs, hl, xs, hlen with
  | [c0, c1, c2, c3, c4, c5, c6], _, [y0, y1, y2, y3, y4], _ =>
    have h0 : DataW.trod enc Try.prog w base spare held n 3 [c0] = some y0 := hf 0 _ rfl
    have h1 : DataW.trod enc Try.prog w base spare held n 3 [c1] = some y1 := hf 1 _ rfl
    have h2 : DataW.trod enc Try.prog w base spare held n 9 [c2] = some y2 := hf 2 _ rfl
    have h3 : DataW.trod enc Try.prog w base spare held n 4 [c3] = some y3 := hf 3 _ rfl
    have h4 : DataW.trod enc Try.prog w base spare held n 29 [c4, c5, c6] = some y4 := hf 4 _ rfl
    obtain ⟨n0, e0, rfl, -⟩ := DataW.trod_int Try.underlying3 h0
    obtain ⟨n1, e1, rfl, -⟩ := DataW.trod_int Try.underlying3 h1
    obtain ⟨s2, e2, rfl, -⟩ := DataW.trod_string Try.underlying9 h2
    obtain ⟨b3, e3, rfl⟩ := DataW.trod_bool Try.underlying4 h3
    obtain ⟨v4, e4, -, -⟩ := read_va h4
    cases e0; cases e1; cases e2; cases e3; cases e4
    exact ⟨⟨n0, n1, s2, b3, v4⟩, rfl⟩
theorem open_acs {r : Reach} {b0 : Nat} {v : Value} {dd : DataW H} {p : List MemPlace} (hv : Value.okWide Try.prog w r b0 22 v) (h : DataW.Trod enc Try.prog w base (fun _ => true) held 22 v dd p) :
    ∃ (A : Option Addr) (c : Nat) (l : List Ac), v = .slice A l.length c ∧ AcsAt w A l := by
  have hu : Try.prog.underlying 22 = some (.slice 31) := by kernel_rfl
  obtain ⟨a, len, cap, rfl⟩ := okWide_slice hu hv
  obtain ⟨fuel, hf⟩ := h
  have hf : DataW.trod enc Try.prog w base (fun _ => true) held fuel 22 [.slice a len cap] = some (dd, p) := hf
  rcases Go.Deep.open_slice hu hf with ⟨e, ex⟩ | ⟨a', len', cap', m, n, D, Pl, e, hb, hl, hm, hmm, ex, hx⟩
  · cases e
    exact ⟨none, 0, [], rfl, fun k x hk => by simp at hk⟩
  · cases e
    have hmm : m = cap := hmm
    subst hmm
    have key : ∀ i, i < m → ∃ x : Ac, ∀ (j : Nat) (V : Value), x.cs[j]? = some V → w.cell? ((a'.add (i * 7)).add j) = some V := by
      intro i hi
      obtain ⟨cs', h1, h2⟩ := hx i hi
      obtain ⟨x, rfl⟩ := read_ac h2
      refine ⟨x, fun j V hj => ?_⟩
      obtain ⟨-, -, h5⟩ := World.cells?_some h1
      rw [cellsAc] at h5
      have hj3 : j < 7 := (List.getElem?_eq_some_iff.1 hj).1
      have h6 := h5 j hj3
      rw [h6, hj]
    obtain ⟨f, hf⟩ := Go.Deep.choose_lt key
    refine ⟨some a', m, (List.range len).map f, by simp, fun k x hk => ⟨a', rfl, ?_⟩⟩
    simp only [List.getElem?_map] at hk
    cases hr : (List.range len)[k]? with
    | none => rw [hr] at hk; cases hk
    | some i =>
      rw [hr] at hk
      obtain ⟨h10, h11⟩ := List.getElem?_eq_some_iff.1 hr
      simp only [List.getElem_range] at h11
      subst h11
      cases hk
      exact hf k (Nat.lt_of_lt_of_le (by simpa using h10) hl)
end
end Go.Proofs.Ytkckgjjhnjcffaa
