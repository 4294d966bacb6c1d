/- No function of the program starts a goroutine. -/
import Derived.Test.YthpgbehpchjohaaGreatDoorRows
import Derived.KernelRfl
import Derived.SevenTiedAt
namespace Go
theorem goes_none {P : Program} (h : P.funcs.toList.all (fun f => !f.goes) = true) (f : FuncId) : P.goes f = false := by
  have h' : ∀ fn ∈ P.funcs.toList, fn.goes = false := fun fn hfn => by
    have := List.all_eq_true.1 h fn hfn
    simpa using this
  have h1 : ∀ g : FuncId, (P.funcs[g]?).any Func.goes = false := fun g => by
    cases hg : P.funcs[g]? with
    | none => rfl
    | some fn => exact h' fn (List.mem_of_getElem? (by rw [Array.getElem?_toList]; exact hg))
  have h2 : P.funcs.any Func.goes = false := by
    rw [← Array.any_toList]
    exact List.any_eq_false.2 fun fn hfn => by rw [h' fn hfn]; simp
  unfold Program.goes
  rw [h2, Bool.and_false, Bool.or_false]
  exact List.any_eq_false.2 fun g _ => by rw [h1 g]; simp
theorem goesBy_none {P : Program} (h : P.funcs.toList.all (fun f => !f.goes) = true) (c : OpenClaim) (hs : c.start = .entering) : false = c.goesBy P := by
  unfold OpenClaim.goesBy Program.goesAt Program.goesFrom
  rw [hs, Bool.or_false]
  cases P.funcNamed c.func with
  | none => rfl
  | some f => exact (goes_none h f).symm
end Go
namespace Go.Proofs.YthpgbehpchjohaaGreatDoor
set_option maxRecDepth 100000
theorem noneGoes : Tryz.prog.funcs.toList.all (fun f => !f.goes) = true := by kernel_rfl
theorem noneGoesP : Tryz.pinned.checked.prog.funcs.toList.all (fun f => !f.goes) = true := noneGoes
#print axioms noneGoesP
end Go.Proofs.YthpgbehpchjohaaGreatDoor
