/- MopDeep: its runs, told. -/
import Derived.Test.YtegdomkgppddeaaGreatDoorProg
import Derived.Test.YtegdomkgppddeaaGreatDoorSyC
namespace Go.Proofs.YtegdomkgppddeaaGreatDoor
open Go.Sx Go.RowKit
set_option maxRecDepth 100000
theorem alive9_run : saysYes Tryz.prog 15 = true := by kernel_rfl
def c9 : Contracts := yesC 15 noC
theorem c9_ok : ContractsOk Tryz.prog c9 := by
  unfold c9
  exact @yesC_ok Tryz.prog noC (noC_ok _) 15 alive9_run
noncomputable def deepRun (a : IX) (asm : Asm) : Bool := allTrue ((fk Tryz.prog c9 3000).call 3 [.int .i64 a, .int .i64 (.var 0)] { asm := asm }).outs
/-- One length, all depths from lo to hi - 1. -/
noncomputable def deepAt (n lo hi : Int) : Bool := deepRun (.lit n) [(.ilt (.var 0) (.lit lo), false), (.ilt (.var 0) (.lit hi), true)]
theorem deep_low : deepRun (.var 1) [(.ilt (.var 1) (.lit 1), true)] = true := by kernel_rfl
theorem deep_high : deepRun (.var 1) [(.ilt (.var 1) (.lit 1), false), (.ilt (.var 1) (.lit 41), false)] = true := by kernel_rfl
theorem deep_less : deepRun (.var 1) [(.ilt (.var 1) (.lit 1), false), (.ilt (.var 1) (.lit 41), true), (.ilt (.var 0) (.lit 0), true)] = true := by kernel_rfl
theorem deep_more : deepRun (.var 1) [(.ilt (.var 1) (.lit 1), false), (.ilt (.var 1) (.lit 41), true), (.ilt (.var 0) (.lit 0), false), (.ilt (.var 0) (.lit 61), false)] = true := by kernel_rfl
end Go.Proofs.YtegdomkgppddeaaGreatDoor
