/- ReflectGets: its runs, told. -/
import Derived.Test.YtegdomkgppddeaaGreatDoorUqIt
namespace Go.Proofs.YtegdomkgppddeaaGreatDoor
open Go.Sx Go.RowKit
set_option maxRecDepth 100000
theorem alive10_run : saysYes Tryz.prog 32 = true := by kernel_rfl
def cG : Contracts := itC (yesC 32 rvC)
theorem cG_ok : ContractsOk Tryz.prog cG := by
  unfold cG
  exact itC_ok (@yesC_ok Tryz.prog rvC rvC_ok 32 alive10_run)
def gSmall : Asm := [(.ilt (.slen (.var 0)) (.lit 1048577), true), (.ilt (.slen (.var 2)) (.lit 1048577), true)]
/-- The law on a key of kind x, and any value. -/
noncomputable def gRun (x : IX) (asm : Asm) : Bool :=
  allTrue ((fk Tryz.prog cG 3000).call 8 [.agg [.int .i64 x, .int .i64 (.var 1), .str (.var 0)], .agg [.int .i64 (.var 2), .int .i64 (.var 3), .str (.var 2)]] { asm := asm }).outs
noncomputable def gLit (k : Nat) : Bool := gRun (.lit k) gSmall
end Go.Proofs.YtegdomkgppddeaaGreatDoor
