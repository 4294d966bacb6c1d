/- ReflectDefines: its runs, told. -/
import Derived.Test.YtegdomkgppddeaaGreatDoorUxKey
namespace Go.Proofs.YtegdomkgppddeaaGreatDoor
open Go.Sx Go.RowKit
set_option maxRecDepth 100000
theorem alive10_run : saysYes Tryz.prog 32 = true := by kernel_rfl
noncomputable def cD0 : Contracts := truthC (yesC 32 rvC)
noncomputable def cD : Contracts := keyC cD0
theorem cD_ok : ContractsOk Tryz.prog cD := by
  unfold cD cD0
  exact keyC_ok (truthC_ok (@yesC_ok Tryz.prog rvC rvC_ok 32 alive10_run))
def dArgs (hv hg hs hw he hc : BX) : List SV := [.agg [.bool hv, .bool hg, .bool hs, .bool hw, .bool he, .bool hc, .int .i64 (.var 3), .int .i64 (.var 4), .str (.var 3), .int .i64 (.var 5), .int .i64 (.var 6), .str (.var 4), .int .i64 (.var 7), .int .i64 (.var 8), .str (.var 5), .bool (.var 1), .bool (.var 2), .bool (.var 3)], .agg [.int .i64 (.var 0), .int .i64 (.var 1), .str (.var 0)]]
def dSmall : Asm := [(.ilt (.slen (.var 0)) (.lit 1048577), true), (.ilt (.slen (.var 3)) (.lit 1048577), true)]
noncomputable def dGo (hv hg hs hw he hc : BX) : Bool := allTrue ((fk Tryz.prog cD 3000).call 9 (dArgs hv hg hs hw he hc) { asm := dSmall }).outs
end Go.Proofs.YtegdomkgppddeaaGreatDoor
