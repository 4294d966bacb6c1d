/- NativesRevoke: its runs, told. -/
import Derived.Test.YtegdomkgppddeaaGreatDoorUvAskRun
import Derived.Test.YtegdomkgppddeaaGreatDoorUvMay
namespace Go.Proofs.YtegdomkgppddeaaGreatDoor
open Go.Sx Go.RowKit
set_option maxRecDepth 100000
theorem alive18_run : saysYes Tryz.prog 46 = true := by kernel_rfl
def cV : Contracts := yesC 46 (askC rvoC)
theorem cV_ok : ContractsOk Tryz.prog cV := by
  unfold cV
  exact @yesC_ok Tryz.prog (askC rvoC) (askC_ok rvoC_ok) 46 alive18_run
def cVL : Contracts := yesC 46 (mayC noC)
theorem cVL_ok : ContractsOk Tryz.prog cVL := by
  unfold cVL
  exact @yesC_ok Tryz.prog (mayC noC) (mayC_ok (noC_ok _)) 46 alive18_run
noncomputable def vGo (m : IX) (L : SV) (asm : Asm) (c : Nat) : Bool :=
  allTrue ((fk Tryz.prog cV 3000).call 11 [.int .i64 m, .agg (askS L)] (aSt asm c)).outs
noncomputable def vRun (m c : Nat) : Bool := vGo (.lit m) (vSV 0 c) (smalls (6 + (c - 1))) c
/-- A list longer than 8. -/
noncomputable def vLong (asm : Asm) : Bool :=
  allTrue ((fk Tryz.prog cVL 3000).call 11 [.int .i64 (.var 11), .agg (askS (.opq 0))] { asm := (.var 9, true) :: asm }).outs
theorem vLongs : vLong [(.ilt (.var 11) (.lit 1), false), (.ilt (.lit 13) (.var 11), false)] = true := by kernel_rfl
theorem vLow0 : vGo (.var 11) .nils [(.ilt (.var 11) (.lit 1), true)] 0 = true := by kernel_rfl
theorem vLow1 (k : Nat) : vGo (.var 11) (.slc 0 0 k none 3) [(.ilt (.var 11) (.lit 1), true)] 1 = true := by kernel_rfl
theorem vHigh0 : vGo (.var 11) .nils [(.ilt (.lit 13) (.var 11), true)] 0 = true := by kernel_rfl
theorem vHigh1 (k : Nat) : vGo (.var 11) (.slc 0 0 k none 3) [(.ilt (.lit 13) (.var 11), true)] 1 = true := by kernel_rfl
end Go.Proofs.YtegdomkgppddeaaGreatDoor
