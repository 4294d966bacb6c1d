/- NativesRevoke: some of its runs. -/
import Derived.Test.YtegdomkgppddeaaGreatDoorRevArgs
namespace Go.Proofs.YtegdomkgppddeaaGreatDoor
open Go.Sx Go.RowKit
set_option maxRecDepth 100000
theorem rv_1_0 : vRun 1 0 = true := by kernel_rfl
theorem rv_1_5 : vRun 1 5 = true := by kernel_rfl
theorem rv_1_8 : vRun 1 8 = true := by kernel_rfl
theorem rv_2_2 : vRun 2 2 = true := by kernel_rfl
theorem rv_2_3 : vRun 2 3 = true := by kernel_rfl
theorem rv_3_1 : vRun 3 1 = true := by kernel_rfl
theorem rv_3_4 : vRun 3 4 = true := by kernel_rfl
theorem rv_3_9 : vRun 3 9 = true := by kernel_rfl
theorem rv_4_6 : vRun 4 6 = true := by kernel_rfl
theorem rv_4_7 : vRun 4 7 = true := by kernel_rfl
theorem rv_5_0 : vRun 5 0 = true := by kernel_rfl
theorem rv_5_5 : vRun 5 5 = true := by kernel_rfl
theorem rv_5_8 : vRun 5 8 = true := by kernel_rfl
theorem rv_6_2 : vRun 6 2 = true := by kernel_rfl
theorem rv_6_3 : vRun 6 3 = true := by kernel_rfl
theorem rv_7_1 : vRun 7 1 = true := by kernel_rfl
theorem rv_7_4 : vRun 7 4 = true := by kernel_rfl
theorem rv_7_9 : vRun 7 9 = true := by kernel_rfl
theorem rv_8_6 : vRun 8 6 = true := by kernel_rfl
theorem rv_8_7 : vRun 8 7 = true := by kernel_rfl
theorem rv_9_0 : vRun 9 0 = true := by kernel_rfl
theorem rv_9_5 : vRun 9 5 = true := by kernel_rfl
theorem rv_9_8 : vRun 9 8 = true := by kernel_rfl
theorem rv_10_2 : vRun 10 2 = true := by kernel_rfl
theorem rv_10_3 : vRun 10 3 = true := by kernel_rfl
theorem rv_11_1 : vRun 11 1 = true := by kernel_rfl
theorem rv_11_9 : vRun 11 9 = true := by kernel_rfl
theorem rv_12_0 : vRun 12 0 = true := by kernel_rfl
theorem rv_12_3 : vRun 12 3 = true := by kernel_rfl
theorem rv_12_6 : vRun 12 6 = true := by kernel_rfl
theorem rv_12_8 : vRun 12 8 = true := by kernel_rfl
theorem rv_13_5 : vRun 13 5 = true := by kernel_rfl
theorem rv_13_6 : vRun 13 6 = true := by kernel_rfl
end Go.Proofs.YtegdomkgppddeaaGreatDoor
