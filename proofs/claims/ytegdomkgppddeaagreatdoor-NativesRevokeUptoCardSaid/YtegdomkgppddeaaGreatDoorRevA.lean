/- NativesRevoke: some of its runs. -/
import Derived.Test.YtegdomkgppddeaaGreatDoorRevArgs
namespace Go.Proofs.YtegdomkgppddeaaGreatDoor
open Go.Sx Go.RowKit
set_option maxRecDepth 100000
theorem rv_1_1 : vRun 1 1 = true := by kernel_rfl
theorem rv_1_4 : vRun 1 4 = true := by kernel_rfl
theorem rv_1_9 : vRun 1 9 = true := by kernel_rfl
theorem rv_2_6 : vRun 2 6 = true := by kernel_rfl
theorem rv_2_7 : vRun 2 7 = true := by kernel_rfl
theorem rv_3_0 : vRun 3 0 = true := by kernel_rfl
theorem rv_3_5 : vRun 3 5 = true := by kernel_rfl
theorem rv_3_8 : vRun 3 8 = true := by kernel_rfl
theorem rv_4_2 : vRun 4 2 = true := by kernel_rfl
theorem rv_4_3 : vRun 4 3 = true := by kernel_rfl
theorem rv_5_1 : vRun 5 1 = true := by kernel_rfl
theorem rv_5_4 : vRun 5 4 = true := by kernel_rfl
theorem rv_5_9 : vRun 5 9 = true := by kernel_rfl
theorem rv_6_6 : vRun 6 6 = true := by kernel_rfl
theorem rv_6_7 : vRun 6 7 = true := by kernel_rfl
theorem rv_7_0 : vRun 7 0 = true := by kernel_rfl
theorem rv_7_5 : vRun 7 5 = true := by kernel_rfl
theorem rv_7_8 : vRun 7 8 = true := by kernel_rfl
theorem rv_8_2 : vRun 8 2 = true := by kernel_rfl
theorem rv_8_3 : vRun 8 3 = true := by kernel_rfl
theorem rv_9_1 : vRun 9 1 = true := by kernel_rfl
theorem rv_9_4 : vRun 9 4 = true := by kernel_rfl
theorem rv_9_9 : vRun 9 9 = true := by kernel_rfl
theorem rv_10_6 : vRun 10 6 = true := by kernel_rfl
theorem rv_10_7 : vRun 10 7 = true := by kernel_rfl
theorem rv_11_5 : vRun 11 5 = true := by kernel_rfl
theorem rv_12_2 : vRun 12 2 = true := by kernel_rfl
theorem rv_12_4 : vRun 12 4 = true := by kernel_rfl
theorem rv_12_7 : vRun 12 7 = true := by kernel_rfl
theorem rv_13_1 : vRun 13 1 = true := by kernel_rfl
theorem rv_13_2 : vRun 13 2 = true := by kernel_rfl
theorem rv_13_9 : vRun 13 9 = true := by kernel_rfl
end Go.Proofs.YtegdomkgppddeaaGreatDoor
