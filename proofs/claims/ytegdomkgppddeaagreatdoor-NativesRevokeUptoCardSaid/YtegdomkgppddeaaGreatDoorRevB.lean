/- NativesRevoke: some of its runs. -/
import Derived.Test.YtegdomkgppddeaaGreatDoorRevArgs
namespace Go.Proofs.YtegdomkgppddeaaGreatDoor
open Go.Sx Go.RowKit
set_option maxRecDepth 100000
theorem rv_1_6 : vRun 1 6 = true := by kernel_rfl
theorem rv_1_7 : vRun 1 7 = true := by kernel_rfl
theorem rv_2_0 : vRun 2 0 = true := by kernel_rfl
theorem rv_2_5 : vRun 2 5 = true := by kernel_rfl
theorem rv_2_8 : vRun 2 8 = true := by kernel_rfl
theorem rv_3_2 : vRun 3 2 = true := by kernel_rfl
theorem rv_3_3 : vRun 3 3 = true := by kernel_rfl
theorem rv_4_1 : vRun 4 1 = true := by kernel_rfl
theorem rv_4_4 : vRun 4 4 = true := by kernel_rfl
theorem rv_4_9 : vRun 4 9 = true := by kernel_rfl
theorem rv_5_6 : vRun 5 6 = true := by kernel_rfl
theorem rv_5_7 : vRun 5 7 = true := by kernel_rfl
theorem rv_6_0 : vRun 6 0 = true := by kernel_rfl
theorem rv_6_5 : vRun 6 5 = true := by kernel_rfl
theorem rv_6_8 : vRun 6 8 = true := by kernel_rfl
theorem rv_7_2 : vRun 7 2 = true := by kernel_rfl
theorem rv_7_3 : vRun 7 3 = true := by kernel_rfl
theorem rv_8_1 : vRun 8 1 = true := by kernel_rfl
theorem rv_8_4 : vRun 8 4 = true := by kernel_rfl
theorem rv_8_9 : vRun 8 9 = true := by kernel_rfl
theorem rv_9_6 : vRun 9 6 = true := by kernel_rfl
theorem rv_9_7 : vRun 9 7 = true := by kernel_rfl
theorem rv_10_0 : vRun 10 0 = true := by kernel_rfl
theorem rv_10_5 : vRun 10 5 = true := by kernel_rfl
theorem rv_10_8 : vRun 10 8 = true := by kernel_rfl
theorem rv_11_2 : vRun 11 2 = true := by kernel_rfl
theorem rv_11_3 : vRun 11 3 = true := by kernel_rfl
theorem rv_11_4 : vRun 11 4 = true := by kernel_rfl
theorem rv_12_1 : vRun 12 1 = true := by kernel_rfl
theorem rv_12_9 : vRun 12 9 = true := by kernel_rfl
theorem rv_13_0 : vRun 13 0 = true := by kernel_rfl
theorem rv_13_3 : vRun 13 3 = true := by kernel_rfl
theorem rv_13_8 : vRun 13 8 = true := by kernel_rfl
end Go.Proofs.YtegdomkgppddeaaGreatDoor
