/- NativesRevoke: some of its runs. -/
import Derived.Test.YtegdomkgppddeaaGreatDoorRevArgs
namespace Go.Proofs.YtegdomkgppddeaaGreatDoor
open Go.Sx Go.RowKit
set_option maxRecDepth 100000
theorem rv_1_2 : vRun 1 2 = true := by kernel_rfl
theorem rv_1_3 : vRun 1 3 = true := by kernel_rfl
theorem rv_2_1 : vRun 2 1 = true := by kernel_rfl
theorem rv_2_4 : vRun 2 4 = true := by kernel_rfl
theorem rv_2_9 : vRun 2 9 = true := by kernel_rfl
theorem rv_3_6 : vRun 3 6 = true := by kernel_rfl
theorem rv_3_7 : vRun 3 7 = true := by kernel_rfl
theorem rv_4_0 : vRun 4 0 = true := by kernel_rfl
theorem rv_4_5 : vRun 4 5 = true := by kernel_rfl
theorem rv_4_8 : vRun 4 8 = true := by kernel_rfl
theorem rv_5_2 : vRun 5 2 = true := by kernel_rfl
theorem rv_5_3 : vRun 5 3 = true := by kernel_rfl
theorem rv_6_1 : vRun 6 1 = true := by kernel_rfl
theorem rv_6_4 : vRun 6 4 = true := by kernel_rfl
theorem rv_6_9 : vRun 6 9 = true := by kernel_rfl
theorem rv_7_6 : vRun 7 6 = true := by kernel_rfl
theorem rv_7_7 : vRun 7 7 = true := by kernel_rfl
theorem rv_8_0 : vRun 8 0 = true := by kernel_rfl
theorem rv_8_5 : vRun 8 5 = true := by kernel_rfl
theorem rv_8_8 : vRun 8 8 = true := by kernel_rfl
theorem rv_9_2 : vRun 9 2 = true := by kernel_rfl
theorem rv_9_3 : vRun 9 3 = true := by kernel_rfl
theorem rv_10_1 : vRun 10 1 = true := by kernel_rfl
theorem rv_10_4 : vRun 10 4 = true := by kernel_rfl
theorem rv_10_9 : vRun 10 9 = true := by kernel_rfl
theorem rv_11_0 : vRun 11 0 = true := by kernel_rfl
theorem rv_11_6 : vRun 11 6 = true := by kernel_rfl
theorem rv_11_7 : vRun 11 7 = true := by kernel_rfl
theorem rv_11_8 : vRun 11 8 = true := by kernel_rfl
theorem rv_12_5 : vRun 12 5 = true := by kernel_rfl
theorem rv_13_4 : vRun 13 4 = true := by kernel_rfl
theorem rv_13_7 : vRun 13 7 = true := by kernel_rfl
end Go.Proofs.YtegdomkgppddeaaGreatDoor
