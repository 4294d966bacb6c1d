/- MopTraps: its runs of method 5 by n. -/
import Derived.Test.YtegdomkgppddeaaGreatDoorTqFive
namespace Go.Proofs.YtegdomkgppddeaaGreatDoor
open Go.Sx Go.RowKit
set_option maxRecDepth 100000
theorem fp_1_0_0 : qRun5 1 false false = true := by kernel_rfl
theorem fp_3_0_0 : qRun5 3 false false = true := by kernel_rfl
theorem fp_5_0_0 : qRun5 5 false false = true := by kernel_rfl
theorem fp_1_1_0 : qRun5 1 true false = true := by kernel_rfl
theorem fp_3_1_0 : qRun5 3 true false = true := by kernel_rfl
theorem fp_5_1_0 : qRun5 5 true false = true := by kernel_rfl
end Go.Proofs.YtegdomkgppddeaaGreatDoor
