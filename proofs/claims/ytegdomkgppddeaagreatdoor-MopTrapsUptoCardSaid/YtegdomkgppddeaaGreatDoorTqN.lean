/- MopTraps: its runs of method 5 by n. -/
import Derived.Test.YtegdomkgppddeaaGreatDoorTqFive
namespace Go.Proofs.YtegdomkgppddeaaGreatDoor
open Go.Sx Go.RowKit
set_option maxRecDepth 100000
theorem fp_0_0_1 : qRun5 0 false true = true := by kernel_rfl
theorem fp_2_0_1 : qRun5 2 false true = true := by kernel_rfl
theorem fp_4_0_1 : qRun5 4 false true = true := by kernel_rfl
theorem fp_0_1_1 : qRun5 0 true true = true := by kernel_rfl
theorem fp_2_1_1 : qRun5 2 true true = true := by kernel_rfl
theorem fp_4_1_1 : qRun5 4 true true = true := by kernel_rfl
end Go.Proofs.YtegdomkgppddeaaGreatDoor
