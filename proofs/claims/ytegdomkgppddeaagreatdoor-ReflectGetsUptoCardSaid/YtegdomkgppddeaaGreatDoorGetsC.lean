/- ReflectGets: some of its runs. -/
import Derived.Test.YtegdomkgppddeaaGreatDoorGetsArgs
namespace Go.Proofs.YtegdomkgppddeaaGreatDoor
open Go.Sx Go.RowKit
set_option maxRecDepth 100000
theorem gets_5 : gLit 5 = true := by kernel_rfl
theorem gets_6 : gLit 6 = true := by kernel_rfl
theorem gets_low : gRun (.var 0) ((.ilt (.var 0) (.lit 0), true) :: gSmall) = true := by kernel_rfl
theorem gets_high : gRun (.var 0) ((.ilt (.lit 6) (.var 0), true) :: gSmall) = true := by kernel_rfl
end Go.Proofs.YtegdomkgppddeaaGreatDoor
