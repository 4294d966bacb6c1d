/- ReflectGets: some of its runs. -/
import Derived.Test.YtegdomkgppddeaaGreatDoorGetsArgs
namespace Go.Proofs.YtegdomkgppddeaaGreatDoor
open Go.Sx Go.RowKit
set_option maxRecDepth 100000
theorem gets_0 : gLit 0 = true := by kernel_rfl
theorem gets_1 : gLit 1 = true := by kernel_rfl
theorem gets_2 : gLit 2 = true := by kernel_rfl
end Go.Proofs.YtegdomkgppddeaaGreatDoor
