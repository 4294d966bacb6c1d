/- ReflectGets: some of its runs. -/
import Derived.Test.YtegdomkgppddeaaGreatDoorGetsArgs
namespace Go.Proofs.YtegdomkgppddeaaGreatDoor
open Go.Sx Go.RowKit
set_option maxRecDepth 100000
theorem gets_3 : gLit 3 = true := by kernel_rfl
theorem gets_4 : gLit 4 = true := by kernel_rfl
end Go.Proofs.YtegdomkgppddeaaGreatDoor
