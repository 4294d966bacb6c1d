/- MopDeep: its runs for some lengths. -/
import Derived.Test.YtegdomkgppddeaaGreatDoorDeepArgs
namespace Go.Proofs.YtegdomkgppddeaaGreatDoor
open Go.Sx Go.RowKit
set_option maxRecDepth 100000
theorem deep_at38_0 : deepAt 38 0 15 = true := by kernel_rfl
theorem deep_at38_1 : deepAt 38 15 28 = true := by kernel_rfl
theorem deep_at38_2 : deepAt 38 28 61 = true := by kernel_rfl
theorem deep_at39_0 : deepAt 39 0 15 = true := by kernel_rfl
theorem deep_at39_1 : deepAt 39 15 28 = true := by kernel_rfl
theorem deep_at39_2 : deepAt 39 28 61 = true := by kernel_rfl
theorem deep_at40_0 : deepAt 40 0 15 = true := by kernel_rfl
theorem deep_at40_1 : deepAt 40 15 28 = true := by kernel_rfl
theorem deep_at40_2 : deepAt 40 28 61 = true := by kernel_rfl
end Go.Proofs.YtegdomkgppddeaaGreatDoor
