/- MopDeep: its runs for some lengths. -/
import Derived.Test.YtegdomkgppddeaaGreatDoorDeepArgs
namespace Go.Proofs.YtegdomkgppddeaaGreatDoor
open Go.Sx Go.RowKit
set_option maxRecDepth 100000
theorem deep_at34_0 : deepAt 34 0 15 = true := by kernel_rfl
theorem deep_at34_1 : deepAt 34 15 28 = true := by kernel_rfl
theorem deep_at34_2 : deepAt 34 28 61 = true := by kernel_rfl
theorem deep_at35_0 : deepAt 35 0 15 = true := by kernel_rfl
theorem deep_at35_1 : deepAt 35 15 28 = true := by kernel_rfl
theorem deep_at35_2 : deepAt 35 28 61 = true := by kernel_rfl
theorem deep_at36_0 : deepAt 36 0 15 = true := by kernel_rfl
theorem deep_at36_1 : deepAt 36 15 28 = true := by kernel_rfl
theorem deep_at36_2 : deepAt 36 28 61 = true := by kernel_rfl
theorem deep_at37_0 : deepAt 37 0 15 = true := by kernel_rfl
theorem deep_at37_1 : deepAt 37 15 28 = true := by kernel_rfl
theorem deep_at37_2 : deepAt 37 28 61 = true := by kernel_rfl
end Go.Proofs.YtegdomkgppddeaaGreatDoor
