/- MopDeep: its runs for some lengths. -/
import Derived.Test.YtegdomkgppddeaaGreatDoorDeepArgs
namespace Go.Proofs.YtegdomkgppddeaaGreatDoor
open Go.Sx Go.RowKit
set_option maxRecDepth 100000
theorem deep_at18_0 : deepAt 18 0 13 = true := by kernel_rfl
theorem deep_at18_1 : deepAt 18 13 61 = true := by kernel_rfl
theorem deep_at19_0 : deepAt 19 0 13 = true := by kernel_rfl
theorem deep_at19_1 : deepAt 19 13 61 = true := by kernel_rfl
theorem deep_at20_0 : deepAt 20 0 13 = true := by kernel_rfl
theorem deep_at20_1 : deepAt 20 13 61 = true := by kernel_rfl
theorem deep_at21_0 : deepAt 21 0 13 = true := by kernel_rfl
theorem deep_at21_1 : deepAt 21 13 61 = true := by kernel_rfl
theorem deep_at22_0 : deepAt 22 0 13 = true := by kernel_rfl
theorem deep_at22_1 : deepAt 22 13 61 = true := by kernel_rfl
theorem deep_at23_0 : deepAt 23 0 13 = true := by kernel_rfl
theorem deep_at23_1 : deepAt 23 13 61 = true := by kernel_rfl
theorem deep_at24_0 : deepAt 24 0 13 = true := by kernel_rfl
theorem deep_at24_1 : deepAt 24 13 61 = true := by kernel_rfl
end Go.Proofs.YtegdomkgppddeaaGreatDoor
