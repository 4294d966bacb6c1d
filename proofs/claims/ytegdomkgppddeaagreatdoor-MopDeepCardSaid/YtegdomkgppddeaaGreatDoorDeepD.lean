/- MopDeep: its runs for some lengths. -/
import Derived.Test.YtegdomkgppddeaaGreatDoorDeepArgs
namespace Go.Proofs.YtegdomkgppddeaaGreatDoor
open Go.Sx Go.RowKit
set_option maxRecDepth 100000
theorem deep_at30_0 : deepAt 30 0 15 = true := by kernel_rfl
theorem deep_at30_1 : deepAt 30 15 28 = true := by kernel_rfl
theorem deep_at30_2 : deepAt 30 28 61 = true := by kernel_rfl
theorem deep_at31_0 : deepAt 31 0 15 = true := by kernel_rfl
theorem deep_at31_1 : deepAt 31 15 28 = true := by kernel_rfl
theorem deep_at31_2 : deepAt 31 28 61 = true := by kernel_rfl
theorem deep_at32_0 : deepAt 32 0 15 = true := by kernel_rfl
theorem deep_at32_1 : deepAt 32 15 28 = true := by kernel_rfl
theorem deep_at32_2 : deepAt 32 28 61 = true := by kernel_rfl
theorem deep_at33_0 : deepAt 33 0 15 = true := by kernel_rfl
theorem deep_at33_1 : deepAt 33 15 28 = true := by kernel_rfl
theorem deep_at33_2 : deepAt 33 28 61 = true := by kernel_rfl
end Go.Proofs.YtegdomkgppddeaaGreatDoor
