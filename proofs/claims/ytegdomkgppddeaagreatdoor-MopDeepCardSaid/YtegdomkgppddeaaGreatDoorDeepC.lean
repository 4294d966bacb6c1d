/- MopDeep: its runs for some lengths. -/
import Derived.Test.YtegdomkgppddeaaGreatDoorDeepArgs
namespace Go.Proofs.YtegdomkgppddeaaGreatDoor
open Go.Sx Go.RowKit
set_option maxRecDepth 100000
theorem deep_at25_0 : deepAt 25 0 15 = true := by kernel_rfl
theorem deep_at25_1 : deepAt 25 15 28 = true := by kernel_rfl
theorem deep_at25_2 : deepAt 25 28 61 = true := by kernel_rfl
theorem deep_at26_0 : deepAt 26 0 15 = true := by kernel_rfl
theorem deep_at26_1 : deepAt 26 15 28 = true := by kernel_rfl
theorem deep_at26_2 : deepAt 26 28 61 = true := by kernel_rfl
theorem deep_at27_0 : deepAt 27 0 15 = true := by kernel_rfl
theorem deep_at27_1 : deepAt 27 15 28 = true := by kernel_rfl
theorem deep_at27_2 : deepAt 27 28 61 = true := by kernel_rfl
theorem deep_at28_0 : deepAt 28 0 15 = true := by kernel_rfl
theorem deep_at28_1 : deepAt 28 15 28 = true := by kernel_rfl
theorem deep_at28_2 : deepAt 28 28 61 = true := by kernel_rfl
theorem deep_at29_0 : deepAt 29 0 15 = true := by kernel_rfl
theorem deep_at29_1 : deepAt 29 15 28 = true := by kernel_rfl
theorem deep_at29_2 : deepAt 29 28 61 = true := by kernel_rfl
end Go.Proofs.YtegdomkgppddeaaGreatDoor
