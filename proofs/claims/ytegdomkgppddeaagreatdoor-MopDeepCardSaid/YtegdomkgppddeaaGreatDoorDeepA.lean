/- MopDeep: its runs for some lengths. -/
import Derived.Test.YtegdomkgppddeaaGreatDoorDeepArgs
namespace Go.Proofs.YtegdomkgppddeaaGreatDoor
open Go.Sx Go.RowKit
set_option maxRecDepth 100000
theorem deep_at1_0 : deepAt 1 0 61 = true := by kernel_rfl
theorem deep_at2_0 : deepAt 2 0 61 = true := by kernel_rfl
theorem deep_at3_0 : deepAt 3 0 61 = true := by kernel_rfl
theorem deep_at4_0 : deepAt 4 0 61 = true := by kernel_rfl
theorem deep_at5_0 : deepAt 5 0 61 = true := by kernel_rfl
theorem deep_at6_0 : deepAt 6 0 61 = true := by kernel_rfl
theorem deep_at7_0 : deepAt 7 0 61 = true := by kernel_rfl
theorem deep_at8_0 : deepAt 8 0 61 = true := by kernel_rfl
theorem deep_at9_0 : deepAt 9 0 61 = true := by kernel_rfl
theorem deep_at10_0 : deepAt 10 0 61 = true := by kernel_rfl
theorem deep_at11_0 : deepAt 11 0 61 = true := by kernel_rfl
theorem deep_at12_0 : deepAt 12 0 61 = true := by kernel_rfl
theorem deep_at13_0 : deepAt 13 0 13 = true := by kernel_rfl
theorem deep_at13_1 : deepAt 13 13 61 = true := by kernel_rfl
theorem deep_at14_0 : deepAt 14 0 13 = true := by kernel_rfl
theorem deep_at14_1 : deepAt 14 13 61 = true := by kernel_rfl
theorem deep_at15_0 : deepAt 15 0 13 = true := by kernel_rfl
theorem deep_at15_1 : deepAt 15 13 61 = true := by kernel_rfl
theorem deep_at16_0 : deepAt 16 0 13 = true := by kernel_rfl
theorem deep_at16_1 : deepAt 16 13 61 = true := by kernel_rfl
theorem deep_at17_0 : deepAt 17 0 13 = true := by kernel_rfl
theorem deep_at17_1 : deepAt 17 13 61 = true := by kernel_rfl
end Go.Proofs.YtegdomkgppddeaaGreatDoor
