/- MopBound: some of its runs. -/
import Derived.Test.YtegdomkgppddeaaGreatDoorBoundArgs
namespace Go.Proofs.YtegdomkgppddeaaGreatDoor
open Go.Sx Go.RowKit
set_option maxRecDepth 100000
theorem bmore_0_1 : bMore 0 1 = true := by kernel_rfl
theorem blit_0_4_1 : bLit 0 4 1 = true := by kernel_rfl
theorem blit_0_6_0 : bLit 0 6 0 = true := by kernel_rfl
theorem blit_1_2_0 : bLit 1 2 0 = true := by kernel_rfl
theorem bmore_1_5 : bMore 1 5 = true := by kernel_rfl
theorem blit_1_6_2 : bLit 1 6 2 = true := by kernel_rfl
theorem blit_2_2_0 : bLit 2 2 0 = true := by kernel_rfl
theorem blit_2_4_1 : bLit 2 4 1 = true := by kernel_rfl
theorem blit_2_5_4 : bLit 2 5 4 = true := by kernel_rfl
theorem bmore_3_0 : bMore 3 0 = true := by kernel_rfl
theorem blit_3_2_1 : bLit 3 2 1 = true := by kernel_rfl
theorem blit_3_4_0 : bLit 3 4 0 = true := by kernel_rfl
theorem blit_3_5_2 : bLit 3 5 2 = true := by kernel_rfl
theorem blit_3_6_3 : bLit 3 6 3 = true := by kernel_rfl
theorem bmore_4_1 : bMore 4 1 = true := by kernel_rfl
theorem blit_4_2_3 : bLit 4 2 3 = true := by kernel_rfl
theorem blit_4_4_0 : bLit 4 4 0 = true := by kernel_rfl
theorem blit_4_5_1 : bLit 4 5 1 = true := by kernel_rfl
theorem blit_4_6_1 : bLit 4 6 1 = true := by kernel_rfl
theorem blit_5_0_0 : bLit 5 0 0 = true := by kernel_rfl
theorem blit_5_1_3 : bLit 5 1 3 = true := by kernel_rfl
theorem blit_5_3_0 : bLit 5 3 0 = true := by kernel_rfl
theorem blit_5_4_1 : bLit 5 4 1 = true := by kernel_rfl
theorem blit_5_5_1 : bLit 5 5 1 = true := by kernel_rfl
theorem blit_6_0_0 : bLit 6 0 0 = true := by kernel_rfl
theorem blit_6_1_2 : bLit 6 1 2 = true := by kernel_rfl
theorem blit_6_2_4 : bLit 6 2 4 = true := by kernel_rfl
theorem blit_6_3_5 : bLit 6 3 5 = true := by kernel_rfl
theorem blit_6_4_5 : bLit 6 4 5 = true := by kernel_rfl
theorem blit_6_5_2 : bLit 6 5 2 = true := by kernel_rfl
theorem blit_6_6_0 : bLit 6 6 0 = true := by kernel_rfl
theorem blit_6_6_8 : bLit 6 6 8 = true := by kernel_rfl
theorem bneg_1_0 : bNeg 1 0 = true := by kernel_rfl
theorem bneg_2_1 : bNeg 2 1 = true := by kernel_rfl
theorem bneg_3_2 : bNeg 3 2 = true := by kernel_rfl
theorem bneg_4_3 : bNeg 4 3 = true := by kernel_rfl
theorem bneg_5_4 : bNeg 5 4 = true := by kernel_rfl
theorem bneg_6_5 : bNeg 6 5 = true := by kernel_rfl
end Go.Proofs.YtegdomkgppddeaaGreatDoor
