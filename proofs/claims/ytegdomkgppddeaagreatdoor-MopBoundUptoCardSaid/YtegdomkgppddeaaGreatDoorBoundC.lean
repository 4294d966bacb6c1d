/- MopBound: some of its runs. -/
import Derived.Test.YtegdomkgppddeaaGreatDoorBoundArgs
namespace Go.Proofs.YtegdomkgppddeaaGreatDoor
open Go.Sx Go.RowKit
set_option maxRecDepth 100000
theorem bmore_0_2 : bMore 0 2 = true := by kernel_rfl
theorem blit_0_4_2 : bLit 0 4 2 = true := by kernel_rfl
theorem blit_0_6_1 : bLit 0 6 1 = true := by kernel_rfl
theorem bmore_1_3 : bMore 1 3 = true := by kernel_rfl
theorem blit_1_5_0 : bLit 1 5 0 = true := by kernel_rfl
theorem blit_1_6_3 : bLit 1 6 3 = true := by kernel_rfl
theorem blit_2_2_1 : bLit 2 2 1 = true := by kernel_rfl
theorem blit_2_4_2 : bLit 2 4 2 = true := by kernel_rfl
theorem bmore_2_6 : bMore 2 6 = true := by kernel_rfl
theorem blit_3_0_0 : bLit 3 0 0 = true := by kernel_rfl
theorem blit_3_2_2 : bLit 3 2 2 = true := by kernel_rfl
theorem blit_3_4_1 : bLit 3 4 1 = true := by kernel_rfl
theorem blit_3_5_3 : bLit 3 5 3 = true := by kernel_rfl
theorem blit_3_6_4 : bLit 3 6 4 = true := by kernel_rfl
theorem blit_4_1_0 : bLit 4 1 0 = true := by kernel_rfl
theorem bmore_4_3 : bMore 4 3 = true := by kernel_rfl
theorem blit_4_4_1 : bLit 4 4 1 = true := by kernel_rfl
theorem blit_4_5_2 : bLit 4 5 2 = true := by kernel_rfl
theorem blit_4_6_2 : bLit 4 6 2 = true := by kernel_rfl
theorem blit_5_0_1 : bLit 5 0 1 = true := by kernel_rfl
theorem bmore_5_2 : bMore 5 2 = true := by kernel_rfl
theorem blit_5_3_1 : bLit 5 3 1 = true := by kernel_rfl
theorem blit_5_4_2 : bLit 5 4 2 = true := by kernel_rfl
theorem blit_5_5_2 : bLit 5 5 2 = true := by kernel_rfl
theorem blit_6_0_1 : bLit 6 0 1 = true := by kernel_rfl
theorem blit_6_1_3 : bLit 6 1 3 = true := by kernel_rfl
theorem blit_6_2_5 : bLit 6 2 5 = true := by kernel_rfl
theorem blit_6_3_6 : bLit 6 3 6 = true := by kernel_rfl
theorem blit_6_4_6 : bLit 6 4 6 = true := by kernel_rfl
theorem blit_6_5_3 : bLit 6 5 3 = true := by kernel_rfl
theorem blit_6_6_1 : bLit 6 6 1 = true := by kernel_rfl
theorem blit_6_6_9 : bLit 6 6 9 = true := by kernel_rfl
theorem bneg_1_1 : bNeg 1 1 = true := by kernel_rfl
theorem bneg_2_2 : bNeg 2 2 = true := by kernel_rfl
theorem bneg_3_3 : bNeg 3 3 = true := by kernel_rfl
theorem bneg_4_4 : bNeg 4 4 = true := by kernel_rfl
theorem bneg_5_5 : bNeg 5 5 = true := by kernel_rfl
theorem bneg_6_6 : bNeg 6 6 = true := by kernel_rfl
end Go.Proofs.YtegdomkgppddeaaGreatDoor
