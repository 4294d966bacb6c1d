/- MopBound: some of its runs. -/
import Derived.Test.YtegdomkgppddeaaGreatDoorBoundArgs
namespace Go.Proofs.YtegdomkgppddeaaGreatDoor
open Go.Sx Go.RowKit
set_option maxRecDepth 100000
theorem bmore_0_4 : bMore 0 4 = true := by kernel_rfl
theorem blit_0_5_3 : bLit 0 5 3 = true := by kernel_rfl
theorem bmore_1_1 : bMore 1 1 = true := by kernel_rfl
theorem blit_1_4_1 : bLit 1 4 1 = true := by kernel_rfl
theorem blit_1_6_0 : bLit 1 6 0 = true := by kernel_rfl
theorem blit_2_1_0 : bLit 2 1 0 = true := by kernel_rfl
theorem bmore_2_4 : bMore 2 4 = true := by kernel_rfl
theorem blit_2_5_2 : bLit 2 5 2 = true := by kernel_rfl
theorem blit_2_6_4 : bLit 2 6 4 = true := by kernel_rfl
theorem bmore_3_2 : bMore 3 2 = true := by kernel_rfl
theorem blit_3_3_3 : bLit 3 3 3 = true := by kernel_rfl
theorem blit_3_5_0 : bLit 3 5 0 = true := by kernel_rfl
theorem blit_3_6_1 : bLit 3 6 1 = true := by kernel_rfl
theorem blit_4_0_1 : bLit 4 0 1 = true := by kernel_rfl
theorem blit_4_2_1 : bLit 4 2 1 = true := by kernel_rfl
theorem blit_4_3_4 : bLit 4 3 4 = true := by kernel_rfl
theorem bmore_4_5 : bMore 4 5 = true := by kernel_rfl
theorem bmore_4_6 : bMore 4 6 = true := by kernel_rfl
theorem blit_4_6_7 : bLit 4 6 7 = true := by kernel_rfl
theorem blit_5_1_1 : bLit 5 1 1 = true := by kernel_rfl
theorem blit_5_2_4 : bLit 5 2 4 = true := by kernel_rfl
theorem bmore_5_4 : bMore 5 4 = true := by kernel_rfl
theorem bmore_5_5 : bMore 5 5 = true := by kernel_rfl
theorem blit_5_5_7 : bLit 5 5 7 = true := by kernel_rfl
theorem blit_6_1_0 : bLit 6 1 0 = true := by kernel_rfl
theorem blit_6_2_2 : bLit 6 2 2 = true := by kernel_rfl
theorem blit_6_3_3 : bLit 6 3 3 = true := by kernel_rfl
theorem blit_6_4_3 : bLit 6 4 3 = true := by kernel_rfl
theorem blit_5_6_2 : bLit 5 6 2 = true := by kernel_rfl
theorem blit_5_6_6 : bLit 5 6 6 = true := by kernel_rfl
theorem blit_6_5_0 : bLit 6 5 0 = true := by kernel_rfl
theorem blit_6_5_8 : bLit 6 5 8 = true := by kernel_rfl
theorem blit_6_6_6 : bLit 6 6 6 = true := by kernel_rfl
theorem bneg_0_4 : bNeg 0 4 = true := by kernel_rfl
theorem bneg_1_5 : bNeg 1 5 = true := by kernel_rfl
theorem bneg_2_6 : bNeg 2 6 = true := by kernel_rfl
theorem bneg_4_0 : bNeg 4 0 = true := by kernel_rfl
theorem bneg_5_1 : bNeg 5 1 = true := by kernel_rfl
theorem bneg_6_2 : bNeg 6 2 = true := by kernel_rfl
end Go.Proofs.YtegdomkgppddeaaGreatDoor
