/- MopBound: some of its runs. -/
import Derived.Test.YtegdomkgppddeaaGreatDoorBoundArgs
namespace Go.Proofs.YtegdomkgppddeaaGreatDoor
open Go.Sx Go.RowKit
set_option maxRecDepth 100000
theorem blit_0_2_0 : bLit 0 2 0 = true := by kernel_rfl
theorem bmore_0_5 : bMore 0 5 = true := by kernel_rfl
theorem blit_0_6_2 : bLit 0 6 2 = true := by kernel_rfl
theorem blit_1_3_0 : bLit 1 3 0 = true := by kernel_rfl
theorem blit_1_5_1 : bLit 1 5 1 = true := by kernel_rfl
theorem blit_1_6_4 : bLit 1 6 4 = true := by kernel_rfl
theorem bmore_2_3 : bMore 2 3 = true := by kernel_rfl
theorem blit_2_4_3 : bLit 2 4 3 = true := by kernel_rfl
theorem blit_2_6_0 : bLit 2 6 0 = true := by kernel_rfl
theorem blit_3_0_1 : bLit 3 0 1 = true := by kernel_rfl
theorem bmore_3_3 : bMore 3 3 = true := by kernel_rfl
theorem blit_3_4_2 : bLit 3 4 2 = true := by kernel_rfl
theorem blit_3_5_4 : bLit 3 5 4 = true := by kernel_rfl
theorem blit_3_6_5 : bLit 3 6 5 = true := by kernel_rfl
theorem blit_4_1_1 : bLit 4 1 1 = true := by kernel_rfl
theorem blit_4_3_0 : bLit 4 3 0 = true := by kernel_rfl
theorem blit_4_4_2 : bLit 4 4 2 = true := by kernel_rfl
theorem blit_4_5_3 : bLit 4 5 3 = true := by kernel_rfl
theorem blit_4_6_3 : bLit 4 6 3 = true := by kernel_rfl
theorem blit_5_0_2 : bLit 5 0 2 = true := by kernel_rfl
theorem blit_5_2_0 : bLit 5 2 0 = true := by kernel_rfl
theorem blit_5_3_2 : bLit 5 3 2 = true := by kernel_rfl
theorem blit_5_4_3 : bLit 5 4 3 = true := by kernel_rfl
theorem blit_5_5_3 : bLit 5 5 3 = true := by kernel_rfl
theorem blit_6_0_2 : bLit 6 0 2 = true := by kernel_rfl
theorem blit_6_1_4 : bLit 6 1 4 = true := by kernel_rfl
theorem bmore_6_3 : bMore 6 3 = true := by kernel_rfl
theorem bmore_6_4 : bMore 6 4 = true := by kernel_rfl
theorem blit_6_4_7 : bLit 6 4 7 = true := by kernel_rfl
theorem blit_6_5_4 : bLit 6 5 4 = true := by kernel_rfl
theorem blit_6_6_2 : bLit 6 6 2 = true := by kernel_rfl
theorem bneg_0_0 : bNeg 0 0 = true := by kernel_rfl
theorem bneg_0_5 : bNeg 0 5 = true := by kernel_rfl
theorem bneg_1_6 : bNeg 1 6 = true := by kernel_rfl
theorem bneg_3_0 : bNeg 3 0 = true := by kernel_rfl
theorem bneg_4_1 : bNeg 4 1 = true := by kernel_rfl
theorem bneg_5_2 : bNeg 5 2 = true := by kernel_rfl
theorem bneg_6_3 : bNeg 6 3 = true := by kernel_rfl
end Go.Proofs.YtegdomkgppddeaaGreatDoor
