/- MopBound: some of its runs. -/
import Derived.Test.YtegdomkgppddeaaGreatDoorBoundArgs
namespace Go.Proofs.YtegdomkgppddeaaGreatDoor
open Go.Sx Go.RowKit
set_option maxRecDepth 100000
theorem blit_0_3_1 : bLit 0 3 1 = true := by kernel_rfl
theorem blit_0_5_2 : bLit 0 5 2 = true := by kernel_rfl
theorem bmore_1_0 : bMore 1 0 = true := by kernel_rfl
theorem blit_1_4_0 : bLit 1 4 0 = true := by kernel_rfl
theorem bmore_1_6 : bMore 1 6 = true := by kernel_rfl
theorem bmore_2_1 : bMore 2 1 = true := by kernel_rfl
theorem blit_2_3_2 : bLit 2 3 2 = true := by kernel_rfl
theorem blit_2_5_1 : bLit 2 5 1 = true := by kernel_rfl
theorem blit_2_6_3 : bLit 2 6 3 = true := by kernel_rfl
theorem blit_3_1_1 : bLit 3 1 1 = true := by kernel_rfl
theorem blit_3_3_2 : bLit 3 3 2 = true := by kernel_rfl
theorem bmore_3_5 : bMore 3 5 = true := by kernel_rfl
theorem blit_3_6_0 : bLit 3 6 0 = true := by kernel_rfl
theorem blit_4_0_0 : bLit 4 0 0 = true := by kernel_rfl
theorem blit_4_2_0 : bLit 4 2 0 = true := by kernel_rfl
theorem blit_4_3_3 : bLit 4 3 3 = true := by kernel_rfl
theorem blit_4_4_5 : bLit 4 4 5 = true := by kernel_rfl
theorem blit_4_5_6 : bLit 4 5 6 = true := by kernel_rfl
theorem blit_4_6_6 : bLit 4 6 6 = true := by kernel_rfl
theorem blit_5_1_0 : bLit 5 1 0 = true := by kernel_rfl
theorem blit_5_2_3 : bLit 5 2 3 = true := by kernel_rfl
theorem blit_5_3_5 : bLit 5 3 5 = true := by kernel_rfl
theorem blit_5_4_6 : bLit 5 4 6 = true := by kernel_rfl
theorem blit_5_5_6 : bLit 5 5 6 = true := by kernel_rfl
theorem bmore_6_1 : bMore 6 1 = true := by kernel_rfl
theorem blit_6_2_1 : bLit 6 2 1 = true := by kernel_rfl
theorem blit_6_3_2 : bLit 6 3 2 = true := by kernel_rfl
theorem blit_6_4_2 : bLit 6 4 2 = true := by kernel_rfl
theorem blit_5_6_1 : bLit 5 6 1 = true := by kernel_rfl
theorem blit_5_6_5 : bLit 5 6 5 = true := by kernel_rfl
theorem bmore_6_5 : bMore 6 5 = true := by kernel_rfl
theorem blit_6_5_7 : bLit 6 5 7 = true := by kernel_rfl
theorem blit_6_6_5 : bLit 6 6 5 = true := by kernel_rfl
theorem bneg_0_3 : bNeg 0 3 = true := by kernel_rfl
theorem bneg_1_4 : bNeg 1 4 = true := by kernel_rfl
theorem bneg_2_5 : bNeg 2 5 = true := by kernel_rfl
theorem bneg_3_6 : bNeg 3 6 = true := by kernel_rfl
theorem bneg_5_0 : bNeg 5 0 = true := by kernel_rfl
theorem bneg_6_1 : bNeg 6 1 = true := by kernel_rfl
end Go.Proofs.YtegdomkgppddeaaGreatDoor
