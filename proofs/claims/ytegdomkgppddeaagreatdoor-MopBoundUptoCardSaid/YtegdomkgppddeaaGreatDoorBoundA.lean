/- MopBound: some of its runs. -/
import Derived.Test.YtegdomkgppddeaaGreatDoorBoundArgs
namespace Go.Proofs.YtegdomkgppddeaaGreatDoor
open Go.Sx Go.RowKit
set_option maxRecDepth 100000
theorem bmore_0_0 : bMore 0 0 = true := by kernel_rfl
theorem blit_0_4_0 : bLit 0 4 0 = true := by kernel_rfl
theorem bmore_0_6 : bMore 0 6 = true := by kernel_rfl
theorem bmore_1_2 : bMore 1 2 = true := by kernel_rfl
theorem blit_1_4_2 : bLit 1 4 2 = true := by kernel_rfl
theorem blit_1_6_1 : bLit 1 6 1 = true := by kernel_rfl
theorem bmore_2_2 : bMore 2 2 = true := by kernel_rfl
theorem blit_2_4_0 : bLit 2 4 0 = true := by kernel_rfl
theorem blit_2_5_3 : bLit 2 5 3 = true := by kernel_rfl
theorem blit_2_6_5 : bLit 2 6 5 = true := by kernel_rfl
theorem blit_3_2_0 : bLit 3 2 0 = true := by kernel_rfl
theorem bmore_3_4 : bMore 3 4 = true := by kernel_rfl
theorem blit_3_5_1 : bLit 3 5 1 = true := by kernel_rfl
theorem blit_3_6_2 : bLit 3 6 2 = true := by kernel_rfl
theorem blit_4_0_2 : bLit 4 0 2 = true := by kernel_rfl
theorem blit_4_2_2 : bLit 4 2 2 = true := by kernel_rfl
theorem bmore_4_4 : bMore 4 4 = true := by kernel_rfl
theorem blit_4_5_0 : bLit 4 5 0 = true := by kernel_rfl
theorem blit_4_6_0 : bLit 4 6 0 = true := by kernel_rfl
theorem bmore_5_0 : bMore 5 0 = true := by kernel_rfl
theorem blit_5_1_2 : bLit 5 1 2 = true := by kernel_rfl
theorem bmore_5_3 : bMore 5 3 = true := by kernel_rfl
theorem blit_5_4_0 : bLit 5 4 0 = true := by kernel_rfl
theorem blit_5_5_0 : bLit 5 5 0 = true := by kernel_rfl
theorem bmore_6_0 : bMore 6 0 = true := by kernel_rfl
theorem blit_6_1_1 : bLit 6 1 1 = true := by kernel_rfl
theorem blit_6_2_3 : bLit 6 2 3 = true := by kernel_rfl
theorem blit_6_3_4 : bLit 6 3 4 = true := by kernel_rfl
theorem blit_6_4_4 : bLit 6 4 4 = true := by kernel_rfl
theorem blit_6_5_1 : bLit 6 5 1 = true := by kernel_rfl
theorem bmore_6_6 : bMore 6 6 = true := by kernel_rfl
theorem blit_6_6_7 : bLit 6 6 7 = true := by kernel_rfl
theorem bneg_0_6 : bNeg 0 6 = true := by kernel_rfl
theorem bneg_2_0 : bNeg 2 0 = true := by kernel_rfl
theorem bneg_3_1 : bNeg 3 1 = true := by kernel_rfl
theorem bneg_4_2 : bNeg 4 2 = true := by kernel_rfl
theorem bneg_5_3 : bNeg 5 3 = true := by kernel_rfl
theorem bneg_6_4 : bNeg 6 4 = true := by kernel_rfl
end Go.Proofs.YtegdomkgppddeaaGreatDoor
