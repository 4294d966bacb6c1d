/- MopBound: some of its runs. -/
import Derived.Test.YtegdomkgppddeaaGreatDoorBoundArgs
namespace Go.Proofs.YtegdomkgppddeaaGreatDoor
open Go.Sx Go.RowKit
set_option maxRecDepth 100000
theorem blit_0_3_0 : bLit 0 3 0 = true := by kernel_rfl
theorem blit_0_5_1 : bLit 0 5 1 = true := by kernel_rfl
theorem blit_0_6_4 : bLit 0 6 4 = true := by kernel_rfl
theorem bmore_1_4 : bMore 1 4 = true := by kernel_rfl
theorem blit_1_5_3 : bLit 1 5 3 = true := by kernel_rfl
theorem blit_2_0_0 : bLit 2 0 0 = true := by kernel_rfl
theorem blit_2_3_1 : bLit 2 3 1 = true := by kernel_rfl
theorem blit_2_5_0 : bLit 2 5 0 = true := by kernel_rfl
theorem blit_2_6_2 : bLit 2 6 2 = true := by kernel_rfl
theorem blit_3_1_0 : bLit 3 1 0 = true := by kernel_rfl
theorem blit_3_3_1 : bLit 3 3 1 = true := by kernel_rfl
theorem blit_3_4_4 : bLit 3 4 4 = true := by kernel_rfl
theorem bmore_3_6 : bMore 3 6 = true := by kernel_rfl
theorem bmore_4_0 : bMore 4 0 = true := by kernel_rfl
theorem bmore_4_2 : bMore 4 2 = true := by kernel_rfl
theorem blit_4_3_2 : bLit 4 3 2 = true := by kernel_rfl
theorem blit_4_4_4 : bLit 4 4 4 = true := by kernel_rfl
theorem blit_4_5_5 : bLit 4 5 5 = true := by kernel_rfl
theorem blit_4_6_5 : bLit 4 6 5 = true := by kernel_rfl
theorem bmore_5_1 : bMore 5 1 = true := by kernel_rfl
theorem blit_5_2_2 : bLit 5 2 2 = true := by kernel_rfl
theorem blit_5_3_4 : bLit 5 3 4 = true := by kernel_rfl
theorem blit_5_4_5 : bLit 5 4 5 = true := by kernel_rfl
theorem blit_5_5_5 : bLit 5 5 5 = true := by kernel_rfl
theorem blit_6_0_4 : bLit 6 0 4 = true := by kernel_rfl
theorem blit_6_2_0 : bLit 6 2 0 = true := by kernel_rfl
theorem blit_6_3_1 : bLit 6 3 1 = true := by kernel_rfl
theorem blit_6_4_1 : bLit 6 4 1 = true := by kernel_rfl
theorem blit_5_6_0 : bLit 5 6 0 = true := by kernel_rfl
theorem blit_5_6_4 : bLit 5 6 4 = true := by kernel_rfl
theorem blit_5_6_8 : bLit 5 6 8 = true := by kernel_rfl
theorem blit_6_5_6 : bLit 6 5 6 = true := by kernel_rfl
theorem blit_6_6_4 : bLit 6 6 4 = true := by kernel_rfl
theorem bneg_0_2 : bNeg 0 2 = true := by kernel_rfl
theorem bneg_1_3 : bNeg 1 3 = true := by kernel_rfl
theorem bneg_2_4 : bNeg 2 4 = true := by kernel_rfl
theorem bneg_3_5 : bNeg 3 5 = true := by kernel_rfl
theorem bneg_4_6 : bNeg 4 6 = true := by kernel_rfl
theorem bneg_6_0 : bNeg 6 0 = true := by kernel_rfl
end Go.Proofs.YtegdomkgppddeaaGreatDoor
