/- MopBound: some of its runs. -/
import Derived.Test.YtegdomkgppddeaaGreatDoorBoundArgs
namespace Go.Proofs.YtegdomkgppddeaaGreatDoor
open Go.Sx Go.RowKit
set_option maxRecDepth 100000
theorem bmore_0_3 : bMore 0 3 = true := by kernel_rfl
theorem blit_0_5_0 : bLit 0 5 0 = true := by kernel_rfl
theorem blit_0_6_3 : bLit 0 6 3 = true := by kernel_rfl
theorem blit_1_3_1 : bLit 1 3 1 = true := by kernel_rfl
theorem blit_1_5_2 : bLit 1 5 2 = true := by kernel_rfl
theorem bmore_2_0 : bMore 2 0 = true := by kernel_rfl
theorem blit_2_3_0 : bLit 2 3 0 = true := by kernel_rfl
theorem bmore_2_5 : bMore 2 5 = true := by kernel_rfl
theorem blit_2_6_1 : bLit 2 6 1 = true := by kernel_rfl
theorem bmore_3_1 : bMore 3 1 = true := by kernel_rfl
theorem blit_3_3_0 : bLit 3 3 0 = true := by kernel_rfl
theorem blit_3_4_3 : bLit 3 4 3 = true := by kernel_rfl
theorem blit_3_5_5 : bLit 3 5 5 = true := by kernel_rfl
theorem blit_3_6_6 : bLit 3 6 6 = true := by kernel_rfl
theorem blit_4_1_2 : bLit 4 1 2 = true := by kernel_rfl
theorem blit_4_3_1 : bLit 4 3 1 = true := by kernel_rfl
theorem blit_4_4_3 : bLit 4 4 3 = true := by kernel_rfl
theorem blit_4_5_4 : bLit 4 5 4 = true := by kernel_rfl
theorem blit_4_6_4 : bLit 4 6 4 = true := by kernel_rfl
theorem blit_5_0_3 : bLit 5 0 3 = true := by kernel_rfl
theorem blit_5_2_1 : bLit 5 2 1 = true := by kernel_rfl
theorem blit_5_3_3 : bLit 5 3 3 = true := by kernel_rfl
theorem blit_5_4_4 : bLit 5 4 4 = true := by kernel_rfl
theorem blit_5_5_4 : bLit 5 5 4 = true := by kernel_rfl
theorem blit_6_0_3 : bLit 6 0 3 = true := by kernel_rfl
theorem bmore_6_2 : bMore 6 2 = true := by kernel_rfl
theorem blit_6_3_0 : bLit 6 3 0 = true := by kernel_rfl
theorem blit_6_4_0 : bLit 6 4 0 = true := by kernel_rfl
theorem bmore_5_6 : bMore 5 6 = true := by kernel_rfl
theorem blit_5_6_3 : bLit 5 6 3 = true := by kernel_rfl
theorem blit_5_6_7 : bLit 5 6 7 = true := by kernel_rfl
theorem blit_6_5_5 : bLit 6 5 5 = true := by kernel_rfl
theorem blit_6_6_3 : bLit 6 6 3 = true := by kernel_rfl
theorem bneg_0_1 : bNeg 0 1 = true := by kernel_rfl
theorem bneg_1_2 : bNeg 1 2 = true := by kernel_rfl
theorem bneg_2_3 : bNeg 2 3 = true := by kernel_rfl
theorem bneg_3_4 : bNeg 3 4 = true := by kernel_rfl
theorem bneg_4_5 : bNeg 4 5 = true := by kernel_rfl
theorem bneg_5_6 : bNeg 5 6 = true := by kernel_rfl
end Go.Proofs.YtegdomkgppddeaaGreatDoor
