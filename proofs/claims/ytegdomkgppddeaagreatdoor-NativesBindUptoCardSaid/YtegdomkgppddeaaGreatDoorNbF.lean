/- NativesBind: some of its runs. -/
import Derived.Test.YtegdomkgppddeaaGreatDoorNbArgs
namespace Go.Proofs.YtegdomkgppddeaaGreatDoor
open Go.Sx Go.RowKit
set_option maxRecDepth 100000
theorem nlit_2_3_0 : nLit 2 3 0 = true := by kernel_rfl
theorem nlit_2_5_1 : nLit 2 5 1 = true := by kernel_rfl
theorem nlit_2_6_4 : nLit 2 6 4 = true := by kernel_rfl
theorem nmore_3_3 : nMore 3 3 = true := by kernel_rfl
theorem nlit_3_4_3 : nLit 3 4 3 = true := by kernel_rfl
theorem nlit_3_6_0 : nLit 3 6 0 = true := by kernel_rfl
theorem nlit_4_0_1 : nLit 4 0 1 = true := by kernel_rfl
theorem nmore_4_3 : nMore 4 3 = true := by kernel_rfl
theorem nlit_4_4_2 : nLit 4 4 2 = true := by kernel_rfl
theorem nlit_4_5_4 : nLit 4 5 4 = true := by kernel_rfl
theorem nlit_4_6_5 : nLit 4 6 5 = true := by kernel_rfl
theorem nlit_5_1_1 : nLit 5 1 1 = true := by kernel_rfl
theorem nlit_5_3_0 : nLit 5 3 0 = true := by kernel_rfl
theorem nlit_5_4_2 : nLit 5 4 2 = true := by kernel_rfl
theorem nlit_5_5_3 : nLit 5 5 3 = true := by kernel_rfl
theorem nlit_5_6_3 : nLit 5 6 3 = true := by kernel_rfl
theorem nlit_6_0_2 : nLit 6 0 2 = true := by kernel_rfl
theorem nlit_6_2_0 : nLit 6 2 0 = true := by kernel_rfl
theorem nlit_6_3_2 : nLit 6 3 2 = true := by kernel_rfl
theorem nlit_6_4_3 : nLit 6 4 3 = true := by kernel_rfl
theorem nlit_6_5_3 : nLit 6 5 3 = true := by kernel_rfl
theorem nlit_6_6_2 : nLit 6 6 2 = true := by kernel_rfl
theorem nneg_2_1 : nNeg 2 1 = true := by kernel_rfl
theorem nneg_2_5 : nNeg 2 5 = true := by kernel_rfl
theorem nneg_3_2 : nNeg 3 2 = true := by kernel_rfl
theorem nneg_3_6 : nNeg 3 6 = true := by kernel_rfl
theorem nneg_4_3 : nNeg 4 3 = true := by kernel_rfl
theorem nneg_5_0 : nNeg 5 0 = true := by kernel_rfl
theorem nneg_6_1 : nNeg 6 1 = true := by kernel_rfl
end Go.Proofs.YtegdomkgppddeaaGreatDoor
