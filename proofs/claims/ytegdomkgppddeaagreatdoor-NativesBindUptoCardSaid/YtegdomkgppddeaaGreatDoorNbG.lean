/- NativesBind: some of its runs. -/
import Derived.Test.YtegdomkgppddeaaGreatDoorNbArgs
namespace Go.Proofs.YtegdomkgppddeaaGreatDoor
open Go.Sx Go.RowKit
set_option maxRecDepth 100000
theorem nlit_2_3_1 : nLit 2 3 1 = true := by kernel_rfl
theorem nlit_2_5_2 : nLit 2 5 2 = true := by kernel_rfl
theorem nmore_3_0 : nMore 3 0 = true := by kernel_rfl
theorem nlit_3_3_0 : nLit 3 3 0 = true := by kernel_rfl
theorem nmore_3_5 : nMore 3 5 = true := by kernel_rfl
theorem nlit_3_6_1 : nLit 3 6 1 = true := by kernel_rfl
theorem nmore_4_1 : nMore 4 1 = true := by kernel_rfl
theorem nlit_4_3_0 : nLit 4 3 0 = true := by kernel_rfl
theorem nlit_4_4_3 : nLit 4 4 3 = true := by kernel_rfl
theorem nlit_4_5_5 : nLit 4 5 5 = true := by kernel_rfl
theorem nlit_4_6_6 : nLit 4 6 6 = true := by kernel_rfl
theorem nlit_5_1_2 : nLit 5 1 2 = true := by kernel_rfl
theorem nlit_5_3_1 : nLit 5 3 1 = true := by kernel_rfl
theorem nlit_5_4_3 : nLit 5 4 3 = true := by kernel_rfl
theorem nlit_5_5_4 : nLit 5 5 4 = true := by kernel_rfl
theorem nlit_5_6_4 : nLit 5 6 4 = true := by kernel_rfl
theorem nlit_6_0_3 : nLit 6 0 3 = true := by kernel_rfl
theorem nlit_6_2_1 : nLit 6 2 1 = true := by kernel_rfl
theorem nlit_6_3_3 : nLit 6 3 3 = true := by kernel_rfl
theorem nlit_6_4_4 : nLit 6 4 4 = true := by kernel_rfl
theorem nlit_6_5_4 : nLit 6 5 4 = true := by kernel_rfl
theorem nlit_6_6_3 : nLit 6 6 3 = true := by kernel_rfl
theorem nneg_2_2 : nNeg 2 2 = true := by kernel_rfl
theorem nneg_2_6 : nNeg 2 6 = true := by kernel_rfl
theorem nneg_3_3 : nNeg 3 3 = true := by kernel_rfl
theorem nneg_4_0 : nNeg 4 0 = true := by kernel_rfl
theorem nneg_4_4 : nNeg 4 4 = true := by kernel_rfl
theorem nneg_5_1 : nNeg 5 1 = true := by kernel_rfl
theorem nneg_6_2 : nNeg 6 2 = true := by kernel_rfl
end Go.Proofs.YtegdomkgppddeaaGreatDoor
