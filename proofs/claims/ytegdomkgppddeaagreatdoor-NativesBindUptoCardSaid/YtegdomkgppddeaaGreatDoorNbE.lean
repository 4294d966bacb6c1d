/- NativesBind: some of its runs. -/
import Derived.Test.YtegdomkgppddeaaGreatDoorNbArgs
namespace Go.Proofs.YtegdomkgppddeaaGreatDoor
open Go.Sx Go.RowKit
set_option maxRecDepth 100000
theorem nmore_2_3 : nMore 2 3 = true := by kernel_rfl
theorem nlit_2_5_0 : nLit 2 5 0 = true := by kernel_rfl
theorem nlit_2_6_3 : nLit 2 6 3 = true := by kernel_rfl
theorem nlit_3_2_1 : nLit 3 2 1 = true := by kernel_rfl
theorem nlit_3_4_2 : nLit 3 4 2 = true := by kernel_rfl
theorem nmore_3_6 : nMore 3 6 = true := by kernel_rfl
theorem nlit_4_0_0 : nLit 4 0 0 = true := by kernel_rfl
theorem nlit_4_2_2 : nLit 4 2 2 = true := by kernel_rfl
theorem nlit_4_4_1 : nLit 4 4 1 = true := by kernel_rfl
theorem nlit_4_5_3 : nLit 4 5 3 = true := by kernel_rfl
theorem nlit_4_6_4 : nLit 4 6 4 = true := by kernel_rfl
theorem nlit_5_1_0 : nLit 5 1 0 = true := by kernel_rfl
theorem nmore_5_3 : nMore 5 3 = true := by kernel_rfl
theorem nlit_5_4_1 : nLit 5 4 1 = true := by kernel_rfl
theorem nlit_5_5_2 : nLit 5 5 2 = true := by kernel_rfl
theorem nlit_5_6_2 : nLit 5 6 2 = true := by kernel_rfl
theorem nlit_6_0_1 : nLit 6 0 1 = true := by kernel_rfl
theorem nmore_6_2 : nMore 6 2 = true := by kernel_rfl
theorem nlit_6_3_1 : nLit 6 3 1 = true := by kernel_rfl
theorem nlit_6_4_2 : nLit 6 4 2 = true := by kernel_rfl
theorem nlit_6_5_2 : nLit 6 5 2 = true := by kernel_rfl
theorem nlit_6_6_1 : nLit 6 6 1 = true := by kernel_rfl
theorem nneg_2_0 : nNeg 2 0 = true := by kernel_rfl
theorem nneg_2_4 : nNeg 2 4 = true := by kernel_rfl
theorem nneg_3_1 : nNeg 3 1 = true := by kernel_rfl
theorem nneg_3_5 : nNeg 3 5 = true := by kernel_rfl
theorem nneg_4_2 : nNeg 4 2 = true := by kernel_rfl
theorem nneg_4_6 : nNeg 4 6 = true := by kernel_rfl
theorem nneg_6_0 : nNeg 6 0 = true := by kernel_rfl
end Go.Proofs.YtegdomkgppddeaaGreatDoor
