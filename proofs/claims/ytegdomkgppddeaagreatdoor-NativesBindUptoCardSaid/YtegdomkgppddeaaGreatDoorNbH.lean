/- NativesBind: some of its runs. -/
import Derived.Test.YtegdomkgppddeaaGreatDoorNbArgs
namespace Go.Proofs.YtegdomkgppddeaaGreatDoor
open Go.Sx Go.RowKit
set_option maxRecDepth 100000
theorem nmore_2_4 : nMore 2 4 = true := by kernel_rfl
theorem nlit_2_5_3 : nLit 2 5 3 = true := by kernel_rfl
theorem nlit_3_0_0 : nLit 3 0 0 = true := by kernel_rfl
theorem nlit_3_3_1 : nLit 3 3 1 = true := by kernel_rfl
theorem nlit_3_5_0 : nLit 3 5 0 = true := by kernel_rfl
theorem nlit_3_6_2 : nLit 3 6 2 = true := by kernel_rfl
theorem nlit_4_1_0 : nLit 4 1 0 = true := by kernel_rfl
theorem nlit_4_3_1 : nLit 4 3 1 = true := by kernel_rfl
theorem nlit_4_4_4 : nLit 4 4 4 = true := by kernel_rfl
theorem nmore_4_6 : nMore 4 6 = true := by kernel_rfl
theorem nmore_5_0 : nMore 5 0 = true := by kernel_rfl
theorem nmore_5_2 : nMore 5 2 = true := by kernel_rfl
theorem nlit_5_3_2 : nLit 5 3 2 = true := by kernel_rfl
theorem nlit_5_4_4 : nLit 5 4 4 = true := by kernel_rfl
theorem nlit_5_5_5 : nLit 5 5 5 = true := by kernel_rfl
theorem nlit_5_6_5 : nLit 5 6 5 = true := by kernel_rfl
theorem nmore_6_1 : nMore 6 1 = true := by kernel_rfl
theorem nlit_6_2_2 : nLit 6 2 2 = true := by kernel_rfl
theorem nlit_6_3_4 : nLit 6 3 4 = true := by kernel_rfl
theorem nlit_6_4_5 : nLit 6 4 5 = true := by kernel_rfl
theorem nlit_6_5_5 : nLit 6 5 5 = true := by kernel_rfl
theorem nlit_6_6_4 : nLit 6 6 4 = true := by kernel_rfl
theorem nneg_2_3 : nNeg 2 3 = true := by kernel_rfl
theorem nneg_3_0 : nNeg 3 0 = true := by kernel_rfl
theorem nneg_3_4 : nNeg 3 4 = true := by kernel_rfl
theorem nneg_4_1 : nNeg 4 1 = true := by kernel_rfl
theorem nneg_4_5 : nNeg 4 5 = true := by kernel_rfl
theorem nneg_5_2 : nNeg 5 2 = true := by kernel_rfl
theorem nneg_6_3 : nNeg 6 3 = true := by kernel_rfl
end Go.Proofs.YtegdomkgppddeaaGreatDoor
