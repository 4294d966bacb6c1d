/- NativesBind: some of its runs. -/
import Derived.Test.YtegdomkgppddeaaGreatDoorNbArgs
namespace Go.Proofs.YtegdomkgppddeaaGreatDoor
open Go.Sx Go.RowKit
set_option maxRecDepth 100000
theorem nmore_2_0 : nMore 2 0 = true := by kernel_rfl
theorem nlit_2_4_0 : nLit 2 4 0 = true := by kernel_rfl
theorem nmore_2_6 : nMore 2 6 = true := by kernel_rfl
theorem nmore_3_1 : nMore 3 1 = true := by kernel_rfl
theorem nlit_3_3_2 : nLit 3 3 2 = true := by kernel_rfl
theorem nlit_3_5_1 : nLit 3 5 1 = true := by kernel_rfl
theorem nlit_3_6_3 : nLit 3 6 3 = true := by kernel_rfl
theorem nlit_4_1_1 : nLit 4 1 1 = true := by kernel_rfl
theorem nlit_4_3_2 : nLit 4 3 2 = true := by kernel_rfl
theorem nmore_4_5 : nMore 4 5 = true := by kernel_rfl
theorem nlit_4_6_0 : nLit 4 6 0 = true := by kernel_rfl
theorem nlit_5_0_0 : nLit 5 0 0 = true := by kernel_rfl
theorem nlit_5_2_0 : nLit 5 2 0 = true := by kernel_rfl
theorem nlit_5_3_3 : nLit 5 3 3 = true := by kernel_rfl
theorem nlit_5_4_5 : nLit 5 4 5 = true := by kernel_rfl
theorem nlit_5_5_6 : nLit 5 5 6 = true := by kernel_rfl
theorem nlit_5_6_6 : nLit 5 6 6 = true := by kernel_rfl
theorem nlit_6_1_0 : nLit 6 1 0 = true := by kernel_rfl
theorem nlit_6_2_3 : nLit 6 2 3 = true := by kernel_rfl
theorem nlit_6_3_5 : nLit 6 3 5 = true := by kernel_rfl
theorem nlit_6_4_6 : nLit 6 4 6 = true := by kernel_rfl
theorem nlit_6_5_6 : nLit 6 5 6 = true := by kernel_rfl
theorem nlit_6_6_5 : nLit 6 6 5 = true := by kernel_rfl
theorem nneg_5_3 : nNeg 5 3 = true := by kernel_rfl
theorem nneg_6_4 : nNeg 6 4 = true := by kernel_rfl
end Go.Proofs.YtegdomkgppddeaaGreatDoor
