/- NativesBind: some of its runs. -/
import Derived.Test.YtegdomkgppddeaaGreatDoorNbArgs
namespace Go.Proofs.YtegdomkgppddeaaGreatDoor
open Go.Sx Go.RowKit
set_option maxRecDepth 100000
theorem nlit_2_2_0 : nLit 2 2 0 = true := by kernel_rfl
theorem nmore_2_5 : nMore 2 5 = true := by kernel_rfl
theorem nlit_2_6_2 : nLit 2 6 2 = true := by kernel_rfl
theorem nlit_3_2_0 : nLit 3 2 0 = true := by kernel_rfl
theorem nlit_3_4_1 : nLit 3 4 1 = true := by kernel_rfl
theorem nlit_3_5_4 : nLit 3 5 4 = true := by kernel_rfl
theorem nmore_4_0 : nMore 4 0 = true := by kernel_rfl
theorem nlit_4_2_1 : nLit 4 2 1 = true := by kernel_rfl
theorem nlit_4_4_0 : nLit 4 4 0 = true := by kernel_rfl
theorem nlit_4_5_2 : nLit 4 5 2 = true := by kernel_rfl
theorem nlit_4_6_3 : nLit 4 6 3 = true := by kernel_rfl
theorem nmore_5_1 : nMore 5 1 = true := by kernel_rfl
theorem nlit_5_2_3 : nLit 5 2 3 = true := by kernel_rfl
theorem nlit_5_4_0 : nLit 5 4 0 = true := by kernel_rfl
theorem nlit_5_5_1 : nLit 5 5 1 = true := by kernel_rfl
theorem nlit_5_6_1 : nLit 5 6 1 = true := by kernel_rfl
theorem nlit_6_0_0 : nLit 6 0 0 = true := by kernel_rfl
theorem nlit_6_1_3 : nLit 6 1 3 = true := by kernel_rfl
theorem nlit_6_3_0 : nLit 6 3 0 = true := by kernel_rfl
theorem nlit_6_4_1 : nLit 6 4 1 = true := by kernel_rfl
theorem nlit_6_5_1 : nLit 6 5 1 = true := by kernel_rfl
theorem nlit_6_6_0 : nLit 6 6 0 = true := by kernel_rfl
theorem nlit_6_6_8 : nLit 6 6 8 = true := by kernel_rfl
theorem nneg_5_6 : nNeg 5 6 = true := by kernel_rfl
end Go.Proofs.YtegdomkgppddeaaGreatDoor
