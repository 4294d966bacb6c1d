/- NativesBind: some of its runs. -/
import Derived.Test.YtegdomkgppddeaaGreatDoorNbArgs
namespace Go.Proofs.YtegdomkgppddeaaGreatDoor
open Go.Sx Go.RowKit
set_option maxRecDepth 100000
theorem nmore_2_1 : nMore 2 1 = true := by kernel_rfl
theorem nlit_2_4_1 : nLit 2 4 1 = true := by kernel_rfl
theorem nlit_2_6_0 : nLit 2 6 0 = true := by kernel_rfl
theorem nlit_3_1_0 : nLit 3 1 0 = true := by kernel_rfl
theorem nmore_3_4 : nMore 3 4 = true := by kernel_rfl
theorem nlit_3_5_2 : nLit 3 5 2 = true := by kernel_rfl
theorem nlit_3_6_4 : nLit 3 6 4 = true := by kernel_rfl
theorem nmore_4_2 : nMore 4 2 = true := by kernel_rfl
theorem nlit_4_3_3 : nLit 4 3 3 = true := by kernel_rfl
theorem nlit_4_5_0 : nLit 4 5 0 = true := by kernel_rfl
theorem nlit_4_6_1 : nLit 4 6 1 = true := by kernel_rfl
theorem nlit_5_0_1 : nLit 5 0 1 = true := by kernel_rfl
theorem nlit_5_2_1 : nLit 5 2 1 = true := by kernel_rfl
theorem nlit_5_3_4 : nLit 5 3 4 = true := by kernel_rfl
theorem nmore_5_5 : nMore 5 5 = true := by kernel_rfl
theorem nmore_5_6 : nMore 5 6 = true := by kernel_rfl
theorem nlit_5_6_7 : nLit 5 6 7 = true := by kernel_rfl
theorem nlit_6_1_1 : nLit 6 1 1 = true := by kernel_rfl
theorem nlit_6_2_4 : nLit 6 2 4 = true := by kernel_rfl
theorem nmore_6_4 : nMore 6 4 = true := by kernel_rfl
theorem nmore_6_5 : nMore 6 5 = true := by kernel_rfl
theorem nlit_6_5_7 : nLit 6 5 7 = true := by kernel_rfl
theorem nlit_6_6_6 : nLit 6 6 6 = true := by kernel_rfl
theorem nneg_5_4 : nNeg 5 4 = true := by kernel_rfl
theorem nneg_6_5 : nNeg 6 5 = true := by kernel_rfl
end Go.Proofs.YtegdomkgppddeaaGreatDoor
