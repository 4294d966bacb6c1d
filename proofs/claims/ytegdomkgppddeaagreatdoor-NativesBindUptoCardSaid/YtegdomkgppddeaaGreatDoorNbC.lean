/- NativesBind: some of its runs. -/
import Derived.Test.YtegdomkgppddeaaGreatDoorNbArgs
namespace Go.Proofs.YtegdomkgppddeaaGreatDoor
open Go.Sx Go.RowKit
set_option maxRecDepth 100000
theorem nmore_2_2 : nMore 2 2 = true := by kernel_rfl
theorem nlit_2_4_2 : nLit 2 4 2 = true := by kernel_rfl
theorem nlit_2_6_1 : nLit 2 6 1 = true := by kernel_rfl
theorem nmore_3_2 : nMore 3 2 = true := by kernel_rfl
theorem nlit_3_4_0 : nLit 3 4 0 = true := by kernel_rfl
theorem nlit_3_5_3 : nLit 3 5 3 = true := by kernel_rfl
theorem nlit_3_6_5 : nLit 3 6 5 = true := by kernel_rfl
theorem nlit_4_2_0 : nLit 4 2 0 = true := by kernel_rfl
theorem nmore_4_4 : nMore 4 4 = true := by kernel_rfl
theorem nlit_4_5_1 : nLit 4 5 1 = true := by kernel_rfl
theorem nlit_4_6_2 : nLit 4 6 2 = true := by kernel_rfl
theorem nlit_5_0_2 : nLit 5 0 2 = true := by kernel_rfl
theorem nlit_5_2_2 : nLit 5 2 2 = true := by kernel_rfl
theorem nmore_5_4 : nMore 5 4 = true := by kernel_rfl
theorem nlit_5_5_0 : nLit 5 5 0 = true := by kernel_rfl
theorem nlit_5_6_0 : nLit 5 6 0 = true := by kernel_rfl
theorem nmore_6_0 : nMore 6 0 = true := by kernel_rfl
theorem nlit_6_1_2 : nLit 6 1 2 = true := by kernel_rfl
theorem nmore_6_3 : nMore 6 3 = true := by kernel_rfl
theorem nlit_6_4_0 : nLit 6 4 0 = true := by kernel_rfl
theorem nlit_6_5_0 : nLit 6 5 0 = true := by kernel_rfl
theorem nmore_6_6 : nMore 6 6 = true := by kernel_rfl
theorem nlit_6_6_7 : nLit 6 6 7 = true := by kernel_rfl
theorem nneg_5_5 : nNeg 5 5 = true := by kernel_rfl
theorem nneg_6_6 : nNeg 6 6 = true := by kernel_rfl
end Go.Proofs.YtegdomkgppddeaaGreatDoor
