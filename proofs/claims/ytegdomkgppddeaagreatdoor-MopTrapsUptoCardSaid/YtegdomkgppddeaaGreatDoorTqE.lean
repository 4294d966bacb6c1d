/- MopTraps: some of its runs. -/
import Derived.Test.YtegdomkgppddeaaGreatDoorTqArgs
namespace Go.Proofs.YtegdomkgppddeaaGreatDoor
open Go.Sx Go.RowKit
set_option maxRecDepth 100000
theorem dp_000100_1 : dRun false false false true false false true = true := by kernel_rfl
theorem dp_001001_1 : dRun false false true false false true true = true := by kernel_rfl
theorem dp_001111_1 : dRun false false true true true true true = true := by kernel_rfl
theorem dp_010101_1 : dRun false true false true false true true = true := by kernel_rfl
theorem dp_011011_1 : dRun false true true false true true true = true := by kernel_rfl
theorem dp_100010_1 : dRun true false false false true false true = true := by kernel_rfl
theorem dp_100111_1 : dRun true false false true true true true = true := by kernel_rfl
theorem dp_101001_1 : dRun true false true false false true true = true := by kernel_rfl
theorem dp_101111_1 : dRun true false true true true true true = true := by kernel_rfl
theorem dp_110101_1 : dRun true true false true false true true = true := by kernel_rfl
theorem dp_111011_1 : dRun true true true false true true true = true := by kernel_rfl
theorem qp_3_1 : qRun 3 true = true := by kernel_rfl
theorem qp_8_1 : qRun 8 true = true := by kernel_rfl
theorem tp_13_7 : tRun 13 7 = true := by kernel_rfl
end Go.Proofs.YtegdomkgppddeaaGreatDoor
