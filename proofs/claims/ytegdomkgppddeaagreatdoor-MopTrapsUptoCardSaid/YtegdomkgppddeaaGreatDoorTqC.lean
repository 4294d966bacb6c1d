/- MopTraps: some of its runs. -/
import Derived.Test.YtegdomkgppddeaaGreatDoorTqArgs
namespace Go.Proofs.YtegdomkgppddeaaGreatDoor
open Go.Sx Go.RowKit
set_option maxRecDepth 100000
theorem dp_000101_1 : dRun false false false true false true true = true := by kernel_rfl
theorem dp_001000_1 : dRun false false true false false false true = true := by kernel_rfl
theorem dp_001110_1 : dRun false false true true true false true = true := by kernel_rfl
theorem dp_010100_1 : dRun false true false true false false true = true := by kernel_rfl
theorem dp_011010_1 : dRun false true true false true false true = true := by kernel_rfl
theorem dp_100011_1 : dRun true false false false true true true = true := by kernel_rfl
theorem dp_101000_1 : dRun true false true false false false true = true := by kernel_rfl
theorem dp_101110_1 : dRun true false true true true false true = true := by kernel_rfl
theorem dp_110100_1 : dRun true true false true false false true = true := by kernel_rfl
theorem dp_111010_1 : dRun true true true false true false true = true := by kernel_rfl
theorem qp_2_1 : qRun 2 true = true := by kernel_rfl
theorem qp_7_1 : qRun 7 true = true := by kernel_rfl
theorem tp_13_8 : tRun 13 8 = true := by kernel_rfl
theorem tp_13_9 : tRun 13 9 = true := by kernel_rfl
end Go.Proofs.YtegdomkgppddeaaGreatDoor
