/- MopTraps: some of its runs. -/
import Derived.Test.YtegdomkgppddeaaGreatDoorTqArgs
namespace Go.Proofs.YtegdomkgppddeaaGreatDoor
open Go.Sx Go.RowKit
set_option maxRecDepth 100000
theorem dp_000000_1 : dRun false false false false false false true = true := by kernel_rfl
theorem dp_000110_1 : dRun false false false true true false true = true := by kernel_rfl
theorem dp_001011_1 : dRun false false true false true true true = true := by kernel_rfl
theorem dp_010001_1 : dRun false true false false false true true = true := by kernel_rfl
theorem dp_010111_1 : dRun false true false true true true true = true := by kernel_rfl
theorem dp_011101_1 : dRun false true true true false true true = true := by kernel_rfl
theorem dp_101011_1 : dRun true false true false true true true = true := by kernel_rfl
theorem dp_110001_1 : dRun true true false false false true true = true := by kernel_rfl
theorem dp_110111_1 : dRun true true false true true true true = true := by kernel_rfl
theorem dp_111101_1 : dRun true true true true false true true = true := by kernel_rfl
theorem qp_1_1 : qRun 1 true = true := by kernel_rfl
theorem tp_13_1 : tRun 13 1 = true := by kernel_rfl
end Go.Proofs.YtegdomkgppddeaaGreatDoor
