/- MopTraps: some of its runs. -/
import Derived.Test.YtegdomkgppddeaaGreatDoorTqArgs
namespace Go.Proofs.YtegdomkgppddeaaGreatDoor
open Go.Sx Go.RowKit
set_option maxRecDepth 100000
theorem dp_000001_1 : dRun false false false false false true true = true := by kernel_rfl
theorem dp_000111_1 : dRun false false false true true true true = true := by kernel_rfl
theorem dp_001101_1 : dRun false false true true false true true = true := by kernel_rfl
theorem dp_010011_1 : dRun false true false false true true true = true := by kernel_rfl
theorem dp_011001_1 : dRun false true true false false true true = true := by kernel_rfl
theorem dp_011111_1 : dRun false true true true true true true = true := by kernel_rfl
theorem dp_100100_1 : dRun true false false true false false true = true := by kernel_rfl
theorem dp_101101_1 : dRun true false true true false true true = true := by kernel_rfl
theorem dp_110011_1 : dRun true true false false true true true = true := by kernel_rfl
theorem dp_111001_1 : dRun true true true false false true true = true := by kernel_rfl
theorem dp_111111_1 : dRun true true true true true true true = true := by kernel_rfl
theorem qp_11_1 : qRun 11 true = true := by kernel_rfl
theorem tp_13_3 : tRun 13 3 = true := by kernel_rfl
theorem tp_13_4 : tRun 13 4 = true := by kernel_rfl
end Go.Proofs.YtegdomkgppddeaaGreatDoor
