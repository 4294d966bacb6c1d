/- MopTraps: some of its runs. -/
import Derived.Test.YtegdomkgppddeaaGreatDoorTqArgs
namespace Go.Proofs.YtegdomkgppddeaaGreatDoor
open Go.Sx Go.RowKit
set_option maxRecDepth 100000
theorem dp_000010_1 : dRun false false false false true false true = true := by kernel_rfl
theorem dp_001100_1 : dRun false false true true false false true = true := by kernel_rfl
theorem dp_010010_1 : dRun false true false false true false true = true := by kernel_rfl
theorem dp_011000_1 : dRun false true true false false false true = true := by kernel_rfl
theorem dp_011110_1 : dRun false true true true true false true = true := by kernel_rfl
theorem dp_100000_1 : dRun true false false false false false true = true := by kernel_rfl
theorem dp_100101_1 : dRun true false false true false true true = true := by kernel_rfl
theorem dp_101100_1 : dRun true false true true false false true = true := by kernel_rfl
theorem dp_110010_1 : dRun true true false false true false true = true := by kernel_rfl
theorem dp_111000_1 : dRun true true true false false false true = true := by kernel_rfl
theorem dp_111110_1 : dRun true true true true true false true = true := by kernel_rfl
theorem qp_13_0 : qRun 13 false = true := by kernel_rfl
theorem tp_13_2 : tRun 13 2 = true := by kernel_rfl
theorem tp_13_5 : tRun 13 5 = true := by kernel_rfl
end Go.Proofs.YtegdomkgppddeaaGreatDoor
