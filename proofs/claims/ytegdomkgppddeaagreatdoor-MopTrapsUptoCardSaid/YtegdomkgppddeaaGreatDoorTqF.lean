/- MopTraps: some of its runs. -/
import Derived.Test.YtegdomkgppddeaaGreatDoorTqArgs
namespace Go.Proofs.YtegdomkgppddeaaGreatDoor
open Go.Sx Go.RowKit
set_option maxRecDepth 100000
theorem dp_000100_0 : dRun false false false true false false false = true := by kernel_rfl
theorem dp_001001_0 : dRun false false true false false true false = true := by kernel_rfl
theorem dp_001111_0 : dRun false false true true true true false = true := by kernel_rfl
theorem dp_010101_0 : dRun false true false true false true false = true := by kernel_rfl
theorem dp_011011_0 : dRun false true true false true true false = true := by kernel_rfl
theorem dp_100010_0 : dRun true false false false true false false = true := by kernel_rfl
theorem dp_100111_0 : dRun true false false true true true false = true := by kernel_rfl
theorem dp_101001_0 : dRun true false true false false true false = true := by kernel_rfl
theorem dp_101111_0 : dRun true false true true true true false = true := by kernel_rfl
theorem dp_110101_0 : dRun true true false true false true false = true := by kernel_rfl
theorem dp_111011_0 : dRun true true true false true true false = true := by kernel_rfl
theorem qp_3_0 : qRun 3 false = true := by kernel_rfl
theorem qp_8_0 : qRun 8 false = true := by kernel_rfl
theorem tp_12_7 : tRun 12 7 = true := by kernel_rfl
end Go.Proofs.YtegdomkgppddeaaGreatDoor
