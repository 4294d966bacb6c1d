/- MopTraps: some of its runs. -/
import Derived.Test.YtegdomkgppddeaaGreatDoorTqArgs
namespace Go.Proofs.YtegdomkgppddeaaGreatDoor
open Go.Sx Go.RowKit
set_option maxRecDepth 100000
theorem dp_000101_0 : dRun false false false true false true false = true := by kernel_rfl
theorem dp_001000_0 : dRun false false true false false false false = true := by kernel_rfl
theorem dp_001110_0 : dRun false false true true true false false = true := by kernel_rfl
theorem dp_010100_0 : dRun false true false true false false false = true := by kernel_rfl
theorem dp_011010_0 : dRun false true true false true false false = true := by kernel_rfl
theorem dp_100011_0 : dRun true false false false true true false = true := by kernel_rfl
theorem dp_101000_0 : dRun true false true false false false false = true := by kernel_rfl
theorem dp_101110_0 : dRun true false true true true false false = true := by kernel_rfl
theorem dp_110100_0 : dRun true true false true false false false = true := by kernel_rfl
theorem dp_111010_0 : dRun true true true false true false false = true := by kernel_rfl
theorem qp_2_0 : qRun 2 false = true := by kernel_rfl
theorem qp_7_0 : qRun 7 false = true := by kernel_rfl
theorem tp_12_8 : tRun 12 8 = true := by kernel_rfl
theorem tp_12_9 : tRun 12 9 = true := by kernel_rfl
end Go.Proofs.YtegdomkgppddeaaGreatDoor
