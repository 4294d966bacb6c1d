/- MopTraps: some of its runs. -/
import Derived.Test.YtegdomkgppddeaaGreatDoorTqArgs
namespace Go.Proofs.YtegdomkgppddeaaGreatDoor
open Go.Sx Go.RowKit
set_option maxRecDepth 100000
theorem dp_000000_0 : dRun false false false false false false false = true := by kernel_rfl
theorem dp_000110_0 : dRun false false false true true false false = true := by kernel_rfl
theorem dp_001011_0 : dRun false false true false true true false = true := by kernel_rfl
theorem dp_010001_0 : dRun false true false false false true false = true := by kernel_rfl
theorem dp_010111_0 : dRun false true false true true true false = true := by kernel_rfl
theorem dp_011101_0 : dRun false true true true false true false = true := by kernel_rfl
theorem dp_101011_0 : dRun true false true false true true false = true := by kernel_rfl
theorem dp_110001_0 : dRun true true false false false true false = true := by kernel_rfl
theorem dp_110111_0 : dRun true true false true true true false = true := by kernel_rfl
theorem dp_111101_0 : dRun true true true true false true false = true := by kernel_rfl
theorem qp_1_0 : qRun 1 false = true := by kernel_rfl
theorem tp_12_1 : tRun 12 1 = true := by kernel_rfl
end Go.Proofs.YtegdomkgppddeaaGreatDoor
