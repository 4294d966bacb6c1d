/- MopTraps: some of its runs. -/
import Derived.Test.YtegdomkgppddeaaGreatDoorTqArgs
namespace Go.Proofs.YtegdomkgppddeaaGreatDoor
open Go.Sx Go.RowKit
set_option maxRecDepth 100000
theorem dp_000010_0 : dRun false false false false true false false = true := by kernel_rfl
theorem dp_001100_0 : dRun false false true true false false false = true := by kernel_rfl
theorem dp_010010_0 : dRun false true false false true false false = true := by kernel_rfl
theorem dp_011000_0 : dRun false true true false false false false = true := by kernel_rfl
theorem dp_011110_0 : dRun false true true true true false false = true := by kernel_rfl
theorem dp_100000_0 : dRun true false false false false false false = true := by kernel_rfl
theorem dp_100101_0 : dRun true false false true false true false = true := by kernel_rfl
theorem dp_101100_0 : dRun true false true true false false false = true := by kernel_rfl
theorem dp_110010_0 : dRun true true false false true false false = true := by kernel_rfl
theorem dp_111000_0 : dRun true true true false false false false = true := by kernel_rfl
theorem dp_111110_0 : dRun true true true true true false false = true := by kernel_rfl
theorem qp_12_0 : qRun 12 false = true := by kernel_rfl
theorem tp_12_2 : tRun 12 2 = true := by kernel_rfl
theorem tp_12_5 : tRun 12 5 = true := by kernel_rfl
end Go.Proofs.YtegdomkgppddeaaGreatDoor
