/- MopTraps: some of its runs. -/
import Derived.Test.YtegdomkgppddeaaGreatDoorTqArgs
namespace Go.Proofs.YtegdomkgppddeaaGreatDoor
open Go.Sx Go.RowKit
set_option maxRecDepth 100000
theorem dp_000001_0 : dRun false false false false false true false = true := by kernel_rfl
theorem dp_000111_0 : dRun false false false true true true false = true := by kernel_rfl
theorem dp_001101_0 : dRun false false true true false true false = true := by kernel_rfl
theorem dp_010011_0 : dRun false true false false true true false = true := by kernel_rfl
theorem dp_011001_0 : dRun false true true false false true false = true := by kernel_rfl
theorem dp_011111_0 : dRun false true true true true true false = true := by kernel_rfl
theorem dp_100100_0 : dRun true false false true false false false = true := by kernel_rfl
theorem dp_101101_0 : dRun true false true true false true false = true := by kernel_rfl
theorem dp_110011_0 : dRun true true false false true true false = true := by kernel_rfl
theorem dp_111001_0 : dRun true true true false false true false = true := by kernel_rfl
theorem dp_111111_0 : dRun true true true true true true false = true := by kernel_rfl
theorem qp_11_0 : qRun 11 false = true := by kernel_rfl
theorem tp_12_3 : tRun 12 3 = true := by kernel_rfl
theorem tp_12_4 : tRun 12 4 = true := by kernel_rfl
end Go.Proofs.YtegdomkgppddeaaGreatDoor
