/- MopTraps: some of its runs. -/
import Derived.Test.YtegdomkgppddeaaGreatDoorTqArgs
namespace Go.Proofs.YtegdomkgppddeaaGreatDoor
open Go.Sx Go.RowKit
set_option maxRecDepth 100000
theorem dp_000011_1 : dRun false false false false true true true = true := by kernel_rfl
theorem dp_001010_1 : dRun false false true false true false true = true := by kernel_rfl
theorem dp_010000_1 : dRun false true false false false false true = true := by kernel_rfl
theorem dp_010110_1 : dRun false true false true true false true = true := by kernel_rfl
theorem dp_011100_1 : dRun false true true true false false true = true := by kernel_rfl
theorem dp_100001_1 : dRun true false false false false true true = true := by kernel_rfl
theorem dp_100110_1 : dRun true false false true true false true = true := by kernel_rfl
theorem dp_101010_1 : dRun true false true false true false true = true := by kernel_rfl
theorem dp_110000_1 : dRun true true false false false false true = true := by kernel_rfl
theorem dp_110110_1 : dRun true true false true true false true = true := by kernel_rfl
theorem dp_111100_1 : dRun true true true true false false true = true := by kernel_rfl
theorem qp_10_1 : qRun 10 true = true := by kernel_rfl
theorem qp_4_1 : qRun 4 true = true := by kernel_rfl
theorem qp_9_1 : qRun 9 true = true := by kernel_rfl
theorem tp_13_6 : tRun 13 6 = true := by kernel_rfl
end Go.Proofs.YtegdomkgppddeaaGreatDoor
