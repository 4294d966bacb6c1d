/- MopTraps: some of its runs. -/
import Derived.Test.YtegdomkgppddeaaGreatDoorTqArgs
namespace Go.Proofs.YtegdomkgppddeaaGreatDoor
open Go.Sx Go.RowKit
set_option maxRecDepth 100000
theorem dp_000011_0 : dRun false false false false true true false = true := by kernel_rfl
theorem dp_001010_0 : dRun false false true false true false false = true := by kernel_rfl
theorem dp_010000_0 : dRun false true false false false false false = true := by kernel_rfl
theorem dp_010110_0 : dRun false true false true true false false = true := by kernel_rfl
theorem dp_011100_0 : dRun false true true true false false false = true := by kernel_rfl
theorem dp_100001_0 : dRun true false false false false true false = true := by kernel_rfl
theorem dp_100110_0 : dRun true false false true true false false = true := by kernel_rfl
theorem dp_101010_0 : dRun true false true false true false false = true := by kernel_rfl
theorem dp_110000_0 : dRun true true false false false false false = true := by kernel_rfl
theorem dp_110110_0 : dRun true true false true true false false = true := by kernel_rfl
theorem dp_111100_0 : dRun true true true true false false false = true := by kernel_rfl
theorem qp_10_0 : qRun 10 false = true := by kernel_rfl
theorem qp_4_0 : qRun 4 false = true := by kernel_rfl
theorem qp_9_0 : qRun 9 false = true := by kernel_rfl
theorem tp_12_6 : tRun 12 6 = true := by kernel_rfl
end Go.Proofs.YtegdomkgppddeaaGreatDoor
