/- MopBound: its runs, told. -/
import Derived.Test.YtegdomkgppddeaaGreatDoorUzRvM
import Derived.Test.YtegdomkgppddeaaGreatDoorUzVs
namespace Go.Proofs.YtegdomkgppddeaaGreatDoor
open Go.Sx Go.RowKit
set_option maxRecDepth 100000
theorem alive9_run : saysYes Tryz.prog 15 = true := by kernel_rfl
def cB : Contracts := yesC 15 valC
theorem cB_ok : ContractsOk Tryz.prog cB := by
  unfold cB
  exact @yesC_ok Tryz.prog valC valC_ok 15 alive9_run
def vaS (i j : Nat) : SV := .agg [.int .i64 (.var i), .int .i64 (.var (i + 1)), .str (.var j)]
/-- The law on this and receiver, two slices and a number. -/
noncomputable def bGo (X Y : SV) (ox oy : SObj) (n : IX) (asm : Asm) : Bool :=
  allTrue ((fk Tryz.prog cB 3000).call 5 [vaS 0 0, vaS 2 1, X, Y, .int .i64 n] (vSt asm ox oy)).outs
/-- Slices of cx - 1 and of cy - 1 values (0: nil). -/
noncomputable def bRun (cx cy : Nat) (n : IX) (asm : Asm) : Bool :=
  bGo (vSV 0 cx) (vSV 1 cy) (vObj 5 2 cx) (vObj (5 + 2 * (cx - 1)) (2 + (cx - 1)) cy) n asm
noncomputable def bLit (cx cy n : Nat) : Bool := bRun cx cy (.lit n) (smalls (2 + ((cx - 1) + (cy - 1))))
noncomputable def bMore (cx cy : Nat) : Bool := bRun cx cy (.var 4) ((.ilt (.var 4) (.lit ((cx - 1) + (cy - 1) : Nat)), false) :: smalls (2 + ((cx - 1) + (cy - 1))))
noncomputable def bNeg (cx cy : Nat) : Bool := bRun cx cy (.var 4) [(.ilt (.var 4) (.lit 0), true)]
/-- The first slice too long: whatever the second is. -/
theorem bLongX0 (m : Nat) : bGo (.slc 0 0 (m + 6) none 3) .nils (vObj 5 2 1) .dead (.var 4) [] = true := by kernel_rfl
theorem bLongX1 (m k : Nat) : bGo (.slc 0 0 (m + 6) none 3) (.slc 1 0 k none 3) (vObj 5 2 1) (vObj 5 2 1) (.var 4) [] = true := by kernel_rfl
/-- The second slice too long. -/
theorem bLongY0 (m : Nat) : bGo .nils (.slc 1 0 (m + 6) none 3) .dead (vObj 5 2 1) (.var 4) [] = true := by kernel_rfl
theorem bLongY1 (m : Nat) : bGo (.slc 0 0 0 none 3) (.slc 1 0 (m + 6) none 3) (vObj 5 2 1) (vObj 5 2 1) (.var 4) [] = true := by kernel_rfl
theorem bLongY2 (m : Nat) : bGo (.slc 0 0 1 none 3) (.slc 1 0 (m + 6) none 3) (vObj 5 2 1) (vObj 5 2 1) (.var 4) [] = true := by kernel_rfl
theorem bLongY3 (m : Nat) : bGo (.slc 0 0 2 none 3) (.slc 1 0 (m + 6) none 3) (vObj 5 2 1) (vObj 5 2 1) (.var 4) [] = true := by kernel_rfl
theorem bLongY4 (m : Nat) : bGo (.slc 0 0 3 none 3) (.slc 1 0 (m + 6) none 3) (vObj 5 2 1) (vObj 5 2 1) (.var 4) [] = true := by kernel_rfl
theorem bLongY5 (m : Nat) : bGo (.slc 0 0 4 none 3) (.slc 1 0 (m + 6) none 3) (vObj 5 2 1) (vObj 5 2 1) (.var 4) [] = true := by kernel_rfl
theorem bLongY6 (m : Nat) : bGo (.slc 0 0 5 none 3) (.slc 1 0 (m + 6) none 3) (vObj 5 2 1) (vObj 5 2 1) (.var 4) [] = true := by kernel_rfl
end Go.Proofs.YtegdomkgppddeaaGreatDoor
