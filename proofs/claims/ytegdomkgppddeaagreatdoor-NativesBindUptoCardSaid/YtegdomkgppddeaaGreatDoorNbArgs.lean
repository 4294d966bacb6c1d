/- NativesBind: its runs, told. -/
import Derived.Test.YtegdomkgppddeaaGreatDoorUzRvM
import Derived.Test.YtegdomkgppddeaaGreatDoorUzVs
namespace Go.Proofs.YtegdomkgppddeaaGreatDoor
open Go.Sx Go.RowKit
set_option maxRecDepth 100000
theorem alive18_run : saysYes Tryz.prog 46 = true := by kernel_rfl
def cN : Contracts := yesC 46 valC
theorem cN_ok : ContractsOk Tryz.prog cN := by
  unfold cN
  exact @yesC_ok Tryz.prog valC valC_ok 46 alive18_run
/-- The law on two slices and a number. -/
noncomputable def nGo (X Y : SV) (ox oy : SObj) (n : IX) (asm : Asm) : Bool :=
  allTrue ((fk Tryz.prog cN 3000).call 12 [X, Y, .int .i64 n] (vSt asm ox oy)).outs
/-- Slices of cx - 1 and of cy - 1 values (0: nil). -/
noncomputable def nRun (cx cy : Nat) (n : IX) (asm : Asm) : Bool :=
  nGo (vSV 0 cx) (vSV 1 cy) (vObj 1 0 cx) (vObj (1 + 2 * (cx - 1)) (0 + (cx - 1)) cy) n asm
noncomputable def nLit (cx cy n : Nat) : Bool := nRun cx cy (.lit n) (smalls ((cx - 1) + (cy - 1)))
noncomputable def nMore (cx cy : Nat) : Bool := nRun cx cy (.var 0) ((.ilt (.var 0) (.lit ((cx - 2) + (cy - 1) : Nat)), false) :: smalls ((cx - 1) + (cy - 1)))
noncomputable def nNeg (cx cy : Nat) : Bool := nRun cx cy (.var 0) [(.ilt (.var 0) (.lit 0), true)]
/-- Nothing in the first slice. -/
theorem nNone00 : nGo .nils .nils .dead .dead (.var 0) [] = true := by kernel_rfl
theorem nNone01 (k : Nat) : nGo .nils (.slc 1 0 k none 3) .dead (vObj 1 0 1) (.var 0) [] = true := by kernel_rfl
theorem nNone10 : nGo (.slc 0 0 0 none 3) .nils (vObj 1 0 1) .dead (.var 0) [] = true := by kernel_rfl
theorem nNone11 (k : Nat) : nGo (.slc 0 0 0 none 3) (.slc 1 0 k none 3) (vObj 1 0 1) (vObj 1 0 1) (.var 0) [] = true := by kernel_rfl
/-- The first slice too long: whatever the second is. -/
theorem nLongX0 (m : Nat) : nGo (.slc 0 0 (m + 6) none 3) .nils (vObj 1 0 1) .dead (.var 0) [] = true := by kernel_rfl
theorem nLongX1 (m k : Nat) : nGo (.slc 0 0 (m + 6) none 3) (.slc 1 0 k none 3) (vObj 1 0 1) (vObj 1 0 1) (.var 0) [] = true := by kernel_rfl
/-- The second slice too long. -/
theorem nLongY1 (m : Nat) : nGo (.slc 0 0 1 none 3) (.slc 1 0 (m + 6) none 3) (vObj 1 0 1) (vObj 1 0 1) (.var 0) [] = true := by kernel_rfl
theorem nLongY2 (m : Nat) : nGo (.slc 0 0 2 none 3) (.slc 1 0 (m + 6) none 3) (vObj 1 0 1) (vObj 1 0 1) (.var 0) [] = true := by kernel_rfl
theorem nLongY3 (m : Nat) : nGo (.slc 0 0 3 none 3) (.slc 1 0 (m + 6) none 3) (vObj 1 0 1) (vObj 1 0 1) (.var 0) [] = true := by kernel_rfl
theorem nLongY4 (m : Nat) : nGo (.slc 0 0 4 none 3) (.slc 1 0 (m + 6) none 3) (vObj 1 0 1) (vObj 1 0 1) (.var 0) [] = true := by kernel_rfl
theorem nLongY5 (m : Nat) : nGo (.slc 0 0 5 none 3) (.slc 1 0 (m + 6) none 3) (vObj 1 0 1) (vObj 1 0 1) (.var 0) [] = true := by kernel_rfl
end Go.Proofs.YtegdomkgppddeaaGreatDoor
