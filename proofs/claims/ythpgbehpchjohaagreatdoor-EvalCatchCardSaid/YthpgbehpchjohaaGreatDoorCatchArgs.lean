/- EvalCatch: its runs, told. -/
import Derived.Test.YthpgbehpchjohaaGreatDoorUfFl
namespace Go.Proofs.YthpgbehpchjohaaGreatDoor
open Go.Sx Go.RowKit
set_option maxRecDepth 100000
theorem Catch_alive : saysYesW Tryz.prog (flC noC) 6 = true := by kernel_rfl
noncomputable def Catch_c : Contracts := flC (yesC 6 noC)
theorem Catch_c_ok : ContractsOk Tryz.prog Catch_c := by
  unfold Catch_c
  exact flC_ok (@yesCW_ok Tryz.prog noC (flC noC) (noC_ok _) (flC_ok (noC_ok _)) 6 Catch_alive)
noncomputable def Catch_run (x0 : IX) (x1 : IX) (x2 : IX) (asm : Asm) : Bool := allTrue ((fk Tryz.prog Catch_c 6000).call 3 [.int .i64 x0, .int .i64 x1, .int .i64 x2] { asm := asm }).outs
theorem Catch_low0 : Catch_run (.var 0) (.var 1) (.var 2) [(.ilt (.var 0) (.lit 0), true)] = true := by kernel_rfl
theorem Catch_high0 : Catch_run (.var 0) (.var 1) (.var 2) [(.ilt (.var 0) (.lit 3), false)] = true := by kernel_rfl
theorem Catch_low1 : Catch_run (.var 0) (.var 1) (.var 2) [(.ilt (.var 1) (.lit 0), true)] = true := by kernel_rfl
theorem Catch_high1 : Catch_run (.var 0) (.var 1) (.var 2) [(.ilt (.var 1) (.lit 4), false)] = true := by kernel_rfl
theorem Catch_low2 : Catch_run (.var 0) (.var 1) (.var 2) [(.ilt (.var 2) (.lit 0), true)] = true := by kernel_rfl
theorem Catch_high2 : Catch_run (.var 0) (.var 1) (.var 2) [(.ilt (.var 2) (.lit 4), false)] = true := by kernel_rfl
end Go.Proofs.YthpgbehpchjohaaGreatDoor
