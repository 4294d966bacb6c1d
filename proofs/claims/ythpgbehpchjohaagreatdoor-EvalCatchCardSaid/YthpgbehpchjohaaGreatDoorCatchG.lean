/- EvalCatch: a part of its runs. -/
import Derived.Test.YthpgbehpchjohaaGreatDoorCatchArgs
namespace Go.Proofs.YthpgbehpchjohaaGreatDoor
open Go.Sx
set_option maxRecDepth 100000
theorem Catch_at0_1_2 : Catch_run (.lit 0) (.lit 1) (.lit 2) [] = true := by kernel_rfl
theorem Catch_at1_1_2 : Catch_run (.lit 1) (.lit 1) (.lit 2) [] = true := by kernel_rfl
theorem Catch_at2_1_2 : Catch_run (.lit 2) (.lit 1) (.lit 2) [] = true := by kernel_rfl
end Go.Proofs.YthpgbehpchjohaaGreatDoor
