/- EvalCatch: a part of its runs. -/
import Derived.Test.YthpgbehpchjohaaGreatDoorCatchArgs
namespace Go.Proofs.YthpgbehpchjohaaGreatDoor
open Go.Sx
set_option maxRecDepth 100000
theorem Catch_at0_3_3 : Catch_run (.lit 0) (.lit 3) (.lit 3) [] = true := by kernel_rfl
theorem Catch_at1_3_3 : Catch_run (.lit 1) (.lit 3) (.lit 3) [] = true := by kernel_rfl
theorem Catch_at2_3_3 : Catch_run (.lit 2) (.lit 3) (.lit 3) [] = true := by kernel_rfl
end Go.Proofs.YthpgbehpchjohaaGreatDoor
