/- ReflectDefines: some of its runs. -/
import Derived.Test.YtegdomkgppddeaaGreatDoorDefArgs
namespace Go.Proofs.YtegdomkgppddeaaGreatDoor
open Go.Sx Go.RowKit
set_option maxRecDepth 100000
theorem d_get : dGo (.var 4) (.lit true) (.var 6) (.var 7) (.var 8) (.var 9) = true := by kernel_rfl
theorem d_0000 : dGo (.lit false) (.lit false) (.lit false) (.lit false) (.lit false) (.lit false) = true := by kernel_rfl
theorem d_0010 : dGo (.lit false) (.lit false) (.lit false) (.lit false) (.lit true) (.lit false) = true := by kernel_rfl
theorem d_0100 : dGo (.lit false) (.lit false) (.lit false) (.lit true) (.lit false) (.lit false) = true := by kernel_rfl
theorem d_0110 : dGo (.lit false) (.lit false) (.lit false) (.lit true) (.lit true) (.lit false) = true := by kernel_rfl
theorem d_1000 : dGo (.lit true) (.lit false) (.lit false) (.lit false) (.lit false) (.lit false) = true := by kernel_rfl
theorem d_1010 : dGo (.lit true) (.lit false) (.lit false) (.lit false) (.lit true) (.lit false) = true := by kernel_rfl
theorem d_1100 : dGo (.lit true) (.lit false) (.lit false) (.lit true) (.lit false) (.lit false) = true := by kernel_rfl
theorem d_1110 : dGo (.lit true) (.lit false) (.lit false) (.lit true) (.lit true) (.lit false) = true := by kernel_rfl
end Go.Proofs.YtegdomkgppddeaaGreatDoor
