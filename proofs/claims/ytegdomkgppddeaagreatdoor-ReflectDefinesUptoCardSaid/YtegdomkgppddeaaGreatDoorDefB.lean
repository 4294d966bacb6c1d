/- ReflectDefines: some of its runs. -/
import Derived.Test.YtegdomkgppddeaaGreatDoorDefArgs
namespace Go.Proofs.YtegdomkgppddeaaGreatDoor
open Go.Sx Go.RowKit
set_option maxRecDepth 100000
theorem d_set : dGo (.var 4) (.lit false) (.lit true) (.var 7) (.var 8) (.var 9) = true := by kernel_rfl
theorem d_0001 : dGo (.lit false) (.lit false) (.lit false) (.lit false) (.lit false) (.lit true) = true := by kernel_rfl
theorem d_0011 : dGo (.lit false) (.lit false) (.lit false) (.lit false) (.lit true) (.lit true) = true := by kernel_rfl
theorem d_0101 : dGo (.lit false) (.lit false) (.lit false) (.lit true) (.lit false) (.lit true) = true := by kernel_rfl
theorem d_0111 : dGo (.lit false) (.lit false) (.lit false) (.lit true) (.lit true) (.lit true) = true := by kernel_rfl
theorem d_1001 : dGo (.lit true) (.lit false) (.lit false) (.lit false) (.lit false) (.lit true) = true := by kernel_rfl
theorem d_1011 : dGo (.lit true) (.lit false) (.lit false) (.lit false) (.lit true) (.lit true) = true := by kernel_rfl
theorem d_1101 : dGo (.lit true) (.lit false) (.lit false) (.lit true) (.lit false) (.lit true) = true := by kernel_rfl
theorem d_1111 : dGo (.lit true) (.lit false) (.lit false) (.lit true) (.lit true) (.lit true) = true := by kernel_rfl
end Go.Proofs.YtegdomkgppddeaaGreatDoor
