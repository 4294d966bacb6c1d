/- DescTurns: its runs where the second descriptor is one of access. -/
import Derived.Test.YthjfdbbpgdflkaaSxDe5
namespace Go.Proofs.Ythjfdbbpgdflkaa
open Go.Sx Go.RowKit
set_option maxRecDepth 100000
theorem turns_access0 : run2 Try.prog c5 13 (.lit false) (.lit false) (.lit false) (.lit false) (.lit false) (.lit true) (.lit true) (.lit false) (.lit true) (.lit true) = true := by kernel_rfl
theorem turns_access1 : run2 Try.prog c5 13 (.lit false) (.lit false) (.lit false) (.lit true) (.lit false) (.lit true) (.lit true) (.lit false) (.lit true) (.lit true) = true := by kernel_rfl
theorem turns_access2 : run2 Try.prog c5 13 (.lit false) (.lit false) (.lit true) (.lit false) (.lit false) (.lit true) (.lit true) (.lit false) (.lit true) (.lit true) = true := by kernel_rfl
theorem turns_access3 : run2 Try.prog c5 13 (.lit false) (.lit false) (.lit true) (.lit true) (.lit false) (.lit true) (.lit true) (.lit false) (.lit true) (.lit true) = true := by kernel_rfl
theorem turns_access4 : run2 Try.prog c5 13 (.lit false) (.lit true) (.lit false) (.lit false) (.lit false) (.lit true) (.lit true) (.lit false) (.lit true) (.lit true) = true := by kernel_rfl
theorem turns_access5 : run2 Try.prog c5 13 (.lit false) (.lit true) (.lit false) (.lit true) (.lit false) (.lit true) (.lit true) (.lit false) (.lit true) (.lit true) = true := by kernel_rfl
theorem turns_access6 : run2 Try.prog c5 13 (.lit false) (.lit true) (.lit true) (.lit false) (.lit false) (.lit true) (.lit true) (.lit false) (.lit true) (.lit true) = true := by kernel_rfl
theorem turns_access7 : run2 Try.prog c5 13 (.lit false) (.lit true) (.lit true) (.lit true) (.lit false) (.lit true) (.lit true) (.lit false) (.lit true) (.lit true) = true := by kernel_rfl
theorem turns_access8 : run2 Try.prog c5 13 (.lit true) (.lit false) (.lit false) (.lit false) (.lit false) (.lit true) (.lit true) (.lit false) (.lit true) (.lit true) = true := by kernel_rfl
theorem turns_access9 : run2 Try.prog c5 13 (.lit true) (.lit false) (.lit false) (.lit true) (.lit false) (.lit true) (.lit true) (.lit false) (.lit true) (.lit true) = true := by kernel_rfl
theorem turns_access10 : run2 Try.prog c5 13 (.lit true) (.lit false) (.lit true) (.lit false) (.lit false) (.lit true) (.lit true) (.lit false) (.lit true) (.lit true) = true := by kernel_rfl
theorem turns_access11 : run2 Try.prog c5 13 (.lit true) (.lit false) (.lit true) (.lit true) (.lit false) (.lit true) (.lit true) (.lit false) (.lit true) (.lit true) = true := by kernel_rfl
theorem turns_access12 : run2 Try.prog c5 13 (.lit true) (.lit true) (.lit false) (.lit false) (.lit false) (.lit true) (.lit true) (.lit false) (.lit true) (.lit true) = true := by kernel_rfl
theorem turns_access13 : run2 Try.prog c5 13 (.lit true) (.lit true) (.lit false) (.lit true) (.lit false) (.lit true) (.lit true) (.lit false) (.lit true) (.lit true) = true := by kernel_rfl
theorem turns_access14 : run2 Try.prog c5 13 (.lit true) (.lit true) (.lit true) (.lit false) (.lit false) (.lit true) (.lit true) (.lit false) (.lit true) (.lit true) = true := by kernel_rfl
theorem turns_access15 : run2 Try.prog c5 13 (.lit true) (.lit true) (.lit true) (.lit true) (.lit false) (.lit true) (.lit true) (.lit false) (.lit true) (.lit true) = true := by kernel_rfl
theorem turns_access : ∀ d0 d1 d2 d3 : Bool, run2 Try.prog c5 13 (.lit d0) (.lit d1) (.lit d2) (.lit d3) (.lit false) (.lit true) (.lit true) (.lit false) (.lit true) (.lit true) = true := by
  intro d0 d1 d2 d3
  cases d0 <;> cases d1 <;> cases d2 <;> cases d3
  · exact turns_access0
  · exact turns_access1
  · exact turns_access2
  · exact turns_access3
  · exact turns_access4
  · exact turns_access5
  · exact turns_access6
  · exact turns_access7
  · exact turns_access8
  · exact turns_access9
  · exact turns_access10
  · exact turns_access11
  · exact turns_access12
  · exact turns_access13
  · exact turns_access14
  · exact turns_access15
end Go.Proofs.Ythjfdbbpgdflkaa
