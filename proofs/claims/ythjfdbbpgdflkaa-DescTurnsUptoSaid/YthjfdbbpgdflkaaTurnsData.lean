/- DescTurns: its runs where the second descriptor is one of data, or not whole. -/
import Derived.Test.YthjfdbbpgdflkaaSxDe5
namespace Go.Proofs.Ythjfdbbpgdflkaa
open Go.Sx Go.RowKit
set_option maxRecDepth 100000
def wholeBits (n0 n1 n2 n3 n4 n5 : Bool) : Bool := n4 && n5 && ((n0 && !n1 && !n2 && n3) || (!n0 && n1 && n2 && !n3))
theorem turns_no : ∀ n0 n1 n2 n3 n4 n5 : Bool, wholeBits n0 n1 n2 n3 n4 n5 = false → run2 Try.prog c5 13 (.var 9) (.var 10) (.var 11) (.var 12) (.lit n0) (.lit n1) (.lit n2) (.lit n3) (.lit n4) (.lit n5) = true := by
  intro n0 n1 n2 n3 n4 n5
  cases n0 <;> cases n1 <;> cases n2 <;> cases n3 <;> cases n4 <;> cases n5 <;> intro h <;> first | (cases h; done) | (clear h; kernel_rfl)
theorem turns_data0 : run2 Try.prog c5 13 (.lit false) (.lit false) (.lit false) (.lit false) (.lit true) (.lit false) (.lit false) (.lit true) (.lit true) (.lit true) = true := by kernel_rfl
theorem turns_data1 : run2 Try.prog c5 13 (.lit false) (.lit false) (.lit false) (.lit true) (.lit true) (.lit false) (.lit false) (.lit true) (.lit true) (.lit true) = true := by kernel_rfl
theorem turns_data2 : run2 Try.prog c5 13 (.lit false) (.lit false) (.lit true) (.lit false) (.lit true) (.lit false) (.lit false) (.lit true) (.lit true) (.lit true) = true := by kernel_rfl
theorem turns_data3 : run2 Try.prog c5 13 (.lit false) (.lit false) (.lit true) (.lit true) (.lit true) (.lit false) (.lit false) (.lit true) (.lit true) (.lit true) = true := by kernel_rfl
theorem turns_data4 : run2 Try.prog c5 13 (.lit false) (.lit true) (.lit false) (.lit false) (.lit true) (.lit false) (.lit false) (.lit true) (.lit true) (.lit true) = true := by kernel_rfl
theorem turns_data5 : run2 Try.prog c5 13 (.lit false) (.lit true) (.lit false) (.lit true) (.lit true) (.lit false) (.lit false) (.lit true) (.lit true) (.lit true) = true := by kernel_rfl
theorem turns_data6 : run2 Try.prog c5 13 (.lit false) (.lit true) (.lit true) (.lit false) (.lit true) (.lit false) (.lit false) (.lit true) (.lit true) (.lit true) = true := by kernel_rfl
theorem turns_data7 : run2 Try.prog c5 13 (.lit false) (.lit true) (.lit true) (.lit true) (.lit true) (.lit false) (.lit false) (.lit true) (.lit true) (.lit true) = true := by kernel_rfl
theorem turns_data8 : run2 Try.prog c5 13 (.lit true) (.lit false) (.lit false) (.lit false) (.lit true) (.lit false) (.lit false) (.lit true) (.lit true) (.lit true) = true := by kernel_rfl
theorem turns_data9 : run2 Try.prog c5 13 (.lit true) (.lit false) (.lit false) (.lit true) (.lit true) (.lit false) (.lit false) (.lit true) (.lit true) (.lit true) = true := by kernel_rfl
theorem turns_data10 : run2 Try.prog c5 13 (.lit true) (.lit false) (.lit true) (.lit false) (.lit true) (.lit false) (.lit false) (.lit true) (.lit true) (.lit true) = true := by kernel_rfl
theorem turns_data11 : run2 Try.prog c5 13 (.lit true) (.lit false) (.lit true) (.lit true) (.lit true) (.lit false) (.lit false) (.lit true) (.lit true) (.lit true) = true := by kernel_rfl
theorem turns_data12 : run2 Try.prog c5 13 (.lit true) (.lit true) (.lit false) (.lit false) (.lit true) (.lit false) (.lit false) (.lit true) (.lit true) (.lit true) = true := by kernel_rfl
theorem turns_data13 : run2 Try.prog c5 13 (.lit true) (.lit true) (.lit false) (.lit true) (.lit true) (.lit false) (.lit false) (.lit true) (.lit true) (.lit true) = true := by kernel_rfl
theorem turns_data14 : run2 Try.prog c5 13 (.lit true) (.lit true) (.lit true) (.lit false) (.lit true) (.lit false) (.lit false) (.lit true) (.lit true) (.lit true) = true := by kernel_rfl
theorem turns_data15 : run2 Try.prog c5 13 (.lit true) (.lit true) (.lit true) (.lit true) (.lit true) (.lit false) (.lit false) (.lit true) (.lit true) (.lit true) = true := by kernel_rfl
theorem turns_data : ∀ d0 d1 d2 d3 : Bool, run2 Try.prog c5 13 (.lit d0) (.lit d1) (.lit d2) (.lit d3) (.lit true) (.lit false) (.lit false) (.lit true) (.lit true) (.lit true) = true := by
  intro d0 d1 d2 d3
  cases d0 <;> cases d1 <;> cases d2 <;> cases d3
  · exact turns_data0
  · exact turns_data1
  · exact turns_data2
  · exact turns_data3
  · exact turns_data4
  · exact turns_data5
  · exact turns_data6
  · exact turns_data7
  · exact turns_data8
  · exact turns_data9
  · exact turns_data10
  · exact turns_data11
  · exact turns_data12
  · exact turns_data13
  · exact turns_data14
  · exact turns_data15
end Go.Proofs.Ythjfdbbpgdflkaa
