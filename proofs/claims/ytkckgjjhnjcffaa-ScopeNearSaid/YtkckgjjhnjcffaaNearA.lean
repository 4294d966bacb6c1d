/- ScopeNear: its runs for some places. -/
import Derived.Test.YtkckgjjhnjcffaaNearArgs
namespace Go.Proofs.Ytkckgjjhnjcffaa
open Go.Sx Go.RowKit
set_option maxRecDepth 100000
theorem near_at0 : nearAt 0 = true := by kernel_rfl
theorem near_at1 : nearAt 1 = true := by kernel_rfl
theorem near_at2 : nearAt 2 = true := by kernel_rfl
theorem near_at3 : nearAt 3 = true := by kernel_rfl
theorem near_at4 : nearAt 4 = true := by kernel_rfl
theorem near_at5 : nearAt 5 = true := by kernel_rfl
theorem near_at6 : nearAt 6 = true := by kernel_rfl
theorem near_at7 : nearAt 7 = true := by kernel_rfl
theorem near_at8 : nearAt 8 = true := by kernel_rfl
end Go.Proofs.Ytkckgjjhnjcffaa
