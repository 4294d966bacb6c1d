/- ScopeNear: its runs for some places. -/
import Derived.Test.YtkckgjjhnjcffaaNearArgs
namespace Go.Proofs.Ytkckgjjhnjcffaa
open Go.Sx Go.RowKit
set_option maxRecDepth 100000
theorem near_at9 : nearAt 9 = true := by kernel_rfl
theorem near_at10 : nearAt 10 = true := by kernel_rfl
theorem near_at11 : nearAt 11 = true := by kernel_rfl
theorem near_at12 : nearAt 12 = true := by kernel_rfl
theorem near_at13 : nearAt 13 = true := by kernel_rfl
theorem near_at14 : nearAt 14 = true := by kernel_rfl
theorem near_at15 : nearAt 15 = true := by kernel_rfl
theorem near_at16 : nearAt 16 = true := by kernel_rfl
theorem near_at17 : nearAt 17 = true := by kernel_rfl
theorem near_at18 : nearAt 18 = true := by kernel_rfl
end Go.Proofs.Ytkckgjjhnjcffaa
