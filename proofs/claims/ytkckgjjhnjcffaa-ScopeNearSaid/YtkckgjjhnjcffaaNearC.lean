/- ScopeNear: its runs for some places. -/
import Derived.Test.YtkckgjjhnjcffaaNearArgs
namespace Go.Proofs.Ytkckgjjhnjcffaa
open Go.Sx Go.RowKit
set_option maxRecDepth 100000
theorem near_at19 : nearAt 19 = true := by kernel_rfl
theorem near_at20 : nearAt 20 = true := by kernel_rfl
theorem near_at21 : nearAt 21 = true := by kernel_rfl
theorem near_at22 : nearAt 22 = true := by kernel_rfl
theorem near_at23 : nearAt 23 = true := by kernel_rfl
theorem near_at24 : nearAt 24 = true := by kernel_rfl
theorem near_at25 : nearAt 25 = true := by kernel_rfl
theorem near_at26 : nearAt 26 = true := by kernel_rfl
theorem near_at27 : nearAt 27 = true := by kernel_rfl
theorem near_at28 : nearAt 28 = true := by kernel_rfl
theorem near_at29 : nearAt 29 = true := by kernel_rfl
theorem near_at30 : nearAt 30 = true := by kernel_rfl
end Go.Proofs.Ytkckgjjhnjcffaa
