/- ScopeNear: its runs for some places. -/
import Derived.Test.YtkckgjjhnjcffaaNearArgs
namespace Go.Proofs.Ytkckgjjhnjcffaa
open Go.Sx Go.RowKit
set_option maxRecDepth 100000
theorem near_at31 : nearAt 31 = true := by kernel_rfl
theorem near_at32 : nearAt 32 = true := by kernel_rfl
theorem near_at33 : nearAt 33 = true := by kernel_rfl
theorem near_at34 : nearAt 34 = true := by kernel_rfl
theorem near_at35 : nearAt 35 = true := by kernel_rfl
theorem near_at36 : nearAt 36 = true := by kernel_rfl
theorem near_at37 : nearAt 37 = true := by kernel_rfl
theorem near_at38 : nearAt 38 = true := by kernel_rfl
theorem near_at39 : nearAt 39 = true := by kernel_rfl
theorem near_at40 : nearAt 40 = true := by kernel_rfl
theorem near_at41 : nearAt 41 = true := by kernel_rfl
theorem near_at42 : nearAt 42 = true := by kernel_rfl
theorem near_at43 : nearAt 43 = true := by kernel_rfl
theorem near_at44 : nearAt 44 = true := by kernel_rfl
theorem near_at45 : nearAt 45 = true := by kernel_rfl
theorem near_at46 : nearAt 46 = true := by kernel_rfl
theorem near_at47 : nearAt 47 = true := by kernel_rfl
theorem near_at48 : nearAt 48 = true := by kernel_rfl
theorem near_at49 : nearAt 49 = true := by kernel_rfl
theorem near_at50 : nearAt 50 = true := by kernel_rfl
end Go.Proofs.Ytkckgjjhnjcffaa
