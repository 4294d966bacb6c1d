/- RealmNames: its runs for the first three names. -/
import Derived.Test.YtkckgjjhnjcffaaProg
import Derived.Test.YtkckgjjhnjcffaaSyC
namespace Go.Proofs.Ytkckgjjhnjcffaa
open Go.Sx Go.RowKit
set_option maxRecDepth 100000
theorem names_run0 : allTrue ((fk Try.prog noC 3000).call 9 [.int .i64 (.lit 0)] {}).outs = true := by kernel_rfl
theorem names_run1 : allTrue ((fk Try.prog noC 3000).call 9 [.int .i64 (.lit 1)] {}).outs = true := by kernel_rfl
theorem names_run2 : allTrue ((fk Try.prog noC 3000).call 9 [.int .i64 (.lit 2)] {}).outs = true := by kernel_rfl
theorem names_low : allTrue ((fk Try.prog noC 3000).call 9 [.int .i64 (.var 0)] { asm := [(.ilt (.var 0) (.lit 0), true)] }).outs = true := by kernel_rfl
end Go.Proofs.Ytkckgjjhnjcffaa
