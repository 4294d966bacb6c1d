/- RealmNames: its runs for the last three names. -/
import Derived.Test.YtkckgjjhnjcffaaProg
import Derived.Test.YtkckgjjhnjcffaaSyC
namespace Go.Proofs.Ytkckgjjhnjcffaa
open Go.Sx Go.RowKit
set_option maxRecDepth 100000
theorem names_run3 : allTrue ((fk Try.prog noC 3000).call 9 [.int .i64 (.lit 3)] {}).outs = true := by kernel_rfl
theorem names_run4 : allTrue ((fk Try.prog noC 3000).call 9 [.int .i64 (.lit 4)] {}).outs = true := by kernel_rfl
theorem names_run5 : allTrue ((fk Try.prog noC 3000).call 9 [.int .i64 (.lit 5)] {}).outs = true := by kernel_rfl
theorem names_high : allTrue ((fk Try.prog noC 3000).call 9 [.int .i64 (.var 0)] { asm := [(.ilt (.var 0) (.lit 0), false), (.ilt (.var 0) (.lit 6), false)] }).outs = true := by kernel_rfl
end Go.Proofs.Ytkckgjjhnjcffaa
