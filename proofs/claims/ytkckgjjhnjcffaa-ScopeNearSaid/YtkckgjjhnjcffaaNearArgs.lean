/- ScopeNear: its arguments in the symbolic run. -/
import Derived.Test.YtkckgjjhnjcffaaProg
import Derived.Test.YtkckgjjhnjcffaaSyC
namespace Go.Proofs.Ytkckgjjhnjcffaa
open Go.Sx Go.RowKit
set_option maxRecDepth 100000
def nearVa (n k : Nat) : SV := .agg [.int .i64 (.var n), .int .i64 (.var (n+1)), .str (.var k)]
def nearArgs (a : IX) : List SV := [.int .i64 (.var 0), .int .i64 a, nearVa 1 0, nearVa 3 1]
def nearIn : Asm := [(.ilt (.var 0) (.lit 1), false), (.ilt (.var 0) (.lit 51), true)]
noncomputable def nearRun (a : IX) (asm : Asm) : Bool := allTrue ((fk Try.prog noC 3000).call 4 (nearArgs a) { asm := asm }).outs
noncomputable def nearAt (k : Int) : Bool := nearRun (.lit k) ((.ilt (.var 0) (.lit k), false) :: nearIn)
theorem near_less : nearRun (.var 5) [(.ilt (.var 0) (.lit 1), true)] = true := by kernel_rfl
theorem near_more : nearRun (.var 5) [(.ilt (.var 0) (.lit 1), false), (.ilt (.var 0) (.lit 51), false)] = true := by kernel_rfl
theorem near_low : nearRun (.var 5) ((.ilt (.var 5) (.lit 0), true) :: nearIn) = true := by kernel_rfl
theorem near_high : nearRun (.var 5) ((.ilt (.var 0) (.var 5), true) :: (.ilt (.var 5) (.lit 0), false) :: nearIn) = true := by kernel_rfl
end Go.Proofs.Ytkckgjjhnjcffaa
