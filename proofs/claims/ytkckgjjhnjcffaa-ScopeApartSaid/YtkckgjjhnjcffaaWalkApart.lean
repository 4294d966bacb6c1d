/- ScopeApart: its two runs, symbolically, for all values. -/
import Derived.Test.YtkckgjjhnjcffaaProg
import Derived.Test.YtkckgjjhnjcffaaKit
import Derived.Test.YtkckgjjhnjcffaaSxE
namespace Go.Proofs.Ytkckgjjhnjcffaa
open Go.Sx Go.RowKit
set_option maxRecDepth 100000
def apartArgs (b : Bool) : List SV := [.agg [.int .i64 (.var 0), .int .i64 (.var 1), .str (.var 0)], .agg [.int .i64 (.var 2), .int .i64 (.var 3), .str (.var 1)], .bool (.lit b)]
theorem apart_true : allTrue ((fs Try.prog noC 3000).call 5 (apartArgs true) {}) = true := by kernel_rfl
theorem apart_false : allTrue ((fs Try.prog noC 3000).call 5 (apartArgs false) {}) = true := by kernel_rfl
theorem walkApart (x : Va) (_ : x.ok) (y : Va) (_ : y.ok) (b : Bool) (w : World) : Calls Try.prog 5 #[x.val, y.val, .bool b] w fun e w' => e = .returned (.bool true) ∧ Below w.heap.size w w' := by
  have run : allTrue ((fs Try.prog noC 3000).call 5 (apartArgs b) {}) = true := by
    cases b
    · exact apart_false
    · exact apart_true
  exact true_of_run (noC_ok _) run (E := { ints := [x.k, x.n, y.k, y.n], strs := [x.s, y.s] }) (fun _ => rfl) (fun c v hm => by cases hm) (ARGS := [x.val, y.val, .bool b]) (by simp [apartArgs, SV.denL, SV.den, IX.den, SX.den, BX.den, Va.val]) w
end Go.Proofs.Ytkckgjjhnjcffaa
