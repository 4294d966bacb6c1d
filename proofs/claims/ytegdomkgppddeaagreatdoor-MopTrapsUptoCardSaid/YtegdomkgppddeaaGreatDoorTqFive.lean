/- MopTraps: its runs of method 5 by n, told. -/
import Derived.Test.YtegdomkgppddeaaGreatDoorTqArgs
namespace Go.Proofs.YtegdomkgppddeaaGreatDoor
open Go.Sx Go.RowKit
set_option maxRecDepth 100000
noncomputable def qRun5 (n : Nat) (q b : Bool) : Bool :=
  allTrue ((fk Tryz.prog (cQ (.var 0) (.var 1) (.var 2) (.var 3) (.var 4) (.var 5) q) 3000).call 4 [.int .i64 (.lit 5), .int .i64 (.lit (.ofNat n)), .agg (askB (.var 0) (.var 1) (.var 2) (.var 3) (.var 4) (.var 5) (lSV q))] { asm := qAsm q [(.ieq (.var 0) (.lit 0), b)] }).outs
end Go.Proofs.YtegdomkgppddeaaGreatDoor
