/- MopTraps: its runs, told. -/
import Derived.Test.YtegdomkgppddeaaGreatDoorUwAskRun
import Derived.Test.YtegdomkgppddeaaGreatDoorUwMay
import Derived.Test.YtegdomkgppddeaaGreatDoorUwArg
import Derived.Test.YtegdomkgppddeaaGreatDoorUwCl
import Derived.Test.YtegdomkgppddeaaGreatDoorUwTr
namespace Go.Proofs.YtegdomkgppddeaaGreatDoor
open Go.Sx Go.RowKit
set_option maxRecDepth 100000
theorem alive9_run : saysYes Tryz.prog 15 = true := by kernel_rfl
/-! ### a list that is told -/
noncomputable def cT0 : Contracts := argC Tryz.prog 75 (askC valC)
theorem cT0_ok : ContractsOk Tryz.prog cT0 := argC_ok (askC_ok valC_ok)
noncomputable def cT : Contracts := yesC 15 cT0
theorem cT_ok : ContractsOk Tryz.prog cT := by
  unfold cT
  exact @yesC_ok Tryz.prog cT0 cT0_ok 15 alive9_run
def nIn : Asm := [(.ilt (.var 12) (.lit 0), false), (.ilt (.lit 5) (.var 12), false)]
noncomputable def tRun (m c : Nat) : Bool :=
  allTrue ((fk Tryz.prog cT 3000).call 4 [.int .i64 (.lit (.ofNat m)), .int .i64 (.var 12), .agg (askS (vSV 0 c))] (aSt (nIn ++ smalls (6 + (c - 1))) c)).outs
/-! ### none, or a list of which nothing is known -/
noncomputable def cQ0 (b0 b1 b2 b3 b4 b5 : BX) (q : Bool) : Contracts := argC Tryz.prog 75 (rightC b0 b1 b2 b3 b4 b5 (trC (clC (mayC b0 b1 b2 b3 b4 b5 q noC))))
theorem cQ0_ok {b0 b1 b2 b3 b4 b5 : BX} {q : Bool} : ContractsOk Tryz.prog (cQ0 b0 b1 b2 b3 b4 b5 q) := argC_ok (rightC_ok (trC_ok (clC_ok (mayC_ok (noC_ok _)))))
noncomputable def cQ (b0 b1 b2 b3 b4 b5 : BX) (q : Bool) : Contracts := yesC 15 (cQ0 b0 b1 b2 b3 b4 b5 q)
theorem cQ_ok {b0 b1 b2 b3 b4 b5 : BX} {q : Bool} : ContractsOk Tryz.prog (cQ b0 b1 b2 b3 b4 b5 q) := by
  unfold cQ
  exact @yesC_ok Tryz.prog (cQ0 b0 b1 b2 b3 b4 b5 q) cQ0_ok 15 alive9_run
def lSV (q : Bool) : SV := match q with | true => .opq 0 | false => .nils
noncomputable def qGo (m : IX) (b0 b1 b2 b3 b4 b5 : BX) (q : Bool) (asm : Asm) : Bool :=
  allTrue ((fk Tryz.prog (cQ b0 b1 b2 b3 b4 b5 q) 3000).call 4 [.int .i64 m, .int .i64 (.var 12), .agg (askB b0 b1 b2 b3 b4 b5 (lSV q))] { asm := asm }).outs
def qAsm (q : Bool) (asm : Asm) : Asm := match q with | true => (.var 9, true) :: (smalls 6 ++ asm) | false => smalls 6 ++ asm
noncomputable def qRun (m : Nat) (q : Bool) : Bool := qGo (.lit (.ofNat m)) (.var 0) (.var 1) (.var 2) (.var 3) (.var 4) (.var 5) q (qAsm q nIn)
noncomputable def dRun (h0 h1 h2 h3 h4 h5 q : Bool) : Bool := qGo (.lit 6) (.lit h0) (.lit h1) (.lit h2) (.lit h3) (.lit h4) (.lit h5) q (qAsm q nIn)
/-- A list longer than 8. -/
def allIn : Asm := [(.ilt (.var 11) (.lit 1), false), (.ilt (.lit 13) (.var 11), false), (.ilt (.var 12) (.lit 0), false), (.ilt (.lit 5) (.var 12), false)]
theorem qLong : qGo (.var 11) (.var 0) (.var 1) (.var 2) (.var 3) (.var 4) (.var 5) true (qAsm true ((.var 10, true) :: allIn)) = true := by kernel_rfl
def out0 : Asm := [(.ilt (.var 11) (.lit 1), true)]
theorem qOut0 : ∀ q, qGo (.var 11) (.var 0) (.var 1) (.var 2) (.var 3) (.var 4) (.var 5) q (qAsm q out0) = true
  | true => by kernel_rfl
  | false => by kernel_rfl
def out1 : Asm := [(.ilt (.var 11) (.lit 1), false), (.ilt (.lit 13) (.var 11), true)]
theorem qOut1 : ∀ q, qGo (.var 11) (.var 0) (.var 1) (.var 2) (.var 3) (.var 4) (.var 5) q (qAsm q out1) = true
  | true => by kernel_rfl
  | false => by kernel_rfl
def out2 : Asm := [(.ilt (.var 11) (.lit 1), false), (.ilt (.lit 13) (.var 11), false), (.ilt (.var 12) (.lit 0), true)]
theorem qOut2 : ∀ q, qGo (.var 11) (.var 0) (.var 1) (.var 2) (.var 3) (.var 4) (.var 5) q (qAsm q out2) = true
  | true => by kernel_rfl
  | false => by kernel_rfl
def out3 : Asm := [(.ilt (.var 11) (.lit 1), false), (.ilt (.lit 13) (.var 11), false), (.ilt (.var 12) (.lit 0), false), (.ilt (.lit 5) (.var 12), true)]
theorem qOut3 : ∀ q, qGo (.var 11) (.var 0) (.var 1) (.var 2) (.var 3) (.var 4) (.var 5) q (qAsm q out3) = true
  | true => by kernel_rfl
  | false => by kernel_rfl
end Go.Proofs.YtegdomkgppddeaaGreatDoor
