-- PRINTED BY print.sh 35421559b90ae4d0a3588c463048766b98c2df88dd9212a6774a882060cdf62d: not written by this session
-- PRINTED WORDS (module Derived/Print/More.lean): go-gate-2's additions: an AI agent of Go's test side, Tue Nov 17 2026; no person has read it. Lean checks it.
import Derived.Test.YtkdagdiampfjgaaWWords
import Derived.Test.YtkdagdiampfjgaaWLast
import Derived.Test.YtkdagdiampfjgaaWQPut
import Derived.Test.YtkdagdiampfjgaaWApart
import Derived.Test.YtkdagdiampfjgaaWZeros
import Derived.Test.YtkdagdiampfjgaaWFoot
import Derived.Test.YtkdagdiampfjgaaWKept
import Derived.Test.YtkdagdiampfjgaaWNEv
namespace Go.Proofs.YtkdagdiampfjgaaW.PrintMore
open Go.RowKit Go.Proofs.YtkdagdiampfjgaaW.PrintWords
namespace Kd
open Go.Proofs.YtkdagdiampfjgaaW.PrintWords.Kd
end Kd

namespace Kd
open Go.Proofs.YtkdagdiampfjgaaW.PrintWords.Kd
end Kd
end Go.Proofs.YtkdagdiampfjgaaW.PrintMore
namespace Go.Proofs.YtkdagdiampfjgaaW.PrintWords
open Go.RowKit
section
variable {P : Program} {ops : Array Oper} {rest : List Oper} {o : Oper} {a : Act} {Q : Exit → Act → World → Prop} {W : World}
/-- The operation is a call of this function (a cheap look ahead of a dear step). -/
theorem gate_callee {f : FuncId} {as : Array Operand} {ts : Array TypeId} (_ho : o.op = .call { callee := .value (.func f), args := as, argTypes := ts }) (h : wpList P ops Q (o :: rest) a W) : wpList P ops Q (o :: rest) a W := h
/-- The operation is a builtin over these places. -/
theorem gate_builtin {b : Builtin} {xs : Array Operand} {ts : Array TypeId} (_ho : o.op = .call { callee := .builtin b, args := xs, argTypes := ts }) (h : wpList P ops Q (o :: rest) a W) : wpList P ops Q (o :: rest) a W := h
end
namespace Kd
end Kd
end Go.Proofs.YtkdagdiampfjgaaW.PrintWords
namespace Go.Proofs.YtkdagdiampfjgaaW.PrintWords
open Go.RowKit
namespace Kd
end Kd
end Go.Proofs.YtkdagdiampfjgaaW.PrintWords
