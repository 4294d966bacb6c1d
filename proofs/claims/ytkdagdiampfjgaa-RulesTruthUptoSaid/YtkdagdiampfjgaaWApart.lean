-- PRINTED BY print.sh 35421559b90ae4d0a3588c463048766b98c2df88dd9212a6774a882060cdf62d: not written by this session
import Derived.Test.YtkdagdiampfjgaaWWords
import Derived.Test.YtkdagdiampfjgaaWLast
/-! ### 40. Elements whose inner rows lie apart: what is stored into one says nothing of the others.
   S: as R, with an owner function f (block to element's index). H: as S with a hole: of element i its cells alone are told, its blocks are oki. -/
namespace Go.Proofs.YtkdagdiampfjgaaW.PrintWords
open Go.RowKit
namespace Kd
/-! #### append, make, literals: the new element's blocks are none of the elder ones' -/
/-! #### a row with a hole: element i is lent, its blocks are oki; of it the row says its cells alone -/
end Kd
end Go.Proofs.YtkdagdiampfjgaaW.PrintWords
