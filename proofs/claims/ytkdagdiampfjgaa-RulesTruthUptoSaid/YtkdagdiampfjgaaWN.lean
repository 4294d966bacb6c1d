-- PRINTED BY print.sh 35421559b90ae4d0a3588c463048766b98c2df88dd9212a6774a882060cdf62d: not written by this session
import Derived.Test.YtkdagdiampfjgaaWShare
import Derived.Test.YtkdagdiampfjgaaWZeros
/-! ### 47. N: a row of the call's own whose elements share (what they lead to is only read) -/
namespace Go.Proofs.YtkdagdiampfjgaaW.PrintWords
open Go.RowKit
namespace Kd
end Kd
end Go.Proofs.YtkdagdiampfjgaaW.PrintWords
