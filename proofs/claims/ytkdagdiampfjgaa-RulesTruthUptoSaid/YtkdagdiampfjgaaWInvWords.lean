-- PRINTED BY print.sh 35421559b90ae4d0a3588c463048766b98c2df88dd9212a6774a882060cdf62d: not written by this session
import Derived.Test.YtkdagdiampfjgaaWInv
import Derived.Test.YtkdagdiampfjgaaWFootNe
namespace Go.Proofs.YtkdagdiampfjgaaW.PrintWords
open Go.RowKit
end Go.Proofs.YtkdagdiampfjgaaW.PrintWords
namespace Go.Proofs.YtkdagdiampfjgaaW.PrintLast
end Go.Proofs.YtkdagdiampfjgaaW.PrintLast
