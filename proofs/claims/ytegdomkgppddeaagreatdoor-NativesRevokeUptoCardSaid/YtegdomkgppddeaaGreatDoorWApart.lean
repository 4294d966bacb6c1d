-- PRINTED BY print.sh 35421559b90ae4d0a3588c463048766b98c2df88dd9212a6774a882060cdf62d: not written by this session
import Derived.Test.YtegdomkgppddeaaGreatDoorWWords
import Derived.Test.YtegdomkgppddeaaGreatDoorWLast
/-! ### 40. Elements whose inner rows lie apart: what is stored into one says nothing of the others.
   S: as R, with an owner function f (block to element's index). H: as S with a hole: of element i its cells alone are told, its blocks are oki. -/
namespace Go.Proofs.YtegdomkgppddeaaGreatDoorW.PrintWords
end Go.Proofs.YtegdomkgppddeaaGreatDoorW.PrintWords
