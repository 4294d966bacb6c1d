-- PRINTED BY print.sh 35421559b90ae4d0a3588c463048766b98c2df88dd9212a6774a882060cdf62d: not written by this session
import Derived.Test.YtegdomkgppddeaaGreatDoorWKept
/-! ### 46. Values that share: what is only read, with the blocks it lies in (its footprint 'ok'): Foot, F (a row that is read), FK (an element's cells) -/
namespace Go.Proofs.YtegdomkgppddeaaGreatDoorW.PrintWords
end Go.Proofs.YtegdomkgppddeaaGreatDoorW.PrintWords
