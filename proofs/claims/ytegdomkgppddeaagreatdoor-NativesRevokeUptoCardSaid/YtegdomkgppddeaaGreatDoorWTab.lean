-- PRINTED BY print.sh 35421559b90ae4d0a3588c463048766b98c2df88dd9212a6774a882060cdf62d: not written by this session
import Derived.Test.YtegdomkgppddeaaGreatDoorWLast
import Derived.Test.YtegdomkgppddeaaGreatDoorWWords
/-! ### 50. A region's order in a table, made once a region: each step asks the table (numbers alone), not the operations -/
namespace Go.Proofs.YtegdomkgppddeaaGreatDoorW.PrintLast
end Go.Proofs.YtegdomkgppddeaaGreatDoorW.PrintLast
