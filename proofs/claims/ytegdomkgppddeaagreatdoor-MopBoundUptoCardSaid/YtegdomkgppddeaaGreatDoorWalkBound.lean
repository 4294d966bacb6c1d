/- MopBound: its runs, joined. -/
import Derived.Test.YtegdomkgppddeaaGreatDoorBoundA
import Derived.Test.YtegdomkgppddeaaGreatDoorBoundB
import Derived.Test.YtegdomkgppddeaaGreatDoorBoundC
import Derived.Test.YtegdomkgppddeaaGreatDoorBoundD
import Derived.Test.YtegdomkgppddeaaGreatDoorBoundE
import Derived.Test.YtegdomkgppddeaaGreatDoorBoundF
import Derived.Test.YtegdomkgppddeaaGreatDoorBoundG
import Derived.Test.YtegdomkgppddeaaGreatDoorBoundH
namespace Go.Proofs.YtegdomkgppddeaaGreatDoor
open Go.Sx Go.RowKit
set_option maxRecDepth 100000
set_option linter.unusedVariables false
theorem btab_0_0 : bNeg 0 0 = true ∧ bMore 0 0 = true ∧ ∀ n, n < (0 - 1) + (0 - 1) → bLit 0 0 n = true := by
  refine ⟨bneg_0_0, bmore_0_0, fun n hn => ?_⟩
  omega
theorem btab_0_1 : bNeg 0 1 = true ∧ bMore 0 1 = true ∧ ∀ n, n < (0 - 1) + (1 - 1) → bLit 0 1 n = true := by
  refine ⟨bneg_0_1, bmore_0_1, fun n hn => ?_⟩
  omega
theorem btab_0_2 : bNeg 0 2 = true ∧ bMore 0 2 = true ∧ ∀ n, n < (0 - 1) + (2 - 1) → bLit 0 2 n = true := by
  refine ⟨bneg_0_2, bmore_0_2, fun n hn => ?_⟩
  have : n = 0 := by omega
  rcases this with rfl
  · exact blit_0_2_0
theorem btab_0_3 : bNeg 0 3 = true ∧ bMore 0 3 = true ∧ ∀ n, n < (0 - 1) + (3 - 1) → bLit 0 3 n = true := by
  refine ⟨bneg_0_3, bmore_0_3, fun n hn => ?_⟩
  have : n = 0 ∨ n = 1 := by omega
  rcases this with rfl | rfl
  · exact blit_0_3_0
  · exact blit_0_3_1
theorem btab_0_4 : bNeg 0 4 = true ∧ bMore 0 4 = true ∧ ∀ n, n < (0 - 1) + (4 - 1) → bLit 0 4 n = true := by
  refine ⟨bneg_0_4, bmore_0_4, fun n hn => ?_⟩
  have : n = 0 ∨ n = 1 ∨ n = 2 := by omega
  rcases this with rfl | rfl | rfl
  · exact blit_0_4_0
  · exact blit_0_4_1
  · exact blit_0_4_2
theorem btab_0_5 : bNeg 0 5 = true ∧ bMore 0 5 = true ∧ ∀ n, n < (0 - 1) + (5 - 1) → bLit 0 5 n = true := by
  refine ⟨bneg_0_5, bmore_0_5, fun n hn => ?_⟩
  have : n = 0 ∨ n = 1 ∨ n = 2 ∨ n = 3 := by omega
  rcases this with rfl | rfl | rfl | rfl
  · exact blit_0_5_0
  · exact blit_0_5_1
  · exact blit_0_5_2
  · exact blit_0_5_3
theorem btab_0_6 : bNeg 0 6 = true ∧ bMore 0 6 = true ∧ ∀ n, n < (0 - 1) + (6 - 1) → bLit 0 6 n = true := by
  refine ⟨bneg_0_6, bmore_0_6, fun n hn => ?_⟩
  have : n = 0 ∨ n = 1 ∨ n = 2 ∨ n = 3 ∨ n = 4 := by omega
  rcases this with rfl | rfl | rfl | rfl | rfl
  · exact blit_0_6_0
  · exact blit_0_6_1
  · exact blit_0_6_2
  · exact blit_0_6_3
  · exact blit_0_6_4
theorem btab_1_0 : bNeg 1 0 = true ∧ bMore 1 0 = true ∧ ∀ n, n < (1 - 1) + (0 - 1) → bLit 1 0 n = true := by
  refine ⟨bneg_1_0, bmore_1_0, fun n hn => ?_⟩
  omega
theorem btab_1_1 : bNeg 1 1 = true ∧ bMore 1 1 = true ∧ ∀ n, n < (1 - 1) + (1 - 1) → bLit 1 1 n = true := by
  refine ⟨bneg_1_1, bmore_1_1, fun n hn => ?_⟩
  omega
theorem btab_1_2 : bNeg 1 2 = true ∧ bMore 1 2 = true ∧ ∀ n, n < (1 - 1) + (2 - 1) → bLit 1 2 n = true := by
  refine ⟨bneg_1_2, bmore_1_2, fun n hn => ?_⟩
  have : n = 0 := by omega
  rcases this with rfl
  · exact blit_1_2_0
theorem btab_1_3 : bNeg 1 3 = true ∧ bMore 1 3 = true ∧ ∀ n, n < (1 - 1) + (3 - 1) → bLit 1 3 n = true := by
  refine ⟨bneg_1_3, bmore_1_3, fun n hn => ?_⟩
  have : n = 0 ∨ n = 1 := by omega
  rcases this with rfl | rfl
  · exact blit_1_3_0
  · exact blit_1_3_1
theorem btab_1_4 : bNeg 1 4 = true ∧ bMore 1 4 = true ∧ ∀ n, n < (1 - 1) + (4 - 1) → bLit 1 4 n = true := by
  refine ⟨bneg_1_4, bmore_1_4, fun n hn => ?_⟩
  have : n = 0 ∨ n = 1 ∨ n = 2 := by omega
  rcases this with rfl | rfl | rfl
  · exact blit_1_4_0
  · exact blit_1_4_1
  · exact blit_1_4_2
theorem btab_1_5 : bNeg 1 5 = true ∧ bMore 1 5 = true ∧ ∀ n, n < (1 - 1) + (5 - 1) → bLit 1 5 n = true := by
  refine ⟨bneg_1_5, bmore_1_5, fun n hn => ?_⟩
  have : n = 0 ∨ n = 1 ∨ n = 2 ∨ n = 3 := by omega
  rcases this with rfl | rfl | rfl | rfl
  · exact blit_1_5_0
  · exact blit_1_5_1
  · exact blit_1_5_2
  · exact blit_1_5_3
theorem btab_1_6 : bNeg 1 6 = true ∧ bMore 1 6 = true ∧ ∀ n, n < (1 - 1) + (6 - 1) → bLit 1 6 n = true := by
  refine ⟨bneg_1_6, bmore_1_6, fun n hn => ?_⟩
  have : n = 0 ∨ n = 1 ∨ n = 2 ∨ n = 3 ∨ n = 4 := by omega
  rcases this with rfl | rfl | rfl | rfl | rfl
  · exact blit_1_6_0
  · exact blit_1_6_1
  · exact blit_1_6_2
  · exact blit_1_6_3
  · exact blit_1_6_4
theorem btab_2_0 : bNeg 2 0 = true ∧ bMore 2 0 = true ∧ ∀ n, n < (2 - 1) + (0 - 1) → bLit 2 0 n = true := by
  refine ⟨bneg_2_0, bmore_2_0, fun n hn => ?_⟩
  have : n = 0 := by omega
  rcases this with rfl
  · exact blit_2_0_0
theorem btab_2_1 : bNeg 2 1 = true ∧ bMore 2 1 = true ∧ ∀ n, n < (2 - 1) + (1 - 1) → bLit 2 1 n = true := by
  refine ⟨bneg_2_1, bmore_2_1, fun n hn => ?_⟩
  have : n = 0 := by omega
  rcases this with rfl
  · exact blit_2_1_0
theorem btab_2_2 : bNeg 2 2 = true ∧ bMore 2 2 = true ∧ ∀ n, n < (2 - 1) + (2 - 1) → bLit 2 2 n = true := by
  refine ⟨bneg_2_2, bmore_2_2, fun n hn => ?_⟩
  have : n = 0 ∨ n = 1 := by omega
  rcases this with rfl | rfl
  · exact blit_2_2_0
  · exact blit_2_2_1
theorem btab_2_3 : bNeg 2 3 = true ∧ bMore 2 3 = true ∧ ∀ n, n < (2 - 1) + (3 - 1) → bLit 2 3 n = true := by
  refine ⟨bneg_2_3, bmore_2_3, fun n hn => ?_⟩
  have : n = 0 ∨ n = 1 ∨ n = 2 := by omega
  rcases this with rfl | rfl | rfl
  · exact blit_2_3_0
  · exact blit_2_3_1
  · exact blit_2_3_2
theorem btab_2_4 : bNeg 2 4 = true ∧ bMore 2 4 = true ∧ ∀ n, n < (2 - 1) + (4 - 1) → bLit 2 4 n = true := by
  refine ⟨bneg_2_4, bmore_2_4, fun n hn => ?_⟩
  have : n = 0 ∨ n = 1 ∨ n = 2 ∨ n = 3 := by omega
  rcases this with rfl | rfl | rfl | rfl
  · exact blit_2_4_0
  · exact blit_2_4_1
  · exact blit_2_4_2
  · exact blit_2_4_3
theorem btab_2_5 : bNeg 2 5 = true ∧ bMore 2 5 = true ∧ ∀ n, n < (2 - 1) + (5 - 1) → bLit 2 5 n = true := by
  refine ⟨bneg_2_5, bmore_2_5, fun n hn => ?_⟩
  have : n = 0 ∨ n = 1 ∨ n = 2 ∨ n = 3 ∨ n = 4 := by omega
  rcases this with rfl | rfl | rfl | rfl | rfl
  · exact blit_2_5_0
  · exact blit_2_5_1
  · exact blit_2_5_2
  · exact blit_2_5_3
  · exact blit_2_5_4
theorem btab_2_6 : bNeg 2 6 = true ∧ bMore 2 6 = true ∧ ∀ n, n < (2 - 1) + (6 - 1) → bLit 2 6 n = true := by
  refine ⟨bneg_2_6, bmore_2_6, fun n hn => ?_⟩
  have : n = 0 ∨ n = 1 ∨ n = 2 ∨ n = 3 ∨ n = 4 ∨ n = 5 := by omega
  rcases this with rfl | rfl | rfl | rfl | rfl | rfl
  · exact blit_2_6_0
  · exact blit_2_6_1
  · exact blit_2_6_2
  · exact blit_2_6_3
  · exact blit_2_6_4
  · exact blit_2_6_5
theorem btab_3_0 : bNeg 3 0 = true ∧ bMore 3 0 = true ∧ ∀ n, n < (3 - 1) + (0 - 1) → bLit 3 0 n = true := by
  refine ⟨bneg_3_0, bmore_3_0, fun n hn => ?_⟩
  have : n = 0 ∨ n = 1 := by omega
  rcases this with rfl | rfl
  · exact blit_3_0_0
  · exact blit_3_0_1
theorem btab_3_1 : bNeg 3 1 = true ∧ bMore 3 1 = true ∧ ∀ n, n < (3 - 1) + (1 - 1) → bLit 3 1 n = true := by
  refine ⟨bneg_3_1, bmore_3_1, fun n hn => ?_⟩
  have : n = 0 ∨ n = 1 := by omega
  rcases this with rfl | rfl
  · exact blit_3_1_0
  · exact blit_3_1_1
theorem btab_3_2 : bNeg 3 2 = true ∧ bMore 3 2 = true ∧ ∀ n, n < (3 - 1) + (2 - 1) → bLit 3 2 n = true := by
  refine ⟨bneg_3_2, bmore_3_2, fun n hn => ?_⟩
  have : n = 0 ∨ n = 1 ∨ n = 2 := by omega
  rcases this with rfl | rfl | rfl
  · exact blit_3_2_0
  · exact blit_3_2_1
  · exact blit_3_2_2
theorem btab_3_3 : bNeg 3 3 = true ∧ bMore 3 3 = true ∧ ∀ n, n < (3 - 1) + (3 - 1) → bLit 3 3 n = true := by
  refine ⟨bneg_3_3, bmore_3_3, fun n hn => ?_⟩
  have : n = 0 ∨ n = 1 ∨ n = 2 ∨ n = 3 := by omega
  rcases this with rfl | rfl | rfl | rfl
  · exact blit_3_3_0
  · exact blit_3_3_1
  · exact blit_3_3_2
  · exact blit_3_3_3
theorem btab_3_4 : bNeg 3 4 = true ∧ bMore 3 4 = true ∧ ∀ n, n < (3 - 1) + (4 - 1) → bLit 3 4 n = true := by
  refine ⟨bneg_3_4, bmore_3_4, fun n hn => ?_⟩
  have : n = 0 ∨ n = 1 ∨ n = 2 ∨ n = 3 ∨ n = 4 := by omega
  rcases this with rfl | rfl | rfl | rfl | rfl
  · exact blit_3_4_0
  · exact blit_3_4_1
  · exact blit_3_4_2
  · exact blit_3_4_3
  · exact blit_3_4_4
theorem btab_3_5 : bNeg 3 5 = true ∧ bMore 3 5 = true ∧ ∀ n, n < (3 - 1) + (5 - 1) → bLit 3 5 n = true := by
  refine ⟨bneg_3_5, bmore_3_5, fun n hn => ?_⟩
  have : n = 0 ∨ n = 1 ∨ n = 2 ∨ n = 3 ∨ n = 4 ∨ n = 5 := by omega
  rcases this with rfl | rfl | rfl | rfl | rfl | rfl
  · exact blit_3_5_0
  · exact blit_3_5_1
  · exact blit_3_5_2
  · exact blit_3_5_3
  · exact blit_3_5_4
  · exact blit_3_5_5
theorem btab_3_6 : bNeg 3 6 = true ∧ bMore 3 6 = true ∧ ∀ n, n < (3 - 1) + (6 - 1) → bLit 3 6 n = true := by
  refine ⟨bneg_3_6, bmore_3_6, fun n hn => ?_⟩
  have : n = 0 ∨ n = 1 ∨ n = 2 ∨ n = 3 ∨ n = 4 ∨ n = 5 ∨ n = 6 := by omega
  rcases this with rfl | rfl | rfl | rfl | rfl | rfl | rfl
  · exact blit_3_6_0
  · exact blit_3_6_1
  · exact blit_3_6_2
  · exact blit_3_6_3
  · exact blit_3_6_4
  · exact blit_3_6_5
  · exact blit_3_6_6
theorem btab_4_0 : bNeg 4 0 = true ∧ bMore 4 0 = true ∧ ∀ n, n < (4 - 1) + (0 - 1) → bLit 4 0 n = true := by
  refine ⟨bneg_4_0, bmore_4_0, fun n hn => ?_⟩
  have : n = 0 ∨ n = 1 ∨ n = 2 := by omega
  rcases this with rfl | rfl | rfl
  · exact blit_4_0_0
  · exact blit_4_0_1
  · exact blit_4_0_2
theorem btab_4_1 : bNeg 4 1 = true ∧ bMore 4 1 = true ∧ ∀ n, n < (4 - 1) + (1 - 1) → bLit 4 1 n = true := by
  refine ⟨bneg_4_1, bmore_4_1, fun n hn => ?_⟩
  have : n = 0 ∨ n = 1 ∨ n = 2 := by omega
  rcases this with rfl | rfl | rfl
  · exact blit_4_1_0
  · exact blit_4_1_1
  · exact blit_4_1_2
theorem btab_4_2 : bNeg 4 2 = true ∧ bMore 4 2 = true ∧ ∀ n, n < (4 - 1) + (2 - 1) → bLit 4 2 n = true := by
  refine ⟨bneg_4_2, bmore_4_2, fun n hn => ?_⟩
  have : n = 0 ∨ n = 1 ∨ n = 2 ∨ n = 3 := by omega
  rcases this with rfl | rfl | rfl | rfl
  · exact blit_4_2_0
  · exact blit_4_2_1
  · exact blit_4_2_2
  · exact blit_4_2_3
theorem btab_4_3 : bNeg 4 3 = true ∧ bMore 4 3 = true ∧ ∀ n, n < (4 - 1) + (3 - 1) → bLit 4 3 n = true := by
  refine ⟨bneg_4_3, bmore_4_3, fun n hn => ?_⟩
  have : n = 0 ∨ n = 1 ∨ n = 2 ∨ n = 3 ∨ n = 4 := by omega
  rcases this with rfl | rfl | rfl | rfl | rfl
  · exact blit_4_3_0
  · exact blit_4_3_1
  · exact blit_4_3_2
  · exact blit_4_3_3
  · exact blit_4_3_4
theorem btab_4_4 : bNeg 4 4 = true ∧ bMore 4 4 = true ∧ ∀ n, n < (4 - 1) + (4 - 1) → bLit 4 4 n = true := by
  refine ⟨bneg_4_4, bmore_4_4, fun n hn => ?_⟩
  have : n = 0 ∨ n = 1 ∨ n = 2 ∨ n = 3 ∨ n = 4 ∨ n = 5 := by omega
  rcases this with rfl | rfl | rfl | rfl | rfl | rfl
  · exact blit_4_4_0
  · exact blit_4_4_1
  · exact blit_4_4_2
  · exact blit_4_4_3
  · exact blit_4_4_4
  · exact blit_4_4_5
theorem btab_4_5 : bNeg 4 5 = true ∧ bMore 4 5 = true ∧ ∀ n, n < (4 - 1) + (5 - 1) → bLit 4 5 n = true := by
  refine ⟨bneg_4_5, bmore_4_5, fun n hn => ?_⟩
  have : n = 0 ∨ n = 1 ∨ n = 2 ∨ n = 3 ∨ n = 4 ∨ n = 5 ∨ n = 6 := by omega
  rcases this with rfl | rfl | rfl | rfl | rfl | rfl | rfl
  · exact blit_4_5_0
  · exact blit_4_5_1
  · exact blit_4_5_2
  · exact blit_4_5_3
  · exact blit_4_5_4
  · exact blit_4_5_5
  · exact blit_4_5_6
theorem btab_4_6 : bNeg 4 6 = true ∧ bMore 4 6 = true ∧ ∀ n, n < (4 - 1) + (6 - 1) → bLit 4 6 n = true := by
  refine ⟨bneg_4_6, bmore_4_6, fun n hn => ?_⟩
  have : n = 0 ∨ n = 1 ∨ n = 2 ∨ n = 3 ∨ n = 4 ∨ n = 5 ∨ n = 6 ∨ n = 7 := by omega
  rcases this with rfl | rfl | rfl | rfl | rfl | rfl | rfl | rfl
  · exact blit_4_6_0
  · exact blit_4_6_1
  · exact blit_4_6_2
  · exact blit_4_6_3
  · exact blit_4_6_4
  · exact blit_4_6_5
  · exact blit_4_6_6
  · exact blit_4_6_7
theorem btab_5_0 : bNeg 5 0 = true ∧ bMore 5 0 = true ∧ ∀ n, n < (5 - 1) + (0 - 1) → bLit 5 0 n = true := by
  refine ⟨bneg_5_0, bmore_5_0, fun n hn => ?_⟩
  have : n = 0 ∨ n = 1 ∨ n = 2 ∨ n = 3 := by omega
  rcases this with rfl | rfl | rfl | rfl
  · exact blit_5_0_0
  · exact blit_5_0_1
  · exact blit_5_0_2
  · exact blit_5_0_3
theorem btab_5_1 : bNeg 5 1 = true ∧ bMore 5 1 = true ∧ ∀ n, n < (5 - 1) + (1 - 1) → bLit 5 1 n = true := by
  refine ⟨bneg_5_1, bmore_5_1, fun n hn => ?_⟩
  have : n = 0 ∨ n = 1 ∨ n = 2 ∨ n = 3 := by omega
  rcases this with rfl | rfl | rfl | rfl
  · exact blit_5_1_0
  · exact blit_5_1_1
  · exact blit_5_1_2
  · exact blit_5_1_3
theorem btab_5_2 : bNeg 5 2 = true ∧ bMore 5 2 = true ∧ ∀ n, n < (5 - 1) + (2 - 1) → bLit 5 2 n = true := by
  refine ⟨bneg_5_2, bmore_5_2, fun n hn => ?_⟩
  have : n = 0 ∨ n = 1 ∨ n = 2 ∨ n = 3 ∨ n = 4 := by omega
  rcases this with rfl | rfl | rfl | rfl | rfl
  · exact blit_5_2_0
  · exact blit_5_2_1
  · exact blit_5_2_2
  · exact blit_5_2_3
  · exact blit_5_2_4
theorem btab_5_3 : bNeg 5 3 = true ∧ bMore 5 3 = true ∧ ∀ n, n < (5 - 1) + (3 - 1) → bLit 5 3 n = true := by
  refine ⟨bneg_5_3, bmore_5_3, fun n hn => ?_⟩
  have : n = 0 ∨ n = 1 ∨ n = 2 ∨ n = 3 ∨ n = 4 ∨ n = 5 := by omega
  rcases this with rfl | rfl | rfl | rfl | rfl | rfl
  · exact blit_5_3_0
  · exact blit_5_3_1
  · exact blit_5_3_2
  · exact blit_5_3_3
  · exact blit_5_3_4
  · exact blit_5_3_5
theorem btab_5_4 : bNeg 5 4 = true ∧ bMore 5 4 = true ∧ ∀ n, n < (5 - 1) + (4 - 1) → bLit 5 4 n = true := by
  refine ⟨bneg_5_4, bmore_5_4, fun n hn => ?_⟩
  have : n = 0 ∨ n = 1 ∨ n = 2 ∨ n = 3 ∨ n = 4 ∨ n = 5 ∨ n = 6 := by omega
  rcases this with rfl | rfl | rfl | rfl | rfl | rfl | rfl
  · exact blit_5_4_0
  · exact blit_5_4_1
  · exact blit_5_4_2
  · exact blit_5_4_3
  · exact blit_5_4_4
  · exact blit_5_4_5
  · exact blit_5_4_6
theorem btab_5_5 : bNeg 5 5 = true ∧ bMore 5 5 = true ∧ ∀ n, n < (5 - 1) + (5 - 1) → bLit 5 5 n = true := by
  refine ⟨bneg_5_5, bmore_5_5, fun n hn => ?_⟩
  have : n = 0 ∨ n = 1 ∨ n = 2 ∨ n = 3 ∨ n = 4 ∨ n = 5 ∨ n = 6 ∨ n = 7 := by omega
  rcases this with rfl | rfl | rfl | rfl | rfl | rfl | rfl | rfl
  · exact blit_5_5_0
  · exact blit_5_5_1
  · exact blit_5_5_2
  · exact blit_5_5_3
  · exact blit_5_5_4
  · exact blit_5_5_5
  · exact blit_5_5_6
  · exact blit_5_5_7
theorem btab_5_6 : bNeg 5 6 = true ∧ bMore 5 6 = true ∧ ∀ n, n < (5 - 1) + (6 - 1) → bLit 5 6 n = true := by
  refine ⟨bneg_5_6, bmore_5_6, fun n hn => ?_⟩
  have : n = 0 ∨ n = 1 ∨ n = 2 ∨ n = 3 ∨ n = 4 ∨ n = 5 ∨ n = 6 ∨ n = 7 ∨ n = 8 := by omega
  rcases this with rfl | rfl | rfl | rfl | rfl | rfl | rfl | rfl | rfl
  · exact blit_5_6_0
  · exact blit_5_6_1
  · exact blit_5_6_2
  · exact blit_5_6_3
  · exact blit_5_6_4
  · exact blit_5_6_5
  · exact blit_5_6_6
  · exact blit_5_6_7
  · exact blit_5_6_8
theorem btab_6_0 : bNeg 6 0 = true ∧ bMore 6 0 = true ∧ ∀ n, n < (6 - 1) + (0 - 1) → bLit 6 0 n = true := by
  refine ⟨bneg_6_0, bmore_6_0, fun n hn => ?_⟩
  have : n = 0 ∨ n = 1 ∨ n = 2 ∨ n = 3 ∨ n = 4 := by omega
  rcases this with rfl | rfl | rfl | rfl | rfl
  · exact blit_6_0_0
  · exact blit_6_0_1
  · exact blit_6_0_2
  · exact blit_6_0_3
  · exact blit_6_0_4
theorem btab_6_1 : bNeg 6 1 = true ∧ bMore 6 1 = true ∧ ∀ n, n < (6 - 1) + (1 - 1) → bLit 6 1 n = true := by
  refine ⟨bneg_6_1, bmore_6_1, fun n hn => ?_⟩
  have : n = 0 ∨ n = 1 ∨ n = 2 ∨ n = 3 ∨ n = 4 := by omega
  rcases this with rfl | rfl | rfl | rfl | rfl
  · exact blit_6_1_0
  · exact blit_6_1_1
  · exact blit_6_1_2
  · exact blit_6_1_3
  · exact blit_6_1_4
theorem btab_6_2 : bNeg 6 2 = true ∧ bMore 6 2 = true ∧ ∀ n, n < (6 - 1) + (2 - 1) → bLit 6 2 n = true := by
  refine ⟨bneg_6_2, bmore_6_2, fun n hn => ?_⟩
  have : n = 0 ∨ n = 1 ∨ n = 2 ∨ n = 3 ∨ n = 4 ∨ n = 5 := by omega
  rcases this with rfl | rfl | rfl | rfl | rfl | rfl
  · exact blit_6_2_0
  · exact blit_6_2_1
  · exact blit_6_2_2
  · exact blit_6_2_3
  · exact blit_6_2_4
  · exact blit_6_2_5
theorem btab_6_3 : bNeg 6 3 = true ∧ bMore 6 3 = true ∧ ∀ n, n < (6 - 1) + (3 - 1) → bLit 6 3 n = true := by
  refine ⟨bneg_6_3, bmore_6_3, fun n hn => ?_⟩
  have : n = 0 ∨ n = 1 ∨ n = 2 ∨ n = 3 ∨ n = 4 ∨ n = 5 ∨ n = 6 := by omega
  rcases this with rfl | rfl | rfl | rfl | rfl | rfl | rfl
  · exact blit_6_3_0
  · exact blit_6_3_1
  · exact blit_6_3_2
  · exact blit_6_3_3
  · exact blit_6_3_4
  · exact blit_6_3_5
  · exact blit_6_3_6
theorem btab_6_4 : bNeg 6 4 = true ∧ bMore 6 4 = true ∧ ∀ n, n < (6 - 1) + (4 - 1) → bLit 6 4 n = true := by
  refine ⟨bneg_6_4, bmore_6_4, fun n hn => ?_⟩
  have : n = 0 ∨ n = 1 ∨ n = 2 ∨ n = 3 ∨ n = 4 ∨ n = 5 ∨ n = 6 ∨ n = 7 := by omega
  rcases this with rfl | rfl | rfl | rfl | rfl | rfl | rfl | rfl
  · exact blit_6_4_0
  · exact blit_6_4_1
  · exact blit_6_4_2
  · exact blit_6_4_3
  · exact blit_6_4_4
  · exact blit_6_4_5
  · exact blit_6_4_6
  · exact blit_6_4_7
theorem btab_6_5 : bNeg 6 5 = true ∧ bMore 6 5 = true ∧ ∀ n, n < (6 - 1) + (5 - 1) → bLit 6 5 n = true := by
  refine ⟨bneg_6_5, bmore_6_5, fun n hn => ?_⟩
  have : n = 0 ∨ n = 1 ∨ n = 2 ∨ n = 3 ∨ n = 4 ∨ n = 5 ∨ n = 6 ∨ n = 7 ∨ n = 8 := by omega
  rcases this with rfl | rfl | rfl | rfl | rfl | rfl | rfl | rfl | rfl
  · exact blit_6_5_0
  · exact blit_6_5_1
  · exact blit_6_5_2
  · exact blit_6_5_3
  · exact blit_6_5_4
  · exact blit_6_5_5
  · exact blit_6_5_6
  · exact blit_6_5_7
  · exact blit_6_5_8
theorem btab_6_6 : bNeg 6 6 = true ∧ bMore 6 6 = true ∧ ∀ n, n < (6 - 1) + (6 - 1) → bLit 6 6 n = true := by
  refine ⟨bneg_6_6, bmore_6_6, fun n hn => ?_⟩
  have : n = 0 ∨ n = 1 ∨ n = 2 ∨ n = 3 ∨ n = 4 ∨ n = 5 ∨ n = 6 ∨ n = 7 ∨ n = 8 ∨ n = 9 := by omega
  rcases this with rfl | rfl | rfl | rfl | rfl | rfl | rfl | rfl | rfl | rfl
  · exact blit_6_6_0
  · exact blit_6_6_1
  · exact blit_6_6_2
  · exact blit_6_6_3
  · exact blit_6_6_4
  · exact blit_6_6_5
  · exact blit_6_6_6
  · exact blit_6_6_7
  · exact blit_6_6_8
  · exact blit_6_6_9
theorem btab (i j : Nat) (hi : i < 7) (hj : j < 7) : bNeg i j = true ∧ bMore i j = true ∧ ∀ n, n < (i - 1) + (j - 1) → bLit i j n = true := by
  have hi : i = 0 ∨ i = 1 ∨ i = 2 ∨ i = 3 ∨ i = 4 ∨ i = 5 ∨ i = 6 := by omega
  have hj : j = 0 ∨ j = 1 ∨ j = 2 ∨ j = 3 ∨ j = 4 ∨ j = 5 ∨ j = 6 := by omega
  rcases hi with rfl | rfl | rfl | rfl | rfl | rfl | rfl
  · rcases hj with rfl | rfl | rfl | rfl | rfl | rfl | rfl
    · exact btab_0_0
    · exact btab_0_1
    · exact btab_0_2
    · exact btab_0_3
    · exact btab_0_4
    · exact btab_0_5
    · exact btab_0_6
  · rcases hj with rfl | rfl | rfl | rfl | rfl | rfl | rfl
    · exact btab_1_0
    · exact btab_1_1
    · exact btab_1_2
    · exact btab_1_3
    · exact btab_1_4
    · exact btab_1_5
    · exact btab_1_6
  · rcases hj with rfl | rfl | rfl | rfl | rfl | rfl | rfl
    · exact btab_2_0
    · exact btab_2_1
    · exact btab_2_2
    · exact btab_2_3
    · exact btab_2_4
    · exact btab_2_5
    · exact btab_2_6
  · rcases hj with rfl | rfl | rfl | rfl | rfl | rfl | rfl
    · exact btab_3_0
    · exact btab_3_1
    · exact btab_3_2
    · exact btab_3_3
    · exact btab_3_4
    · exact btab_3_5
    · exact btab_3_6
  · rcases hj with rfl | rfl | rfl | rfl | rfl | rfl | rfl
    · exact btab_4_0
    · exact btab_4_1
    · exact btab_4_2
    · exact btab_4_3
    · exact btab_4_4
    · exact btab_4_5
    · exact btab_4_6
  · rcases hj with rfl | rfl | rfl | rfl | rfl | rfl | rfl
    · exact btab_5_0
    · exact btab_5_1
    · exact btab_5_2
    · exact btab_5_3
    · exact btab_5_4
    · exact btab_5_5
    · exact btab_5_6
  · rcases hj with rfl | rfl | rfl | rfl | rfl | rfl | rfl
    · exact btab_6_0
    · exact btab_6_1
    · exact btab_6_2
    · exact btab_6_3
    · exact btab_6_4
    · exact btab_6_5
    · exact btab_6_6
def Vs.cls : Vs → Nat
  | .nil => 0
  | .at _ _ _ l => l.length + 1
theorem Vs.cls_l (x : Vs) : x.l.length = x.cls - 1 := by cases x <;> rfl
def bEnv (w : World) (t r : Va) (x y : Vs) (n : Int) : Env := vEnv w [t.k, t.n, r.k, r.n, n] [t.s, r.s] x y
section
variable {w : World} {t r : Va} {x y : Vs} {n : Int}
theorem bGo_ok {X Y : SV} {ox oy : SObj} {nS : IX} {asm : Asm} (h : bGo X Y ox oy nS asm = true) (hX : X.den (bEnv w t r x y n) = some x.val) (hY : Y.den (bEnv w t r x y n) = some y.val) (hn : nS.den (bEnv w t r x y n) = some n) (R : Rel w (bEnv w t r x y n) (vSt asm ox oy) w) :
    Calls Tryz.prog 5 #[t.val, r.val, x.val, y.val, .int .i64 n] w fun e w' => e = .returned (.bool true) ∧ Below w.heap.size w w' := by
  have hv0 : (vaS 0 0).den (bEnv w t r x y n) = some t.val := by simp [vaS, SV.den, SV.denL, IX.den, SX.den, bEnv, vEnv]
  have hv1 : (vaS 2 1).den (bEnv w t r x y n) = some r.val := by simp [vaS, SV.den, SV.denL, IX.den, SX.den, bEnv, vEnv]
  exact true_from cB_ok h R (ARGS := [t.val, r.val, x.val, y.val, .int .i64 n]) (by simp only [SV.denL, SV.den, hv0, hv1, hX, hY, hn])
theorem b_none : ∀ id, 2 ≤ id → (bEnv w t r x y n).blk id = none := fun id h => match id, h with
  | _ + 2, _ => rfl
theorem b_n : (IX.var 4).den (bEnv w t r x y n) = some n := by simp [IX.den, bEnv, vEnv]
theorem b_rel (hx : x.ok w) (hy : y.ok w) {asm : Asm} (ha : AsmOk (bEnv w t r x y n) asm) : Rel w (bEnv w t r x y n) (vSt asm (vObj 5 2 x.cls) (vObj (5 + 2 * (x.cls - 1)) (2 + (x.cls - 1)) y.cls)) w := by
  have hL : Lies (bEnv w t r x y n) (5 + 2 * (x.cls - 1)) (2 + (x.cls - 1)) (y.l.take (y.cls - 1)) := by
    rw [← x.cls_l]
    exact lies_y (w := w) (ints := [t.k, t.n, r.k, r.n, n]) (strs := [t.s, r.s]) (x := x) (y := y) _
  exact vSt_rel hx hy (lies_x (w := w) (ints := [t.k, t.n, r.k, r.n, n]) (strs := [t.s, r.s]) (x := x) (y := y) _) hL (by cases x <;> simp [Vs.cls, Vs.l]) (by cases y <;> simp [Vs.cls, Vs.l]) (fun e => by subst e; rfl) (fun e => by subst e; rfl) rfl rfl b_none ha
theorem b_den0 (hx : x.ok w) : (vSV 0 x.cls).den (bEnv w t r x y n) = some x.val := by
  refine vSV_den hx rfl ?_
  cases x with
  | nil => exact .inl ⟨rfl, rfl⟩
  | «at» => exact .inr ⟨nofun, rfl⟩
theorem b_den1 (hy : y.ok w) : (vSV 1 y.cls).den (bEnv w t r x y n) = some y.val := by
  refine vSV_den hy rfl ?_
  cases y with
  | nil => exact .inl ⟨rfl, rfl⟩
  | «at» => exact .inr ⟨nofun, rfl⟩
theorem b_small (ht : t.s.size ≤ 1048576) (hr : r.s.size ≤ 1048576) (hx : ∀ a ∈ x.l, a.s.size ≤ 1048576) (hy : ∀ a ∈ y.l, a.s.size ≤ 1048576) : AsmOk (bEnv w t r x y n) (smalls (2 + ((x.cls - 1) + (y.cls - 1)))) := by
  refine smalls_ok (fun b hb => ?_) ?_
  · simp only [bEnv, vEnv, List.mem_append, List.mem_cons, List.not_mem_nil, or_false, List.mem_map] at hb
    rcases hb with (rfl | rfl) | ⟨a, ha, rfl⟩ | ⟨a, ha, rfl⟩
    · exact ht
    · exact hr
    · exact hx a ha
    · exact hy a ha
  · rw [← x.cls_l, ← y.cls_l]
    simp [bEnv, vEnv]
    omega
theorem b_less (w : World) (t r : Va) (x y : Vs) (n : Int) (p : Nat) : ∀ (l : List Va) (i : Nat) (a : Va), (l.take 0)[i]? = some a → False := fun l i a h => by simp at h
theorem b_relL {cx cy : Nat} (hx : x.ok w) (hy : y.ok w) (hcx : x = .nil ∧ cx = 0 ∨ x ≠ .nil ∧ cx = 1) (hcy : y = .nil ∧ cy = 0 ∨ y ≠ .nil ∧ cy = 1) : Rel w (bEnv w t r x y n) (vSt [] (vObj 5 2 cx) (vObj 5 2 cy)) w := by
  have e : ∀ (l : List Va) (c : Nat), c ≤ 1 → l.take (c - 1) = [] := fun l c h => by rw [show c - 1 = 0 by omega]; rfl
  have hcx1 : cx ≤ 1 := by rcases hcx with ⟨-, rfl⟩ | ⟨-, rfl⟩ <;> omega
  have hcy1 : cy ≤ 1 := by rcases hcy with ⟨-, rfl⟩ | ⟨-, rfl⟩ <;> omega
  refine vSt_rel hx hy (fun i a h => ?_) (fun i a h => ?_) (by omega) (by omega) (fun e => ?_) (fun e => ?_) rfl rfl b_none (fun c v hm => by cases hm)
  · rw [e _ _ hcx1] at h; cases h
  · rw [e _ _ hcy1] at h; cases h
  · rcases hcx with ⟨-, h⟩ | ⟨h, -⟩
    · exact h
    · exact (h e).elim
  · rcases hcy with ⟨-, h⟩ | ⟨h, -⟩
    · exact h
    · exact (h e).elim
end
theorem walkBound (t : Va) (_ : t.ok) (ht : t.s.size ≤ 1048576) (r : Va) (_ : r.ok) (hr : r.s.size ≤ 1048576) (x : Vs) {w : World} (hx : x.ok w) (hxs : ∀ a ∈ x.l, a.s.size ≤ 1048576) (y : Vs) (hy : y.ok w) (hys : ∀ a ∈ y.l, a.s.size ≤ 1048576) (n : Int) (_ : wfI n) :
    Calls Tryz.prog 5 #[t.val, r.val, x.val, y.val, .int .i64 n] w fun e w' => e = .returned (.bool true) ∧ Below w.heap.size w w' := by
  by_cases c1 : 6 ≤ x.l.length
  · obtain ⟨m, hm⟩ : ∃ m, x.l.length = m + 6 := ⟨x.l.length - 6, by omega⟩
    have hne : x ≠ .nil := fun e => by subst e; simp [Vs.l] at c1
    have hX : (SV.slc 0 0 (m + 6) none 3).den (bEnv w t r x y n) = some x.val := by
      have := vSV_den (E := bEnv w t r x y n) (id := 0) hx rfl (.inr ⟨hne, rfl⟩)
      rw [hm] at this
      exact this
    cases y with
    | nil => exact bGo_ok (bLongX0 m) hX rfl b_n (b_relL hx hy (.inr ⟨hne, rfl⟩) (.inl ⟨rfl, rfl⟩))
    | «at» b off cap l => exact bGo_ok (bLongX1 m l.length) hX (vSV_den (c := l.length + 1) hy rfl (.inr ⟨nofun, rfl⟩)) b_n (b_relL hx hy (.inr ⟨hne, rfl⟩) (.inr ⟨nofun, rfl⟩))
  by_cases c2 : 6 ≤ y.l.length
  · obtain ⟨m, hm⟩ : ∃ m, y.l.length = m + 6 := ⟨y.l.length - 6, by omega⟩
    have hne : y ≠ .nil := fun e => by subst e; simp [Vs.l] at c2
    have hY : (SV.slc 1 0 (m + 6) none 3).den (bEnv w t r x y n) = some y.val := by
      have := vSV_den (E := bEnv w t r x y n) (id := 1) hy rfl (.inr ⟨hne, rfl⟩)
      rw [hm] at this
      exact this
    cases x with
    | nil => exact bGo_ok (bLongY0 m) rfl hY b_n (b_relL hx hy (.inl ⟨rfl, rfl⟩) (.inr ⟨hne, rfl⟩))
    | «at» b off cap l =>
      have hX := vSV_den (E := bEnv w t r (.at b off cap l) y n) (id := 0) (c := l.length + 1) hx rfl (.inr ⟨nofun, rfl⟩)
      have hR := b_relL (t := t) (r := r) (n := n) hx hy (.inr ⟨nofun, rfl⟩) (.inr ⟨hne, rfl⟩)
      have hl : l.length = 0 ∨ l.length = 1 ∨ l.length = 2 ∨ l.length = 3 ∨ l.length = 4 ∨ l.length = 5 := by simp only [Vs.l] at c1; omega
      rcases hl with e | e | e | e | e | e <;> rw [e] at hX
      · exact bGo_ok (bLongY1 m) hX hY b_n hR
      · exact bGo_ok (bLongY2 m) hX hY b_n hR
      · exact bGo_ok (bLongY3 m) hX hY b_n hR
      · exact bGo_ok (bLongY4 m) hX hY b_n hR
      · exact bGo_ok (bLongY5 m) hX hY b_n hR
      · exact bGo_ok (bLongY6 m) hX hY b_n hR
  have hi : x.cls < 7 := by have := x.cls_l; omega
  have hj : y.cls < 7 := by have := y.cls_l; omega
  obtain ⟨q1, q2, q3⟩ := btab x.cls y.cls hi hj
  have hs := b_small (w := w) (x := x) (y := y) (n := n) ht hr hxs hys
  by_cases c3 : n < 0
  · exact bGo_ok q1 (b_den0 hx) (b_den1 hy) b_n (b_rel hx hy fun c v hm => by
      simp only [List.mem_singleton, Prod.mk.injEq] at hm
      obtain ⟨rfl, rfl⟩ := hm
      have e : (bEnv w t r x y n).ints[4]? = some n := b_n
      simp only [BX.den, IX.den, e]
      simpa using c3)
  by_cases c4 : n < ((x.cls - 1) + (y.cls - 1) : Nat)
  · obtain ⟨k, rfl⟩ : ∃ k : Nat, n = k := ⟨n.toNat, by omega⟩
    exact bGo_ok (q3 k (by omega)) (b_den0 hx) (b_den1 hy) rfl (b_rel hx hy hs)
  · exact bGo_ok q2 (b_den0 hx) (b_den1 hy) b_n (b_rel hx hy fun c v hm => by
      rcases List.mem_cons.1 hm with e | hm
      · cases e
        have e : (bEnv w t r x y n).ints[4]? = some n := b_n
        simp only [BX.den, IX.den, e]
        simpa using c4
      · exact hs c v hm)
end Go.Proofs.YtegdomkgppddeaaGreatDoor
