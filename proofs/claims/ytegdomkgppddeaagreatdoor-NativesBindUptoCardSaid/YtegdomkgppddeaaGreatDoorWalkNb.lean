/- NativesBind: its runs, joined. -/
import Derived.Test.YtegdomkgppddeaaGreatDoorNbA
import Derived.Test.YtegdomkgppddeaaGreatDoorNbB
import Derived.Test.YtegdomkgppddeaaGreatDoorNbC
import Derived.Test.YtegdomkgppddeaaGreatDoorNbD
import Derived.Test.YtegdomkgppddeaaGreatDoorNbE
import Derived.Test.YtegdomkgppddeaaGreatDoorNbF
import Derived.Test.YtegdomkgppddeaaGreatDoorNbG
import Derived.Test.YtegdomkgppddeaaGreatDoorNbH
namespace Go.Proofs.YtegdomkgppddeaaGreatDoor
open Go.Sx Go.RowKit
set_option maxRecDepth 100000
set_option linter.unusedVariables false
theorem ntab_2_0 : nNeg 2 0 = true ∧ nMore 2 0 = true ∧ ∀ n, n < (2 - 2) + (0 - 1) → nLit 2 0 n = true := by
  refine ⟨nneg_2_0, nmore_2_0, fun n hn => ?_⟩
  omega
theorem ntab_2_1 : nNeg 2 1 = true ∧ nMore 2 1 = true ∧ ∀ n, n < (2 - 2) + (1 - 1) → nLit 2 1 n = true := by
  refine ⟨nneg_2_1, nmore_2_1, fun n hn => ?_⟩
  omega
theorem ntab_2_2 : nNeg 2 2 = true ∧ nMore 2 2 = true ∧ ∀ n, n < (2 - 2) + (2 - 1) → nLit 2 2 n = true := by
  refine ⟨nneg_2_2, nmore_2_2, fun n hn => ?_⟩
  have : n = 0 := by omega
  subst this
  · exact nlit_2_2_0
theorem ntab_2_3 : nNeg 2 3 = true ∧ nMore 2 3 = true ∧ ∀ n, n < (2 - 2) + (3 - 1) → nLit 2 3 n = true := by
  refine ⟨nneg_2_3, nmore_2_3, fun n hn => ?_⟩
  have : n = 0 ∨ n = 1 := by omega
  rcases this with rfl | rfl
  · exact nlit_2_3_0
  · exact nlit_2_3_1
theorem ntab_2_4 : nNeg 2 4 = true ∧ nMore 2 4 = true ∧ ∀ n, n < (2 - 2) + (4 - 1) → nLit 2 4 n = true := by
  refine ⟨nneg_2_4, nmore_2_4, fun n hn => ?_⟩
  have : n = 0 ∨ n = 1 ∨ n = 2 := by omega
  rcases this with rfl | rfl | rfl
  · exact nlit_2_4_0
  · exact nlit_2_4_1
  · exact nlit_2_4_2
theorem ntab_2_5 : nNeg 2 5 = true ∧ nMore 2 5 = true ∧ ∀ n, n < (2 - 2) + (5 - 1) → nLit 2 5 n = true := by
  refine ⟨nneg_2_5, nmore_2_5, fun n hn => ?_⟩
  have : n = 0 ∨ n = 1 ∨ n = 2 ∨ n = 3 := by omega
  rcases this with rfl | rfl | rfl | rfl
  · exact nlit_2_5_0
  · exact nlit_2_5_1
  · exact nlit_2_5_2
  · exact nlit_2_5_3
theorem ntab_2_6 : nNeg 2 6 = true ∧ nMore 2 6 = true ∧ ∀ n, n < (2 - 2) + (6 - 1) → nLit 2 6 n = true := by
  refine ⟨nneg_2_6, nmore_2_6, fun n hn => ?_⟩
  have : n = 0 ∨ n = 1 ∨ n = 2 ∨ n = 3 ∨ n = 4 := by omega
  rcases this with rfl | rfl | rfl | rfl | rfl
  · exact nlit_2_6_0
  · exact nlit_2_6_1
  · exact nlit_2_6_2
  · exact nlit_2_6_3
  · exact nlit_2_6_4
theorem ntab_3_0 : nNeg 3 0 = true ∧ nMore 3 0 = true ∧ ∀ n, n < (3 - 2) + (0 - 1) → nLit 3 0 n = true := by
  refine ⟨nneg_3_0, nmore_3_0, fun n hn => ?_⟩
  have : n = 0 := by omega
  subst this
  · exact nlit_3_0_0
theorem ntab_3_1 : nNeg 3 1 = true ∧ nMore 3 1 = true ∧ ∀ n, n < (3 - 2) + (1 - 1) → nLit 3 1 n = true := by
  refine ⟨nneg_3_1, nmore_3_1, fun n hn => ?_⟩
  have : n = 0 := by omega
  subst this
  · exact nlit_3_1_0
theorem ntab_3_2 : nNeg 3 2 = true ∧ nMore 3 2 = true ∧ ∀ n, n < (3 - 2) + (2 - 1) → nLit 3 2 n = true := by
  refine ⟨nneg_3_2, nmore_3_2, fun n hn => ?_⟩
  have : n = 0 ∨ n = 1 := by omega
  rcases this with rfl | rfl
  · exact nlit_3_2_0
  · exact nlit_3_2_1
theorem ntab_3_3 : nNeg 3 3 = true ∧ nMore 3 3 = true ∧ ∀ n, n < (3 - 2) + (3 - 1) → nLit 3 3 n = true := by
  refine ⟨nneg_3_3, nmore_3_3, fun n hn => ?_⟩
  have : n = 0 ∨ n = 1 ∨ n = 2 := by omega
  rcases this with rfl | rfl | rfl
  · exact nlit_3_3_0
  · exact nlit_3_3_1
  · exact nlit_3_3_2
theorem ntab_3_4 : nNeg 3 4 = true ∧ nMore 3 4 = true ∧ ∀ n, n < (3 - 2) + (4 - 1) → nLit 3 4 n = true := by
  refine ⟨nneg_3_4, nmore_3_4, fun n hn => ?_⟩
  have : n = 0 ∨ n = 1 ∨ n = 2 ∨ n = 3 := by omega
  rcases this with rfl | rfl | rfl | rfl
  · exact nlit_3_4_0
  · exact nlit_3_4_1
  · exact nlit_3_4_2
  · exact nlit_3_4_3
theorem ntab_3_5 : nNeg 3 5 = true ∧ nMore 3 5 = true ∧ ∀ n, n < (3 - 2) + (5 - 1) → nLit 3 5 n = true := by
  refine ⟨nneg_3_5, nmore_3_5, fun n hn => ?_⟩
  have : n = 0 ∨ n = 1 ∨ n = 2 ∨ n = 3 ∨ n = 4 := by omega
  rcases this with rfl | rfl | rfl | rfl | rfl
  · exact nlit_3_5_0
  · exact nlit_3_5_1
  · exact nlit_3_5_2
  · exact nlit_3_5_3
  · exact nlit_3_5_4
theorem ntab_3_6 : nNeg 3 6 = true ∧ nMore 3 6 = true ∧ ∀ n, n < (3 - 2) + (6 - 1) → nLit 3 6 n = true := by
  refine ⟨nneg_3_6, nmore_3_6, fun n hn => ?_⟩
  have : n = 0 ∨ n = 1 ∨ n = 2 ∨ n = 3 ∨ n = 4 ∨ n = 5 := by omega
  rcases this with rfl | rfl | rfl | rfl | rfl | rfl
  · exact nlit_3_6_0
  · exact nlit_3_6_1
  · exact nlit_3_6_2
  · exact nlit_3_6_3
  · exact nlit_3_6_4
  · exact nlit_3_6_5
theorem ntab_4_0 : nNeg 4 0 = true ∧ nMore 4 0 = true ∧ ∀ n, n < (4 - 2) + (0 - 1) → nLit 4 0 n = true := by
  refine ⟨nneg_4_0, nmore_4_0, fun n hn => ?_⟩
  have : n = 0 ∨ n = 1 := by omega
  rcases this with rfl | rfl
  · exact nlit_4_0_0
  · exact nlit_4_0_1
theorem ntab_4_1 : nNeg 4 1 = true ∧ nMore 4 1 = true ∧ ∀ n, n < (4 - 2) + (1 - 1) → nLit 4 1 n = true := by
  refine ⟨nneg_4_1, nmore_4_1, fun n hn => ?_⟩
  have : n = 0 ∨ n = 1 := by omega
  rcases this with rfl | rfl
  · exact nlit_4_1_0
  · exact nlit_4_1_1
theorem ntab_4_2 : nNeg 4 2 = true ∧ nMore 4 2 = true ∧ ∀ n, n < (4 - 2) + (2 - 1) → nLit 4 2 n = true := by
  refine ⟨nneg_4_2, nmore_4_2, fun n hn => ?_⟩
  have : n = 0 ∨ n = 1 ∨ n = 2 := by omega
  rcases this with rfl | rfl | rfl
  · exact nlit_4_2_0
  · exact nlit_4_2_1
  · exact nlit_4_2_2
theorem ntab_4_3 : nNeg 4 3 = true ∧ nMore 4 3 = true ∧ ∀ n, n < (4 - 2) + (3 - 1) → nLit 4 3 n = true := by
  refine ⟨nneg_4_3, nmore_4_3, fun n hn => ?_⟩
  have : n = 0 ∨ n = 1 ∨ n = 2 ∨ n = 3 := by omega
  rcases this with rfl | rfl | rfl | rfl
  · exact nlit_4_3_0
  · exact nlit_4_3_1
  · exact nlit_4_3_2
  · exact nlit_4_3_3
theorem ntab_4_4 : nNeg 4 4 = true ∧ nMore 4 4 = true ∧ ∀ n, n < (4 - 2) + (4 - 1) → nLit 4 4 n = true := by
  refine ⟨nneg_4_4, nmore_4_4, fun n hn => ?_⟩
  have : n = 0 ∨ n = 1 ∨ n = 2 ∨ n = 3 ∨ n = 4 := by omega
  rcases this with rfl | rfl | rfl | rfl | rfl
  · exact nlit_4_4_0
  · exact nlit_4_4_1
  · exact nlit_4_4_2
  · exact nlit_4_4_3
  · exact nlit_4_4_4
theorem ntab_4_5 : nNeg 4 5 = true ∧ nMore 4 5 = true ∧ ∀ n, n < (4 - 2) + (5 - 1) → nLit 4 5 n = true := by
  refine ⟨nneg_4_5, nmore_4_5, fun n hn => ?_⟩
  have : n = 0 ∨ n = 1 ∨ n = 2 ∨ n = 3 ∨ n = 4 ∨ n = 5 := by omega
  rcases this with rfl | rfl | rfl | rfl | rfl | rfl
  · exact nlit_4_5_0
  · exact nlit_4_5_1
  · exact nlit_4_5_2
  · exact nlit_4_5_3
  · exact nlit_4_5_4
  · exact nlit_4_5_5
theorem ntab_4_6 : nNeg 4 6 = true ∧ nMore 4 6 = true ∧ ∀ n, n < (4 - 2) + (6 - 1) → nLit 4 6 n = true := by
  refine ⟨nneg_4_6, nmore_4_6, fun n hn => ?_⟩
  have : n = 0 ∨ n = 1 ∨ n = 2 ∨ n = 3 ∨ n = 4 ∨ n = 5 ∨ n = 6 := by omega
  rcases this with rfl | rfl | rfl | rfl | rfl | rfl | rfl
  · exact nlit_4_6_0
  · exact nlit_4_6_1
  · exact nlit_4_6_2
  · exact nlit_4_6_3
  · exact nlit_4_6_4
  · exact nlit_4_6_5
  · exact nlit_4_6_6
theorem ntab_5_0 : nNeg 5 0 = true ∧ nMore 5 0 = true ∧ ∀ n, n < (5 - 2) + (0 - 1) → nLit 5 0 n = true := by
  refine ⟨nneg_5_0, nmore_5_0, fun n hn => ?_⟩
  have : n = 0 ∨ n = 1 ∨ n = 2 := by omega
  rcases this with rfl | rfl | rfl
  · exact nlit_5_0_0
  · exact nlit_5_0_1
  · exact nlit_5_0_2
theorem ntab_5_1 : nNeg 5 1 = true ∧ nMore 5 1 = true ∧ ∀ n, n < (5 - 2) + (1 - 1) → nLit 5 1 n = true := by
  refine ⟨nneg_5_1, nmore_5_1, fun n hn => ?_⟩
  have : n = 0 ∨ n = 1 ∨ n = 2 := by omega
  rcases this with rfl | rfl | rfl
  · exact nlit_5_1_0
  · exact nlit_5_1_1
  · exact nlit_5_1_2
theorem ntab_5_2 : nNeg 5 2 = true ∧ nMore 5 2 = true ∧ ∀ n, n < (5 - 2) + (2 - 1) → nLit 5 2 n = true := by
  refine ⟨nneg_5_2, nmore_5_2, fun n hn => ?_⟩
  have : n = 0 ∨ n = 1 ∨ n = 2 ∨ n = 3 := by omega
  rcases this with rfl | rfl | rfl | rfl
  · exact nlit_5_2_0
  · exact nlit_5_2_1
  · exact nlit_5_2_2
  · exact nlit_5_2_3
theorem ntab_5_3 : nNeg 5 3 = true ∧ nMore 5 3 = true ∧ ∀ n, n < (5 - 2) + (3 - 1) → nLit 5 3 n = true := by
  refine ⟨nneg_5_3, nmore_5_3, fun n hn => ?_⟩
  have : n = 0 ∨ n = 1 ∨ n = 2 ∨ n = 3 ∨ n = 4 := by omega
  rcases this with rfl | rfl | rfl | rfl | rfl
  · exact nlit_5_3_0
  · exact nlit_5_3_1
  · exact nlit_5_3_2
  · exact nlit_5_3_3
  · exact nlit_5_3_4
theorem ntab_5_4 : nNeg 5 4 = true ∧ nMore 5 4 = true ∧ ∀ n, n < (5 - 2) + (4 - 1) → nLit 5 4 n = true := by
  refine ⟨nneg_5_4, nmore_5_4, fun n hn => ?_⟩
  have : n = 0 ∨ n = 1 ∨ n = 2 ∨ n = 3 ∨ n = 4 ∨ n = 5 := by omega
  rcases this with rfl | rfl | rfl | rfl | rfl | rfl
  · exact nlit_5_4_0
  · exact nlit_5_4_1
  · exact nlit_5_4_2
  · exact nlit_5_4_3
  · exact nlit_5_4_4
  · exact nlit_5_4_5
theorem ntab_5_5 : nNeg 5 5 = true ∧ nMore 5 5 = true ∧ ∀ n, n < (5 - 2) + (5 - 1) → nLit 5 5 n = true := by
  refine ⟨nneg_5_5, nmore_5_5, fun n hn => ?_⟩
  have : n = 0 ∨ n = 1 ∨ n = 2 ∨ n = 3 ∨ n = 4 ∨ n = 5 ∨ n = 6 := by omega
  rcases this with rfl | rfl | rfl | rfl | rfl | rfl | rfl
  · exact nlit_5_5_0
  · exact nlit_5_5_1
  · exact nlit_5_5_2
  · exact nlit_5_5_3
  · exact nlit_5_5_4
  · exact nlit_5_5_5
  · exact nlit_5_5_6
theorem ntab_5_6 : nNeg 5 6 = true ∧ nMore 5 6 = true ∧ ∀ n, n < (5 - 2) + (6 - 1) → nLit 5 6 n = true := by
  refine ⟨nneg_5_6, nmore_5_6, fun n hn => ?_⟩
  have : n = 0 ∨ n = 1 ∨ n = 2 ∨ n = 3 ∨ n = 4 ∨ n = 5 ∨ n = 6 ∨ n = 7 := by omega
  rcases this with rfl | rfl | rfl | rfl | rfl | rfl | rfl | rfl
  · exact nlit_5_6_0
  · exact nlit_5_6_1
  · exact nlit_5_6_2
  · exact nlit_5_6_3
  · exact nlit_5_6_4
  · exact nlit_5_6_5
  · exact nlit_5_6_6
  · exact nlit_5_6_7
theorem ntab_6_0 : nNeg 6 0 = true ∧ nMore 6 0 = true ∧ ∀ n, n < (6 - 2) + (0 - 1) → nLit 6 0 n = true := by
  refine ⟨nneg_6_0, nmore_6_0, fun n hn => ?_⟩
  have : n = 0 ∨ n = 1 ∨ n = 2 ∨ n = 3 := by omega
  rcases this with rfl | rfl | rfl | rfl
  · exact nlit_6_0_0
  · exact nlit_6_0_1
  · exact nlit_6_0_2
  · exact nlit_6_0_3
theorem ntab_6_1 : nNeg 6 1 = true ∧ nMore 6 1 = true ∧ ∀ n, n < (6 - 2) + (1 - 1) → nLit 6 1 n = true := by
  refine ⟨nneg_6_1, nmore_6_1, fun n hn => ?_⟩
  have : n = 0 ∨ n = 1 ∨ n = 2 ∨ n = 3 := by omega
  rcases this with rfl | rfl | rfl | rfl
  · exact nlit_6_1_0
  · exact nlit_6_1_1
  · exact nlit_6_1_2
  · exact nlit_6_1_3
theorem ntab_6_2 : nNeg 6 2 = true ∧ nMore 6 2 = true ∧ ∀ n, n < (6 - 2) + (2 - 1) → nLit 6 2 n = true := by
  refine ⟨nneg_6_2, nmore_6_2, fun n hn => ?_⟩
  have : n = 0 ∨ n = 1 ∨ n = 2 ∨ n = 3 ∨ n = 4 := by omega
  rcases this with rfl | rfl | rfl | rfl | rfl
  · exact nlit_6_2_0
  · exact nlit_6_2_1
  · exact nlit_6_2_2
  · exact nlit_6_2_3
  · exact nlit_6_2_4
theorem ntab_6_3 : nNeg 6 3 = true ∧ nMore 6 3 = true ∧ ∀ n, n < (6 - 2) + (3 - 1) → nLit 6 3 n = true := by
  refine ⟨nneg_6_3, nmore_6_3, fun n hn => ?_⟩
  have : n = 0 ∨ n = 1 ∨ n = 2 ∨ n = 3 ∨ n = 4 ∨ n = 5 := by omega
  rcases this with rfl | rfl | rfl | rfl | rfl | rfl
  · exact nlit_6_3_0
  · exact nlit_6_3_1
  · exact nlit_6_3_2
  · exact nlit_6_3_3
  · exact nlit_6_3_4
  · exact nlit_6_3_5
theorem ntab_6_4 : nNeg 6 4 = true ∧ nMore 6 4 = true ∧ ∀ n, n < (6 - 2) + (4 - 1) → nLit 6 4 n = true := by
  refine ⟨nneg_6_4, nmore_6_4, fun n hn => ?_⟩
  have : n = 0 ∨ n = 1 ∨ n = 2 ∨ n = 3 ∨ n = 4 ∨ n = 5 ∨ n = 6 := by omega
  rcases this with rfl | rfl | rfl | rfl | rfl | rfl | rfl
  · exact nlit_6_4_0
  · exact nlit_6_4_1
  · exact nlit_6_4_2
  · exact nlit_6_4_3
  · exact nlit_6_4_4
  · exact nlit_6_4_5
  · exact nlit_6_4_6
theorem ntab_6_5 : nNeg 6 5 = true ∧ nMore 6 5 = true ∧ ∀ n, n < (6 - 2) + (5 - 1) → nLit 6 5 n = true := by
  refine ⟨nneg_6_5, nmore_6_5, fun n hn => ?_⟩
  have : n = 0 ∨ n = 1 ∨ n = 2 ∨ n = 3 ∨ n = 4 ∨ n = 5 ∨ n = 6 ∨ n = 7 := by omega
  rcases this with rfl | rfl | rfl | rfl | rfl | rfl | rfl | rfl
  · exact nlit_6_5_0
  · exact nlit_6_5_1
  · exact nlit_6_5_2
  · exact nlit_6_5_3
  · exact nlit_6_5_4
  · exact nlit_6_5_5
  · exact nlit_6_5_6
  · exact nlit_6_5_7
theorem ntab_6_6 : nNeg 6 6 = true ∧ nMore 6 6 = true ∧ ∀ n, n < (6 - 2) + (6 - 1) → nLit 6 6 n = true := by
  refine ⟨nneg_6_6, nmore_6_6, fun n hn => ?_⟩
  have : n = 0 ∨ n = 1 ∨ n = 2 ∨ n = 3 ∨ n = 4 ∨ n = 5 ∨ n = 6 ∨ n = 7 ∨ n = 8 := by omega
  rcases this with rfl | rfl | rfl | rfl | rfl | rfl | rfl | rfl | rfl
  · exact nlit_6_6_0
  · exact nlit_6_6_1
  · exact nlit_6_6_2
  · exact nlit_6_6_3
  · exact nlit_6_6_4
  · exact nlit_6_6_5
  · exact nlit_6_6_6
  · exact nlit_6_6_7
  · exact nlit_6_6_8
theorem ntab (i j : Nat) (hi0 : 2 ≤ i) (hi : i < 7) (hj : j < 7) : nNeg i j = true ∧ nMore i j = true ∧ ∀ n, n < (i - 2) + (j - 1) → nLit i j n = true := by
  have hi : i = 2 ∨ i = 3 ∨ i = 4 ∨ i = 5 ∨ i = 6 := by omega
  have hj : j = 0 ∨ j = 1 ∨ j = 2 ∨ j = 3 ∨ j = 4 ∨ j = 5 ∨ j = 6 := by omega
  rcases hi with rfl | rfl | rfl | rfl | rfl
  · rcases hj with rfl | rfl | rfl | rfl | rfl | rfl | rfl
    · exact ntab_2_0
    · exact ntab_2_1
    · exact ntab_2_2
    · exact ntab_2_3
    · exact ntab_2_4
    · exact ntab_2_5
    · exact ntab_2_6
  · rcases hj with rfl | rfl | rfl | rfl | rfl | rfl | rfl
    · exact ntab_3_0
    · exact ntab_3_1
    · exact ntab_3_2
    · exact ntab_3_3
    · exact ntab_3_4
    · exact ntab_3_5
    · exact ntab_3_6
  · rcases hj with rfl | rfl | rfl | rfl | rfl | rfl | rfl
    · exact ntab_4_0
    · exact ntab_4_1
    · exact ntab_4_2
    · exact ntab_4_3
    · exact ntab_4_4
    · exact ntab_4_5
    · exact ntab_4_6
  · rcases hj with rfl | rfl | rfl | rfl | rfl | rfl | rfl
    · exact ntab_5_0
    · exact ntab_5_1
    · exact ntab_5_2
    · exact ntab_5_3
    · exact ntab_5_4
    · exact ntab_5_5
    · exact ntab_5_6
  · rcases hj with rfl | rfl | rfl | rfl | rfl | rfl | rfl
    · exact ntab_6_0
    · exact ntab_6_1
    · exact ntab_6_2
    · exact ntab_6_3
    · exact ntab_6_4
    · exact ntab_6_5
    · exact ntab_6_6
def Vs.cls : Vs → Nat
  | .nil => 0
  | .at _ _ _ l => l.length + 1
theorem Vs.cls_l (x : Vs) : x.l.length = x.cls - 1 := by cases x <;> rfl
def nEnv (w : World) (x y : Vs) (n : Int) : Env := vEnv w [n] [] x y
section
variable {w : World} {x y : Vs} {n : Int}
theorem nGo_ok {X Y : SV} {ox oy : SObj} {nS : IX} {asm : Asm} (h : nGo X Y ox oy nS asm = true) (hX : X.den (nEnv w x y n) = some x.val) (hY : Y.den (nEnv w x y n) = some y.val) (hn : nS.den (nEnv w x y n) = some n) (R : Rel w (nEnv w x y n) (vSt asm ox oy) w) :
    Calls Tryz.prog 12 #[x.val, y.val, .int .i64 n] w fun e w' => e = .returned (.bool true) ∧ Below w.heap.size w w' := by
  exact true_from cN_ok h R (ARGS := [x.val, y.val, .int .i64 n]) (by simp only [SV.denL, SV.den, hX, hY, hn])
theorem n_none : ∀ id, 2 ≤ id → (nEnv w x y n).blk id = none := fun id h => match id, h with
  | _ + 2, _ => rfl
theorem n_n : (IX.var 0).den (nEnv w x y n) = some n := by simp [IX.den, nEnv, vEnv]
theorem n_rel (hx : x.ok w) (hy : y.ok w) {asm : Asm} (ha : AsmOk (nEnv w x y n) asm) : Rel w (nEnv w x y n) (vSt asm (vObj 1 0 x.cls) (vObj (1 + 2 * (x.cls - 1)) (0 + (x.cls - 1)) y.cls)) w := by
  have hL : Lies (nEnv w x y n) (1 + 2 * (x.cls - 1)) (0 + (x.cls - 1)) (y.l.take (y.cls - 1)) := by
    rw [← x.cls_l]
    exact lies_y (w := w) (ints := [n]) (strs := []) (x := x) (y := y) _
  exact vSt_rel hx hy (lies_x (w := w) (ints := [n]) (strs := []) (x := x) (y := y) _) hL (by cases x <;> simp [Vs.cls, Vs.l]) (by cases y <;> simp [Vs.cls, Vs.l]) (fun e => by subst e; rfl) (fun e => by subst e; rfl) rfl rfl n_none ha
theorem n_den0 (hx : x.ok w) : (vSV 0 x.cls).den (nEnv w x y n) = some x.val := by
  refine vSV_den hx rfl ?_
  cases x with
  | nil => exact .inl ⟨rfl, rfl⟩
  | «at» => exact .inr ⟨nofun, rfl⟩
theorem n_den1 (hy : y.ok w) : (vSV 1 y.cls).den (nEnv w x y n) = some y.val := by
  refine vSV_den hy rfl ?_
  cases y with
  | nil => exact .inl ⟨rfl, rfl⟩
  | «at» => exact .inr ⟨nofun, rfl⟩
theorem n_small (hx : ∀ a ∈ x.l, a.s.size ≤ 1048576) (hy : ∀ a ∈ y.l, a.s.size ≤ 1048576) : AsmOk (nEnv w x y n) (smalls ((x.cls - 1) + (y.cls - 1))) := by
  refine smalls_ok (fun b hb => ?_) ?_
  · simp only [nEnv, vEnv, List.nil_append, List.mem_append, List.mem_map] at hb
    rcases hb with ⟨a, ha, rfl⟩ | ⟨a, ha, rfl⟩
    · exact hx a ha
    · exact hy a ha
  · rw [← x.cls_l, ← y.cls_l]
    simp [nEnv, vEnv]
theorem n_relL {cx cy : Nat} (hx : x.ok w) (hy : y.ok w) (hcx : x = .nil ∧ cx = 0 ∨ x ≠ .nil ∧ cx = 1) (hcy : y = .nil ∧ cy = 0 ∨ y ≠ .nil ∧ cy = 1) : Rel w (nEnv w x y n) (vSt [] (vObj 1 0 cx) (vObj 1 0 cy)) w := by
  have e : ∀ (l : List Va) (c : Nat), c ≤ 1 → l.take (c - 1) = [] := fun l c h => by rw [show c - 1 = 0 by omega]; rfl
  have hcx1 : cx ≤ 1 := by rcases hcx with ⟨-, rfl⟩ | ⟨-, rfl⟩ <;> omega
  have hcy1 : cy ≤ 1 := by rcases hcy with ⟨-, rfl⟩ | ⟨-, rfl⟩ <;> omega
  refine vSt_rel hx hy (fun i a h => ?_) (fun i a h => ?_) (by omega) (by omega) (fun e => ?_) (fun e => ?_) rfl rfl n_none (fun c v hm => by cases hm)
  · rw [e _ _ hcx1] at h; cases h
  · rw [e _ _ hcy1] at h; cases h
  · rcases hcx with ⟨-, h⟩ | ⟨h, -⟩
    · exact h
    · exact (h e).elim
  · rcases hcy with ⟨-, h⟩ | ⟨h, -⟩
    · exact h
    · exact (h e).elim
end
theorem walkNb (x : Vs) {w : World} (hx : x.ok w) (hxs : ∀ a ∈ x.l, a.s.size ≤ 1048576) (y : Vs) (hy : y.ok w) (hys : ∀ a ∈ y.l, a.s.size ≤ 1048576) (n : Int) (_ : wfI n) :
    Calls Tryz.prog 12 #[x.val, y.val, .int .i64 n] w fun e w' => e = .returned (.bool true) ∧ Below w.heap.size w w' := by
  by_cases c1 : 6 ≤ x.l.length
  · obtain ⟨m, hm⟩ : ∃ m, x.l.length = m + 6 := ⟨x.l.length - 6, by omega⟩
    have hne : x ≠ .nil := fun e => by subst e; simp [Vs.l] at c1
    have hX : (SV.slc 0 0 (m + 6) none 3).den (nEnv w x y n) = some x.val := by
      have := vSV_den (E := nEnv w x y n) (id := 0) hx rfl (.inr ⟨hne, rfl⟩)
      rw [hm] at this
      exact this
    cases y with
    | nil => exact nGo_ok (nLongX0 m) hX rfl n_n (n_relL hx hy (.inr ⟨hne, rfl⟩) (.inl ⟨rfl, rfl⟩))
    | «at» b off cap l => exact nGo_ok (nLongX1 m l.length) hX (vSV_den (c := l.length + 1) hy rfl (.inr ⟨nofun, rfl⟩)) n_n (n_relL hx hy (.inr ⟨hne, rfl⟩) (.inr ⟨nofun, rfl⟩))
  by_cases c0 : x.l.length = 0
  · cases x with
    | nil => cases y with
      | nil => exact nGo_ok nNone00 rfl rfl n_n (n_relL hx hy (.inl ⟨rfl, rfl⟩) (.inl ⟨rfl, rfl⟩))
      | «at» b off cap l => exact nGo_ok (nNone01 l.length) rfl (vSV_den (c := l.length + 1) hy rfl (.inr ⟨nofun, rfl⟩)) n_n (n_relL hx hy (.inl ⟨rfl, rfl⟩) (.inr ⟨nofun, rfl⟩))
    | «at» b off cap l =>
      have hX := vSV_den (E := nEnv w (.at b off cap l) y n) (id := 0) (c := l.length + 1) hx rfl (.inr ⟨nofun, rfl⟩)
      have e : l.length = 0 := c0
      rw [e] at hX
      cases y with
      | nil => exact nGo_ok nNone10 hX rfl n_n (n_relL hx hy (.inr ⟨nofun, rfl⟩) (.inl ⟨rfl, rfl⟩))
      | «at» b' off' cap' l' => exact nGo_ok (nNone11 l'.length) hX (vSV_den (c := l'.length + 1) hy rfl (.inr ⟨nofun, rfl⟩)) n_n (n_relL hx hy (.inr ⟨nofun, rfl⟩) (.inr ⟨nofun, rfl⟩))
  by_cases c2 : 6 ≤ y.l.length
  · obtain ⟨m, hm⟩ : ∃ m, y.l.length = m + 6 := ⟨y.l.length - 6, by omega⟩
    have hne : y ≠ .nil := fun e => by subst e; simp [Vs.l] at c2
    have hY : (SV.slc 1 0 (m + 6) none 3).den (nEnv w x y n) = some y.val := by
      have := vSV_den (E := nEnv w x y n) (id := 1) hy rfl (.inr ⟨hne, rfl⟩)
      rw [hm] at this
      exact this
    cases x with
    | nil => exact (c0 rfl).elim
    | «at» b off cap l =>
      have hX := vSV_den (E := nEnv w (.at b off cap l) y n) (id := 0) (c := l.length + 1) hx rfl (.inr ⟨nofun, rfl⟩)
      have hR := n_relL (n := n) hx hy (.inr ⟨nofun, rfl⟩) (.inr ⟨hne, rfl⟩)
      have hl : l.length = 1 ∨ l.length = 2 ∨ l.length = 3 ∨ l.length = 4 ∨ l.length = 5 := by simp only [Vs.l] at c1 c0; omega
      rcases hl with e | e | e | e | e <;> rw [e] at hX
      · exact nGo_ok (nLongY1 m) hX hY n_n hR
      · exact nGo_ok (nLongY2 m) hX hY n_n hR
      · exact nGo_ok (nLongY3 m) hX hY n_n hR
      · exact nGo_ok (nLongY4 m) hX hY n_n hR
      · exact nGo_ok (nLongY5 m) hX hY n_n hR
  have hi : x.cls < 7 := by have := x.cls_l; omega
  have hi2 : 2 ≤ x.cls := by have := x.cls_l; omega
  have hj : y.cls < 7 := by have := y.cls_l; omega
  obtain ⟨q1, q2, q3⟩ := ntab x.cls y.cls hi2 hi hj
  have hs := n_small (w := w) (x := x) (y := y) (n := n) hxs hys
  by_cases c3 : n < 0
  · exact nGo_ok q1 (n_den0 hx) (n_den1 hy) n_n (n_rel hx hy fun c v hm => by
      simp only [List.mem_singleton, Prod.mk.injEq] at hm
      obtain ⟨rfl, rfl⟩ := hm
      have e : (nEnv w x y n).ints[0]? = some n := n_n
      simp only [BX.den, IX.den, e]
      simpa using c3)
  by_cases c4 : n < ((x.cls - 2) + (y.cls - 1) : Nat)
  · obtain ⟨k, rfl⟩ : ∃ k : Nat, n = k := ⟨n.toNat, by omega⟩
    exact nGo_ok (q3 k (by omega)) (n_den0 hx) (n_den1 hy) rfl (n_rel hx hy hs)
  · exact nGo_ok q2 (n_den0 hx) (n_den1 hy) n_n (n_rel hx hy fun c v hm => by
      rcases List.mem_cons.1 hm with e | hm
      · cases e
        have e : (nEnv w x y n).ints[0]? = some n := n_n
        simp only [BX.den, IX.den, e]
        simpa using c4
      · exact hs c v hm)
end Go.Proofs.YtegdomkgppddeaaGreatDoor
