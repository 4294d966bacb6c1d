/- EvalCatch: its runs, joined. -/
import Derived.Test.YthpgbehpchjohaaGreatDoorKit
import Derived.Test.YthpgbehpchjohaaGreatDoorCatchA
import Derived.Test.YthpgbehpchjohaaGreatDoorCatchB
import Derived.Test.YthpgbehpchjohaaGreatDoorCatchC
import Derived.Test.YthpgbehpchjohaaGreatDoorCatchD
import Derived.Test.YthpgbehpchjohaaGreatDoorCatchE
import Derived.Test.YthpgbehpchjohaaGreatDoorCatchF
import Derived.Test.YthpgbehpchjohaaGreatDoorCatchG
import Derived.Test.YthpgbehpchjohaaGreatDoorCatchH
import Derived.Test.YthpgbehpchjohaaGreatDoorCatchI
import Derived.Test.YthpgbehpchjohaaGreatDoorCatchJ
import Derived.Test.YthpgbehpchjohaaGreatDoorCatchK
import Derived.Test.YthpgbehpchjohaaGreatDoorCatchL
import Derived.Test.YthpgbehpchjohaaGreatDoorCatchM
import Derived.Test.YthpgbehpchjohaaGreatDoorCatchN
import Derived.Test.YthpgbehpchjohaaGreatDoorCatchO
import Derived.Test.YthpgbehpchjohaaGreatDoorCatchP
namespace Go.Proofs.YthpgbehpchjohaaGreatDoor
open Go.Sx Go.RowKit
set_option maxRecDepth 100000
theorem walkCatch (x0 : Int) (_ : wfI x0) (x1 : Int) (_ : wfI x1) (x2 : Int) (_ : wfI x2) {w : World} (ht : Lib.TabIs Tryz.prog w "strings.asciiSpace" .u8 Lib.asciiSpaceTab) : Calls Tryz.prog 3 #[.int .i64 x0, .int .i64 x1, .int .i64 x2] w fun e w' => e = .returned (.bool true) ∧ Below w.heap.size w w' := by
  by_cases l0 : x0 < 0
  · exact true_of_fast Catch_c_ok Catch_low0 (E := { ints := [x0, x1, x2] }) (fun _ => rfl) (fun c v hm => by simp only [List.mem_singleton, Prod.mk.injEq] at hm; obtain ⟨rfl, rfl⟩ := hm; simp [BX.den, IX.den] <;> omega) (ARGS := [.int .i64 x0, .int .i64 x1, .int .i64 x2]) (by simp [SV.denL, SV.den, IX.den]) w (heap_of_space ht)
  by_cases g0 : x0 < 3
  rotate_left
  · exact true_of_fast Catch_c_ok Catch_high0 (E := { ints := [x0, x1, x2] }) (fun _ => rfl) (fun c v hm => by simp only [List.mem_singleton, Prod.mk.injEq] at hm; obtain ⟨rfl, rfl⟩ := hm; simp [BX.den, IX.den] <;> omega) (ARGS := [.int .i64 x0, .int .i64 x1, .int .i64 x2]) (by simp [SV.denL, SV.den, IX.den]) w (heap_of_space ht)
  by_cases l1 : x1 < 0
  · exact true_of_fast Catch_c_ok Catch_low1 (E := { ints := [x0, x1, x2] }) (fun _ => rfl) (fun c v hm => by simp only [List.mem_singleton, Prod.mk.injEq] at hm; obtain ⟨rfl, rfl⟩ := hm; simp [BX.den, IX.den] <;> omega) (ARGS := [.int .i64 x0, .int .i64 x1, .int .i64 x2]) (by simp [SV.denL, SV.den, IX.den]) w (heap_of_space ht)
  by_cases g1 : x1 < 4
  rotate_left
  · exact true_of_fast Catch_c_ok Catch_high1 (E := { ints := [x0, x1, x2] }) (fun _ => rfl) (fun c v hm => by simp only [List.mem_singleton, Prod.mk.injEq] at hm; obtain ⟨rfl, rfl⟩ := hm; simp [BX.den, IX.den] <;> omega) (ARGS := [.int .i64 x0, .int .i64 x1, .int .i64 x2]) (by simp [SV.denL, SV.den, IX.den]) w (heap_of_space ht)
  by_cases l2 : x2 < 0
  · exact true_of_fast Catch_c_ok Catch_low2 (E := { ints := [x0, x1, x2] }) (fun _ => rfl) (fun c v hm => by simp only [List.mem_singleton, Prod.mk.injEq] at hm; obtain ⟨rfl, rfl⟩ := hm; simp [BX.den, IX.den] <;> omega) (ARGS := [.int .i64 x0, .int .i64 x1, .int .i64 x2]) (by simp [SV.denL, SV.den, IX.den]) w (heap_of_space ht)
  by_cases g2 : x2 < 4
  rotate_left
  · exact true_of_fast Catch_c_ok Catch_high2 (E := { ints := [x0, x1, x2] }) (fun _ => rfl) (fun c v hm => by simp only [List.mem_singleton, Prod.mk.injEq] at hm; obtain ⟨rfl, rfl⟩ := hm; simp [BX.den, IX.den] <;> omega) (ARGS := [.int .i64 x0, .int .i64 x1, .int .i64 x2]) (by simp [SV.denL, SV.den, IX.den]) w (heap_of_space ht)
  have h0 : x0 = 0 ∨ x0 = 1 ∨ x0 = 2 := by omega
  rcases h0 with rfl | rfl | rfl
  · have h1 : x1 = 0 ∨ x1 = 1 ∨ x1 = 2 ∨ x1 = 3 := by omega
    rcases h1 with rfl | rfl | rfl | rfl
    · have h2 : x2 = 0 ∨ x2 = 1 ∨ x2 = 2 ∨ x2 = 3 := by omega
      rcases h2 with rfl | rfl | rfl | rfl
      · exact true_of_fast Catch_c_ok Catch_at0_0_0 (E := {}) (fun _ => rfl) (fun c v hm => by cases hm) (ARGS := [.int .i64 0, .int .i64 0, .int .i64 0]) (by simp [SV.denL, SV.den, IX.den]) w (heap_of_space ht)
      · exact true_of_fast Catch_c_ok Catch_at0_0_1 (E := {}) (fun _ => rfl) (fun c v hm => by cases hm) (ARGS := [.int .i64 0, .int .i64 0, .int .i64 1]) (by simp [SV.denL, SV.den, IX.den]) w (heap_of_space ht)
      · exact true_of_fast Catch_c_ok Catch_at0_0_2 (E := {}) (fun _ => rfl) (fun c v hm => by cases hm) (ARGS := [.int .i64 0, .int .i64 0, .int .i64 2]) (by simp [SV.denL, SV.den, IX.den]) w (heap_of_space ht)
      · exact true_of_fast Catch_c_ok Catch_at0_0_3 (E := {}) (fun _ => rfl) (fun c v hm => by cases hm) (ARGS := [.int .i64 0, .int .i64 0, .int .i64 3]) (by simp [SV.denL, SV.den, IX.den]) w (heap_of_space ht)
    · have h2 : x2 = 0 ∨ x2 = 1 ∨ x2 = 2 ∨ x2 = 3 := by omega
      rcases h2 with rfl | rfl | rfl | rfl
      · exact true_of_fast Catch_c_ok Catch_at0_1_0 (E := {}) (fun _ => rfl) (fun c v hm => by cases hm) (ARGS := [.int .i64 0, .int .i64 1, .int .i64 0]) (by simp [SV.denL, SV.den, IX.den]) w (heap_of_space ht)
      · exact true_of_fast Catch_c_ok Catch_at0_1_1 (E := {}) (fun _ => rfl) (fun c v hm => by cases hm) (ARGS := [.int .i64 0, .int .i64 1, .int .i64 1]) (by simp [SV.denL, SV.den, IX.den]) w (heap_of_space ht)
      · exact true_of_fast Catch_c_ok Catch_at0_1_2 (E := {}) (fun _ => rfl) (fun c v hm => by cases hm) (ARGS := [.int .i64 0, .int .i64 1, .int .i64 2]) (by simp [SV.denL, SV.den, IX.den]) w (heap_of_space ht)
      · exact true_of_fast Catch_c_ok Catch_at0_1_3 (E := {}) (fun _ => rfl) (fun c v hm => by cases hm) (ARGS := [.int .i64 0, .int .i64 1, .int .i64 3]) (by simp [SV.denL, SV.den, IX.den]) w (heap_of_space ht)
    · have h2 : x2 = 0 ∨ x2 = 1 ∨ x2 = 2 ∨ x2 = 3 := by omega
      rcases h2 with rfl | rfl | rfl | rfl
      · exact true_of_fast Catch_c_ok Catch_at0_2_0 (E := {}) (fun _ => rfl) (fun c v hm => by cases hm) (ARGS := [.int .i64 0, .int .i64 2, .int .i64 0]) (by simp [SV.denL, SV.den, IX.den]) w (heap_of_space ht)
      · exact true_of_fast Catch_c_ok Catch_at0_2_1 (E := {}) (fun _ => rfl) (fun c v hm => by cases hm) (ARGS := [.int .i64 0, .int .i64 2, .int .i64 1]) (by simp [SV.denL, SV.den, IX.den]) w (heap_of_space ht)
      · exact true_of_fast Catch_c_ok Catch_at0_2_2 (E := {}) (fun _ => rfl) (fun c v hm => by cases hm) (ARGS := [.int .i64 0, .int .i64 2, .int .i64 2]) (by simp [SV.denL, SV.den, IX.den]) w (heap_of_space ht)
      · exact true_of_fast Catch_c_ok Catch_at0_2_3 (E := {}) (fun _ => rfl) (fun c v hm => by cases hm) (ARGS := [.int .i64 0, .int .i64 2, .int .i64 3]) (by simp [SV.denL, SV.den, IX.den]) w (heap_of_space ht)
    · have h2 : x2 = 0 ∨ x2 = 1 ∨ x2 = 2 ∨ x2 = 3 := by omega
      rcases h2 with rfl | rfl | rfl | rfl
      · exact true_of_fast Catch_c_ok Catch_at0_3_0 (E := {}) (fun _ => rfl) (fun c v hm => by cases hm) (ARGS := [.int .i64 0, .int .i64 3, .int .i64 0]) (by simp [SV.denL, SV.den, IX.den]) w (heap_of_space ht)
      · exact true_of_fast Catch_c_ok Catch_at0_3_1 (E := {}) (fun _ => rfl) (fun c v hm => by cases hm) (ARGS := [.int .i64 0, .int .i64 3, .int .i64 1]) (by simp [SV.denL, SV.den, IX.den]) w (heap_of_space ht)
      · exact true_of_fast Catch_c_ok Catch_at0_3_2 (E := {}) (fun _ => rfl) (fun c v hm => by cases hm) (ARGS := [.int .i64 0, .int .i64 3, .int .i64 2]) (by simp [SV.denL, SV.den, IX.den]) w (heap_of_space ht)
      · exact true_of_fast Catch_c_ok Catch_at0_3_3 (E := {}) (fun _ => rfl) (fun c v hm => by cases hm) (ARGS := [.int .i64 0, .int .i64 3, .int .i64 3]) (by simp [SV.denL, SV.den, IX.den]) w (heap_of_space ht)
  · have h1 : x1 = 0 ∨ x1 = 1 ∨ x1 = 2 ∨ x1 = 3 := by omega
    rcases h1 with rfl | rfl | rfl | rfl
    · have h2 : x2 = 0 ∨ x2 = 1 ∨ x2 = 2 ∨ x2 = 3 := by omega
      rcases h2 with rfl | rfl | rfl | rfl
      · exact true_of_fast Catch_c_ok Catch_at1_0_0 (E := {}) (fun _ => rfl) (fun c v hm => by cases hm) (ARGS := [.int .i64 1, .int .i64 0, .int .i64 0]) (by simp [SV.denL, SV.den, IX.den]) w (heap_of_space ht)
      · exact true_of_fast Catch_c_ok Catch_at1_0_1 (E := {}) (fun _ => rfl) (fun c v hm => by cases hm) (ARGS := [.int .i64 1, .int .i64 0, .int .i64 1]) (by simp [SV.denL, SV.den, IX.den]) w (heap_of_space ht)
      · exact true_of_fast Catch_c_ok Catch_at1_0_2 (E := {}) (fun _ => rfl) (fun c v hm => by cases hm) (ARGS := [.int .i64 1, .int .i64 0, .int .i64 2]) (by simp [SV.denL, SV.den, IX.den]) w (heap_of_space ht)
      · exact true_of_fast Catch_c_ok Catch_at1_0_3 (E := {}) (fun _ => rfl) (fun c v hm => by cases hm) (ARGS := [.int .i64 1, .int .i64 0, .int .i64 3]) (by simp [SV.denL, SV.den, IX.den]) w (heap_of_space ht)
    · have h2 : x2 = 0 ∨ x2 = 1 ∨ x2 = 2 ∨ x2 = 3 := by omega
      rcases h2 with rfl | rfl | rfl | rfl
      · exact true_of_fast Catch_c_ok Catch_at1_1_0 (E := {}) (fun _ => rfl) (fun c v hm => by cases hm) (ARGS := [.int .i64 1, .int .i64 1, .int .i64 0]) (by simp [SV.denL, SV.den, IX.den]) w (heap_of_space ht)
      · exact true_of_fast Catch_c_ok Catch_at1_1_1 (E := {}) (fun _ => rfl) (fun c v hm => by cases hm) (ARGS := [.int .i64 1, .int .i64 1, .int .i64 1]) (by simp [SV.denL, SV.den, IX.den]) w (heap_of_space ht)
      · exact true_of_fast Catch_c_ok Catch_at1_1_2 (E := {}) (fun _ => rfl) (fun c v hm => by cases hm) (ARGS := [.int .i64 1, .int .i64 1, .int .i64 2]) (by simp [SV.denL, SV.den, IX.den]) w (heap_of_space ht)
      · exact true_of_fast Catch_c_ok Catch_at1_1_3 (E := {}) (fun _ => rfl) (fun c v hm => by cases hm) (ARGS := [.int .i64 1, .int .i64 1, .int .i64 3]) (by simp [SV.denL, SV.den, IX.den]) w (heap_of_space ht)
    · have h2 : x2 = 0 ∨ x2 = 1 ∨ x2 = 2 ∨ x2 = 3 := by omega
      rcases h2 with rfl | rfl | rfl | rfl
      · exact true_of_fast Catch_c_ok Catch_at1_2_0 (E := {}) (fun _ => rfl) (fun c v hm => by cases hm) (ARGS := [.int .i64 1, .int .i64 2, .int .i64 0]) (by simp [SV.denL, SV.den, IX.den]) w (heap_of_space ht)
      · exact true_of_fast Catch_c_ok Catch_at1_2_1 (E := {}) (fun _ => rfl) (fun c v hm => by cases hm) (ARGS := [.int .i64 1, .int .i64 2, .int .i64 1]) (by simp [SV.denL, SV.den, IX.den]) w (heap_of_space ht)
      · exact true_of_fast Catch_c_ok Catch_at1_2_2 (E := {}) (fun _ => rfl) (fun c v hm => by cases hm) (ARGS := [.int .i64 1, .int .i64 2, .int .i64 2]) (by simp [SV.denL, SV.den, IX.den]) w (heap_of_space ht)
      · exact true_of_fast Catch_c_ok Catch_at1_2_3 (E := {}) (fun _ => rfl) (fun c v hm => by cases hm) (ARGS := [.int .i64 1, .int .i64 2, .int .i64 3]) (by simp [SV.denL, SV.den, IX.den]) w (heap_of_space ht)
    · have h2 : x2 = 0 ∨ x2 = 1 ∨ x2 = 2 ∨ x2 = 3 := by omega
      rcases h2 with rfl | rfl | rfl | rfl
      · exact true_of_fast Catch_c_ok Catch_at1_3_0 (E := {}) (fun _ => rfl) (fun c v hm => by cases hm) (ARGS := [.int .i64 1, .int .i64 3, .int .i64 0]) (by simp [SV.denL, SV.den, IX.den]) w (heap_of_space ht)
      · exact true_of_fast Catch_c_ok Catch_at1_3_1 (E := {}) (fun _ => rfl) (fun c v hm => by cases hm) (ARGS := [.int .i64 1, .int .i64 3, .int .i64 1]) (by simp [SV.denL, SV.den, IX.den]) w (heap_of_space ht)
      · exact true_of_fast Catch_c_ok Catch_at1_3_2 (E := {}) (fun _ => rfl) (fun c v hm => by cases hm) (ARGS := [.int .i64 1, .int .i64 3, .int .i64 2]) (by simp [SV.denL, SV.den, IX.den]) w (heap_of_space ht)
      · exact true_of_fast Catch_c_ok Catch_at1_3_3 (E := {}) (fun _ => rfl) (fun c v hm => by cases hm) (ARGS := [.int .i64 1, .int .i64 3, .int .i64 3]) (by simp [SV.denL, SV.den, IX.den]) w (heap_of_space ht)
  · have h1 : x1 = 0 ∨ x1 = 1 ∨ x1 = 2 ∨ x1 = 3 := by omega
    rcases h1 with rfl | rfl | rfl | rfl
    · have h2 : x2 = 0 ∨ x2 = 1 ∨ x2 = 2 ∨ x2 = 3 := by omega
      rcases h2 with rfl | rfl | rfl | rfl
      · exact true_of_fast Catch_c_ok Catch_at2_0_0 (E := {}) (fun _ => rfl) (fun c v hm => by cases hm) (ARGS := [.int .i64 2, .int .i64 0, .int .i64 0]) (by simp [SV.denL, SV.den, IX.den]) w (heap_of_space ht)
      · exact true_of_fast Catch_c_ok Catch_at2_0_1 (E := {}) (fun _ => rfl) (fun c v hm => by cases hm) (ARGS := [.int .i64 2, .int .i64 0, .int .i64 1]) (by simp [SV.denL, SV.den, IX.den]) w (heap_of_space ht)
      · exact true_of_fast Catch_c_ok Catch_at2_0_2 (E := {}) (fun _ => rfl) (fun c v hm => by cases hm) (ARGS := [.int .i64 2, .int .i64 0, .int .i64 2]) (by simp [SV.denL, SV.den, IX.den]) w (heap_of_space ht)
      · exact true_of_fast Catch_c_ok Catch_at2_0_3 (E := {}) (fun _ => rfl) (fun c v hm => by cases hm) (ARGS := [.int .i64 2, .int .i64 0, .int .i64 3]) (by simp [SV.denL, SV.den, IX.den]) w (heap_of_space ht)
    · have h2 : x2 = 0 ∨ x2 = 1 ∨ x2 = 2 ∨ x2 = 3 := by omega
      rcases h2 with rfl | rfl | rfl | rfl
      · exact true_of_fast Catch_c_ok Catch_at2_1_0 (E := {}) (fun _ => rfl) (fun c v hm => by cases hm) (ARGS := [.int .i64 2, .int .i64 1, .int .i64 0]) (by simp [SV.denL, SV.den, IX.den]) w (heap_of_space ht)
      · exact true_of_fast Catch_c_ok Catch_at2_1_1 (E := {}) (fun _ => rfl) (fun c v hm => by cases hm) (ARGS := [.int .i64 2, .int .i64 1, .int .i64 1]) (by simp [SV.denL, SV.den, IX.den]) w (heap_of_space ht)
      · exact true_of_fast Catch_c_ok Catch_at2_1_2 (E := {}) (fun _ => rfl) (fun c v hm => by cases hm) (ARGS := [.int .i64 2, .int .i64 1, .int .i64 2]) (by simp [SV.denL, SV.den, IX.den]) w (heap_of_space ht)
      · exact true_of_fast Catch_c_ok Catch_at2_1_3 (E := {}) (fun _ => rfl) (fun c v hm => by cases hm) (ARGS := [.int .i64 2, .int .i64 1, .int .i64 3]) (by simp [SV.denL, SV.den, IX.den]) w (heap_of_space ht)
    · have h2 : x2 = 0 ∨ x2 = 1 ∨ x2 = 2 ∨ x2 = 3 := by omega
      rcases h2 with rfl | rfl | rfl | rfl
      · exact true_of_fast Catch_c_ok Catch_at2_2_0 (E := {}) (fun _ => rfl) (fun c v hm => by cases hm) (ARGS := [.int .i64 2, .int .i64 2, .int .i64 0]) (by simp [SV.denL, SV.den, IX.den]) w (heap_of_space ht)
      · exact true_of_fast Catch_c_ok Catch_at2_2_1 (E := {}) (fun _ => rfl) (fun c v hm => by cases hm) (ARGS := [.int .i64 2, .int .i64 2, .int .i64 1]) (by simp [SV.denL, SV.den, IX.den]) w (heap_of_space ht)
      · exact true_of_fast Catch_c_ok Catch_at2_2_2 (E := {}) (fun _ => rfl) (fun c v hm => by cases hm) (ARGS := [.int .i64 2, .int .i64 2, .int .i64 2]) (by simp [SV.denL, SV.den, IX.den]) w (heap_of_space ht)
      · exact true_of_fast Catch_c_ok Catch_at2_2_3 (E := {}) (fun _ => rfl) (fun c v hm => by cases hm) (ARGS := [.int .i64 2, .int .i64 2, .int .i64 3]) (by simp [SV.denL, SV.den, IX.den]) w (heap_of_space ht)
    · have h2 : x2 = 0 ∨ x2 = 1 ∨ x2 = 2 ∨ x2 = 3 := by omega
      rcases h2 with rfl | rfl | rfl | rfl
      · exact true_of_fast Catch_c_ok Catch_at2_3_0 (E := {}) (fun _ => rfl) (fun c v hm => by cases hm) (ARGS := [.int .i64 2, .int .i64 3, .int .i64 0]) (by simp [SV.denL, SV.den, IX.den]) w (heap_of_space ht)
      · exact true_of_fast Catch_c_ok Catch_at2_3_1 (E := {}) (fun _ => rfl) (fun c v hm => by cases hm) (ARGS := [.int .i64 2, .int .i64 3, .int .i64 1]) (by simp [SV.denL, SV.den, IX.den]) w (heap_of_space ht)
      · exact true_of_fast Catch_c_ok Catch_at2_3_2 (E := {}) (fun _ => rfl) (fun c v hm => by cases hm) (ARGS := [.int .i64 2, .int .i64 3, .int .i64 2]) (by simp [SV.denL, SV.den, IX.den]) w (heap_of_space ht)
      · exact true_of_fast Catch_c_ok Catch_at2_3_3 (E := {}) (fun _ => rfl) (fun c v hm => by cases hm) (ARGS := [.int .i64 2, .int .i64 3, .int .i64 3]) (by simp [SV.denL, SV.den, IX.den]) w (heap_of_space ht)
end Go.Proofs.YthpgbehpchjohaaGreatDoor
