/- ReflectNames: its runs, for each number that counts, and for all others. -/
import Derived.Test.YtegdomkgppddeaaGreatDoorProg
import Derived.Test.YtegdomkgppddeaaGreatDoorKit
import Derived.Test.YtegdomkgppddeaaGreatDoorSyC
namespace Go.Proofs.YtegdomkgppddeaaGreatDoor
open Go.Sx Go.RowKit
set_option maxRecDepth 100000
theorem rnames_run0 : allTrue ((fk Tryz.prog noC 3000).call 7 [.int .i64 (.lit 0)] {}).outs = true := by kernel_rfl
theorem rnames_run1 : allTrue ((fk Tryz.prog noC 3000).call 7 [.int .i64 (.lit 1)] {}).outs = true := by kernel_rfl
theorem rnames_run2 : allTrue ((fk Tryz.prog noC 3000).call 7 [.int .i64 (.lit 2)] {}).outs = true := by kernel_rfl
theorem rnames_run3 : allTrue ((fk Tryz.prog noC 3000).call 7 [.int .i64 (.lit 3)] {}).outs = true := by kernel_rfl
theorem rnames_run4 : allTrue ((fk Tryz.prog noC 3000).call 7 [.int .i64 (.lit 4)] {}).outs = true := by kernel_rfl
theorem rnames_run5 : allTrue ((fk Tryz.prog noC 3000).call 7 [.int .i64 (.lit 5)] {}).outs = true := by kernel_rfl
theorem rnames_run6 : allTrue ((fk Tryz.prog noC 3000).call 7 [.int .i64 (.lit 6)] {}).outs = true := by kernel_rfl
theorem rnames_run7 : allTrue ((fk Tryz.prog noC 3000).call 7 [.int .i64 (.lit 7)] {}).outs = true := by kernel_rfl
theorem rnames_run8 : allTrue ((fk Tryz.prog noC 3000).call 7 [.int .i64 (.lit 8)] {}).outs = true := by kernel_rfl
theorem rnames_run9 : allTrue ((fk Tryz.prog noC 3000).call 7 [.int .i64 (.lit 9)] {}).outs = true := by kernel_rfl
theorem rnames_run10 : allTrue ((fk Tryz.prog noC 3000).call 7 [.int .i64 (.lit 10)] {}).outs = true := by kernel_rfl
theorem rnames_run11 : allTrue ((fk Tryz.prog noC 3000).call 7 [.int .i64 (.lit 11)] {}).outs = true := by kernel_rfl
theorem rnames_run12 : allTrue ((fk Tryz.prog noC 3000).call 7 [.int .i64 (.lit 12)] {}).outs = true := by kernel_rfl
theorem rnames_run13 : allTrue ((fk Tryz.prog noC 3000).call 7 [.int .i64 (.lit 13)] {}).outs = true := by kernel_rfl
theorem rnames_low : allTrue ((fk Tryz.prog noC 3000).call 7 [.int .i64 (.var 0)] { asm := [(.ilt (.var 0) (.lit 0), true)] }).outs = true := by kernel_rfl
theorem rnames_high : allTrue ((fk Tryz.prog noC 3000).call 7 [.int .i64 (.var 0)] { asm := [(.ilt (.var 0) (.lit 0), false), (.ilt (.var 0) (.lit 14), false)] }).outs = true := by kernel_rfl
theorem walkRNames (x : Int) (_ : wfI x) (w : World) : Calls Tryz.prog 7 #[.int .i64 x] w fun e w' => e = .returned (.bool true) ∧ Below w.heap.size w w' := by
  have lit : ∀ k : Int, allTrue ((fk Tryz.prog noC 3000).call 7 [.int .i64 (.lit k)] {}).outs = true → Calls Tryz.prog 7 #[.int .i64 k] w fun e w' => e = .returned (.bool true) ∧ Below w.heap.size w w' := fun k h =>
    true_of_fast (noC_ok _) h (E := {}) (fun _ => rfl) (fun c v hm => by cases hm) (ARGS := [.int .i64 k]) (by simp [SV.denL, SV.den, IX.den]) w
  by_cases h0 : x < 0
  · exact true_of_fast (noC_ok _) rnames_low (E := { ints := [x] }) (fun _ => rfl) (fun c v hm => by simp at hm; obtain ⟨rfl, rfl⟩ := hm; simp [BX.den, IX.den, h0]) (ARGS := [.int .i64 x]) (by simp [SV.denL, SV.den, IX.den]) w
  by_cases h1 : x < 14
  · have : x = 0 ∨ x = 1 ∨ x = 2 ∨ x = 3 ∨ x = 4 ∨ x = 5 ∨ x = 6 ∨ x = 7 ∨ x = 8 ∨ x = 9 ∨ x = 10 ∨ x = 11 ∨ x = 12 ∨ x = 13 := by omega
    rcases this with rfl | rfl | rfl | rfl | rfl | rfl | rfl | rfl | rfl | rfl | rfl | rfl | rfl | rfl
    · exact lit _ rnames_run0
    · exact lit _ rnames_run1
    · exact lit _ rnames_run2
    · exact lit _ rnames_run3
    · exact lit _ rnames_run4
    · exact lit _ rnames_run5
    · exact lit _ rnames_run6
    · exact lit _ rnames_run7
    · exact lit _ rnames_run8
    · exact lit _ rnames_run9
    · exact lit _ rnames_run10
    · exact lit _ rnames_run11
    · exact lit _ rnames_run12
    · exact lit _ rnames_run13
  · exact true_of_fast (noC_ok _) rnames_high (E := { ints := [x] }) (fun _ => rfl) (fun c v hm => by simp at hm; rcases hm with ⟨rfl, rfl⟩ | ⟨rfl, rfl⟩ <;> simp [BX.den, IX.den] <;> omega) (ARGS := [.int .i64 x]) (by simp [SV.denL, SV.den, IX.den]) w
end Go.Proofs.YtegdomkgppddeaaGreatDoor
