/- TraceWrong: its runs, symbolically, for each row and for all numbers beside. -/
import Derived.Test.YtkckgjjhnjcffaaProg
import Derived.Test.YtkckgjjhnjcffaaKit
import Derived.Test.YtkckgjjhnjcffaaSxE
namespace Go.Proofs.Ytkckgjjhnjcffaa
open Go.Sx Go.RowKit
set_option maxRecDepth 100000
def wrongArg (k : Int) : SV := .int .i64 (.lit k)
theorem wrong_run0 : allTrue ((fs Try.prog noC 3000).call 8 [wrongArg 0] {}) = true := by kernel_rfl
theorem wrong_run1 : allTrue ((fs Try.prog noC 3000).call 8 [wrongArg 1] {}) = true := by kernel_rfl
theorem wrong_run2 : allTrue ((fs Try.prog noC 3000).call 8 [wrongArg 2] {}) = true := by kernel_rfl
theorem wrong_run3 : allTrue ((fs Try.prog noC 3000).call 8 [wrongArg 3] {}) = true := by kernel_rfl
theorem wrong_run4 : allTrue ((fs Try.prog noC 3000).call 8 [wrongArg 4] {}) = true := by kernel_rfl
theorem wrong_run5 : allTrue ((fs Try.prog noC 3000).call 8 [wrongArg 5] {}) = true := by kernel_rfl
theorem wrong_run6 : allTrue ((fs Try.prog noC 3000).call 8 [wrongArg 6] {}) = true := by kernel_rfl
theorem wrong_run7 : allTrue ((fs Try.prog noC 3000).call 8 [wrongArg 7] {}) = true := by kernel_rfl
theorem wrong_run8 : allTrue ((fs Try.prog noC 3000).call 8 [wrongArg 8] {}) = true := by kernel_rfl
theorem wrong_run9 : allTrue ((fs Try.prog noC 3000).call 8 [wrongArg 9] {}) = true := by kernel_rfl
theorem wrong_run10 : allTrue ((fs Try.prog noC 3000).call 8 [wrongArg 10] {}) = true := by kernel_rfl
theorem wrong_run11 : allTrue ((fs Try.prog noC 3000).call 8 [wrongArg 11] {}) = true := by kernel_rfl
theorem wrong_run12 : allTrue ((fs Try.prog noC 3000).call 8 [wrongArg 12] {}) = true := by kernel_rfl
theorem wrong_run13 : allTrue ((fs Try.prog noC 3000).call 8 [wrongArg 13] {}) = true := by kernel_rfl
theorem wrong_run14 : allTrue ((fs Try.prog noC 3000).call 8 [wrongArg 14] {}) = true := by kernel_rfl
theorem wrong_run15 : allTrue ((fs Try.prog noC 3000).call 8 [wrongArg 15] {}) = true := by kernel_rfl
theorem wrong_low : allTrue ((fs Try.prog noC 3000).call 8 [.int .i64 (.var 0)] { asm := [(.ilt (.var 0) (.lit 0), true)] }) = true := by kernel_rfl
theorem wrong_high : allTrue ((fs Try.prog noC 3000).call 8 [.int .i64 (.var 0)] { asm := [(.ilt (.var 0) (.lit 0), false), (.ilt (.var 0) (.lit 16), false)] }) = true := by kernel_rfl
theorem walkWrong (x : Int) (_ : wfI x) (w : World) : Calls Try.prog 8 #[.int .i64 x] w fun e w' => e = .returned (.bool true) ∧ Below w.heap.size w w' := by
  have lit : ∀ k : Int, allTrue ((fs Try.prog noC 3000).call 8 [wrongArg k] {}) = true → Calls Try.prog 8 #[.int .i64 k] w fun e w' => e = .returned (.bool true) ∧ Below w.heap.size w w' := fun k h =>
    true_of_run (noC_ok _) h (E := {}) (fun _ => rfl) (fun c v hm => by cases hm) (ARGS := [.int .i64 k]) (by simp [wrongArg, SV.denL, SV.den, IX.den]) w
  by_cases h0 : x < 0
  · exact true_of_run (noC_ok _) wrong_low (E := { ints := [x] }) (fun _ => rfl) (fun c v hm => by simp at hm; obtain ⟨rfl, rfl⟩ := hm; simp [BX.den, IX.den, h0]) (ARGS := [.int .i64 x]) (by simp [SV.denL, SV.den, IX.den]) w
  by_cases h1 : x < 16
  · have : x = 0 ∨ x = 1 ∨ x = 2 ∨ x = 3 ∨ x = 4 ∨ x = 5 ∨ x = 6 ∨ x = 7 ∨ x = 8 ∨ x = 9 ∨ x = 10 ∨ x = 11 ∨ x = 12 ∨ x = 13 ∨ x = 14 ∨ x = 15 := by omega
    rcases this with rfl | rfl | rfl | rfl | rfl | rfl | rfl | rfl | rfl | rfl | rfl | rfl | rfl | rfl | rfl | rfl
    · exact lit _ wrong_run0
    · exact lit _ wrong_run1
    · exact lit _ wrong_run2
    · exact lit _ wrong_run3
    · exact lit _ wrong_run4
    · exact lit _ wrong_run5
    · exact lit _ wrong_run6
    · exact lit _ wrong_run7
    · exact lit _ wrong_run8
    · exact lit _ wrong_run9
    · exact lit _ wrong_run10
    · exact lit _ wrong_run11
    · exact lit _ wrong_run12
    · exact lit _ wrong_run13
    · exact lit _ wrong_run14
    · exact lit _ wrong_run15
  · exact true_of_run (noC_ok _) wrong_high (E := { ints := [x] }) (fun _ => rfl) (fun c v hm => by simp at hm; rcases hm with ⟨rfl, rfl⟩ | ⟨rfl, rfl⟩ <;> simp [BX.den, IX.den] <;> omega) (ARGS := [.int .i64 x]) (by simp [SV.denL, SV.den, IX.den]) w
end Go.Proofs.Ytkckgjjhnjcffaa
