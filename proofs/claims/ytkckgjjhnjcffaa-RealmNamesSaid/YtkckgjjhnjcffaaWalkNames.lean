/- RealmNames: its runs, joined. -/
import Derived.Test.YtkckgjjhnjcffaaKit
import Derived.Test.YtkckgjjhnjcffaaNamesA
import Derived.Test.YtkckgjjhnjcffaaNamesB
namespace Go.Proofs.Ytkckgjjhnjcffaa
open Go.Sx Go.RowKit
set_option maxRecDepth 100000
theorem walkNames (x : Int) (_ : wfI x) (w : World) : Calls Try.prog 9 #[.int .i64 x] w fun e w' => e = .returned (.bool true) ∧ Below w.heap.size w w' := by
  have lit : ∀ k : Int, allTrue ((fk Try.prog noC 3000).call 9 [.int .i64 (.lit k)] {}).outs = true → Calls Try.prog 9 #[.int .i64 k] w fun e w' => e = .returned (.bool true) ∧ Below w.heap.size w w' := fun k h =>
    true_of_fast (noC_ok _) h (E := {}) (fun _ => rfl) (fun c v hm => by cases hm) (ARGS := [.int .i64 k]) (by simp [SV.denL, SV.den, IX.den]) w
  by_cases h0 : x < 0
  · exact true_of_fast (noC_ok _) names_low (E := { ints := [x] }) (fun _ => rfl) (fun c v hm => by simp at hm; obtain ⟨rfl, rfl⟩ := hm; simp [BX.den, IX.den, h0]) (ARGS := [.int .i64 x]) (by simp [SV.denL, SV.den, IX.den]) w
  by_cases h1 : x < 6
  · have : x = 0 ∨ x = 1 ∨ x = 2 ∨ x = 3 ∨ x = 4 ∨ x = 5 := by omega
    rcases this with rfl | rfl | rfl | rfl | rfl | rfl
    · exact lit _ names_run0
    · exact lit _ names_run1
    · exact lit _ names_run2
    · exact lit _ names_run3
    · exact lit _ names_run4
    · exact lit _ names_run5
  · exact true_of_fast (noC_ok _) names_high (E := { ints := [x] }) (fun _ => rfl) (fun c v hm => by simp at hm; rcases hm with ⟨rfl, rfl⟩ | ⟨rfl, rfl⟩ <;> simp [BX.den, IX.den] <;> omega) (ARGS := [.int .i64 x]) (by simp [SV.denL, SV.den, IX.den]) w
end Go.Proofs.Ytkckgjjhnjcffaa
