/- ScopeNear: its runs, joined. -/
import Derived.Test.YtkckgjjhnjcffaaKit
import Derived.Test.YtkckgjjhnjcffaaNearA
import Derived.Test.YtkckgjjhnjcffaaNearB
import Derived.Test.YtkckgjjhnjcffaaNearC
import Derived.Test.YtkckgjjhnjcffaaNearD
namespace Go.Proofs.Ytkckgjjhnjcffaa
open Go.Sx Go.RowKit
set_option maxRecDepth 100000
theorem near_all (k : Int) (h0 : 0 ≤ k) (h1 : k ≤ 50) : nearAt k = true := by
  have : k = 0 ∨ k = 1 ∨ k = 2 ∨ k = 3 ∨ k = 4 ∨ k = 5 ∨ k = 6 ∨ k = 7 ∨ k = 8 ∨ k = 9 ∨ k = 10 ∨ k = 11 ∨ k = 12 ∨ k = 13 ∨ k = 14 ∨ k = 15 ∨ k = 16 ∨ k = 17 ∨ k = 18 ∨ k = 19 ∨ k = 20 ∨ k = 21 ∨ k = 22 ∨ k = 23 ∨ k = 24 ∨ k = 25 ∨ k = 26 ∨ k = 27 ∨ k = 28 ∨ k = 29 ∨ k = 30 ∨ k = 31 ∨ k = 32 ∨ k = 33 ∨ k = 34 ∨ k = 35 ∨ k = 36 ∨ k = 37 ∨ k = 38 ∨ k = 39 ∨ k = 40 ∨ k = 41 ∨ k = 42 ∨ k = 43 ∨ k = 44 ∨ k = 45 ∨ k = 46 ∨ k = 47 ∨ k = 48 ∨ k = 49 ∨ k = 50 := by omega
  rcases this with rfl | rfl | rfl | rfl | rfl | rfl | rfl | rfl | rfl | rfl | rfl | rfl | rfl | rfl | rfl | rfl | rfl | rfl | rfl | rfl | rfl | rfl | rfl | rfl | rfl | rfl | rfl | rfl | rfl | rfl | rfl | rfl | rfl | rfl | rfl | rfl | rfl | rfl | rfl | rfl | rfl | rfl | rfl | rfl | rfl | rfl | rfl | rfl | rfl | rfl | rfl
  · exact near_at0
  · exact near_at1
  · exact near_at2
  · exact near_at3
  · exact near_at4
  · exact near_at5
  · exact near_at6
  · exact near_at7
  · exact near_at8
  · exact near_at9
  · exact near_at10
  · exact near_at11
  · exact near_at12
  · exact near_at13
  · exact near_at14
  · exact near_at15
  · exact near_at16
  · exact near_at17
  · exact near_at18
  · exact near_at19
  · exact near_at20
  · exact near_at21
  · exact near_at22
  · exact near_at23
  · exact near_at24
  · exact near_at25
  · exact near_at26
  · exact near_at27
  · exact near_at28
  · exact near_at29
  · exact near_at30
  · exact near_at31
  · exact near_at32
  · exact near_at33
  · exact near_at34
  · exact near_at35
  · exact near_at36
  · exact near_at37
  · exact near_at38
  · exact near_at39
  · exact near_at40
  · exact near_at41
  · exact near_at42
  · exact near_at43
  · exact near_at44
  · exact near_at45
  · exact near_at46
  · exact near_at47
  · exact near_at48
  · exact near_at49
  · exact near_at50
theorem walkNear (d : Int) (_ : wfI d) (a : Int) (_ : wfI a) (x : Va) (_ : x.ok) (y : Va) (_ : y.ok) (w : World) : Calls Try.prog 4 #[.int .i64 d, .int .i64 a, x.val, y.val] w fun e w' => e = .returned (.bool true) ∧ Below w.heap.size w w' := by
  have go : ∀ (A : IX) (asm : Asm), nearRun A asm = true → A.den { ints := [d, x.k, x.n, y.k, y.n, a], strs := [x.s, y.s] } = some a → AsmOk { ints := [d, x.k, x.n, y.k, y.n, a], strs := [x.s, y.s] } asm → Calls Try.prog 4 #[.int .i64 d, .int .i64 a, x.val, y.val] w fun e w' => e = .returned (.bool true) ∧ Below w.heap.size w w' := fun A asm h hA ha =>
    true_of_fast (noC_ok _) h (E := { ints := [d, x.k, x.n, y.k, y.n, a], strs := [x.s, y.s] }) (fun _ => rfl) ha (ARGS := [.int .i64 d, .int .i64 a, x.val, y.val]) (by simp [nearArgs, nearVa, SV.denL, SV.den, hA]; simp [IX.den, SX.den, Va.val]) w
  by_cases h1 : d < 1
  · exact go (.var 5) _ near_less rfl (fun c v hm => by simp at hm; obtain ⟨rfl, rfl⟩ := hm; simp [BX.den, IX.den, h1])
  by_cases h2 : d < 51
  · by_cases h3 : a < 0
    · refine go (.var 5) _ near_low rfl (fun c v hm => ?_)
      simp [nearIn] at hm
      rcases hm with ⟨rfl, rfl⟩ | ⟨rfl, rfl⟩ | ⟨rfl, rfl⟩ <;> simp [BX.den, IX.den] <;> omega
    by_cases h4 : d < a
    · refine go (.var 5) _ near_high rfl (fun c v hm => ?_)
      simp [nearIn] at hm
      rcases hm with ⟨rfl, rfl⟩ | ⟨rfl, rfl⟩ | ⟨rfl, rfl⟩ | ⟨rfl, rfl⟩ <;> simp [BX.den, IX.den] <;> omega
    · refine go (.lit a) _ (near_all a (by omega) (by omega)) rfl (fun c v hm => ?_)
      simp [nearIn] at hm
      rcases hm with ⟨rfl, rfl⟩ | ⟨rfl, rfl⟩ | ⟨rfl, rfl⟩ <;> simp [BX.den, IX.den] <;> omega
  · refine go (.var 5) _ near_more rfl (fun c v hm => ?_)
    simp at hm
    rcases hm with ⟨rfl, rfl⟩ | ⟨rfl, rfl⟩ <;> simp [BX.den, IX.den] <;> omega
end Go.Proofs.Ytkckgjjhnjcffaa
