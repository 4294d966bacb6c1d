/- MopDeep: its runs, joined. -/
import Derived.Test.YtegdomkgppddeaaGreatDoorKit
import Derived.Test.YtegdomkgppddeaaGreatDoorDeepA
import Derived.Test.YtegdomkgppddeaaGreatDoorDeepB
import Derived.Test.YtegdomkgppddeaaGreatDoorDeepC
import Derived.Test.YtegdomkgppddeaaGreatDoorDeepD
import Derived.Test.YtegdomkgppddeaaGreatDoorDeepE
import Derived.Test.YtegdomkgppddeaaGreatDoorDeepF
namespace Go.Proofs.YtegdomkgppddeaaGreatDoor
open Go.Sx Go.RowKit
set_option maxRecDepth 100000
theorem deep_all (n d : Int) (h0 : 1 ≤ n) (h1 : n ≤ 40) (h2 : 0 ≤ d) (h3 : d ≤ 60) : ∃ lo hi, deepAt n lo hi = true ∧ lo ≤ d ∧ d < hi := by
  have : n = 1 ∨ n = 2 ∨ n = 3 ∨ n = 4 ∨ n = 5 ∨ n = 6 ∨ n = 7 ∨ n = 8 ∨ n = 9 ∨ n = 10 ∨ n = 11 ∨ n = 12 ∨ n = 13 ∨ n = 14 ∨ n = 15 ∨ n = 16 ∨ n = 17 ∨ n = 18 ∨ n = 19 ∨ n = 20 ∨ n = 21 ∨ n = 22 ∨ n = 23 ∨ n = 24 ∨ n = 25 ∨ n = 26 ∨ n = 27 ∨ n = 28 ∨ n = 29 ∨ n = 30 ∨ n = 31 ∨ n = 32 ∨ n = 33 ∨ n = 34 ∨ n = 35 ∨ n = 36 ∨ n = 37 ∨ n = 38 ∨ n = 39 ∨ n = 40 := by omega
  rcases this with rfl | rfl | rfl | rfl | rfl | rfl | rfl | rfl | rfl | rfl | rfl | rfl | rfl | rfl | rfl | rfl | rfl | rfl | rfl | rfl | rfl | rfl | rfl | rfl | rfl | rfl | rfl | rfl | rfl | rfl | rfl | rfl | rfl | rfl | rfl | rfl | rfl | rfl | rfl | rfl
  · exact ⟨_, _, deep_at1_0, by omega, by omega⟩
  · exact ⟨_, _, deep_at2_0, by omega, by omega⟩
  · exact ⟨_, _, deep_at3_0, by omega, by omega⟩
  · exact ⟨_, _, deep_at4_0, by omega, by omega⟩
  · exact ⟨_, _, deep_at5_0, by omega, by omega⟩
  · exact ⟨_, _, deep_at6_0, by omega, by omega⟩
  · exact ⟨_, _, deep_at7_0, by omega, by omega⟩
  · exact ⟨_, _, deep_at8_0, by omega, by omega⟩
  · exact ⟨_, _, deep_at9_0, by omega, by omega⟩
  · exact ⟨_, _, deep_at10_0, by omega, by omega⟩
  · exact ⟨_, _, deep_at11_0, by omega, by omega⟩
  · exact ⟨_, _, deep_at12_0, by omega, by omega⟩
  · by_cases g0 : d < 13
    · exact ⟨_, _, deep_at13_0, by omega, by omega⟩
    exact ⟨_, _, deep_at13_1, by omega, by omega⟩
  · by_cases g0 : d < 13
    · exact ⟨_, _, deep_at14_0, by omega, by omega⟩
    exact ⟨_, _, deep_at14_1, by omega, by omega⟩
  · by_cases g0 : d < 13
    · exact ⟨_, _, deep_at15_0, by omega, by omega⟩
    exact ⟨_, _, deep_at15_1, by omega, by omega⟩
  · by_cases g0 : d < 13
    · exact ⟨_, _, deep_at16_0, by omega, by omega⟩
    exact ⟨_, _, deep_at16_1, by omega, by omega⟩
  · by_cases g0 : d < 13
    · exact ⟨_, _, deep_at17_0, by omega, by omega⟩
    exact ⟨_, _, deep_at17_1, by omega, by omega⟩
  · by_cases g0 : d < 13
    · exact ⟨_, _, deep_at18_0, by omega, by omega⟩
    exact ⟨_, _, deep_at18_1, by omega, by omega⟩
  · by_cases g0 : d < 13
    · exact ⟨_, _, deep_at19_0, by omega, by omega⟩
    exact ⟨_, _, deep_at19_1, by omega, by omega⟩
  · by_cases g0 : d < 13
    · exact ⟨_, _, deep_at20_0, by omega, by omega⟩
    exact ⟨_, _, deep_at20_1, by omega, by omega⟩
  · by_cases g0 : d < 13
    · exact ⟨_, _, deep_at21_0, by omega, by omega⟩
    exact ⟨_, _, deep_at21_1, by omega, by omega⟩
  · by_cases g0 : d < 13
    · exact ⟨_, _, deep_at22_0, by omega, by omega⟩
    exact ⟨_, _, deep_at22_1, by omega, by omega⟩
  · by_cases g0 : d < 13
    · exact ⟨_, _, deep_at23_0, by omega, by omega⟩
    exact ⟨_, _, deep_at23_1, by omega, by omega⟩
  · by_cases g0 : d < 13
    · exact ⟨_, _, deep_at24_0, by omega, by omega⟩
    exact ⟨_, _, deep_at24_1, by omega, by omega⟩
  · by_cases g0 : d < 15
    · exact ⟨_, _, deep_at25_0, by omega, by omega⟩
    by_cases g1 : d < 28
    · exact ⟨_, _, deep_at25_1, by omega, by omega⟩
    exact ⟨_, _, deep_at25_2, by omega, by omega⟩
  · by_cases g0 : d < 15
    · exact ⟨_, _, deep_at26_0, by omega, by omega⟩
    by_cases g1 : d < 28
    · exact ⟨_, _, deep_at26_1, by omega, by omega⟩
    exact ⟨_, _, deep_at26_2, by omega, by omega⟩
  · by_cases g0 : d < 15
    · exact ⟨_, _, deep_at27_0, by omega, by omega⟩
    by_cases g1 : d < 28
    · exact ⟨_, _, deep_at27_1, by omega, by omega⟩
    exact ⟨_, _, deep_at27_2, by omega, by omega⟩
  · by_cases g0 : d < 15
    · exact ⟨_, _, deep_at28_0, by omega, by omega⟩
    by_cases g1 : d < 28
    · exact ⟨_, _, deep_at28_1, by omega, by omega⟩
    exact ⟨_, _, deep_at28_2, by omega, by omega⟩
  · by_cases g0 : d < 15
    · exact ⟨_, _, deep_at29_0, by omega, by omega⟩
    by_cases g1 : d < 28
    · exact ⟨_, _, deep_at29_1, by omega, by omega⟩
    exact ⟨_, _, deep_at29_2, by omega, by omega⟩
  · by_cases g0 : d < 15
    · exact ⟨_, _, deep_at30_0, by omega, by omega⟩
    by_cases g1 : d < 28
    · exact ⟨_, _, deep_at30_1, by omega, by omega⟩
    exact ⟨_, _, deep_at30_2, by omega, by omega⟩
  · by_cases g0 : d < 15
    · exact ⟨_, _, deep_at31_0, by omega, by omega⟩
    by_cases g1 : d < 28
    · exact ⟨_, _, deep_at31_1, by omega, by omega⟩
    exact ⟨_, _, deep_at31_2, by omega, by omega⟩
  · by_cases g0 : d < 15
    · exact ⟨_, _, deep_at32_0, by omega, by omega⟩
    by_cases g1 : d < 28
    · exact ⟨_, _, deep_at32_1, by omega, by omega⟩
    exact ⟨_, _, deep_at32_2, by omega, by omega⟩
  · by_cases g0 : d < 15
    · exact ⟨_, _, deep_at33_0, by omega, by omega⟩
    by_cases g1 : d < 28
    · exact ⟨_, _, deep_at33_1, by omega, by omega⟩
    exact ⟨_, _, deep_at33_2, by omega, by omega⟩
  · by_cases g0 : d < 15
    · exact ⟨_, _, deep_at34_0, by omega, by omega⟩
    by_cases g1 : d < 28
    · exact ⟨_, _, deep_at34_1, by omega, by omega⟩
    exact ⟨_, _, deep_at34_2, by omega, by omega⟩
  · by_cases g0 : d < 15
    · exact ⟨_, _, deep_at35_0, by omega, by omega⟩
    by_cases g1 : d < 28
    · exact ⟨_, _, deep_at35_1, by omega, by omega⟩
    exact ⟨_, _, deep_at35_2, by omega, by omega⟩
  · by_cases g0 : d < 15
    · exact ⟨_, _, deep_at36_0, by omega, by omega⟩
    by_cases g1 : d < 28
    · exact ⟨_, _, deep_at36_1, by omega, by omega⟩
    exact ⟨_, _, deep_at36_2, by omega, by omega⟩
  · by_cases g0 : d < 15
    · exact ⟨_, _, deep_at37_0, by omega, by omega⟩
    by_cases g1 : d < 28
    · exact ⟨_, _, deep_at37_1, by omega, by omega⟩
    exact ⟨_, _, deep_at37_2, by omega, by omega⟩
  · by_cases g0 : d < 15
    · exact ⟨_, _, deep_at38_0, by omega, by omega⟩
    by_cases g1 : d < 28
    · exact ⟨_, _, deep_at38_1, by omega, by omega⟩
    exact ⟨_, _, deep_at38_2, by omega, by omega⟩
  · by_cases g0 : d < 15
    · exact ⟨_, _, deep_at39_0, by omega, by omega⟩
    by_cases g1 : d < 28
    · exact ⟨_, _, deep_at39_1, by omega, by omega⟩
    exact ⟨_, _, deep_at39_2, by omega, by omega⟩
  · by_cases g0 : d < 15
    · exact ⟨_, _, deep_at40_0, by omega, by omega⟩
    by_cases g1 : d < 28
    · exact ⟨_, _, deep_at40_1, by omega, by omega⟩
    exact ⟨_, _, deep_at40_2, by omega, by omega⟩
theorem walkDeep (n : Int) (_ : wfI n) (d : Int) (_ : wfI d) (w : World) : Calls Tryz.prog 3 #[.int .i64 n, .int .i64 d] w fun e w' => e = .returned (.bool true) ∧ Below w.heap.size w w' := by
  have go : ∀ (A : IX) (asm : Asm), deepRun A asm = true → A.den { ints := [d, n] } = some n → AsmOk { ints := [d, n] } asm → Calls Tryz.prog 3 #[.int .i64 n, .int .i64 d] w fun e w' => e = .returned (.bool true) ∧ Below w.heap.size w w' := fun A asm h hA ha =>
    true_of_fast c9_ok h (E := { ints := [d, n] }) (fun _ => rfl) ha (ARGS := [.int .i64 n, .int .i64 d]) (by simp [SV.denL, SV.den, hA]; simp [IX.den]) w
  by_cases h1 : n < 1
  · exact go (.var 1) _ deep_low rfl (fun c v hm => by simp at hm; obtain ⟨rfl, rfl⟩ := hm; simp [BX.den, IX.den, h1])
  by_cases h2 : n < 41
  · by_cases h3 : d < 0
    · refine go (.var 1) _ deep_less rfl (fun c v hm => ?_)
      simp at hm
      rcases hm with ⟨rfl, rfl⟩ | ⟨rfl, rfl⟩ | ⟨rfl, rfl⟩ <;> simp [BX.den, IX.den] <;> omega
    by_cases h4 : d < 61
    · obtain ⟨lo, hi, hr, h5, h6⟩ := deep_all n d (by omega) (by omega) (by omega) (by omega)
      refine go (.lit n) _ hr rfl (fun c v hm => ?_)
      simp at hm
      rcases hm with ⟨rfl, rfl⟩ | ⟨rfl, rfl⟩ <;> simp [BX.den, IX.den] <;> omega
    · refine go (.var 1) _ deep_more rfl (fun c v hm => ?_)
      simp at hm
      rcases hm with ⟨rfl, rfl⟩ | ⟨rfl, rfl⟩ | ⟨rfl, rfl⟩ | ⟨rfl, rfl⟩ <;> simp [BX.den, IX.den] <;> omega
  · refine go (.var 1) _ deep_high rfl (fun c v hm => ?_)
    simp at hm
    rcases hm with ⟨rfl, rfl⟩ | ⟨rfl, rfl⟩ <;> simp [BX.den, IX.den] <;> omega
end Go.Proofs.YtegdomkgppddeaaGreatDoor
