/- RulesFast: its runs, joined. -/
import Derived.Test.YthjfdbbpgdflkaaKit
import Derived.Test.YthjfdbbpgdflkaaFstA
import Derived.Test.YthjfdbbpgdflkaaFstB
import Derived.Test.YthjfdbbpgdflkaaFstC
namespace Go.Proofs.Ythjfdbbpgdflkaa
open Go.Sx Go.RowKit
set_option maxRecDepth 100000
set_option maxHeartbeats 4000000
theorem q0000 {y : De} (he hc : Bool) (v g s : Va) (ww e c : Bool) (hx : De.bulk ⟨false, false, false, false, he, hc, v, g, s, ww, e, c⟩ ≤ 1048576) (hy : y.bulk ≤ 1048576) (b : Bool) (w : World) : ∀ x, x = De.mk false false false false he hc v g s ww e c → Calls Try.prog 6 #[.bool b, .bool true, y.val, x.val] w fun e w' => e = .returned (.bool true) ∧ Below w.heap.size w w' := by
  intro x hxe
  subst hxe
  obtain ⟨n0, n1, n2, n3, ne, nc, v', g', s', w', e', c'⟩ := y
  cases n0 <;> cases n1 <;> cases n2 <;> cases n3
  · exact wl hx hy p3000022000022 rfl w
  · exact wl hx hy p3000022000122 rfl w
  · exact wl hx hy p3000022001022 rfl w
  · exact wl hx hy p3000022001122 rfl w
  · exact wl hx hy p3000022010022 rfl w
  · exact wl hx hy p3000022010122 rfl w
  · cases he <;> cases hc
    · exact wl hx hy p3000000011022 rfl w
    · exact wl hx hy p3000001011022 rfl w
    · exact wl hx hy p3000010011022 rfl w
    · exact wl hx hy p3000011011022 rfl w
  · exact wl hx hy p3000022011122 rfl w
  · exact wl hx hy p3000022100022 rfl w
  · exact wl hx hy p3000022100122 rfl w
  · exact wl hx hy p3000022101022 rfl w
  · exact wl hx hy p3000022101122 rfl w
  · exact wl hx hy p3000022110022 rfl w
  · exact wl hx hy p3000022110122 rfl w
  · exact wl hx hy p3000022111022 rfl w
  · exact wl hx hy p3000022111122 rfl w
theorem q0001 {y : De} (he hc : Bool) (v g s : Va) (ww e c : Bool) (hx : De.bulk ⟨false, false, false, true, he, hc, v, g, s, ww, e, c⟩ ≤ 1048576) (hy : y.bulk ≤ 1048576) (b : Bool) (w : World) : ∀ x, x = De.mk false false false true he hc v g s ww e c → Calls Try.prog 6 #[.bool b, .bool true, y.val, x.val] w fun e w' => e = .returned (.bool true) ∧ Below w.heap.size w w' := by
  intro x hxe
  subst hxe
  obtain ⟨n0, n1, n2, n3, ne, nc, v', g', s', w', e', c'⟩ := y
  cases n0 <;> cases n1 <;> cases n2 <;> cases n3
  · exact wl hx hy p3000122000022 rfl w
  · exact wl hx hy p3000122000122 rfl w
  · exact wl hx hy p3000122001022 rfl w
  · exact wl hx hy p3000122001122 rfl w
  · exact wl hx hy p3000122010022 rfl w
  · exact wl hx hy p3000122010122 rfl w
  · cases he <;> cases hc
    · exact wl hx hy p3000100011022 rfl w
    · exact wl hx hy p3000101011022 rfl w
    · exact wl hx hy p3000110011022 rfl w
    · exact wl hx hy p3000111011022 rfl w
  · exact wl hx hy p3000122011122 rfl w
  · exact wl hx hy p3000122100022 rfl w
  · exact wl hx hy p3000122100122 rfl w
  · exact wl hx hy p3000122101022 rfl w
  · exact wl hx hy p3000122101122 rfl w
  · exact wl hx hy p3000122110022 rfl w
  · exact wl hx hy p3000122110122 rfl w
  · exact wl hx hy p3000122111022 rfl w
  · exact wl hx hy p3000122111122 rfl w
theorem q0010 {y : De} (he hc : Bool) (v g s : Va) (ww e c : Bool) (hx : De.bulk ⟨false, false, true, false, he, hc, v, g, s, ww, e, c⟩ ≤ 1048576) (hy : y.bulk ≤ 1048576) (b : Bool) (w : World) : ∀ x, x = De.mk false false true false he hc v g s ww e c → Calls Try.prog 6 #[.bool b, .bool true, y.val, x.val] w fun e w' => e = .returned (.bool true) ∧ Below w.heap.size w w' := by
  intro x hxe
  subst hxe
  obtain ⟨n0, n1, n2, n3, ne, nc, v', g', s', w', e', c'⟩ := y
  cases n0 <;> cases n1 <;> cases n2 <;> cases n3
  · exact wl hx hy p3001022000022 rfl w
  · exact wl hx hy p3001022000122 rfl w
  · exact wl hx hy p3001022001022 rfl w
  · exact wl hx hy p3001022001122 rfl w
  · exact wl hx hy p3001022010022 rfl w
  · exact wl hx hy p3001022010122 rfl w
  · cases he <;> cases hc <;> cases ne <;> cases nc
    · exact wl hx hy p3001000011000 rfl w
    · exact wl hx hy p3001000011001 rfl w
    · exact wl hx hy p3001000011010 rfl w
    · exact wl hx hy p3001000011011 rfl w
    · exact wl hx hy p3001001011000 rfl w
    · exact wl hx hy p3001001011001 rfl w
    · exact wl hx hy p3001001011010 rfl w
    · exact wl hx hy p3001001011011 rfl w
    · exact wl hx hy p3001010011000 rfl w
    · exact wl hx hy p3001010011001 rfl w
    · exact wl hx hy p3001010011010 rfl w
    · exact wl hx hy p3001010011011 rfl w
    · exact wl hx hy p3001011011000 rfl w
    · exact wl hx hy p3001011011001 rfl w
    · exact wl hx hy p3001011011010 rfl w
    · exact wl hx hy p3001011011011 rfl w
  · exact wl hx hy p3001022011122 rfl w
  · exact wl hx hy p3001022100022 rfl w
  · exact wl hx hy p3001022100122 rfl w
  · exact wl hx hy p3001022101022 rfl w
  · exact wl hx hy p3001022101122 rfl w
  · exact wl hx hy p3001022110022 rfl w
  · exact wl hx hy p3001022110122 rfl w
  · exact wl hx hy p3001022111022 rfl w
  · exact wl hx hy p3001022111122 rfl w
theorem q0011 {y : De} (he hc : Bool) (v g s : Va) (ww e c : Bool) (hx : De.bulk ⟨false, false, true, true, he, hc, v, g, s, ww, e, c⟩ ≤ 1048576) (hy : y.bulk ≤ 1048576) (b : Bool) (w : World) : ∀ x, x = De.mk false false true true he hc v g s ww e c → Calls Try.prog 6 #[.bool b, .bool true, y.val, x.val] w fun e w' => e = .returned (.bool true) ∧ Below w.heap.size w w' := by
  intro x hxe
  subst hxe
  obtain ⟨n0, n1, n2, n3, ne, nc, v', g', s', w', e', c'⟩ := y
  cases n0 <;> cases n1 <;> cases n2 <;> cases n3
  · exact wl hx hy p3001122000022 rfl w
  · exact wl hx hy p3001122000122 rfl w
  · exact wl hx hy p3001122001022 rfl w
  · exact wl hx hy p3001122001122 rfl w
  · exact wl hx hy p3001122010022 rfl w
  · exact wl hx hy p3001122010122 rfl w
  · exact wl hx hy p3001122011022 rfl w
  · exact wl hx hy p3001122011122 rfl w
  · exact wl hx hy p3001122100022 rfl w
  · exact wl hx hy p3001122100122 rfl w
  · exact wl hx hy p3001122101022 rfl w
  · exact wl hx hy p3001122101122 rfl w
  · exact wl hx hy p3001122110022 rfl w
  · exact wl hx hy p3001122110122 rfl w
  · exact wl hx hy p3001122111022 rfl w
  · exact wl hx hy p3001122111122 rfl w
theorem q0100 {y : De} (he hc : Bool) (v g s : Va) (ww e c : Bool) (hx : De.bulk ⟨false, true, false, false, he, hc, v, g, s, ww, e, c⟩ ≤ 1048576) (hy : y.bulk ≤ 1048576) (b : Bool) (w : World) : ∀ x, x = De.mk false true false false he hc v g s ww e c → Calls Try.prog 6 #[.bool b, .bool true, y.val, x.val] w fun e w' => e = .returned (.bool true) ∧ Below w.heap.size w w' := by
  intro x hxe
  subst hxe
  obtain ⟨n0, n1, n2, n3, ne, nc, v', g', s', w', e', c'⟩ := y
  cases n0 <;> cases n1 <;> cases n2 <;> cases n3
  · exact wl hx hy p3010022000022 rfl w
  · exact wl hx hy p3010022000122 rfl w
  · exact wl hx hy p3010022001022 rfl w
  · exact wl hx hy p3010022001122 rfl w
  · exact wl hx hy p3010022010022 rfl w
  · exact wl hx hy p3010022010122 rfl w
  · cases he <;> cases hc <;> cases ne <;> cases nc
    · exact wl hx hy p3010000011000 rfl w
    · exact wl hx hy p3010000011001 rfl w
    · exact wl hx hy p3010000011010 rfl w
    · exact wl hx hy p3010000011011 rfl w
    · exact wl hx hy p3010001011000 rfl w
    · exact wl hx hy p3010001011001 rfl w
    · exact wl hx hy p3010001011010 rfl w
    · exact wl hx hy p3010001011011 rfl w
    · exact wl hx hy p3010010011000 rfl w
    · exact wl hx hy p3010010011001 rfl w
    · exact wl hx hy p3010010011010 rfl w
    · exact wl hx hy p3010010011011 rfl w
    · exact wl hx hy p3010011011000 rfl w
    · exact wl hx hy p3010011011001 rfl w
    · exact wl hx hy p3010011011010 rfl w
    · exact wl hx hy p3010011011011 rfl w
  · exact wl hx hy p3010022011122 rfl w
  · exact wl hx hy p3010022100022 rfl w
  · exact wl hx hy p3010022100122 rfl w
  · exact wl hx hy p3010022101022 rfl w
  · exact wl hx hy p3010022101122 rfl w
  · exact wl hx hy p3010022110022 rfl w
  · exact wl hx hy p3010022110122 rfl w
  · exact wl hx hy p3010022111022 rfl w
  · exact wl hx hy p3010022111122 rfl w
theorem q0101 {y : De} (he hc : Bool) (v g s : Va) (ww e c : Bool) (hx : De.bulk ⟨false, true, false, true, he, hc, v, g, s, ww, e, c⟩ ≤ 1048576) (hy : y.bulk ≤ 1048576) (b : Bool) (w : World) : ∀ x, x = De.mk false true false true he hc v g s ww e c → Calls Try.prog 6 #[.bool b, .bool true, y.val, x.val] w fun e w' => e = .returned (.bool true) ∧ Below w.heap.size w w' := by
  intro x hxe
  subst hxe
  obtain ⟨n0, n1, n2, n3, ne, nc, v', g', s', w', e', c'⟩ := y
  cases n0 <;> cases n1 <;> cases n2 <;> cases n3
  · exact wl hx hy p3010122000022 rfl w
  · exact wl hx hy p3010122000122 rfl w
  · exact wl hx hy p3010122001022 rfl w
  · exact wl hx hy p3010122001122 rfl w
  · exact wl hx hy p3010122010022 rfl w
  · exact wl hx hy p3010122010122 rfl w
  · exact wl hx hy p3010122011022 rfl w
  · exact wl hx hy p3010122011122 rfl w
  · exact wl hx hy p3010122100022 rfl w
  · exact wl hx hy p3010122100122 rfl w
  · exact wl hx hy p3010122101022 rfl w
  · exact wl hx hy p3010122101122 rfl w
  · exact wl hx hy p3010122110022 rfl w
  · exact wl hx hy p3010122110122 rfl w
  · exact wl hx hy p3010122111022 rfl w
  · exact wl hx hy p3010122111122 rfl w
theorem q0110 {y : De} (he hc : Bool) (v g s : Va) (ww e c : Bool) (hx : De.bulk ⟨false, true, true, false, he, hc, v, g, s, ww, e, c⟩ ≤ 1048576) (hy : y.bulk ≤ 1048576) (b : Bool) (w : World) : ∀ x, x = De.mk false true true false he hc v g s ww e c → Calls Try.prog 6 #[.bool b, .bool true, y.val, x.val] w fun e w' => e = .returned (.bool true) ∧ Below w.heap.size w w' := by
  intro x hxe
  subst hxe
  obtain ⟨n0, n1, n2, n3, ne, nc, v', g', s', w', e', c'⟩ := y
  cases n0 <;> cases n1 <;> cases n2 <;> cases n3
  · exact wl hx hy p3011022000022 rfl w
  · exact wl hx hy p3011022000122 rfl w
  · exact wl hx hy p3011022001022 rfl w
  · exact wl hx hy p3011022001122 rfl w
  · exact wl hx hy p3011022010022 rfl w
  · exact wl hx hy p3011022010122 rfl w
  · cases he <;> cases hc <;> cases ne <;> cases nc
    · exact wl hx hy p3011000011000 rfl w
    · exact wl hx hy p3011000011001 rfl w
    · exact wl hx hy p3011000011010 rfl w
    · exact wl hx hy p3011000011011 rfl w
    · exact wl hx hy p3011001011000 rfl w
    · exact wl hx hy p3011001011001 rfl w
    · exact wl hx hy p3011001011010 rfl w
    · exact wl hx hy p3011001011011 rfl w
    · exact wl hx hy p3011010011000 rfl w
    · exact wl hx hy p3011010011001 rfl w
    · exact wl hx hy p3011010011010 rfl w
    · exact wl hx hy p3011010011011 rfl w
    · exact wl hx hy p3011011011000 rfl w
    · exact wl hx hy p3011011011001 rfl w
    · exact wl hx hy p3011011011010 rfl w
    · exact wl hx hy p3011011011011 rfl w
  · exact wl hx hy p3011022011122 rfl w
  · exact wl hx hy p3011022100022 rfl w
  · cases he <;> cases hc
    · exact wl hx hy p3011000100122 rfl w
    · exact wl hx hy p3011001100122 rfl w
    · exact wl hx hy p3011010100122 rfl w
    · exact wl hx hy p3011011100122 rfl w
  · exact wl hx hy p3011022101022 rfl w
  · exact wl hx hy p3011022101122 rfl w
  · exact wl hx hy p3011022110022 rfl w
  · exact wl hx hy p3011022110122 rfl w
  · exact wl hx hy p3011022111022 rfl w
  · exact wl hx hy p3011022111122 rfl w
theorem q0111 {y : De} (he hc : Bool) (v g s : Va) (ww e c : Bool) (hx : De.bulk ⟨false, true, true, true, he, hc, v, g, s, ww, e, c⟩ ≤ 1048576) (hy : y.bulk ≤ 1048576) (b : Bool) (w : World) : ∀ x, x = De.mk false true true true he hc v g s ww e c → Calls Try.prog 6 #[.bool b, .bool true, y.val, x.val] w fun e w' => e = .returned (.bool true) ∧ Below w.heap.size w w' := by
  intro x hxe
  subst hxe
  obtain ⟨n0, n1, n2, n3, ne, nc, v', g', s', w', e', c'⟩ := y
  cases n0 <;> cases n1 <;> cases n2 <;> cases n3
  · exact wl hx hy p3011122000022 rfl w
  · exact wl hx hy p3011122000122 rfl w
  · exact wl hx hy p3011122001022 rfl w
  · exact wl hx hy p3011122001122 rfl w
  · exact wl hx hy p3011122010022 rfl w
  · exact wl hx hy p3011122010122 rfl w
  · exact wl hx hy p3011122011022 rfl w
  · exact wl hx hy p3011122011122 rfl w
  · exact wl hx hy p3011122100022 rfl w
  · exact wl hx hy p3011122100122 rfl w
  · exact wl hx hy p3011122101022 rfl w
  · exact wl hx hy p3011122101122 rfl w
  · exact wl hx hy p3011122110022 rfl w
  · exact wl hx hy p3011122110122 rfl w
  · exact wl hx hy p3011122111022 rfl w
  · exact wl hx hy p3011122111122 rfl w
theorem q1000 {y : De} (he hc : Bool) (v g s : Va) (ww e c : Bool) (hx : De.bulk ⟨true, false, false, false, he, hc, v, g, s, ww, e, c⟩ ≤ 1048576) (hy : y.bulk ≤ 1048576) (b : Bool) (w : World) : ∀ x, x = De.mk true false false false he hc v g s ww e c → Calls Try.prog 6 #[.bool b, .bool true, y.val, x.val] w fun e w' => e = .returned (.bool true) ∧ Below w.heap.size w w' := by
  intro x hxe
  subst hxe
  obtain ⟨n0, n1, n2, n3, ne, nc, v', g', s', w', e', c'⟩ := y
  cases n0 <;> cases n1 <;> cases n2 <;> cases n3
  · exact wl hx hy p3100022000022 rfl w
  · exact wl hx hy p3100022000122 rfl w
  · exact wl hx hy p3100022001022 rfl w
  · exact wl hx hy p3100022001122 rfl w
  · exact wl hx hy p3100022010022 rfl w
  · exact wl hx hy p3100022010122 rfl w
  · cases he <;> cases hc
    · exact wl hx hy p3100000011022 rfl w
    · exact wl hx hy p3100001011022 rfl w
    · exact wl hx hy p3100010011022 rfl w
    · exact wl hx hy p3100011011022 rfl w
  · exact wl hx hy p3100022011122 rfl w
  · exact wl hx hy p3100022100022 rfl w
  · exact wl hx hy p3100022100122 rfl w
  · exact wl hx hy p3100022101022 rfl w
  · exact wl hx hy p3100022101122 rfl w
  · exact wl hx hy p3100022110022 rfl w
  · exact wl hx hy p3100022110122 rfl w
  · exact wl hx hy p3100022111022 rfl w
  · exact wl hx hy p3100022111122 rfl w
theorem q1001 {y : De} (he hc : Bool) (v g s : Va) (ww e c : Bool) (hx : De.bulk ⟨true, false, false, true, he, hc, v, g, s, ww, e, c⟩ ≤ 1048576) (hy : y.bulk ≤ 1048576) (b : Bool) (w : World) : ∀ x, x = De.mk true false false true he hc v g s ww e c → Calls Try.prog 6 #[.bool b, .bool true, y.val, x.val] w fun e w' => e = .returned (.bool true) ∧ Below w.heap.size w w' := by
  intro x hxe
  subst hxe
  obtain ⟨n0, n1, n2, n3, ne, nc, v', g', s', w', e', c'⟩ := y
  cases n0 <;> cases n1 <;> cases n2 <;> cases n3
  · exact wl hx hy p3100122000022 rfl w
  · exact wl hx hy p3100122000122 rfl w
  · exact wl hx hy p3100122001022 rfl w
  · exact wl hx hy p3100122001122 rfl w
  · exact wl hx hy p3100122010022 rfl w
  · exact wl hx hy p3100122010122 rfl w
  · cases he <;> cases hc
    · exact wl hx hy p3100100011022 rfl w
    · exact wl hx hy p3100101011022 rfl w
    · exact wl hx hy p3100110011022 rfl w
    · exact wl hx hy p3100111011022 rfl w
  · exact wl hx hy p3100122011122 rfl w
  · exact wl hx hy p3100122100022 rfl w
  · exact wl hx hy p3100122100122 rfl w
  · exact wl hx hy p3100122101022 rfl w
  · exact wl hx hy p3100122101122 rfl w
  · exact wl hx hy p3100122110022 rfl w
  · exact wl hx hy p3100122110122 rfl w
  · exact wl hx hy p3100122111022 rfl w
  · exact wl hx hy p3100122111122 rfl w
theorem q1010 {y : De} (he hc : Bool) (v g s : Va) (ww e c : Bool) (hx : De.bulk ⟨true, false, true, false, he, hc, v, g, s, ww, e, c⟩ ≤ 1048576) (hy : y.bulk ≤ 1048576) (b : Bool) (w : World) : ∀ x, x = De.mk true false true false he hc v g s ww e c → Calls Try.prog 6 #[.bool b, .bool true, y.val, x.val] w fun e w' => e = .returned (.bool true) ∧ Below w.heap.size w w' := by
  intro x hxe
  subst hxe
  obtain ⟨n0, n1, n2, n3, ne, nc, v', g', s', w', e', c'⟩ := y
  cases n0 <;> cases n1 <;> cases n2 <;> cases n3
  · exact wl hx hy p3101022000022 rfl w
  · exact wl hx hy p3101022000122 rfl w
  · exact wl hx hy p3101022001022 rfl w
  · exact wl hx hy p3101022001122 rfl w
  · exact wl hx hy p3101022010022 rfl w
  · exact wl hx hy p3101022010122 rfl w
  · exact wl hx hy p3101022011022 rfl w
  · exact wl hx hy p3101022011122 rfl w
  · exact wl hx hy p3101022100022 rfl w
  · exact wl hx hy p3101022100122 rfl w
  · exact wl hx hy p3101022101022 rfl w
  · exact wl hx hy p3101022101122 rfl w
  · exact wl hx hy p3101022110022 rfl w
  · exact wl hx hy p3101022110122 rfl w
  · exact wl hx hy p3101022111022 rfl w
  · exact wl hx hy p3101022111122 rfl w
theorem q1011 {y : De} (he hc : Bool) (v g s : Va) (ww e c : Bool) (hx : De.bulk ⟨true, false, true, true, he, hc, v, g, s, ww, e, c⟩ ≤ 1048576) (hy : y.bulk ≤ 1048576) (b : Bool) (w : World) : ∀ x, x = De.mk true false true true he hc v g s ww e c → Calls Try.prog 6 #[.bool b, .bool true, y.val, x.val] w fun e w' => e = .returned (.bool true) ∧ Below w.heap.size w w' := by
  intro x hxe
  subst hxe
  obtain ⟨n0, n1, n2, n3, ne, nc, v', g', s', w', e', c'⟩ := y
  cases n0 <;> cases n1 <;> cases n2 <;> cases n3
  · exact wl hx hy p3101122000022 rfl w
  · exact wl hx hy p3101122000122 rfl w
  · exact wl hx hy p3101122001022 rfl w
  · exact wl hx hy p3101122001122 rfl w
  · exact wl hx hy p3101122010022 rfl w
  · exact wl hx hy p3101122010122 rfl w
  · exact wl hx hy p3101122011022 rfl w
  · exact wl hx hy p3101122011122 rfl w
  · exact wl hx hy p3101122100022 rfl w
  · exact wl hx hy p3101122100122 rfl w
  · exact wl hx hy p3101122101022 rfl w
  · exact wl hx hy p3101122101122 rfl w
  · exact wl hx hy p3101122110022 rfl w
  · exact wl hx hy p3101122110122 rfl w
  · exact wl hx hy p3101122111022 rfl w
  · exact wl hx hy p3101122111122 rfl w
theorem q1100 {y : De} (he hc : Bool) (v g s : Va) (ww e c : Bool) (hx : De.bulk ⟨true, true, false, false, he, hc, v, g, s, ww, e, c⟩ ≤ 1048576) (hy : y.bulk ≤ 1048576) (b : Bool) (w : World) : ∀ x, x = De.mk true true false false he hc v g s ww e c → Calls Try.prog 6 #[.bool b, .bool true, y.val, x.val] w fun e w' => e = .returned (.bool true) ∧ Below w.heap.size w w' := by
  intro x hxe
  subst hxe
  obtain ⟨n0, n1, n2, n3, ne, nc, v', g', s', w', e', c'⟩ := y
  cases n0 <;> cases n1 <;> cases n2 <;> cases n3
  · exact wl hx hy p3110022000022 rfl w
  · exact wl hx hy p3110022000122 rfl w
  · exact wl hx hy p3110022001022 rfl w
  · exact wl hx hy p3110022001122 rfl w
  · exact wl hx hy p3110022010022 rfl w
  · exact wl hx hy p3110022010122 rfl w
  · exact wl hx hy p3110022011022 rfl w
  · exact wl hx hy p3110022011122 rfl w
  · exact wl hx hy p3110022100022 rfl w
  · exact wl hx hy p3110022100122 rfl w
  · exact wl hx hy p3110022101022 rfl w
  · exact wl hx hy p3110022101122 rfl w
  · exact wl hx hy p3110022110022 rfl w
  · exact wl hx hy p3110022110122 rfl w
  · exact wl hx hy p3110022111022 rfl w
  · exact wl hx hy p3110022111122 rfl w
theorem q1101 {y : De} (he hc : Bool) (v g s : Va) (ww e c : Bool) (hx : De.bulk ⟨true, true, false, true, he, hc, v, g, s, ww, e, c⟩ ≤ 1048576) (hy : y.bulk ≤ 1048576) (b : Bool) (w : World) : ∀ x, x = De.mk true true false true he hc v g s ww e c → Calls Try.prog 6 #[.bool b, .bool true, y.val, x.val] w fun e w' => e = .returned (.bool true) ∧ Below w.heap.size w w' := by
  intro x hxe
  subst hxe
  obtain ⟨n0, n1, n2, n3, ne, nc, v', g', s', w', e', c'⟩ := y
  cases n0 <;> cases n1 <;> cases n2 <;> cases n3
  · exact wl hx hy p3110122000022 rfl w
  · exact wl hx hy p3110122000122 rfl w
  · exact wl hx hy p3110122001022 rfl w
  · exact wl hx hy p3110122001122 rfl w
  · exact wl hx hy p3110122010022 rfl w
  · exact wl hx hy p3110122010122 rfl w
  · exact wl hx hy p3110122011022 rfl w
  · exact wl hx hy p3110122011122 rfl w
  · exact wl hx hy p3110122100022 rfl w
  · exact wl hx hy p3110122100122 rfl w
  · exact wl hx hy p3110122101022 rfl w
  · exact wl hx hy p3110122101122 rfl w
  · exact wl hx hy p3110122110022 rfl w
  · exact wl hx hy p3110122110122 rfl w
  · exact wl hx hy p3110122111022 rfl w
  · exact wl hx hy p3110122111122 rfl w
theorem q1110 {y : De} (he hc : Bool) (v g s : Va) (ww e c : Bool) (hx : De.bulk ⟨true, true, true, false, he, hc, v, g, s, ww, e, c⟩ ≤ 1048576) (hy : y.bulk ≤ 1048576) (b : Bool) (w : World) : ∀ x, x = De.mk true true true false he hc v g s ww e c → Calls Try.prog 6 #[.bool b, .bool true, y.val, x.val] w fun e w' => e = .returned (.bool true) ∧ Below w.heap.size w w' := by
  intro x hxe
  subst hxe
  obtain ⟨n0, n1, n2, n3, ne, nc, v', g', s', w', e', c'⟩ := y
  cases n0 <;> cases n1 <;> cases n2 <;> cases n3
  · exact wl hx hy p3111022000022 rfl w
  · exact wl hx hy p3111022000122 rfl w
  · exact wl hx hy p3111022001022 rfl w
  · exact wl hx hy p3111022001122 rfl w
  · exact wl hx hy p3111022010022 rfl w
  · exact wl hx hy p3111022010122 rfl w
  · exact wl hx hy p3111022011022 rfl w
  · exact wl hx hy p3111022011122 rfl w
  · exact wl hx hy p3111022100022 rfl w
  · exact wl hx hy p3111022100122 rfl w
  · exact wl hx hy p3111022101022 rfl w
  · exact wl hx hy p3111022101122 rfl w
  · exact wl hx hy p3111022110022 rfl w
  · exact wl hx hy p3111022110122 rfl w
  · exact wl hx hy p3111022111022 rfl w
  · exact wl hx hy p3111022111122 rfl w
theorem q1111 {y : De} (he hc : Bool) (v g s : Va) (ww e c : Bool) (hx : De.bulk ⟨true, true, true, true, he, hc, v, g, s, ww, e, c⟩ ≤ 1048576) (hy : y.bulk ≤ 1048576) (b : Bool) (w : World) : ∀ x, x = De.mk true true true true he hc v g s ww e c → Calls Try.prog 6 #[.bool b, .bool true, y.val, x.val] w fun e w' => e = .returned (.bool true) ∧ Below w.heap.size w w' := by
  intro x hxe
  subst hxe
  obtain ⟨n0, n1, n2, n3, ne, nc, v', g', s', w', e', c'⟩ := y
  cases n0 <;> cases n1 <;> cases n2 <;> cases n3
  · exact wl hx hy p3111122000022 rfl w
  · exact wl hx hy p3111122000122 rfl w
  · exact wl hx hy p3111122001022 rfl w
  · exact wl hx hy p3111122001122 rfl w
  · exact wl hx hy p3111122010022 rfl w
  · exact wl hx hy p3111122010122 rfl w
  · exact wl hx hy p3111122011022 rfl w
  · exact wl hx hy p3111122011122 rfl w
  · exact wl hx hy p3111122100022 rfl w
  · exact wl hx hy p3111122100122 rfl w
  · exact wl hx hy p3111122101022 rfl w
  · exact wl hx hy p3111122101122 rfl w
  · exact wl hx hy p3111122110022 rfl w
  · exact wl hx hy p3111122110122 rfl w
  · exact wl hx hy p3111122111022 rfl w
  · exact wl hx hy p3111122111122 rfl w
theorem walkFst (b : Bool) (h : Bool) (y : De) (_ : y.ok) (hy : y.bulk ≤ 1048576) (x : De) (_ : x.ok) (hx : x.bulk ≤ 1048576) (w : World) : Calls Try.prog 6 #[.bool b, .bool h, y.val, x.val] w fun e w' => e = .returned (.bool true) ∧ Below w.heap.size w w' := by
  cases h with
  | false => exact wln hx hy p_no w
  | true =>
    obtain ⟨d0, d1, d2, d3, he, hc, v, g, s, ww, e, c⟩ := x
    cases d0 <;> cases d1 <;> cases d2 <;> cases d3
    · exact q0000 he hc v g s ww e c hx hy b w _ rfl
    · exact q0001 he hc v g s ww e c hx hy b w _ rfl
    · exact q0010 he hc v g s ww e c hx hy b w _ rfl
    · exact q0011 he hc v g s ww e c hx hy b w _ rfl
    · exact q0100 he hc v g s ww e c hx hy b w _ rfl
    · exact q0101 he hc v g s ww e c hx hy b w _ rfl
    · exact q0110 he hc v g s ww e c hx hy b w _ rfl
    · exact q0111 he hc v g s ww e c hx hy b w _ rfl
    · exact q1000 he hc v g s ww e c hx hy b w _ rfl
    · exact q1001 he hc v g s ww e c hx hy b w _ rfl
    · exact q1010 he hc v g s ww e c hx hy b w _ rfl
    · exact q1011 he hc v g s ww e c hx hy b w _ rfl
    · exact q1100 he hc v g s ww e c hx hy b w _ rfl
    · exact q1101 he hc v g s ww e c hx hy b w _ rfl
    · exact q1110 he hc v g s ww e c hx hy b w _ rfl
    · exact q1111 he hc v g s ww e c hx hy b w _ rfl
end Go.Proofs.Ythjfdbbpgdflkaa
