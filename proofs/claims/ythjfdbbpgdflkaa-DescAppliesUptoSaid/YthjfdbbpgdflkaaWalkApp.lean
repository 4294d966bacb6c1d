/- DescApplies: its runs, joined. -/
import Derived.Test.YthjfdbbpgdflkaaKit
import Derived.Test.YthjfdbbpgdflkaaAppA
import Derived.Test.YthjfdbbpgdflkaaAppB
import Derived.Test.YthjfdbbpgdflkaaAppC
import Derived.Test.YthjfdbbpgdflkaaAppD
import Derived.Test.YthjfdbbpgdflkaaAppE
import Derived.Test.YthjfdbbpgdflkaaAppF
namespace Go.Proofs.Ythjfdbbpgdflkaa
open Go.Sx Go.RowKit
set_option maxRecDepth 100000
set_option maxHeartbeats 4000000
theorem q0000 {y : De} (he hc : Bool) (v g s : Va) (ww e c : Bool) (hx : De.bulk ⟨false, false, false, false, he, hc, v, g, s, ww, e, c⟩ ≤ 1048576) (hy : y.bulk ≤ 1048576) (b : Bool) (w : World) : ∀ x, x = De.mk false false false false he hc v g s ww e c → Calls Try.prog 10 #[.bool b, x.val, .bool true, y.val] w fun e w' => e = .returned (.bool true) ∧ Below w.heap.size w w' := by
  intro x hxe
  subst hxe
  obtain ⟨n0, n1, n2, n3, ne, nc, v', g', s', w', e', c'⟩ := y
  cases n0 <;> cases n1 <;> cases n2 <;> cases n3
  · cases he <;> cases hc
    · exact wl hx hy p3000000000022 rfl w
    · exact wl hx hy p3000001000022 rfl w
    · exact wl hx hy p3000010000022 rfl w
    · exact wl hx hy p3000011000022 rfl w
  · cases he <;> cases hc
    · exact wl hx hy p3000000000122 rfl w
    · exact wl hx hy p3000001000122 rfl w
    · exact wl hx hy p3000010000122 rfl w
    · exact wl hx hy p3000011000122 rfl w
  · cases he <;> cases hc
    · exact wl hx hy p3000000001022 rfl w
    · exact wl hx hy p3000001001022 rfl w
    · exact wl hx hy p3000010001022 rfl w
    · exact wl hx hy p3000011001022 rfl w
  · exact wl hx hy p3000022001122 rfl w
  · cases he <;> cases hc
    · exact wl hx hy p3000000010022 rfl w
    · exact wl hx hy p3000001010022 rfl w
    · exact wl hx hy p3000010010022 rfl w
    · exact wl hx hy p3000011010022 rfl w
  · exact wl hx hy p3000022010122 rfl w
  · cases he <;> cases hc
    · exact wl hx hy p3000000011022 rfl w
    · exact wl hx hy p3000001011022 rfl w
    · exact wl hx hy p3000010011022 rfl w
    · exact wl hx hy p3000011011022 rfl w
  · exact wl hx hy p3000022011122 rfl w
  · cases he <;> cases hc
    · exact wl hx hy p3000000100022 rfl w
    · exact wl hx hy p3000001100022 rfl w
    · exact wl hx hy p3000010100022 rfl w
    · exact wl hx hy p3000011100022 rfl w
  · cases he <;> cases hc
    · exact wl hx hy p3000000100122 rfl w
    · exact wl hx hy p3000001100122 rfl w
    · exact wl hx hy p3000010100122 rfl w
    · exact wl hx hy p3000011100122 rfl w
  · exact wl hx hy p3000022101022 rfl w
  · exact wl hx hy p3000022101122 rfl w
  · exact wl hx hy p3000022110022 rfl w
  · exact wl hx hy p3000022110122 rfl w
  · exact wl hx hy p3000022111022 rfl w
  · exact wl hx hy p3000022111122 rfl w
theorem q0001 {y : De} (he hc : Bool) (v g s : Va) (ww e c : Bool) (hx : De.bulk ⟨false, false, false, true, he, hc, v, g, s, ww, e, c⟩ ≤ 1048576) (hy : y.bulk ≤ 1048576) (b : Bool) (w : World) : ∀ x, x = De.mk false false false true he hc v g s ww e c → Calls Try.prog 10 #[.bool b, x.val, .bool true, y.val] w fun e w' => e = .returned (.bool true) ∧ Below w.heap.size w w' := by
  intro x hxe
  subst hxe
  obtain ⟨n0, n1, n2, n3, ne, nc, v', g', s', w', e', c'⟩ := y
  cases n0 <;> cases n1 <;> cases n2 <;> cases n3
  · cases he <;> cases hc
    · exact wl hx hy p3000100000022 rfl w
    · exact wl hx hy p3000101000022 rfl w
    · exact wl hx hy p3000110000022 rfl w
    · exact wl hx hy p3000111000022 rfl w
  · cases he <;> cases hc
    · exact wl hx hy p3000100000122 rfl w
    · exact wl hx hy p3000101000122 rfl w
    · exact wl hx hy p3000110000122 rfl w
    · exact wl hx hy p3000111000122 rfl w
  · cases he <;> cases hc
    · exact wl hx hy p3000100001022 rfl w
    · exact wl hx hy p3000101001022 rfl w
    · exact wl hx hy p3000110001022 rfl w
    · exact wl hx hy p3000111001022 rfl w
  · exact wl hx hy p3000122001122 rfl w
  · cases he <;> cases hc
    · exact wl hx hy p3000100010022 rfl w
    · exact wl hx hy p3000101010022 rfl w
    · exact wl hx hy p3000110010022 rfl w
    · exact wl hx hy p3000111010022 rfl w
  · exact wl hx hy p3000122010122 rfl w
  · cases he <;> cases hc
    · exact wl hx hy p3000100011022 rfl w
    · exact wl hx hy p3000101011022 rfl w
    · exact wl hx hy p3000110011022 rfl w
    · exact wl hx hy p3000111011022 rfl w
  · exact wl hx hy p3000122011122 rfl w
  · cases he <;> cases hc
    · exact wl hx hy p3000100100022 rfl w
    · exact wl hx hy p3000101100022 rfl w
    · exact wl hx hy p3000110100022 rfl w
    · exact wl hx hy p3000111100022 rfl w
  · cases he <;> cases hc
    · exact wl hx hy p3000100100122 rfl w
    · exact wl hx hy p3000101100122 rfl w
    · exact wl hx hy p3000110100122 rfl w
    · exact wl hx hy p3000111100122 rfl w
  · exact wl hx hy p3000122101022 rfl w
  · exact wl hx hy p3000122101122 rfl w
  · exact wl hx hy p3000122110022 rfl w
  · exact wl hx hy p3000122110122 rfl w
  · exact wl hx hy p3000122111022 rfl w
  · exact wl hx hy p3000122111122 rfl w
theorem q0010 {y : De} (he hc : Bool) (v g s : Va) (ww e c : Bool) (hx : De.bulk ⟨false, false, true, false, he, hc, v, g, s, ww, e, c⟩ ≤ 1048576) (hy : y.bulk ≤ 1048576) (b : Bool) (w : World) : ∀ x, x = De.mk false false true false he hc v g s ww e c → Calls Try.prog 10 #[.bool b, x.val, .bool true, y.val] w fun e w' => e = .returned (.bool true) ∧ Below w.heap.size w w' := by
  intro x hxe
  subst hxe
  obtain ⟨n0, n1, n2, n3, ne, nc, v', g', s', w', e', c'⟩ := y
  cases n0 <;> cases n1 <;> cases n2 <;> cases n3
  · cases he <;> cases hc
    · exact wl hx hy p3001000000022 rfl w
    · exact wl hx hy p3001001000022 rfl w
    · exact wl hx hy p3001010000022 rfl w
    · exact wl hx hy p3001011000022 rfl w
  · cases he <;> cases hc
    · exact wl hx hy p3001000000122 rfl w
    · exact wl hx hy p3001001000122 rfl w
    · exact wl hx hy p3001010000122 rfl w
    · exact wl hx hy p3001011000122 rfl w
  · cases he <;> cases hc <;> cases ne <;> cases nc
    · exact wl hx hy p3001000001000 rfl w
    · exact wl hx hy p3001000001001 rfl w
    · exact wl hx hy p3001000001010 rfl w
    · exact wl hx hy p3001000001011 rfl w
    · exact wl hx hy p3001001001000 rfl w
    · exact wl hx hy p3001001001001 rfl w
    · exact wl hx hy p3001001001010 rfl w
    · exact wl hx hy p3001001001011 rfl w
    · exact wl hx hy p3001010001000 rfl w
    · exact wl hx hy p3001010001001 rfl w
    · exact wl hx hy p3001010001010 rfl w
    · exact wl hx hy p3001010001011 rfl w
    · exact wl hx hy p3001011001000 rfl w
    · exact wl hx hy p3001011001001 rfl w
    · exact wl hx hy p3001011001010 rfl w
    · exact wl hx hy p3001011001011 rfl w
  · exact wl hx hy p3001022001122 rfl w
  · cases he <;> cases hc <;> cases ne <;> cases nc
    · exact wl hx hy p3001000010000 rfl w
    · exact wl hx hy p3001000010001 rfl w
    · exact wl hx hy p3001000010010 rfl w
    · exact wl hx hy p3001000010011 rfl w
    · exact wl hx hy p3001001010000 rfl w
    · exact wl hx hy p3001001010001 rfl w
    · exact wl hx hy p3001001010010 rfl w
    · exact wl hx hy p3001001010011 rfl w
    · exact wl hx hy p3001010010000 rfl w
    · exact wl hx hy p3001010010001 rfl w
    · exact wl hx hy p3001010010010 rfl w
    · exact wl hx hy p3001010010011 rfl w
    · exact wl hx hy p3001011010000 rfl w
    · exact wl hx hy p3001011010001 rfl w
    · exact wl hx hy p3001011010010 rfl w
    · exact wl hx hy p3001011010011 rfl w
  · exact wl hx hy p3001022010122 rfl w
  · cases he <;> cases hc <;> cases ne <;> cases nc
    · exact wl hx hy p3001000011000 rfl w
    · exact wl hx hy p3001000011001 rfl w
    · exact wl hx hy p3001000011010 rfl w
    · exact wl hx hy p3001000011011 rfl w
    · exact wl hx hy p3001001011000 rfl w
    · exact wl hx hy p3001001011001 rfl w
    · exact wl hx hy p3001001011010 rfl w
    · exact wl hx hy p3001001011011 rfl w
    · exact wl hx hy p3001010011000 rfl w
    · exact wl hx hy p3001010011001 rfl w
    · exact wl hx hy p3001010011010 rfl w
    · exact wl hx hy p3001010011011 rfl w
    · exact wl hx hy p3001011011000 rfl w
    · exact wl hx hy p3001011011001 rfl w
    · exact wl hx hy p3001011011010 rfl w
    · exact wl hx hy p3001011011011 rfl w
  · exact wl hx hy p3001022011122 rfl w
  · cases he <;> cases hc
    · exact wl hx hy p3001000100022 rfl w
    · exact wl hx hy p3001001100022 rfl w
    · exact wl hx hy p3001010100022 rfl w
    · exact wl hx hy p3001011100022 rfl w
  · cases he <;> cases hc
    · exact wl hx hy p3001000100122 rfl w
    · exact wl hx hy p3001001100122 rfl w
    · exact wl hx hy p3001010100122 rfl w
    · exact wl hx hy p3001011100122 rfl w
  · exact wl hx hy p3001022101022 rfl w
  · exact wl hx hy p3001022101122 rfl w
  · exact wl hx hy p3001022110022 rfl w
  · exact wl hx hy p3001022110122 rfl w
  · exact wl hx hy p3001022111022 rfl w
  · exact wl hx hy p3001022111122 rfl w
theorem q0011 {y : De} (he hc : Bool) (v g s : Va) (ww e c : Bool) (hx : De.bulk ⟨false, false, true, true, he, hc, v, g, s, ww, e, c⟩ ≤ 1048576) (hy : y.bulk ≤ 1048576) (b : Bool) (w : World) : ∀ x, x = De.mk false false true true he hc v g s ww e c → Calls Try.prog 10 #[.bool b, x.val, .bool true, y.val] w fun e w' => e = .returned (.bool true) ∧ Below w.heap.size w w' := by
  intro x hxe
  subst hxe
  obtain ⟨n0, n1, n2, n3, ne, nc, v', g', s', w', e', c'⟩ := y
  cases n0 <;> cases n1 <;> cases n2 <;> cases n3
  · exact wl hx hy p3001122000022 rfl w
  · exact wl hx hy p3001122000122 rfl w
  · exact wl hx hy p3001122001022 rfl w
  · exact wl hx hy p3001122001122 rfl w
  · exact wl hx hy p3001122010022 rfl w
  · exact wl hx hy p3001122010122 rfl w
  · exact wl hx hy p3001122011022 rfl w
  · exact wl hx hy p3001122011122 rfl w
  · exact wl hx hy p3001122100022 rfl w
  · exact wl hx hy p3001122100122 rfl w
  · exact wl hx hy p3001122101022 rfl w
  · exact wl hx hy p3001122101122 rfl w
  · exact wl hx hy p3001122110022 rfl w
  · exact wl hx hy p3001122110122 rfl w
  · exact wl hx hy p3001122111022 rfl w
  · exact wl hx hy p3001122111122 rfl w
theorem q0100 {y : De} (he hc : Bool) (v g s : Va) (ww e c : Bool) (hx : De.bulk ⟨false, true, false, false, he, hc, v, g, s, ww, e, c⟩ ≤ 1048576) (hy : y.bulk ≤ 1048576) (b : Bool) (w : World) : ∀ x, x = De.mk false true false false he hc v g s ww e c → Calls Try.prog 10 #[.bool b, x.val, .bool true, y.val] w fun e w' => e = .returned (.bool true) ∧ Below w.heap.size w w' := by
  intro x hxe
  subst hxe
  obtain ⟨n0, n1, n2, n3, ne, nc, v', g', s', w', e', c'⟩ := y
  cases n0 <;> cases n1 <;> cases n2 <;> cases n3
  · cases he <;> cases hc
    · exact wl hx hy p3010000000022 rfl w
    · exact wl hx hy p3010001000022 rfl w
    · exact wl hx hy p3010010000022 rfl w
    · exact wl hx hy p3010011000022 rfl w
  · cases he <;> cases hc
    · exact wl hx hy p3010000000122 rfl w
    · exact wl hx hy p3010001000122 rfl w
    · exact wl hx hy p3010010000122 rfl w
    · exact wl hx hy p3010011000122 rfl w
  · cases he <;> cases hc <;> cases ne <;> cases nc
    · exact wl hx hy p3010000001000 rfl w
    · exact wl hx hy p3010000001001 rfl w
    · exact wl hx hy p3010000001010 rfl w
    · exact wl hx hy p3010000001011 rfl w
    · exact wl hx hy p3010001001000 rfl w
    · exact wl hx hy p3010001001001 rfl w
    · exact wl hx hy p3010001001010 rfl w
    · exact wl hx hy p3010001001011 rfl w
    · exact wl hx hy p3010010001000 rfl w
    · exact wl hx hy p3010010001001 rfl w
    · exact wl hx hy p3010010001010 rfl w
    · exact wl hx hy p3010010001011 rfl w
    · exact wl hx hy p3010011001000 rfl w
    · exact wl hx hy p3010011001001 rfl w
    · exact wl hx hy p3010011001010 rfl w
    · exact wl hx hy p3010011001011 rfl w
  · exact wl hx hy p3010022001122 rfl w
  · cases he <;> cases hc <;> cases ne <;> cases nc
    · exact wl hx hy p3010000010000 rfl w
    · exact wl hx hy p3010000010001 rfl w
    · exact wl hx hy p3010000010010 rfl w
    · exact wl hx hy p3010000010011 rfl w
    · exact wl hx hy p3010001010000 rfl w
    · exact wl hx hy p3010001010001 rfl w
    · exact wl hx hy p3010001010010 rfl w
    · exact wl hx hy p3010001010011 rfl w
    · exact wl hx hy p3010010010000 rfl w
    · exact wl hx hy p3010010010001 rfl w
    · exact wl hx hy p3010010010010 rfl w
    · exact wl hx hy p3010010010011 rfl w
    · exact wl hx hy p3010011010000 rfl w
    · exact wl hx hy p3010011010001 rfl w
    · exact wl hx hy p3010011010010 rfl w
    · exact wl hx hy p3010011010011 rfl w
  · exact wl hx hy p3010022010122 rfl w
  · cases he <;> cases hc <;> cases ne <;> cases nc
    · exact wl hx hy p3010000011000 rfl w
    · exact wl hx hy p3010000011001 rfl w
    · exact wl hx hy p3010000011010 rfl w
    · exact wl hx hy p3010000011011 rfl w
    · exact wl hx hy p3010001011000 rfl w
    · exact wl hx hy p3010001011001 rfl w
    · exact wl hx hy p3010001011010 rfl w
    · exact wl hx hy p3010001011011 rfl w
    · exact wl hx hy p3010010011000 rfl w
    · exact wl hx hy p3010010011001 rfl w
    · exact wl hx hy p3010010011010 rfl w
    · exact wl hx hy p3010010011011 rfl w
    · exact wl hx hy p3010011011000 rfl w
    · exact wl hx hy p3010011011001 rfl w
    · exact wl hx hy p3010011011010 rfl w
    · exact wl hx hy p3010011011011 rfl w
  · exact wl hx hy p3010022011122 rfl w
  · cases he <;> cases hc
    · exact wl hx hy p3010000100022 rfl w
    · exact wl hx hy p3010001100022 rfl w
    · exact wl hx hy p3010010100022 rfl w
    · exact wl hx hy p3010011100022 rfl w
  · cases he <;> cases hc
    · exact wl hx hy p3010000100122 rfl w
    · exact wl hx hy p3010001100122 rfl w
    · exact wl hx hy p3010010100122 rfl w
    · exact wl hx hy p3010011100122 rfl w
  · exact wl hx hy p3010022101022 rfl w
  · exact wl hx hy p3010022101122 rfl w
  · exact wl hx hy p3010022110022 rfl w
  · exact wl hx hy p3010022110122 rfl w
  · exact wl hx hy p3010022111022 rfl w
  · exact wl hx hy p3010022111122 rfl w
theorem q0101 {y : De} (he hc : Bool) (v g s : Va) (ww e c : Bool) (hx : De.bulk ⟨false, true, false, true, he, hc, v, g, s, ww, e, c⟩ ≤ 1048576) (hy : y.bulk ≤ 1048576) (b : Bool) (w : World) : ∀ x, x = De.mk false true false true he hc v g s ww e c → Calls Try.prog 10 #[.bool b, x.val, .bool true, y.val] w fun e w' => e = .returned (.bool true) ∧ Below w.heap.size w w' := by
  intro x hxe
  subst hxe
  obtain ⟨n0, n1, n2, n3, ne, nc, v', g', s', w', e', c'⟩ := y
  cases n0 <;> cases n1 <;> cases n2 <;> cases n3
  · exact wl hx hy p3010122000022 rfl w
  · exact wl hx hy p3010122000122 rfl w
  · exact wl hx hy p3010122001022 rfl w
  · exact wl hx hy p3010122001122 rfl w
  · exact wl hx hy p3010122010022 rfl w
  · exact wl hx hy p3010122010122 rfl w
  · exact wl hx hy p3010122011022 rfl w
  · exact wl hx hy p3010122011122 rfl w
  · exact wl hx hy p3010122100022 rfl w
  · exact wl hx hy p3010122100122 rfl w
  · exact wl hx hy p3010122101022 rfl w
  · exact wl hx hy p3010122101122 rfl w
  · exact wl hx hy p3010122110022 rfl w
  · exact wl hx hy p3010122110122 rfl w
  · exact wl hx hy p3010122111022 rfl w
  · exact wl hx hy p3010122111122 rfl w
theorem q0110 {y : De} (he hc : Bool) (v g s : Va) (ww e c : Bool) (hx : De.bulk ⟨false, true, true, false, he, hc, v, g, s, ww, e, c⟩ ≤ 1048576) (hy : y.bulk ≤ 1048576) (b : Bool) (w : World) : ∀ x, x = De.mk false true true false he hc v g s ww e c → Calls Try.prog 10 #[.bool b, x.val, .bool true, y.val] w fun e w' => e = .returned (.bool true) ∧ Below w.heap.size w w' := by
  intro x hxe
  subst hxe
  obtain ⟨n0, n1, n2, n3, ne, nc, v', g', s', w', e', c'⟩ := y
  cases n0 <;> cases n1 <;> cases n2 <;> cases n3
  · cases he <;> cases hc <;> cases ne <;> cases nc
    · exact wl hx hy p3011000000000 rfl w
    · exact wl hx hy p3011000000001 rfl w
    · exact wl hx hy p3011000000010 rfl w
    · exact wl hx hy p3011000000011 rfl w
    · exact wl hx hy p3011001000000 rfl w
    · exact wl hx hy p3011001000001 rfl w
    · exact wl hx hy p3011001000010 rfl w
    · exact wl hx hy p3011001000011 rfl w
    · exact wl hx hy p3011010000000 rfl w
    · exact wl hx hy p3011010000001 rfl w
    · exact wl hx hy p3011010000010 rfl w
    · exact wl hx hy p3011010000011 rfl w
    · exact wl hx hy p3011011000000 rfl w
    · exact wl hx hy p3011011000001 rfl w
    · exact wl hx hy p3011011000010 rfl w
    · exact wl hx hy p3011011000011 rfl w
  · cases he <;> cases hc <;> cases ne <;> cases nc
    · exact wl hx hy p3011000000100 rfl w
    · exact wl hx hy p3011000000101 rfl w
    · exact wl hx hy p3011000000110 rfl w
    · exact wl hx hy p3011000000111 rfl w
    · exact wl hx hy p3011001000100 rfl w
    · exact wl hx hy p3011001000101 rfl w
    · exact wl hx hy p3011001000110 rfl w
    · exact wl hx hy p3011001000111 rfl w
    · exact wl hx hy p3011010000100 rfl w
    · exact wl hx hy p3011010000101 rfl w
    · exact wl hx hy p3011010000110 rfl w
    · exact wl hx hy p3011010000111 rfl w
    · exact wl hx hy p3011011000100 rfl w
    · exact wl hx hy p3011011000101 rfl w
    · exact wl hx hy p3011011000110 rfl w
    · exact wl hx hy p3011011000111 rfl w
  · cases he <;> cases hc <;> cases ne <;> cases nc
    · exact wl hx hy p3011000001000 rfl w
    · exact wl hx hy p3011000001001 rfl w
    · exact wl hx hy p3011000001010 rfl w
    · exact wl hx hy p3011000001011 rfl w
    · exact wl hx hy p3011001001000 rfl w
    · exact wl hx hy p3011001001001 rfl w
    · exact wl hx hy p3011001001010 rfl w
    · exact wl hx hy p3011001001011 rfl w
    · exact wl hx hy p3011010001000 rfl w
    · exact wl hx hy p3011010001001 rfl w
    · exact wl hx hy p3011010001010 rfl w
    · exact wl hx hy p3011010001011 rfl w
    · exact wl hx hy p3011011001000 rfl w
    · exact wl hx hy p3011011001001 rfl w
    · exact wl hx hy p3011011001010 rfl w
    · exact wl hx hy p3011011001011 rfl w
  · exact wl hx hy p3011022001122 rfl w
  · cases he <;> cases hc <;> cases ne <;> cases nc
    · exact wl hx hy p3011000010000 rfl w
    · exact wl hx hy p3011000010001 rfl w
    · exact wl hx hy p3011000010010 rfl w
    · exact wl hx hy p3011000010011 rfl w
    · exact wl hx hy p3011001010000 rfl w
    · exact wl hx hy p3011001010001 rfl w
    · exact wl hx hy p3011001010010 rfl w
    · exact wl hx hy p3011001010011 rfl w
    · exact wl hx hy p3011010010000 rfl w
    · exact wl hx hy p3011010010001 rfl w
    · exact wl hx hy p3011010010010 rfl w
    · exact wl hx hy p3011010010011 rfl w
    · exact wl hx hy p3011011010000 rfl w
    · exact wl hx hy p3011011010001 rfl w
    · exact wl hx hy p3011011010010 rfl w
    · exact wl hx hy p3011011010011 rfl w
  · exact wl hx hy p3011022010122 rfl w
  · cases he <;> cases hc <;> cases ne <;> cases nc
    · exact wl hx hy p3011000011000 rfl w
    · exact wl hx hy p3011000011001 rfl w
    · exact wl hx hy p3011000011010 rfl w
    · exact wl hx hy p3011000011011 rfl w
    · exact wl hx hy p3011001011000 rfl w
    · exact wl hx hy p3011001011001 rfl w
    · exact wl hx hy p3011001011010 rfl w
    · exact wl hx hy p3011001011011 rfl w
    · exact wl hx hy p3011010011000 rfl w
    · exact wl hx hy p3011010011001 rfl w
    · exact wl hx hy p3011010011010 rfl w
    · exact wl hx hy p3011010011011 rfl w
    · exact wl hx hy p3011011011000 rfl w
    · exact wl hx hy p3011011011001 rfl w
    · exact wl hx hy p3011011011010 rfl w
    · exact wl hx hy p3011011011011 rfl w
  · exact wl hx hy p3011022011122 rfl w
  · cases he <;> cases hc
    · exact wl hx hy p3011000100022 rfl w
    · exact wl hx hy p3011001100022 rfl w
    · exact wl hx hy p3011010100022 rfl w
    · exact wl hx hy p3011011100022 rfl w
  · cases he <;> cases hc <;> cases ne <;> cases nc
    · exact wl hx hy p3011000100100 rfl w
    · exact wl hx hy p3011000100101 rfl w
    · exact wl hx hy p3011000100110 rfl w
    · exact wl hx hy p3011000100111 rfl w
    · exact wl hx hy p3011001100100 rfl w
    · exact wl hx hy p3011001100101 rfl w
    · exact wl hx hy p3011001100110 rfl w
    · exact wl hx hy p3011001100111 rfl w
    · exact wl hx hy p3011010100100 rfl w
    · exact wl hx hy p3011010100101 rfl w
    · exact wl hx hy p3011010100110 rfl w
    · exact wl hx hy p3011010100111 rfl w
    · exact wl hx hy p3011011100100 rfl w
    · exact wl hx hy p3011011100101 rfl w
    · exact wl hx hy p3011011100110 rfl w
    · exact wl hx hy p3011011100111 rfl w
  · exact wl hx hy p3011022101022 rfl w
  · exact wl hx hy p3011022101122 rfl w
  · exact wl hx hy p3011022110022 rfl w
  · exact wl hx hy p3011022110122 rfl w
  · exact wl hx hy p3011022111022 rfl w
  · exact wl hx hy p3011022111122 rfl w
theorem q0111 {y : De} (he hc : Bool) (v g s : Va) (ww e c : Bool) (hx : De.bulk ⟨false, true, true, true, he, hc, v, g, s, ww, e, c⟩ ≤ 1048576) (hy : y.bulk ≤ 1048576) (b : Bool) (w : World) : ∀ x, x = De.mk false true true true he hc v g s ww e c → Calls Try.prog 10 #[.bool b, x.val, .bool true, y.val] w fun e w' => e = .returned (.bool true) ∧ Below w.heap.size w w' := by
  intro x hxe
  subst hxe
  obtain ⟨n0, n1, n2, n3, ne, nc, v', g', s', w', e', c'⟩ := y
  cases n0 <;> cases n1 <;> cases n2 <;> cases n3
  · exact wl hx hy p3011122000022 rfl w
  · exact wl hx hy p3011122000122 rfl w
  · exact wl hx hy p3011122001022 rfl w
  · exact wl hx hy p3011122001122 rfl w
  · exact wl hx hy p3011122010022 rfl w
  · exact wl hx hy p3011122010122 rfl w
  · exact wl hx hy p3011122011022 rfl w
  · exact wl hx hy p3011122011122 rfl w
  · exact wl hx hy p3011122100022 rfl w
  · exact wl hx hy p3011122100122 rfl w
  · exact wl hx hy p3011122101022 rfl w
  · exact wl hx hy p3011122101122 rfl w
  · exact wl hx hy p3011122110022 rfl w
  · exact wl hx hy p3011122110122 rfl w
  · exact wl hx hy p3011122111022 rfl w
  · exact wl hx hy p3011122111122 rfl w
theorem q1000 {y : De} (he hc : Bool) (v g s : Va) (ww e c : Bool) (hx : De.bulk ⟨true, false, false, false, he, hc, v, g, s, ww, e, c⟩ ≤ 1048576) (hy : y.bulk ≤ 1048576) (b : Bool) (w : World) : ∀ x, x = De.mk true false false false he hc v g s ww e c → Calls Try.prog 10 #[.bool b, x.val, .bool true, y.val] w fun e w' => e = .returned (.bool true) ∧ Below w.heap.size w w' := by
  intro x hxe
  subst hxe
  obtain ⟨n0, n1, n2, n3, ne, nc, v', g', s', w', e', c'⟩ := y
  cases n0 <;> cases n1 <;> cases n2 <;> cases n3
  · cases he <;> cases hc
    · exact wl hx hy p3100000000022 rfl w
    · exact wl hx hy p3100001000022 rfl w
    · exact wl hx hy p3100010000022 rfl w
    · exact wl hx hy p3100011000022 rfl w
  · cases he <;> cases hc
    · exact wl hx hy p3100000000122 rfl w
    · exact wl hx hy p3100001000122 rfl w
    · exact wl hx hy p3100010000122 rfl w
    · exact wl hx hy p3100011000122 rfl w
  · cases he <;> cases hc
    · exact wl hx hy p3100000001022 rfl w
    · exact wl hx hy p3100001001022 rfl w
    · exact wl hx hy p3100010001022 rfl w
    · exact wl hx hy p3100011001022 rfl w
  · exact wl hx hy p3100022001122 rfl w
  · cases he <;> cases hc
    · exact wl hx hy p3100000010022 rfl w
    · exact wl hx hy p3100001010022 rfl w
    · exact wl hx hy p3100010010022 rfl w
    · exact wl hx hy p3100011010022 rfl w
  · exact wl hx hy p3100022010122 rfl w
  · cases he <;> cases hc
    · exact wl hx hy p3100000011022 rfl w
    · exact wl hx hy p3100001011022 rfl w
    · exact wl hx hy p3100010011022 rfl w
    · exact wl hx hy p3100011011022 rfl w
  · exact wl hx hy p3100022011122 rfl w
  · exact wl hx hy p3100022100022 rfl w
  · cases he <;> cases hc
    · exact wl hx hy p3100000100122 rfl w
    · exact wl hx hy p3100001100122 rfl w
    · exact wl hx hy p3100010100122 rfl w
    · exact wl hx hy p3100011100122 rfl w
  · exact wl hx hy p3100022101022 rfl w
  · exact wl hx hy p3100022101122 rfl w
  · exact wl hx hy p3100022110022 rfl w
  · exact wl hx hy p3100022110122 rfl w
  · exact wl hx hy p3100022111022 rfl w
  · exact wl hx hy p3100022111122 rfl w
theorem q1001 {y : De} (he hc : Bool) (v g s : Va) (ww e c : Bool) (hx : De.bulk ⟨true, false, false, true, he, hc, v, g, s, ww, e, c⟩ ≤ 1048576) (hy : y.bulk ≤ 1048576) (b : Bool) (w : World) : ∀ x, x = De.mk true false false true he hc v g s ww e c → Calls Try.prog 10 #[.bool b, x.val, .bool true, y.val] w fun e w' => e = .returned (.bool true) ∧ Below w.heap.size w w' := by
  intro x hxe
  subst hxe
  obtain ⟨n0, n1, n2, n3, ne, nc, v', g', s', w', e', c'⟩ := y
  cases n0 <;> cases n1 <;> cases n2 <;> cases n3
  · cases he <;> cases hc
    · exact wl hx hy p3100100000022 rfl w
    · exact wl hx hy p3100101000022 rfl w
    · exact wl hx hy p3100110000022 rfl w
    · exact wl hx hy p3100111000022 rfl w
  · cases he <;> cases hc
    · exact wl hx hy p3100100000122 rfl w
    · exact wl hx hy p3100101000122 rfl w
    · exact wl hx hy p3100110000122 rfl w
    · exact wl hx hy p3100111000122 rfl w
  · cases he <;> cases hc
    · exact wl hx hy p3100100001022 rfl w
    · exact wl hx hy p3100101001022 rfl w
    · exact wl hx hy p3100110001022 rfl w
    · exact wl hx hy p3100111001022 rfl w
  · exact wl hx hy p3100122001122 rfl w
  · cases he <;> cases hc
    · exact wl hx hy p3100100010022 rfl w
    · exact wl hx hy p3100101010022 rfl w
    · exact wl hx hy p3100110010022 rfl w
    · exact wl hx hy p3100111010022 rfl w
  · exact wl hx hy p3100122010122 rfl w
  · cases he <;> cases hc
    · exact wl hx hy p3100100011022 rfl w
    · exact wl hx hy p3100101011022 rfl w
    · exact wl hx hy p3100110011022 rfl w
    · exact wl hx hy p3100111011022 rfl w
  · exact wl hx hy p3100122011122 rfl w
  · exact wl hx hy p3100122100022 rfl w
  · cases he <;> cases hc
    · exact wl hx hy p3100100100122 rfl w
    · exact wl hx hy p3100101100122 rfl w
    · exact wl hx hy p3100110100122 rfl w
    · exact wl hx hy p3100111100122 rfl w
  · exact wl hx hy p3100122101022 rfl w
  · exact wl hx hy p3100122101122 rfl w
  · exact wl hx hy p3100122110022 rfl w
  · exact wl hx hy p3100122110122 rfl w
  · exact wl hx hy p3100122111022 rfl w
  · exact wl hx hy p3100122111122 rfl w
theorem q1010 {y : De} (he hc : Bool) (v g s : Va) (ww e c : Bool) (hx : De.bulk ⟨true, false, true, false, he, hc, v, g, s, ww, e, c⟩ ≤ 1048576) (hy : y.bulk ≤ 1048576) (b : Bool) (w : World) : ∀ x, x = De.mk true false true false he hc v g s ww e c → Calls Try.prog 10 #[.bool b, x.val, .bool true, y.val] w fun e w' => e = .returned (.bool true) ∧ Below w.heap.size w w' := by
  intro x hxe
  subst hxe
  obtain ⟨n0, n1, n2, n3, ne, nc, v', g', s', w', e', c'⟩ := y
  cases n0 <;> cases n1 <;> cases n2 <;> cases n3
  · exact wl hx hy p3101022000022 rfl w
  · exact wl hx hy p3101022000122 rfl w
  · exact wl hx hy p3101022001022 rfl w
  · exact wl hx hy p3101022001122 rfl w
  · exact wl hx hy p3101022010022 rfl w
  · exact wl hx hy p3101022010122 rfl w
  · exact wl hx hy p3101022011022 rfl w
  · exact wl hx hy p3101022011122 rfl w
  · exact wl hx hy p3101022100022 rfl w
  · exact wl hx hy p3101022100122 rfl w
  · exact wl hx hy p3101022101022 rfl w
  · exact wl hx hy p3101022101122 rfl w
  · exact wl hx hy p3101022110022 rfl w
  · exact wl hx hy p3101022110122 rfl w
  · exact wl hx hy p3101022111022 rfl w
  · exact wl hx hy p3101022111122 rfl w
theorem q1011 {y : De} (he hc : Bool) (v g s : Va) (ww e c : Bool) (hx : De.bulk ⟨true, false, true, true, he, hc, v, g, s, ww, e, c⟩ ≤ 1048576) (hy : y.bulk ≤ 1048576) (b : Bool) (w : World) : ∀ x, x = De.mk true false true true he hc v g s ww e c → Calls Try.prog 10 #[.bool b, x.val, .bool true, y.val] w fun e w' => e = .returned (.bool true) ∧ Below w.heap.size w w' := by
  intro x hxe
  subst hxe
  obtain ⟨n0, n1, n2, n3, ne, nc, v', g', s', w', e', c'⟩ := y
  cases n0 <;> cases n1 <;> cases n2 <;> cases n3
  · exact wl hx hy p3101122000022 rfl w
  · exact wl hx hy p3101122000122 rfl w
  · exact wl hx hy p3101122001022 rfl w
  · exact wl hx hy p3101122001122 rfl w
  · exact wl hx hy p3101122010022 rfl w
  · exact wl hx hy p3101122010122 rfl w
  · exact wl hx hy p3101122011022 rfl w
  · exact wl hx hy p3101122011122 rfl w
  · exact wl hx hy p3101122100022 rfl w
  · exact wl hx hy p3101122100122 rfl w
  · exact wl hx hy p3101122101022 rfl w
  · exact wl hx hy p3101122101122 rfl w
  · exact wl hx hy p3101122110022 rfl w
  · exact wl hx hy p3101122110122 rfl w
  · exact wl hx hy p3101122111022 rfl w
  · exact wl hx hy p3101122111122 rfl w
theorem q1100 {y : De} (he hc : Bool) (v g s : Va) (ww e c : Bool) (hx : De.bulk ⟨true, true, false, false, he, hc, v, g, s, ww, e, c⟩ ≤ 1048576) (hy : y.bulk ≤ 1048576) (b : Bool) (w : World) : ∀ x, x = De.mk true true false false he hc v g s ww e c → Calls Try.prog 10 #[.bool b, x.val, .bool true, y.val] w fun e w' => e = .returned (.bool true) ∧ Below w.heap.size w w' := by
  intro x hxe
  subst hxe
  obtain ⟨n0, n1, n2, n3, ne, nc, v', g', s', w', e', c'⟩ := y
  cases n0 <;> cases n1 <;> cases n2 <;> cases n3
  · exact wl hx hy p3110022000022 rfl w
  · exact wl hx hy p3110022000122 rfl w
  · exact wl hx hy p3110022001022 rfl w
  · exact wl hx hy p3110022001122 rfl w
  · exact wl hx hy p3110022010022 rfl w
  · exact wl hx hy p3110022010122 rfl w
  · exact wl hx hy p3110022011022 rfl w
  · exact wl hx hy p3110022011122 rfl w
  · exact wl hx hy p3110022100022 rfl w
  · exact wl hx hy p3110022100122 rfl w
  · exact wl hx hy p3110022101022 rfl w
  · exact wl hx hy p3110022101122 rfl w
  · exact wl hx hy p3110022110022 rfl w
  · exact wl hx hy p3110022110122 rfl w
  · exact wl hx hy p3110022111022 rfl w
  · exact wl hx hy p3110022111122 rfl w
theorem q1101 {y : De} (he hc : Bool) (v g s : Va) (ww e c : Bool) (hx : De.bulk ⟨true, true, false, true, he, hc, v, g, s, ww, e, c⟩ ≤ 1048576) (hy : y.bulk ≤ 1048576) (b : Bool) (w : World) : ∀ x, x = De.mk true true false true he hc v g s ww e c → Calls Try.prog 10 #[.bool b, x.val, .bool true, y.val] w fun e w' => e = .returned (.bool true) ∧ Below w.heap.size w w' := by
  intro x hxe
  subst hxe
  obtain ⟨n0, n1, n2, n3, ne, nc, v', g', s', w', e', c'⟩ := y
  cases n0 <;> cases n1 <;> cases n2 <;> cases n3
  · exact wl hx hy p3110122000022 rfl w
  · exact wl hx hy p3110122000122 rfl w
  · exact wl hx hy p3110122001022 rfl w
  · exact wl hx hy p3110122001122 rfl w
  · exact wl hx hy p3110122010022 rfl w
  · exact wl hx hy p3110122010122 rfl w
  · exact wl hx hy p3110122011022 rfl w
  · exact wl hx hy p3110122011122 rfl w
  · exact wl hx hy p3110122100022 rfl w
  · exact wl hx hy p3110122100122 rfl w
  · exact wl hx hy p3110122101022 rfl w
  · exact wl hx hy p3110122101122 rfl w
  · exact wl hx hy p3110122110022 rfl w
  · exact wl hx hy p3110122110122 rfl w
  · exact wl hx hy p3110122111022 rfl w
  · exact wl hx hy p3110122111122 rfl w
theorem q1110 {y : De} (he hc : Bool) (v g s : Va) (ww e c : Bool) (hx : De.bulk ⟨true, true, true, false, he, hc, v, g, s, ww, e, c⟩ ≤ 1048576) (hy : y.bulk ≤ 1048576) (b : Bool) (w : World) : ∀ x, x = De.mk true true true false he hc v g s ww e c → Calls Try.prog 10 #[.bool b, x.val, .bool true, y.val] w fun e w' => e = .returned (.bool true) ∧ Below w.heap.size w w' := by
  intro x hxe
  subst hxe
  obtain ⟨n0, n1, n2, n3, ne, nc, v', g', s', w', e', c'⟩ := y
  cases n0 <;> cases n1 <;> cases n2 <;> cases n3
  · exact wl hx hy p3111022000022 rfl w
  · exact wl hx hy p3111022000122 rfl w
  · exact wl hx hy p3111022001022 rfl w
  · exact wl hx hy p3111022001122 rfl w
  · exact wl hx hy p3111022010022 rfl w
  · exact wl hx hy p3111022010122 rfl w
  · exact wl hx hy p3111022011022 rfl w
  · exact wl hx hy p3111022011122 rfl w
  · exact wl hx hy p3111022100022 rfl w
  · exact wl hx hy p3111022100122 rfl w
  · exact wl hx hy p3111022101022 rfl w
  · exact wl hx hy p3111022101122 rfl w
  · exact wl hx hy p3111022110022 rfl w
  · exact wl hx hy p3111022110122 rfl w
  · exact wl hx hy p3111022111022 rfl w
  · exact wl hx hy p3111022111122 rfl w
theorem q1111 {y : De} (he hc : Bool) (v g s : Va) (ww e c : Bool) (hx : De.bulk ⟨true, true, true, true, he, hc, v, g, s, ww, e, c⟩ ≤ 1048576) (hy : y.bulk ≤ 1048576) (b : Bool) (w : World) : ∀ x, x = De.mk true true true true he hc v g s ww e c → Calls Try.prog 10 #[.bool b, x.val, .bool true, y.val] w fun e w' => e = .returned (.bool true) ∧ Below w.heap.size w w' := by
  intro x hxe
  subst hxe
  obtain ⟨n0, n1, n2, n3, ne, nc, v', g', s', w', e', c'⟩ := y
  cases n0 <;> cases n1 <;> cases n2 <;> cases n3
  · exact wl hx hy p3111122000022 rfl w
  · exact wl hx hy p3111122000122 rfl w
  · exact wl hx hy p3111122001022 rfl w
  · exact wl hx hy p3111122001122 rfl w
  · exact wl hx hy p3111122010022 rfl w
  · exact wl hx hy p3111122010122 rfl w
  · exact wl hx hy p3111122011022 rfl w
  · exact wl hx hy p3111122011122 rfl w
  · exact wl hx hy p3111122100022 rfl w
  · exact wl hx hy p3111122100122 rfl w
  · exact wl hx hy p3111122101022 rfl w
  · exact wl hx hy p3111122101122 rfl w
  · exact wl hx hy p3111122110022 rfl w
  · exact wl hx hy p3111122110122 rfl w
  · exact wl hx hy p3111122111022 rfl w
  · exact wl hx hy p3111122111122 rfl w
theorem walkApp (b : Bool) (x : De) (_ : x.ok) (hx : x.bulk ≤ 1048576) (h : Bool) (y : De) (_ : y.ok) (hy : y.bulk ≤ 1048576) (w : World) : Calls Try.prog 10 #[.bool b, x.val, .bool h, y.val] w fun e w' => e = .returned (.bool true) ∧ Below w.heap.size w w' := by
  cases h with
  | false => exact wln hx hy p_no w
  | true =>
    obtain ⟨d0, d1, d2, d3, he, hc, v, g, s, ww, e, c⟩ := x
    cases d0 <;> cases d1 <;> cases d2 <;> cases d3
    · exact q0000 he hc v g s ww e c hx hy b w _ rfl
    · exact q0001 he hc v g s ww e c hx hy b w _ rfl
    · exact q0010 he hc v g s ww e c hx hy b w _ rfl
    · exact q0011 he hc v g s ww e c hx hy b w _ rfl
    · exact q0100 he hc v g s ww e c hx hy b w _ rfl
    · exact q0101 he hc v g s ww e c hx hy b w _ rfl
    · exact q0110 he hc v g s ww e c hx hy b w _ rfl
    · exact q0111 he hc v g s ww e c hx hy b w _ rfl
    · exact q1000 he hc v g s ww e c hx hy b w _ rfl
    · exact q1001 he hc v g s ww e c hx hy b w _ rfl
    · exact q1010 he hc v g s ww e c hx hy b w _ rfl
    · exact q1011 he hc v g s ww e c hx hy b w _ rfl
    · exact q1100 he hc v g s ww e c hx hy b w _ rfl
    · exact q1101 he hc v g s ww e c hx hy b w _ rfl
    · exact q1110 he hc v g s ww e c hx hy b w _ rfl
    · exact q1111 he hc v g s ww e c hx hy b w _ rfl
end Go.Proofs.Ythjfdbbpgdflkaa
