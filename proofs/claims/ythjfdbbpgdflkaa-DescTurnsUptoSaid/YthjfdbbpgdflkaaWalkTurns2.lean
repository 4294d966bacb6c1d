/- DescTurns: its runs, joined. -/
import Derived.Test.YthjfdbbpgdflkaaTurnsData
import Derived.Test.YthjfdbbpgdflkaaTurnsAccess
namespace Go.Proofs.Ythjfdbbpgdflkaa
open Go.Sx Go.RowKit
set_option maxRecDepth 100000
theorem walkTurns (x : De) (_ : x.ok) (hx : x.bulk ≤ 1048576) (y : De) (_ : y.ok) (hy : y.bulk ≤ 1048576) (b : Bool) (w : World) : Calls Try.prog 13 #[x.val, y.val, .bool b] w fun e w' => e = .returned (.bool true) ∧ Below w.heap.size w w' := by
  cases hb : wholeBits y.hv y.hg y.hs y.hw y.he y.hc with
  | false => exact walk2 hx hy (turns_no _ _ _ _ _ _ hb) rfl rfl rfl rfl rfl rfl rfl rfl rfl rfl w
  | true =>
    simp only [wholeBits, Bool.and_eq_true, Bool.or_eq_true, Bool.not_eq_true'] at hb
    obtain ⟨⟨h4, h5⟩, ⟨⟨⟨h0, h1⟩, h2⟩, h3⟩ | ⟨⟨⟨h0, h1⟩, h2⟩, h3⟩⟩ := hb
    · exact walk2 hx hy (turns_data x.hv x.hg x.hs x.hw) rfl rfl rfl rfl (by rw [h0]; rfl) (by rw [h1]; rfl) (by rw [h2]; rfl) (by rw [h3]; rfl) (by rw [h4]; rfl) (by rw [h5]; rfl) w
    · exact walk2 hx hy (turns_access x.hv x.hg x.hs x.hw) rfl rfl rfl rfl (by rw [h0]; rfl) (by rw [h1]; rfl) (by rw [h2]; rfl) (by rw [h3]; rfl) (by rw [h4]; rfl) (by rw [h5]; rfl) w
end Go.Proofs.Ythjfdbbpgdflkaa
