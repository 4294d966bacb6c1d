/- An Ask of small texts. -/
import Derived.Test.YtegdomkgppddeaaGreatDoorUwAsk
namespace Go.Proofs.YtegdomkgppddeaaGreatDoor
theorem Sk.small.mono {a : Sk} {B C : Nat} (h : a.small B) (hb : B ≤ C) : a.small C := by
  obtain ⟨h1, h2, h3, h4, h5, h6, h7, h8⟩ := h
  exact ⟨by omega, by omega, by omega, by omega, by omega, by omega, fun y hy => Nat.le_trans (h7 y hy) hb, by omega⟩
end Go.Proofs.YtegdomkgppddeaaGreatDoor
