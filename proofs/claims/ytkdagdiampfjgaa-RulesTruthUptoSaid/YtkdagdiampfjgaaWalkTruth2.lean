/- RulesTruth: every call of it returns true, in the order of its arguments. -/
import Derived.Test.YtkdagdiampfjgaaWalkTruth
import Derived.Test.YtkdagdiampfjgaaOpenEs
namespace Go.Proofs.Ytkdagdiampfjgaa
open Go.RowKit PRulesClosed Go.Proofs.YtkdagdiampfjgaaW.PrintWords
theorem walkTruth2 (ext has : Bool) (x : De) (_ : x.ok) (h : x.bulk ≤ 1048576) (p : Va) (_ : p.ok) (hp : p.s.size ≤ 1048576) (A : Option Addr) (c : Nat) (es : List S40) (hec : es.length ≤ c) {w0 : World} (hE : Kd.C k40 w0 A es.length es) :
    Calls Try.prog 3 #[.bool ext, .bool has, x.val, p.val, .slice A es.length c] w0 fun e w' => e = .returned (.bool true) ∧ Below w0.heap.size w0 w' := by
  have h1 : x.v.s.size ≤ 1048576 := by unfold De.bulk at h; omega
  have h2 : x.g.s.size ≤ 1048576 := by unfold De.bulk at h; omega
  have h3 : x.s.s.size ≤ 1048576 := by unfold De.bulk at h; omega
  cases ext <;> cases has
  · exact truth_f_f x h1 h2 h3 p hp A c es w0 hE hec
  · exact truth_f_t x h1 h2 h3 p hp A c es w0 hE hec
  · exact truth_t_f x h1 h2 h3 p hp A c es w0 hE hec
  · exact truth_t_t x h1 h2 h3 p hp A c es w0 hE hec
end Go.Proofs.Ytkdagdiampfjgaa
