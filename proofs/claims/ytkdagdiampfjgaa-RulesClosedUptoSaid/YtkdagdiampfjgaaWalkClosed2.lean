/- RulesClosed: every call of it returns true, in the order of its arguments. -/
import Derived.Test.YtkdagdiampfjgaaWalkClosed
import Derived.Test.YtkdagdiampfjgaaOpenEs
namespace Go.Proofs.Ytkdagdiampfjgaa
open Go.RowKit PRulesClosed Go.Proofs.YtkdagdiampfjgaaW.PrintWords
theorem walkClosed2 (x : De) (_ : x.ok) (h : x.bulk ≤ 1048576) (A : Option Addr) (c : Nat) (es : List S40) (hec : es.length ≤ c) {w0 : World} (hE : Kd.C k40 w0 A es.length es) (B : Option Addr) (d : Nat) (ks : List S38) (hkc : ks.length ≤ d) (hK : Kd.C k38 w0 B ks.length ks) :
    Calls Try.prog 4 #[x.val, .slice A es.length c, .slice B ks.length d] w0 fun e w' => e = .returned (.bool true) ∧ Below w0.heap.size w0 w' :=
  walkClosed x (by unfold De.bulk at h; omega) (by unfold De.bulk at h; omega) (by unfold De.bulk at h; omega) A B c d es ks w0 hE hec hK hkc
end Go.Proofs.Ytkdagdiampfjgaa
