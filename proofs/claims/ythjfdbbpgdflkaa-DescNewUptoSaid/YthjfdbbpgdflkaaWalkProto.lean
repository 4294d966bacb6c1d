import Derived.Test.YthjfdbbpgdflkaaRv
import Derived.Test.YthjfdbbpgdflkaaKit
namespace Go.Proofs.Ythjfdbbpgdflkaa.PRulesProto
open Go.RowKit

theorem alive_f : understudylaw7_alive.f = some true := rfl

theorem proto_f (b : Bool) (a c : Va) (ha : a.s.size ≤ 1048576) (hc : c.s.size ≤ 1048576) : understudylaw7_RulesProto.f 3000005 b a.k a.n a.s c.k c.n c.s = some true := by
  unfold understudylaw7_RulesProto.f
  obtain ⟨r1, h1⟩ := rightValue_f a.k a.n a.s ha 3000005 (by omega)
  obtain ⟨r2, h2⟩ := rightValue_f c.k c.n c.s hc 3000005 (by omega)
  rw [alive_f, h1, h2]
  simp only [Option.bind_some, if_true]
  cases r1 <;> cases r2 <;> simp only [understudylaw7_RulesProto.j0, Bool.not_true, Bool.not_false, if_true, Bool.false_eq_true, if_false]
  have e1 : rules_GetProto.f b a.k a.n a.s c.k c.n c.s = understudyref1_RuleGetProto.f b a.k a.n a.s c.k c.n c.s := by
    unfold rules_GetProto.f understudyref1_RuleGetProto.f understudyref1_object.f values_Same.f
    by_cases h : c.k = 1 <;> by_cases h' : c.k = 6 <;> cases b <;> simp [h, h']
  have e2 : rules_SetProto.f b a.k a.n a.s c.k c.n c.s = understudyref1_RuleSetProto.f b a.k a.n a.s c.k c.n c.s := by
    unfold rules_SetProto.f understudyref1_RuleSetProto.f values_Same.f
    cases b <;> simp
  have g1 : ∃ r, understudyref1_RuleGetProto.f b a.k a.n a.s c.k c.n c.s = some r := by
    unfold understudyref1_RuleGetProto.f understudyref1_object.f
    by_cases h : c.k = 1 <;> by_cases h' : c.k = 6 <;> cases b <;> simp [h, h']
  have g2 : ∃ r, understudyref1_RuleSetProto.f b a.k a.n a.s c.k c.n c.s = some r := by
    unfold understudyref1_RuleSetProto.f
    cases b <;> simp
  obtain ⟨x, hx⟩ := g1
  obtain ⟨y, hy⟩ := g2
  rw [e1, e2, hx, hy]
  simp

theorem protoWalk (b : Bool) (a : Va) (_ : a.ok) (ha : a.s.size ≤ 1048576) (c : Va) (_ : c.ok) (hc : c.s.size ≤ 1048576) (w : World) :
    Calls Try.prog 3 #[.bool b, a.val, c.val] w fun e w' => e = .returned (.bool true) ∧ Below w.heap.size w w' :=
  understudylaw7_RulesProto.calls _ b a.k a.n a.s c.k c.n c.s true w (proto_f b a c ha hc)
end Go.Proofs.Ythjfdbbpgdflkaa.PRulesProto
