import Derived.Test.YthjfdbbpgdflkaaDe
namespace Go.Proofs.Ythjfdbbpgdflkaa
open Go.RowKit
set_option linter.unusedVariables false
set_option linter.unusedSimpArgs false
attribute [local go_sem] run_eql_va run_neq_va

def De.acc (d : De) : Bool := d.hg || d.hs
def De.dat (d : De) : Bool := d.hv || d.hw
def Va.fn (v : Va) : Bool := v.k == 0 || v.k == 6
theorem ret_bool {a b : Bool} (h : a = b) : Ending.returned (.bool a) = .returned (.bool b) := by rw [h]

theorem accessor (d : De) (w : World) : Calls Try.prog 40 #[d.val] w fun e w' => e = .returned (.bool d.acc) ∧ Below w.heap.size w w' := by
  have hB : ∀ o, Below w.heap.size w (w.alloc o) := fun o => (Below.refl _ _).alloc (Nat.le_refl _) _
  go_enter Try.func40, Try.ntmps40
  go_wp2
  all_goals go_ret
  all_goals (refine ⟨ret_bool ?_, hB _⟩; simp [*, De.acc])
theorem data (d : De) (w : World) : Calls Try.prog 42 #[d.val] w fun e w' => e = .returned (.bool d.dat) ∧ Below w.heap.size w w' := by
  have hB : ∀ o, Below w.heap.size w (w.alloc o) := fun o => (Below.refl _ _).alloc (Nat.le_refl _) _
  go_enter Try.func42, Try.ntmps42
  go_wp2
  all_goals go_ret
  all_goals (refine ⟨ret_bool ?_, hB _⟩; simp [*, De.dat])
theorem fun_ (v : Va) (w : World) : Calls Try.prog 54 #[v.val] w fun e w' => e = .returned (.bool v.fn) ∧ Below w.heap.size w w' := by
  have hB : ∀ o, Below w.heap.size w (w.alloc o) := fun o => (Below.refl _ _).alloc (Nat.le_refl _) _
  go_enter Try.func54, Try.ntmps54
  by_cases h : v.k = 0
  · go_wp2
    all_goals go_ret
    all_goals (refine ⟨ret_bool ?_, hB _⟩; simp [*, Va.fn])
  · go_wp2
    all_goals go_ret
    all_goals (refine ⟨ret_bool ?_, hB _⟩; simp [*, Va.fn])

def De.right (d : De) : Bool := !(d.acc && d.dat) && d.g.fn && d.s.fn && (d.hv || veq d.v Va.zero) && (d.hg || veq d.g Va.zero) && (d.hs || veq d.s Va.zero) && (d.hw || !d.w) && (d.he || !d.e) && (d.hc || !d.c)
end Go.Proofs.Ythjfdbbpgdflkaa
