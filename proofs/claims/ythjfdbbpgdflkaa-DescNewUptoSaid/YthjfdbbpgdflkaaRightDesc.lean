import Derived.Test.YthjfdbbpgdflkaaDesc0
namespace Go.Proofs.Ythjfdbbpgdflkaa
open Go.RowKit
set_option linter.unusedVariables false
set_option linter.unusedSimpArgs false

theorem rdata (d : De) (w : World) : Calls Try.prog 23 #[d.val] w fun e w' => e = .returned (.bool d.dat) ∧ Below w.heap.size w w' := by
  have hB : ∀ o, Below w.heap.size w (w.alloc o) := fun o => (Below.refl _ _).alloc (Nat.le_refl _) _
  go_enter Try.func23, Try.ntmps23
  go_wp2
  all_goals go_ret
  all_goals (refine ⟨ret_bool ?_, hB _⟩; simp [*, De.dat])
theorem raccessor (d : De) (w : World) : Calls Try.prog 41 #[d.val] w fun e w' => e = .returned (.bool d.acc) ∧ Below w.heap.size w w' := by
  have hB : ∀ o, Below w.heap.size w (w.alloc o) := fun o => (Below.refl _ _).alloc (Nat.le_refl _) _
  go_enter Try.func41, Try.ntmps41
  go_wp2
  all_goals go_ret
  all_goals (refine ⟨ret_bool ?_, hB _⟩; simp [*, De.acc])
theorem rside (v : Va) (w : World) : Calls Try.prog 53 #[v.val] w fun e w' => e = .returned (.bool v.fn) ∧ Below w.heap.size w w' := by
  have hB : ∀ o, Below w.heap.size w (w.alloc o) := fun o => (Below.refl _ _).alloc (Nat.le_refl _) _
  go_enter Try.func53, Try.ntmps53
  by_cases h : v.k = 0
  · go_wp2
    all_goals go_ret
    all_goals (refine ⟨ret_bool ?_, hB _⟩; simp [*, Va.fn])
  · go_wp2
    all_goals go_ret
    all_goals (refine ⟨ret_bool ?_, hB _⟩; simp [*, Va.fn])

attribute [local irreducible] wpList Calls wpQuiet
def De.rright (d : De) : Bool := !(d.acc && d.dat || d.hg && !d.g.fn || d.hs && !d.s.fn) && (d.hv || veq d.v Va.zero) && (d.hg || veq d.g Va.zero) && (d.hs || veq d.s Va.zero) && (d.hw || !d.w) && (d.he || !d.e) && (d.hc || !d.c)
theorem fn_zero : Va.zero.fn = true := rfl
theorem rright_eq (d : De) : d.rright = d.right := by
  unfold De.rright De.right
  have hg : veq d.g Va.zero = true → d.g.fn = true := fun h => by rw [veq_iff.1 h]; rfl
  have hs : veq d.s Va.zero = true → d.s.fn = true := fun h => by rw [veq_iff.1 h]; rfl
  generalize veq d.g Va.zero = x at *
  generalize veq d.s Va.zero = y at *
  generalize d.g.fn = p at *
  generalize d.s.fn = q at *
  cases d.hg <;> cases d.hs <;> cases x <;> cases y <;> cases p <;> cases q <;> simp_all

set_option maxHeartbeats 8000000 in
theorem rright_1 (hv hw he hc : Bool) (v g s : Va) (dw e c : Bool) (w : World) : Calls Try.prog 32 #[(⟨hv, false, false, hw, he, hc, v, g, s, dw, e, c⟩ : De).val] w fun r w' => r = .returned (.bool (⟨hv, false, false, hw, he, hc, v, g, s, dw, e, c⟩ : De).rright) ∧ Below w.heap.size w w' := by
  have M := Own.refl nobody w
  have ha : (⟨hv, false, false, hw, he, hc, ⟨v.k, v.n, v.s⟩, ⟨g.k, g.n, g.s⟩, ⟨s.k, s.n, s.s⟩, dw, e, c⟩ : De).acc = false := rfl
  go_enter Try.func32, Try.ntmps32
  go_wp2_with (first
    | ((with_reducible refine at_guard (_, _) rfl ?_); (refine own_guard rfl rfl rfl ?_ ?_ <;> (intro hc; (try simp only [Bool.not_true, Bool.not_false, Bool.not_eq_true', Bool.not_eq_false', reduceCtorEq] at hc); (try simp only [hc, Bool.not_true, Bool.not_false]))); try simp only [Act.put, List.setIfInBounds_toArray, List.set_cons_zero, List.set_cons_succ])
    | ((with_reducible refine at_box _ _ rfl ?_); refine own_box M _ _ rfl rfl rfl ?_; clear M; intro g w M)
    | ((with_reducible refine at_bin .eql 23 _ _ _ rfl ?_); refine own_val rfl (fun w => run_bin_agg rfl guardVa rfl rfl w (run_eql_va w _ _ _ _ _ _)) ?_)
    | ((with_reducible refine at_load 28 _ rfl ?_); (first | refine own_loadN M 28 _ rfl rfl _ _ rfl 0 rfl Try.underlying28 rfl 18 infoDe (Nat.le_of_ble_eq_true rfl) ?_ | refine own_loadN M 28 _ rfl rfl _ _ rfl 1 rfl Try.underlying28 rfl 18 infoDe (Nat.le_of_ble_eq_true rfl) ?_ | refine own_loadN M 28 _ rfl rfl _ _ rfl 2 rfl Try.underlying28 rfl 18 infoDe (Nat.le_of_ble_eq_true rfl) ?_ | refine own_loadN M 28 _ rfl rfl _ _ rfl 3 rfl Try.underlying28 rfl 18 infoDe (Nat.le_of_ble_eq_true rfl) ?_ | refine own_loadN M 28 _ rfl rfl _ _ rfl 4 rfl Try.underlying28 rfl 18 infoDe (Nat.le_of_ble_eq_true rfl) ?_); simp only [List.drop_succ_cons, List.drop_zero, List.take_succ_cons, List.take_zero])
    | ((with_reducible refine at_load 23 _ rfl ?_); (first | refine own_loadN M 23 _ rfl rfl _ _ rfl 0 rfl Try.underlying23 rfl 3 infoVa (Nat.le_of_ble_eq_true rfl) ?_ | refine own_loadN M 23 _ rfl rfl _ _ rfl 1 rfl Try.underlying23 rfl 3 infoVa (Nat.le_of_ble_eq_true rfl) ?_ | refine own_loadN M 23 _ rfl rfl _ _ rfl 2 rfl Try.underlying23 rfl 3 infoVa (Nat.le_of_ble_eq_true rfl) ?_ | refine own_loadN M 23 _ rfl rfl _ _ rfl 3 rfl Try.underlying23 rfl 3 infoVa (Nat.le_of_ble_eq_true rfl) ?_ | refine own_loadN M 23 _ rfl rfl _ _ rfl 4 rfl Try.underlying23 rfl 3 infoVa (Nat.le_of_ble_eq_true rfl) ?_); simp only [List.drop_succ_cons, List.drop_zero, List.take_succ_cons, List.take_zero])
    | ((with_reducible refine at_load 4 _ rfl ?_); (first | refine own_load1 M 4 _ rfl rfl _ _ rfl 0 rfl Try.underlying4 rfl rfl ?_ | refine own_load1 M 4 _ rfl rfl _ _ rfl 1 rfl Try.underlying4 rfl rfl ?_ | refine own_load1 M 4 _ rfl rfl _ _ rfl 2 rfl Try.underlying4 rfl rfl ?_ | refine own_load1 M 4 _ rfl rfl _ _ rfl 3 rfl Try.underlying4 rfl rfl ?_ | refine own_load1 M 4 _ rfl rfl _ _ rfl 4 rfl Try.underlying4 rfl rfl ?_))
    | ((with_reducible refine at_alloc 23 rfl ?_); refine own_alloc M 23 rfl rfl zeroVa rfl ?_; clear M; intro g w M)
    | ((with_reducible refine at_callee 41 _ _ rfl ?_); refine own_callee M 41 Try.func41 (by kernel_rfl) rfl rfl rfl (raccessor ⟨_, _, _, _, _, _, ⟨_, _, _⟩, ⟨_, _, _⟩, ⟨_, _, _⟩, _, _, _⟩) (by simp only [List.map_toArray, List.map_cons, List.map_nil]; rfl) ?_; clear M; intro w M)
    | ((with_reducible refine at_callee 23 _ _ rfl ?_); refine own_callee M 23 Try.func23 (by kernel_rfl) rfl rfl rfl (rdata ⟨_, _, _, _, _, _, ⟨_, _, _⟩, ⟨_, _, _⟩, ⟨_, _, _⟩, _, _, _⟩) (by simp only [List.map_toArray, List.map_cons, List.map_nil]; rfl) ?_; clear M; intro w M)
    | ((with_reducible refine at_callee 53 _ _ rfl ?_); refine own_callee M 53 Try.func53 (by kernel_rfl) rfl rfl rfl (rside ⟨_, _, _⟩) (by simp only [List.map_toArray, List.map_cons, List.map_nil]; rfl) ?_; clear M; intro w M))
  all_goals go_ret
  all_goals (refine ⟨ret_bool ?_, M.below⟩; clear M ha; go_tidy; simp_all [De.rright, De.acc, Va.zero])
set_option maxHeartbeats 8000000 in
theorem rright_2 (hv hw he hc : Bool) (v g s : Va) (dw e c : Bool) (w : World) : Calls Try.prog 32 #[(⟨hv, true, false, hw, he, hc, v, g, s, dw, e, c⟩ : De).val] w fun r w' => r = .returned (.bool (⟨hv, true, false, hw, he, hc, v, g, s, dw, e, c⟩ : De).rright) ∧ Below w.heap.size w w' := by
  have ha : (⟨hv, true, false, hw, he, hc, ⟨v.k, v.n, v.s⟩, ⟨g.k, g.n, g.s⟩, ⟨s.k, s.n, s.s⟩, dw, e, c⟩ : De).acc = true := rfl
  cases hv <;> cases hw
  · have hd : (⟨false, true, false, false, he, hc, ⟨v.k, v.n, v.s⟩, ⟨g.k, g.n, g.s⟩, ⟨s.k, s.n, s.s⟩, dw, e, c⟩ : De).dat = false := rfl
    have M := Own.refl nobody w
    go_enter Try.func32, Try.ntmps32
    go_wp2_with (first
    | ((with_reducible refine at_guard (_, _) rfl ?_); (refine own_guard rfl rfl rfl ?_ ?_ <;> (intro hc; (try simp only [Bool.not_true, Bool.not_false, Bool.not_eq_true', Bool.not_eq_false', reduceCtorEq] at hc); (try simp only [hc, Bool.not_true, Bool.not_false]))); try simp only [Act.put, List.setIfInBounds_toArray, List.set_cons_zero, List.set_cons_succ])
    | ((with_reducible refine at_box _ _ rfl ?_); refine own_box M _ _ rfl rfl rfl ?_; clear M; intro g w M)
    | ((with_reducible refine at_bin .eql 23 _ _ _ rfl ?_); refine own_val rfl (fun w => run_bin_agg rfl guardVa rfl rfl w (run_eql_va w _ _ _ _ _ _)) ?_)
    | ((with_reducible refine at_load 28 _ rfl ?_); (first | refine own_loadN M 28 _ rfl rfl _ _ rfl 0 rfl Try.underlying28 rfl 18 infoDe (Nat.le_of_ble_eq_true rfl) ?_ | refine own_loadN M 28 _ rfl rfl _ _ rfl 1 rfl Try.underlying28 rfl 18 infoDe (Nat.le_of_ble_eq_true rfl) ?_ | refine own_loadN M 28 _ rfl rfl _ _ rfl 2 rfl Try.underlying28 rfl 18 infoDe (Nat.le_of_ble_eq_true rfl) ?_ | refine own_loadN M 28 _ rfl rfl _ _ rfl 3 rfl Try.underlying28 rfl 18 infoDe (Nat.le_of_ble_eq_true rfl) ?_ | refine own_loadN M 28 _ rfl rfl _ _ rfl 4 rfl Try.underlying28 rfl 18 infoDe (Nat.le_of_ble_eq_true rfl) ?_); simp only [List.drop_succ_cons, List.drop_zero, List.take_succ_cons, List.take_zero])
    | ((with_reducible refine at_load 23 _ rfl ?_); (first | refine own_loadN M 23 _ rfl rfl _ _ rfl 0 rfl Try.underlying23 rfl 3 infoVa (Nat.le_of_ble_eq_true rfl) ?_ | refine own_loadN M 23 _ rfl rfl _ _ rfl 1 rfl Try.underlying23 rfl 3 infoVa (Nat.le_of_ble_eq_true rfl) ?_ | refine own_loadN M 23 _ rfl rfl _ _ rfl 2 rfl Try.underlying23 rfl 3 infoVa (Nat.le_of_ble_eq_true rfl) ?_ | refine own_loadN M 23 _ rfl rfl _ _ rfl 3 rfl Try.underlying23 rfl 3 infoVa (Nat.le_of_ble_eq_true rfl) ?_ | refine own_loadN M 23 _ rfl rfl _ _ rfl 4 rfl Try.underlying23 rfl 3 infoVa (Nat.le_of_ble_eq_true rfl) ?_); simp only [List.drop_succ_cons, List.drop_zero, List.take_succ_cons, List.take_zero])
    | ((with_reducible refine at_load 4 _ rfl ?_); (first | refine own_load1 M 4 _ rfl rfl _ _ rfl 0 rfl Try.underlying4 rfl rfl ?_ | refine own_load1 M 4 _ rfl rfl _ _ rfl 1 rfl Try.underlying4 rfl rfl ?_ | refine own_load1 M 4 _ rfl rfl _ _ rfl 2 rfl Try.underlying4 rfl rfl ?_ | refine own_load1 M 4 _ rfl rfl _ _ rfl 3 rfl Try.underlying4 rfl rfl ?_ | refine own_load1 M 4 _ rfl rfl _ _ rfl 4 rfl Try.underlying4 rfl rfl ?_))
    | ((with_reducible refine at_alloc 23 rfl ?_); refine own_alloc M 23 rfl rfl zeroVa rfl ?_; clear M; intro g w M)
    | ((with_reducible refine at_callee 41 _ _ rfl ?_); refine own_callee M 41 Try.func41 (by kernel_rfl) rfl rfl rfl (raccessor ⟨_, _, _, _, _, _, ⟨_, _, _⟩, ⟨_, _, _⟩, ⟨_, _, _⟩, _, _, _⟩) (by simp only [List.map_toArray, List.map_cons, List.map_nil]; rfl) ?_; clear M; intro w M)
    | ((with_reducible refine at_callee 23 _ _ rfl ?_); refine own_callee M 23 Try.func23 (by kernel_rfl) rfl rfl rfl (rdata ⟨_, _, _, _, _, _, ⟨_, _, _⟩, ⟨_, _, _⟩, ⟨_, _, _⟩, _, _, _⟩) (by simp only [List.map_toArray, List.map_cons, List.map_nil]; rfl) ?_; clear M; intro w M)
    | ((with_reducible refine at_callee 53 _ _ rfl ?_); refine own_callee M 53 Try.func53 (by kernel_rfl) rfl rfl rfl (rside ⟨_, _, _⟩) (by simp only [List.map_toArray, List.map_cons, List.map_nil]; rfl) ?_; clear M; intro w M))
    all_goals go_ret
    all_goals (refine ⟨ret_bool ?_, M.below⟩; clear M ha hd; go_tidy; simp_all [De.rright, De.acc, De.dat, Va.zero])
  · have hd : (⟨false, true, false, true, he, hc, ⟨v.k, v.n, v.s⟩, ⟨g.k, g.n, g.s⟩, ⟨s.k, s.n, s.s⟩, dw, e, c⟩ : De).dat = true := rfl
    have M := Own.refl nobody w
    go_enter Try.func32, Try.ntmps32
    go_wp2_with (first
    | ((with_reducible refine at_guard (_, _) rfl ?_); (refine own_guard rfl rfl rfl ?_ ?_ <;> (intro hc; (try simp only [Bool.not_true, Bool.not_false, Bool.not_eq_true', Bool.not_eq_false', reduceCtorEq] at hc); (try simp only [hc, Bool.not_true, Bool.not_false]))); try simp only [Act.put, List.setIfInBounds_toArray, List.set_cons_zero, List.set_cons_succ])
    | ((with_reducible refine at_box _ _ rfl ?_); refine own_box M _ _ rfl rfl rfl ?_; clear M; intro g w M)
    | ((with_reducible refine at_bin .eql 23 _ _ _ rfl ?_); refine own_val rfl (fun w => run_bin_agg rfl guardVa rfl rfl w (run_eql_va w _ _ _ _ _ _)) ?_)
    | ((with_reducible refine at_load 28 _ rfl ?_); (first | refine own_loadN M 28 _ rfl rfl _ _ rfl 0 rfl Try.underlying28 rfl 18 infoDe (Nat.le_of_ble_eq_true rfl) ?_ | refine own_loadN M 28 _ rfl rfl _ _ rfl 1 rfl Try.underlying28 rfl 18 infoDe (Nat.le_of_ble_eq_true rfl) ?_ | refine own_loadN M 28 _ rfl rfl _ _ rfl 2 rfl Try.underlying28 rfl 18 infoDe (Nat.le_of_ble_eq_true rfl) ?_ | refine own_loadN M 28 _ rfl rfl _ _ rfl 3 rfl Try.underlying28 rfl 18 infoDe (Nat.le_of_ble_eq_true rfl) ?_ | refine own_loadN M 28 _ rfl rfl _ _ rfl 4 rfl Try.underlying28 rfl 18 infoDe (Nat.le_of_ble_eq_true rfl) ?_); simp only [List.drop_succ_cons, List.drop_zero, List.take_succ_cons, List.take_zero])
    | ((with_reducible refine at_load 23 _ rfl ?_); (first | refine own_loadN M 23 _ rfl rfl _ _ rfl 0 rfl Try.underlying23 rfl 3 infoVa (Nat.le_of_ble_eq_true rfl) ?_ | refine own_loadN M 23 _ rfl rfl _ _ rfl 1 rfl Try.underlying23 rfl 3 infoVa (Nat.le_of_ble_eq_true rfl) ?_ | refine own_loadN M 23 _ rfl rfl _ _ rfl 2 rfl Try.underlying23 rfl 3 infoVa (Nat.le_of_ble_eq_true rfl) ?_ | refine own_loadN M 23 _ rfl rfl _ _ rfl 3 rfl Try.underlying23 rfl 3 infoVa (Nat.le_of_ble_eq_true rfl) ?_ | refine own_loadN M 23 _ rfl rfl _ _ rfl 4 rfl Try.underlying23 rfl 3 infoVa (Nat.le_of_ble_eq_true rfl) ?_); simp only [List.drop_succ_cons, List.drop_zero, List.take_succ_cons, List.take_zero])
    | ((with_reducible refine at_load 4 _ rfl ?_); (first | refine own_load1 M 4 _ rfl rfl _ _ rfl 0 rfl Try.underlying4 rfl rfl ?_ | refine own_load1 M 4 _ rfl rfl _ _ rfl 1 rfl Try.underlying4 rfl rfl ?_ | refine own_load1 M 4 _ rfl rfl _ _ rfl 2 rfl Try.underlying4 rfl rfl ?_ | refine own_load1 M 4 _ rfl rfl _ _ rfl 3 rfl Try.underlying4 rfl rfl ?_ | refine own_load1 M 4 _ rfl rfl _ _ rfl 4 rfl Try.underlying4 rfl rfl ?_))
    | ((with_reducible refine at_alloc 23 rfl ?_); refine own_alloc M 23 rfl rfl zeroVa rfl ?_; clear M; intro g w M)
    | ((with_reducible refine at_callee 41 _ _ rfl ?_); refine own_callee M 41 Try.func41 (by kernel_rfl) rfl rfl rfl (raccessor ⟨_, _, _, _, _, _, ⟨_, _, _⟩, ⟨_, _, _⟩, ⟨_, _, _⟩, _, _, _⟩) (by simp only [List.map_toArray, List.map_cons, List.map_nil]; rfl) ?_; clear M; intro w M)
    | ((with_reducible refine at_callee 23 _ _ rfl ?_); refine own_callee M 23 Try.func23 (by kernel_rfl) rfl rfl rfl (rdata ⟨_, _, _, _, _, _, ⟨_, _, _⟩, ⟨_, _, _⟩, ⟨_, _, _⟩, _, _, _⟩) (by simp only [List.map_toArray, List.map_cons, List.map_nil]; rfl) ?_; clear M; intro w M)
    | ((with_reducible refine at_callee 53 _ _ rfl ?_); refine own_callee M 53 Try.func53 (by kernel_rfl) rfl rfl rfl (rside ⟨_, _, _⟩) (by simp only [List.map_toArray, List.map_cons, List.map_nil]; rfl) ?_; clear M; intro w M))
    all_goals go_ret
    all_goals (refine ⟨ret_bool ?_, M.below⟩; clear M ha hd; go_tidy; simp_all [De.rright, De.acc, De.dat, Va.zero])
  · have hd : (⟨true, true, false, false, he, hc, ⟨v.k, v.n, v.s⟩, ⟨g.k, g.n, g.s⟩, ⟨s.k, s.n, s.s⟩, dw, e, c⟩ : De).dat = true := rfl
    have M := Own.refl nobody w
    go_enter Try.func32, Try.ntmps32
    go_wp2_with (first
    | ((with_reducible refine at_guard (_, _) rfl ?_); (refine own_guard rfl rfl rfl ?_ ?_ <;> (intro hc; (try simp only [Bool.not_true, Bool.not_false, Bool.not_eq_true', Bool.not_eq_false', reduceCtorEq] at hc); (try simp only [hc, Bool.not_true, Bool.not_false]))); try simp only [Act.put, List.setIfInBounds_toArray, List.set_cons_zero, List.set_cons_succ])
    | ((with_reducible refine at_box _ _ rfl ?_); refine own_box M _ _ rfl rfl rfl ?_; clear M; intro g w M)
    | ((with_reducible refine at_bin .eql 23 _ _ _ rfl ?_); refine own_val rfl (fun w => run_bin_agg rfl guardVa rfl rfl w (run_eql_va w _ _ _ _ _ _)) ?_)
    | ((with_reducible refine at_load 28 _ rfl ?_); (first | refine own_loadN M 28 _ rfl rfl _ _ rfl 0 rfl Try.underlying28 rfl 18 infoDe (Nat.le_of_ble_eq_true rfl) ?_ | refine own_loadN M 28 _ rfl rfl _ _ rfl 1 rfl Try.underlying28 rfl 18 infoDe (Nat.le_of_ble_eq_true rfl) ?_ | refine own_loadN M 28 _ rfl rfl _ _ rfl 2 rfl Try.underlying28 rfl 18 infoDe (Nat.le_of_ble_eq_true rfl) ?_ | refine own_loadN M 28 _ rfl rfl _ _ rfl 3 rfl Try.underlying28 rfl 18 infoDe (Nat.le_of_ble_eq_true rfl) ?_ | refine own_loadN M 28 _ rfl rfl _ _ rfl 4 rfl Try.underlying28 rfl 18 infoDe (Nat.le_of_ble_eq_true rfl) ?_); simp only [List.drop_succ_cons, List.drop_zero, List.take_succ_cons, List.take_zero])
    | ((with_reducible refine at_load 23 _ rfl ?_); (first | refine own_loadN M 23 _ rfl rfl _ _ rfl 0 rfl Try.underlying23 rfl 3 infoVa (Nat.le_of_ble_eq_true rfl) ?_ | refine own_loadN M 23 _ rfl rfl _ _ rfl 1 rfl Try.underlying23 rfl 3 infoVa (Nat.le_of_ble_eq_true rfl) ?_ | refine own_loadN M 23 _ rfl rfl _ _ rfl 2 rfl Try.underlying23 rfl 3 infoVa (Nat.le_of_ble_eq_true rfl) ?_ | refine own_loadN M 23 _ rfl rfl _ _ rfl 3 rfl Try.underlying23 rfl 3 infoVa (Nat.le_of_ble_eq_true rfl) ?_ | refine own_loadN M 23 _ rfl rfl _ _ rfl 4 rfl Try.underlying23 rfl 3 infoVa (Nat.le_of_ble_eq_true rfl) ?_); simp only [List.drop_succ_cons, List.drop_zero, List.take_succ_cons, List.take_zero])
    | ((with_reducible refine at_load 4 _ rfl ?_); (first | refine own_load1 M 4 _ rfl rfl _ _ rfl 0 rfl Try.underlying4 rfl rfl ?_ | refine own_load1 M 4 _ rfl rfl _ _ rfl 1 rfl Try.underlying4 rfl rfl ?_ | refine own_load1 M 4 _ rfl rfl _ _ rfl 2 rfl Try.underlying4 rfl rfl ?_ | refine own_load1 M 4 _ rfl rfl _ _ rfl 3 rfl Try.underlying4 rfl rfl ?_ | refine own_load1 M 4 _ rfl rfl _ _ rfl 4 rfl Try.underlying4 rfl rfl ?_))
    | ((with_reducible refine at_alloc 23 rfl ?_); refine own_alloc M 23 rfl rfl zeroVa rfl ?_; clear M; intro g w M)
    | ((with_reducible refine at_callee 41 _ _ rfl ?_); refine own_callee M 41 Try.func41 (by kernel_rfl) rfl rfl rfl (raccessor ⟨_, _, _, _, _, _, ⟨_, _, _⟩, ⟨_, _, _⟩, ⟨_, _, _⟩, _, _, _⟩) (by simp only [List.map_toArray, List.map_cons, List.map_nil]; rfl) ?_; clear M; intro w M)
    | ((with_reducible refine at_callee 23 _ _ rfl ?_); refine own_callee M 23 Try.func23 (by kernel_rfl) rfl rfl rfl (rdata ⟨_, _, _, _, _, _, ⟨_, _, _⟩, ⟨_, _, _⟩, ⟨_, _, _⟩, _, _, _⟩) (by simp only [List.map_toArray, List.map_cons, List.map_nil]; rfl) ?_; clear M; intro w M)
    | ((with_reducible refine at_callee 53 _ _ rfl ?_); refine own_callee M 53 Try.func53 (by kernel_rfl) rfl rfl rfl (rside ⟨_, _, _⟩) (by simp only [List.map_toArray, List.map_cons, List.map_nil]; rfl) ?_; clear M; intro w M))
    all_goals go_ret
    all_goals (refine ⟨ret_bool ?_, M.below⟩; clear M ha hd; go_tidy; simp_all [De.rright, De.acc, De.dat, Va.zero])
  · have hd : (⟨true, true, false, true, he, hc, ⟨v.k, v.n, v.s⟩, ⟨g.k, g.n, g.s⟩, ⟨s.k, s.n, s.s⟩, dw, e, c⟩ : De).dat = true := rfl
    have M := Own.refl nobody w
    go_enter Try.func32, Try.ntmps32
    go_wp2_with (first
    | ((with_reducible refine at_guard (_, _) rfl ?_); (refine own_guard rfl rfl rfl ?_ ?_ <;> (intro hc; (try simp only [Bool.not_true, Bool.not_false, Bool.not_eq_true', Bool.not_eq_false', reduceCtorEq] at hc); (try simp only [hc, Bool.not_true, Bool.not_false]))); try simp only [Act.put, List.setIfInBounds_toArray, List.set_cons_zero, List.set_cons_succ])
    | ((with_reducible refine at_box _ _ rfl ?_); refine own_box M _ _ rfl rfl rfl ?_; clear M; intro g w M)
    | ((with_reducible refine at_bin .eql 23 _ _ _ rfl ?_); refine own_val rfl (fun w => run_bin_agg rfl guardVa rfl rfl w (run_eql_va w _ _ _ _ _ _)) ?_)
    | ((with_reducible refine at_load 28 _ rfl ?_); (first | refine own_loadN M 28 _ rfl rfl _ _ rfl 0 rfl Try.underlying28 rfl 18 infoDe (Nat.le_of_ble_eq_true rfl) ?_ | refine own_loadN M 28 _ rfl rfl _ _ rfl 1 rfl Try.underlying28 rfl 18 infoDe (Nat.le_of_ble_eq_true rfl) ?_ | refine own_loadN M 28 _ rfl rfl _ _ rfl 2 rfl Try.underlying28 rfl 18 infoDe (Nat.le_of_ble_eq_true rfl) ?_ | refine own_loadN M 28 _ rfl rfl _ _ rfl 3 rfl Try.underlying28 rfl 18 infoDe (Nat.le_of_ble_eq_true rfl) ?_ | refine own_loadN M 28 _ rfl rfl _ _ rfl 4 rfl Try.underlying28 rfl 18 infoDe (Nat.le_of_ble_eq_true rfl) ?_); simp only [List.drop_succ_cons, List.drop_zero, List.take_succ_cons, List.take_zero])
    | ((with_reducible refine at_load 23 _ rfl ?_); (first | refine own_loadN M 23 _ rfl rfl _ _ rfl 0 rfl Try.underlying23 rfl 3 infoVa (Nat.le_of_ble_eq_true rfl) ?_ | refine own_loadN M 23 _ rfl rfl _ _ rfl 1 rfl Try.underlying23 rfl 3 infoVa (Nat.le_of_ble_eq_true rfl) ?_ | refine own_loadN M 23 _ rfl rfl _ _ rfl 2 rfl Try.underlying23 rfl 3 infoVa (Nat.le_of_ble_eq_true rfl) ?_ | refine own_loadN M 23 _ rfl rfl _ _ rfl 3 rfl Try.underlying23 rfl 3 infoVa (Nat.le_of_ble_eq_true rfl) ?_ | refine own_loadN M 23 _ rfl rfl _ _ rfl 4 rfl Try.underlying23 rfl 3 infoVa (Nat.le_of_ble_eq_true rfl) ?_); simp only [List.drop_succ_cons, List.drop_zero, List.take_succ_cons, List.take_zero])
    | ((with_reducible refine at_load 4 _ rfl ?_); (first | refine own_load1 M 4 _ rfl rfl _ _ rfl 0 rfl Try.underlying4 rfl rfl ?_ | refine own_load1 M 4 _ rfl rfl _ _ rfl 1 rfl Try.underlying4 rfl rfl ?_ | refine own_load1 M 4 _ rfl rfl _ _ rfl 2 rfl Try.underlying4 rfl rfl ?_ | refine own_load1 M 4 _ rfl rfl _ _ rfl 3 rfl Try.underlying4 rfl rfl ?_ | refine own_load1 M 4 _ rfl rfl _ _ rfl 4 rfl Try.underlying4 rfl rfl ?_))
    | ((with_reducible refine at_alloc 23 rfl ?_); refine own_alloc M 23 rfl rfl zeroVa rfl ?_; clear M; intro g w M)
    | ((with_reducible refine at_callee 41 _ _ rfl ?_); refine own_callee M 41 Try.func41 (by kernel_rfl) rfl rfl rfl (raccessor ⟨_, _, _, _, _, _, ⟨_, _, _⟩, ⟨_, _, _⟩, ⟨_, _, _⟩, _, _, _⟩) (by simp only [List.map_toArray, List.map_cons, List.map_nil]; rfl) ?_; clear M; intro w M)
    | ((with_reducible refine at_callee 23 _ _ rfl ?_); refine own_callee M 23 Try.func23 (by kernel_rfl) rfl rfl rfl (rdata ⟨_, _, _, _, _, _, ⟨_, _, _⟩, ⟨_, _, _⟩, ⟨_, _, _⟩, _, _, _⟩) (by simp only [List.map_toArray, List.map_cons, List.map_nil]; rfl) ?_; clear M; intro w M)
    | ((with_reducible refine at_callee 53 _ _ rfl ?_); refine own_callee M 53 Try.func53 (by kernel_rfl) rfl rfl rfl (rside ⟨_, _, _⟩) (by simp only [List.map_toArray, List.map_cons, List.map_nil]; rfl) ?_; clear M; intro w M))
    all_goals go_ret
    all_goals (refine ⟨ret_bool ?_, M.below⟩; clear M ha hd; go_tidy; simp_all [De.rright, De.acc, De.dat, Va.zero])
set_option maxHeartbeats 8000000 in
theorem rright_3 (hv hw he hc : Bool) (v g s : Va) (dw e c : Bool) (w : World) : Calls Try.prog 32 #[(⟨hv, false, true, hw, he, hc, v, g, s, dw, e, c⟩ : De).val] w fun r w' => r = .returned (.bool (⟨hv, false, true, hw, he, hc, v, g, s, dw, e, c⟩ : De).rright) ∧ Below w.heap.size w w' := by
  have ha : (⟨hv, false, true, hw, he, hc, ⟨v.k, v.n, v.s⟩, ⟨g.k, g.n, g.s⟩, ⟨s.k, s.n, s.s⟩, dw, e, c⟩ : De).acc = true := rfl
  cases hv <;> cases hw
  · have hd : (⟨false, false, true, false, he, hc, ⟨v.k, v.n, v.s⟩, ⟨g.k, g.n, g.s⟩, ⟨s.k, s.n, s.s⟩, dw, e, c⟩ : De).dat = false := rfl
    have M := Own.refl nobody w
    go_enter Try.func32, Try.ntmps32
    go_wp2_with (first
    | ((with_reducible refine at_guard (_, _) rfl ?_); (refine own_guard rfl rfl rfl ?_ ?_ <;> (intro hc; (try simp only [Bool.not_true, Bool.not_false, Bool.not_eq_true', Bool.not_eq_false', reduceCtorEq] at hc); (try simp only [hc, Bool.not_true, Bool.not_false]))); try simp only [Act.put, List.setIfInBounds_toArray, List.set_cons_zero, List.set_cons_succ])
    | ((with_reducible refine at_box _ _ rfl ?_); refine own_box M _ _ rfl rfl rfl ?_; clear M; intro g w M)
    | ((with_reducible refine at_bin .eql 23 _ _ _ rfl ?_); refine own_val rfl (fun w => run_bin_agg rfl guardVa rfl rfl w (run_eql_va w _ _ _ _ _ _)) ?_)
    | ((with_reducible refine at_load 28 _ rfl ?_); (first | refine own_loadN M 28 _ rfl rfl _ _ rfl 0 rfl Try.underlying28 rfl 18 infoDe (Nat.le_of_ble_eq_true rfl) ?_ | refine own_loadN M 28 _ rfl rfl _ _ rfl 1 rfl Try.underlying28 rfl 18 infoDe (Nat.le_of_ble_eq_true rfl) ?_ | refine own_loadN M 28 _ rfl rfl _ _ rfl 2 rfl Try.underlying28 rfl 18 infoDe (Nat.le_of_ble_eq_true rfl) ?_ | refine own_loadN M 28 _ rfl rfl _ _ rfl 3 rfl Try.underlying28 rfl 18 infoDe (Nat.le_of_ble_eq_true rfl) ?_ | refine own_loadN M 28 _ rfl rfl _ _ rfl 4 rfl Try.underlying28 rfl 18 infoDe (Nat.le_of_ble_eq_true rfl) ?_); simp only [List.drop_succ_cons, List.drop_zero, List.take_succ_cons, List.take_zero])
    | ((with_reducible refine at_load 23 _ rfl ?_); (first | refine own_loadN M 23 _ rfl rfl _ _ rfl 0 rfl Try.underlying23 rfl 3 infoVa (Nat.le_of_ble_eq_true rfl) ?_ | refine own_loadN M 23 _ rfl rfl _ _ rfl 1 rfl Try.underlying23 rfl 3 infoVa (Nat.le_of_ble_eq_true rfl) ?_ | refine own_loadN M 23 _ rfl rfl _ _ rfl 2 rfl Try.underlying23 rfl 3 infoVa (Nat.le_of_ble_eq_true rfl) ?_ | refine own_loadN M 23 _ rfl rfl _ _ rfl 3 rfl Try.underlying23 rfl 3 infoVa (Nat.le_of_ble_eq_true rfl) ?_ | refine own_loadN M 23 _ rfl rfl _ _ rfl 4 rfl Try.underlying23 rfl 3 infoVa (Nat.le_of_ble_eq_true rfl) ?_); simp only [List.drop_succ_cons, List.drop_zero, List.take_succ_cons, List.take_zero])
    | ((with_reducible refine at_load 4 _ rfl ?_); (first | refine own_load1 M 4 _ rfl rfl _ _ rfl 0 rfl Try.underlying4 rfl rfl ?_ | refine own_load1 M 4 _ rfl rfl _ _ rfl 1 rfl Try.underlying4 rfl rfl ?_ | refine own_load1 M 4 _ rfl rfl _ _ rfl 2 rfl Try.underlying4 rfl rfl ?_ | refine own_load1 M 4 _ rfl rfl _ _ rfl 3 rfl Try.underlying4 rfl rfl ?_ | refine own_load1 M 4 _ rfl rfl _ _ rfl 4 rfl Try.underlying4 rfl rfl ?_))
    | ((with_reducible refine at_alloc 23 rfl ?_); refine own_alloc M 23 rfl rfl zeroVa rfl ?_; clear M; intro g w M)
    | ((with_reducible refine at_callee 41 _ _ rfl ?_); refine own_callee M 41 Try.func41 (by kernel_rfl) rfl rfl rfl (raccessor ⟨_, _, _, _, _, _, ⟨_, _, _⟩, ⟨_, _, _⟩, ⟨_, _, _⟩, _, _, _⟩) (by simp only [List.map_toArray, List.map_cons, List.map_nil]; rfl) ?_; clear M; intro w M)
    | ((with_reducible refine at_callee 23 _ _ rfl ?_); refine own_callee M 23 Try.func23 (by kernel_rfl) rfl rfl rfl (rdata ⟨_, _, _, _, _, _, ⟨_, _, _⟩, ⟨_, _, _⟩, ⟨_, _, _⟩, _, _, _⟩) (by simp only [List.map_toArray, List.map_cons, List.map_nil]; rfl) ?_; clear M; intro w M)
    | ((with_reducible refine at_callee 53 _ _ rfl ?_); refine own_callee M 53 Try.func53 (by kernel_rfl) rfl rfl rfl (rside ⟨_, _, _⟩) (by simp only [List.map_toArray, List.map_cons, List.map_nil]; rfl) ?_; clear M; intro w M))
    all_goals go_ret
    all_goals (refine ⟨ret_bool ?_, M.below⟩; clear M ha hd; go_tidy; simp_all [De.rright, De.acc, De.dat, Va.zero])
  · have hd : (⟨false, false, true, true, he, hc, ⟨v.k, v.n, v.s⟩, ⟨g.k, g.n, g.s⟩, ⟨s.k, s.n, s.s⟩, dw, e, c⟩ : De).dat = true := rfl
    have M := Own.refl nobody w
    go_enter Try.func32, Try.ntmps32
    go_wp2_with (first
    | ((with_reducible refine at_guard (_, _) rfl ?_); (refine own_guard rfl rfl rfl ?_ ?_ <;> (intro hc; (try simp only [Bool.not_true, Bool.not_false, Bool.not_eq_true', Bool.not_eq_false', reduceCtorEq] at hc); (try simp only [hc, Bool.not_true, Bool.not_false]))); try simp only [Act.put, List.setIfInBounds_toArray, List.set_cons_zero, List.set_cons_succ])
    | ((with_reducible refine at_box _ _ rfl ?_); refine own_box M _ _ rfl rfl rfl ?_; clear M; intro g w M)
    | ((with_reducible refine at_bin .eql 23 _ _ _ rfl ?_); refine own_val rfl (fun w => run_bin_agg rfl guardVa rfl rfl w (run_eql_va w _ _ _ _ _ _)) ?_)
    | ((with_reducible refine at_load 28 _ rfl ?_); (first | refine own_loadN M 28 _ rfl rfl _ _ rfl 0 rfl Try.underlying28 rfl 18 infoDe (Nat.le_of_ble_eq_true rfl) ?_ | refine own_loadN M 28 _ rfl rfl _ _ rfl 1 rfl Try.underlying28 rfl 18 infoDe (Nat.le_of_ble_eq_true rfl) ?_ | refine own_loadN M 28 _ rfl rfl _ _ rfl 2 rfl Try.underlying28 rfl 18 infoDe (Nat.le_of_ble_eq_true rfl) ?_ | refine own_loadN M 28 _ rfl rfl _ _ rfl 3 rfl Try.underlying28 rfl 18 infoDe (Nat.le_of_ble_eq_true rfl) ?_ | refine own_loadN M 28 _ rfl rfl _ _ rfl 4 rfl Try.underlying28 rfl 18 infoDe (Nat.le_of_ble_eq_true rfl) ?_); simp only [List.drop_succ_cons, List.drop_zero, List.take_succ_cons, List.take_zero])
    | ((with_reducible refine at_load 23 _ rfl ?_); (first | refine own_loadN M 23 _ rfl rfl _ _ rfl 0 rfl Try.underlying23 rfl 3 infoVa (Nat.le_of_ble_eq_true rfl) ?_ | refine own_loadN M 23 _ rfl rfl _ _ rfl 1 rfl Try.underlying23 rfl 3 infoVa (Nat.le_of_ble_eq_true rfl) ?_ | refine own_loadN M 23 _ rfl rfl _ _ rfl 2 rfl Try.underlying23 rfl 3 infoVa (Nat.le_of_ble_eq_true rfl) ?_ | refine own_loadN M 23 _ rfl rfl _ _ rfl 3 rfl Try.underlying23 rfl 3 infoVa (Nat.le_of_ble_eq_true rfl) ?_ | refine own_loadN M 23 _ rfl rfl _ _ rfl 4 rfl Try.underlying23 rfl 3 infoVa (Nat.le_of_ble_eq_true rfl) ?_); simp only [List.drop_succ_cons, List.drop_zero, List.take_succ_cons, List.take_zero])
    | ((with_reducible refine at_load 4 _ rfl ?_); (first | refine own_load1 M 4 _ rfl rfl _ _ rfl 0 rfl Try.underlying4 rfl rfl ?_ | refine own_load1 M 4 _ rfl rfl _ _ rfl 1 rfl Try.underlying4 rfl rfl ?_ | refine own_load1 M 4 _ rfl rfl _ _ rfl 2 rfl Try.underlying4 rfl rfl ?_ | refine own_load1 M 4 _ rfl rfl _ _ rfl 3 rfl Try.underlying4 rfl rfl ?_ | refine own_load1 M 4 _ rfl rfl _ _ rfl 4 rfl Try.underlying4 rfl rfl ?_))
    | ((with_reducible refine at_alloc 23 rfl ?_); refine own_alloc M 23 rfl rfl zeroVa rfl ?_; clear M; intro g w M)
    | ((with_reducible refine at_callee 41 _ _ rfl ?_); refine own_callee M 41 Try.func41 (by kernel_rfl) rfl rfl rfl (raccessor ⟨_, _, _, _, _, _, ⟨_, _, _⟩, ⟨_, _, _⟩, ⟨_, _, _⟩, _, _, _⟩) (by simp only [List.map_toArray, List.map_cons, List.map_nil]; rfl) ?_; clear M; intro w M)
    | ((with_reducible refine at_callee 23 _ _ rfl ?_); refine own_callee M 23 Try.func23 (by kernel_rfl) rfl rfl rfl (rdata ⟨_, _, _, _, _, _, ⟨_, _, _⟩, ⟨_, _, _⟩, ⟨_, _, _⟩, _, _, _⟩) (by simp only [List.map_toArray, List.map_cons, List.map_nil]; rfl) ?_; clear M; intro w M)
    | ((with_reducible refine at_callee 53 _ _ rfl ?_); refine own_callee M 53 Try.func53 (by kernel_rfl) rfl rfl rfl (rside ⟨_, _, _⟩) (by simp only [List.map_toArray, List.map_cons, List.map_nil]; rfl) ?_; clear M; intro w M))
    all_goals go_ret
    all_goals (refine ⟨ret_bool ?_, M.below⟩; clear M ha hd; go_tidy; simp_all [De.rright, De.acc, De.dat, Va.zero])
  · have hd : (⟨true, false, true, false, he, hc, ⟨v.k, v.n, v.s⟩, ⟨g.k, g.n, g.s⟩, ⟨s.k, s.n, s.s⟩, dw, e, c⟩ : De).dat = true := rfl
    have M := Own.refl nobody w
    go_enter Try.func32, Try.ntmps32
    go_wp2_with (first
    | ((with_reducible refine at_guard (_, _) rfl ?_); (refine own_guard rfl rfl rfl ?_ ?_ <;> (intro hc; (try simp only [Bool.not_true, Bool.not_false, Bool.not_eq_true', Bool.not_eq_false', reduceCtorEq] at hc); (try simp only [hc, Bool.not_true, Bool.not_false]))); try simp only [Act.put, List.setIfInBounds_toArray, List.set_cons_zero, List.set_cons_succ])
    | ((with_reducible refine at_box _ _ rfl ?_); refine own_box M _ _ rfl rfl rfl ?_; clear M; intro g w M)
    | ((with_reducible refine at_bin .eql 23 _ _ _ rfl ?_); refine own_val rfl (fun w => run_bin_agg rfl guardVa rfl rfl w (run_eql_va w _ _ _ _ _ _)) ?_)
    | ((with_reducible refine at_load 28 _ rfl ?_); (first | refine own_loadN M 28 _ rfl rfl _ _ rfl 0 rfl Try.underlying28 rfl 18 infoDe (Nat.le_of_ble_eq_true rfl) ?_ | refine own_loadN M 28 _ rfl rfl _ _ rfl 1 rfl Try.underlying28 rfl 18 infoDe (Nat.le_of_ble_eq_true rfl) ?_ | refine own_loadN M 28 _ rfl rfl _ _ rfl 2 rfl Try.underlying28 rfl 18 infoDe (Nat.le_of_ble_eq_true rfl) ?_ | refine own_loadN M 28 _ rfl rfl _ _ rfl 3 rfl Try.underlying28 rfl 18 infoDe (Nat.le_of_ble_eq_true rfl) ?_ | refine own_loadN M 28 _ rfl rfl _ _ rfl 4 rfl Try.underlying28 rfl 18 infoDe (Nat.le_of_ble_eq_true rfl) ?_); simp only [List.drop_succ_cons, List.drop_zero, List.take_succ_cons, List.take_zero])
    | ((with_reducible refine at_load 23 _ rfl ?_); (first | refine own_loadN M 23 _ rfl rfl _ _ rfl 0 rfl Try.underlying23 rfl 3 infoVa (Nat.le_of_ble_eq_true rfl) ?_ | refine own_loadN M 23 _ rfl rfl _ _ rfl 1 rfl Try.underlying23 rfl 3 infoVa (Nat.le_of_ble_eq_true rfl) ?_ | refine own_loadN M 23 _ rfl rfl _ _ rfl 2 rfl Try.underlying23 rfl 3 infoVa (Nat.le_of_ble_eq_true rfl) ?_ | refine own_loadN M 23 _ rfl rfl _ _ rfl 3 rfl Try.underlying23 rfl 3 infoVa (Nat.le_of_ble_eq_true rfl) ?_ | refine own_loadN M 23 _ rfl rfl _ _ rfl 4 rfl Try.underlying23 rfl 3 infoVa (Nat.le_of_ble_eq_true rfl) ?_); simp only [List.drop_succ_cons, List.drop_zero, List.take_succ_cons, List.take_zero])
    | ((with_reducible refine at_load 4 _ rfl ?_); (first | refine own_load1 M 4 _ rfl rfl _ _ rfl 0 rfl Try.underlying4 rfl rfl ?_ | refine own_load1 M 4 _ rfl rfl _ _ rfl 1 rfl Try.underlying4 rfl rfl ?_ | refine own_load1 M 4 _ rfl rfl _ _ rfl 2 rfl Try.underlying4 rfl rfl ?_ | refine own_load1 M 4 _ rfl rfl _ _ rfl 3 rfl Try.underlying4 rfl rfl ?_ | refine own_load1 M 4 _ rfl rfl _ _ rfl 4 rfl Try.underlying4 rfl rfl ?_))
    | ((with_reducible refine at_alloc 23 rfl ?_); refine own_alloc M 23 rfl rfl zeroVa rfl ?_; clear M; intro g w M)
    | ((with_reducible refine at_callee 41 _ _ rfl ?_); refine own_callee M 41 Try.func41 (by kernel_rfl) rfl rfl rfl (raccessor ⟨_, _, _, _, _, _, ⟨_, _, _⟩, ⟨_, _, _⟩, ⟨_, _, _⟩, _, _, _⟩) (by simp only [List.map_toArray, List.map_cons, List.map_nil]; rfl) ?_; clear M; intro w M)
    | ((with_reducible refine at_callee 23 _ _ rfl ?_); refine own_callee M 23 Try.func23 (by kernel_rfl) rfl rfl rfl (rdata ⟨_, _, _, _, _, _, ⟨_, _, _⟩, ⟨_, _, _⟩, ⟨_, _, _⟩, _, _, _⟩) (by simp only [List.map_toArray, List.map_cons, List.map_nil]; rfl) ?_; clear M; intro w M)
    | ((with_reducible refine at_callee 53 _ _ rfl ?_); refine own_callee M 53 Try.func53 (by kernel_rfl) rfl rfl rfl (rside ⟨_, _, _⟩) (by simp only [List.map_toArray, List.map_cons, List.map_nil]; rfl) ?_; clear M; intro w M))
    all_goals go_ret
    all_goals (refine ⟨ret_bool ?_, M.below⟩; clear M ha hd; go_tidy; simp_all [De.rright, De.acc, De.dat, Va.zero])
  · have hd : (⟨true, false, true, true, he, hc, ⟨v.k, v.n, v.s⟩, ⟨g.k, g.n, g.s⟩, ⟨s.k, s.n, s.s⟩, dw, e, c⟩ : De).dat = true := rfl
    have M := Own.refl nobody w
    go_enter Try.func32, Try.ntmps32
    go_wp2_with (first
    | ((with_reducible refine at_guard (_, _) rfl ?_); (refine own_guard rfl rfl rfl ?_ ?_ <;> (intro hc; (try simp only [Bool.not_true, Bool.not_false, Bool.not_eq_true', Bool.not_eq_false', reduceCtorEq] at hc); (try simp only [hc, Bool.not_true, Bool.not_false]))); try simp only [Act.put, List.setIfInBounds_toArray, List.set_cons_zero, List.set_cons_succ])
    | ((with_reducible refine at_box _ _ rfl ?_); refine own_box M _ _ rfl rfl rfl ?_; clear M; intro g w M)
    | ((with_reducible refine at_bin .eql 23 _ _ _ rfl ?_); refine own_val rfl (fun w => run_bin_agg rfl guardVa rfl rfl w (run_eql_va w _ _ _ _ _ _)) ?_)
    | ((with_reducible refine at_load 28 _ rfl ?_); (first | refine own_loadN M 28 _ rfl rfl _ _ rfl 0 rfl Try.underlying28 rfl 18 infoDe (Nat.le_of_ble_eq_true rfl) ?_ | refine own_loadN M 28 _ rfl rfl _ _ rfl 1 rfl Try.underlying28 rfl 18 infoDe (Nat.le_of_ble_eq_true rfl) ?_ | refine own_loadN M 28 _ rfl rfl _ _ rfl 2 rfl Try.underlying28 rfl 18 infoDe (Nat.le_of_ble_eq_true rfl) ?_ | refine own_loadN M 28 _ rfl rfl _ _ rfl 3 rfl Try.underlying28 rfl 18 infoDe (Nat.le_of_ble_eq_true rfl) ?_ | refine own_loadN M 28 _ rfl rfl _ _ rfl 4 rfl Try.underlying28 rfl 18 infoDe (Nat.le_of_ble_eq_true rfl) ?_); simp only [List.drop_succ_cons, List.drop_zero, List.take_succ_cons, List.take_zero])
    | ((with_reducible refine at_load 23 _ rfl ?_); (first | refine own_loadN M 23 _ rfl rfl _ _ rfl 0 rfl Try.underlying23 rfl 3 infoVa (Nat.le_of_ble_eq_true rfl) ?_ | refine own_loadN M 23 _ rfl rfl _ _ rfl 1 rfl Try.underlying23 rfl 3 infoVa (Nat.le_of_ble_eq_true rfl) ?_ | refine own_loadN M 23 _ rfl rfl _ _ rfl 2 rfl Try.underlying23 rfl 3 infoVa (Nat.le_of_ble_eq_true rfl) ?_ | refine own_loadN M 23 _ rfl rfl _ _ rfl 3 rfl Try.underlying23 rfl 3 infoVa (Nat.le_of_ble_eq_true rfl) ?_ | refine own_loadN M 23 _ rfl rfl _ _ rfl 4 rfl Try.underlying23 rfl 3 infoVa (Nat.le_of_ble_eq_true rfl) ?_); simp only [List.drop_succ_cons, List.drop_zero, List.take_succ_cons, List.take_zero])
    | ((with_reducible refine at_load 4 _ rfl ?_); (first | refine own_load1 M 4 _ rfl rfl _ _ rfl 0 rfl Try.underlying4 rfl rfl ?_ | refine own_load1 M 4 _ rfl rfl _ _ rfl 1 rfl Try.underlying4 rfl rfl ?_ | refine own_load1 M 4 _ rfl rfl _ _ rfl 2 rfl Try.underlying4 rfl rfl ?_ | refine own_load1 M 4 _ rfl rfl _ _ rfl 3 rfl Try.underlying4 rfl rfl ?_ | refine own_load1 M 4 _ rfl rfl _ _ rfl 4 rfl Try.underlying4 rfl rfl ?_))
    | ((with_reducible refine at_alloc 23 rfl ?_); refine own_alloc M 23 rfl rfl zeroVa rfl ?_; clear M; intro g w M)
    | ((with_reducible refine at_callee 41 _ _ rfl ?_); refine own_callee M 41 Try.func41 (by kernel_rfl) rfl rfl rfl (raccessor ⟨_, _, _, _, _, _, ⟨_, _, _⟩, ⟨_, _, _⟩, ⟨_, _, _⟩, _, _, _⟩) (by simp only [List.map_toArray, List.map_cons, List.map_nil]; rfl) ?_; clear M; intro w M)
    | ((with_reducible refine at_callee 23 _ _ rfl ?_); refine own_callee M 23 Try.func23 (by kernel_rfl) rfl rfl rfl (rdata ⟨_, _, _, _, _, _, ⟨_, _, _⟩, ⟨_, _, _⟩, ⟨_, _, _⟩, _, _, _⟩) (by simp only [List.map_toArray, List.map_cons, List.map_nil]; rfl) ?_; clear M; intro w M)
    | ((with_reducible refine at_callee 53 _ _ rfl ?_); refine own_callee M 53 Try.func53 (by kernel_rfl) rfl rfl rfl (rside ⟨_, _, _⟩) (by simp only [List.map_toArray, List.map_cons, List.map_nil]; rfl) ?_; clear M; intro w M))
    all_goals go_ret
    all_goals (refine ⟨ret_bool ?_, M.below⟩; clear M ha hd; go_tidy; simp_all [De.rright, De.acc, De.dat, Va.zero])
set_option maxHeartbeats 8000000 in
theorem rright_4 (hv hw he hc : Bool) (v g s : Va) (dw e c : Bool) (w : World) : Calls Try.prog 32 #[(⟨hv, true, true, hw, he, hc, v, g, s, dw, e, c⟩ : De).val] w fun r w' => r = .returned (.bool (⟨hv, true, true, hw, he, hc, v, g, s, dw, e, c⟩ : De).rright) ∧ Below w.heap.size w w' := by
  have ha : (⟨hv, true, true, hw, he, hc, ⟨v.k, v.n, v.s⟩, ⟨g.k, g.n, g.s⟩, ⟨s.k, s.n, s.s⟩, dw, e, c⟩ : De).acc = true := rfl
  cases hv <;> cases hw
  · have hd : (⟨false, true, true, false, he, hc, ⟨v.k, v.n, v.s⟩, ⟨g.k, g.n, g.s⟩, ⟨s.k, s.n, s.s⟩, dw, e, c⟩ : De).dat = false := rfl
    have M := Own.refl nobody w
    go_enter Try.func32, Try.ntmps32
    go_wp2_with (first
    | ((with_reducible refine at_guard (_, _) rfl ?_); (refine own_guard rfl rfl rfl ?_ ?_ <;> (intro hc; (try simp only [Bool.not_true, Bool.not_false, Bool.not_eq_true', Bool.not_eq_false', reduceCtorEq] at hc); (try simp only [hc, Bool.not_true, Bool.not_false]))); try simp only [Act.put, List.setIfInBounds_toArray, List.set_cons_zero, List.set_cons_succ])
    | ((with_reducible refine at_box _ _ rfl ?_); refine own_box M _ _ rfl rfl rfl ?_; clear M; intro g w M)
    | ((with_reducible refine at_bin .eql 23 _ _ _ rfl ?_); refine own_val rfl (fun w => run_bin_agg rfl guardVa rfl rfl w (run_eql_va w _ _ _ _ _ _)) ?_)
    | ((with_reducible refine at_load 28 _ rfl ?_); (first | refine own_loadN M 28 _ rfl rfl _ _ rfl 0 rfl Try.underlying28 rfl 18 infoDe (Nat.le_of_ble_eq_true rfl) ?_ | refine own_loadN M 28 _ rfl rfl _ _ rfl 1 rfl Try.underlying28 rfl 18 infoDe (Nat.le_of_ble_eq_true rfl) ?_ | refine own_loadN M 28 _ rfl rfl _ _ rfl 2 rfl Try.underlying28 rfl 18 infoDe (Nat.le_of_ble_eq_true rfl) ?_ | refine own_loadN M 28 _ rfl rfl _ _ rfl 3 rfl Try.underlying28 rfl 18 infoDe (Nat.le_of_ble_eq_true rfl) ?_ | refine own_loadN M 28 _ rfl rfl _ _ rfl 4 rfl Try.underlying28 rfl 18 infoDe (Nat.le_of_ble_eq_true rfl) ?_); simp only [List.drop_succ_cons, List.drop_zero, List.take_succ_cons, List.take_zero])
    | ((with_reducible refine at_load 23 _ rfl ?_); (first | refine own_loadN M 23 _ rfl rfl _ _ rfl 0 rfl Try.underlying23 rfl 3 infoVa (Nat.le_of_ble_eq_true rfl) ?_ | refine own_loadN M 23 _ rfl rfl _ _ rfl 1 rfl Try.underlying23 rfl 3 infoVa (Nat.le_of_ble_eq_true rfl) ?_ | refine own_loadN M 23 _ rfl rfl _ _ rfl 2 rfl Try.underlying23 rfl 3 infoVa (Nat.le_of_ble_eq_true rfl) ?_ | refine own_loadN M 23 _ rfl rfl _ _ rfl 3 rfl Try.underlying23 rfl 3 infoVa (Nat.le_of_ble_eq_true rfl) ?_ | refine own_loadN M 23 _ rfl rfl _ _ rfl 4 rfl Try.underlying23 rfl 3 infoVa (Nat.le_of_ble_eq_true rfl) ?_); simp only [List.drop_succ_cons, List.drop_zero, List.take_succ_cons, List.take_zero])
    | ((with_reducible refine at_load 4 _ rfl ?_); (first | refine own_load1 M 4 _ rfl rfl _ _ rfl 0 rfl Try.underlying4 rfl rfl ?_ | refine own_load1 M 4 _ rfl rfl _ _ rfl 1 rfl Try.underlying4 rfl rfl ?_ | refine own_load1 M 4 _ rfl rfl _ _ rfl 2 rfl Try.underlying4 rfl rfl ?_ | refine own_load1 M 4 _ rfl rfl _ _ rfl 3 rfl Try.underlying4 rfl rfl ?_ | refine own_load1 M 4 _ rfl rfl _ _ rfl 4 rfl Try.underlying4 rfl rfl ?_))
    | ((with_reducible refine at_alloc 23 rfl ?_); refine own_alloc M 23 rfl rfl zeroVa rfl ?_; clear M; intro g w M)
    | ((with_reducible refine at_callee 41 _ _ rfl ?_); refine own_callee M 41 Try.func41 (by kernel_rfl) rfl rfl rfl (raccessor ⟨_, _, _, _, _, _, ⟨_, _, _⟩, ⟨_, _, _⟩, ⟨_, _, _⟩, _, _, _⟩) (by simp only [List.map_toArray, List.map_cons, List.map_nil]; rfl) ?_; clear M; intro w M)
    | ((with_reducible refine at_callee 23 _ _ rfl ?_); refine own_callee M 23 Try.func23 (by kernel_rfl) rfl rfl rfl (rdata ⟨_, _, _, _, _, _, ⟨_, _, _⟩, ⟨_, _, _⟩, ⟨_, _, _⟩, _, _, _⟩) (by simp only [List.map_toArray, List.map_cons, List.map_nil]; rfl) ?_; clear M; intro w M)
    | ((with_reducible refine at_callee 53 _ _ rfl ?_); refine own_callee M 53 Try.func53 (by kernel_rfl) rfl rfl rfl (rside ⟨_, _, _⟩) (by simp only [List.map_toArray, List.map_cons, List.map_nil]; rfl) ?_; clear M; intro w M))
    all_goals go_ret
    all_goals (refine ⟨ret_bool ?_, M.below⟩; clear M ha hd; go_tidy; simp_all [De.rright, De.acc, De.dat, Va.zero])
  · have hd : (⟨false, true, true, true, he, hc, ⟨v.k, v.n, v.s⟩, ⟨g.k, g.n, g.s⟩, ⟨s.k, s.n, s.s⟩, dw, e, c⟩ : De).dat = true := rfl
    have M := Own.refl nobody w
    go_enter Try.func32, Try.ntmps32
    go_wp2_with (first
    | ((with_reducible refine at_guard (_, _) rfl ?_); (refine own_guard rfl rfl rfl ?_ ?_ <;> (intro hc; (try simp only [Bool.not_true, Bool.not_false, Bool.not_eq_true', Bool.not_eq_false', reduceCtorEq] at hc); (try simp only [hc, Bool.not_true, Bool.not_false]))); try simp only [Act.put, List.setIfInBounds_toArray, List.set_cons_zero, List.set_cons_succ])
    | ((with_reducible refine at_box _ _ rfl ?_); refine own_box M _ _ rfl rfl rfl ?_; clear M; intro g w M)
    | ((with_reducible refine at_bin .eql 23 _ _ _ rfl ?_); refine own_val rfl (fun w => run_bin_agg rfl guardVa rfl rfl w (run_eql_va w _ _ _ _ _ _)) ?_)
    | ((with_reducible refine at_load 28 _ rfl ?_); (first | refine own_loadN M 28 _ rfl rfl _ _ rfl 0 rfl Try.underlying28 rfl 18 infoDe (Nat.le_of_ble_eq_true rfl) ?_ | refine own_loadN M 28 _ rfl rfl _ _ rfl 1 rfl Try.underlying28 rfl 18 infoDe (Nat.le_of_ble_eq_true rfl) ?_ | refine own_loadN M 28 _ rfl rfl _ _ rfl 2 rfl Try.underlying28 rfl 18 infoDe (Nat.le_of_ble_eq_true rfl) ?_ | refine own_loadN M 28 _ rfl rfl _ _ rfl 3 rfl Try.underlying28 rfl 18 infoDe (Nat.le_of_ble_eq_true rfl) ?_ | refine own_loadN M 28 _ rfl rfl _ _ rfl 4 rfl Try.underlying28 rfl 18 infoDe (Nat.le_of_ble_eq_true rfl) ?_); simp only [List.drop_succ_cons, List.drop_zero, List.take_succ_cons, List.take_zero])
    | ((with_reducible refine at_load 23 _ rfl ?_); (first | refine own_loadN M 23 _ rfl rfl _ _ rfl 0 rfl Try.underlying23 rfl 3 infoVa (Nat.le_of_ble_eq_true rfl) ?_ | refine own_loadN M 23 _ rfl rfl _ _ rfl 1 rfl Try.underlying23 rfl 3 infoVa (Nat.le_of_ble_eq_true rfl) ?_ | refine own_loadN M 23 _ rfl rfl _ _ rfl 2 rfl Try.underlying23 rfl 3 infoVa (Nat.le_of_ble_eq_true rfl) ?_ | refine own_loadN M 23 _ rfl rfl _ _ rfl 3 rfl Try.underlying23 rfl 3 infoVa (Nat.le_of_ble_eq_true rfl) ?_ | refine own_loadN M 23 _ rfl rfl _ _ rfl 4 rfl Try.underlying23 rfl 3 infoVa (Nat.le_of_ble_eq_true rfl) ?_); simp only [List.drop_succ_cons, List.drop_zero, List.take_succ_cons, List.take_zero])
    | ((with_reducible refine at_load 4 _ rfl ?_); (first | refine own_load1 M 4 _ rfl rfl _ _ rfl 0 rfl Try.underlying4 rfl rfl ?_ | refine own_load1 M 4 _ rfl rfl _ _ rfl 1 rfl Try.underlying4 rfl rfl ?_ | refine own_load1 M 4 _ rfl rfl _ _ rfl 2 rfl Try.underlying4 rfl rfl ?_ | refine own_load1 M 4 _ rfl rfl _ _ rfl 3 rfl Try.underlying4 rfl rfl ?_ | refine own_load1 M 4 _ rfl rfl _ _ rfl 4 rfl Try.underlying4 rfl rfl ?_))
    | ((with_reducible refine at_alloc 23 rfl ?_); refine own_alloc M 23 rfl rfl zeroVa rfl ?_; clear M; intro g w M)
    | ((with_reducible refine at_callee 41 _ _ rfl ?_); refine own_callee M 41 Try.func41 (by kernel_rfl) rfl rfl rfl (raccessor ⟨_, _, _, _, _, _, ⟨_, _, _⟩, ⟨_, _, _⟩, ⟨_, _, _⟩, _, _, _⟩) (by simp only [List.map_toArray, List.map_cons, List.map_nil]; rfl) ?_; clear M; intro w M)
    | ((with_reducible refine at_callee 23 _ _ rfl ?_); refine own_callee M 23 Try.func23 (by kernel_rfl) rfl rfl rfl (rdata ⟨_, _, _, _, _, _, ⟨_, _, _⟩, ⟨_, _, _⟩, ⟨_, _, _⟩, _, _, _⟩) (by simp only [List.map_toArray, List.map_cons, List.map_nil]; rfl) ?_; clear M; intro w M)
    | ((with_reducible refine at_callee 53 _ _ rfl ?_); refine own_callee M 53 Try.func53 (by kernel_rfl) rfl rfl rfl (rside ⟨_, _, _⟩) (by simp only [List.map_toArray, List.map_cons, List.map_nil]; rfl) ?_; clear M; intro w M))
    all_goals go_ret
    all_goals (refine ⟨ret_bool ?_, M.below⟩; clear M ha hd; go_tidy; simp_all [De.rright, De.acc, De.dat, Va.zero])
  · have hd : (⟨true, true, true, false, he, hc, ⟨v.k, v.n, v.s⟩, ⟨g.k, g.n, g.s⟩, ⟨s.k, s.n, s.s⟩, dw, e, c⟩ : De).dat = true := rfl
    have M := Own.refl nobody w
    go_enter Try.func32, Try.ntmps32
    go_wp2_with (first
    | ((with_reducible refine at_guard (_, _) rfl ?_); (refine own_guard rfl rfl rfl ?_ ?_ <;> (intro hc; (try simp only [Bool.not_true, Bool.not_false, Bool.not_eq_true', Bool.not_eq_false', reduceCtorEq] at hc); (try simp only [hc, Bool.not_true, Bool.not_false]))); try simp only [Act.put, List.setIfInBounds_toArray, List.set_cons_zero, List.set_cons_succ])
    | ((with_reducible refine at_box _ _ rfl ?_); refine own_box M _ _ rfl rfl rfl ?_; clear M; intro g w M)
    | ((with_reducible refine at_bin .eql 23 _ _ _ rfl ?_); refine own_val rfl (fun w => run_bin_agg rfl guardVa rfl rfl w (run_eql_va w _ _ _ _ _ _)) ?_)
    | ((with_reducible refine at_load 28 _ rfl ?_); (first | refine own_loadN M 28 _ rfl rfl _ _ rfl 0 rfl Try.underlying28 rfl 18 infoDe (Nat.le_of_ble_eq_true rfl) ?_ | refine own_loadN M 28 _ rfl rfl _ _ rfl 1 rfl Try.underlying28 rfl 18 infoDe (Nat.le_of_ble_eq_true rfl) ?_ | refine own_loadN M 28 _ rfl rfl _ _ rfl 2 rfl Try.underlying28 rfl 18 infoDe (Nat.le_of_ble_eq_true rfl) ?_ | refine own_loadN M 28 _ rfl rfl _ _ rfl 3 rfl Try.underlying28 rfl 18 infoDe (Nat.le_of_ble_eq_true rfl) ?_ | refine own_loadN M 28 _ rfl rfl _ _ rfl 4 rfl Try.underlying28 rfl 18 infoDe (Nat.le_of_ble_eq_true rfl) ?_); simp only [List.drop_succ_cons, List.drop_zero, List.take_succ_cons, List.take_zero])
    | ((with_reducible refine at_load 23 _ rfl ?_); (first | refine own_loadN M 23 _ rfl rfl _ _ rfl 0 rfl Try.underlying23 rfl 3 infoVa (Nat.le_of_ble_eq_true rfl) ?_ | refine own_loadN M 23 _ rfl rfl _ _ rfl 1 rfl Try.underlying23 rfl 3 infoVa (Nat.le_of_ble_eq_true rfl) ?_ | refine own_loadN M 23 _ rfl rfl _ _ rfl 2 rfl Try.underlying23 rfl 3 infoVa (Nat.le_of_ble_eq_true rfl) ?_ | refine own_loadN M 23 _ rfl rfl _ _ rfl 3 rfl Try.underlying23 rfl 3 infoVa (Nat.le_of_ble_eq_true rfl) ?_ | refine own_loadN M 23 _ rfl rfl _ _ rfl 4 rfl Try.underlying23 rfl 3 infoVa (Nat.le_of_ble_eq_true rfl) ?_); simp only [List.drop_succ_cons, List.drop_zero, List.take_succ_cons, List.take_zero])
    | ((with_reducible refine at_load 4 _ rfl ?_); (first | refine own_load1 M 4 _ rfl rfl _ _ rfl 0 rfl Try.underlying4 rfl rfl ?_ | refine own_load1 M 4 _ rfl rfl _ _ rfl 1 rfl Try.underlying4 rfl rfl ?_ | refine own_load1 M 4 _ rfl rfl _ _ rfl 2 rfl Try.underlying4 rfl rfl ?_ | refine own_load1 M 4 _ rfl rfl _ _ rfl 3 rfl Try.underlying4 rfl rfl ?_ | refine own_load1 M 4 _ rfl rfl _ _ rfl 4 rfl Try.underlying4 rfl rfl ?_))
    | ((with_reducible refine at_alloc 23 rfl ?_); refine own_alloc M 23 rfl rfl zeroVa rfl ?_; clear M; intro g w M)
    | ((with_reducible refine at_callee 41 _ _ rfl ?_); refine own_callee M 41 Try.func41 (by kernel_rfl) rfl rfl rfl (raccessor ⟨_, _, _, _, _, _, ⟨_, _, _⟩, ⟨_, _, _⟩, ⟨_, _, _⟩, _, _, _⟩) (by simp only [List.map_toArray, List.map_cons, List.map_nil]; rfl) ?_; clear M; intro w M)
    | ((with_reducible refine at_callee 23 _ _ rfl ?_); refine own_callee M 23 Try.func23 (by kernel_rfl) rfl rfl rfl (rdata ⟨_, _, _, _, _, _, ⟨_, _, _⟩, ⟨_, _, _⟩, ⟨_, _, _⟩, _, _, _⟩) (by simp only [List.map_toArray, List.map_cons, List.map_nil]; rfl) ?_; clear M; intro w M)
    | ((with_reducible refine at_callee 53 _ _ rfl ?_); refine own_callee M 53 Try.func53 (by kernel_rfl) rfl rfl rfl (rside ⟨_, _, _⟩) (by simp only [List.map_toArray, List.map_cons, List.map_nil]; rfl) ?_; clear M; intro w M))
    all_goals go_ret
    all_goals (refine ⟨ret_bool ?_, M.below⟩; clear M ha hd; go_tidy; simp_all [De.rright, De.acc, De.dat, Va.zero])
  · have hd : (⟨true, true, true, true, he, hc, ⟨v.k, v.n, v.s⟩, ⟨g.k, g.n, g.s⟩, ⟨s.k, s.n, s.s⟩, dw, e, c⟩ : De).dat = true := rfl
    have M := Own.refl nobody w
    go_enter Try.func32, Try.ntmps32
    go_wp2_with (first
    | ((with_reducible refine at_guard (_, _) rfl ?_); (refine own_guard rfl rfl rfl ?_ ?_ <;> (intro hc; (try simp only [Bool.not_true, Bool.not_false, Bool.not_eq_true', Bool.not_eq_false', reduceCtorEq] at hc); (try simp only [hc, Bool.not_true, Bool.not_false]))); try simp only [Act.put, List.setIfInBounds_toArray, List.set_cons_zero, List.set_cons_succ])
    | ((with_reducible refine at_box _ _ rfl ?_); refine own_box M _ _ rfl rfl rfl ?_; clear M; intro g w M)
    | ((with_reducible refine at_bin .eql 23 _ _ _ rfl ?_); refine own_val rfl (fun w => run_bin_agg rfl guardVa rfl rfl w (run_eql_va w _ _ _ _ _ _)) ?_)
    | ((with_reducible refine at_load 28 _ rfl ?_); (first | refine own_loadN M 28 _ rfl rfl _ _ rfl 0 rfl Try.underlying28 rfl 18 infoDe (Nat.le_of_ble_eq_true rfl) ?_ | refine own_loadN M 28 _ rfl rfl _ _ rfl 1 rfl Try.underlying28 rfl 18 infoDe (Nat.le_of_ble_eq_true rfl) ?_ | refine own_loadN M 28 _ rfl rfl _ _ rfl 2 rfl Try.underlying28 rfl 18 infoDe (Nat.le_of_ble_eq_true rfl) ?_ | refine own_loadN M 28 _ rfl rfl _ _ rfl 3 rfl Try.underlying28 rfl 18 infoDe (Nat.le_of_ble_eq_true rfl) ?_ | refine own_loadN M 28 _ rfl rfl _ _ rfl 4 rfl Try.underlying28 rfl 18 infoDe (Nat.le_of_ble_eq_true rfl) ?_); simp only [List.drop_succ_cons, List.drop_zero, List.take_succ_cons, List.take_zero])
    | ((with_reducible refine at_load 23 _ rfl ?_); (first | refine own_loadN M 23 _ rfl rfl _ _ rfl 0 rfl Try.underlying23 rfl 3 infoVa (Nat.le_of_ble_eq_true rfl) ?_ | refine own_loadN M 23 _ rfl rfl _ _ rfl 1 rfl Try.underlying23 rfl 3 infoVa (Nat.le_of_ble_eq_true rfl) ?_ | refine own_loadN M 23 _ rfl rfl _ _ rfl 2 rfl Try.underlying23 rfl 3 infoVa (Nat.le_of_ble_eq_true rfl) ?_ | refine own_loadN M 23 _ rfl rfl _ _ rfl 3 rfl Try.underlying23 rfl 3 infoVa (Nat.le_of_ble_eq_true rfl) ?_ | refine own_loadN M 23 _ rfl rfl _ _ rfl 4 rfl Try.underlying23 rfl 3 infoVa (Nat.le_of_ble_eq_true rfl) ?_); simp only [List.drop_succ_cons, List.drop_zero, List.take_succ_cons, List.take_zero])
    | ((with_reducible refine at_load 4 _ rfl ?_); (first | refine own_load1 M 4 _ rfl rfl _ _ rfl 0 rfl Try.underlying4 rfl rfl ?_ | refine own_load1 M 4 _ rfl rfl _ _ rfl 1 rfl Try.underlying4 rfl rfl ?_ | refine own_load1 M 4 _ rfl rfl _ _ rfl 2 rfl Try.underlying4 rfl rfl ?_ | refine own_load1 M 4 _ rfl rfl _ _ rfl 3 rfl Try.underlying4 rfl rfl ?_ | refine own_load1 M 4 _ rfl rfl _ _ rfl 4 rfl Try.underlying4 rfl rfl ?_))
    | ((with_reducible refine at_alloc 23 rfl ?_); refine own_alloc M 23 rfl rfl zeroVa rfl ?_; clear M; intro g w M)
    | ((with_reducible refine at_callee 41 _ _ rfl ?_); refine own_callee M 41 Try.func41 (by kernel_rfl) rfl rfl rfl (raccessor ⟨_, _, _, _, _, _, ⟨_, _, _⟩, ⟨_, _, _⟩, ⟨_, _, _⟩, _, _, _⟩) (by simp only [List.map_toArray, List.map_cons, List.map_nil]; rfl) ?_; clear M; intro w M)
    | ((with_reducible refine at_callee 23 _ _ rfl ?_); refine own_callee M 23 Try.func23 (by kernel_rfl) rfl rfl rfl (rdata ⟨_, _, _, _, _, _, ⟨_, _, _⟩, ⟨_, _, _⟩, ⟨_, _, _⟩, _, _, _⟩) (by simp only [List.map_toArray, List.map_cons, List.map_nil]; rfl) ?_; clear M; intro w M)
    | ((with_reducible refine at_callee 53 _ _ rfl ?_); refine own_callee M 53 Try.func53 (by kernel_rfl) rfl rfl rfl (rside ⟨_, _, _⟩) (by simp only [List.map_toArray, List.map_cons, List.map_nil]; rfl) ?_; clear M; intro w M))
    all_goals go_ret
    all_goals (refine ⟨ret_bool ?_, M.below⟩; clear M ha hd; go_tidy; simp_all [De.rright, De.acc, De.dat, Va.zero])
theorem rright_any (d : De) (w : World) : Calls Try.prog 32 #[d.val] w fun e w' => e = .returned (.bool d.right) ∧ Below w.heap.size w w' := by
  rw [← rright_eq]
  obtain ⟨hv, hg, hs, hw, he, hc, v, g, s, dw, e, c⟩ := d
  cases hg <;> cases hs
  · exact rright_1 hv hw he hc v g s dw e c w
  · exact rright_3 hv hw he hc v g s dw e c w
  · exact rright_2 hv hw he hc v g s dw e c w
  · exact rright_4 hv hw he hc v g s dw e c w
end Go.Proofs.Ythjfdbbpgdflkaa
