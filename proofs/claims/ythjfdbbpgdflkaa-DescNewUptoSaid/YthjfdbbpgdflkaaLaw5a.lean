import Derived.Test.YthjfdbbpgdflkaaRef5
namespace Go.Proofs.Ythjfdbbpgdflkaa
open Go.RowKit
set_option linter.unusedVariables false
set_option linter.unusedSimpArgs false
attribute [local irreducible] wpList Calls wpQuiet wpAnyH

def Z5 : De := ⟨false, false, false, false, false, false, ⟨0, 0, ⟨#[]⟩⟩, ⟨0, 0, ⟨#[]⟩⟩, ⟨0, 0, ⟨#[]⟩⟩, false, false, false⟩
def N5 : De := ⟨true, false, false, true, true, true, ⟨0, 0, ⟨#[]⟩⟩, ⟨0, 0, ⟨#[]⟩⟩, ⟨0, 0, ⟨#[]⟩⟩, false, false, false⟩
theorem N5_whole : N5.whole = true := by simp [N5, De.whole, De.right, De.acc, De.dat, Va.fn, veq, Va.zero]
theorem N5_apply : De.apply false Z5 true N5 = (N5, true) := by
  have h : Z5.right = true := by simp [Z5, De.right, De.acc, De.dat, Va.fn, veq, Va.zero]
  have h2 : Z5.nothing = true := rfl
  simp [De.apply, h, h2, N5_whole]
theorem alive_apply (w : World) : Calls Try.prog 46 #[.bool false, Z5.val, .bool true, N5.val] w fun e w' => e = .returned (.tuple #[N5.val, .bool true]) ∧ Below w.heap.size w w' := by
  have h := apply_any false Z5 true N5 w
  rw [N5_apply] at h
  exact h
theorem alive_whole (w : World) : Calls Try.prog 44 #[N5.val] w fun e w' => e = .returned (.bool true) ∧ Below w.heap.size w w' := by
  have h := whole_any N5 w
  rw [N5_whole] at h
  exact h
theorem buildN (p q r s : Bool) (w : World) : (Instr.build 28 #[(0, .bool p), (3, .bool q), (4, .bool r), (5, .bool s)]).run Try.prog w = .ok (.agg #[.bool p, .bool false, .bool false, .bool q, .bool r, .bool s, .int .i64 0, .int .i64 0, .string ⟨#[]⟩, .int .i64 0, .int .i64 0, .string ⟨#[]⟩, .int .i64 0, .int .i64 0, .string ⟨#[]⟩, .bool false, .bool false, .bool false]) w := by kernel_rfl
theorem build0' (w : World) : (Instr.build 28 #[]).run Try.prog w = .ok (.agg #[.bool false, .bool false, .bool false, .bool false, .bool false, .bool false, .int .i64 0, .int .i64 0, .string ⟨#[]⟩, .int .i64 0, .int .i64 0, .string ⟨#[]⟩, .int .i64 0, .int .i64 0, .string ⟨#[]⟩, .bool false, .bool false, .bool false]) w := build0 w
set_option maxHeartbeats 2000000 in
theorem alive5 (w : World) : Calls Try.prog 39 #[] w fun e w' => e = .returned (.bool true) ∧ Below w.heap.size w w' := by
  have M := Own.refl nobody w
  go_enter Try.func39, Try.ntmps39
  go_wp2_with (first
    | ((with_reducible refine at_guard (_, _) rfl ?_); (refine own_guard rfl rfl rfl ?_ ?_ <;> (intro hc; (try simp only [Bool.not_true, Bool.not_false, Bool.not_eq_true', Bool.not_eq_false', reduceCtorEq] at hc); (try simp only [hc, Bool.not_true, Bool.not_false]))); try simp only [Act.put, List.setIfInBounds_toArray, List.set_cons_zero, List.set_cons_succ])
    | ((with_reducible refine at_box _ _ rfl ?_); refine own_box M _ _ rfl rfl rfl ?_; clear M; intro g w M; try simp only [Act.put, List.setIfInBounds_toArray, List.set_cons_zero, List.set_cons_succ])
    | ((with_reducible refine at_bin .eql 28 _ _ _ rfl ?_); (first | refine own_val rfl (fun w => run_bin_agg rfl guardDe rfl rfl w (run_eql_de w _ _)) ?_ | refine own_val rfl (fun w => run_bin_agg rfl guardDe rfl rfl w (run_eql_de w ⟨_, _, _, _, _, _, ⟨_, _, _⟩, ⟨_, _, _⟩, ⟨_, _, _⟩, _, _, _⟩ ⟨_, _, _, _, _, _, ⟨_, _, _⟩, ⟨_, _, _⟩, ⟨_, _, _⟩, _, _, _⟩)) ?_); try simp only [Act.put, List.setIfInBounds_toArray, List.set_cons_zero, List.set_cons_succ])
    | ((with_reducible refine at_load 28 _ rfl ?_); (first | refine own_loadN M 28 _ rfl rfl _ _ rfl 0 rfl Try.underlying28 rfl 18 infoDe (Nat.le_of_ble_eq_true rfl) ?_ | refine own_loadN M 28 _ rfl rfl _ _ rfl 1 rfl Try.underlying28 rfl 18 infoDe (Nat.le_of_ble_eq_true rfl) ?_ | refine own_loadN M 28 _ rfl rfl _ _ rfl 2 rfl Try.underlying28 rfl 18 infoDe (Nat.le_of_ble_eq_true rfl) ?_ | refine own_loadN M 28 _ rfl rfl _ _ rfl 3 rfl Try.underlying28 rfl 18 infoDe (Nat.le_of_ble_eq_true rfl) ?_ | refine own_loadN M 28 _ rfl rfl _ _ rfl 4 rfl Try.underlying28 rfl 18 infoDe (Nat.le_of_ble_eq_true rfl) ?_); simp only [List.drop_succ_cons, List.drop_zero, List.take_succ_cons, List.take_zero]; try simp only [Act.put, List.setIfInBounds_toArray, List.set_cons_zero, List.set_cons_succ])
    | ((with_reducible refine at_load 4 _ rfl ?_); (first | refine own_load1 M 4 _ rfl rfl _ _ rfl 0 rfl Try.underlying4 rfl rfl ?_ | refine own_load1 M 4 _ rfl rfl _ _ rfl 1 rfl Try.underlying4 rfl rfl ?_ | refine own_load1 M 4 _ rfl rfl _ _ rfl 2 rfl Try.underlying4 rfl rfl ?_ | refine own_load1 M 4 _ rfl rfl _ _ rfl 3 rfl Try.underlying4 rfl rfl ?_ | refine own_load1 M 4 _ rfl rfl _ _ rfl 4 rfl Try.underlying4 rfl rfl ?_); try simp only [Act.put, List.setIfInBounds_toArray, List.set_cons_zero, List.set_cons_succ])
    | ((with_reducible refine at_alloc 28 rfl ?_); refine own_alloc M 28 rfl rfl zeroDe rfl ?_; clear M; intro g w M; try simp only [Act.put, List.setIfInBounds_toArray, List.set_cons_zero, List.set_cons_succ])
    | ((with_reducible refine at_store 28 _ (.tmp _) rfl ?_); (first | refine own_storeT M 28 _ _ rfl rfl _ _ rfl rfl rfl 0 rfl infoDe rfl (Nat.le_of_ble_eq_true rfl) ?_ | refine own_storeT M 28 _ _ rfl rfl _ _ rfl rfl rfl 1 rfl infoDe rfl (Nat.le_of_ble_eq_true rfl) ?_ | refine own_storeT M 28 _ _ rfl rfl _ _ rfl rfl rfl 2 rfl infoDe rfl (Nat.le_of_ble_eq_true rfl) ?_ | refine own_storeT M 28 _ _ rfl rfl _ _ rfl rfl rfl 3 rfl infoDe rfl (Nat.le_of_ble_eq_true rfl) ?_); clear M; intro w M; simp only [List.set_cons_zero, List.set_cons_succ, List.drop_succ_cons, List.drop_zero, List.take_succ_cons, List.take_zero, List.cons_append, List.nil_append, List.append_nil, List.length_cons, List.length_nil, Nat.zero_add, Nat.reduceAdd, List.drop_nil] at M)
    | ((with_reducible refine at_store 28 _ (.const _) rfl ?_); (first | refine own_storeC M 28 _ _ rfl rfl _ _ rfl rfl 0 rfl infoDe rfl (Nat.le_of_ble_eq_true rfl) ?_ | refine own_storeC M 28 _ _ rfl rfl _ _ rfl rfl 1 rfl infoDe rfl (Nat.le_of_ble_eq_true rfl) ?_ | refine own_storeC M 28 _ _ rfl rfl _ _ rfl rfl 2 rfl infoDe rfl (Nat.le_of_ble_eq_true rfl) ?_ | refine own_storeC M 28 _ _ rfl rfl _ _ rfl rfl 3 rfl infoDe rfl (Nat.le_of_ble_eq_true rfl) ?_); clear M; intro w M; simp only [List.set_cons_zero, List.set_cons_succ, List.drop_succ_cons, List.drop_zero, List.take_succ_cons, List.take_zero, List.cons_append, List.nil_append, List.append_nil, List.length_cons, List.length_nil, Nat.zero_add, Nat.reduceAdd, List.drop_nil] at M)
    | ((with_reducible refine at_build 28 _ rfl ?_); refine own_val rfl (fun w => run_build_op rfl (buildN _ _ _ _) (by first | (simp only [List.map_toArray, List.map_cons, List.map_nil]; done) | (simp only [List.map_toArray, List.map_cons, List.map_nil]; rfl)) w) ?_; try simp only [Act.put, List.setIfInBounds_toArray, List.set_cons_zero, List.set_cons_succ])
    | ((with_reducible refine at_build 28 _ rfl ?_); refine own_val rfl (fun w => run_build_op rfl (build0') (by first | (simp only [List.map_toArray, List.map_cons, List.map_nil]; done) | (simp only [List.map_toArray, List.map_cons, List.map_nil]; rfl)) w) ?_; try simp only [Act.put, List.setIfInBounds_toArray, List.set_cons_zero, List.set_cons_succ])
    | ((with_reducible refine at_callee 46 _ _ rfl ?_); refine own_callee M 46 Try.func46 (by kernel_rfl) rfl rfl rfl (alive_apply) (by first | (simp only [List.map_toArray, List.map_cons, List.map_nil]; done) | (simp only [List.map_toArray, List.map_cons, List.map_nil]; rfl)) ?_; clear M; intro w M; try simp only [Act.put, List.setIfInBounds_toArray, List.set_cons_zero, List.set_cons_succ])
    | ((with_reducible refine at_callee 44 _ _ rfl ?_); refine own_callee M 44 Try.func44 (by kernel_rfl) rfl rfl rfl (alive_whole) (by first | (simp only [List.map_toArray, List.map_cons, List.map_nil]; done) | (simp only [List.map_toArray, List.map_cons, List.map_nil]; rfl)) ?_; clear M; intro w M; try simp only [Act.put, List.setIfInBounds_toArray, List.set_cons_zero, List.set_cons_succ]))
  all_goals go_ret
  all_goals (refine ⟨ret_bool ?_, M.below⟩; clear M; go_tidy; simp_all [deq, veq, N5])
end Go.Proofs.Ythjfdbbpgdflkaa
