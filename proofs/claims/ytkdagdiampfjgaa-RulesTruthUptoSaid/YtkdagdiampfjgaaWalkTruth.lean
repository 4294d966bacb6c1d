/- RulesTruth, stepped through: every call of it returns true. -/
import Derived.Test.YtkdagdiampfjgaaTruthC
import Derived.WalkKit
import Derived.Test.YtkdagdiampfjgaaWalkClosed
namespace Go.Proofs.Ytkdagdiampfjgaa
open Go.RowKit PRulesClosed Go.Proofs.YtkdagdiampfjgaaW.PrintWords
set_option linter.unusedVariables false
set_option linter.unusedSimpArgs false
set_option maxRecDepth 100000
attribute [local irreducible] wpList Calls wpQuiet
theorem infoK3 : (Try.prog.info? 38).map (fun i => (i.zero, i.size, i.bytes)) = some (some (.agg #[.string ⟨#[]⟩, .int .i64 0]), k38.sz, 24) := by kernel_rfl
set_option maxHeartbeats 8000000 in
theorem truth_t_t (x : De) (h1 : x.v.s.size ≤ 1048576) (h2 : x.g.s.size ≤ 1048576) (h3 : x.s.s.size ≤ 1048576) (p : Va) (h4 : p.s.size ≤ 1048576) (A : Option Addr) (c : Nat) (es : List S40) (w0 : World)
    (hE : Kd.C k40 w0 A es.length es) (hec : es.length ≤ c) :
    Calls Try.prog 3 #[.bool true, .bool true, x.val, p.val, .slice A es.length c] w0 fun e w' => e = .returned (.bool true) ∧ Below w0.heap.size w0 w' := by
  have M := Own.refl nobody w0
  have hel := hE.2.1
  go_enter Try.func3, Try.ntmps3
  go_wp2_with (first
    | ((with_reducible refine at_guard (_, _) rfl ?_); (refine own_guard rfl rfl rfl ?_ ?_ <;> (intro hc; (try simp only [Bool.not_true, Bool.not_false, Bool.not_eq_true', Bool.not_eq_false', reduceCtorEq] at hc); (try simp only [hc, Bool.not_true, Bool.not_false]))); try simp only [Act.put, List.setIfInBounds_toArray, List.set_cons_zero, List.set_cons_succ])
    | ((with_reducible refine at_box _ _ rfl ?_); refine own_box M _ _ rfl rfl rfl ?_; clear M; intro g w M; try simp only [Act.put, List.setIfInBounds_toArray, List.set_cons_zero, List.set_cons_succ])
    | ((with_reducible refine at_load 25 _ rfl ?_); (first | refine own_loadN M 25 _ rfl rfl _ _ rfl 0 rfl Try.underlying25 rfl 18 infoDe (Nat.le_of_ble_eq_true rfl) ?_ | refine own_loadN M 25 _ rfl rfl _ _ rfl 1 rfl Try.underlying25 rfl 18 infoDe (Nat.le_of_ble_eq_true rfl) ?_ | refine own_loadN M 25 _ rfl rfl _ _ rfl 2 rfl Try.underlying25 rfl 18 infoDe (Nat.le_of_ble_eq_true rfl) ?_ | refine own_loadN M 25 _ rfl rfl _ _ rfl 3 rfl Try.underlying25 rfl 18 infoDe (Nat.le_of_ble_eq_true rfl) ?_ | refine own_loadN M 25 _ rfl rfl _ _ rfl 4 rfl Try.underlying25 rfl 18 infoDe (Nat.le_of_ble_eq_true rfl) ?_); simp only [List.drop_succ_cons, List.drop_zero, List.take_succ_cons, List.take_zero]; try simp only [Act.put, List.setIfInBounds_toArray, List.set_cons_zero, List.set_cons_succ])
    | ((with_reducible refine at_load 23 _ rfl ?_); (first | refine own_loadN M 23 _ rfl rfl _ _ rfl 0 rfl Try.underlying23 rfl 3 infoVa (Nat.le_of_ble_eq_true rfl) ?_ | refine own_loadN M 23 _ rfl rfl _ _ rfl 1 rfl Try.underlying23 rfl 3 infoVa (Nat.le_of_ble_eq_true rfl) ?_ | refine own_loadN M 23 _ rfl rfl _ _ rfl 2 rfl Try.underlying23 rfl 3 infoVa (Nat.le_of_ble_eq_true rfl) ?_ | refine own_loadN M 23 _ rfl rfl _ _ rfl 3 rfl Try.underlying23 rfl 3 infoVa (Nat.le_of_ble_eq_true rfl) ?_ | refine own_loadN M 23 _ rfl rfl _ _ rfl 4 rfl Try.underlying23 rfl 3 infoVa (Nat.le_of_ble_eq_true rfl) ?_); simp only [List.drop_succ_cons, List.drop_zero, List.take_succ_cons, List.take_zero]; try simp only [Act.put, List.setIfInBounds_toArray, List.set_cons_zero, List.set_cons_succ])
    | ((with_reducible refine at_load 3 _ rfl ?_); (first | refine own_load1 M 3 _ rfl rfl _ _ rfl 0 rfl Try.underlying3 rfl rfl ?_ | refine own_load1 M 3 _ rfl rfl _ _ rfl 1 rfl Try.underlying3 rfl rfl ?_ | refine own_load1 M 3 _ rfl rfl _ _ rfl 2 rfl Try.underlying3 rfl rfl ?_ | refine own_load1 M 3 _ rfl rfl _ _ rfl 3 rfl Try.underlying3 rfl rfl ?_ | refine own_load1 M 3 _ rfl rfl _ _ rfl 4 rfl Try.underlying3 rfl rfl ?_); try simp only [Act.put, List.setIfInBounds_toArray, List.set_cons_zero, List.set_cons_succ])
    | (go_at_call 5; refine (alive_yes _).mono ?_; rintro e w ⟨rfl, hb⟩; replace M := M.call hb; clear hb)
    | (go_at_call 6; refine (big_60 _ _ _ _ (Kd.C_below hE M.below) hec).mono ?_; rintro e w ⟨⟨qb, rfl, h60⟩, hb⟩; replace M := M.call hb; clear hb)
    | (go_at_call 8; refine (may_any x h1 h2 h3 _).mono ?_; rintro e w ⟨⟨q, rfl⟩, hb⟩; replace M := M.call hb; clear hb)
    | (go_at_call 9; refine (rv_any p h4 _).mono ?_; rintro e w ⟨⟨q, rfl⟩, hb⟩; replace M := M.call hb; clear hb)
    | (go_at_call 10; refine (getProto_yes p true (by first | (left; assumption) | (right; assumption) | simp_all | omega) _).mono ?_; rintro e w ⟨rfl, hb⟩; replace M := M.call hb; clear hb)
    | (go_at_call 7; refine (whole_then x true _).mono ?_; rintro e w ⟨⟨qw, rfl, hqw⟩, hb⟩; replace M := M.call hb; clear hb)
    | (go_at_call 11; refine (hqw (by first | assumption | simp_all) _).mono ?_; rintro e w ⟨rfl, hb⟩; replace M := M.call hb; clear hb)
    | (go_at_call 12; refine (has_any x true _).mono ?_; rintro e w ⟨⟨q, rfl⟩, hb⟩; replace M := M.call hb; clear hb)
    | (go_at_call 13; refine (data_then x _).mono ?_; rintro e w ⟨⟨qd, rfl, hqd⟩, hb⟩; replace M := M.call hb; clear hb)
    | (go_at_call 14; refine (hqd (by first | assumption | simp_all) _).mono ?_; rintro e w ⟨rfl, hb⟩; replace M := M.call hb; clear hb))
  all_goals first
    | (go_ret; exact ⟨ret_bool rfl, M.below⟩)
    | skip
  all_goals
    replace h60 : es.length ≤ 60 := h60 (by first | assumption | simp_all)
    replace M := own_of M.below
    go_loopw [13, 14] (fun v i wr => ∃ k : Nat, k ≤ es.length ∧ i = .int .i64 k ∧ ((es.take k).map S40.f0).Nodup ∧ Kd.R k38 38 wr w0.heap.size (fun _ => True) v ((es.take k).map S40.f0) ∧ Own nobody w0 wr [])
      (fun _ i _ => es.length - (intOf i).toNat)
    case atStart => exact ⟨0, Nat.zero_le _, rfl, by simp, Kd.R_nil _ _ _ _ _, M⟩
    case round =>
      clear M
      obtain ⟨k, hk, rfl, hnd, hR, M⟩ := hrel
      obtain ⟨A2, c2, rfl, hc2, hC2⟩ := Kd.R_reads hR
      by_cases hlt : k < es.length
      · obtain ⟨ad, rfl, hcell0⟩ := row_ek hE hlt
        have hcell : ∀ wr', Own nobody w0 wr' [] → ∀ j v, (kcs es[k].f0)[j]? = some v → wr'.cell? ((ad.add (k * 20)).add j) = some v := fun wr' M j v hv => cell_keep M (hcell0 j v hv)
        have htk : (es.take (k + 1)).map S40.f0 = (es.take k).map S40.f0 ++ [es[k].f0] := by
          rw [List.take_succ_eq_append_getElem hlt, List.map_append]
          rfl
        have hks : ((es.take k).map S40.f0).length ≤ 60 := by simp; omega
        generalize es[k] = q at hcell htk
        generalize (es.take k).map S40.f0 = ks at hnd hR hc2 hC2 htk hks ⊢
        clear hcell0 hE
        go_wp2_with (first
          | ((with_reducible refine at_load 38 _ rfl ?_); refine wpList_load_row 38 _ rfl rfl (ad.add (k * 20)) rfl Try.underlying38 rfl (kcs q.f0) infoK (hcell _ M) ?_; (try simp only [Act.put, List.setIfInBounds_toArray, List.set_cons_zero, List.set_cons_succ]))
          | (at_builtin; refine Kd.R_append k38 w0.heap.size rfl (.tmp 102) (.tmp 108) 35 38 (.agg #[.string ⟨#[]⟩, .int .i64 0]) 24 rfl Try.underlying35 infoK3 rfl (by decide) (by decide) _ ks q.f0 (kcs q.f0) (fun _ => True) (fun _ => False) rfl rfl (k38_mkM _ _ _ q.f0) (fun k h => h.elim) (fun _ _ => trivial) hR M.below M.below.size (by omega) ?_; intro v1 w1 hR1 hB1 _ _; (try simp only [Act.put, List.setIfInBounds_toArray, List.set_cons_zero, List.set_cons_succ]))
          | (go_at_call 15; refine (keyed_any A2 c2 ks q.f0 _ (Kd.C_below hC2 (Below.refl _ _)) hc2).mono ?_; rintro e w ⟨rfl, hb⟩; replace M := M.call hb; replace hR := Kd.R_below hR hb; clear hb))
        · go_ret
          exact ⟨ret_bool rfl, M.below⟩
        · have hnq : q.f0 ∉ ks := by first | assumption | simp_all
          refine ⟨⟨k + 1, by omega, by go_num, ?_, by rw [htk]; exact hR1, own_of hB1⟩, by simp [intOf]; omega⟩
          rw [htk, List.nodup_append]
          exact ⟨hnd, by simp, fun a ha b hb => by rw [List.mem_singleton.1 hb]; exact fun e => hnq (e ▸ ha)⟩
      · obtain rfl : k = es.length := by omega
        rw [List.take_length] at hnd hC2 hc2 hR ⊢
        have hfin := truth_eq true es hnd
        generalize es.map S40.f0 = ks at hnd hC2 hc2 hR hfin ⊢
        go_wp2_with (first
          | (go_at_call 16; refine (keys_any true _ _ _ _ _ _ _ (Kd.C_below hE M.below) hC2).mono ?_; rintro e w ⟨rfl, hb⟩; rw [hfin]; replace M := M.call hb; clear hb))
        go_ret
        exact ⟨ret_bool rfl, M.below⟩
set_option maxHeartbeats 8000000 in
theorem truth_t_f (x : De) (h1 : x.v.s.size ≤ 1048576) (h2 : x.g.s.size ≤ 1048576) (h3 : x.s.s.size ≤ 1048576) (p : Va) (h4 : p.s.size ≤ 1048576) (A : Option Addr) (c : Nat) (es : List S40) (w0 : World)
    (hE : Kd.C k40 w0 A es.length es) (hec : es.length ≤ c) :
    Calls Try.prog 3 #[.bool true, .bool false, x.val, p.val, .slice A es.length c] w0 fun e w' => e = .returned (.bool true) ∧ Below w0.heap.size w0 w' := by
  have M := Own.refl nobody w0
  have hel := hE.2.1
  go_enter Try.func3, Try.ntmps3
  go_wp2_with (first
    | ((with_reducible refine at_guard (_, _) rfl ?_); (refine own_guard rfl rfl rfl ?_ ?_ <;> (intro hc; (try simp only [Bool.not_true, Bool.not_false, Bool.not_eq_true', Bool.not_eq_false', reduceCtorEq] at hc); (try simp only [hc, Bool.not_true, Bool.not_false]))); try simp only [Act.put, List.setIfInBounds_toArray, List.set_cons_zero, List.set_cons_succ])
    | ((with_reducible refine at_box _ _ rfl ?_); refine own_box M _ _ rfl rfl rfl ?_; clear M; intro g w M; try simp only [Act.put, List.setIfInBounds_toArray, List.set_cons_zero, List.set_cons_succ])
    | ((with_reducible refine at_load 25 _ rfl ?_); (first | refine own_loadN M 25 _ rfl rfl _ _ rfl 0 rfl Try.underlying25 rfl 18 infoDe (Nat.le_of_ble_eq_true rfl) ?_ | refine own_loadN M 25 _ rfl rfl _ _ rfl 1 rfl Try.underlying25 rfl 18 infoDe (Nat.le_of_ble_eq_true rfl) ?_ | refine own_loadN M 25 _ rfl rfl _ _ rfl 2 rfl Try.underlying25 rfl 18 infoDe (Nat.le_of_ble_eq_true rfl) ?_ | refine own_loadN M 25 _ rfl rfl _ _ rfl 3 rfl Try.underlying25 rfl 18 infoDe (Nat.le_of_ble_eq_true rfl) ?_ | refine own_loadN M 25 _ rfl rfl _ _ rfl 4 rfl Try.underlying25 rfl 18 infoDe (Nat.le_of_ble_eq_true rfl) ?_); simp only [List.drop_succ_cons, List.drop_zero, List.take_succ_cons, List.take_zero]; try simp only [Act.put, List.setIfInBounds_toArray, List.set_cons_zero, List.set_cons_succ])
    | ((with_reducible refine at_load 23 _ rfl ?_); (first | refine own_loadN M 23 _ rfl rfl _ _ rfl 0 rfl Try.underlying23 rfl 3 infoVa (Nat.le_of_ble_eq_true rfl) ?_ | refine own_loadN M 23 _ rfl rfl _ _ rfl 1 rfl Try.underlying23 rfl 3 infoVa (Nat.le_of_ble_eq_true rfl) ?_ | refine own_loadN M 23 _ rfl rfl _ _ rfl 2 rfl Try.underlying23 rfl 3 infoVa (Nat.le_of_ble_eq_true rfl) ?_ | refine own_loadN M 23 _ rfl rfl _ _ rfl 3 rfl Try.underlying23 rfl 3 infoVa (Nat.le_of_ble_eq_true rfl) ?_ | refine own_loadN M 23 _ rfl rfl _ _ rfl 4 rfl Try.underlying23 rfl 3 infoVa (Nat.le_of_ble_eq_true rfl) ?_); simp only [List.drop_succ_cons, List.drop_zero, List.take_succ_cons, List.take_zero]; try simp only [Act.put, List.setIfInBounds_toArray, List.set_cons_zero, List.set_cons_succ])
    | ((with_reducible refine at_load 3 _ rfl ?_); (first | refine own_load1 M 3 _ rfl rfl _ _ rfl 0 rfl Try.underlying3 rfl rfl ?_ | refine own_load1 M 3 _ rfl rfl _ _ rfl 1 rfl Try.underlying3 rfl rfl ?_ | refine own_load1 M 3 _ rfl rfl _ _ rfl 2 rfl Try.underlying3 rfl rfl ?_ | refine own_load1 M 3 _ rfl rfl _ _ rfl 3 rfl Try.underlying3 rfl rfl ?_ | refine own_load1 M 3 _ rfl rfl _ _ rfl 4 rfl Try.underlying3 rfl rfl ?_); try simp only [Act.put, List.setIfInBounds_toArray, List.set_cons_zero, List.set_cons_succ])
    | (go_at_call 5; refine (alive_yes _).mono ?_; rintro e w ⟨rfl, hb⟩; replace M := M.call hb; clear hb)
    | (go_at_call 6; refine (big_60 _ _ _ _ (Kd.C_below hE M.below) hec).mono ?_; rintro e w ⟨⟨qb, rfl, h60⟩, hb⟩; replace M := M.call hb; clear hb)
    | (go_at_call 8; refine (may_any x h1 h2 h3 _).mono ?_; rintro e w ⟨⟨q, rfl⟩, hb⟩; replace M := M.call hb; clear hb)
    | (go_at_call 9; refine (rv_any p h4 _).mono ?_; rintro e w ⟨⟨q, rfl⟩, hb⟩; replace M := M.call hb; clear hb)
    | (go_at_call 10; refine (getProto_yes p true (by first | (left; assumption) | (right; assumption) | simp_all | omega) _).mono ?_; rintro e w ⟨rfl, hb⟩; replace M := M.call hb; clear hb)
    | (go_at_call 11; refine (getOwn_none x true _).mono ?_; rintro e w ⟨rfl, hb⟩; replace M := M.call hb; clear hb)
    | (go_at_call 12; refine (has_none x true _).mono ?_; rintro e w ⟨rfl, hb⟩; replace M := M.call hb; clear hb))
  all_goals first
    | (go_ret; exact ⟨ret_bool rfl, M.below⟩)
    | skip
  all_goals
    replace h60 : es.length ≤ 60 := h60 (by first | assumption | simp_all)
    replace M := own_of M.below
    go_loopw [13, 14] (fun v i wr => ∃ k : Nat, k ≤ es.length ∧ i = .int .i64 k ∧ ((es.take k).map S40.f0).Nodup ∧ Kd.R k38 38 wr w0.heap.size (fun _ => True) v ((es.take k).map S40.f0) ∧ Own nobody w0 wr [])
      (fun _ i _ => es.length - (intOf i).toNat)
    case atStart => exact ⟨0, Nat.zero_le _, rfl, by simp, Kd.R_nil _ _ _ _ _, M⟩
    case round =>
      clear M
      obtain ⟨k, hk, rfl, hnd, hR, M⟩ := hrel
      obtain ⟨A2, c2, rfl, hc2, hC2⟩ := Kd.R_reads hR
      by_cases hlt : k < es.length
      · obtain ⟨ad, rfl, hcell0⟩ := row_ek hE hlt
        have hcell : ∀ wr', Own nobody w0 wr' [] → ∀ j v, (kcs es[k].f0)[j]? = some v → wr'.cell? ((ad.add (k * 20)).add j) = some v := fun wr' M j v hv => cell_keep M (hcell0 j v hv)
        have htk : (es.take (k + 1)).map S40.f0 = (es.take k).map S40.f0 ++ [es[k].f0] := by
          rw [List.take_succ_eq_append_getElem hlt, List.map_append]
          rfl
        have hks : ((es.take k).map S40.f0).length ≤ 60 := by simp; omega
        generalize es[k] = q at hcell htk
        generalize (es.take k).map S40.f0 = ks at hnd hR hc2 hC2 htk hks ⊢
        clear hcell0 hE
        go_wp2_with (first
          | ((with_reducible refine at_load 38 _ rfl ?_); refine wpList_load_row 38 _ rfl rfl (ad.add (k * 20)) rfl Try.underlying38 rfl (kcs q.f0) infoK (hcell _ M) ?_; (try simp only [Act.put, List.setIfInBounds_toArray, List.set_cons_zero, List.set_cons_succ]))
          | (at_builtin; refine Kd.R_append k38 w0.heap.size rfl (.tmp 102) (.tmp 108) 35 38 (.agg #[.string ⟨#[]⟩, .int .i64 0]) 24 rfl Try.underlying35 infoK3 rfl (by decide) (by decide) _ ks q.f0 (kcs q.f0) (fun _ => True) (fun _ => False) rfl rfl (k38_mkM _ _ _ q.f0) (fun k h => h.elim) (fun _ _ => trivial) hR M.below M.below.size (by omega) ?_; intro v1 w1 hR1 hB1 _ _; (try simp only [Act.put, List.setIfInBounds_toArray, List.set_cons_zero, List.set_cons_succ]))
          | (go_at_call 15; refine (keyed_any A2 c2 ks q.f0 _ (Kd.C_below hC2 (Below.refl _ _)) hc2).mono ?_; rintro e w ⟨rfl, hb⟩; replace M := M.call hb; replace hR := Kd.R_below hR hb; clear hb))
        · go_ret
          exact ⟨ret_bool rfl, M.below⟩
        · have hnq : q.f0 ∉ ks := by first | assumption | simp_all
          refine ⟨⟨k + 1, by omega, by go_num, ?_, by rw [htk]; exact hR1, own_of hB1⟩, by simp [intOf]; omega⟩
          rw [htk, List.nodup_append]
          exact ⟨hnd, by simp, fun a ha b hb => by rw [List.mem_singleton.1 hb]; exact fun e => hnq (e ▸ ha)⟩
      · obtain rfl : k = es.length := by omega
        rw [List.take_length] at hnd hC2 hc2 hR ⊢
        have hfin := truth_eq true es hnd
        generalize es.map S40.f0 = ks at hnd hC2 hc2 hR hfin ⊢
        go_wp2_with (first
          | (go_at_call 16; refine (keys_any true _ _ _ _ _ _ _ (Kd.C_below hE M.below) hC2).mono ?_; rintro e w ⟨rfl, hb⟩; rw [hfin]; replace M := M.call hb; clear hb))
        go_ret
        exact ⟨ret_bool rfl, M.below⟩
set_option maxHeartbeats 8000000 in
theorem truth_f_t (x : De) (h1 : x.v.s.size ≤ 1048576) (h2 : x.g.s.size ≤ 1048576) (h3 : x.s.s.size ≤ 1048576) (p : Va) (h4 : p.s.size ≤ 1048576) (A : Option Addr) (c : Nat) (es : List S40) (w0 : World)
    (hE : Kd.C k40 w0 A es.length es) (hec : es.length ≤ c) :
    Calls Try.prog 3 #[.bool false, .bool true, x.val, p.val, .slice A es.length c] w0 fun e w' => e = .returned (.bool true) ∧ Below w0.heap.size w0 w' := by
  have M := Own.refl nobody w0
  have hel := hE.2.1
  go_enter Try.func3, Try.ntmps3
  go_wp2_with (first
    | ((with_reducible refine at_guard (_, _) rfl ?_); (refine own_guard rfl rfl rfl ?_ ?_ <;> (intro hc; (try simp only [Bool.not_true, Bool.not_false, Bool.not_eq_true', Bool.not_eq_false', reduceCtorEq] at hc); (try simp only [hc, Bool.not_true, Bool.not_false]))); try simp only [Act.put, List.setIfInBounds_toArray, List.set_cons_zero, List.set_cons_succ])
    | ((with_reducible refine at_box _ _ rfl ?_); refine own_box M _ _ rfl rfl rfl ?_; clear M; intro g w M; try simp only [Act.put, List.setIfInBounds_toArray, List.set_cons_zero, List.set_cons_succ])
    | ((with_reducible refine at_load 25 _ rfl ?_); (first | refine own_loadN M 25 _ rfl rfl _ _ rfl 0 rfl Try.underlying25 rfl 18 infoDe (Nat.le_of_ble_eq_true rfl) ?_ | refine own_loadN M 25 _ rfl rfl _ _ rfl 1 rfl Try.underlying25 rfl 18 infoDe (Nat.le_of_ble_eq_true rfl) ?_ | refine own_loadN M 25 _ rfl rfl _ _ rfl 2 rfl Try.underlying25 rfl 18 infoDe (Nat.le_of_ble_eq_true rfl) ?_ | refine own_loadN M 25 _ rfl rfl _ _ rfl 3 rfl Try.underlying25 rfl 18 infoDe (Nat.le_of_ble_eq_true rfl) ?_ | refine own_loadN M 25 _ rfl rfl _ _ rfl 4 rfl Try.underlying25 rfl 18 infoDe (Nat.le_of_ble_eq_true rfl) ?_); simp only [List.drop_succ_cons, List.drop_zero, List.take_succ_cons, List.take_zero]; try simp only [Act.put, List.setIfInBounds_toArray, List.set_cons_zero, List.set_cons_succ])
    | ((with_reducible refine at_load 23 _ rfl ?_); (first | refine own_loadN M 23 _ rfl rfl _ _ rfl 0 rfl Try.underlying23 rfl 3 infoVa (Nat.le_of_ble_eq_true rfl) ?_ | refine own_loadN M 23 _ rfl rfl _ _ rfl 1 rfl Try.underlying23 rfl 3 infoVa (Nat.le_of_ble_eq_true rfl) ?_ | refine own_loadN M 23 _ rfl rfl _ _ rfl 2 rfl Try.underlying23 rfl 3 infoVa (Nat.le_of_ble_eq_true rfl) ?_ | refine own_loadN M 23 _ rfl rfl _ _ rfl 3 rfl Try.underlying23 rfl 3 infoVa (Nat.le_of_ble_eq_true rfl) ?_ | refine own_loadN M 23 _ rfl rfl _ _ rfl 4 rfl Try.underlying23 rfl 3 infoVa (Nat.le_of_ble_eq_true rfl) ?_); simp only [List.drop_succ_cons, List.drop_zero, List.take_succ_cons, List.take_zero]; try simp only [Act.put, List.setIfInBounds_toArray, List.set_cons_zero, List.set_cons_succ])
    | ((with_reducible refine at_load 3 _ rfl ?_); (first | refine own_load1 M 3 _ rfl rfl _ _ rfl 0 rfl Try.underlying3 rfl rfl ?_ | refine own_load1 M 3 _ rfl rfl _ _ rfl 1 rfl Try.underlying3 rfl rfl ?_ | refine own_load1 M 3 _ rfl rfl _ _ rfl 2 rfl Try.underlying3 rfl rfl ?_ | refine own_load1 M 3 _ rfl rfl _ _ rfl 3 rfl Try.underlying3 rfl rfl ?_ | refine own_load1 M 3 _ rfl rfl _ _ rfl 4 rfl Try.underlying3 rfl rfl ?_); try simp only [Act.put, List.setIfInBounds_toArray, List.set_cons_zero, List.set_cons_succ])
    | (go_at_call 5; refine (alive_yes _).mono ?_; rintro e w ⟨rfl, hb⟩; replace M := M.call hb; clear hb)
    | (go_at_call 6; refine (big_60 _ _ _ _ (Kd.C_below hE M.below) hec).mono ?_; rintro e w ⟨⟨qb, rfl, h60⟩, hb⟩; replace M := M.call hb; clear hb)
    | (go_at_call 8; refine (may_any x h1 h2 h3 _).mono ?_; rintro e w ⟨⟨q, rfl⟩, hb⟩; replace M := M.call hb; clear hb)
    | (go_at_call 9; refine (rv_any p h4 _).mono ?_; rintro e w ⟨⟨q, rfl⟩, hb⟩; replace M := M.call hb; clear hb)
    | (go_at_call 10; refine (getProto_yes p false (by first | (left; assumption) | (right; assumption) | simp_all | omega) _).mono ?_; rintro e w ⟨rfl, hb⟩; replace M := M.call hb; clear hb)
    | (go_at_call 7; refine (whole_then x false _).mono ?_; rintro e w ⟨⟨qw, rfl, hqw⟩, hb⟩; replace M := M.call hb; clear hb)
    | (go_at_call 11; refine (hqw (by first | assumption | simp_all) _).mono ?_; rintro e w ⟨rfl, hb⟩; replace M := M.call hb; clear hb)
    | (go_at_call 12; refine (has_any x false _).mono ?_; rintro e w ⟨⟨q, rfl⟩, hb⟩; replace M := M.call hb; clear hb)
    | (go_at_call 13; refine (data_then x _).mono ?_; rintro e w ⟨⟨qd, rfl, hqd⟩, hb⟩; replace M := M.call hb; clear hb)
    | (go_at_call 14; refine (hqd (by first | assumption | simp_all) _).mono ?_; rintro e w ⟨rfl, hb⟩; replace M := M.call hb; clear hb))
  all_goals first
    | (go_ret; exact ⟨ret_bool rfl, M.below⟩)
    | skip
  all_goals
    replace h60 : es.length ≤ 60 := h60 (by first | assumption | simp_all)
    replace M := own_of M.below
    go_loopw [13, 14] (fun v i wr => ∃ k : Nat, k ≤ es.length ∧ i = .int .i64 k ∧ ((es.take k).map S40.f0).Nodup ∧ Kd.R k38 38 wr w0.heap.size (fun _ => True) v ((es.take k).map S40.f0) ∧ Own nobody w0 wr [])
      (fun _ i _ => es.length - (intOf i).toNat)
    case atStart => exact ⟨0, Nat.zero_le _, rfl, by simp, Kd.R_nil _ _ _ _ _, M⟩
    case round =>
      clear M
      obtain ⟨k, hk, rfl, hnd, hR, M⟩ := hrel
      obtain ⟨A2, c2, rfl, hc2, hC2⟩ := Kd.R_reads hR
      by_cases hlt : k < es.length
      · obtain ⟨ad, rfl, hcell0⟩ := row_ek hE hlt
        have hcell : ∀ wr', Own nobody w0 wr' [] → ∀ j v, (kcs es[k].f0)[j]? = some v → wr'.cell? ((ad.add (k * 20)).add j) = some v := fun wr' M j v hv => cell_keep M (hcell0 j v hv)
        have htk : (es.take (k + 1)).map S40.f0 = (es.take k).map S40.f0 ++ [es[k].f0] := by
          rw [List.take_succ_eq_append_getElem hlt, List.map_append]
          rfl
        have hks : ((es.take k).map S40.f0).length ≤ 60 := by simp; omega
        generalize es[k] = q at hcell htk
        generalize (es.take k).map S40.f0 = ks at hnd hR hc2 hC2 htk hks ⊢
        clear hcell0 hE
        go_wp2_with (first
          | ((with_reducible refine at_load 38 _ rfl ?_); refine wpList_load_row 38 _ rfl rfl (ad.add (k * 20)) rfl Try.underlying38 rfl (kcs q.f0) infoK (hcell _ M) ?_; (try simp only [Act.put, List.setIfInBounds_toArray, List.set_cons_zero, List.set_cons_succ]))
          | (at_builtin; refine Kd.R_append k38 w0.heap.size rfl (.tmp 102) (.tmp 108) 35 38 (.agg #[.string ⟨#[]⟩, .int .i64 0]) 24 rfl Try.underlying35 infoK3 rfl (by decide) (by decide) _ ks q.f0 (kcs q.f0) (fun _ => True) (fun _ => False) rfl rfl (k38_mkM _ _ _ q.f0) (fun k h => h.elim) (fun _ _ => trivial) hR M.below M.below.size (by omega) ?_; intro v1 w1 hR1 hB1 _ _; (try simp only [Act.put, List.setIfInBounds_toArray, List.set_cons_zero, List.set_cons_succ]))
          | (go_at_call 15; refine (keyed_any A2 c2 ks q.f0 _ (Kd.C_below hC2 (Below.refl _ _)) hc2).mono ?_; rintro e w ⟨rfl, hb⟩; replace M := M.call hb; replace hR := Kd.R_below hR hb; clear hb))
        · go_ret
          exact ⟨ret_bool rfl, M.below⟩
        · have hnq : q.f0 ∉ ks := by first | assumption | simp_all
          refine ⟨⟨k + 1, by omega, by go_num, ?_, by rw [htk]; exact hR1, own_of hB1⟩, by simp [intOf]; omega⟩
          rw [htk, List.nodup_append]
          exact ⟨hnd, by simp, fun a ha b hb => by rw [List.mem_singleton.1 hb]; exact fun e => hnq (e ▸ ha)⟩
      · obtain rfl : k = es.length := by omega
        rw [List.take_length] at hnd hC2 hc2 hR ⊢
        have hfin := truth_eq false es hnd
        generalize es.map S40.f0 = ks at hnd hC2 hc2 hR hfin ⊢
        go_wp2_with (first
          | (go_at_call 16; refine (keys_any false _ _ _ _ _ _ _ (Kd.C_below hE M.below) hC2).mono ?_; rintro e w ⟨rfl, hb⟩; rw [hfin]; replace M := M.call hb; clear hb))
        go_ret
        exact ⟨ret_bool rfl, M.below⟩
set_option maxHeartbeats 8000000 in
theorem truth_f_f (x : De) (h1 : x.v.s.size ≤ 1048576) (h2 : x.g.s.size ≤ 1048576) (h3 : x.s.s.size ≤ 1048576) (p : Va) (h4 : p.s.size ≤ 1048576) (A : Option Addr) (c : Nat) (es : List S40) (w0 : World)
    (hE : Kd.C k40 w0 A es.length es) (hec : es.length ≤ c) :
    Calls Try.prog 3 #[.bool false, .bool false, x.val, p.val, .slice A es.length c] w0 fun e w' => e = .returned (.bool true) ∧ Below w0.heap.size w0 w' := by
  have M := Own.refl nobody w0
  have hel := hE.2.1
  go_enter Try.func3, Try.ntmps3
  go_wp2_with (first
    | ((with_reducible refine at_guard (_, _) rfl ?_); (refine own_guard rfl rfl rfl ?_ ?_ <;> (intro hc; (try simp only [Bool.not_true, Bool.not_false, Bool.not_eq_true', Bool.not_eq_false', reduceCtorEq] at hc); (try simp only [hc, Bool.not_true, Bool.not_false]))); try simp only [Act.put, List.setIfInBounds_toArray, List.set_cons_zero, List.set_cons_succ])
    | ((with_reducible refine at_box _ _ rfl ?_); refine own_box M _ _ rfl rfl rfl ?_; clear M; intro g w M; try simp only [Act.put, List.setIfInBounds_toArray, List.set_cons_zero, List.set_cons_succ])
    | ((with_reducible refine at_load 25 _ rfl ?_); (first | refine own_loadN M 25 _ rfl rfl _ _ rfl 0 rfl Try.underlying25 rfl 18 infoDe (Nat.le_of_ble_eq_true rfl) ?_ | refine own_loadN M 25 _ rfl rfl _ _ rfl 1 rfl Try.underlying25 rfl 18 infoDe (Nat.le_of_ble_eq_true rfl) ?_ | refine own_loadN M 25 _ rfl rfl _ _ rfl 2 rfl Try.underlying25 rfl 18 infoDe (Nat.le_of_ble_eq_true rfl) ?_ | refine own_loadN M 25 _ rfl rfl _ _ rfl 3 rfl Try.underlying25 rfl 18 infoDe (Nat.le_of_ble_eq_true rfl) ?_ | refine own_loadN M 25 _ rfl rfl _ _ rfl 4 rfl Try.underlying25 rfl 18 infoDe (Nat.le_of_ble_eq_true rfl) ?_); simp only [List.drop_succ_cons, List.drop_zero, List.take_succ_cons, List.take_zero]; try simp only [Act.put, List.setIfInBounds_toArray, List.set_cons_zero, List.set_cons_succ])
    | ((with_reducible refine at_load 23 _ rfl ?_); (first | refine own_loadN M 23 _ rfl rfl _ _ rfl 0 rfl Try.underlying23 rfl 3 infoVa (Nat.le_of_ble_eq_true rfl) ?_ | refine own_loadN M 23 _ rfl rfl _ _ rfl 1 rfl Try.underlying23 rfl 3 infoVa (Nat.le_of_ble_eq_true rfl) ?_ | refine own_loadN M 23 _ rfl rfl _ _ rfl 2 rfl Try.underlying23 rfl 3 infoVa (Nat.le_of_ble_eq_true rfl) ?_ | refine own_loadN M 23 _ rfl rfl _ _ rfl 3 rfl Try.underlying23 rfl 3 infoVa (Nat.le_of_ble_eq_true rfl) ?_ | refine own_loadN M 23 _ rfl rfl _ _ rfl 4 rfl Try.underlying23 rfl 3 infoVa (Nat.le_of_ble_eq_true rfl) ?_); simp only [List.drop_succ_cons, List.drop_zero, List.take_succ_cons, List.take_zero]; try simp only [Act.put, List.setIfInBounds_toArray, List.set_cons_zero, List.set_cons_succ])
    | ((with_reducible refine at_load 3 _ rfl ?_); (first | refine own_load1 M 3 _ rfl rfl _ _ rfl 0 rfl Try.underlying3 rfl rfl ?_ | refine own_load1 M 3 _ rfl rfl _ _ rfl 1 rfl Try.underlying3 rfl rfl ?_ | refine own_load1 M 3 _ rfl rfl _ _ rfl 2 rfl Try.underlying3 rfl rfl ?_ | refine own_load1 M 3 _ rfl rfl _ _ rfl 3 rfl Try.underlying3 rfl rfl ?_ | refine own_load1 M 3 _ rfl rfl _ _ rfl 4 rfl Try.underlying3 rfl rfl ?_); try simp only [Act.put, List.setIfInBounds_toArray, List.set_cons_zero, List.set_cons_succ])
    | (go_at_call 5; refine (alive_yes _).mono ?_; rintro e w ⟨rfl, hb⟩; replace M := M.call hb; clear hb)
    | (go_at_call 6; refine (big_60 _ _ _ _ (Kd.C_below hE M.below) hec).mono ?_; rintro e w ⟨⟨qb, rfl, h60⟩, hb⟩; replace M := M.call hb; clear hb)
    | (go_at_call 8; refine (may_any x h1 h2 h3 _).mono ?_; rintro e w ⟨⟨q, rfl⟩, hb⟩; replace M := M.call hb; clear hb)
    | (go_at_call 9; refine (rv_any p h4 _).mono ?_; rintro e w ⟨⟨q, rfl⟩, hb⟩; replace M := M.call hb; clear hb)
    | (go_at_call 10; refine (getProto_yes p false (by first | (left; assumption) | (right; assumption) | simp_all | omega) _).mono ?_; rintro e w ⟨rfl, hb⟩; replace M := M.call hb; clear hb)
    | (go_at_call 11; refine (getOwn_none x false _).mono ?_; rintro e w ⟨rfl, hb⟩; replace M := M.call hb; clear hb)
    | (go_at_call 12; refine (has_none x false _).mono ?_; rintro e w ⟨rfl, hb⟩; replace M := M.call hb; clear hb))
  all_goals first
    | (go_ret; exact ⟨ret_bool rfl, M.below⟩)
    | skip
  all_goals
    replace h60 : es.length ≤ 60 := h60 (by first | assumption | simp_all)
    replace M := own_of M.below
    go_loopw [13, 14] (fun v i wr => ∃ k : Nat, k ≤ es.length ∧ i = .int .i64 k ∧ ((es.take k).map S40.f0).Nodup ∧ Kd.R k38 38 wr w0.heap.size (fun _ => True) v ((es.take k).map S40.f0) ∧ Own nobody w0 wr [])
      (fun _ i _ => es.length - (intOf i).toNat)
    case atStart => exact ⟨0, Nat.zero_le _, rfl, by simp, Kd.R_nil _ _ _ _ _, M⟩
    case round =>
      clear M
      obtain ⟨k, hk, rfl, hnd, hR, M⟩ := hrel
      obtain ⟨A2, c2, rfl, hc2, hC2⟩ := Kd.R_reads hR
      by_cases hlt : k < es.length
      · obtain ⟨ad, rfl, hcell0⟩ := row_ek hE hlt
        have hcell : ∀ wr', Own nobody w0 wr' [] → ∀ j v, (kcs es[k].f0)[j]? = some v → wr'.cell? ((ad.add (k * 20)).add j) = some v := fun wr' M j v hv => cell_keep M (hcell0 j v hv)
        have htk : (es.take (k + 1)).map S40.f0 = (es.take k).map S40.f0 ++ [es[k].f0] := by
          rw [List.take_succ_eq_append_getElem hlt, List.map_append]
          rfl
        have hks : ((es.take k).map S40.f0).length ≤ 60 := by simp; omega
        generalize es[k] = q at hcell htk
        generalize (es.take k).map S40.f0 = ks at hnd hR hc2 hC2 htk hks ⊢
        clear hcell0 hE
        go_wp2_with (first
          | ((with_reducible refine at_load 38 _ rfl ?_); refine wpList_load_row 38 _ rfl rfl (ad.add (k * 20)) rfl Try.underlying38 rfl (kcs q.f0) infoK (hcell _ M) ?_; (try simp only [Act.put, List.setIfInBounds_toArray, List.set_cons_zero, List.set_cons_succ]))
          | (at_builtin; refine Kd.R_append k38 w0.heap.size rfl (.tmp 102) (.tmp 108) 35 38 (.agg #[.string ⟨#[]⟩, .int .i64 0]) 24 rfl Try.underlying35 infoK3 rfl (by decide) (by decide) _ ks q.f0 (kcs q.f0) (fun _ => True) (fun _ => False) rfl rfl (k38_mkM _ _ _ q.f0) (fun k h => h.elim) (fun _ _ => trivial) hR M.below M.below.size (by omega) ?_; intro v1 w1 hR1 hB1 _ _; (try simp only [Act.put, List.setIfInBounds_toArray, List.set_cons_zero, List.set_cons_succ]))
          | (go_at_call 15; refine (keyed_any A2 c2 ks q.f0 _ (Kd.C_below hC2 (Below.refl _ _)) hc2).mono ?_; rintro e w ⟨rfl, hb⟩; replace M := M.call hb; replace hR := Kd.R_below hR hb; clear hb))
        · go_ret
          exact ⟨ret_bool rfl, M.below⟩
        · have hnq : q.f0 ∉ ks := by first | assumption | simp_all
          refine ⟨⟨k + 1, by omega, by go_num, ?_, by rw [htk]; exact hR1, own_of hB1⟩, by simp [intOf]; omega⟩
          rw [htk, List.nodup_append]
          exact ⟨hnd, by simp, fun a ha b hb => by rw [List.mem_singleton.1 hb]; exact fun e => hnq (e ▸ ha)⟩
      · obtain rfl : k = es.length := by omega
        rw [List.take_length] at hnd hC2 hc2 hR ⊢
        have hfin := truth_eq false es hnd
        generalize es.map S40.f0 = ks at hnd hC2 hc2 hR hfin ⊢
        go_wp2_with (first
          | (go_at_call 16; refine (keys_any false _ _ _ _ _ _ _ (Kd.C_below hE M.below) hC2).mono ?_; rintro e w ⟨rfl, hb⟩; rw [hfin]; replace M := M.call hb; clear hb))
        go_ret
        exact ⟨ret_bool rfl, M.below⟩
end Go.Proofs.Ytkdagdiampfjgaa
