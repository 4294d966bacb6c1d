/- rules.Keys tells what it should of any entries and any keys. -/
import Derived.Test.YtkdagdiampfjgaaKeysMap
import Derived.WalkKit
import Derived.Deep.Slices
namespace Go.Proofs.Ytkdagdiampfjgaa
open Go.RowKit PRulesClosed Go.Proofs.YtkdagdiampfjgaaW.PrintWords
set_option linter.unusedVariables false
set_option linter.unusedSimpArgs false
set_option maxRecDepth 100000
attribute [local irreducible] wpList Calls wpQuiet
/-! ### a struct out of a row that is read -/
section
variable {P : Program} {ops : Array Oper} {rest : List Oper} {o : Oper} {a : Act} {w w0 : World} {Q : Exit → Act → World → Prop}
theorem wpList_load_row (ty : TypeId) (x : Operand) (ho : o.op = .load ty x) (hgd : o.guard = none) (ad : Addr) (hx : a.eval x = .pointer (some ad)) {d : TypeDesc} (hu : P.underlying ty = some d)
    (hd : (match d with | .struct _ | .array _ _ => true | _ => false) = true) (vs : List Value) (hi : (P.info? ty).map (·.size) = some vs.length) (hvs : ∀ j v, vs[j]? = some v → w.cell? (ad.add j) = some v)
    (h : wpList P ops Q rest (a.put o.dst (.agg vs.toArray)) w) : wpList P ops Q (o :: rest) a w :=
  wpList_step fun K hK => by
    rw [if_pos (by simp [Region.wanted, hgd])]
    have hl : (loadCells ad vs.length).run P w = .ok vs.toArray w := run_loadCells_list (P := P) w ad vs hvs
    have e : (loadVar ty ad).run P w = .ok (.agg vs.toArray) w := by
      cases hq : P.info? ty with
      | none => simp [hq] at hi
      | some i =>
        have hs : i.size = vs.length := by simpa [hq] using hi
        have hagg : (isAgg ty).run P w = .ok true w := by
          unfold isAgg
          rw [Sem.run_bind, run_underlying hu w]
          cases d <;> simp_all
        simp [loadVar, Sem.run_bind, hagg, sizeOf, typeInfo, hq, hs, hl]
    unfold Oper.wp execOp
    simp only [ho, hx, Instr.loadAt, Instr.sureAddr, Sem.run_bind, Sem.run_pure, Result.andThen_ok, e]
    exact hK _ _ h
end
theorem infoK : (Try.prog.info? 38).map (·.size) = some 2 := by kernel_rfl
theorem infoE : (Try.prog.info? 40).map (·.size) = some 20 := by kernel_rfl
abbrev kcs (k : S38) : List Value := [.string k.f0, .int .i64 k.f1]
abbrev ecs (x : S40) : List Value := [.string x.f0.f0, .int .i64 x.f0.f1, .bool x.f1.f0, .bool x.f1.f1, .bool x.f1.f2, .bool x.f1.f3, .bool x.f1.f4, .bool x.f1.f5, .int .i64 x.f1.f6.f0, .int .i64 x.f1.f6.f1, .string x.f1.f6.f2, .int .i64 x.f1.f7.f0, .int .i64 x.f1.f7.f1, .string x.f1.f7.f2, .int .i64 x.f1.f8.f0, .int .i64 x.f1.f8.f1, .string x.f1.f8.f2, .bool x.f1.f9, .bool x.f1.f10, .bool x.f1.f11]
theorem zeroK (w : World) : (zeroValue 38).run Try.prog w = .ok (.agg (kcs z38).toArray) w := by kernel_rfl
theorem zeroE (w : World) : (zeroValue 40).run Try.prog w = .ok (.agg (ecs z40).toArray) w := by kernel_rfl
theorem row_k {w : World} {A : Option Addr} {ks : List S38} (h : Kd.C k38 w A ks.length ks) {k : Nat} (hk : k < ks.length) :
    ∃ ad, A = some ad ∧ ∀ j v, (kcs ks[k])[j]? = some v → w.cell? ((ad.add (k * 2)).add j) = some v := by
  obtain ⟨ad, c, e, -, hK, hc⟩ := Kd.C_get h z38 k (by omega) (by omega)
  obtain rfl := k38_open hK
  refine ⟨ad, e, fun j v hj => ?_⟩
  rw [Go.Deep.add_add]
  have := hc j v (by simpa [List.getD_eq_getElem?_getD, List.getElem?_eq_getElem hk] using hj)
  have hz : k38.sz = 2 := rfl
  rw [hz] at this
  simpa using this
theorem row_e {w : World} {A : Option Addr} {es : List S40} (h : Kd.C k40 w A es.length es) {k : Nat} (hk : k < es.length) :
    ∃ ad, A = some ad ∧ ∀ j v, (ecs es[k])[j]? = some v → w.cell? ((ad.add (k * 20)).add j) = some v := by
  obtain ⟨ad, c, e, -, hK, hc⟩ := Kd.C_get h z40 k (by omega) (by omega)
  obtain rfl := k40_open hK
  refine ⟨ad, e, fun j v hj => ?_⟩
  rw [Go.Deep.add_add]
  have := hc j v (by simpa [List.getD_eq_getElem?_getD, List.getElem?_eq_getElem hk] using hj)
  have hz : k40.sz = 20 := rfl
  rw [hz] at this
  simpa using this
theorem cell_keep {w0 w : World} {L : List (Nat × Obj)} (M : Own nobody w0 w L) {a : Addr} {v : Value} (h : w0.cell? a = some v) : w.cell? a = some v := by
  refine (M.below.cell ?_).trans h
  unfold World.cell? at h
  split at h
  · rename_i hb
    exact (Array.getElem?_eq_some_iff.1 hb).1
  · cases h
/-! ### what Keys tells -/
def keysB (ext : Bool) (es : List S40) (ks : List S38) : Bool :=
  decide ks.Nodup && (es.all (fun e => decide (e.f0 ∈ ks) || (ext && e.f1.f11)) && ks.all fun k => ext || decide (k ∈ es.map S40.f0))
theorem ret_bool {b c : Bool} (h : b = c) : Ending.returned (.bool b) = Ending.returned (.bool c) := by rw [h]
theorem nodup_take {ks : List S38} {k : Nat} (hk : k < ks.length) (h : ks[k] ∈ ks.take k) : ¬ ks.Nodup := fun hn => by
  have h1 : ks.take (k + 1) = ks.take k ++ [ks[k]] := List.take_succ_eq_append_getElem hk
  have h2 : (ks.take (k + 1)).Nodup := hn.sublist (List.take_sublist _ _)
  rw [h1, List.nodup_append] at h2
  exact h2.2.2 _ h _ (List.mem_singleton.2 rfl) rfl
set_option maxHeartbeats 4000000 in
theorem keys_t (A B : Option Addr) (c d : Nat) (es : List S40) (ks : List S38) (w0 : World) (hE : Kd.C k40 w0 A es.length es) (hK : Kd.C k38 w0 B ks.length ks) :
    Calls Try.prog 16 #[.bool true, .slice A es.length c, .slice B ks.length d] w0 fun e w' => e = .returned (.bool (keysB true es ks)) ∧ Below w0.heap.size w0 w' := by
  have M := Own.refl nobody w0
  have hel := hE.2.1
  have hkl := hK.2.1
  go_enter Try.func16, Try.ntmps16
  go_wp2_with (first
    | ((with_reducible refine at_makeMap 53 rfl ?_); refine own_makeMap M rfl rfl ?_; clear M; intro gm w M; try simp only [Act.put, List.setIfInBounds_toArray, List.set_cons_zero, List.set_cons_succ]))
  go_loopw [18] (fun i wr => ∃ k : Nat, k ≤ ks.length ∧ i = .int .i64 k ∧ (ks.take k).Nodup ∧ ∃ es cl, Set es (ks.take k) ∧ Own nobody w0 wr [(gm, .map es cl)])
    (fun i _ => ks.length - (intOf i).toNat)
  case atStart => exact ⟨0, Nat.zero_le _, rfl, by simp, #[], 0, by simp [Set], M⟩
  case round =>
    clear M
    obtain ⟨k, hk, rfl, hnd, es1, cl1, hs1, M⟩ := hrel
    by_cases hlt : k < ks.length
    · obtain ⟨ad, rfl, hcell0⟩ := row_k hK hlt
      have hcell : ∀ j v, (kcs ks[k])[j]? = some v → wr.cell? ((ad.add (k * 2)).add j) = some v := fun j v hv => cell_keep M (hcell0 j v hv)
      have hdup : ks[k] ∈ ks.take k → keysB true es ks = false := fun h => by
        have := nodup_take hlt h
        simp [keysB, this]
      have htk : ks.take (k + 1) = ks.take k ++ [ks[k]] := List.take_succ_eq_append_getElem hlt
      generalize ks[k] = q at hcell hdup htk
      clear hcell0 hE hK
      go_wp2_with (first
        | ((with_reducible refine at_load 38 _ rfl ?_); refine wpList_load_row 38 _ rfl rfl (ad.add (k * 2)) rfl Try.underlying38 rfl (kcs q) infoK hcell ?_; (try simp only [Act.put, List.setIfInBounds_toArray, List.set_cons_zero, List.set_cons_succ]))
        | ((with_reducible refine at_load 38 _ rfl ?_); (first | refine own_loadN M 38 _ rfl rfl _ _ rfl 0 rfl Try.underlying38 rfl 2 infoK (Nat.le_of_ble_eq_true rfl) ?_ | refine own_loadN M 38 _ rfl rfl _ _ rfl 1 rfl Try.underlying38 rfl 2 infoK (Nat.le_of_ble_eq_true rfl) ?_ | refine own_loadN M 38 _ rfl rfl _ _ rfl 2 rfl Try.underlying38 rfl 2 infoK (Nat.le_of_ble_eq_true rfl) ?_ | refine own_loadN M 38 _ rfl rfl _ _ rfl 3 rfl Try.underlying38 rfl 2 infoK (Nat.le_of_ble_eq_true rfl) ?_ | refine own_loadN M 38 _ rfl rfl _ _ rfl 4 rfl Try.underlying38 rfl 2 infoK (Nat.le_of_ble_eq_true rfl) ?_); simp only [List.drop_succ_cons, List.drop_zero, List.take_succ_cons, List.take_zero]; try simp only [Act.put, List.setIfInBounds_toArray, List.set_cons_zero, List.set_cons_succ])
        | ((with_reducible refine at_alloc 38 rfl ?_); refine own_alloc M 38 rfl rfl zeroK rfl ?_; clear M; intro g w M; try simp only [Act.put, List.setIfInBounds_toArray, List.set_cons_zero, List.set_cons_succ])
        | ((with_reducible refine at_store 38 _ (.tmp _) rfl ?_); refine own_storeT M 38 _ _ rfl rfl _ _ rfl rfl rfl 0 rfl infoK rfl (Nat.le_of_ble_eq_true rfl) ?_; clear M; intro w M; simp only [List.set_cons_zero, List.set_cons_succ, List.drop_succ_cons, List.drop_zero, List.take_succ_cons, List.take_zero, List.cons_append, List.nil_append, List.append_nil, List.length_cons, List.length_nil, Nat.zero_add, Nat.reduceAdd, List.drop_nil] at M)
        | ((with_reducible refine at_lookup 53 _ _ rfl ?_); refine own_lookup M _ _ rfl rfl gm rfl q rfl 1 rfl hs1 ?_; (try simp only [Act.put, List.setIfInBounds_toArray, List.set_cons_zero, List.set_cons_succ]))
        | ((with_reducible refine at_update 53 _ _ _ rfl ?_); refine own_update M _ _ rfl rfl gm rfl q rfl 1 rfl hs1 ?_; clear M; intro w es2 cl2 hs2 M; simp only [List.set_cons_zero, List.set_cons_succ] at M; (try simp only [Act.put, List.setIfInBounds_toArray, List.set_cons_zero, List.set_cons_succ])))
      · go_ret
        exact ⟨ret_bool (hdup (by first | assumption | simp_all)).symm, M.below⟩
      · have hnq : q ∉ ks.take k := by first | assumption | simp_all
        rw [if_neg hnq, ← htk] at hs2
        refine ⟨⟨k + 1, by omega, by go_num, ?_, _, _, hs2, M.tail⟩, by simp [intOf]; omega⟩
        rw [htk, List.nodup_append]
        exact ⟨hnd, by simp, fun a ha b hb => by rw [List.mem_singleton.1 hb]; exact fun e => hnq (e ▸ ha)⟩
    · obtain rfl : k = ks.length := by omega
      rw [List.take_length] at hnd hs1
      go_wp2_with (first
        | ((with_reducible refine at_makeMap 53 rfl ?_); refine own_makeMap M rfl rfl ?_; clear M; intro ga w M; try simp only [Act.put, List.setIfInBounds_toArray, List.set_cons_zero, List.set_cons_succ]))
      go_loopw [31] (fun i wr => ∃ k : Nat, k ≤ es.length ∧ i = .int .i64 k ∧ (∀ e ∈ es.take k, (decide (e.f0 ∈ ks) || (true && e.f1.f11)) = true) ∧ ∃ ds es2 cl2, (∀ x, x ∈ ds ↔ x ∈ (es.take k).map S40.f0) ∧ Set es2 ds ∧ Own nobody w0 wr [(ga, .map es2 cl2), (gm, .map es1 cl1)])
        (fun i _ => es.length - (intOf i).toNat)
      case atStart => exact ⟨0, Nat.zero_le _, rfl, by simp, [], #[], 0, by simp, by simp [Set], M⟩
      case round =>
        clear M
        obtain ⟨k, hk, rfl, hall, ds, es2, cl2, hds, hs2, M⟩ := hrel
        by_cases hlt : k < es.length
        · obtain ⟨ad, rfl, hcell0⟩ := row_e hE hlt
          have hcell : ∀ j v, (ecs es[k])[j]? = some v → wr.cell? ((ad.add (k * 20)).add j) = some v := fun j v hv => cell_keep M (hcell0 j v hv)
          have hbad : (decide (es[k].f0 ∈ ks) || (true && es[k].f1.f11)) = false → keysB true es ks = false := fun h => by
            have h1 : (es.all fun e => decide (e.f0 ∈ ks) || (true && e.f1.f11)) = false := by
              rw [List.all_eq_false]
              exact ⟨es[k], List.getElem_mem hlt, by rw [h]; simp⟩
            unfold keysB
            rw [h1, Bool.false_and, Bool.and_false]
          have htk : es.take (k + 1) = es.take k ++ [es[k]] := List.take_succ_eq_append_getElem hlt
          generalize es[k] = q at hcell hbad htk
          have next : (decide (q.f0 ∈ ks) || (true && q.f1.f11)) = true → ∀ (wr' : World) (es3 : Array MapEntry) (cl3 g : Nat) (o : Obj), Set es3 (if q.f0 ∈ ds then ds else ds ++ [q.f0]) → Own nobody w0 wr' [(g, o), (ga, .map es3 cl3), (gm, .map es1 cl1)] →
              ∃ k' : Nat, k' ≤ es.length ∧ Value.int .i64 ((k : Int) + 1) = .int .i64 k' ∧ (∀ e ∈ es.take k', (decide (e.f0 ∈ ks) || (true && e.f1.f11)) = true) ∧ ∃ ds es2 cl2, (∀ x, x ∈ ds ↔ x ∈ (es.take k').map S40.f0) ∧ Set es2 ds ∧ Own nobody w0 wr' [(ga, .map es2 cl2), (gm, .map es1 cl1)] := by
            intro hq wr' es3 cl3 g o hs3 M
            refine ⟨k + 1, by omega, by go_num, fun e he => ?_, _, es3, cl3, fun x => ?_, hs3, M.tail⟩
            · rw [htk, List.mem_append] at he
              rcases he with he | he
              · exact hall e he
              · rw [List.mem_singleton.1 he]; exact hq
            · rw [htk, List.map_append, List.mem_append, ← hds]
              by_cases c : q.f0 ∈ ds
              · rw [if_pos c]
                simp only [List.map_cons, List.map_nil, List.mem_singleton]
                exact ⟨.inl, fun h => h.elim id fun e => e ▸ c⟩
              · rw [if_neg c]
                simp
          clear hcell0 hE hK
          go_wp2_with (first
            | ((with_reducible refine at_guard (_, _) rfl ?_); (refine own_guard rfl rfl rfl ?_ ?_ <;> (intro hc; (try simp only [Bool.not_true, Bool.not_false, Bool.not_eq_true', Bool.not_eq_false', reduceCtorEq] at hc); (try simp only [hc, Bool.not_true, Bool.not_false]))); try simp only [Act.put, List.setIfInBounds_toArray, List.set_cons_zero, List.set_cons_succ])
            | ((with_reducible refine at_load 40 _ rfl ?_); refine wpList_load_row 40 _ rfl rfl (ad.add (k * 20)) rfl Try.underlying40 rfl (ecs q) infoE hcell ?_; (try simp only [Act.put, List.setIfInBounds_toArray, List.set_cons_zero, List.set_cons_succ]))
            | ((with_reducible refine at_load 38 _ rfl ?_); (first | refine own_loadN M 38 _ rfl rfl _ _ rfl 0 rfl Try.underlying38 rfl 2 infoK (Nat.le_of_ble_eq_true rfl) ?_ | refine own_loadN M 38 _ rfl rfl _ _ rfl 1 rfl Try.underlying38 rfl 2 infoK (Nat.le_of_ble_eq_true rfl) ?_ | refine own_loadN M 38 _ rfl rfl _ _ rfl 2 rfl Try.underlying38 rfl 2 infoK (Nat.le_of_ble_eq_true rfl) ?_ | refine own_loadN M 38 _ rfl rfl _ _ rfl 3 rfl Try.underlying38 rfl 2 infoK (Nat.le_of_ble_eq_true rfl) ?_ | refine own_loadN M 38 _ rfl rfl _ _ rfl 4 rfl Try.underlying38 rfl 2 infoK (Nat.le_of_ble_eq_true rfl) ?_); simp only [List.drop_succ_cons, List.drop_zero, List.take_succ_cons, List.take_zero]; try simp only [Act.put, List.setIfInBounds_toArray, List.set_cons_zero, List.set_cons_succ])
            | ((with_reducible refine at_load 4 _ rfl ?_); (first | refine own_load1 M 4 _ rfl rfl _ _ rfl 0 rfl Try.underlying4 rfl rfl ?_ | refine own_load1 M 4 _ rfl rfl _ _ rfl 1 rfl Try.underlying4 rfl rfl ?_ | refine own_load1 M 4 _ rfl rfl _ _ rfl 2 rfl Try.underlying4 rfl rfl ?_ | refine own_load1 M 4 _ rfl rfl _ _ rfl 3 rfl Try.underlying4 rfl rfl ?_ | refine own_load1 M 4 _ rfl rfl _ _ rfl 4 rfl Try.underlying4 rfl rfl ?_); try simp only [Act.put, List.setIfInBounds_toArray, List.set_cons_zero, List.set_cons_succ])
            | ((with_reducible refine at_alloc 40 rfl ?_); refine own_alloc M 40 rfl rfl zeroE rfl ?_; clear M; intro g w M; try simp only [Act.put, List.setIfInBounds_toArray, List.set_cons_zero, List.set_cons_succ])
            | ((with_reducible refine at_store 40 _ (.tmp _) rfl ?_); refine own_storeT M 40 _ _ rfl rfl _ _ rfl rfl rfl 0 rfl infoE rfl (Nat.le_of_ble_eq_true rfl) ?_; clear M; intro w M; simp only [List.set_cons_zero, List.set_cons_succ, List.drop_succ_cons, List.drop_zero, List.take_succ_cons, List.take_zero, List.cons_append, List.nil_append, List.append_nil, List.length_cons, List.length_nil, Nat.zero_add, Nat.reduceAdd, List.drop_nil] at M)
            | ((with_reducible refine at_lookup 53 _ _ rfl ?_); refine own_lookup M _ _ rfl rfl gm rfl q.f0 rfl 2 rfl hs1 ?_; (try simp only [Act.put, List.setIfInBounds_toArray, List.set_cons_zero, List.set_cons_succ]))
            | ((with_reducible refine at_update 53 _ _ _ rfl ?_); refine own_update M _ _ rfl rfl ga rfl q.f0 rfl 1 rfl hs2 ?_; clear M; intro w es3 cl3 hs3 M; simp only [List.set_cons_zero, List.set_cons_succ] at M; (try simp only [Act.put, List.setIfInBounds_toArray, List.set_cons_zero, List.set_cons_succ])))
          all_goals first
            | (go_ret; exact ⟨ret_bool (hbad (by simp_all)).symm, M.below⟩)
            | exact ⟨next (by simp_all) _ _ _ _ _ hs3 M, by simp [intOf]; omega⟩
        · obtain rfl : k = es.length := by omega
          rw [List.take_length] at hall hds
          go_wp2
          go_loopw [56] (fun i wr => ∃ k : Nat, k ≤ ks.length ∧ i = .int .i64 k ∧ (∀ x ∈ ks.take k, (true || decide (x ∈ es.map S40.f0)) = true) ∧ Own nobody w0 wr [(ga, .map es2 cl2), (gm, .map es1 cl1)])
            (fun i _ => ks.length - (intOf i).toNat)
          case atStart => exact ⟨0, Nat.zero_le _, rfl, by simp, M⟩
          case round =>
            clear M
            obtain ⟨k, hk, rfl, hin, M⟩ := hrel
            by_cases hlt : k < ks.length
            · obtain ⟨ad, rfl, hcell0⟩ := row_k hK hlt
              have hcell : ∀ j v, (kcs ks[k])[j]? = some v → wr.cell? ((ad.add (k * 2)).add j) = some v := fun j v hv => cell_keep M (hcell0 j v hv)
              have hbad : (true || decide (ks[k] ∈ es.map S40.f0)) = false → keysB true es ks = false := fun h => by
                have h1 : (ks.all fun k => true || decide (k ∈ es.map S40.f0)) = false := by
                  rw [List.all_eq_false]
                  exact ⟨ks[k], List.getElem_mem hlt, by rw [h]; simp⟩
                unfold keysB
                rw [h1, Bool.and_false, Bool.and_false]
              have htk : ks.take (k + 1) = ks.take k ++ [ks[k]] := List.take_succ_eq_append_getElem hlt
              generalize ks[k] = q at hcell hbad htk
              have hdq := hds q
              have next : (true || decide (q ∈ es.map S40.f0)) = true → ∀ (wr' : World) (g : Nat) (o : Obj), Own nobody w0 wr' [(g, o), (ga, .map es2 cl2), (gm, .map es1 cl1)] →
                  ∃ k' : Nat, k' ≤ ks.length ∧ Value.int .i64 ((k : Int) + 1) = .int .i64 k' ∧ (∀ x ∈ ks.take k', (true || decide (x ∈ es.map S40.f0)) = true) ∧ Own nobody w0 wr' [(ga, .map es2 cl2), (gm, .map es1 cl1)] := by
                intro hq wr' g o M
                refine ⟨k + 1, by omega, by go_num, fun x hx => ?_, M.tail⟩
                rw [htk, List.mem_append] at hx
                rcases hx with hx | hx
                · exact hin x hx
                · rw [List.mem_singleton.1 hx]; exact hq
              clear hcell0 hE hK
              go_wp2_with (first
                | ((with_reducible refine at_guard (_, _) rfl ?_); (refine own_guard rfl rfl rfl ?_ ?_ <;> (intro hc; (try simp only [Bool.not_true, Bool.not_false, Bool.not_eq_true', Bool.not_eq_false', reduceCtorEq] at hc); (try simp only [hc, Bool.not_true, Bool.not_false]))); try simp only [Act.put, List.setIfInBounds_toArray, List.set_cons_zero, List.set_cons_succ])
                | ((with_reducible refine at_load 38 _ rfl ?_); refine wpList_load_row 38 _ rfl rfl (ad.add (k * 2)) rfl Try.underlying38 rfl (kcs q) infoK hcell ?_; (try simp only [Act.put, List.setIfInBounds_toArray, List.set_cons_zero, List.set_cons_succ]))
                | ((with_reducible refine at_load 38 _ rfl ?_); (first | refine own_loadN M 38 _ rfl rfl _ _ rfl 0 rfl Try.underlying38 rfl 2 infoK (Nat.le_of_ble_eq_true rfl) ?_ | refine own_loadN M 38 _ rfl rfl _ _ rfl 1 rfl Try.underlying38 rfl 2 infoK (Nat.le_of_ble_eq_true rfl) ?_ | refine own_loadN M 38 _ rfl rfl _ _ rfl 2 rfl Try.underlying38 rfl 2 infoK (Nat.le_of_ble_eq_true rfl) ?_ | refine own_loadN M 38 _ rfl rfl _ _ rfl 3 rfl Try.underlying38 rfl 2 infoK (Nat.le_of_ble_eq_true rfl) ?_ | refine own_loadN M 38 _ rfl rfl _ _ rfl 4 rfl Try.underlying38 rfl 2 infoK (Nat.le_of_ble_eq_true rfl) ?_); simp only [List.drop_succ_cons, List.drop_zero, List.take_succ_cons, List.take_zero]; try simp only [Act.put, List.setIfInBounds_toArray, List.set_cons_zero, List.set_cons_succ])
                | ((with_reducible refine at_alloc 38 rfl ?_); refine own_alloc M 38 rfl rfl zeroK rfl ?_; clear M; intro g w M; try simp only [Act.put, List.setIfInBounds_toArray, List.set_cons_zero, List.set_cons_succ])
                | ((with_reducible refine at_store 38 _ (.tmp _) rfl ?_); refine own_storeT M 38 _ _ rfl rfl _ _ rfl rfl rfl 0 rfl infoK rfl (Nat.le_of_ble_eq_true rfl) ?_; clear M; intro w M; simp only [List.set_cons_zero, List.set_cons_succ, List.drop_succ_cons, List.drop_zero, List.take_succ_cons, List.take_zero, List.cons_append, List.nil_append, List.append_nil, List.length_cons, List.length_nil, Nat.zero_add, Nat.reduceAdd, List.drop_nil] at M)
                | ((with_reducible refine at_lookup 53 _ _ rfl ?_); refine own_lookup M _ _ rfl rfl ga rfl q rfl 1 rfl hs2 ?_; (try simp only [Act.put, List.setIfInBounds_toArray, List.set_cons_zero, List.set_cons_succ])))
              all_goals first
                | (go_ret; exact ⟨ret_bool (hbad (by simp_all)).symm, M.below⟩)
                | exact ⟨next (by simp_all) _ _ _ M, by simp [intOf]; omega⟩
            · obtain rfl : k = ks.length := by omega
              rw [List.take_length] at hin
              go_wp2
              go_ret
              refine ⟨ret_bool ?_, M.below⟩
              simp only [keysB, Bool.true_eq, Bool.and_eq_true, decide_eq_true_eq, List.all_eq_true]
              exact ⟨hnd, hall, hin⟩
set_option maxHeartbeats 4000000 in
theorem keys_f (A B : Option Addr) (c d : Nat) (es : List S40) (ks : List S38) (w0 : World) (hE : Kd.C k40 w0 A es.length es) (hK : Kd.C k38 w0 B ks.length ks) :
    Calls Try.prog 16 #[.bool false, .slice A es.length c, .slice B ks.length d] w0 fun e w' => e = .returned (.bool (keysB false es ks)) ∧ Below w0.heap.size w0 w' := by
  have M := Own.refl nobody w0
  have hel := hE.2.1
  have hkl := hK.2.1
  go_enter Try.func16, Try.ntmps16
  go_wp2_with (first
    | ((with_reducible refine at_makeMap 53 rfl ?_); refine own_makeMap M rfl rfl ?_; clear M; intro gm w M; try simp only [Act.put, List.setIfInBounds_toArray, List.set_cons_zero, List.set_cons_succ]))
  go_loopw [18] (fun i wr => ∃ k : Nat, k ≤ ks.length ∧ i = .int .i64 k ∧ (ks.take k).Nodup ∧ ∃ es cl, Set es (ks.take k) ∧ Own nobody w0 wr [(gm, .map es cl)])
    (fun i _ => ks.length - (intOf i).toNat)
  case atStart => exact ⟨0, Nat.zero_le _, rfl, by simp, #[], 0, by simp [Set], M⟩
  case round =>
    clear M
    obtain ⟨k, hk, rfl, hnd, es1, cl1, hs1, M⟩ := hrel
    by_cases hlt : k < ks.length
    · obtain ⟨ad, rfl, hcell0⟩ := row_k hK hlt
      have hcell : ∀ j v, (kcs ks[k])[j]? = some v → wr.cell? ((ad.add (k * 2)).add j) = some v := fun j v hv => cell_keep M (hcell0 j v hv)
      have hdup : ks[k] ∈ ks.take k → keysB false es ks = false := fun h => by
        have := nodup_take hlt h
        simp [keysB, this]
      have htk : ks.take (k + 1) = ks.take k ++ [ks[k]] := List.take_succ_eq_append_getElem hlt
      generalize ks[k] = q at hcell hdup htk
      clear hcell0 hE hK
      go_wp2_with (first
        | ((with_reducible refine at_load 38 _ rfl ?_); refine wpList_load_row 38 _ rfl rfl (ad.add (k * 2)) rfl Try.underlying38 rfl (kcs q) infoK hcell ?_; (try simp only [Act.put, List.setIfInBounds_toArray, List.set_cons_zero, List.set_cons_succ]))
        | ((with_reducible refine at_load 38 _ rfl ?_); (first | refine own_loadN M 38 _ rfl rfl _ _ rfl 0 rfl Try.underlying38 rfl 2 infoK (Nat.le_of_ble_eq_true rfl) ?_ | refine own_loadN M 38 _ rfl rfl _ _ rfl 1 rfl Try.underlying38 rfl 2 infoK (Nat.le_of_ble_eq_true rfl) ?_ | refine own_loadN M 38 _ rfl rfl _ _ rfl 2 rfl Try.underlying38 rfl 2 infoK (Nat.le_of_ble_eq_true rfl) ?_ | refine own_loadN M 38 _ rfl rfl _ _ rfl 3 rfl Try.underlying38 rfl 2 infoK (Nat.le_of_ble_eq_true rfl) ?_ | refine own_loadN M 38 _ rfl rfl _ _ rfl 4 rfl Try.underlying38 rfl 2 infoK (Nat.le_of_ble_eq_true rfl) ?_); simp only [List.drop_succ_cons, List.drop_zero, List.take_succ_cons, List.take_zero]; try simp only [Act.put, List.setIfInBounds_toArray, List.set_cons_zero, List.set_cons_succ])
        | ((with_reducible refine at_alloc 38 rfl ?_); refine own_alloc M 38 rfl rfl zeroK rfl ?_; clear M; intro g w M; try simp only [Act.put, List.setIfInBounds_toArray, List.set_cons_zero, List.set_cons_succ])
        | ((with_reducible refine at_store 38 _ (.tmp _) rfl ?_); refine own_storeT M 38 _ _ rfl rfl _ _ rfl rfl rfl 0 rfl infoK rfl (Nat.le_of_ble_eq_true rfl) ?_; clear M; intro w M; simp only [List.set_cons_zero, List.set_cons_succ, List.drop_succ_cons, List.drop_zero, List.take_succ_cons, List.take_zero, List.cons_append, List.nil_append, List.append_nil, List.length_cons, List.length_nil, Nat.zero_add, Nat.reduceAdd, List.drop_nil] at M)
        | ((with_reducible refine at_lookup 53 _ _ rfl ?_); refine own_lookup M _ _ rfl rfl gm rfl q rfl 1 rfl hs1 ?_; (try simp only [Act.put, List.setIfInBounds_toArray, List.set_cons_zero, List.set_cons_succ]))
        | ((with_reducible refine at_update 53 _ _ _ rfl ?_); refine own_update M _ _ rfl rfl gm rfl q rfl 1 rfl hs1 ?_; clear M; intro w es2 cl2 hs2 M; simp only [List.set_cons_zero, List.set_cons_succ] at M; (try simp only [Act.put, List.setIfInBounds_toArray, List.set_cons_zero, List.set_cons_succ])))
      · go_ret
        exact ⟨ret_bool (hdup (by first | assumption | simp_all)).symm, M.below⟩
      · have hnq : q ∉ ks.take k := by first | assumption | simp_all
        rw [if_neg hnq, ← htk] at hs2
        refine ⟨⟨k + 1, by omega, by go_num, ?_, _, _, hs2, M.tail⟩, by simp [intOf]; omega⟩
        rw [htk, List.nodup_append]
        exact ⟨hnd, by simp, fun a ha b hb => by rw [List.mem_singleton.1 hb]; exact fun e => hnq (e ▸ ha)⟩
    · obtain rfl : k = ks.length := by omega
      rw [List.take_length] at hnd hs1
      go_wp2_with (first
        | ((with_reducible refine at_makeMap 53 rfl ?_); refine own_makeMap M rfl rfl ?_; clear M; intro ga w M; try simp only [Act.put, List.setIfInBounds_toArray, List.set_cons_zero, List.set_cons_succ]))
      go_loopw [31] (fun i wr => ∃ k : Nat, k ≤ es.length ∧ i = .int .i64 k ∧ (∀ e ∈ es.take k, (decide (e.f0 ∈ ks) || (false && e.f1.f11)) = true) ∧ ∃ ds es2 cl2, (∀ x, x ∈ ds ↔ x ∈ (es.take k).map S40.f0) ∧ Set es2 ds ∧ Own nobody w0 wr [(ga, .map es2 cl2), (gm, .map es1 cl1)])
        (fun i _ => es.length - (intOf i).toNat)
      case atStart => exact ⟨0, Nat.zero_le _, rfl, by simp, [], #[], 0, by simp, by simp [Set], M⟩
      case round =>
        clear M
        obtain ⟨k, hk, rfl, hall, ds, es2, cl2, hds, hs2, M⟩ := hrel
        by_cases hlt : k < es.length
        · obtain ⟨ad, rfl, hcell0⟩ := row_e hE hlt
          have hcell : ∀ j v, (ecs es[k])[j]? = some v → wr.cell? ((ad.add (k * 20)).add j) = some v := fun j v hv => cell_keep M (hcell0 j v hv)
          have hbad : (decide (es[k].f0 ∈ ks) || (false && es[k].f1.f11)) = false → keysB false es ks = false := fun h => by
            have h1 : (es.all fun e => decide (e.f0 ∈ ks) || (false && e.f1.f11)) = false := by
              rw [List.all_eq_false]
              exact ⟨es[k], List.getElem_mem hlt, by rw [h]; simp⟩
            unfold keysB
            rw [h1, Bool.false_and, Bool.and_false]
          have htk : es.take (k + 1) = es.take k ++ [es[k]] := List.take_succ_eq_append_getElem hlt
          generalize es[k] = q at hcell hbad htk
          have next : (decide (q.f0 ∈ ks) || (false && q.f1.f11)) = true → ∀ (wr' : World) (es3 : Array MapEntry) (cl3 g : Nat) (o : Obj), Set es3 (if q.f0 ∈ ds then ds else ds ++ [q.f0]) → Own nobody w0 wr' [(g, o), (ga, .map es3 cl3), (gm, .map es1 cl1)] →
              ∃ k' : Nat, k' ≤ es.length ∧ Value.int .i64 ((k : Int) + 1) = .int .i64 k' ∧ (∀ e ∈ es.take k', (decide (e.f0 ∈ ks) || (false && e.f1.f11)) = true) ∧ ∃ ds es2 cl2, (∀ x, x ∈ ds ↔ x ∈ (es.take k').map S40.f0) ∧ Set es2 ds ∧ Own nobody w0 wr' [(ga, .map es2 cl2), (gm, .map es1 cl1)] := by
            intro hq wr' es3 cl3 g o hs3 M
            refine ⟨k + 1, by omega, by go_num, fun e he => ?_, _, es3, cl3, fun x => ?_, hs3, M.tail⟩
            · rw [htk, List.mem_append] at he
              rcases he with he | he
              · exact hall e he
              · rw [List.mem_singleton.1 he]; exact hq
            · rw [htk, List.map_append, List.mem_append, ← hds]
              by_cases c : q.f0 ∈ ds
              · rw [if_pos c]
                simp only [List.map_cons, List.map_nil, List.mem_singleton]
                exact ⟨.inl, fun h => h.elim id fun e => e ▸ c⟩
              · rw [if_neg c]
                simp
          clear hcell0 hE hK
          go_wp2_with (first
            | ((with_reducible refine at_guard (_, _) rfl ?_); (refine own_guard rfl rfl rfl ?_ ?_ <;> (intro hc; (try simp only [Bool.not_true, Bool.not_false, Bool.not_eq_true', Bool.not_eq_false', reduceCtorEq] at hc); (try simp only [hc, Bool.not_true, Bool.not_false]))); try simp only [Act.put, List.setIfInBounds_toArray, List.set_cons_zero, List.set_cons_succ])
            | ((with_reducible refine at_load 40 _ rfl ?_); refine wpList_load_row 40 _ rfl rfl (ad.add (k * 20)) rfl Try.underlying40 rfl (ecs q) infoE hcell ?_; (try simp only [Act.put, List.setIfInBounds_toArray, List.set_cons_zero, List.set_cons_succ]))
            | ((with_reducible refine at_load 38 _ rfl ?_); (first | refine own_loadN M 38 _ rfl rfl _ _ rfl 0 rfl Try.underlying38 rfl 2 infoK (Nat.le_of_ble_eq_true rfl) ?_ | refine own_loadN M 38 _ rfl rfl _ _ rfl 1 rfl Try.underlying38 rfl 2 infoK (Nat.le_of_ble_eq_true rfl) ?_ | refine own_loadN M 38 _ rfl rfl _ _ rfl 2 rfl Try.underlying38 rfl 2 infoK (Nat.le_of_ble_eq_true rfl) ?_ | refine own_loadN M 38 _ rfl rfl _ _ rfl 3 rfl Try.underlying38 rfl 2 infoK (Nat.le_of_ble_eq_true rfl) ?_ | refine own_loadN M 38 _ rfl rfl _ _ rfl 4 rfl Try.underlying38 rfl 2 infoK (Nat.le_of_ble_eq_true rfl) ?_); simp only [List.drop_succ_cons, List.drop_zero, List.take_succ_cons, List.take_zero]; try simp only [Act.put, List.setIfInBounds_toArray, List.set_cons_zero, List.set_cons_succ])
            | ((with_reducible refine at_load 4 _ rfl ?_); (first | refine own_load1 M 4 _ rfl rfl _ _ rfl 0 rfl Try.underlying4 rfl rfl ?_ | refine own_load1 M 4 _ rfl rfl _ _ rfl 1 rfl Try.underlying4 rfl rfl ?_ | refine own_load1 M 4 _ rfl rfl _ _ rfl 2 rfl Try.underlying4 rfl rfl ?_ | refine own_load1 M 4 _ rfl rfl _ _ rfl 3 rfl Try.underlying4 rfl rfl ?_ | refine own_load1 M 4 _ rfl rfl _ _ rfl 4 rfl Try.underlying4 rfl rfl ?_); try simp only [Act.put, List.setIfInBounds_toArray, List.set_cons_zero, List.set_cons_succ])
            | ((with_reducible refine at_alloc 40 rfl ?_); refine own_alloc M 40 rfl rfl zeroE rfl ?_; clear M; intro g w M; try simp only [Act.put, List.setIfInBounds_toArray, List.set_cons_zero, List.set_cons_succ])
            | ((with_reducible refine at_store 40 _ (.tmp _) rfl ?_); refine own_storeT M 40 _ _ rfl rfl _ _ rfl rfl rfl 0 rfl infoE rfl (Nat.le_of_ble_eq_true rfl) ?_; clear M; intro w M; simp only [List.set_cons_zero, List.set_cons_succ, List.drop_succ_cons, List.drop_zero, List.take_succ_cons, List.take_zero, List.cons_append, List.nil_append, List.append_nil, List.length_cons, List.length_nil, Nat.zero_add, Nat.reduceAdd, List.drop_nil] at M)
            | ((with_reducible refine at_lookup 53 _ _ rfl ?_); refine own_lookup M _ _ rfl rfl gm rfl q.f0 rfl 2 rfl hs1 ?_; (try simp only [Act.put, List.setIfInBounds_toArray, List.set_cons_zero, List.set_cons_succ]))
            | ((with_reducible refine at_update 53 _ _ _ rfl ?_); refine own_update M _ _ rfl rfl ga rfl q.f0 rfl 1 rfl hs2 ?_; clear M; intro w es3 cl3 hs3 M; simp only [List.set_cons_zero, List.set_cons_succ] at M; (try simp only [Act.put, List.setIfInBounds_toArray, List.set_cons_zero, List.set_cons_succ])))
          all_goals first
            | (go_ret; exact ⟨ret_bool (hbad (by simp_all)).symm, M.below⟩)
            | exact ⟨next (by simp_all) _ _ _ _ _ hs3 M, by simp [intOf]; omega⟩
        · obtain rfl : k = es.length := by omega
          rw [List.take_length] at hall hds
          go_wp2
          go_loopw [56] (fun i wr => ∃ k : Nat, k ≤ ks.length ∧ i = .int .i64 k ∧ (∀ x ∈ ks.take k, (false || decide (x ∈ es.map S40.f0)) = true) ∧ Own nobody w0 wr [(ga, .map es2 cl2), (gm, .map es1 cl1)])
            (fun i _ => ks.length - (intOf i).toNat)
          case atStart => exact ⟨0, Nat.zero_le _, rfl, by simp, M⟩
          case round =>
            clear M
            obtain ⟨k, hk, rfl, hin, M⟩ := hrel
            by_cases hlt : k < ks.length
            · obtain ⟨ad, rfl, hcell0⟩ := row_k hK hlt
              have hcell : ∀ j v, (kcs ks[k])[j]? = some v → wr.cell? ((ad.add (k * 2)).add j) = some v := fun j v hv => cell_keep M (hcell0 j v hv)
              have hbad : (false || decide (ks[k] ∈ es.map S40.f0)) = false → keysB false es ks = false := fun h => by
                have h1 : (ks.all fun k => false || decide (k ∈ es.map S40.f0)) = false := by
                  rw [List.all_eq_false]
                  exact ⟨ks[k], List.getElem_mem hlt, by rw [h]; simp⟩
                unfold keysB
                rw [h1, Bool.and_false, Bool.and_false]
              have htk : ks.take (k + 1) = ks.take k ++ [ks[k]] := List.take_succ_eq_append_getElem hlt
              generalize ks[k] = q at hcell hbad htk
              have hdq := hds q
              have next : (false || decide (q ∈ es.map S40.f0)) = true → ∀ (wr' : World) (g : Nat) (o : Obj), Own nobody w0 wr' [(g, o), (ga, .map es2 cl2), (gm, .map es1 cl1)] →
                  ∃ k' : Nat, k' ≤ ks.length ∧ Value.int .i64 ((k : Int) + 1) = .int .i64 k' ∧ (∀ x ∈ ks.take k', (false || decide (x ∈ es.map S40.f0)) = true) ∧ Own nobody w0 wr' [(ga, .map es2 cl2), (gm, .map es1 cl1)] := by
                intro hq wr' g o M
                refine ⟨k + 1, by omega, by go_num, fun x hx => ?_, M.tail⟩
                rw [htk, List.mem_append] at hx
                rcases hx with hx | hx
                · exact hin x hx
                · rw [List.mem_singleton.1 hx]; exact hq
              clear hcell0 hE hK
              go_wp2_with (first
                | ((with_reducible refine at_guard (_, _) rfl ?_); (refine own_guard rfl rfl rfl ?_ ?_ <;> (intro hc; (try simp only [Bool.not_true, Bool.not_false, Bool.not_eq_true', Bool.not_eq_false', reduceCtorEq] at hc); (try simp only [hc, Bool.not_true, Bool.not_false]))); try simp only [Act.put, List.setIfInBounds_toArray, List.set_cons_zero, List.set_cons_succ])
                | ((with_reducible refine at_load 38 _ rfl ?_); refine wpList_load_row 38 _ rfl rfl (ad.add (k * 2)) rfl Try.underlying38 rfl (kcs q) infoK hcell ?_; (try simp only [Act.put, List.setIfInBounds_toArray, List.set_cons_zero, List.set_cons_succ]))
                | ((with_reducible refine at_load 38 _ rfl ?_); (first | refine own_loadN M 38 _ rfl rfl _ _ rfl 0 rfl Try.underlying38 rfl 2 infoK (Nat.le_of_ble_eq_true rfl) ?_ | refine own_loadN M 38 _ rfl rfl _ _ rfl 1 rfl Try.underlying38 rfl 2 infoK (Nat.le_of_ble_eq_true rfl) ?_ | refine own_loadN M 38 _ rfl rfl _ _ rfl 2 rfl Try.underlying38 rfl 2 infoK (Nat.le_of_ble_eq_true rfl) ?_ | refine own_loadN M 38 _ rfl rfl _ _ rfl 3 rfl Try.underlying38 rfl 2 infoK (Nat.le_of_ble_eq_true rfl) ?_ | refine own_loadN M 38 _ rfl rfl _ _ rfl 4 rfl Try.underlying38 rfl 2 infoK (Nat.le_of_ble_eq_true rfl) ?_); simp only [List.drop_succ_cons, List.drop_zero, List.take_succ_cons, List.take_zero]; try simp only [Act.put, List.setIfInBounds_toArray, List.set_cons_zero, List.set_cons_succ])
                | ((with_reducible refine at_alloc 38 rfl ?_); refine own_alloc M 38 rfl rfl zeroK rfl ?_; clear M; intro g w M; try simp only [Act.put, List.setIfInBounds_toArray, List.set_cons_zero, List.set_cons_succ])
                | ((with_reducible refine at_store 38 _ (.tmp _) rfl ?_); refine own_storeT M 38 _ _ rfl rfl _ _ rfl rfl rfl 0 rfl infoK rfl (Nat.le_of_ble_eq_true rfl) ?_; clear M; intro w M; simp only [List.set_cons_zero, List.set_cons_succ, List.drop_succ_cons, List.drop_zero, List.take_succ_cons, List.take_zero, List.cons_append, List.nil_append, List.append_nil, List.length_cons, List.length_nil, Nat.zero_add, Nat.reduceAdd, List.drop_nil] at M)
                | ((with_reducible refine at_lookup 53 _ _ rfl ?_); refine own_lookup M _ _ rfl rfl ga rfl q rfl 1 rfl hs2 ?_; (try simp only [Act.put, List.setIfInBounds_toArray, List.set_cons_zero, List.set_cons_succ])))
              all_goals first
                | (go_ret; exact ⟨ret_bool (hbad (by simp_all)).symm, M.below⟩)
                | exact ⟨next (by simp_all) _ _ _ M, by simp [intOf]; omega⟩
            · obtain rfl : k = ks.length := by omega
              rw [List.take_length] at hin
              go_wp2
              go_ret
              refine ⟨ret_bool ?_, M.below⟩
              simp only [keysB, Bool.true_eq, Bool.and_eq_true, decide_eq_true_eq, List.all_eq_true]
              exact ⟨hnd, hall, hin⟩
theorem keys_any (ext : Bool) (A B : Option Addr) (c d : Nat) (es : List S40) (ks : List S38) (w0 : World) (hE : Kd.C k40 w0 A es.length es) (hK : Kd.C k38 w0 B ks.length ks) :
    Calls Try.prog 16 #[.bool ext, .slice A es.length c, .slice B ks.length d] w0 fun e w' => e = .returned (.bool (keysB ext es ks)) ∧ Below w0.heap.size w0 w' := by
  cases ext
  · exact keys_f A B c d es ks w0 hE hK
  · exact keys_t A B c d es ks w0 hE hK
end Go.Proofs.Ytkdagdiampfjgaa
