/- RulesClosed, stepped through: every call of it returns true. -/
import Derived.Test.YtkdagdiampfjgaaClosedC
import Derived.WalkKit
namespace Go.Proofs.Ytkdagdiampfjgaa
open Go.RowKit PRulesClosed Go.Proofs.YtkdagdiampfjgaaW.PrintWords
set_option linter.unusedVariables false
set_option linter.unusedSimpArgs false
set_option maxRecDepth 100000
attribute [local irreducible] wpList Calls wpQuiet
theorem guardK : Try.prog.eqGuardType Try.prog.depth 38 = false := by kernel_rfl
theorem run_eql_k (w : World) (a b : S38) : (binOp .eql 38 (kv a) (kv b)).run Try.prog w = .ok (.bool (keq a b)) w := by
  simp only [binOp]
  simp [Op.equal, Op.maxDepth, eqA_k 9998]
theorem buildZ (w : World) : (zeroValue 25).run Try.prog w = .ok De.zero.val w := by kernel_rfl
section
variable {P : Program} {ops : Array Oper} {rest : List Oper} {o : Oper} {a : Act} {C : World → Prop} {R : Act → Prop}
theorem ownq_load_row (ty : TypeId) (x : Operand) (ho : o.op = .load ty x) (hgd : o.guard = none) (ad : Addr) (hx : a.eval x = .pointer (some ad)) {d : TypeDesc} (hu : P.underlying ty = some d)
    (hd : (match d with | .struct _ | .array _ _ => true | _ => false) = true) (vs : List Value) (hi : (P.info? ty).map (·.size) = some vs.length) (hvs : ∀ w, C w → ∀ j v, vs[j]? = some v → w.cell? (ad.add j) = some v)
    (h : wpQuiet P ops C R rest (a.put o.dst (.agg vs.toArray))) : wpQuiet P ops C R (o :: rest) a :=
  ownq_val hgd (fun w hw => by
    have hl : (loadCells ad vs.length).run P w = .ok vs.toArray w := run_loadCells_list (P := P) w ad vs (hvs w hw)
    have e : (loadVar ty ad).run P w = .ok (.agg vs.toArray) w := by
      cases hq : P.info? ty with
      | none => simp [hq] at hi
      | some i =>
        have hs : i.size = vs.length := by simpa [hq] using hi
        have hagg : (isAgg ty).run P w = .ok true w := by
          unfold isAgg
          rw [Sem.run_bind, run_underlying hu w]
          cases d <;> simp_all
        simp [loadVar, Sem.run_bind, hagg, sizeOf, typeInfo, hq, hs, hl]
    unfold execOp
    simp only [ho, hx, Instr.loadAt, Instr.sureAddr, Sem.run_bind, Sem.run_pure, Result.andThen_ok, e]) h
end
theorem row_ek {w : World} {A : Option Addr} {es : List S40} (h : Kd.C k40 w A es.length es) {k : Nat} (hk : k < es.length) :
    ∃ ad, A = some ad ∧ ∀ j v, (kcs es[k].f0)[j]? = some v → w.cell? ((ad.add (k * 20)).add j) = some v := by
  obtain ⟨ad, e, hc⟩ := row_e h hk
  refine ⟨ad, e, fun j v hj => hc j v ?_⟩
  match j, hj with
  | 0, hj => exact hj
  | 1, hj => exact hj
  | j + 2, hj => simp at hj
theorem keq_dec (a b : S38) : keq a b = decide (a = b) := by
  rw [Bool.eq_iff_iff, keq_iff]; simp
theorem closed_eq (es : List S40) (ks : List S38) : ((keysB false es ks && es.all fun e => decide (e.f0 ∈ ks)) && ks.all fun x => decide (x ∈ es.map S40.f0)) = keysB false es ks := by
  unfold keysB
  simp only [Bool.false_and, Bool.or_false, Bool.false_or]
  cases decide ks.Nodup <;> cases (es.all fun e => decide (e.f0 ∈ ks)) <;> cases (ks.all fun x => decide (x ∈ es.map S40.f0)) <;> rfl
set_option maxHeartbeats 8000000 in
theorem walkClosed (x : De) (h1 : x.v.s.size ≤ 1048576) (h2 : x.g.s.size ≤ 1048576) (h3 : x.s.s.size ≤ 1048576) (A B : Option Addr) (c d : Nat) (es : List S40) (ks : List S38) (w0 : World)
    (hE : Kd.C k40 w0 A es.length es) (hec : es.length ≤ c) (hK : Kd.C k38 w0 B ks.length ks) (hkc : ks.length ≤ d) :
    Calls Try.prog 4 #[x.val, .slice A es.length c, .slice B ks.length d] w0 fun e w' => e = .returned (.bool true) ∧ Below w0.heap.size w0 w' := by
  have M := Own.refl nobody w0
  have hel := hE.2.1
  have hkl := hK.2.1
  go_enter Try.func4, Try.ntmps4
  go_wp2_with (first
    | ((with_reducible refine at_guard (_, _) rfl ?_); (refine own_guard rfl rfl rfl ?_ ?_ <;> (intro hc; (try simp only [Bool.not_true, Bool.not_false, Bool.not_eq_true', Bool.not_eq_false', reduceCtorEq] at hc); (try simp only [hc, Bool.not_true, Bool.not_false]))); try simp only [Act.put, List.setIfInBounds_toArray, List.set_cons_zero, List.set_cons_succ])
    | ((with_reducible refine at_box _ _ rfl ?_); refine own_box M _ _ rfl rfl rfl ?_; clear M; intro g w M; try simp only [Act.put, List.setIfInBounds_toArray, List.set_cons_zero, List.set_cons_succ])
    | ((with_reducible refine at_load 25 _ rfl ?_); (first | refine own_loadN M 25 _ rfl rfl _ _ rfl 0 rfl Try.underlying25 rfl 18 infoDe (Nat.le_of_ble_eq_true rfl) ?_ | refine own_loadN M 25 _ rfl rfl _ _ rfl 1 rfl Try.underlying25 rfl 18 infoDe (Nat.le_of_ble_eq_true rfl) ?_ | refine own_loadN M 25 _ rfl rfl _ _ rfl 2 rfl Try.underlying25 rfl 18 infoDe (Nat.le_of_ble_eq_true rfl) ?_ | refine own_loadN M 25 _ rfl rfl _ _ rfl 3 rfl Try.underlying25 rfl 18 infoDe (Nat.le_of_ble_eq_true rfl) ?_ | refine own_loadN M 25 _ rfl rfl _ _ rfl 4 rfl Try.underlying25 rfl 18 infoDe (Nat.le_of_ble_eq_true rfl) ?_); simp only [List.drop_succ_cons, List.drop_zero, List.take_succ_cons, List.take_zero]; try simp only [Act.put, List.setIfInBounds_toArray, List.set_cons_zero, List.set_cons_succ])
    | (go_at_call 5; refine (alive_yes _).mono ?_; rintro e w ⟨rfl, hb⟩; replace M := M.call hb; clear hb)
    | (go_at_call 6; refine (big_any _ _ _ _ (Kd.C_below hE M.below) hec).mono ?_; rintro e w ⟨⟨q, rfl⟩, hb⟩; replace M := M.call hb; clear hb)
    | (go_at_call 17; refine (rightDesc_any x _).mono ?_; rintro e w ⟨⟨q, rfl⟩, hb⟩; replace M := M.call hb; clear hb)
    | (go_at_call 8; refine (may_any x h1 h2 h3 _).mono ?_; rintro e w ⟨⟨q, rfl⟩, hb⟩; replace M := M.call hb; clear hb)
    | (go_at_call 11; refine (getOwn_no x _).mono ?_; rintro e w ⟨rfl, hb⟩; replace M := M.call hb; clear hb)
    | (go_at_call 18; refine (define_no x _).mono ?_; rintro e w ⟨rfl, hb⟩; replace M := M.call hb; clear hb)
    | (go_at_call 16; refine (keys_any false _ _ _ _ _ _ _ (Kd.C_below hE M.below) (Kd.C_below hK M.below)).mono ?_; rintro e w ⟨rfl, hb⟩; replace M := M.call hb; clear hb))
  all_goals first
    | (go_ret; exact ⟨ret_bool rfl, M.below⟩)
    | skip
  replace M := M.tail
  generalize hKb : keysB false es ks = K
  go_loopw [9, 10] (fun ok i wr => ∃ k : Nat, k ≤ es.length ∧ i = .int .i64 k ∧ ok = .bool (K && (es.take k).all fun e => decide (e.f0 ∈ ks)) ∧ Own nobody w0 wr [])
    (fun _ i _ => es.length - (intOf i).toNat)
  case atStart => exact ⟨0, Nat.zero_le _, rfl, by simp, M⟩
  case round =>
    clear M
    obtain ⟨k, hk, rfl, rfl, M⟩ := hrel
    by_cases hlt : k < es.length
    · obtain ⟨ad, rfl, hcell0⟩ := row_ek hE hlt
      have hcell : ∀ j v, (kcs es[k].f0)[j]? = some v → wr.cell? ((ad.add (k * 20)).add j) = some v := fun j v hv => cell_keep M (hcell0 j v hv)
      have htk : (es.take (k + 1)).all (fun e => decide (e.f0 ∈ ks)) = ((es.take k).all (fun e => decide (e.f0 ∈ ks)) && decide (es[k].f0 ∈ ks)) := by
        rw [List.take_succ_eq_append_getElem hlt, List.all_append]
        simp
      generalize es[k] = q at hcell htk
      obtain ⟨o1, ho1⟩ : ∃ o1, o1 = (K && (es.take k).all fun e => decide (e.f0 ∈ ks)) := ⟨_, rfl⟩
      rw [← ho1]
      have hnext : (K && (es.take (k + 1)).all fun e => decide (e.f0 ∈ ks)) = (o1 && decide (q.f0 ∈ ks)) := by rw [htk, ← Bool.and_assoc, ho1]
      clear hcell0 hE ho1 htk hKb
      go_wp2_with (first
        | ((with_reducible refine at_guard (_, _) rfl ?_); (refine own_guard rfl rfl rfl ?_ ?_ <;> (intro hc; (try simp only [Bool.not_true, Bool.not_false, Bool.not_eq_true', Bool.not_eq_false', reduceCtorEq] at hc); (try simp only [hc, Bool.not_true, Bool.not_false]))); try simp only [Act.put, List.setIfInBounds_toArray, List.set_cons_zero, List.set_cons_succ])
        | ((with_reducible refine at_load 38 _ rfl ?_); refine wpList_load_row 38 _ rfl rfl (ad.add (k * 20)) rfl Try.underlying38 rfl (kcs q.f0) infoK hcell ?_; (try simp only [Act.put, List.setIfInBounds_toArray, List.set_cons_zero, List.set_cons_succ]))
        | (go_at_call 15; refine (keyed_any B d ks q.f0 _ (Kd.C_below hK M.below) hkc).mono ?_; rintro e w ⟨rfl, hb⟩; replace M := M.call hb; clear hb))
      all_goals refine ⟨⟨k + 1, by omega, by go_num, ?_, M⟩, by simp [intOf]; omega⟩
      all_goals (rw [hnext]; simp_all)
    · obtain rfl : k = es.length := by omega
      rw [List.take_length]
      generalize hL : (K && es.all fun e => decide (e.f0 ∈ ks)) = L
      go_wp2
      go_loopw [9, 11] (fun ok i wr => ∃ k : Nat, k ≤ ks.length ∧ i = .int .i64 k ∧ ok = .bool (L && (ks.take k).all fun x => decide (x ∈ es.map S40.f0)) ∧ Own nobody w0 wr [])
        (fun _ i _ => ks.length - (intOf i).toNat)
      case atStart => exact ⟨0, Nat.zero_le _, rfl, by simp, M⟩
      case round =>
        clear M
        obtain ⟨k, hk, rfl, rfl, M⟩ := hrel
        by_cases hlt : k < ks.length
        · obtain ⟨ad2, rfl, hcell2⟩ := row_k hK hlt
          have htk : (ks.take (k + 1)).all (fun x => decide (x ∈ es.map S40.f0)) = ((ks.take k).all (fun x => decide (x ∈ es.map S40.f0)) && decide (ks[k] ∈ es.map S40.f0)) := by
            rw [List.take_succ_eq_append_getElem hlt, List.all_append]
            simp
          generalize ks[k] = p at hcell2 htk
          obtain ⟨o1, ho1⟩ : ∃ o1, o1 = (L && (ks.take k).all fun x => decide (x ∈ es.map S40.f0)) := ⟨_, rfl⟩
          rw [← ho1]
          have hnext : (L && (ks.take (k + 1)).all fun x => decide (x ∈ es.map S40.f0)) = (o1 && decide (p ∈ es.map S40.f0)) := by rw [htk, ← Bool.and_assoc, ho1]
          clear ho1 htk
          go_wp2
          go_loopw [12, 13] (fun th j wr => ∃ m : Nat, m ≤ es.length ∧ j = .int .i64 m ∧ th = .bool (decide (p ∈ (es.take m).map S40.f0)) ∧ Own nobody w0 wr [])
            (fun _ j _ => es.length - (intOf j).toNat)
          case atStart => exact ⟨0, Nat.zero_le _, rfl, by simp, M⟩
          case round =>
            clear M
            obtain ⟨m, hm, rfl, rfl, M⟩ := hrel
            by_cases hlt2 : m < es.length
            · obtain ⟨ad, rfl, hcell⟩ := row_ek hE hlt2
              have htm : decide (p ∈ (es.take (m + 1)).map S40.f0) = (decide (p ∈ (es.take m).map S40.f0) || decide (es[m].f0 = p)) := by
                rw [List.take_succ_eq_append_getElem hlt2, List.map_append]
                simp only [List.map_cons, List.map_nil, List.mem_append, List.mem_singleton, Bool.decide_or, eq_comm]
              generalize es[m] = q at hcell htm
              obtain ⟨t1, ht1⟩ : ∃ t1, t1 = decide (p ∈ (es.take m).map S40.f0) := ⟨_, rfl⟩
              rw [← ht1] at htm ⊢
              clear ht1
              go_wp2_with (first
                | (refine own_region M (by kernel_rfl) (by kernel_rfl) ?_)
                | ((with_reducible refine atq_guard (_, _) rfl ?_); (refine ownq_guard rfl rfl rfl ?_ ?_ <;> (intro hc; (try simp only [Bool.not_true, Bool.not_false, Bool.not_eq_true', Bool.not_eq_false', reduceCtorEq] at hc); (try simp only [hc, Bool.not_true, Bool.not_false]))); try simp only [Act.put, List.setIfInBounds_toArray, List.set_cons_zero, List.set_cons_succ])
                | ((with_reducible refine atq_load 38 _ rfl ?_); refine ownq_load_row 38 _ rfl rfl (ad.add (m * 20)) rfl Try.underlying38 rfl (kcs q.f0) infoK (fun w hw j v hv => cell_keep hw (hcell j v hv)) ?_; (try simp only [Act.put, List.setIfInBounds_toArray, List.set_cons_zero, List.set_cons_succ]))
                | ((with_reducible refine atq_load 38 _ rfl ?_); refine ownq_load_row 38 _ rfl rfl (ad2.add (k * 2)) rfl Try.underlying38 rfl (kcs p) infoK (fun w hw j v hv => cell_keep hw (hcell2 j v hv)) ?_; (try simp only [Act.put, List.setIfInBounds_toArray, List.set_cons_zero, List.set_cons_succ]))
                | ((with_reducible refine atq_bin .eql 38 _ _ _ rfl ?_); refine ownq_val rfl (fun w _ => run_bin_agg rfl guardK rfl rfl w (run_eql_k w q.f0 p)) ?_; (try simp only [Act.put, List.setIfInBounds_toArray, List.set_cons_zero, List.set_cons_succ]))
                | (refine wpQuiet_nil ?_; clear M; intro w M)
                | (refine ownq_pure rfl ?_; apply Exists.intro; refine ⟨?_, ?_⟩; focus (intro w hw; first | (go_simp; done) | (go_simp; rfl)); try simp only [Act.put, List.setIfInBounds_toArray, List.set_cons_zero, List.set_cons_succ]))
              all_goals refine ⟨⟨m + 1, by omega, by go_num, ?_, M⟩, by simp [intOf]; omega⟩
              all_goals (rw [htm]; simp_all [keq_dec])
            · obtain rfl : m = es.length := by omega
              rw [List.take_length]
              go_wp2_with (first
                | ((with_reducible refine at_guard (_, _) rfl ?_); (refine own_guard rfl rfl rfl ?_ ?_ <;> (intro hc; (try simp only [Bool.not_true, Bool.not_false, Bool.not_eq_true', Bool.not_eq_false', reduceCtorEq] at hc); (try simp only [hc, Bool.not_true, Bool.not_false]))); try simp only [Act.put, List.setIfInBounds_toArray, List.set_cons_zero, List.set_cons_succ]))
              all_goals refine ⟨⟨k + 1, by omega, by go_num, ?_, M⟩, by simp [intOf]; omega⟩
              all_goals (rw [hnext]; simp_all)
        · obtain rfl : k = ks.length := by omega
          rw [List.take_length]
          have hfin : (L && ks.all fun x => decide (x ∈ es.map S40.f0)) = keysB false es ks := by
            rw [← hL, ← hKb]
            exact closed_eq es ks
          rw [hfin]
          clear hfin hL
          go_wp2_with (first
            | (go_at_call 16; refine (keys_any false _ _ _ _ _ _ _ (Kd.C_below hE M.below) (Kd.C_below hK M.below)).mono ?_; rintro e w ⟨rfl, hb⟩; replace M := M.call hb; clear hb))
          go_ret
          exact ⟨ret_bool (by simp), M.below⟩
end Go.Proofs.Ytkdagdiampfjgaa
