/- The program's scopes, continued: a name given, begun, told, set. -/
import Derived.Test.YtkckgjjhnjcffaaScT
namespace Go.Proofs.Ytkckgjjhnjcffaa
open Go.ChangeShapes Go.WideShapes Go.ChangeAt Go.RowKit
set_option linter.unusedVariables false
set_option linter.unusedSimpArgs false
set_option maxRecDepth 100000
attribute [local irreducible] wpList Calls wpQuiet
theorem let_c {w : World} (sh : ShS) (ok : sh.Ok) (M : Own (fun k => k ∈ sh.blks.map Prod.fst) w w sh.blks) (env : Int) (k : ByteArray) (fixed : Bool) :
    Calls Try.prog 13 #[.pointer (some ⟨sh.gS, 0, none⟩), .int .i64 env, .string k, .bool fixed] w fun e w' => e = .returned (.bool (letS sh.σ env k fixed).2) ∧ Left sh w w' (letS sh.σ env k fixed).1 := by
  unfold Left
  by_cases hin : 0 ≤ env ∧ env < sh.rows.length
  · obtain ⟨e, rfl⟩ : ∃ e : Nat, env = e := ⟨env.toNat, by omega⟩
    obtain ⟨r, hr⟩ : ∃ r, sh.rows[e]? = some r := ⟨sh.rows[e]'(by omega), List.getElem?_eq_getElem _⟩
    have hat : at? sh.σ (e : Int) = some r.sc := at?_in (σ_get hr)
    have hdec : decide (0 ≤ (e : Int) ∧ (e : Int) < sh.rows.length) = true := decide_eq_true hin
    have hc1 : sh.cur[e * 2 + 1]? = some (.map (some r.gM)) := ok.cell hr (k := 1) (by omega)
    have hmem := List.mem_of_getElem? hr
    have M0 := M
    generalize hS : (fun k => k ∈ sh.blks.map Prod.fst) = S at M M0 ⊢
    obtain ⟨l1, l2, hrows, hl, pm⟩ := ShS.perm1 hr
    replace M := M.perm pm
    rcases ok.look hr k with ⟨hl0, hix⟩ | ⟨j, x, hl0, hix, hx⟩
    · have hres : letS sh.σ e k fixed = (sh.σ.modify e (fun sc => { sc with vars := sc.vars ++ [⟨k, fixed, false, Va.zero⟩] }), true) := by simp [letS, hat, hix]
      have hval : (((r.vars.map VrS.pair).find? (fun p => k == p.1)).map (·.2)).getD (.pointer none) = .pointer none := by rw [hl0]; rfl
      have hnew : (r.vars.map VrS.pair).find? (fun p => k == p.1) = none := by
        cases hq : (r.vars.map VrS.pair).find? (fun p => k == p.1) with
        | none => rfl
        | some q => rw [hq] at hl0; cases hl0
      rw [hres]
      go_enter Try.func13, Try.ntmps13
      go_wp2_with (first
        | (go_at_call 31; (with_reducible refine (is_c (M.has 0 _ _ rfl) _).mono ?_); rintro _ w1 ⟨rfl, hb⟩; replace M := M.call hb; clear hb; try simp only [hdec])
        | ((with_reducible refine at_guard (_, _) rfl ?_); (refine own_guard rfl rfl rfl ?_ ?_ <;> (intro hc; (try simp only [Bool.not_true, Bool.not_false, Bool.not_eq_true', Bool.not_eq_false', reduceCtorEq] at hc); (try simp only [hc, Bool.not_true, Bool.not_false]))); try simp only [Act.put, List.setIfInBounds_toArray, List.set_cons_zero, List.set_cons_succ])
        | ((with_reducible refine at_load 71 _ rfl ?_); (first | refine own_load1 M 71 _ rfl rfl _ _ rfl 0 rfl Try.underlying71 rfl rfl ?_ | refine own_load1 M 71 _ rfl rfl _ _ rfl 1 rfl Try.underlying71 rfl rfl ?_ | refine own_load1 M 71 _ rfl rfl _ _ rfl 2 rfl Try.underlying71 rfl rfl ?_ | refine own_load1 M 71 _ rfl rfl _ _ rfl 3 rfl Try.underlying71 rfl rfl ?_ | refine own_load1 M 71 _ rfl rfl _ _ rfl 4 rfl Try.underlying71 rfl rfl ?_); try simp only [Act.put, List.setIfInBounds_toArray, List.set_cons_zero, List.set_cons_succ])
        | ((with_reducible refine at_load 68 _ rfl ?_); refine own_load1 M 68 _ rfl rfl sh.gL (e * 2 + 1) rfl 1 rfl Try.underlying68 rfl hc1 ?_; (try simp only [Act.put, List.setIfInBounds_toArray, List.set_cons_zero, List.set_cons_succ]))
        | ((with_reducible refine at_lookup' 68 _ _ rfl ?_); refine own_lookup_str M Try.underlying68 Try.underlying9 zeroPtr _ _ rfl rfl _ rfl k rfl 2 rfl (ok.map _ hmem) hval ?_; (try simp only [Act.put, List.setIfInBounds_toArray, List.set_cons_zero, List.set_cons_succ]))
        | ((with_reducible refine at_build 79 _ rfl ?_); refine own_val rfl (fun w => run_build_op rfl (buildVar _) (by first | (simp only [List.map_toArray, List.map_cons, List.map_nil]; done) | (simp only [List.map_toArray, List.map_cons, List.map_nil]; rfl)) w) ?_; try simp only [Act.put, List.setIfInBounds_toArray, List.set_cons_zero, List.set_cons_succ])
        | ((with_reducible refine at_slot 37 rfl ?_); (with_reducible refine at_box _ _ rfl ?_); refine own_box (cs := #[.int .i64 0, .int .i64 0, .string ⟨#[]⟩, .bool false, .bool fixed]) M _ _ rfl rfl rfl ?_; clear M; intro gv w M; (try simp only [Act.put, List.setIfInBounds_toArray, List.set_cons_zero, List.set_cons_succ]))
        | ((with_reducible refine at_update' 68 _ _ _ rfl ?_); refine own_update_str M Try.underlying68 Try.underlying9 _ _ _ rfl rfl _ rfl k rfl (.pointer (some ⟨gv, 0, none⟩)) rfl 3 rfl (ok.map _ hmem) hnew ?_; clear M; intro w es' cl' hs' M; simp only [List.eraseIdx_cons_succ, List.eraseIdx_cons_zero] at M; (try simp only [Act.put, List.setIfInBounds_toArray, List.set_cons_zero, List.set_cons_succ])))
      go_ret
      obtain ⟨sh', ok', hσ', hg', hb'⟩ := ShS.letLeft ok hrows hl ⟨⟨k, fixed, false, Va.zero⟩, gv⟩ cl' hs'
      refine ⟨rfl, sh', ok', hσ', hg', ?_⟩
      rw [hb']
      exact M.perm (ShS.letPerm _ _ l1 l2 r es' cl' ⟨⟨k, fixed, false, Va.zero⟩, gv⟩)
    · have hres : letS sh.σ e k fixed = (sh.σ, false) := by simp [letS, hat, hix]
      have hval : (((r.vars.map VrS.pair).find? (fun p => k == p.1)).map (·.2)).getD (.pointer none) = .pointer (some ⟨x.g, 0, none⟩) := by rw [hl0]; rfl
      rw [hres]
      go_enter Try.func13, Try.ntmps13
      go_wp2_with (first
        | (go_at_call 31; (with_reducible refine (is_c (M.has 0 _ _ rfl) _).mono ?_); rintro _ w1 ⟨rfl, hb⟩; replace M := M.call hb; clear hb; try simp only [hdec])
        | ((with_reducible refine at_guard (_, _) rfl ?_); (refine own_guard rfl rfl rfl ?_ ?_ <;> (intro hc; (try simp only [Bool.not_true, Bool.not_false, Bool.not_eq_true', Bool.not_eq_false', reduceCtorEq] at hc); (try simp only [hc, Bool.not_true, Bool.not_false]))); try simp only [Act.put, List.setIfInBounds_toArray, List.set_cons_zero, List.set_cons_succ])
        | ((with_reducible refine at_load 71 _ rfl ?_); (first | refine own_load1 M 71 _ rfl rfl _ _ rfl 0 rfl Try.underlying71 rfl rfl ?_ | refine own_load1 M 71 _ rfl rfl _ _ rfl 1 rfl Try.underlying71 rfl rfl ?_ | refine own_load1 M 71 _ rfl rfl _ _ rfl 2 rfl Try.underlying71 rfl rfl ?_ | refine own_load1 M 71 _ rfl rfl _ _ rfl 3 rfl Try.underlying71 rfl rfl ?_ | refine own_load1 M 71 _ rfl rfl _ _ rfl 4 rfl Try.underlying71 rfl rfl ?_); try simp only [Act.put, List.setIfInBounds_toArray, List.set_cons_zero, List.set_cons_succ])
        | ((with_reducible refine at_load 68 _ rfl ?_); refine own_load1 M 68 _ rfl rfl sh.gL (e * 2 + 1) rfl 1 rfl Try.underlying68 rfl hc1 ?_; (try simp only [Act.put, List.setIfInBounds_toArray, List.set_cons_zero, List.set_cons_succ]))
        | ((with_reducible refine at_lookup' 68 _ _ rfl ?_); refine own_lookup_str M Try.underlying68 Try.underlying9 zeroPtr _ _ rfl rfl _ rfl k rfl 2 rfl (ok.map _ hmem) hval ?_; (try simp only [Act.put, List.setIfInBounds_toArray, List.set_cons_zero, List.set_cons_succ])))
      go_ret
      exact ⟨rfl, sh, ok, rfl, rfl, M.perm pm.symm⟩
  · have hres : letS sh.σ env k fixed = (sh.σ, false) := by simp [letS, at?_out (σ := sh.σ) (env := env) (by rw [σ_len]; exact hin)]
    have hdec : decide (0 ≤ env ∧ env < sh.rows.length) = false := decide_eq_false hin
    rw [hres]
    generalize hS : (fun k => k ∈ sh.blks.map Prod.fst) = S at M ⊢
    go_enter Try.func13, Try.ntmps13
    go_wp2_with (first
      | (go_at_call 31; (with_reducible refine (is_c (M.has 0 _ _ rfl) _).mono ?_); rintro _ w1 ⟨rfl, hb⟩; replace M := M.call hb; clear hb; try simp only [hdec])
      | ((with_reducible refine at_guard (_, _) rfl ?_); (refine own_guard rfl rfl rfl ?_ ?_ <;> (intro hc; (try simp only [Bool.not_true, Bool.not_false, Bool.not_eq_true', Bool.not_eq_false', reduceCtorEq] at hc); (try simp only [hc, Bool.not_true, Bool.not_false]))); try simp only [Act.put, List.setIfInBounds_toArray, List.set_cons_zero, List.set_cons_succ]))
    go_ret
    exact ⟨rfl, sh, ok, rfl, rfl, M⟩
theorem begin_c {w : World} (sh : ShS) (ok : sh.Ok) (M : Own (fun k => k ∈ sh.blks.map Prod.fst) w w sh.blks) (env : Int) (k : ByteArray) (v : Va) :
    Calls Try.prog 17 #[.pointer (some ⟨sh.gS, 0, none⟩), .int .i64 env, .string k, v.val] w fun e w' => e = .returned (.bool (beginS sh.σ env k v).2) ∧ Left sh w w' (beginS sh.σ env k v).1 := by
  unfold Left
  by_cases hin : 0 ≤ env ∧ env < sh.rows.length
  · obtain ⟨e, rfl⟩ : ∃ e : Nat, env = e := ⟨env.toNat, by omega⟩
    obtain ⟨r, hr⟩ : ∃ r, sh.rows[e]? = some r := ⟨sh.rows[e]'(by omega), List.getElem?_eq_getElem _⟩
    have hat : at? sh.σ (e : Int) = some r.sc := at?_in (σ_get hr)
    have hdec : decide (0 ≤ (e : Int) ∧ (e : Int) < sh.rows.length) = true := decide_eq_true hin
    have hc1 : sh.cur[e * 2 + 1]? = some (.map (some r.gM)) := ok.cell hr (k := 1) (by omega)
    have hmem := List.mem_of_getElem? hr
    generalize hS : (fun k => k ∈ sh.blks.map Prod.fst) = S at M ⊢
    obtain ⟨l1, l2, hrows, hl, pm⟩ := ShS.perm1 hr
    rcases ok.look hr k with ⟨hl0, hix⟩ | ⟨j, x, hl0, hix, hx⟩
    · have hres : beginS sh.σ e k v = (sh.σ, false) := by simp [beginS, hat, hix]
      have hval : (((r.vars.map VrS.pair).find? (fun p => k == p.1)).map (·.2)).getD (.pointer none) = .pointer none := by rw [hl0]; rfl
      rw [hres]
      replace M := M.perm pm
      go_enter Try.func17, Try.ntmps17
      go_wp2_with (first
        | ((with_reducible refine at_slot 7 rfl ?_); (with_reducible refine at_box _ _ rfl ?_); refine own_box (cs := #[.int .i64 v.k, .int .i64 v.n, .string v.s]) M _ _ rfl rfl rfl ?_; clear M; intro gb w M; (try simp only [Act.put, List.setIfInBounds_toArray, List.set_cons_zero, List.set_cons_succ]))
        | (go_at_call 31; (with_reducible refine (is_c (M.has 1 _ _ rfl) _).mono ?_); rintro _ w1 ⟨rfl, hb⟩; replace M := M.call hb; clear hb; try simp only [hdec])
        | ((with_reducible refine at_guard (_, _) rfl ?_); (refine own_guard rfl rfl rfl ?_ ?_ <;> (intro hc; (try simp only [Bool.not_true, Bool.not_false, Bool.not_eq_true', Bool.not_eq_false', reduceCtorEq] at hc); (try simp only [hc, Bool.not_true, Bool.not_false]))); try simp only [Act.put, List.setIfInBounds_toArray, List.set_cons_zero, List.set_cons_succ])
        | ((with_reducible refine at_load 71 _ rfl ?_); (first | refine own_load1 M 71 _ rfl rfl _ _ rfl 0 rfl Try.underlying71 rfl rfl ?_ | refine own_load1 M 71 _ rfl rfl _ _ rfl 1 rfl Try.underlying71 rfl rfl ?_ | refine own_load1 M 71 _ rfl rfl _ _ rfl 2 rfl Try.underlying71 rfl rfl ?_ | refine own_load1 M 71 _ rfl rfl _ _ rfl 3 rfl Try.underlying71 rfl rfl ?_ | refine own_load1 M 71 _ rfl rfl _ _ rfl 4 rfl Try.underlying71 rfl rfl ?_); try simp only [Act.put, List.setIfInBounds_toArray, List.set_cons_zero, List.set_cons_succ])
        | ((with_reducible refine at_load 68 _ rfl ?_); refine own_load1 M 68 _ rfl rfl sh.gL (e * 2 + 1) rfl 2 rfl Try.underlying68 rfl hc1 ?_; (try simp only [Act.put, List.setIfInBounds_toArray, List.set_cons_zero, List.set_cons_succ]))
        | ((with_reducible refine at_lookup' 68 _ _ rfl ?_); refine own_lookup_str M Try.underlying68 Try.underlying9 zeroPtr _ _ rfl rfl _ rfl k rfl 3 rfl (ok.map _ hmem) hval ?_; (try simp only [Act.put, List.setIfInBounds_toArray, List.set_cons_zero, List.set_cons_succ])))
      go_ret
      exact ⟨rfl, sh, ok, rfl, rfl, M.tail.perm pm.symm⟩
    · have hval : (((r.vars.map VrS.pair).find? (fun p => k == p.1)).map (·.2)).getD (.pointer none) = .pointer (some ⟨x.g, 0, none⟩) := by rw [hl0]; rfl
      have hxv : r.sc.vars[j]? = some x.vr := by simp [ScS.sc, hx]
      obtain ⟨R, pm2, pmu⟩ := ShS.perm2 hr hx
      replace M := M.perm pm2
      cases hh : x.vr.has with
      | true =>
        have hblk : x.blk = (x.g, .cells [Value.int .i64 x.vr.v.k, .int .i64 x.vr.v.n, .string x.vr.v.s, .bool true, .bool x.vr.fixed].toArray 79 (0, 0)) := by simp only [VrS.blk, VrS.cs, hh]
        have hres : beginS sh.σ e k v = (sh.σ, false) := by simp [beginS, hat, hix, hxv, hh]
        rw [hres]
        rw [hblk] at M
        go_enter Try.func17, Try.ntmps17
        go_wp2_with (first
          | ((with_reducible refine at_slot 7 rfl ?_); (with_reducible refine at_box _ _ rfl ?_); refine own_box (cs := #[.int .i64 v.k, .int .i64 v.n, .string v.s]) M _ _ rfl rfl rfl ?_; clear M; intro gb w M; (try simp only [Act.put, List.setIfInBounds_toArray, List.set_cons_zero, List.set_cons_succ]))
          | (go_at_call 31; (with_reducible refine (is_c (M.has 2 _ _ rfl) _).mono ?_); rintro _ w1 ⟨rfl, hb⟩; replace M := M.call hb; clear hb; try simp only [hdec])
          | ((with_reducible refine at_guard (_, _) rfl ?_); (refine own_guard rfl rfl rfl ?_ ?_ <;> (intro hc; (try simp only [Bool.not_true, Bool.not_false, Bool.not_eq_true', Bool.not_eq_false', reduceCtorEq] at hc); (try simp only [hc, Bool.not_true, Bool.not_false]))); try simp only [Act.put, List.setIfInBounds_toArray, List.set_cons_zero, List.set_cons_succ])
          | ((with_reducible refine at_load 71 _ rfl ?_); (first | refine own_load1 M 71 _ rfl rfl _ _ rfl 0 rfl Try.underlying71 rfl rfl ?_ | refine own_load1 M 71 _ rfl rfl _ _ rfl 1 rfl Try.underlying71 rfl rfl ?_ | refine own_load1 M 71 _ rfl rfl _ _ rfl 2 rfl Try.underlying71 rfl rfl ?_ | refine own_load1 M 71 _ rfl rfl _ _ rfl 3 rfl Try.underlying71 rfl rfl ?_ | refine own_load1 M 71 _ rfl rfl _ _ rfl 4 rfl Try.underlying71 rfl rfl ?_); try simp only [Act.put, List.setIfInBounds_toArray, List.set_cons_zero, List.set_cons_succ])
          | ((with_reducible refine at_load 68 _ rfl ?_); refine own_load1 M 68 _ rfl rfl sh.gL (e * 2 + 1) rfl 3 rfl Try.underlying68 rfl hc1 ?_; (try simp only [Act.put, List.setIfInBounds_toArray, List.set_cons_zero, List.set_cons_succ]))
          | ((with_reducible refine at_lookup' 68 _ _ rfl ?_); refine own_lookup_str M Try.underlying68 Try.underlying9 zeroPtr _ _ rfl rfl _ rfl k rfl 4 rfl (ok.map _ hmem) hval ?_; (try simp only [Act.put, List.setIfInBounds_toArray, List.set_cons_zero, List.set_cons_succ]))
          | ((with_reducible refine at_load 4 _ rfl ?_); (first | refine own_load1 M 4 _ rfl rfl _ _ rfl 0 rfl Try.underlying4 rfl rfl ?_ | refine own_load1 M 4 _ rfl rfl _ _ rfl 1 rfl Try.underlying4 rfl rfl ?_ | refine own_load1 M 4 _ rfl rfl _ _ rfl 2 rfl Try.underlying4 rfl rfl ?_ | refine own_load1 M 4 _ rfl rfl _ _ rfl 3 rfl Try.underlying4 rfl rfl ?_ | refine own_load1 M 4 _ rfl rfl _ _ rfl 4 rfl Try.underlying4 rfl rfl ?_); try simp only [Act.put, List.setIfInBounds_toArray, List.set_cons_zero, List.set_cons_succ]))
        go_ret
        rw [← hblk] at M
        exact ⟨rfl, sh, ok, rfl, rfl, M.tail.perm pm2.symm⟩
      | false =>
        have hblk : x.blk = (x.g, .cells [Value.int .i64 x.vr.v.k, .int .i64 x.vr.v.n, .string x.vr.v.s, .bool false, .bool x.vr.fixed].toArray 79 (0, 0)) := by simp only [VrS.blk, VrS.cs, hh]
        have hres : beginS sh.σ e k v = (updV sh.σ e j (fun x => { x with has := true, v := v }), true) := by simp [beginS, hat, hix, hxv, hh]
        rw [hres]
        rw [hblk] at M
        go_enter Try.func17, Try.ntmps17
        go_wp2_with (first
          | ((with_reducible refine at_slot 7 rfl ?_); (with_reducible refine at_box _ _ rfl ?_); refine own_box (cs := #[.int .i64 v.k, .int .i64 v.n, .string v.s]) M _ _ rfl rfl rfl ?_; clear M; intro gb w M; (try simp only [Act.put, List.setIfInBounds_toArray, List.set_cons_zero, List.set_cons_succ]))
          | (go_at_call 31; (with_reducible refine (is_c (M.has 2 _ _ rfl) _).mono ?_); rintro _ w1 ⟨rfl, hb⟩; replace M := M.call hb; clear hb; try simp only [hdec])
          | ((with_reducible refine at_guard (_, _) rfl ?_); (refine own_guard rfl rfl rfl ?_ ?_ <;> (intro hc; (try simp only [Bool.not_true, Bool.not_false, Bool.not_eq_true', Bool.not_eq_false', reduceCtorEq] at hc); (try simp only [hc, Bool.not_true, Bool.not_false]))); try simp only [Act.put, List.setIfInBounds_toArray, List.set_cons_zero, List.set_cons_succ])
          | ((with_reducible refine at_load 71 _ rfl ?_); (first | refine own_load1 M 71 _ rfl rfl _ _ rfl 0 rfl Try.underlying71 rfl rfl ?_ | refine own_load1 M 71 _ rfl rfl _ _ rfl 1 rfl Try.underlying71 rfl rfl ?_ | refine own_load1 M 71 _ rfl rfl _ _ rfl 2 rfl Try.underlying71 rfl rfl ?_ | refine own_load1 M 71 _ rfl rfl _ _ rfl 3 rfl Try.underlying71 rfl rfl ?_ | refine own_load1 M 71 _ rfl rfl _ _ rfl 4 rfl Try.underlying71 rfl rfl ?_); try simp only [Act.put, List.setIfInBounds_toArray, List.set_cons_zero, List.set_cons_succ])
          | ((with_reducible refine at_load 68 _ rfl ?_); refine own_load1 M 68 _ rfl rfl sh.gL (e * 2 + 1) rfl 3 rfl Try.underlying68 rfl hc1 ?_; (try simp only [Act.put, List.setIfInBounds_toArray, List.set_cons_zero, List.set_cons_succ]))
          | ((with_reducible refine at_lookup' 68 _ _ rfl ?_); refine own_lookup_str M Try.underlying68 Try.underlying9 zeroPtr _ _ rfl rfl _ rfl k rfl 4 rfl (ok.map _ hmem) hval ?_; (try simp only [Act.put, List.setIfInBounds_toArray, List.set_cons_zero, List.set_cons_succ]))
          | ((with_reducible refine at_load 4 _ rfl ?_); (first | refine own_load1 M 4 _ rfl rfl _ _ rfl 0 rfl Try.underlying4 rfl rfl ?_ | refine own_load1 M 4 _ rfl rfl _ _ rfl 1 rfl Try.underlying4 rfl rfl ?_ | refine own_load1 M 4 _ rfl rfl _ _ rfl 2 rfl Try.underlying4 rfl rfl ?_ | refine own_load1 M 4 _ rfl rfl _ _ rfl 3 rfl Try.underlying4 rfl rfl ?_ | refine own_load1 M 4 _ rfl rfl _ _ rfl 4 rfl Try.underlying4 rfl rfl ?_); try simp only [Act.put, List.setIfInBounds_toArray, List.set_cons_zero, List.set_cons_succ])
          | ((with_reducible refine at_load 29 _ rfl ?_); (first | refine own_loadN M 29 _ rfl rfl _ _ rfl 0 rfl Try.underlying29 rfl 3 infoVa (Nat.le_of_ble_eq_true rfl) ?_ | refine own_loadN M 29 _ rfl rfl _ _ rfl 1 rfl Try.underlying29 rfl 3 infoVa (Nat.le_of_ble_eq_true rfl) ?_ | refine own_loadN M 29 _ rfl rfl _ _ rfl 2 rfl Try.underlying29 rfl 3 infoVa (Nat.le_of_ble_eq_true rfl) ?_ | refine own_loadN M 29 _ rfl rfl _ _ rfl 3 rfl Try.underlying29 rfl 3 infoVa (Nat.le_of_ble_eq_true rfl) ?_ | refine own_loadN M 29 _ rfl rfl _ _ rfl 4 rfl Try.underlying29 rfl 3 infoVa (Nat.le_of_ble_eq_true rfl) ?_); simp only [List.drop_succ_cons, List.drop_zero, List.take_succ_cons, List.take_zero]; try simp only [Act.put, List.setIfInBounds_toArray, List.set_cons_zero, List.set_cons_succ])
          | ((with_reducible refine at_store 29 _ (.tmp _) rfl ?_); refine own_storeT (v := v.val) (vs := v.cs) M 29 _ _ rfl rfl _ _ rfl rfl rfl 1 rfl infoVa rfl (Nat.le_of_ble_eq_true rfl) ?_; clear M; intro w M; simp only [List.set_cons_zero, List.set_cons_succ, List.drop_succ_cons, List.drop_zero, List.take_succ_cons, List.take_zero, List.cons_append, List.nil_append, List.append_nil, List.length_cons, List.length_nil, Nat.zero_add, Nat.reduceAdd, List.drop_nil] at M; (try simp only [Act.put, List.setIfInBounds_toArray, List.set_cons_zero, List.set_cons_succ]))
          | ((with_reducible refine at_store 4 _ (.const _) rfl ?_); refine own_storeC (vs := [.bool true]) M 4 _ _ rfl rfl _ _ rfl rfl 1 rfl infoB rfl (Nat.le_of_ble_eq_true rfl) ?_; clear M; intro w M; simp only [List.set_cons_zero, List.set_cons_succ, List.drop_succ_cons, List.drop_zero, List.take_succ_cons, List.take_zero, List.cons_append, List.nil_append, List.append_nil, List.length_cons, List.length_nil, Nat.zero_add, Nat.reduceAdd, List.drop_nil] at M; (try simp only [Act.put, List.setIfInBounds_toArray, List.set_cons_zero, List.set_cons_succ])))
        go_ret
        obtain ⟨ok', hσ'⟩ := ShS.updLeft ok hr hx (fun x => { x with has := true, v := v }) rfl
        exact ⟨rfl, sh.upd e j ⟨{ x.vr with has := true, v := v }, x.g⟩, ok', hσ', rfl, M.tail.perm (pmu ⟨{ x.vr with has := true, v := v }, x.g⟩).symm⟩
  · have hres : beginS sh.σ env k v = (sh.σ, false) := by simp [beginS, at?_out (σ := sh.σ) (env := env) (by rw [σ_len]; exact hin)]
    have hdec : decide (0 ≤ env ∧ env < sh.rows.length) = false := decide_eq_false hin
    rw [hres]
    generalize hS : (fun k => k ∈ sh.blks.map Prod.fst) = S at M ⊢
    go_enter Try.func17, Try.ntmps17
    go_wp2_with (first
      | ((with_reducible refine at_slot 7 rfl ?_); (with_reducible refine at_box _ _ rfl ?_); refine own_box (cs := #[.int .i64 v.k, .int .i64 v.n, .string v.s]) M _ _ rfl rfl rfl ?_; clear M; intro gb w M; (try simp only [Act.put, List.setIfInBounds_toArray, List.set_cons_zero, List.set_cons_succ]))
      | (go_at_call 31; (with_reducible refine (is_c (M.has 1 _ _ rfl) _).mono ?_); rintro _ w1 ⟨rfl, hb⟩; replace M := M.call hb; clear hb; try simp only [hdec])
      | ((with_reducible refine at_guard (_, _) rfl ?_); (refine own_guard rfl rfl rfl ?_ ?_ <;> (intro hc; (try simp only [Bool.not_true, Bool.not_false, Bool.not_eq_true', Bool.not_eq_false', reduceCtorEq] at hc); (try simp only [hc, Bool.not_true, Bool.not_false]))); try simp only [Act.put, List.setIfInBounds_toArray, List.set_cons_zero, List.set_cons_succ]))
    go_ret
    exact ⟨rfl, sh, ok, rfl, rfl, M.tail⟩
theorem vr_get {sh : ShS} {e j : Nat} {r : ScS} {x : VrS} (h : sh.rows[e]? = some r) (hx : r.vars[j]? = some x) : vr? sh.σ e j = some x.vr := by
  simp [vr?, σ_get h, ScS.sc, hx]
theorem buildVa0 (w : World) : (Instr.build 29 #[]).run Try.prog w = .ok Va.zero.val w := by kernel_rfl
theorem get_c {w : World} (sh : ShS) (ok : sh.Ok) (h : ∀ p ∈ sh.blks, Has w p.1 p.2) (nd : (sh.blks.map Prod.fst).Nodup) (env : Int) (k : ByteArray) :
    Calls Try.prog 19 #[.pointer (some ⟨sh.gS, 0, none⟩), .int .i64 env, .string k] w fun e w' => (∃ res, Finds sh.σ k env res ∧ e = .returned (.tuple #[(getS sh.σ res).1.val, .int .i64 (getS sh.σ res).2])) ∧ Below w.heap.size w w' := by
  have M := Own.many h nd
  generalize hS : (fun k => k ∈ sh.blks.map Prod.fst) = S at M
  have fin : ∀ (w' : World) (o : Nat × Obj), Own S w w' (o :: sh.blks) → Below w.heap.size w w' := fun w' o M => by
    subst hS
    exact Own.read h M (fun p hp => List.mem_cons_of_mem _ hp)
  go_enter Try.func19, Try.ntmps19
  go_wp2_with (first
    | ((with_reducible refine at_slot 6 rfl ?_); refine own_alloc M 29 rfl rfl zeroVa rfl ?_; clear M; intro ga w M; try simp only [Act.put, List.setIfInBounds_toArray, List.set_cons_zero, List.set_cons_succ])
    | (go_at_call 34; (with_reducible refine (find_c sh ok (fun p hp => M.mem (List.mem_cons_of_mem _ hp)) nd env k).mono ?_); rintro _ w1 ⟨⟨res, v, hf, hv, rfl⟩, hb⟩; replace M := M.call hb; clear hb))
  rcases hv with _ | ⟨hr, hx⟩
  · go_wp2_with (first
      | (go_at_call 35; (with_reducible refine (state_none _).mono ?_); rintro _ w1 ⟨rfl, hb⟩; replace M := M.call hb; clear hb)
      | ((with_reducible refine at_build 29 _ rfl ?_); refine own_val rfl (fun w => run_build_op rfl (buildVa0) (by first | (simp only [List.map_toArray, List.map_cons, List.map_nil]; done) | (simp only [List.map_toArray, List.map_cons, List.map_nil]; rfl)) w) ?_; try simp only [Act.put, List.setIfInBounds_toArray, List.set_cons_zero, List.set_cons_succ])
      | ((with_reducible refine at_store 29 _ (.tmp _) rfl ?_); refine own_storeT (v := Va.zero.val) (vs := Va.zero.cs) M 29 _ _ rfl rfl _ _ rfl rfl rfl 0 rfl infoVa rfl (Nat.le_of_ble_eq_true rfl) ?_; clear M; intro w M; simp only [List.set_cons_zero, List.set_cons_succ, List.drop_succ_cons, List.drop_zero, List.take_succ_cons, List.take_zero, List.cons_append, List.nil_append, List.append_nil, List.length_cons, List.length_nil, Nat.zero_add, Nat.reduceAdd, List.drop_nil] at M; (try simp only [Act.put, List.setIfInBounds_toArray, List.set_cons_zero, List.set_cons_succ])))
    refine bodyPost_ret (own_ret_cell_tmp M rfl rfl 0 rfl Try.underlying29 rfl infoVa rfl) rfl ⟨⟨none, hf, rfl⟩, fin _ _ M⟩
  · rename_i r x
    obtain ⟨R, pm2, -⟩ := ShS.perm2 hr hx
    replace M := M.perm (pm2.cons _)
    have hg := vr_get hr hx
    cases hh : x.vr.has with
    | true =>
      have hblk : x.blk = (x.g, .cells [Value.int .i64 x.vr.v.k, .int .i64 x.vr.v.n, .string x.vr.v.s, .bool true, .bool x.vr.fixed].toArray 79 (0, 0)) := by simp only [VrS.blk, VrS.cs, hh]
      rw [hblk] at M
      have hst : (if x.vr.has then (0 : Int) else 2) = 0 := by rw [hh]; rfl
      go_wp2_with (first
        | (go_at_call 35; (with_reducible refine (state_some x (by have := M.has 1 _ _ rfl; rw [← hh] at this; exact this)).mono ?_); rw [hst]; rintro _ w1 ⟨rfl, hb⟩; replace M := M.call hb; clear hb)
        | ((with_reducible refine at_load 29 _ rfl ?_); (first | refine own_loadN M 29 _ rfl rfl _ _ rfl 0 rfl Try.underlying29 rfl 3 infoVa (Nat.le_of_ble_eq_true rfl) ?_ | refine own_loadN M 29 _ rfl rfl _ _ rfl 1 rfl Try.underlying29 rfl 3 infoVa (Nat.le_of_ble_eq_true rfl) ?_ | refine own_loadN M 29 _ rfl rfl _ _ rfl 2 rfl Try.underlying29 rfl 3 infoVa (Nat.le_of_ble_eq_true rfl) ?_ | refine own_loadN M 29 _ rfl rfl _ _ rfl 3 rfl Try.underlying29 rfl 3 infoVa (Nat.le_of_ble_eq_true rfl) ?_ | refine own_loadN M 29 _ rfl rfl _ _ rfl 4 rfl Try.underlying29 rfl 3 infoVa (Nat.le_of_ble_eq_true rfl) ?_); simp only [List.drop_succ_cons, List.drop_zero, List.take_succ_cons, List.take_zero]; try simp only [Act.put, List.setIfInBounds_toArray, List.set_cons_zero, List.set_cons_succ])
        | ((with_reducible refine at_store 29 _ (.tmp _) rfl ?_); refine own_storeT (v := x.vr.v.val) (vs := x.vr.v.cs) M 29 _ _ rfl rfl _ _ rfl rfl rfl 0 rfl infoVa rfl (Nat.le_of_ble_eq_true rfl) ?_; clear M; intro w M; simp only [List.set_cons_zero, List.set_cons_succ, List.drop_succ_cons, List.drop_zero, List.take_succ_cons, List.take_zero, List.cons_append, List.nil_append, List.append_nil, List.length_cons, List.length_nil, Nat.zero_add, Nat.reduceAdd, List.drop_nil] at M; (try simp only [Act.put, List.setIfInBounds_toArray, List.set_cons_zero, List.set_cons_succ])))
      rw [← hblk] at M
      refine bodyPost_ret (own_ret_cell_tmp M rfl rfl 0 rfl Try.underlying29 rfl infoVa rfl) rfl ⟨⟨_, hf, ?_⟩, fin _ _ (M.perm (pm2.symm.cons _))⟩
      simp [getS, hg, hh]
    | false =>
      have hblk : x.blk = (x.g, .cells [Value.int .i64 x.vr.v.k, .int .i64 x.vr.v.n, .string x.vr.v.s, .bool false, .bool x.vr.fixed].toArray 79 (0, 0)) := by simp only [VrS.blk, VrS.cs, hh]
      rw [hblk] at M
      have hst : (if x.vr.has then (0 : Int) else 2) = 2 := by rw [hh]; rfl
      go_wp2_with (first
        | (go_at_call 35; (with_reducible refine (state_some x (by have := M.has 1 _ _ rfl; rw [← hh] at this; exact this)).mono ?_); rw [hst]; rintro _ w1 ⟨rfl, hb⟩; replace M := M.call hb; clear hb)
        | ((with_reducible refine at_build 29 _ rfl ?_); refine own_val rfl (fun w => run_build_op rfl (buildVa0) (by first | (simp only [List.map_toArray, List.map_cons, List.map_nil]; done) | (simp only [List.map_toArray, List.map_cons, List.map_nil]; rfl)) w) ?_; try simp only [Act.put, List.setIfInBounds_toArray, List.set_cons_zero, List.set_cons_succ])
        | ((with_reducible refine at_store 29 _ (.tmp _) rfl ?_); refine own_storeT (v := Va.zero.val) (vs := Va.zero.cs) M 29 _ _ rfl rfl _ _ rfl rfl rfl 0 rfl infoVa rfl (Nat.le_of_ble_eq_true rfl) ?_; clear M; intro w M; simp only [List.set_cons_zero, List.set_cons_succ, List.drop_succ_cons, List.drop_zero, List.take_succ_cons, List.take_zero, List.cons_append, List.nil_append, List.append_nil, List.length_cons, List.length_nil, Nat.zero_add, Nat.reduceAdd, List.drop_nil] at M; (try simp only [Act.put, List.setIfInBounds_toArray, List.set_cons_zero, List.set_cons_succ])))
      rw [← hblk] at M
      refine bodyPost_ret (own_ret_cell_tmp M rfl rfl 0 rfl Try.underlying29 rfl infoVa rfl) rfl ⟨⟨_, hf, ?_⟩, fin _ _ (M.perm (pm2.symm.cons _))⟩
      simp [getS, hg, hh]
theorem set_c {w : World} (sh : ShS) (ok : sh.Ok) (M : Own (fun k => k ∈ sh.blks.map Prod.fst) w w sh.blks) (env : Int) (k : ByteArray) (v : Va) :
    Calls Try.prog 21 #[.pointer (some ⟨sh.gS, 0, none⟩), .int .i64 env, .string k, v.val] w fun e w' => ∃ res, Finds sh.σ k env res ∧ e = .returned (.int .i64 (setS sh.σ res v).2) ∧ Left sh w w' (setS sh.σ res v).1 := by
  have nd := M.nodup
  unfold Left
  generalize hS : (fun k => k ∈ sh.blks.map Prod.fst) = S at M ⊢
  go_enter Try.func21, Try.ntmps21
  go_wp2_with (first
    | ((with_reducible refine at_slot 7 rfl ?_); (with_reducible refine at_box _ _ rfl ?_); refine own_box (cs := #[.int .i64 v.k, .int .i64 v.n, .string v.s]) M _ _ rfl rfl rfl ?_; clear M; intro gb w M; (try simp only [Act.put, List.setIfInBounds_toArray, List.set_cons_zero, List.set_cons_succ]))
    | (go_at_call 34; (with_reducible refine (find_c sh ok (fun p hp => M.mem (List.mem_cons_of_mem _ hp)) nd env k).mono ?_); rintro _ w1 ⟨⟨res, v', hf, hv, rfl⟩, hb⟩; replace M := M.call hb; clear hb))
  rcases hv with _ | ⟨hr, hx⟩
  · go_wp2_with (first
      | (go_at_call 35; (with_reducible refine (state_none _).mono ?_); rintro _ w1 ⟨rfl, hb⟩; replace M := M.call hb; clear hb))
    go_ret
    exact ⟨none, hf, rfl, sh, ok, rfl, rfl, M.tail⟩
  · rename_i e j r x
    obtain ⟨R, pm2, pmu⟩ := ShS.perm2 hr hx
    replace M := M.perm (pm2.cons _)
    have hg := vr_get hr hx
    cases hh : x.vr.has with
    | true =>
      have hst : (if x.vr.has then (0 : Int) else 2) = 0 := by rw [hh]; rfl
      cases hF : x.vr.fixed with
      | true =>
        have hblk : x.blk = (x.g, .cells [Value.int .i64 x.vr.v.k, .int .i64 x.vr.v.n, .string x.vr.v.s, .bool true, .bool true].toArray 79 (0, 0)) := by simp only [VrS.blk, VrS.cs, hh, hF]
        rw [hblk] at M
        go_wp2_with (first
          | (go_at_call 35; (with_reducible refine (state_some x (by have := M.has 1 _ _ rfl; simp only [VrS.cs, hh, hF]; exact this)).mono ?_); rw [hst]; rintro _ w1 ⟨rfl, hb⟩; replace M := M.call hb; clear hb)
          | ((with_reducible refine at_load 4 _ rfl ?_); (first | refine own_load1 M 4 _ rfl rfl _ _ rfl 0 rfl Try.underlying4 rfl rfl ?_ | refine own_load1 M 4 _ rfl rfl _ _ rfl 1 rfl Try.underlying4 rfl rfl ?_ | refine own_load1 M 4 _ rfl rfl _ _ rfl 2 rfl Try.underlying4 rfl rfl ?_ | refine own_load1 M 4 _ rfl rfl _ _ rfl 3 rfl Try.underlying4 rfl rfl ?_ | refine own_load1 M 4 _ rfl rfl _ _ rfl 4 rfl Try.underlying4 rfl rfl ?_); try simp only [Act.put, List.setIfInBounds_toArray, List.set_cons_zero, List.set_cons_succ]))
        go_ret
        rw [← hblk] at M
        have hres : setS sh.σ (some (e, j)) v = (sh.σ, 3) := by simp [setS, hg, hh, hF]
        exact ⟨_, hf, by rw [hres]; rfl, sh, ok, by rw [hres], rfl, M.tail.perm pm2.symm⟩
      | false =>
        have hblk : x.blk = (x.g, .cells [Value.int .i64 x.vr.v.k, .int .i64 x.vr.v.n, .string x.vr.v.s, .bool true, .bool false].toArray 79 (0, 0)) := by simp only [VrS.blk, VrS.cs, hh, hF]
        rw [hblk] at M
        go_wp2_with (first
          | (go_at_call 35; (with_reducible refine (state_some x (by have := M.has 1 _ _ rfl; simp only [VrS.cs, hh, hF]; exact this)).mono ?_); rw [hst]; rintro _ w1 ⟨rfl, hb⟩; replace M := M.call hb; clear hb)
          | ((with_reducible refine at_load 4 _ rfl ?_); (first | refine own_load1 M 4 _ rfl rfl _ _ rfl 0 rfl Try.underlying4 rfl rfl ?_ | refine own_load1 M 4 _ rfl rfl _ _ rfl 1 rfl Try.underlying4 rfl rfl ?_ | refine own_load1 M 4 _ rfl rfl _ _ rfl 2 rfl Try.underlying4 rfl rfl ?_ | refine own_load1 M 4 _ rfl rfl _ _ rfl 3 rfl Try.underlying4 rfl rfl ?_ | refine own_load1 M 4 _ rfl rfl _ _ rfl 4 rfl Try.underlying4 rfl rfl ?_); try simp only [Act.put, List.setIfInBounds_toArray, List.set_cons_zero, List.set_cons_succ])
          | ((with_reducible refine at_load 29 _ rfl ?_); (first | refine own_loadN M 29 _ rfl rfl _ _ rfl 0 rfl Try.underlying29 rfl 3 infoVa (Nat.le_of_ble_eq_true rfl) ?_ | refine own_loadN M 29 _ rfl rfl _ _ rfl 1 rfl Try.underlying29 rfl 3 infoVa (Nat.le_of_ble_eq_true rfl) ?_ | refine own_loadN M 29 _ rfl rfl _ _ rfl 2 rfl Try.underlying29 rfl 3 infoVa (Nat.le_of_ble_eq_true rfl) ?_ | refine own_loadN M 29 _ rfl rfl _ _ rfl 3 rfl Try.underlying29 rfl 3 infoVa (Nat.le_of_ble_eq_true rfl) ?_ | refine own_loadN M 29 _ rfl rfl _ _ rfl 4 rfl Try.underlying29 rfl 3 infoVa (Nat.le_of_ble_eq_true rfl) ?_); simp only [List.drop_succ_cons, List.drop_zero, List.take_succ_cons, List.take_zero]; try simp only [Act.put, List.setIfInBounds_toArray, List.set_cons_zero, List.set_cons_succ])
          | ((with_reducible refine at_store 29 _ (.tmp _) rfl ?_); refine own_storeT (v := v.val) (vs := v.cs) M 29 _ _ rfl rfl _ _ rfl rfl rfl 1 rfl infoVa rfl (Nat.le_of_ble_eq_true rfl) ?_; clear M; intro w M; simp only [List.set_cons_zero, List.set_cons_succ, List.drop_succ_cons, List.drop_zero, List.take_succ_cons, List.take_zero, List.cons_append, List.nil_append, List.append_nil, List.length_cons, List.length_nil, Nat.zero_add, Nat.reduceAdd, List.drop_nil] at M; (try simp only [Act.put, List.setIfInBounds_toArray, List.set_cons_zero, List.set_cons_succ])))
        go_ret
        obtain ⟨ok', hσ'⟩ := ShS.updLeft ok hr hx (fun x => { x with v := v }) rfl
        have hres : setS sh.σ (some (e, j)) v = (updV sh.σ e j (fun x => { x with v := v }), 0) := by simp [setS, hg, hh, hF]
        have hy : VrS.blk ⟨{ x.vr with v := v }, x.g⟩ = (x.g, .cells [Value.int .i64 v.k, .int .i64 v.n, .string v.s, .bool true, .bool false].toArray 79 (0, 0)) := by simp only [VrS.blk, VrS.cs, hh, hF]
        have M2 := M.tail
        have hp := pmu ⟨{ x.vr with v := v }, x.g⟩
        rw [hy] at hp
        exact ⟨_, hf, by rw [hres]; rfl, sh.upd e j ⟨{ x.vr with v := v }, x.g⟩, ok', by rw [hres]; exact hσ', rfl, M2.perm hp.symm⟩
    | false =>
      have hblk : x.blk = (x.g, .cells [Value.int .i64 x.vr.v.k, .int .i64 x.vr.v.n, .string x.vr.v.s, .bool false, .bool x.vr.fixed].toArray 79 (0, 0)) := by simp only [VrS.blk, VrS.cs, hh]
      rw [hblk] at M
      have hst : (if x.vr.has then (0 : Int) else 2) = 2 := by rw [hh]; rfl
      go_wp2_with (first
        | (go_at_call 35; (with_reducible refine (state_some x (by have := M.has 1 _ _ rfl; simp only [VrS.cs, hh]; exact this)).mono ?_); rw [hst]; rintro _ w1 ⟨rfl, hb⟩; replace M := M.call hb; clear hb))
      go_ret
      rw [← hblk] at M
      have hres : setS sh.σ (some (e, j)) v = (sh.σ, 2) := by simp [setS, hg, hh]
      exact ⟨_, hf, by rw [hres]; rfl, sh, ok, by rw [hres], rfl, M.tail.perm pm2.symm⟩
end Go.Proofs.Ytkckgjjhnjcffaa
