/- The document's scopes, continued: find, Get. -/
import Derived.Test.YtkckgjjhnjcffaaScV
import Derived.Test.YtkckgjjhnjcffaaScU
namespace Go.Proofs.Ytkckgjjhnjcffaa
open Go.ChangeShapes Go.WideShapes Go.ChangeAt Go.RowKit
set_option linter.unusedVariables false
set_option linter.unusedSimpArgs false
set_option maxRecDepth 100000
attribute [local irreducible] wpList Calls wpQuiet
theorem ret_two {P : Program} {w : World} {fn : Func} {p q : Tmp} (h : fn.results = #[.tmp p, .tmp q]) {tmps : Array Value} : (results fn tmps).run P w = .ok (.tuple #[tmps.getD p undef, tmps.getD q undef]) w := by
  simp [results, h]
def rE : Option (Nat × Nat) → Int
  | none => -1
  | some (e, _) => e
def rI : Option (Nat × Nat) → Int
  | none => -1
  | some (_, j) => j
theorem Finds.some_get {σ : List Sc} {k : ByteArray} {env : Int} {e j : Nat} (h : Finds σ k env (some (e, j))) : ∃ sc, σ[e]? = some sc ∧ idx k sc.vars = some j := by
  generalize hr : some (e, j) = r at h
  induction h with
  | out _ => cases hr
  | here _ hs hj => cases hr; exact ⟨_, hs, hj⟩
  | up _ _ _ _ ih => exact ih hr
theorem drop_take3 {cur : List Value} {o : Nat} {a b c : Value} (h0 : cur[o]? = some a) (h1 : cur[o + 1]? = some b) (h2 : cur[o + 2]? = some c) : (cur.drop o).take 3 = [a, b, c] ∧ o + 3 ≤ cur.length := by
  obtain ⟨l0, e0⟩ := List.getElem?_eq_some_iff.1 h0
  obtain ⟨l1, e1⟩ := List.getElem?_eq_some_iff.1 h1
  obtain ⟨l2, e2⟩ := List.getElem?_eq_some_iff.1 h2
  refine ⟨?_, by omega⟩
  rw [List.drop_eq_getElem_cons l0, List.drop_eq_getElem_cons l1, List.drop_eq_getElem_cons l2, e0, e1, e2]
  rfl
theorem rfind_c {w : World} (sh : ShR) (ok : sh.Ok) (h : ∀ p ∈ sh.blks, Has w p.1 p.2) (nd : (sh.blks.map Prod.fst).Nodup) (env : Int) (k : ByteArray) :
    Calls Try.prog 36 #[.pointer (some ⟨sh.gR, 0, none⟩), .int .i64 env, .string k] w fun e w' => (∃ res, Finds sh.σ k env res ∧ e = .returned (.tuple #[.int .i64 (rE res), .int .i64 (rI res)])) ∧ Below w.heap.size w w' := by
  have M := Own.many h nd
  go_enter Try.func36, Try.ntmps36
  go_wp2
  go_loopw [1, 8] (fun i _ wr => ∃ c : Int, i = .int .i64 c ∧ (∀ r, Finds sh.σ k c r → Finds sh.σ k env r) ∧ Own (fun k => k ∈ sh.blks.map Prod.fst) w wr sh.blks)
    (fun i _ _ => (intOf i + 1).toNat)
  case atStart => exact ⟨env, rfl, fun _ hr => hr, M⟩
  case round =>
    clear M
    obtain ⟨c, rfl, hstep, M⟩ := hrel
    by_cases hin : 0 ≤ c ∧ c < sh.rows.length
    · obtain ⟨e, rfl⟩ : ∃ e : Nat, c = e := ⟨c.toNat, by omega⟩
      obtain ⟨r, hr⟩ : ∃ r, sh.rows[e]? = some r := ⟨sh.rows[e]'(by omega), List.getElem?_eq_getElem _⟩
      have hdec : decide (0 ≤ (e : Int) ∧ (e : Int) < sh.rows.length) = true := decide_eq_true hin
      have hcP : sh.curP[e]? = some (.int .i64 r.sc.parent) := ok.cellP hr
      have hpar : r.sc.parent < e := ok.par e r.sc.parent (by simp [hr])
      cases hix : idx k r.sc.vars with
      | none =>
        have hat : atI k r.sc.vars = -1 := by simp [atI, hix]
        go_wp2_with (first
          | (go_at_call 32; (with_reducible refine (there_c (M.has 0 _ _ rfl) _).mono ?_); rintro _ w1 ⟨rfl, hb⟩; replace M := M.call hb; clear hb; try simp only [hdec])
          | (go_at_call 33; (with_reducible refine (at_c sh ok (fun p hp => M.mem hp) nd hr k).mono ?_); rw [hat]; rintro _ w1 ⟨rfl, hb⟩; replace M := M.call hb; clear hb)
          | ((with_reducible refine at_load 54 _ rfl ?_); (first | refine own_load1 M 54 _ rfl rfl _ _ rfl 0 rfl Try.underlying54 rfl rfl ?_ | refine own_load1 M 54 _ rfl rfl _ _ rfl 1 rfl Try.underlying54 rfl rfl ?_ | refine own_load1 M 54 _ rfl rfl _ _ rfl 2 rfl Try.underlying54 rfl rfl ?_ | refine own_load1 M 54 _ rfl rfl _ _ rfl 3 rfl Try.underlying54 rfl rfl ?_ | refine own_load1 M 54 _ rfl rfl _ _ rfl 4 rfl Try.underlying54 rfl rfl ?_); try simp only [Act.put, List.setIfInBounds_toArray, List.set_cons_zero, List.set_cons_succ])
          | ((with_reducible refine at_load 3 _ rfl ?_); refine own_load1 M 3 _ rfl rfl sh.gP e rfl 1 rfl Try.underlying3 rfl hcP ?_; (try simp only [Act.put, List.setIfInBounds_toArray, List.set_cons_zero, List.set_cons_succ])))
        refine ⟨⟨r.sc.parent, rfl, fun q hq => hstep _ (Finds.up rfl (σR_get hr) hix hq), M⟩, ?_⟩
        simp only [intOf]
        omega
      | some j =>
        have hat : atI k r.sc.vars = (j : Int) := by simp [atI, hix]
        go_wp2_with (first
          | (go_at_call 32; (with_reducible refine (there_c (M.has 0 _ _ rfl) _).mono ?_); rintro _ w1 ⟨rfl, hb⟩; replace M := M.call hb; clear hb; try simp only [hdec])
          | (go_at_call 33; (with_reducible refine (at_c sh ok (fun p hp => M.mem hp) nd hr k).mono ?_); rw [hat]; rintro _ w1 ⟨rfl, hb⟩; replace M := M.call hb; clear hb))
        refine bodyPost_ret (ret_two rfl) rfl ⟨⟨some (e, j), hstep _ (Finds.here rfl (σR_get hr) hix), rfl⟩, Own.read h M (fun p hp => hp)⟩
    · have hdec : decide (0 ≤ c ∧ c < sh.rows.length) = false := decide_eq_false hin
      go_wp2_with (first
        | (go_at_call 32; (with_reducible refine (there_c (M.has 0 _ _ rfl) _).mono ?_); rintro _ w1 ⟨rfl, hb⟩; replace M := M.call hb; clear hb; try simp only [hdec]))
      refine bodyPost_ret (ret_two rfl) rfl ⟨⟨none, hstep _ (Finds.out (by rw [σR_len]; exact hin)), rfl⟩, Own.read h M (fun _ hp => hp)⟩
/-- Where a name was found: its row, its variable, their cells. -/
theorem ShR.found {sh : ShR} (ok : sh.Ok) {k : ByteArray} {env : Int} {e j : Nat} (hf : Finds sh.σ k env (some (e, j))) :
    ∃ r x g cap cur, sh.rows[e]? = some r ∧ r.sc.vars[j]? = some x ∧ r.row = some (g, cap, cur) ∧ sh.curQ[e]? = some (.slice (some ⟨g, 0, none⟩) r.sc.vars.length cap) ∧ RowOk 6 r.sc.vars.length cap cur (r.sc.vars.flatMap Vr.cs) ∧
      (∀ q, q < 6 → cur[j * 6 + q]? = x.cs[q]?) ∧ vr? sh.σ e j = some x ∧ e < sh.rows.length ∧ j < r.sc.vars.length := by
  obtain ⟨sc, hs, hj⟩ := hf.some_get
  have hl : e < sh.rows.length := by have := lt_of_get hs; rwa [σR_len] at this
  have hr : sh.rows[e]? = some sh.rows[e] := List.getElem?_eq_getElem hl
  generalize sh.rows[e] = r at hr
  have hsc : sc = r.sc := by have := σR_get hr; rw [hs] at this; cases this; rfl
  subst hsc
  have hjl := idx_lt hj
  have hx : r.sc.vars[j]? = some r.sc.vars[j] := List.getElem?_eq_getElem hjl
  generalize r.sc.vars[j] = x at hx
  have hrow := ok.row r (List.mem_of_getElem? hr)
  obtain ⟨g, cap, cur, hq, hro, hcell⟩ := SRow.ok_cell hrow hx
  have hcQ := ok.cellQ hr
  unfold RowR.val at hcQ
  rw [hq] at hcQ
  exact ⟨r, x, g, cap, cur, hr, hx, hq, hcQ, hro, hcell, by simp [vr?, hs, hx], hl, hjl⟩
theorem rget_c {w0 : World} (sh : ShR) (ok : sh.Ok) (h : ∀ p ∈ sh.blks, Has w0 p.1 p.2) (nd : (sh.blks.map Prod.fst).Nodup) (env : Int) (k : ByteArray) :
    Calls Try.prog 20 #[.pointer (some ⟨sh.gR, 0, none⟩), .int .i64 env, .string k] w0 fun e w' => (∃ res, Finds sh.σ k env res ∧ e = .returned (.tuple #[(getS sh.σ res).1.val, .int .i64 (getS sh.σ res).2])) ∧ Below w0.heap.size w0 w' := by
  have M := Own.many h nd
  generalize hS : (fun k => k ∈ sh.blks.map Prod.fst) = S at M
  have fin : ∀ (w' : World) (o : Nat × Obj), Own S w0 w' (o :: sh.blks) → Below w0.heap.size w0 w' := fun w' o M => by
    subst hS
    exact Own.read h M (fun p hp => List.mem_cons_of_mem _ hp)
  go_enter Try.func20, Try.ntmps20
  go_wp2_with (first
    | ((with_reducible refine at_slot 6 rfl ?_); refine own_alloc M 29 rfl rfl zeroVa rfl ?_; clear M; intro ga w M; try simp only [Act.put, List.setIfInBounds_toArray, List.set_cons_zero, List.set_cons_succ]))
  go_at_call 36
  refine (rfind_c sh ok (fun p hp => M.mem (List.mem_cons_of_mem _ hp)) nd env k).mono ?_
  rintro _ w1 ⟨⟨res, hf, rfl⟩, hb⟩
  replace M := M.call hb
  clear hb
  rcases res with _ | ⟨e, j⟩
  · simp only [rE, rI]
    go_wp2_with (first
      | ((with_reducible refine at_build 29 _ rfl ?_); refine own_val rfl (fun w => run_build_op rfl (buildVa0) (by first | (simp only [List.map_toArray, List.map_cons, List.map_nil]; done) | (simp only [List.map_toArray, List.map_cons, List.map_nil]; rfl)) w) ?_; try simp only [Act.put, List.setIfInBounds_toArray, List.set_cons_zero, List.set_cons_succ])
      | ((with_reducible refine at_store 29 _ (.tmp _) rfl ?_); refine own_storeT (v := Va.zero.val) (vs := Va.zero.cs) M 29 _ _ rfl rfl _ _ rfl rfl rfl 0 rfl infoVa rfl (Nat.le_of_ble_eq_true rfl) ?_; clear M; intro w M; simp only [List.set_cons_zero, List.set_cons_succ, List.drop_succ_cons, List.drop_zero, List.take_succ_cons, List.take_zero, List.cons_append, List.nil_append, List.append_nil, List.length_cons, List.length_nil, Nat.zero_add, Nat.reduceAdd, List.drop_nil] at M; (try simp only [Act.put, List.setIfInBounds_toArray, List.set_cons_zero, List.set_cons_succ])))
    refine bodyPost_ret (own_ret_cell_tmp M rfl rfl 0 rfl Try.underlying29 rfl infoVa rfl) rfl ⟨⟨none, hf, rfl⟩, fin _ _ M⟩
  · simp only [rE, rI]
    obtain ⟨r, x, g, cap, cur, hr, hx, hq, hcQ, hro, hcell, hg, hel, hjl⟩ := ShR.found ok hf
    obtain ⟨l1, l2, -, -, pm⟩ := ShR.perm1 hr
    replace M := M.perm (pm.cons _)
    have fin2 : ∀ (w' : World) (o : Nat × Obj), Own S w0 w' (o :: (sh.gR, .cells sh.top.toArray 76 (0, 0)) :: (sh.gP, .cells sh.curP.toArray 3 (0, 0)) :: (sh.gQ, .cells sh.curQ.toArray 81 (0, 0)) :: (r.row.blks 83 ++ (l1 ++ l2).flatMap RowR.blks)) → Below w0.heap.size w0 w' := fun w' o M => fin w' o (M.perm (pm.symm.cons _))
    rw [hq] at M fin2
    have hc1 : cur[j * 6 + 2]? = some (.bool x.has) := hcell 2 (by omega)
    obtain ⟨hc2, hc3⟩ : (cur.drop (j * 6 + 3)).take 3 = x.v.cs ∧ j * 6 + 3 + 3 ≤ cur.length := drop_take3 (hcell 3 (by omega)) (hcell 4 (by omega)) (hcell 5 (by omega))
    cases hh : x.has with
    | true =>
      rw [hh] at hc1
      go_wp2_with (first
        | ((with_reducible refine at_load 74 _ rfl ?_); (first | refine own_load1 M 74 _ rfl rfl _ _ rfl 0 rfl Try.underlying74 rfl rfl ?_ | refine own_load1 M 74 _ rfl rfl _ _ rfl 1 rfl Try.underlying74 rfl rfl ?_ | refine own_load1 M 74 _ rfl rfl _ _ rfl 2 rfl Try.underlying74 rfl rfl ?_ | refine own_load1 M 74 _ rfl rfl _ _ rfl 3 rfl Try.underlying74 rfl rfl ?_ | refine own_load1 M 74 _ rfl rfl _ _ rfl 4 rfl Try.underlying74 rfl rfl ?_); try simp only [Act.put, List.setIfInBounds_toArray, List.set_cons_zero, List.set_cons_succ])
        | ((with_reducible refine at_load 81 _ rfl ?_); refine own_load1 M 81 _ rfl rfl sh.gQ e rfl 3 rfl Try.underlying81 rfl hcQ ?_; (try simp only [Act.put, List.setIfInBounds_toArray, List.set_cons_zero, List.set_cons_succ]))
        | ((with_reducible refine at_load 4 _ rfl ?_); refine own_load1 M 4 _ rfl rfl g (j * 6 + 2) rfl 4 rfl Try.underlying4 rfl hc1 ?_; (try simp only [Act.put, List.setIfInBounds_toArray, List.set_cons_zero, List.set_cons_succ]))
        | ((with_reducible refine at_load 29 _ rfl ?_); refine own_loadN M 29 _ rfl rfl g (j * 6 + 3) rfl 4 rfl Try.underlying29 rfl 3 infoVa hc3 ?_; rw [hc2]; (try simp only [Act.put, List.setIfInBounds_toArray, List.set_cons_zero, List.set_cons_succ]))
        | ((with_reducible refine at_store 29 _ (.tmp _) rfl ?_); refine own_storeT (v := x.v.val) (vs := x.v.cs) M 29 _ _ rfl rfl _ _ rfl rfl rfl 0 rfl infoVa rfl (Nat.le_of_ble_eq_true rfl) ?_; clear M; intro w M; simp only [List.set_cons_zero, List.set_cons_succ, List.drop_succ_cons, List.drop_zero, List.take_succ_cons, List.take_zero, List.cons_append, List.nil_append, List.append_nil, List.length_cons, List.length_nil, Nat.zero_add, Nat.reduceAdd, List.drop_nil] at M; (try simp only [Act.put, List.setIfInBounds_toArray, List.set_cons_zero, List.set_cons_succ])))
      refine bodyPost_ret (own_ret_cell_tmp M rfl rfl 0 rfl Try.underlying29 rfl infoVa rfl) rfl ⟨⟨_, hf, ?_⟩, fin2 _ _ M⟩
      simp [getS, hg, hh]
    | false =>
      rw [hh] at hc1
      go_wp2_with (first
        | ((with_reducible refine at_load 74 _ rfl ?_); (first | refine own_load1 M 74 _ rfl rfl _ _ rfl 0 rfl Try.underlying74 rfl rfl ?_ | refine own_load1 M 74 _ rfl rfl _ _ rfl 1 rfl Try.underlying74 rfl rfl ?_ | refine own_load1 M 74 _ rfl rfl _ _ rfl 2 rfl Try.underlying74 rfl rfl ?_ | refine own_load1 M 74 _ rfl rfl _ _ rfl 3 rfl Try.underlying74 rfl rfl ?_ | refine own_load1 M 74 _ rfl rfl _ _ rfl 4 rfl Try.underlying74 rfl rfl ?_); try simp only [Act.put, List.setIfInBounds_toArray, List.set_cons_zero, List.set_cons_succ])
        | ((with_reducible refine at_load 81 _ rfl ?_); refine own_load1 M 81 _ rfl rfl sh.gQ e rfl 3 rfl Try.underlying81 rfl hcQ ?_; (try simp only [Act.put, List.setIfInBounds_toArray, List.set_cons_zero, List.set_cons_succ]))
        | ((with_reducible refine at_load 4 _ rfl ?_); refine own_load1 M 4 _ rfl rfl g (j * 6 + 2) rfl 4 rfl Try.underlying4 rfl hc1 ?_; (try simp only [Act.put, List.setIfInBounds_toArray, List.set_cons_zero, List.set_cons_succ]))
        | ((with_reducible refine at_build 29 _ rfl ?_); refine own_val rfl (fun w => run_build_op rfl (buildVa0) (by first | (simp only [List.map_toArray, List.map_cons, List.map_nil]; done) | (simp only [List.map_toArray, List.map_cons, List.map_nil]; rfl)) w) ?_; try simp only [Act.put, List.setIfInBounds_toArray, List.set_cons_zero, List.set_cons_succ])
        | ((with_reducible refine at_store 29 _ (.tmp _) rfl ?_); refine own_storeT (v := Va.zero.val) (vs := Va.zero.cs) M 29 _ _ rfl rfl _ _ rfl rfl rfl 0 rfl infoVa rfl (Nat.le_of_ble_eq_true rfl) ?_; clear M; intro w M; simp only [List.set_cons_zero, List.set_cons_succ, List.drop_succ_cons, List.drop_zero, List.take_succ_cons, List.take_zero, List.cons_append, List.nil_append, List.append_nil, List.length_cons, List.length_nil, Nat.zero_add, Nat.reduceAdd, List.drop_nil] at M; (try simp only [Act.put, List.setIfInBounds_toArray, List.set_cons_zero, List.set_cons_succ])))
      refine bodyPost_ret (own_ret_cell_tmp M rfl rfl 0 rfl Try.underlying29 rfl infoVa rfl) rfl ⟨⟨_, hf, ?_⟩, fin2 _ _ M⟩
      simp [getS, hg, hh]
end Go.Proofs.Ytkckgjjhnjcffaa
