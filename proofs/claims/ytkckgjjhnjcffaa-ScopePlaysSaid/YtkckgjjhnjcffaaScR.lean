/- The document's scopes: each call does what the plain one does. -/
import Derived.Test.YtkckgjjhnjcffaaScB
import Derived.Test.YtkckgjjhnjcffaaScS
import Derived.WalkKit
namespace Go.Proofs.Ytkckgjjhnjcffaa
open Go.ChangeShapes Go.WideShapes Go.ChangeAt Go.RowKit
set_option linter.unusedVariables false
set_option linter.unusedSimpArgs false
set_option maxRecDepth 100000
attribute [local irreducible] wpList Calls wpQuiet
theorem there_c {w : World} {g n cap : Nat} {A : Option Addr} {v : Value} (h : Has w g (.cells [v, Value.slice A n cap].toArray 76 (0, 0))) (env : Int) :
    Calls Try.prog 32 #[.pointer (some ⟨g, 0, none⟩), .int .i64 env] w fun e w' => e = .returned (.bool (decide (0 ≤ env ∧ env < n))) ∧ Below w.heap.size w w' := by
  have M := Own.one h
  go_enter Try.func32, Try.ntmps32
  go_wp2_with (first
    | ((with_reducible refine at_guard (_, _) rfl ?_); (refine own_guard rfl rfl rfl ?_ ?_ <;> (intro hc; (try simp only [Bool.not_true, Bool.not_false, Bool.not_eq_true', Bool.not_eq_false', reduceCtorEq] at hc); (try simp only [hc, Bool.not_true, Bool.not_false]))); try simp only [Act.put, List.setIfInBounds_toArray, List.set_cons_zero, List.set_cons_succ])
    | ((with_reducible refine at_load 74 _ rfl ?_); (first | refine own_load1 M 74 _ rfl rfl _ _ rfl 0 rfl Try.underlying74 rfl rfl ?_ | refine own_load1 M 74 _ rfl rfl _ _ rfl 1 rfl Try.underlying74 rfl rfl ?_ | refine own_load1 M 74 _ rfl rfl _ _ rfl 2 rfl Try.underlying74 rfl rfl ?_ | refine own_load1 M 74 _ rfl rfl _ _ rfl 3 rfl Try.underlying74 rfl rfl ?_ | refine own_load1 M 74 _ rfl rfl _ _ rfl 4 rfl Try.underlying74 rfl rfl ?_); try simp only [Act.put, List.setIfInBounds_toArray, List.set_cons_zero, List.set_cons_succ]))
  all_goals go_ret
  all_goals refine ⟨ret_bool ?_, Below.refl _ _⟩
  all_goals first | (simp_all; done) | (simp_all; intros; omega)
/-- The place of a name among variables, as the document's own tells it. -/
def atI (k : ByteArray) (l : List Vr) : Int := match idx k l with
  | none => -1
  | some j => j
theorem idx_none_of {k : ByteArray} {l : List Vr} (h : ∀ (m : Nat) x, m < l.length → l[m]? = some x → k ≠ x.name) : idx k l = none := by
  unfold idx
  rw [List.findIdx?_eq_none_iff]
  intro x hx
  obtain ⟨m, hm⟩ := List.mem_iff_getElem?.1 hx
  simpa using h m x (lt_of_get hm) hm
theorem idx_some_of {k : ByteArray} {l : List Vr} {j : Nat} {x : Vr} (hj : l[j]? = some x) (he : k = x.name) (h : ∀ (m : Nat) y, m < j → l[m]? = some y → k ≠ y.name) : idx k l = some j := by
  unfold idx
  rw [List.findIdx?_eq_some_iff_getElem]
  obtain ⟨hl, e⟩ := List.getElem?_eq_some_iff.1 hj
  refine ⟨hl, by simp [e, he], fun m hm => ?_⟩
  have := h m (l[m]'(by omega)) hm (List.getElem?_eq_getElem _)
  simpa using this
theorem at_c {w : World} (sh : ShR) (ok : sh.Ok) (h : ∀ p ∈ sh.blks, Has w p.1 p.2) (nd : (sh.blks.map Prod.fst).Nodup) {e : Nat} {r : RowR} (hr : sh.rows[e]? = some r) (k : ByteArray) :
    Calls Try.prog 33 #[.pointer (some ⟨sh.gR, 0, none⟩), .int .i64 e, .string k] w fun e w' => e = .returned (.int .i64 (atI k r.sc.vars)) ∧ Below w.heap.size w w' := by
  have M := Own.many h nd
  have hcQ := ok.cellQ hr
  have hlt := lt_of_get hr
  have hrow := ok.row r (List.mem_of_getElem? hr)
  obtain ⟨l1, l2, -, -, pm⟩ := ShR.perm1 hr
  replace M := M.perm pm
  have h0 : ∀ p ∈ sh.blks, p ∈ _ := fun p hp => pm.mem_iff.1 hp
  generalize hS : (fun k => k ∈ sh.blks.map Prod.fst) = S at M
  unfold RowR.val at hcQ
  unfold RowR.Ok at hrow
  cases hrw : r.row with
  | none =>
    rw [hrw] at hrow hcQ M pm
    obtain ⟨hn0, -⟩ := hrow
    simp only [SRow.val] at hcQ
    go_enter Try.func33, Try.ntmps33
    have hnil : r.sc.vars = [] := List.eq_nil_of_length_eq_zero hn0
    go_wp2
    generalize hR : (l1 ++ l2).flatMap RowR.blks = R at M pm
    go_loopw [7] (fun i wr => i = .int .i64 0 ∧ Own S w wr ((sh.gR, .cells sh.top.toArray 76 (0, 0)) :: (sh.gP, .cells sh.curP.toArray 3 (0, 0)) :: (sh.gQ, .cells sh.curQ.toArray 81 (0, 0)) :: R))
      (fun i _ => 0)
    case atStart => exact ⟨rfl, M⟩
    case round =>
      clear M
      obtain ⟨rfl, M⟩ := hrel
      go_wp2_with (first
        | ((with_reducible refine at_load 74 _ rfl ?_); (first | refine own_load1 M 74 _ rfl rfl _ _ rfl 0 rfl Try.underlying74 rfl rfl ?_ | refine own_load1 M 74 _ rfl rfl _ _ rfl 1 rfl Try.underlying74 rfl rfl ?_ | refine own_load1 M 74 _ rfl rfl _ _ rfl 2 rfl Try.underlying74 rfl rfl ?_ | refine own_load1 M 74 _ rfl rfl _ _ rfl 3 rfl Try.underlying74 rfl rfl ?_ | refine own_load1 M 74 _ rfl rfl _ _ rfl 4 rfl Try.underlying74 rfl rfl ?_); try simp only [Act.put, List.setIfInBounds_toArray, List.set_cons_zero, List.set_cons_succ])
        | ((with_reducible refine at_load 81 _ rfl ?_); refine own_load1 M 81 _ rfl rfl sh.gQ e rfl 2 rfl Try.underlying81 rfl hcQ ?_; (try simp only [Act.put, List.setIfInBounds_toArray, List.set_cons_zero, List.set_cons_succ])))
      go_ret
      refine ⟨by simp [atI, hnil, idx], ?_⟩
      subst hS
      exact Own.read h M (fun p hp => pm.mem_iff.1 hp)
  | some q =>
    obtain ⟨g, cap, cur⟩ := q
    rw [hrw] at hrow hcQ M pm
    simp only [SRow.val] at hcQ
    go_enter Try.func33, Try.ntmps33
    go_wp2
    generalize hR : (l1 ++ l2).flatMap RowR.blks = R at M pm
    go_loopw [7] (fun i wr => ∃ j : Nat, i = .int .i64 j ∧ j ≤ r.sc.vars.length ∧ (∀ (m : Nat) y, m < j → r.sc.vars[m]? = some y → k ≠ y.name) ∧ Own S w wr ((sh.gR, .cells sh.top.toArray 76 (0, 0)) :: (sh.gP, .cells sh.curP.toArray 3 (0, 0)) :: (sh.gQ, .cells sh.curQ.toArray 81 (0, 0)) :: (g, .cells cur.toArray 83 (0, 0)) :: R))
      (fun i _ => r.sc.vars.length - (intOf i).toNat)
    case atStart => exact ⟨0, rfl, Nat.zero_le _, fun m y hm => absurd hm (by omega), M⟩
    case round =>
      clear M
      obtain ⟨j, rfl, hj, hbef, M⟩ := hrel
      by_cases hjl : j < r.sc.vars.length
      · have hx : r.sc.vars[j]? = some r.sc.vars[j] := List.getElem?_eq_getElem hjl
        generalize r.sc.vars[j] = x at hx
        obtain ⟨g2, cap2, cur2, hq, hro, hcell⟩ := SRow.ok_cell hrow hx
        cases hq
        have hc0 : cur[j * 6]? = some (.string x.name) := hcell 0 (by omega)
        go_wp2_with (first
          | ((with_reducible refine at_load 74 _ rfl ?_); (first | refine own_load1 M 74 _ rfl rfl _ _ rfl 0 rfl Try.underlying74 rfl rfl ?_ | refine own_load1 M 74 _ rfl rfl _ _ rfl 1 rfl Try.underlying74 rfl rfl ?_ | refine own_load1 M 74 _ rfl rfl _ _ rfl 2 rfl Try.underlying74 rfl rfl ?_ | refine own_load1 M 74 _ rfl rfl _ _ rfl 3 rfl Try.underlying74 rfl rfl ?_ | refine own_load1 M 74 _ rfl rfl _ _ rfl 4 rfl Try.underlying74 rfl rfl ?_); try simp only [Act.put, List.setIfInBounds_toArray, List.set_cons_zero, List.set_cons_succ])
          | ((with_reducible refine at_load 81 _ rfl ?_); refine own_load1 M 81 _ rfl rfl sh.gQ e rfl 2 rfl Try.underlying81 rfl hcQ ?_; (try simp only [Act.put, List.setIfInBounds_toArray, List.set_cons_zero, List.set_cons_succ]))
          | ((with_reducible refine at_load 9 _ rfl ?_); refine own_load1 M 9 _ rfl rfl g (j * 6) rfl 3 rfl Try.underlying9 rfl hc0 ?_; (try simp only [Act.put, List.setIfInBounds_toArray, List.set_cons_zero, List.set_cons_succ])))
        · rename_i he
          have hk : k = x.name := (bytes_ext (by simpa using he)).symm
          go_ret
          refine ⟨?_, ?_⟩
          · simp only [atI, idx_some_of hx hk hbef]
            rfl
          · subst hS
            exact Own.read h M (fun p hp => pm.mem_iff.1 hp)
        · rename_i he
          have hk : k ≠ x.name := fun e => by
            subst e
            simp at he
          have hb : (j : Int) + 1 ≤ 9223372036854775807 := by
            have h1 := hro.le
            have h2 := hro.max
            unfold maxLen at h2
            omega
          have hw : wrap64 ((j : Int) + 1) = (j : Int) + 1 := by unfold wrap64; omega
          refine ⟨⟨j + 1, congrArg (Value.int .i64) (by rw [hw]; omega), by omega, fun m y hm hy => ?_, M⟩, ?_⟩
          · by_cases hmj : m = j
            · subst hmj
              rw [hx] at hy
              cases hy
              exact hk
            · exact hbef m y (by omega) hy
          · rw [hw]
            simp only [intOf]
            omega
      · go_wp2_with (first
          | ((with_reducible refine at_load 74 _ rfl ?_); (first | refine own_load1 M 74 _ rfl rfl _ _ rfl 0 rfl Try.underlying74 rfl rfl ?_ | refine own_load1 M 74 _ rfl rfl _ _ rfl 1 rfl Try.underlying74 rfl rfl ?_ | refine own_load1 M 74 _ rfl rfl _ _ rfl 2 rfl Try.underlying74 rfl rfl ?_ | refine own_load1 M 74 _ rfl rfl _ _ rfl 3 rfl Try.underlying74 rfl rfl ?_ | refine own_load1 M 74 _ rfl rfl _ _ rfl 4 rfl Try.underlying74 rfl rfl ?_); try simp only [Act.put, List.setIfInBounds_toArray, List.set_cons_zero, List.set_cons_succ])
          | ((with_reducible refine at_load 81 _ rfl ?_); refine own_load1 M 81 _ rfl rfl sh.gQ e rfl 2 rfl Try.underlying81 rfl hcQ ?_; (try simp only [Act.put, List.setIfInBounds_toArray, List.set_cons_zero, List.set_cons_succ])))
        go_ret
        refine ⟨?_, ?_⟩
        · have hn : idx k r.sc.vars = none := idx_none_of fun m y hm hy => hbef m y (by omega) hy
          simp only [atI, hn]
          rfl
        · subst hS
          exact Own.read h M (fun p hp => pm.mem_iff.1 hp)
end Go.Proofs.Ytkckgjjhnjcffaa
