/- The program's scopes, continued: how a name is found, told and set. -/
import Derived.Test.YtkckgjjhnjcffaaScS
namespace Go.Proofs.Ytkckgjjhnjcffaa
open Go.ChangeShapes Go.WideShapes Go.ChangeAt Go.RowKit
set_option linter.unusedVariables false
set_option linter.unusedSimpArgs false
set_option maxRecDepth 100000
attribute [local irreducible] wpList Calls wpQuiet
theorem state_none (w : World) : Calls Try.prog 35 #[.pointer none] w fun e w' => e = .returned (.int .i64 1) ∧ Below w.heap.size w w' := by
  go_enter Try.func35, Try.ntmps35
  go_wp2
  all_goals go_ret
  all_goals exact ⟨rfl, Below.refl _ _⟩
theorem state_some {w : World} (x : VrS) (h : Has w x.g (.cells x.cs.toArray 79 (0, 0))) : Calls Try.prog 35 #[.pointer (some ⟨x.g, 0, none⟩)] w fun e w' => e = .returned (.int .i64 (if x.vr.has then 0 else 2)) ∧ Below w.heap.size w w' := by
  have M := Own.one h
  go_enter Try.func35, Try.ntmps35
  cases hb : x.vr.has <;> (
    simp only [VrS.cs, hb] at M
    go_wp2_with (first | ((with_reducible refine at_load 4 _ rfl ?_); (first | refine own_load1 M 4 _ rfl rfl _ _ rfl 0 rfl Try.underlying4 rfl rfl ?_ | refine own_load1 M 4 _ rfl rfl _ _ rfl 1 rfl Try.underlying4 rfl rfl ?_ | refine own_load1 M 4 _ rfl rfl _ _ rfl 2 rfl Try.underlying4 rfl rfl ?_ | refine own_load1 M 4 _ rfl rfl _ _ rfl 3 rfl Try.underlying4 rfl rfl ?_ | refine own_load1 M 4 _ rfl rfl _ _ rfl 4 rfl Try.underlying4 rfl rfl ?_); try simp only [Act.put, List.setIfInBounds_toArray, List.set_cons_zero, List.set_cons_succ]))
    all_goals go_ret
    all_goals exact ⟨by simp, Below.refl _ _⟩)
inductive PtrIs (sh : ShS) : Option (Nat × Nat) → Value → Prop
  | none : PtrIs sh none (.pointer none)
  | some {e j : Nat} {r : ScS} {x : VrS} : sh.rows[e]? = some r → r.vars[j]? = some x → PtrIs sh (some (e, j)) (.pointer (some ⟨x.g, 0, none⟩))
theorem σ_get {sh : ShS} {e : Nat} {r : ScS} (h : sh.rows[e]? = some r) : sh.σ[e]? = some r.sc := by simp [ShS.σ, h]
theorem σ_len (sh : ShS) : sh.σ.length = sh.rows.length := by simp [ShS.σ]
theorem find_c {w : World} (sh : ShS) (ok : sh.Ok) (h : ∀ p ∈ sh.blks, Has w p.1 p.2) (nd : (sh.blks.map Prod.fst).Nodup) (env : Int) (k : ByteArray) :
    Calls Try.prog 34 #[.pointer (some ⟨sh.gS, 0, none⟩), .int .i64 env, .string k] w fun e w' => (∃ res v, Finds sh.σ k env res ∧ PtrIs sh res v ∧ e = .returned v) ∧ Below w.heap.size w w' := by
  have M := Own.many h nd
  go_enter Try.func34, Try.ntmps34
  go_wp2
  go_loopw [1, 7] (fun i _ wr => ∃ c : Int, i = .int .i64 c ∧ (∀ r, Finds sh.σ k c r → Finds sh.σ k env r) ∧ Own (fun k => k ∈ sh.blks.map Prod.fst) w wr sh.blks)
    (fun i _ _ => (intOf i + 1).toNat)
  case atStart => exact ⟨env, rfl, fun _ hr => hr, M⟩
  case round =>
    clear M
    obtain ⟨c, rfl, hstep, M⟩ := hrel
    by_cases hin : 0 ≤ c ∧ c < sh.rows.length
    · obtain ⟨e, rfl⟩ : ∃ e : Nat, c = e := ⟨c.toNat, by omega⟩
      obtain ⟨r, hr⟩ : ∃ r, sh.rows[e]? = some r := ⟨sh.rows[e]'(by omega), List.getElem?_eq_getElem _⟩
      have hdec : decide (0 ≤ (e : Int) ∧ (e : Int) < sh.rows.length) = true := decide_eq_true hin
      have hc1 : sh.cur[e * 2 + 1]? = some (.map (some r.gM)) := ok.cell hr (k := 1) (by omega)
      have hc0 : sh.cur[e * 2]? = some (.int .i64 r.parent) := ok.cell hr (k := 0) (by omega)
      have hmem := List.mem_of_getElem? hr
      have hpar : r.parent < e := ok.par e r.parent (by simp [hr])
      obtain ⟨l1, l2, -, -, pm⟩ := ShS.perm1 hr
      replace M := M.perm pm
      generalize (r.vars.map VrS.blk ++ (l1 ++ l2).flatMap ScS.blks) = R at M pm
      rcases ok.look hr k with ⟨hl, hix⟩ | ⟨j, x, hl, hix, hx⟩
      · have hval : (((r.vars.map VrS.pair).find? (fun p => k == p.1)).map (·.2)).getD (.pointer none) = .pointer none := by rw [hl]; rfl
        go_wp2_with (first
          | (go_at_call 31; (with_reducible refine (is_c (M.has 0 _ _ rfl) _).mono ?_); rintro _ w1 ⟨rfl, hb⟩; replace M := M.call hb; clear hb; try simp only [hdec])
          | ((with_reducible refine at_load 71 _ rfl ?_); (first | refine own_load1 M 71 _ rfl rfl _ _ rfl 0 rfl Try.underlying71 rfl rfl ?_ | refine own_load1 M 71 _ rfl rfl _ _ rfl 1 rfl Try.underlying71 rfl rfl ?_ | refine own_load1 M 71 _ rfl rfl _ _ rfl 2 rfl Try.underlying71 rfl rfl ?_ | refine own_load1 M 71 _ rfl rfl _ _ rfl 3 rfl Try.underlying71 rfl rfl ?_ | refine own_load1 M 71 _ rfl rfl _ _ rfl 4 rfl Try.underlying71 rfl rfl ?_); try simp only [Act.put, List.setIfInBounds_toArray, List.set_cons_zero, List.set_cons_succ])
          | ((with_reducible refine at_load 68 _ rfl ?_); refine own_load1 M 68 _ rfl rfl sh.gL (e * 2 + 1) rfl 1 rfl Try.underlying68 rfl hc1 ?_; (try simp only [Act.put, List.setIfInBounds_toArray, List.set_cons_zero, List.set_cons_succ]))
          | ((with_reducible refine at_lookup' 68 _ _ rfl ?_); refine own_lookup_str M Try.underlying68 Try.underlying9 zeroPtr _ _ rfl rfl _ rfl k rfl 2 rfl (ok.map _ hmem) hval ?_; (try simp only [Act.put, List.setIfInBounds_toArray, List.set_cons_zero, List.set_cons_succ]))
          | ((with_reducible refine at_load 3 _ rfl ?_); refine own_load1 M 3 _ rfl rfl sh.gL (e * 2) rfl 1 rfl Try.underlying3 rfl hc0 ?_; (try simp only [Act.put, List.setIfInBounds_toArray, List.set_cons_zero, List.set_cons_succ])))
        refine ⟨⟨r.parent, rfl, fun q hq => hstep _ (Finds.up rfl (σ_get hr) hix hq), M.perm pm.symm⟩, ?_⟩
        simp only [intOf]
        omega
      · have hval : (((r.vars.map VrS.pair).find? (fun p => k == p.1)).map (·.2)).getD (.pointer none) = .pointer (some ⟨x.g, 0, none⟩) := by rw [hl]; rfl
        go_wp2_with (first
          | (go_at_call 31; (with_reducible refine (is_c (M.has 0 _ _ rfl) _).mono ?_); rintro _ w1 ⟨rfl, hb⟩; replace M := M.call hb; clear hb; try simp only [hdec])
          | ((with_reducible refine at_load 71 _ rfl ?_); (first | refine own_load1 M 71 _ rfl rfl _ _ rfl 0 rfl Try.underlying71 rfl rfl ?_ | refine own_load1 M 71 _ rfl rfl _ _ rfl 1 rfl Try.underlying71 rfl rfl ?_ | refine own_load1 M 71 _ rfl rfl _ _ rfl 2 rfl Try.underlying71 rfl rfl ?_ | refine own_load1 M 71 _ rfl rfl _ _ rfl 3 rfl Try.underlying71 rfl rfl ?_ | refine own_load1 M 71 _ rfl rfl _ _ rfl 4 rfl Try.underlying71 rfl rfl ?_); try simp only [Act.put, List.setIfInBounds_toArray, List.set_cons_zero, List.set_cons_succ])
          | ((with_reducible refine at_load 68 _ rfl ?_); refine own_load1 M 68 _ rfl rfl sh.gL (e * 2 + 1) rfl 1 rfl Try.underlying68 rfl hc1 ?_; (try simp only [Act.put, List.setIfInBounds_toArray, List.set_cons_zero, List.set_cons_succ]))
          | ((with_reducible refine at_lookup' 68 _ _ rfl ?_); refine own_lookup_str M Try.underlying68 Try.underlying9 zeroPtr _ _ rfl rfl _ rfl k rfl 2 rfl (ok.map _ hmem) hval ?_; (try simp only [Act.put, List.setIfInBounds_toArray, List.set_cons_zero, List.set_cons_succ])))
        go_ret
        exact ⟨⟨some (e, j), _, hstep _ (Finds.here rfl (σ_get hr) hix), PtrIs.some hr hx, rfl⟩, Own.read h (M.perm pm.symm) (fun p hp => hp)⟩
    · have hdec : decide (0 ≤ c ∧ c < sh.rows.length) = false := decide_eq_false hin
      go_wp2_with (first
        | (go_at_call 31; (with_reducible refine (is_c (M.has 0 _ _ rfl) _).mono ?_); rintro _ w1 ⟨rfl, hb⟩; replace M := M.call hb; clear hb; try simp only [hdec]))
      go_ret
      exact ⟨⟨none, _, hstep _ (Finds.out (by rw [σ_len]; exact hin)), PtrIs.none, rfl⟩, Own.read h M (fun _ hp => hp)⟩
end Go.Proofs.Ytkckgjjhnjcffaa
