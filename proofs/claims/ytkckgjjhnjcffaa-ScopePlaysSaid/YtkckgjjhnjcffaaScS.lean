/- The program's scopes: each call does what the plain one does. -/
import Derived.Test.YtkckgjjhnjcffaaScA
import Derived.WalkKit
namespace Go.Proofs.Ytkckgjjhnjcffaa
open Go.ChangeShapes Go.WideShapes Go.ChangeAt Go.RowKit
set_option linter.unusedVariables false
set_option linter.unusedSimpArgs false
set_option maxRecDepth 100000
attribute [local irreducible] wpList Calls wpQuiet
theorem ret_bool {b c : Bool} (h : b = c) : Ending.returned (.bool b) = Ending.returned (.bool c) := by rw [h]
theorem infoVar : (Try.prog.info? 79).map (·.size) = some 5 := by kernel_rfl
theorem infoSc : (Try.prog.info? 73).map (·.size) = some 1 := by kernel_rfl
theorem infoSl : (Try.prog.info? 71).map (·.size) = some 1 := by kernel_rfl
theorem infoOne : (Try.prog.info? 70).map (fun i => (i.size, i.bytes, i.zero.map fun z => z.cells.size)) = some (2, 16, some 2) := by kernel_rfl
theorem zeroPtr (w : World) : (zeroValue 77).run Try.prog w = .ok (.pointer none) w := by kernel_rfl
theorem buildOne (p : Int) (g : Nat) (w : World) : (Instr.build 69 #[(0, .int .i64 p), (1, .map (some g))]).run Try.prog w = .ok (.agg #[.int .i64 p, .map (some g)]) w := by kernel_rfl
theorem buildSc (v : Value) (w : World) (A : Option Addr) (n c : Nat) : (Instr.build 73 #[(0, .slice A n c)]).run Try.prog w = .ok (.agg #[.slice A n c]) w := by kernel_rfl
theorem buildVar (b : Bool) (w : World) : (Instr.build 79 #[(2, .bool b)]).run Try.prog w = .ok (.agg #[.int .i64 0, .int .i64 0, .string ⟨#[]⟩, .bool false, .bool b]) w := by kernel_rfl
theorem bsOne (p : Int) (g : Nat) (w : World) : (Instr.buildSlice 71 1 #[(0, .agg #[.int .i64 p, .map (some g)])]).run Try.prog w = .ok (.slice (some ⟨w.heap.size, 0, none⟩) 1 1) (w.alloc (.cells #[.int .i64 p, .map (some g)] 70 (0, 0))) := by kernel_rfl
theorem is_c {w : World} {g n cap : Nat} {A : Option Addr} (h : Has w g (.cells [Value.slice A n cap].toArray 73 (0, 0))) (env : Int) :
    Calls Try.prog 31 #[.pointer (some ⟨g, 0, none⟩), .int .i64 env] w fun e w' => e = .returned (.bool (decide (0 ≤ env ∧ env < n))) ∧ Below w.heap.size w w' := by
  have M := Own.one h
  go_enter Try.func31, Try.ntmps31
  go_wp2_with (first
    | ((with_reducible refine at_guard (_, _) rfl ?_); (refine own_guard rfl rfl rfl ?_ ?_ <;> (intro hc; (try simp only [Bool.not_true, Bool.not_false, Bool.not_eq_true', Bool.not_eq_false', reduceCtorEq] at hc); (try simp only [hc, Bool.not_true, Bool.not_false]))); try simp only [Act.put, List.setIfInBounds_toArray, List.set_cons_zero, List.set_cons_succ])
    | ((with_reducible refine at_load 71 _ rfl ?_); (first | refine own_load1 M 71 _ rfl rfl _ _ rfl 0 rfl Try.underlying71 rfl rfl ?_ | refine own_load1 M 71 _ rfl rfl _ _ rfl 1 rfl Try.underlying71 rfl rfl ?_ | refine own_load1 M 71 _ rfl rfl _ _ rfl 2 rfl Try.underlying71 rfl rfl ?_ | refine own_load1 M 71 _ rfl rfl _ _ rfl 3 rfl Try.underlying71 rfl rfl ?_ | refine own_load1 M 71 _ rfl rfl _ _ rfl 4 rfl Try.underlying71 rfl rfl ?_); try simp only [Act.put, List.setIfInBounds_toArray, List.set_cons_zero, List.set_cons_succ]))
  all_goals go_ret
  all_goals refine ⟨ret_bool ?_, Below.refl _ _⟩
  all_goals first | (simp_all; done) | (simp_all; intros; omega)
theorem new_c (w : World) : Calls Try.prog 11 #[] w fun e w' => ∃ sh : ShS, e = .returned (.pointer (some ⟨sh.gS, 0, none⟩)) ∧ sh.Ok ∧ sh.σ = [⟨-1, []⟩] ∧ Own nobody w w' sh.blks := by
  have M := Own.refl nobody w
  go_enter Try.func11, Try.ntmps11
  go_wp2_with (first
    | ((with_reducible refine at_makeMap' 68 rfl ?_); refine own_makeMap' M rfl rfl ?_; clear M; intro gm w M; (try simp only [Act.put, List.setIfInBounds_toArray, List.set_cons_zero, List.set_cons_succ]))
    | ((with_reducible refine at_build 69 _ rfl ?_); refine own_val rfl (fun w => run_build_op rfl (buildOne _ _) (by first | (simp only [List.map_toArray, List.map_cons, List.map_nil]; done) | (simp only [List.map_toArray, List.map_cons, List.map_nil]; rfl)) w) ?_; try simp only [Act.put, List.setIfInBounds_toArray, List.set_cons_zero, List.set_cons_succ])
    | ((with_reducible refine at_buildSlice 71 _ _ rfl ?_); refine own_buildSlice M 71 _ _ rfl rfl (by first | (simp only [List.map_toArray, List.map_cons, List.map_nil]; done) | (simp only [List.map_toArray, List.map_cons, List.map_nil]; rfl)) (bsOne _ _) ?_; clear M; intro gl w M; (try simp only [Act.put, List.setIfInBounds_toArray, List.set_cons_zero, List.set_cons_succ]))
    | ((with_reducible refine at_build 73 _ rfl ?_); refine own_val rfl (fun w => run_build_op rfl (buildSc _ _ _) (by first | (simp only [List.map_toArray, List.map_cons, List.map_nil]; done) | (simp only [List.map_toArray, List.map_cons, List.map_nil]; rfl)) w) ?_; try simp only [Act.put, List.setIfInBounds_toArray, List.set_cons_zero, List.set_cons_succ])
    | ((with_reducible refine at_slot 5 rfl ?_); (with_reducible refine at_box _ _ rfl ?_); refine own_box (cs := #[.slice (some ⟨gl, 0, none⟩) 1 1]) M _ _ rfl rfl rfl ?_; clear M; intro gs w M; (try simp only [Act.put, List.setIfInBounds_toArray, List.set_cons_zero, List.set_cons_succ])))
  go_ret
  refine ⟨⟨gs, gl, 1, [.int .i64 (-1), .map (some gm)], [⟨-1, gm, 0, #[], []⟩]⟩, rfl, ⟨⟨rfl, by simp, by simp [maxLen], rfl, rfl⟩, ?_, ?_⟩, rfl, M⟩
  · intro r hr
    obtain rfl := List.mem_singleton.1 hr
    rfl
  · intro e p hp
    cases e with
    | zero =>
      cases hp
      show (-1 : Int) < 0
      decide
    | succ e => simp at hp
/-- What a call leaves. -/
def Left (sh : ShS) (w w' : World) (σ : List Sc) : Prop := ∃ sh' : ShS, sh'.Ok ∧ sh'.σ = σ ∧ sh'.gS = sh.gS ∧ Own (fun k => k ∈ sh.blks.map Prod.fst) w w' sh'.blks
theorem make_c {w : World} (sh : ShS) (ok : sh.Ok) (M : Own (fun k => k ∈ sh.blks.map Prod.fst) w w sh.blks) (p : Int) (hn : sh.rows.length ≤ 1000) :
    Calls Try.prog 14 #[.pointer (some ⟨sh.gS, 0, none⟩), .int .i64 p] w fun e w' => e = .returned (.int .i64 (mkS sh.σ p).2) ∧ Left sh w w' (mkS sh.σ p).1 := by
  have hlen : sh.σ.length = sh.rows.length := by simp [ShS.σ]
  unfold Left
  by_cases hin : 0 ≤ p ∧ p < sh.rows.length
  · obtain ⟨sc, hat⟩ : ∃ sc, at? sh.σ p = some sc := by
      obtain ⟨e, rfl⟩ : ∃ e : Nat, p = e := ⟨p.toNat, by omega⟩
      exact ⟨sh.σ[e]'(by omega), at?_in (List.getElem?_eq_getElem _)⟩
    have hres : mkS sh.σ p = (sh.σ ++ [⟨p, []⟩], (sh.σ.length : Int)) := by simp [mkS, hat]
    have hdec : decide (0 ≤ p ∧ p < sh.rows.length) = true := decide_eq_true hin
    rw [hres, hlen]
    generalize hS : (fun k => k ∈ sh.blks.map Prod.fst) = S at M ⊢
    unfold ShS.blks at M
    generalize hR : sh.rows.flatMap ScS.blks = R at M
    go_enter Try.func14, Try.ntmps14
    go_wp2_with (first
      | (go_at_call 31; (with_reducible refine (is_c (M.has 0 _ _ rfl) _).mono ?_); rintro _ w1 ⟨rfl, hb⟩; replace M := M.call hb; clear hb; try simp only [hdec])
      | ((with_reducible refine at_load 71 _ rfl ?_); (first | refine own_load1 M 71 _ rfl rfl _ _ rfl 0 rfl Try.underlying71 rfl rfl ?_ | refine own_load1 M 71 _ rfl rfl _ _ rfl 1 rfl Try.underlying71 rfl rfl ?_ | refine own_load1 M 71 _ rfl rfl _ _ rfl 2 rfl Try.underlying71 rfl rfl ?_ | refine own_load1 M 71 _ rfl rfl _ _ rfl 3 rfl Try.underlying71 rfl rfl ?_ | refine own_load1 M 71 _ rfl rfl _ _ rfl 4 rfl Try.underlying71 rfl rfl ?_); try simp only [Act.put, List.setIfInBounds_toArray, List.set_cons_zero, List.set_cons_succ])
      | ((with_reducible refine at_makeMap' 68 rfl ?_); refine own_makeMap' M rfl rfl ?_; clear M; intro gm w M; (try simp only [Act.put, List.setIfInBounds_toArray, List.set_cons_zero, List.set_cons_succ]))
      | ((with_reducible refine at_build 69 _ rfl ?_); refine own_val rfl (fun w => run_build_op rfl (buildOne _ _) (by first | (simp only [List.map_toArray, List.map_cons, List.map_nil]; done) | (simp only [List.map_toArray, List.map_cons, List.map_nil]; rfl)) w) ?_; try simp only [Act.put, List.setIfInBounds_toArray, List.set_cons_zero, List.set_cons_succ])
      | ((with_reducible refine at_buildSlice 71 _ _ rfl ?_); refine own_buildSlice M 71 _ _ rfl rfl (by first | (simp only [List.map_toArray, List.map_cons, List.map_nil]; done) | (simp only [List.map_toArray, List.map_cons, List.map_nil]; rfl)) (bsOne _ _) ?_; clear M; intro gx w M; (try simp only [Act.put, List.setIfInBounds_toArray, List.set_cons_zero, List.set_cons_succ]))
      | ((with_reducible refine at_append _ _ 71 rfl ?_); refine own_append _ _ _ rfl rfl 70 2 16 Try.underlying71 infoOne (some (sh.gL, sh.cap, sh.cur)) sh.rows.length _ (M.front 3 rfl) ok.row rfl _ 1 _ rfl (M.has 0 _ _ rfl) rfl rfl (by unfold maxLen; omega) (by omega) ?_; clear M; intro r' w hr' M; obtain ⟨g', cap', cur', rfl, hr'⟩ := SRow.ok_some hr'; simp only [SRow.blks, List.cons_append, List.nil_append, List.eraseIdx_cons_succ, List.eraseIdx_cons_zero, SRow.val] at M ⊢; (try simp only [Act.put, List.setIfInBounds_toArray, List.set_cons_zero, List.set_cons_succ]))
      | ((with_reducible refine at_store 71 _ (.tmp _) rfl ?_); refine own_storeT (v := .slice (some ⟨g', 0, none⟩) (sh.rows.length + 1) cap') (vs := [.slice (some ⟨g', 0, none⟩) (sh.rows.length + 1) cap']) M 71 _ _ rfl rfl _ _ rfl rfl rfl 3 rfl infoSl rfl (Nat.le_of_ble_eq_true rfl) ?_; clear M; intro w M; simp only [List.set_cons_zero, List.set_cons_succ, List.drop_succ_cons, List.drop_zero, List.take_succ_cons, List.take_zero, List.cons_append, List.nil_append, List.append_nil, List.length_cons, List.length_nil, Nat.zero_add, Nat.reduceAdd, List.drop_nil] at M; (try simp only [Act.put, List.setIfInBounds_toArray, List.set_cons_zero, List.set_cons_succ])))
    go_ret
    refine ⟨by simp, ⟨sh.gS, g', cap', cur', sh.rows ++ [⟨p, gm, 0, #[], []⟩]⟩, ⟨?_, ?_, ?_⟩, ?_, rfl, ?_⟩
    · have hr2 : RowOk 2 (sh.rows.length + 1) cap' cur' (sh.rows.flatMap ScS.cs ++ [.int .i64 p, .map (some gm)]) := hr'
      simpa [ScS.cs] using hr2
    · intro r hr
      rcases List.mem_append.1 hr with hr | hr
      · exact ok.map r hr
      · obtain rfl := List.mem_singleton.1 hr
        rfl
    · simpa using ok.par.push (by simpa using hin.2)
    · simp [ShS.σ, ScS.sc]
    · have M1 := M.less (L' := (g', .cells cur'.toArray 70 (0, 0)) :: (gm, .map #[] 0) :: (sh.gS, .cells #[.slice (some ⟨g', 0, none⟩) (sh.rows.length + 1) cap'] 73 (0, 0)) :: R) (by simp)
      have M2 := M1.perm (permMake _ _ _ R)
      unfold ShS.blks ShS.top
      simpa [ScS.blks, hR] using M2
  · have hres : mkS sh.σ p = (sh.σ, -1) := by simp [mkS, at?_out (σ := sh.σ) (env := p) (by rw [hlen]; exact hin)]
    have hdec : decide (0 ≤ p ∧ p < sh.rows.length) = false := decide_eq_false hin
    rw [hres]
    generalize hS : (fun k => k ∈ sh.blks.map Prod.fst) = S at M ⊢
    go_enter Try.func14, Try.ntmps14
    go_wp2_with (first
      | (go_at_call 31; (with_reducible refine (is_c (M.has 0 _ _ rfl) _).mono ?_); rintro _ w1 ⟨rfl, hb⟩; replace M := M.call hb; clear hb; try simp only [hdec]))
    go_ret
    exact ⟨rfl, sh, ok, rfl, rfl, M⟩
end Go.Proofs.Ytkckgjjhnjcffaa
