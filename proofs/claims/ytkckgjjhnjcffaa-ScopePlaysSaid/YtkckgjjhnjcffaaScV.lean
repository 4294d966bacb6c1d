/- The document's scopes, continued: Make, find, Get. -/
import Derived.Test.YtkckgjjhnjcffaaScR
namespace Go.Proofs.Ytkckgjjhnjcffaa
open Go.ChangeShapes Go.WideShapes Go.ChangeAt Go.RowKit
set_option linter.unusedVariables false
set_option linter.unusedSimpArgs false
set_option maxRecDepth 100000
attribute [local irreducible] wpList Calls wpQuiet
theorem perm3 {α : Type} (a b c : α) (R : List α) : (a :: b :: c :: R).Perm (c :: b :: a :: R) :=
  ((List.Perm.swap c b R).cons a).trans ((List.Perm.swap c a _).trans ((List.Perm.swap b a R).cons c))
theorem infoInt1 : (Try.prog.info? 3).map (fun i => (i.size, i.bytes, i.zero.map fun z => z.cells.size)) = some (1, 8, some 1) := by kernel_rfl
theorem infoRow1 : (Try.prog.info? 81).map (fun i => (i.size, i.bytes, i.zero.map fun z => z.cells.size)) = some (1, 24, some 1) := by kernel_rfl
theorem infoVar6 : (Try.prog.info? 83).map (fun i => (i.size, i.bytes, i.zero.map fun z => z.cells.size)) = some (6, 56, some 6) := by kernel_rfl
theorem infoSlI : (Try.prog.info? 54).map (·.size) = some 1 := by kernel_rfl
theorem infoSlR : (Try.prog.info? 74).map (·.size) = some 1 := by kernel_rfl
theorem infoSlV : (Try.prog.info? 81).map (·.size) = some 1 := by kernel_rfl
theorem bsInt (p : Int) (w : World) : (Instr.buildSlice 54 1 #[(0, .int .i64 p)]).run Try.prog w = .ok (.slice (some ⟨w.heap.size, 0, none⟩) 1 1) (w.alloc (.cells #[.int .i64 p] 3 (0, 0))) := by kernel_rfl
theorem bsNil (w : World) : (Instr.buildSlice 74 1 #[(0, .slice none 0 0)]).run Try.prog w = .ok (.slice (some ⟨w.heap.size, 0, none⟩) 1 1) (w.alloc (.cells #[.slice none 0 0] 81 (0, 0))) := by kernel_rfl
def LeftR (sh : ShR) (w w' : World) (σ : List Sc) : Prop := ∃ sh' : ShR, sh'.Ok ∧ sh'.σ = σ ∧ sh'.gR = sh.gR ∧ Own (fun k => k ∈ sh.blks.map Prod.fst) w w' sh'.blks
theorem σR_get {sh : ShR} {e : Nat} {r : RowR} (h : sh.rows[e]? = some r) : sh.σ[e]? = some r.sc := by simp [ShR.σ, h]
theorem σR_len (sh : ShR) : sh.σ.length = sh.rows.length := by simp [ShR.σ]
theorem rmake_c {w : World} (sh : ShR) (ok : sh.Ok) (M : Own (fun k => k ∈ sh.blks.map Prod.fst) w w sh.blks) (p : Int) (hn : sh.rows.length ≤ 1000) :
    Calls Try.prog 15 #[.pointer (some ⟨sh.gR, 0, none⟩), .int .i64 p] w fun e w' => e = .returned (.int .i64 (mkS sh.σ p).2) ∧ LeftR sh w w' (mkS sh.σ p).1 := by
  have hlen : sh.σ.length = sh.rows.length := σR_len sh
  unfold LeftR
  by_cases hin : 0 ≤ p ∧ p < sh.rows.length
  · obtain ⟨sc, hat⟩ : ∃ sc, at? sh.σ p = some sc := by
      obtain ⟨e, rfl⟩ : ∃ e : Nat, p = e := ⟨p.toNat, by omega⟩
      exact ⟨sh.σ[e]'(by omega), at?_in (List.getElem?_eq_getElem _)⟩
    have hres : mkS sh.σ p = (sh.σ ++ [⟨p, []⟩], (sh.σ.length : Int)) := by simp [mkS, hat]
    have hdec : decide (0 ≤ p ∧ p < sh.rows.length) = true := decide_eq_true hin
    rw [hres, hlen]
    generalize hS : (fun k => k ∈ sh.blks.map Prod.fst) = S at M ⊢
    unfold ShR.blks at M
    generalize hR : sh.rows.flatMap RowR.blks = R at M
    go_enter Try.func15, Try.ntmps15
    go_wp2_with (first
      | (go_at_call 32; (with_reducible refine (there_c (M.has 0 _ _ rfl) _).mono ?_); rintro _ w1 ⟨rfl, hb⟩; replace M := M.call hb; clear hb; try simp only [hdec])
      | ((with_reducible refine at_load 54 _ rfl ?_); (first | refine own_load1 M 54 _ rfl rfl _ _ rfl 0 rfl Try.underlying54 rfl rfl ?_ | refine own_load1 M 54 _ rfl rfl _ _ rfl 1 rfl Try.underlying54 rfl rfl ?_ | refine own_load1 M 54 _ rfl rfl _ _ rfl 2 rfl Try.underlying54 rfl rfl ?_ | refine own_load1 M 54 _ rfl rfl _ _ rfl 3 rfl Try.underlying54 rfl rfl ?_ | refine own_load1 M 54 _ rfl rfl _ _ rfl 4 rfl Try.underlying54 rfl rfl ?_); try simp only [Act.put, List.setIfInBounds_toArray, List.set_cons_zero, List.set_cons_succ])
      | ((with_reducible refine at_load 74 _ rfl ?_); (first | refine own_load1 M 74 _ rfl rfl _ _ rfl 0 rfl Try.underlying74 rfl rfl ?_ | refine own_load1 M 74 _ rfl rfl _ _ rfl 1 rfl Try.underlying74 rfl rfl ?_ | refine own_load1 M 74 _ rfl rfl _ _ rfl 2 rfl Try.underlying74 rfl rfl ?_ | refine own_load1 M 74 _ rfl rfl _ _ rfl 3 rfl Try.underlying74 rfl rfl ?_ | refine own_load1 M 74 _ rfl rfl _ _ rfl 4 rfl Try.underlying74 rfl rfl ?_); try simp only [Act.put, List.setIfInBounds_toArray, List.set_cons_zero, List.set_cons_succ])
      | ((with_reducible refine at_buildSlice 54 _ _ rfl ?_); refine own_buildSlice M 54 _ _ rfl rfl (by first | (simp only [List.map_toArray, List.map_cons, List.map_nil]; done) | (simp only [List.map_toArray, List.map_cons, List.map_nil]; rfl)) (bsInt _) ?_; clear M; intro gx w M; (try simp only [Act.put, List.setIfInBounds_toArray, List.set_cons_zero, List.set_cons_succ]))
      | ((with_reducible refine at_buildSlice 74 _ _ rfl ?_); refine own_buildSlice M 74 _ _ rfl rfl (by first | (simp only [List.map_toArray, List.map_cons, List.map_nil]; done) | (simp only [List.map_toArray, List.map_cons, List.map_nil]; rfl)) (bsNil) ?_; clear M; intro gy w M; (try simp only [Act.put, List.setIfInBounds_toArray, List.set_cons_zero, List.set_cons_succ]))
      | ((with_reducible refine at_append _ _ 54 rfl ?_); refine own_append _ _ _ rfl rfl 3 1 8 Try.underlying54 infoInt1 (some (sh.gP, sh.capP, sh.curP)) sh.rows.length _ (M.front 2 rfl) ok.rowP rfl _ 1 _ rfl (M.has 0 _ _ rfl) rfl rfl (by unfold maxLen; omega) (by omega) ?_; clear M; intro r' w hr' M; obtain ⟨gP', capP', curP', rfl, hrP'⟩ := SRow.ok_some hr'; simp only [SRow.blks, List.cons_append, List.nil_append, List.eraseIdx_cons_succ, List.eraseIdx_cons_zero, SRow.val] at M ⊢; (try simp only [Act.put, List.setIfInBounds_toArray, List.set_cons_zero, List.set_cons_succ]))
      | ((with_reducible refine at_append _ _ 74 rfl ?_); refine own_append _ _ _ rfl rfl 81 1 24 Try.underlying74 infoRow1 (some (sh.gQ, sh.capQ, sh.curQ)) sh.rows.length _ (M.front 4 rfl) ok.rowQ rfl _ 1 _ rfl (M.has 0 _ _ rfl) rfl rfl (by unfold maxLen; omega) (by omega) ?_; clear M; intro r' w hr' M; obtain ⟨gQ', capQ', curQ', rfl, hrQ'⟩ := SRow.ok_some hr'; simp only [SRow.blks, List.cons_append, List.nil_append, List.eraseIdx_cons_succ, List.eraseIdx_cons_zero, SRow.val] at M ⊢; (try simp only [Act.put, List.setIfInBounds_toArray, List.set_cons_zero, List.set_cons_succ]))
      | ((with_reducible refine at_store 54 _ (.tmp _) rfl ?_); refine own_storeT (v := .slice (some ⟨gP', 0, none⟩) (sh.rows.length + 1) capP') (vs := [.slice (some ⟨gP', 0, none⟩) (sh.rows.length + 1) capP']) M 54 _ _ rfl rfl _ _ rfl rfl rfl 2 rfl infoSlI rfl (Nat.le_of_ble_eq_true rfl) ?_; clear M; intro w M; simp only [List.set_cons_zero, List.set_cons_succ, List.drop_succ_cons, List.drop_zero, List.take_succ_cons, List.take_zero, List.cons_append, List.nil_append, List.append_nil, List.length_cons, List.length_nil, Nat.zero_add, Nat.reduceAdd, List.drop_nil] at M; (try simp only [Act.put, List.setIfInBounds_toArray, List.set_cons_zero, List.set_cons_succ]))
      | ((with_reducible refine at_store 74 _ (.tmp _) rfl ?_); refine own_storeT (v := .slice (some ⟨gQ', 0, none⟩) (sh.rows.length + 1) capQ') (vs := [.slice (some ⟨gQ', 0, none⟩) (sh.rows.length + 1) capQ']) M 74 _ _ rfl rfl _ _ rfl rfl rfl 4 rfl infoSlR rfl (Nat.le_of_ble_eq_true rfl) ?_; clear M; intro w M; simp only [List.set_cons_zero, List.set_cons_succ, List.drop_succ_cons, List.drop_zero, List.take_succ_cons, List.take_zero, List.cons_append, List.nil_append, List.append_nil, List.length_cons, List.length_nil, Nat.zero_add, Nat.reduceAdd, List.drop_nil] at M; (try simp only [Act.put, List.setIfInBounds_toArray, List.set_cons_zero, List.set_cons_succ])))
    go_ret
    have hr1 : RowOk 1 (sh.rows.length + 1) capP' curP' (sh.rows.flatMap RowR.par ++ [.int .i64 p]) := hrP'
    have hr2 : RowOk 1 (sh.rows.length + 1) capQ' curQ' (sh.rows.flatMap RowR.vals ++ [.slice none 0 0]) := hrQ'
    refine ⟨by simp, ⟨sh.gR, gP', capP', curP', gQ', capQ', curQ', sh.rows ++ [⟨⟨p, []⟩, none⟩]⟩, ⟨?_, ?_, ?_, ?_⟩, ?_, rfl, ?_⟩
    · simpa [RowR.par] using hr1
    · simpa [RowR.vals, RowR.val, SRow.val] using hr2
    · intro r hr
      rcases List.mem_append.1 hr with hr | hr
      · exact ok.row r hr
      · obtain rfl := List.mem_singleton.1 hr
        exact ⟨rfl, rfl⟩
    · simpa using ok.par.push (by simpa using hin.2)
    · simp [ShR.σ]
    · have M1 := M.less (L' := (gQ', .cells curQ'.toArray 81 (0, 0)) :: (gP', .cells curP'.toArray 3 (0, 0)) :: (sh.gR, .cells #[.slice (some ⟨gP', 0, none⟩) (sh.rows.length + 1) capP', .slice (some ⟨gQ', 0, none⟩) (sh.rows.length + 1) capQ'] 76 (0, 0)) :: R) (by
        refine List.Sublist.cons_cons _ (List.Sublist.cons _ (List.Sublist.cons_cons _ (List.Sublist.cons _ (List.Sublist.refl _)))))
      have M2 := M1.perm (perm3 _ _ _ R)
      unfold ShR.blks ShR.top
      simpa [RowR.blks, SRow.blks, hR] using M2
  · have hres : mkS sh.σ p = (sh.σ, -1) := by simp [mkS, at?_out (σ := sh.σ) (env := p) (by rw [hlen]; exact hin)]
    have hdec : decide (0 ≤ p ∧ p < sh.rows.length) = false := decide_eq_false hin
    rw [hres]
    generalize hS : (fun k => k ∈ sh.blks.map Prod.fst) = S at M ⊢
    go_enter Try.func15, Try.ntmps15
    go_wp2_with (first
      | (go_at_call 32; (with_reducible refine (there_c (M.has 0 _ _ rfl) _).mono ?_); rintro _ w1 ⟨rfl, hb⟩; replace M := M.call hb; clear hb; try simp only [hdec]))
    go_ret
    exact ⟨rfl, sh, ok, rfl, rfl, M⟩
end Go.Proofs.Ytkckgjjhnjcffaa
