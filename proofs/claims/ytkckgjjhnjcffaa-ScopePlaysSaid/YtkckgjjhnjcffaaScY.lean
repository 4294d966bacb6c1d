/- The document's scopes, continued: Let. -/
import Derived.Test.YtkckgjjhnjcffaaScX
namespace Go.Proofs.Ytkckgjjhnjcffaa
open Go.ChangeShapes Go.WideShapes Go.ChangeAt Go.RowKit
set_option linter.unusedVariables false
set_option linter.unusedSimpArgs false
set_option maxRecDepth 100000
attribute [local irreducible] wpList Calls wpQuiet
theorem buildVarR (k : ByteArray) (b : Bool) (w : World) : (Instr.build 83 #[(0, .string k), (1, .bool b)]).run Try.prog w = .ok (.agg #[.string k, .bool b, .bool false, .int .i64 0, .int .i64 0, .string ⟨#[]⟩]) w := by kernel_rfl
theorem bsVarR (k : ByteArray) (b : Bool) (w : World) : (Instr.buildSlice 81 1 #[(0, .agg #[.string k, .bool b, .bool false, .int .i64 0, .int .i64 0, .string ⟨#[]⟩])]).run Try.prog w = .ok (.slice (some ⟨w.heap.size, 0, none⟩) 1 1) (w.alloc (.cells #[.string k, .bool b, .bool false, .int .i64 0, .int .i64 0, .string ⟨#[]⟩] 83 (0, 0))) := by kernel_rfl
theorem permRow {α : Type} (P X R : List α) : (P ++ (X ++ R)).Perm (X ++ (P ++ R)) := by
  rw [← List.append_assoc, ← List.append_assoc]
  exact List.perm_append_comm.append_right _
theorem set_mid {α : Type} (a b : α) (l2 : List α) : ∀ l1 : List α, (l1 ++ a :: l2).set l1.length b = l1 ++ b :: l2
  | [] => rfl
  | c :: l1 => by simp [set_mid a b l2 l1]
theorem rowOk_setAt {n cap : Nat} {cur xs : List Value} (h : RowOk 1 n cap cur xs) (e : Nat) (v : Value) (he : e < n) : RowOk 1 n cap (cur.take e ++ [v] ++ cur.drop (e + 1)) (xs.set e v) := by
  have hc : e < cur.length := by have := h.size; have := h.le; omega
  have hs : cur.take e ++ [v] ++ cur.drop (e + 1) = cur.set e v := by
    rw [List.set_eq_take_append_cons_drop, if_pos hc]
    simp
  rw [hs]
  refine ⟨by simpa using h.len, h.le, h.max, by simpa using h.size, ?_⟩
  rw [List.take_set, h.take]
theorem ShR.perm1' {sh : ShR} {l1 l2 : List RowR} {r : RowR} (h : sh.rows = l1 ++ r :: l2) :
    sh.blks.Perm ((sh.gR, .cells sh.top.toArray 76 (0, 0)) :: (sh.gP, .cells sh.curP.toArray 3 (0, 0)) :: (sh.gQ, .cells sh.curQ.toArray 81 (0, 0)) :: (r.row.blks 83 ++ (l1 ++ l2).flatMap RowR.blks)) := by
  unfold ShR.blks
  rw [h]
  exact (((perm_flatMap_mid RowR.blks l1 l2 r).cons _).cons _).cons _
theorem flat_one {α : Type} (f : α → Value) (l : List α) : l.flatMap (fun a => [f a]) = l.map f := by
  induction l with
  | nil => rfl
  | cons a l ih => simp [ih]
/-- A scope of the document's gets a name. -/
theorem rletLeft {sh : ShR} (ok : sh.Ok) {e : Nat} {l1 l2 : List RowR} {r : RowR} {S : Nat → Prop} {w0 w : World} {x : Vr} {gx g' cap' : Nat} {cur' : List Value} {o : Obj} (h : sh.rows = l1 ++ r :: l2) (hl : l1.length = e)
    (hr2 : RowOk 6 (r.sc.vars.length + 1) cap' cur' (r.sc.vars.flatMap Vr.cs ++ x.cs))
    (M : Own S w0 w ((g', .cells cur'.toArray 83 (0, 0)) :: (gx, o) :: (sh.gR, .cells sh.top.toArray 76 (0, 0)) :: (sh.gP, .cells sh.curP.toArray 3 (0, 0)) ::
      (sh.gQ, .cells (sh.curQ.take e ++ [Value.slice (some ⟨g', 0, none⟩) (r.sc.vars.length + 1) cap'] ++ sh.curQ.drop (e + 1)).toArray 81 (0, 0)) :: (l1 ++ l2).flatMap RowR.blks)) :
    ∃ sh' : ShR, sh'.Ok ∧ sh'.σ = sh.σ.modify e (fun sc => { sc with vars := sc.vars ++ [x] }) ∧ sh'.gR = sh.gR ∧ Own S w0 w sh'.blks := by
  have he : e < sh.rows.length := by rw [h, ← hl]; simp
  let r' : RowR := ⟨{ r.sc with vars := r.sc.vars ++ [x] }, some (g', cap', cur')⟩
  have hv : r'.val = .slice (some ⟨g', 0, none⟩) (r.sc.vars.length + 1) cap' := by simp [r', RowR.val, SRow.val]
  refine ⟨{ sh with curQ := sh.curQ.take e ++ [Value.slice (some ⟨g', 0, none⟩) (r.sc.vars.length + 1) cap'] ++ sh.curQ.drop (e + 1), rows := l1 ++ r' :: l2 }, ⟨?_, ?_, fun q hq => ?_, ?_⟩, ?_, rfl, ?_⟩
  · have := ok.rowP
    rw [h] at this
    simpa [RowR.par, r'] using this
  · have h1 := rowOk_setAt ok.rowQ e (.slice (some ⟨g', 0, none⟩) (r.sc.vars.length + 1) cap') he
    have h2 : (sh.rows.flatMap RowR.vals).set e (.slice (some ⟨g', 0, none⟩) (r.sc.vars.length + 1) cap') = (l1 ++ r' :: l2).flatMap RowR.vals := by
      show (sh.rows.flatMap fun r => [r.val]).set e _ = (l1 ++ r' :: l2).flatMap fun r => [r.val]
      rw [flat_one, flat_one, h, List.map_append, List.map_cons, List.map_append, List.map_cons, hv, ← hl]
      have := set_mid r.val (Value.slice (some ⟨g', 0, none⟩) (r.sc.vars.length + 1) cap') (l2.map RowR.val) (l1.map RowR.val)
      rwa [List.length_map] at this
    rw [h2] at h1
    have h3 : (l1 ++ r' :: l2).length = sh.rows.length := by rw [h]; simp
    show RowOk 1 (l1 ++ r' :: l2).length _ _ _
    rw [h3]
    exact h1
  · have hq : q ∈ l1 ++ r' :: l2 := hq
    rcases List.mem_append.1 hq with hq | hq
    · exact ok.row q (by rw [h]; exact List.mem_append_left _ hq)
    · rcases List.mem_cons.1 hq with rfl | hq
      · show RowOk 6 (r.sc.vars ++ [x]).length cap' cur' ((r.sc.vars ++ [x]).flatMap Vr.cs)
        simpa using hr2
      · exact ok.row q (by rw [h]; exact List.mem_append_right _ (List.mem_cons_of_mem _ hq))
  · have := ok.par
    rw [h] at this
    simpa [r'] using this
  · show (l1 ++ r' :: l2).map RowR.sc = sh.σ.modify e _
    unfold ShR.σ
    rw [h, List.map_append, List.map_cons, List.map_append, List.map_cons, ← hl]
    have := modify_mid (fun sc : Sc => { sc with vars := sc.vars ++ [x] }) r.sc (l2.map RowR.sc) (l1.map RowR.sc)
    rw [List.length_map] at this
    exact this.symm
  · have M1 := M.less (L' := (g', .cells cur'.toArray 83 (0, 0)) :: (sh.gR, .cells sh.top.toArray 76 (0, 0)) :: (sh.gP, .cells sh.curP.toArray 3 (0, 0)) ::
      (sh.gQ, .cells (sh.curQ.take e ++ [Value.slice (some ⟨g', 0, none⟩) (r.sc.vars.length + 1) cap'] ++ sh.curQ.drop (e + 1)).toArray 81 (0, 0)) :: (l1 ++ l2).flatMap RowR.blks) (.cons_cons _ (.cons _ (List.Sublist.refl _)))
    have pm := ShR.perm1' (sh := { sh with curQ := sh.curQ.take e ++ [Value.slice (some ⟨g', 0, none⟩) (r.sc.vars.length + 1) cap'] ++ sh.curQ.drop (e + 1), rows := l1 ++ r' :: l2 }) (r := r') rfl
    have ht : ShR.top { sh with curQ := sh.curQ.take e ++ [Value.slice (some ⟨g', 0, none⟩) (r.sc.vars.length + 1) cap'] ++ sh.curQ.drop (e + 1), rows := l1 ++ r' :: l2 } = sh.top := by
      unfold ShR.top
      rw [h]
      simp
    rw [ht] at pm
    refine M1.perm (List.Perm.trans ?_ pm.symm)
    exact (permRow [_, _, _] [(g', Obj.cells cur'.toArray 83 (0, 0))] _).symm
set_option maxHeartbeats 4000000 in
theorem rlet_c {w0 : World} (sh : ShR) (ok : sh.Ok) (M : Own (fun k => k ∈ sh.blks.map Prod.fst) w0 w0 sh.blks) (env : Int) (k : ByteArray) (fixed : Bool) (hn : ∀ r ∈ sh.rows, r.sc.vars.length ≤ 1000) :
    Calls Try.prog 16 #[.pointer (some ⟨sh.gR, 0, none⟩), .int .i64 env, .string k, .bool fixed] w0 fun e w' => e = .returned (.bool (letS sh.σ env k fixed).2) ∧ LeftR sh w0 w' (letS sh.σ env k fixed).1 := by
  have nd := M.nodup
  unfold LeftR
  by_cases hin : 0 ≤ env ∧ env < sh.rows.length
  · obtain ⟨e, rfl⟩ : ∃ e : Nat, env = e := ⟨env.toNat, by omega⟩
    obtain ⟨r, hr⟩ : ∃ r, sh.rows[e]? = some r := ⟨sh.rows[e]'(by omega), List.getElem?_eq_getElem _⟩
    have hat : at? sh.σ (e : Int) = some r.sc := at?_in (σR_get hr)
    have hdec : decide (0 ≤ (e : Int) ∧ (e : Int) < sh.rows.length) = true := decide_eq_true hin
    have hmem := List.mem_of_getElem? hr
    generalize hS : (fun k => k ∈ sh.blks.map Prod.fst) = S at M ⊢
    cases hix : idx k r.sc.vars with
    | some j =>
      have hatI : atI k r.sc.vars = (j : Int) := by simp [atI, hix]
      have hres : letS sh.σ e k fixed = (sh.σ, false) := by simp [letS, hat, hix]
      rw [hres]
      go_enter Try.func16, Try.ntmps16
      go_wp2_with (first
        | (go_at_call 32; (with_reducible refine (there_c (M.has 0 _ _ rfl) _).mono ?_); rintro _ w1 ⟨rfl, hb⟩; replace M := M.call hb; clear hb; try simp only [hdec])
        | (go_at_call 33; (with_reducible refine (at_c sh ok (fun p hp => M.mem hp) nd hr k).mono ?_); rw [hatI]; rintro _ w1 ⟨rfl, hb⟩; replace M := M.call hb; clear hb)
        | ((with_reducible refine at_guard (_, _) rfl ?_); (refine own_guard rfl rfl rfl ?_ ?_ <;> (intro hc; (try simp only [Bool.not_true, Bool.not_false, Bool.not_eq_true', Bool.not_eq_false', reduceCtorEq] at hc); (try simp only [hc, Bool.not_true, Bool.not_false]))); try simp only [Act.put, List.setIfInBounds_toArray, List.set_cons_zero, List.set_cons_succ]))
      all_goals go_ret
      exact ⟨rfl, sh, ok, rfl, rfl, M⟩
    | none =>
      have hatI : atI k r.sc.vars = -1 := by simp [atI, hix]
      have hres : letS sh.σ e k fixed = (sh.σ.modify e (fun sc => { sc with vars := sc.vars ++ [⟨k, fixed, false, Va.zero⟩] }), true) := by simp [letS, hat, hix]
      rw [hres]
      have hcQ := ok.cellQ hr
      have hrow := ok.row r hmem
      unfold RowR.val at hcQ
      unfold RowR.Ok at hrow
      go_enter Try.func16, Try.ntmps16
      go_wp2_with (first
        | (go_at_call 32; (with_reducible refine (there_c (M.has 0 _ _ rfl) _).mono ?_); rintro _ w1 ⟨rfl, hb⟩; replace M := M.call hb; clear hb; try simp only [hdec])
        | (go_at_call 33; (with_reducible refine (at_c sh ok (fun p hp => M.mem hp) nd hr k).mono ?_); rw [hatI]; rintro _ w1 ⟨rfl, hb⟩; replace M := M.call hb; clear hb)
        | ((with_reducible refine at_guard (_, _) rfl ?_); (refine own_guard rfl rfl rfl ?_ ?_ <;> (intro hc; (try simp only [Bool.not_true, Bool.not_false, Bool.not_eq_true', Bool.not_eq_false', reduceCtorEq] at hc); (try simp only [hc, Bool.not_true, Bool.not_false]))); try simp only [Act.put, List.setIfInBounds_toArray, List.set_cons_zero, List.set_cons_succ]))
      obtain ⟨l1, l2, hrows, hl, pm⟩ := ShR.perm1 hr
      replace M := M.perm pm
      have hix : e < sh.rows.length := lt_of_get hr
      have hle : e + 1 ≤ sh.curQ.length := by
        have h1 := ok.rowQ.size
        have h2 := ok.rowQ.le
        omega
      refine held_start (C := fun w' => Own S w0 w' [(sh.gR, .cells sh.top.toArray 76 (0, 0))]) 19 rfl M (by kernel_rfl) ?_
      clear M
      intro w M
      (refine held_pure (i := 0) rfl (by kernel_rfl) (by kernel_rfl) (by kernel_rfl) rfl rfl (fun _ _ _ _ h => h) (M.less (.cons_cons _ (List.nil_sublist _))) ?_; apply Exists.intro; refine ⟨?_, ?_⟩; focus (intro w hw; first | (go_simp; done) | (go_simp; rfl) | (go_simp; rw [if_pos (by omega)])); (try simp only [Act.put, List.setIfInBounds_toArray, List.set_cons_zero, List.set_cons_succ]))
      (refine held_pure (i := 1) rfl (by kernel_rfl) (by kernel_rfl) (by kernel_rfl) rfl rfl (fun _ _ _ _ h => h) (M.less (.cons_cons _ (List.nil_sublist _))) ?_; apply Exists.intro; refine ⟨?_, ?_⟩; focus (intro w hw; first | (go_simp; done) | (go_simp; rfl) | (go_simp; rw [if_pos (by omega)])); (try simp only [Act.put, List.setIfInBounds_toArray, List.set_cons_zero, List.set_cons_succ]))
      (refine held_pure (i := 2) rfl (by kernel_rfl) (by kernel_rfl) (by kernel_rfl) rfl rfl (fun _ _ _ _ h => h) (M.less (.cons_cons _ (List.nil_sublist _))) ?_; apply Exists.intro; refine ⟨?_, ?_⟩; focus (intro w hw; first | (go_simp; done) | (go_simp; rfl) | (go_simp; rw [if_pos (by omega)])); (try simp only [Act.put, List.setIfInBounds_toArray, List.set_cons_zero, List.set_cons_succ]))
      (refine held_load1 3 rfl (by kernel_rfl) (by kernel_rfl) (by kernel_rfl) rfl rfl (fun _ _ _ _ h => h) (M.less (.cons_cons _ (List.nil_sublist _))) 74 _ rfl sh.gR 1 rfl 0 rfl Try.underlying74 rfl rfl ?_; (try simp only [Act.put, List.setIfInBounds_toArray, List.set_cons_zero, List.set_cons_succ]))
      (refine held_pure (i := 4) rfl (by kernel_rfl) (by kernel_rfl) (by kernel_rfl) rfl rfl (fun _ _ _ _ h => h) (M.less (.cons_cons _ (List.nil_sublist _))) ?_; apply Exists.intro; refine ⟨?_, ?_⟩; focus (intro w hw; first | (go_simp; done) | (go_simp; rfl) | (go_simp; rw [if_pos (by omega)])); (try simp only [Act.put, List.setIfInBounds_toArray, List.set_cons_zero, List.set_cons_succ]))
      (refine held_pure (i := 5) rfl (by kernel_rfl) (by kernel_rfl) (by kernel_rfl) rfl rfl (fun _ _ _ _ h => h) (M.less (.cons_cons _ (List.nil_sublist _))) ?_; apply Exists.intro; refine ⟨?_, ?_⟩; focus (intro w hw; first | (go_simp; done) | (go_simp; rfl) | (go_simp; rw [if_pos (by omega)])); (try simp only [Act.put, List.setIfInBounds_toArray, List.set_cons_zero, List.set_cons_succ]))
      (refine held_pure (i := 6) rfl (by kernel_rfl) (by kernel_rfl) (by kernel_rfl) rfl rfl (fun _ _ _ _ h => h) (M.less (.cons_cons _ (List.nil_sublist _))) ?_; apply Exists.intro; refine ⟨?_, ?_⟩; focus (intro w hw; first | (go_simp; done) | (go_simp; rfl) | (go_simp; rw [if_pos (by omega)])); (try simp only [Act.put, List.setIfInBounds_toArray, List.set_cons_zero, List.set_cons_succ]))
      (refine held_pure (i := 7) rfl (by kernel_rfl) (by kernel_rfl) (by kernel_rfl) rfl rfl (fun _ _ _ _ h => h) (M.less (.cons_cons _ (List.nil_sublist _))) ?_; apply Exists.intro; refine ⟨?_, ?_⟩; focus (intro w hw; first | (go_simp; done) | (go_simp; rfl) | (go_simp; rw [if_pos (by omega)])); (try simp only [Act.put, List.setIfInBounds_toArray, List.set_cons_zero, List.set_cons_succ]))
      (refine held_load1 8 rfl (by kernel_rfl) (by kernel_rfl) (by kernel_rfl) rfl rfl (fun _ _ _ _ h => h) (M.less (.cons_cons _ (List.nil_sublist _))) 74 _ rfl sh.gR 1 rfl 0 rfl Try.underlying74 rfl rfl ?_; (try simp only [Act.put, List.setIfInBounds_toArray, List.set_cons_zero, List.set_cons_succ]))
      (refine held_pure (i := 9) rfl (by kernel_rfl) (by kernel_rfl) (by kernel_rfl) rfl rfl (fun _ _ _ _ h => h) (M.less (.cons_cons _ (List.nil_sublist _))) ?_; apply Exists.intro; refine ⟨?_, ?_⟩; focus (intro w hw; first | (go_simp; done) | (go_simp; rfl) | (go_simp; rw [if_pos (by omega)])); (try simp only [Act.put, List.setIfInBounds_toArray, List.set_cons_zero, List.set_cons_succ]))
      (try simp only [Act.put, List.setIfInBounds_toArray, List.set_cons_zero, List.set_cons_succ])
      (refine held_pure (i := 10) rfl (by kernel_rfl) (by kernel_rfl) (by kernel_rfl) rfl rfl (fun _ _ _ _ h => h) (M.less (.cons_cons _ (List.nil_sublist _))) ?_; apply Exists.intro; refine ⟨?_, ?_⟩; focus (intro w hw; first | (go_simp; done) | (go_simp; rfl) | (go_simp; rw [if_pos (by omega)])); (try simp only [Act.put, List.setIfInBounds_toArray, List.set_cons_zero, List.set_cons_succ]))
      (try simp only [Act.put, List.setIfInBounds_toArray, List.set_cons_zero, List.set_cons_succ])
      (refine held_pure (i := 12) rfl (by kernel_rfl) (by kernel_rfl) (by kernel_rfl) rfl rfl (fun _ _ _ _ h => h) (M.less (.cons_cons _ (List.nil_sublist _))) ?_; apply Exists.intro; refine ⟨?_, ?_⟩; focus (intro w hw; first | (go_simp; done) | (go_simp; rfl) | (go_simp; rw [if_pos (by omega)])); (try simp only [Act.put, List.setIfInBounds_toArray, List.set_cons_zero, List.set_cons_succ]))
      (try simp only [Act.put, List.setIfInBounds_toArray, List.set_cons_zero, List.set_cons_succ])
      (refine held_pure (i := 13) rfl (by kernel_rfl) (by kernel_rfl) (by kernel_rfl) rfl rfl (fun _ _ _ _ h => h) (M.less (.cons_cons _ (List.nil_sublist _))) ?_; apply Exists.intro; refine ⟨?_, ?_⟩; focus (intro w hw; first | (go_simp; done) | (go_simp; rfl) | (go_simp; rw [if_pos (by omega)])); (try simp only [Act.put, List.setIfInBounds_toArray, List.set_cons_zero, List.set_cons_succ]))
      (try simp only [Act.put, List.setIfInBounds_toArray, List.set_cons_zero, List.set_cons_succ])
      (refine held_pure (i := 14) rfl (by kernel_rfl) (by kernel_rfl) (by kernel_rfl) rfl rfl (fun _ _ _ _ h => h) (M.less (.cons_cons _ (List.nil_sublist _))) ?_; apply Exists.intro; refine ⟨?_, ?_⟩; focus (intro w hw; first | (go_simp; done) | (go_simp; rfl) | (go_simp; rw [if_pos (by omega)])); (try simp only [Act.put, List.setIfInBounds_toArray, List.set_cons_zero, List.set_cons_succ]))
      (try simp only [Act.put, List.setIfInBounds_toArray, List.set_cons_zero, List.set_cons_succ])
      refine held_two (i := 11) (j := 15) (by kernel_rfl) ?_ ?_
      · refine held_op (i := 11) rfl rfl ?_
        refine op_load1 M 81 _ rfl sh.gQ e rfl 2 rfl Try.underlying81 rfl hcQ ?_
        (try simp only [Act.put, List.setIfInBounds_toArray, List.set_cons_zero, List.set_cons_succ])
        refine ⟨M.less (.cons_cons _ (List.nil_sublist _)), ?_⟩
        refine held_one (i := 15) (by kernel_rfl) rfl rfl ?_
        refine op_buildSlice M 81 1 _ rfl (by first | (simp only [List.map_toArray, List.map_cons, List.map_nil]; done) | (simp only [List.map_toArray, List.map_cons, List.map_nil]; rfl)) (bsVarR k fixed) ?_
        clear M
        intro gx w M
        (try simp only [Act.put, List.setIfInBounds_toArray, List.set_cons_zero, List.set_cons_succ])
        refine ⟨M.less (.cons _ (.cons_cons _ (List.nil_sublist _))), ?_⟩
        refine held_one (i := 16) (by kernel_rfl) rfl rfl ?_
        refine op_append _ _ 81 rfl 83 6 56 Try.underlying81 infoVar6 r.row r.sc.vars.length _ (M.perm (permRow [_, _, _, _] _ _)) hrow rfl gx 1 _ rfl (M.has 0 _ _ rfl) rfl rfl (by unfold maxLen; have := hn r hmem; omega) (by have := hn r hmem; omega) ?_
        clear M
        intro r' w hr' M
        obtain ⟨g', cap', cur', rfl, hr2⟩ := SRow.ok_some hr'
        simp only [SRow.blks, List.cons_append, List.nil_append] at M
        rw [show SRow.val (r.sc.vars.length + 1) (some (g', cap', cur')) = .slice (some ⟨g', 0, none⟩) (r.sc.vars.length + 1) cap' from rfl]
        (try simp only [Act.put, List.setIfInBounds_toArray, List.set_cons_zero, List.set_cons_succ])
        refine ⟨M.less (.cons _ (.cons _ (.cons_cons _ (List.nil_sublist _)))), ?_⟩
        (refine held_pure (i := 17) rfl (by kernel_rfl) (by kernel_rfl) (by kernel_rfl) rfl rfl (fun _ _ _ _ h => h) (M.less (.cons _ (.cons _ (.cons_cons _ (List.nil_sublist _))))) ?_; apply Exists.intro; refine ⟨?_, ?_⟩; focus (intro w hw; first | (go_simp; done) | (go_simp; rfl) | (go_simp; rw [if_pos (by omega)])); (try simp only [Act.put, List.setIfInBounds_toArray, List.set_cons_zero, List.set_cons_succ]))
        (try simp only [Act.put, List.setIfInBounds_toArray, List.set_cons_zero, List.set_cons_succ])
        refine held_one (i := 18) (by kernel_rfl) rfl rfl ?_
        refine op_storeT (v := .slice (some ⟨g', 0, none⟩) (r.sc.vars.length + 1) cap') (vs := [.slice (some ⟨g', 0, none⟩) (r.sc.vars.length + 1) cap']) M 81 _ 36 rfl sh.gQ e rfl rfl rfl 4 rfl infoSlV rfl hle ?_
        clear M
        intro w M
        simp only [List.set_cons_zero, List.set_cons_succ] at M
        (try simp only [Act.put, List.setIfInBounds_toArray, List.set_cons_zero, List.set_cons_succ])
        refine ⟨M.less (.cons _ (.cons _ (.cons_cons _ (List.nil_sublist _)))), ?_⟩
        refine wpAnyH_done (by kernel_rfl) ?_ _
        generalize SRow.val r.sc.vars.length r.row = v31
        go_wp2
        all_goals go_ret
        all_goals exact ⟨rfl, rletLeft ok hrows hl hr2 M⟩
      · refine held_op (i := 15) rfl rfl ?_
        refine op_buildSlice M 81 1 _ rfl (by first | (simp only [List.map_toArray, List.map_cons, List.map_nil]; done) | (simp only [List.map_toArray, List.map_cons, List.map_nil]; rfl)) (bsVarR k fixed) ?_
        clear M
        intro gx w M
        (try simp only [Act.put, List.setIfInBounds_toArray, List.set_cons_zero, List.set_cons_succ])
        refine ⟨M.less (.cons _ (.cons_cons _ (List.nil_sublist _))), ?_⟩
        refine held_one (i := 11) (by kernel_rfl) rfl rfl ?_
        refine op_load1 M 81 _ rfl sh.gQ e rfl 3 rfl Try.underlying81 rfl hcQ ?_
        (try simp only [Act.put, List.setIfInBounds_toArray, List.set_cons_zero, List.set_cons_succ])
        refine ⟨M.less (.cons _ (.cons_cons _ (List.nil_sublist _))), ?_⟩
        refine held_one (i := 16) (by kernel_rfl) rfl rfl ?_
        refine op_append _ _ 81 rfl 83 6 56 Try.underlying81 infoVar6 r.row r.sc.vars.length _ (M.perm (permRow [_, _, _, _] _ _)) hrow rfl gx 1 _ rfl (M.has 0 _ _ rfl) rfl rfl (by unfold maxLen; have := hn r hmem; omega) (by have := hn r hmem; omega) ?_
        clear M
        intro r' w hr' M
        obtain ⟨g', cap', cur', rfl, hr2⟩ := SRow.ok_some hr'
        simp only [SRow.blks, List.cons_append, List.nil_append] at M
        rw [show SRow.val (r.sc.vars.length + 1) (some (g', cap', cur')) = .slice (some ⟨g', 0, none⟩) (r.sc.vars.length + 1) cap' from rfl]
        (try simp only [Act.put, List.setIfInBounds_toArray, List.set_cons_zero, List.set_cons_succ])
        refine ⟨M.less (.cons _ (.cons _ (.cons_cons _ (List.nil_sublist _)))), ?_⟩
        (refine held_pure (i := 17) rfl (by kernel_rfl) (by kernel_rfl) (by kernel_rfl) rfl rfl (fun _ _ _ _ h => h) (M.less (.cons _ (.cons _ (.cons_cons _ (List.nil_sublist _))))) ?_; apply Exists.intro; refine ⟨?_, ?_⟩; focus (intro w hw; first | (go_simp; done) | (go_simp; rfl) | (go_simp; rw [if_pos (by omega)])); (try simp only [Act.put, List.setIfInBounds_toArray, List.set_cons_zero, List.set_cons_succ]))
        (try simp only [Act.put, List.setIfInBounds_toArray, List.set_cons_zero, List.set_cons_succ])
        refine held_one (i := 18) (by kernel_rfl) rfl rfl ?_
        refine op_storeT (v := .slice (some ⟨g', 0, none⟩) (r.sc.vars.length + 1) cap') (vs := [.slice (some ⟨g', 0, none⟩) (r.sc.vars.length + 1) cap']) M 81 _ 36 rfl sh.gQ e rfl rfl rfl 4 rfl infoSlV rfl hle ?_
        clear M
        intro w M
        simp only [List.set_cons_zero, List.set_cons_succ] at M
        (try simp only [Act.put, List.setIfInBounds_toArray, List.set_cons_zero, List.set_cons_succ])
        refine ⟨M.less (.cons _ (.cons _ (.cons_cons _ (List.nil_sublist _)))), ?_⟩
        refine wpAnyH_done (by kernel_rfl) ?_ _
        generalize SRow.val r.sc.vars.length r.row = v31
        go_wp2
        all_goals go_ret
        all_goals exact ⟨rfl, rletLeft ok hrows hl hr2 M⟩
  · have hres : letS sh.σ env k fixed = (sh.σ, false) := by simp [letS, at?_out (σ := sh.σ) (env := env) (by rw [σR_len]; exact hin)]
    have hdec : decide (0 ≤ env ∧ env < sh.rows.length) = false := decide_eq_false hin
    rw [hres]
    generalize hS : (fun k => k ∈ sh.blks.map Prod.fst) = S at M ⊢
    go_enter Try.func16, Try.ntmps16
    go_wp2_with (first
      | (go_at_call 32; (with_reducible refine (there_c (M.has 0 _ _ rfl) _).mono ?_); rintro _ w1 ⟨rfl, hb⟩; replace M := M.call hb; clear hb; try simp only [hdec])
      | ((with_reducible refine at_guard (_, _) rfl ?_); (refine own_guard rfl rfl rfl ?_ ?_ <;> (intro hc; (try simp only [Bool.not_true, Bool.not_false, Bool.not_eq_true', Bool.not_eq_false', reduceCtorEq] at hc); (try simp only [hc, Bool.not_true, Bool.not_false]))); try simp only [Act.put, List.setIfInBounds_toArray, List.set_cons_zero, List.set_cons_succ]))
    go_ret
    exact ⟨rfl, sh, ok, rfl, rfl, M⟩
end Go.Proofs.Ytkckgjjhnjcffaa
