/- The document's scopes, continued: Begin, Set. -/
import Derived.Test.YtkckgjjhnjcffaaScX
namespace Go.Proofs.Ytkckgjjhnjcffaa
open Go.ChangeShapes Go.WideShapes Go.ChangeAt Go.RowKit
set_option linter.unusedVariables false
set_option linter.unusedSimpArgs false
set_option maxRecDepth 100000
attribute [local irreducible] wpList Calls wpQuiet
/-- The rows of variables, one of them turned. -/
theorem flat_set {α β : Type} {f : α → List β} {s : Nat} (hf : ∀ a, (f a).length = s) (l1 l2 : List α) (a b : α) (o : Nat) (us : List β) (ho : o + us.length ≤ s) (hb : f b = (f a).take o ++ us ++ (f a).drop (o + us.length)) :
    (l1 ++ b :: l2).flatMap f = ((l1 ++ a :: l2).flatMap f).take (l1.length * s + o) ++ us ++ ((l1 ++ a :: l2).flatMap f).drop (l1.length * s + o + us.length) := by
  have h1 := flat_len hf l1
  simp only [List.flatMap_append, List.flatMap_cons]
  rw [List.take_append, List.drop_append, h1]
  have e1 : l1.length * s + o - l1.length * s = o := by omega
  have e2 : l1.length * s + o + us.length - l1.length * s = o + us.length := by omega
  rw [e1, e2, List.take_of_length_le (by rw [h1]; omega), List.drop_eq_nil_of_le (by rw [h1]; omega), List.take_append_of_le_length (by rw [hf]; omega), List.drop_append_of_le_length (by rw [hf]; omega), hb]
  simp [List.append_assoc]
/-- A row of which some cells are turned. -/
theorem rowOk_splice {sz n cap : Nat} {cur xs : List Value} (h : RowOk sz n cap cur xs) (o : Nat) (us : List Value) (ho : o + us.length ≤ n * sz) :
    RowOk sz n cap (cur.take o ++ us ++ cur.drop (o + us.length)) (xs.take o ++ us ++ xs.drop (o + us.length)) := by
  have hc : n * sz ≤ cur.length := by rw [h.size]; exact Nat.mul_le_mul_right _ h.le
  refine ⟨?_, h.le, h.max, ?_, ?_⟩
  · have := h.len
    simp only [List.length_append, List.length_take, List.length_drop]
    omega
  · have := h.size
    simp only [List.length_append, List.length_take, List.length_drop]
    omega
  · have hx := h.take
    rw [← hx, List.take_append, List.take_append]
    simp only [List.length_append, List.length_take]
    rw [List.take_take, List.take_take, List.drop_take]
    have e1 : min (n * sz) o = o := by omega
    have e2 : min o (n * sz) = o := by omega
    have e3 : min o cur.length = o := by omega
    rw [e1, e2, e3]
    have e4 : us.take (n * sz - o) = us := List.take_of_length_le (by omega)
    rw [e4]
theorem permG {α : Type} (a b c d : α) (R : List α) : (a :: b :: c :: d :: R).Perm (a :: b :: c :: ([d] ++ R)) := List.Perm.refl _
theorem ShR.perm1'' {sh : ShR} {l1 l2 : List RowR} {r : RowR} (h : sh.rows = l1 ++ r :: l2) :
    sh.blks.Perm ((sh.gR, .cells sh.top.toArray 76 (0, 0)) :: (sh.gP, .cells sh.curP.toArray 3 (0, 0)) :: (sh.gQ, .cells sh.curQ.toArray 81 (0, 0)) :: (r.row.blks 83 ++ (l1 ++ l2).flatMap RowR.blks)) := by
  unfold ShR.blks
  rw [h]
  exact (((perm_flatMap_mid RowR.blks l1 l2 r).cons _).cons _).cons _
/-- A variable of the document's gets another value. -/
theorem updLeftR {sh : ShR} (ok : sh.Ok) {e j : Nat} {l1 l2 : List RowR} {r : RowR} {m1 m2 : List Vr} {x : Vr} {S : Nat → Prop} {w0 w : World} {g cap : Nat} {cur' : List Value} (h : sh.rows = l1 ++ r :: l2) (hl : l1.length = e) (hv : r.sc.vars = m1 ++ x :: m2) (hm : m1.length = j)
    {cur : List Value} (hq : r.row = some (g, cap, cur)) (f : Vr → Vr) (hro : RowOk 6 r.sc.vars.length cap cur' ((m1 ++ f x :: m2).flatMap Vr.cs))
    (M : Own S w0 w ((sh.gR, .cells sh.top.toArray 76 (0, 0)) :: (sh.gP, .cells sh.curP.toArray 3 (0, 0)) :: (sh.gQ, .cells sh.curQ.toArray 81 (0, 0)) :: (g, .cells cur'.toArray 83 (0, 0)) :: (l1 ++ l2).flatMap RowR.blks)) :
    ∃ sh' : ShR, sh'.Ok ∧ sh'.σ = updV sh.σ e j f ∧ sh'.gR = sh.gR ∧ Own S w0 w sh'.blks := by
  let r' : RowR := ⟨{ r.sc with vars := m1 ++ f x :: m2 }, some (g, cap, cur')⟩
  have hlen : (m1 ++ f x :: m2).length = r.sc.vars.length := by rw [hv]; simp
  have hval : r'.val = r.val := by
    show SRow.val (m1 ++ f x :: m2).length (some (g, cap, cur')) = SRow.val r.sc.vars.length r.row
    rw [hlen, hq]
    rfl
  refine ⟨{ sh with rows := l1 ++ r' :: l2 }, ⟨?_, ?_, fun q hq' => ?_, ?_⟩, ?_, rfl, ?_⟩
  · have := ok.rowP
    rw [h] at this
    simpa [RowR.par, r'] using this
  · have := ok.rowQ
    rw [h] at this
    have e1 : (l1 ++ r' :: l2).flatMap RowR.vals = (l1 ++ r :: l2).flatMap RowR.vals := flat_mid RowR.vals l1 l2 r' r (by show [r'.val] = [r.val]; rw [hval])
    show RowOk 1 (l1 ++ r' :: l2).length _ _ ((l1 ++ r' :: l2).flatMap RowR.vals)
    rw [e1]
    simpa using this
  · have hq' : q ∈ l1 ++ r' :: l2 := hq'
    rcases List.mem_append.1 hq' with hq' | hq'
    · exact ok.row q (by rw [h]; exact List.mem_append_left _ hq')
    · rcases List.mem_cons.1 hq' with rfl | hq'
      · show RowOk 6 (m1 ++ f x :: m2).length cap cur' ((m1 ++ f x :: m2).flatMap Vr.cs)
        rw [hlen]
        exact hro
      · exact ok.row q (by rw [h]; exact List.mem_append_right _ (List.mem_cons_of_mem _ hq'))
  · have := ok.par
    rw [h] at this
    simpa [r'] using this
  · show (l1 ++ r' :: l2).map RowR.sc = updV sh.σ e j f
    unfold ShR.σ updV
    rw [h, List.map_append, List.map_cons, List.map_append, List.map_cons, ← hl]
    have := modify_mid (fun sc : Sc => { sc with vars := sc.vars.modify j f }) r.sc (l2.map RowR.sc) (l1.map RowR.sc)
    rw [List.length_map] at this
    rw [this]
    have e2 : r.sc.vars.modify j f = m1 ++ f x :: m2 := by rw [hv, ← hm, modify_mid]
    rw [e2]
  · have pm := ShR.perm1'' (sh := { sh with rows := l1 ++ r' :: l2 }) (r := r') rfl
    have ht : ShR.top { sh with rows := l1 ++ r' :: l2 } = sh.top := by
      unfold ShR.top
      rw [h]
      simp
    rw [ht] at pm
    exact M.perm pm.symm
theorem ShR.foundAt {sh : ShR} (ok : sh.Ok) {k : ByteArray} {e j : Nat} {r : RowR} (hr : sh.rows[e]? = some r) (hj : idx k r.sc.vars = some j) :
    ∃ x g cap cur, r.sc.vars[j]? = some x ∧ r.row = some (g, cap, cur) ∧ sh.curQ[e]? = some (.slice (some ⟨g, 0, none⟩) r.sc.vars.length cap) ∧ RowOk 6 r.sc.vars.length cap cur (r.sc.vars.flatMap Vr.cs) ∧
      (∀ q, q < 6 → cur[j * 6 + q]? = x.cs[q]?) ∧ e < sh.rows.length ∧ j < r.sc.vars.length := by
  have hjl := idx_lt hj
  have hx : r.sc.vars[j]? = some r.sc.vars[j] := List.getElem?_eq_getElem hjl
  generalize r.sc.vars[j] = x at hx
  obtain ⟨g, cap, cur, hq, hro, hcell⟩ := SRow.ok_cell (ok.row r (List.mem_of_getElem? hr)) hx
  have hcQ := ok.cellQ hr
  unfold RowR.val at hcQ
  rw [hq] at hcQ
  exact ⟨x, g, cap, cur, hx, hq, hcQ, hro, hcell, lt_of_get hr, hjl⟩
theorem roomR {n cap j : Nat} {cur xs : List Value} (h : RowOk 6 n cap cur xs) (hj : j < n) : j * 6 + 6 ≤ cur.length := by
  have h1 := h.size
  have h2 := h.le
  omega
set_option maxHeartbeats 4000000 in
theorem rbegin_c {w0 : World} (sh : ShR) (ok : sh.Ok) (M : Own (fun k => k ∈ sh.blks.map Prod.fst) w0 w0 sh.blks) (env : Int) (k : ByteArray) (v : Va) :
    Calls Try.prog 18 #[.pointer (some ⟨sh.gR, 0, none⟩), .int .i64 env, .string k, v.val] w0 fun e w' => e = .returned (.bool (beginS sh.σ env k v).2) ∧ LeftR sh w0 w' (beginS sh.σ env k v).1 := by
  have nd := M.nodup
  unfold LeftR
  by_cases hin : 0 ≤ env ∧ env < sh.rows.length
  · obtain ⟨e, rfl⟩ : ∃ e : Nat, env = e := ⟨env.toNat, by omega⟩
    obtain ⟨r, hr⟩ : ∃ r, sh.rows[e]? = some r := ⟨sh.rows[e]'(by omega), List.getElem?_eq_getElem _⟩
    have hat : at? sh.σ (e : Int) = some r.sc := at?_in (σR_get hr)
    have hdec : decide (0 ≤ (e : Int) ∧ (e : Int) < sh.rows.length) = true := decide_eq_true hin
    generalize hS : (fun k => k ∈ sh.blks.map Prod.fst) = S at M ⊢
    cases hix : idx k r.sc.vars with
    | none =>
      have hatI : atI k r.sc.vars = -1 := by simp [atI, hix]
      have hres : beginS sh.σ e k v = (sh.σ, false) := by simp [beginS, hat, hix]
      rw [hres]
      go_enter Try.func18, Try.ntmps18
      go_wp2_with (first
        | ((with_reducible refine at_slot 7 rfl ?_); (with_reducible refine at_box _ _ rfl ?_); refine own_box (cs := #[.int .i64 v.k, .int .i64 v.n, .string v.s]) M _ _ rfl rfl rfl ?_; clear M; intro gb w M; (try simp only [Act.put, List.setIfInBounds_toArray, List.set_cons_zero, List.set_cons_succ]))
        | (go_at_call 32; (with_reducible refine (there_c (M.has 1 _ _ rfl) _).mono ?_); rintro _ w1 ⟨rfl, hb⟩; replace M := M.call hb; clear hb; try simp only [hdec])
        | (go_at_call 33; (with_reducible refine (at_c sh ok (fun p hp => M.mem (List.mem_cons_of_mem _ hp)) nd hr k).mono ?_); rw [hatI]; rintro _ w1 ⟨rfl, hb⟩; replace M := M.call hb; clear hb)
        | ((with_reducible refine at_guard (_, _) rfl ?_); (refine own_guard rfl rfl rfl ?_ ?_ <;> (intro hc; (try simp only [Bool.not_true, Bool.not_false, Bool.not_eq_true', Bool.not_eq_false', reduceCtorEq] at hc); (try simp only [hc, Bool.not_true, Bool.not_false]))); try simp only [Act.put, List.setIfInBounds_toArray, List.set_cons_zero, List.set_cons_succ]))
      all_goals go_ret
      exact ⟨rfl, sh, ok, rfl, rfl, M.tail⟩
    | some j =>
      have hatI : atI k r.sc.vars = (j : Int) := by simp [atI, hix]
      obtain ⟨x, g, cap, cur, hx, hq, hcQ, hro, hcell, hel, hjl⟩ := ShR.foundAt ok hr hix
      obtain ⟨l1, l2, hrows, hl, pm⟩ := ShR.perm1 hr
      have hkeep : Nonempty (PLift (sh.rows = l1 ++ r :: l2 ∧ l1.length = e)) := ⟨⟨hrows, hl⟩⟩
      clear hrows hl
      rw [hq] at pm
      replace M := M.perm pm
      have hc1 : cur[j * 6 + 2]? = some (.bool x.has) := hcell 2 (by omega)
      have hroom := roomR hro hjl
      cases hh : x.has with
      | true =>
        have hres : beginS sh.σ e k v = (sh.σ, false) := by simp [beginS, hat, hix, hx, hh]
        rw [hres]
        rw [hh] at hc1
        go_enter Try.func18, Try.ntmps18
        go_wp2_with (first
          | ((with_reducible refine at_slot 7 rfl ?_); (with_reducible refine at_box _ _ rfl ?_); refine own_box (cs := #[.int .i64 v.k, .int .i64 v.n, .string v.s]) M _ _ rfl rfl rfl ?_; clear M; intro gb w M; (try simp only [Act.put, List.setIfInBounds_toArray, List.set_cons_zero, List.set_cons_succ]))
          | (go_at_call 32; (with_reducible refine (there_c (M.has 1 _ _ rfl) _).mono ?_); rintro _ w1 ⟨rfl, hb⟩; replace M := M.call hb; clear hb; try simp only [hdec])
          | (go_at_call 33; (with_reducible refine (at_c sh ok (fun p hp => M.mem (List.mem_cons_of_mem _ (pm.mem_iff.1 hp))) nd hr k).mono ?_); rw [hatI]; rintro _ w1 ⟨rfl, hb⟩; replace M := M.call hb; clear hb)
          | ((with_reducible refine at_guard (_, _) rfl ?_); (refine own_guard rfl rfl rfl ?_ ?_ <;> (intro hc; (try simp only [Bool.not_true, Bool.not_false, Bool.not_eq_true', Bool.not_eq_false', reduceCtorEq] at hc); (try simp only [hc, Bool.not_true, Bool.not_false]))); try simp only [Act.put, List.setIfInBounds_toArray, List.set_cons_zero, List.set_cons_succ])
          | ((with_reducible refine at_load 74 _ rfl ?_); (first | refine own_load1 M 74 _ rfl rfl _ _ rfl 0 rfl Try.underlying74 rfl rfl ?_ | refine own_load1 M 74 _ rfl rfl _ _ rfl 1 rfl Try.underlying74 rfl rfl ?_ | refine own_load1 M 74 _ rfl rfl _ _ rfl 2 rfl Try.underlying74 rfl rfl ?_ | refine own_load1 M 74 _ rfl rfl _ _ rfl 3 rfl Try.underlying74 rfl rfl ?_ | refine own_load1 M 74 _ rfl rfl _ _ rfl 4 rfl Try.underlying74 rfl rfl ?_); try simp only [Act.put, List.setIfInBounds_toArray, List.set_cons_zero, List.set_cons_succ])
          | ((with_reducible refine at_load 81 _ rfl ?_); refine own_load1 M 81 _ rfl rfl sh.gQ e rfl 3 rfl Try.underlying81 rfl hcQ ?_; (try simp only [Act.put, List.setIfInBounds_toArray, List.set_cons_zero, List.set_cons_succ]))
          | ((with_reducible refine at_load 4 _ rfl ?_); refine own_load1 M 4 _ rfl rfl g (j * 6 + 2) rfl 4 rfl Try.underlying4 rfl hc1 ?_; (try simp only [Act.put, List.setIfInBounds_toArray, List.set_cons_zero, List.set_cons_succ])))
        all_goals go_ret
        all_goals first
          | exact ⟨rfl, sh, ok, rfl, rfl, M.tail.perm pm.symm⟩
          | exact absurd ‹decide ((j : Int) < 0) = true› (by simp)
      | false =>
        have hres : beginS sh.σ e k v = (updV sh.σ e j (fun x => { x with has := true, v := v }), true) := by simp [beginS, hat, hix, hx, hh]
        rw [hres]
        rw [hh] at hc1
        go_enter Try.func18, Try.ntmps18
        go_wp2_with (first
          | ((with_reducible refine at_slot 7 rfl ?_); (with_reducible refine at_box _ _ rfl ?_); refine own_box (cs := #[.int .i64 v.k, .int .i64 v.n, .string v.s]) M _ _ rfl rfl rfl ?_; clear M; intro gb w M; (try simp only [Act.put, List.setIfInBounds_toArray, List.set_cons_zero, List.set_cons_succ]))
          | (go_at_call 32; (with_reducible refine (there_c (M.has 1 _ _ rfl) _).mono ?_); rintro _ w1 ⟨rfl, hb⟩; replace M := M.call hb; clear hb; try simp only [hdec])
          | (go_at_call 33; (with_reducible refine (at_c sh ok (fun p hp => M.mem (List.mem_cons_of_mem _ (pm.mem_iff.1 hp))) nd hr k).mono ?_); rw [hatI]; rintro _ w1 ⟨rfl, hb⟩; replace M := M.call hb; clear hb)
          | ((with_reducible refine at_guard (_, _) rfl ?_); (refine own_guard rfl rfl rfl ?_ ?_ <;> (intro hc; (try simp only [Bool.not_true, Bool.not_false, Bool.not_eq_true', Bool.not_eq_false', reduceCtorEq] at hc); (try simp only [hc, Bool.not_true, Bool.not_false]))); try simp only [Act.put, List.setIfInBounds_toArray, List.set_cons_zero, List.set_cons_succ])
          | ((with_reducible refine at_load 74 _ rfl ?_); (first | refine own_load1 M 74 _ rfl rfl _ _ rfl 0 rfl Try.underlying74 rfl rfl ?_ | refine own_load1 M 74 _ rfl rfl _ _ rfl 1 rfl Try.underlying74 rfl rfl ?_ | refine own_load1 M 74 _ rfl rfl _ _ rfl 2 rfl Try.underlying74 rfl rfl ?_ | refine own_load1 M 74 _ rfl rfl _ _ rfl 3 rfl Try.underlying74 rfl rfl ?_ | refine own_load1 M 74 _ rfl rfl _ _ rfl 4 rfl Try.underlying74 rfl rfl ?_); try simp only [Act.put, List.setIfInBounds_toArray, List.set_cons_zero, List.set_cons_succ])
          | ((with_reducible refine at_load 81 _ rfl ?_); refine own_load1 M 81 _ rfl rfl sh.gQ e rfl 3 rfl Try.underlying81 rfl hcQ ?_; (try simp only [Act.put, List.setIfInBounds_toArray, List.set_cons_zero, List.set_cons_succ]))
          | ((with_reducible refine at_load 4 _ rfl ?_); refine own_load1 M 4 _ rfl rfl g (j * 6 + 2) rfl 4 rfl Try.underlying4 rfl hc1 ?_; (try simp only [Act.put, List.setIfInBounds_toArray, List.set_cons_zero, List.set_cons_succ]))
          | ((with_reducible refine at_store 4 _ (.const _) rfl ?_); refine own_storeC (vs := [.bool true]) M 4 _ _ rfl rfl g (j * 6 + 2) rfl rfl 4 rfl infoB rfl (by simp only [List.length_cons, List.length_nil]; omega) ?_; clear M; intro w M; simp only [List.set_cons_zero, List.set_cons_succ] at M; (try simp only [Act.put, List.setIfInBounds_toArray, List.set_cons_zero, List.set_cons_succ])))
        refine held_start (C := fun w' => Own S w0 w' [(gb, .cells v.cs.toArray 29 (0, 0)), (sh.gR, .cells sh.top.toArray 76 (0, 0)), (sh.gQ, .cells sh.curQ.toArray 81 (0, 0))]) 12 rfl M (by kernel_rfl) ?_
        clear M
        intro w M
        (refine held_pure (i := 0) rfl (by kernel_rfl) (by kernel_rfl) (by kernel_rfl) rfl rfl (fun _ _ _ _ h => h) (M.less (.cons_cons _ (.cons_cons _ (.cons _ (.cons_cons _ (List.nil_sublist _)))))) ?_; apply Exists.intro; refine ⟨?_, ?_⟩; focus (intro w hw; first | (go_simp; done) | (go_simp; rfl) | (go_simp; rw [if_pos (by omega)])); (try simp only [Act.put, List.setIfInBounds_toArray, List.set_cons_zero, List.set_cons_succ]))
        (try simp only [Act.put, List.setIfInBounds_toArray, List.set_cons_zero, List.set_cons_succ])
        (refine held_pure (i := 1) rfl (by kernel_rfl) (by kernel_rfl) (by kernel_rfl) rfl rfl (fun _ _ _ _ h => h) (M.less (.cons_cons _ (.cons_cons _ (.cons _ (.cons_cons _ (List.nil_sublist _)))))) ?_; apply Exists.intro; refine ⟨?_, ?_⟩; focus (intro w hw; first | (go_simp; done) | (go_simp; rfl) | (go_simp; rw [if_pos (by omega)])); (try simp only [Act.put, List.setIfInBounds_toArray, List.set_cons_zero, List.set_cons_succ]))
        (try simp only [Act.put, List.setIfInBounds_toArray, List.set_cons_zero, List.set_cons_succ])
        (refine held_pure (i := 2) rfl (by kernel_rfl) (by kernel_rfl) (by kernel_rfl) rfl rfl (fun _ _ _ _ h => h) (M.less (.cons_cons _ (.cons_cons _ (.cons _ (.cons_cons _ (List.nil_sublist _)))))) ?_; apply Exists.intro; refine ⟨?_, ?_⟩; focus (intro w hw; first | (go_simp; done) | (go_simp; rfl) | (go_simp; rw [if_pos (by omega)])); (try simp only [Act.put, List.setIfInBounds_toArray, List.set_cons_zero, List.set_cons_succ]))
        (try simp only [Act.put, List.setIfInBounds_toArray, List.set_cons_zero, List.set_cons_succ])
        (refine held_load1 3 rfl (by kernel_rfl) (by kernel_rfl) (by kernel_rfl) rfl rfl (fun _ _ _ _ h => h) (M.less (.cons_cons _ (.cons_cons _ (.cons _ (.cons_cons _ (List.nil_sublist _)))))) 74 _ rfl sh.gR 1 rfl 1 rfl Try.underlying74 rfl rfl ?_; (try simp only [Act.put, List.setIfInBounds_toArray, List.set_cons_zero, List.set_cons_succ]))
        (try simp only [Act.put, List.setIfInBounds_toArray, List.set_cons_zero, List.set_cons_succ])
        (refine held_pure (i := 4) rfl (by kernel_rfl) (by kernel_rfl) (by kernel_rfl) rfl rfl (fun _ _ _ _ h => h) (M.less (.cons_cons _ (.cons_cons _ (.cons _ (.cons_cons _ (List.nil_sublist _)))))) ?_; apply Exists.intro; refine ⟨?_, ?_⟩; focus (intro w hw; first | (go_simp; done) | (go_simp; rfl) | (go_simp; rw [if_pos (by omega)])); (try simp only [Act.put, List.setIfInBounds_toArray, List.set_cons_zero, List.set_cons_succ]))
        (try simp only [Act.put, List.setIfInBounds_toArray, List.set_cons_zero, List.set_cons_succ])
        (refine held_pure (i := 5) rfl (by kernel_rfl) (by kernel_rfl) (by kernel_rfl) rfl rfl (fun _ _ _ _ h => h) (M.less (.cons_cons _ (.cons_cons _ (.cons _ (.cons_cons _ (List.nil_sublist _)))))) ?_; apply Exists.intro; refine ⟨?_, ?_⟩; focus (intro w hw; first | (go_simp; done) | (go_simp; rfl) | (go_simp; rw [if_pos (by omega)])); (try simp only [Act.put, List.setIfInBounds_toArray, List.set_cons_zero, List.set_cons_succ]))
        (try simp only [Act.put, List.setIfInBounds_toArray, List.set_cons_zero, List.set_cons_succ])
        (refine held_load1 6 rfl (by kernel_rfl) (by kernel_rfl) (by kernel_rfl) rfl rfl (fun _ _ _ _ h => h) (M.less (.cons_cons _ (.cons_cons _ (.cons _ (.cons_cons _ (List.nil_sublist _)))))) 81 _ rfl sh.gQ e rfl 2 rfl Try.underlying81 rfl hcQ ?_; (try simp only [Act.put, List.setIfInBounds_toArray, List.set_cons_zero, List.set_cons_succ]))
        (try simp only [Act.put, List.setIfInBounds_toArray, List.set_cons_zero, List.set_cons_succ])
        (refine held_pure (i := 7) rfl (by kernel_rfl) (by kernel_rfl) (by kernel_rfl) rfl rfl (fun _ _ _ _ h => h) (M.less (.cons_cons _ (.cons_cons _ (.cons _ (.cons_cons _ (List.nil_sublist _)))))) ?_; apply Exists.intro; refine ⟨?_, ?_⟩; focus (intro w hw; first | (go_simp; done) | (go_simp; rfl) | (go_simp; rw [if_pos (by omega)])); (try simp only [Act.put, List.setIfInBounds_toArray, List.set_cons_zero, List.set_cons_succ]))
        (try simp only [Act.put, List.setIfInBounds_toArray, List.set_cons_zero, List.set_cons_succ])
        (refine held_loadN (n := 3) 8 rfl (by kernel_rfl) (by kernel_rfl) (by kernel_rfl) rfl rfl (fun _ _ _ _ h => h) (M.less (.cons_cons _ (.cons_cons _ (.cons _ (.cons_cons _ (List.nil_sublist _)))))) 29 _ rfl _ _ rfl 0 rfl Try.underlying29 rfl infoVa (Nat.le_of_ble_eq_true rfl) ?_; simp only [List.drop_succ_cons, List.drop_zero, List.take_succ_cons, List.take_zero]; (try simp only [Act.put, List.setIfInBounds_toArray, List.set_cons_zero, List.set_cons_succ]))
        (try simp only [Act.put, List.setIfInBounds_toArray, List.set_cons_zero, List.set_cons_succ])
        (refine held_pure (i := 9) rfl (by kernel_rfl) (by kernel_rfl) (by kernel_rfl) rfl rfl (fun _ _ _ _ h => h) (M.less (.cons_cons _ (.cons_cons _ (.cons _ (.cons_cons _ (List.nil_sublist _)))))) ?_; apply Exists.intro; refine ⟨?_, ?_⟩; focus (intro w hw; first | (go_simp; done) | (go_simp; rfl) | (go_simp; rw [if_pos (by omega)])); (try simp only [Act.put, List.setIfInBounds_toArray, List.set_cons_zero, List.set_cons_succ]))
        (try simp only [Act.put, List.setIfInBounds_toArray, List.set_cons_zero, List.set_cons_succ])
        (refine held_pure (i := 10) rfl (by kernel_rfl) (by kernel_rfl) (by kernel_rfl) rfl rfl (fun _ _ _ _ h => h) (M.less (.cons_cons _ (.cons_cons _ (.cons _ (.cons_cons _ (List.nil_sublist _)))))) ?_; apply Exists.intro; refine ⟨?_, ?_⟩; focus (intro w hw; first | (go_simp; done) | (go_simp; rfl) | (go_simp; rw [if_pos (by omega)])); (try simp only [Act.put, List.setIfInBounds_toArray, List.set_cons_zero, List.set_cons_succ]))
        (try simp only [Act.put, List.setIfInBounds_toArray, List.set_cons_zero, List.set_cons_succ])
        refine held_one (i := 11) (by kernel_rfl) rfl rfl ?_
        refine op_storeT (v := v.val) (vs := v.cs) M 29 _ 51 rfl g (j * 6 + 3) rfl rfl rfl 4 rfl infoVa rfl (by simp only [List.length_cons, List.length_nil, List.length_append, List.length_take, List.length_drop]; omega) ?_
        clear M
        intro w M
        simp only [List.set_cons_zero, List.set_cons_succ] at M
        (try simp only [Act.put, List.setIfInBounds_toArray, List.set_cons_zero, List.set_cons_succ])
        refine ⟨(M.less (.cons_cons _ (.cons_cons _ (.cons _ (.cons_cons _ (List.nil_sublist _)))))), ?_⟩
        refine wpAnyH_done (by kernel_rfl) ?_ _
        go_wp2
        all_goals go_ret
        all_goals first
          | exact absurd ‹decide ((j : Int) < 0) = true› (by simp)
          | skip
        obtain ⟨⟨hrows, hl⟩⟩ := hkeep
        obtain ⟨m1, m2, hv, hm⟩ := split_at hx
        have h1 := rowOk_splice hro (j * 6 + 2) [Value.bool true] (by simp only [List.length_cons, List.length_nil]; omega)
        have e1 := flat_set Vr.cs_len m1 m2 x { x with has := true } 2 [Value.bool true] (by simp) rfl
        rw [hm, ← hv] at e1
        rw [← e1] at h1
        have h2 := rowOk_splice h1 (j * 6 + 3) v.cs (by simp only [List.length_cons, List.length_nil]; omega)
        have e2 := flat_set Vr.cs_len m1 m2 { x with has := true } { x with has := true, v := v } 3 v.cs (by simp) rfl
        rw [hm] at e2
        rw [← e2] at h2
        exact ⟨rfl, updLeftR ok hrows hl hv hm hq (fun x => { x with has := true, v := v }) h2 M.tail⟩
  · have hres : beginS sh.σ env k v = (sh.σ, false) := by simp [beginS, at?_out (σ := sh.σ) (env := env) (by rw [σR_len]; exact hin)]
    have hdec : decide (0 ≤ env ∧ env < sh.rows.length) = false := decide_eq_false hin
    rw [hres]
    generalize hS : (fun k => k ∈ sh.blks.map Prod.fst) = S at M ⊢
    go_enter Try.func18, Try.ntmps18
    go_wp2_with (first
      | ((with_reducible refine at_slot 7 rfl ?_); (with_reducible refine at_box _ _ rfl ?_); refine own_box (cs := #[.int .i64 v.k, .int .i64 v.n, .string v.s]) M _ _ rfl rfl rfl ?_; clear M; intro gb w M; (try simp only [Act.put, List.setIfInBounds_toArray, List.set_cons_zero, List.set_cons_succ]))
      | (go_at_call 32; (with_reducible refine (there_c (M.has 1 _ _ rfl) _).mono ?_); rintro _ w1 ⟨rfl, hb⟩; replace M := M.call hb; clear hb; try simp only [hdec])
      | ((with_reducible refine at_guard (_, _) rfl ?_); (refine own_guard rfl rfl rfl ?_ ?_ <;> (intro hc; (try simp only [Bool.not_true, Bool.not_false, Bool.not_eq_true', Bool.not_eq_false', reduceCtorEq] at hc); (try simp only [hc, Bool.not_true, Bool.not_false]))); try simp only [Act.put, List.setIfInBounds_toArray, List.set_cons_zero, List.set_cons_succ]))
    go_ret
    exact ⟨rfl, sh, ok, rfl, rfl, M.tail⟩
set_option maxHeartbeats 4000000 in
theorem rset_c {w0 : World} (sh : ShR) (ok : sh.Ok) (M : Own (fun k => k ∈ sh.blks.map Prod.fst) w0 w0 sh.blks) (env : Int) (k : ByteArray) (v : Va) :
    Calls Try.prog 22 #[.pointer (some ⟨sh.gR, 0, none⟩), .int .i64 env, .string k, v.val] w0 fun e w' => ∃ res, Finds sh.σ k env res ∧ e = .returned (.int .i64 (setS sh.σ res v).2) ∧ LeftR sh w0 w' (setS sh.σ res v).1 := by
  have nd := M.nodup
  unfold LeftR
  generalize hS : (fun k => k ∈ sh.blks.map Prod.fst) = S at M ⊢
  go_enter Try.func22, Try.ntmps22
  go_wp2_with (first
    | ((with_reducible refine at_slot 7 rfl ?_); (with_reducible refine at_box _ _ rfl ?_); refine own_box (cs := #[.int .i64 v.k, .int .i64 v.n, .string v.s]) M _ _ rfl rfl rfl ?_; clear M; intro gb w M; (try simp only [Act.put, List.setIfInBounds_toArray, List.set_cons_zero, List.set_cons_succ])))
  go_at_call 36
  refine (rfind_c sh ok (fun p hp => M.mem (List.mem_cons_of_mem _ hp)) nd env k).mono ?_
  rintro _ w1 ⟨⟨res, hf, rfl⟩, hb⟩
  replace M := M.call hb
  clear hb
  rcases res with _ | ⟨e, j⟩
  · simp only [rE, rI]
    go_wp2
    go_ret
    exact ⟨none, hf, rfl, sh, ok, rfl, rfl, M.tail⟩
  · simp only [rE, rI]
    obtain ⟨r, x, g, cap, cur, hr, hx, hq, hcQ, hro, hcell, hg, hel, hjl⟩ := ShR.found ok hf
    obtain ⟨l1, l2, hrows, hl, pm⟩ := ShR.perm1 hr
    have hkeep : Nonempty (PLift (sh.rows = l1 ++ r :: l2 ∧ l1.length = e)) := ⟨⟨hrows, hl⟩⟩
    clear hrows hl
    rw [hq] at pm
    replace M := M.perm (pm.cons _)
    have hc1 : cur[j * 6 + 2]? = some (.bool x.has) := hcell 2 (by omega)
    have hc0 : cur[j * 6 + 1]? = some (.bool x.fixed) := hcell 1 (by omega)
    have hroom := roomR hro hjl
    cases hh : x.has with
    | true =>
      rw [hh] at hc1
      cases hF : x.fixed with
      | true =>
        rw [hF] at hc0
        go_wp2_with (first
          | ((with_reducible refine at_load 74 _ rfl ?_); (first | refine own_load1 M 74 _ rfl rfl _ _ rfl 0 rfl Try.underlying74 rfl rfl ?_ | refine own_load1 M 74 _ rfl rfl _ _ rfl 1 rfl Try.underlying74 rfl rfl ?_ | refine own_load1 M 74 _ rfl rfl _ _ rfl 2 rfl Try.underlying74 rfl rfl ?_ | refine own_load1 M 74 _ rfl rfl _ _ rfl 3 rfl Try.underlying74 rfl rfl ?_ | refine own_load1 M 74 _ rfl rfl _ _ rfl 4 rfl Try.underlying74 rfl rfl ?_); try simp only [Act.put, List.setIfInBounds_toArray, List.set_cons_zero, List.set_cons_succ])
          | ((with_reducible refine at_load 81 _ rfl ?_); refine own_load1 M 81 _ rfl rfl sh.gQ e rfl 3 rfl Try.underlying81 rfl hcQ ?_; (try simp only [Act.put, List.setIfInBounds_toArray, List.set_cons_zero, List.set_cons_succ]))
          | ((with_reducible refine at_load 4 _ rfl ?_); refine own_load1 M 4 _ rfl rfl g (j * 6 + 2) rfl 4 rfl Try.underlying4 rfl hc1 ?_; (try simp only [Act.put, List.setIfInBounds_toArray, List.set_cons_zero, List.set_cons_succ]))
          | ((with_reducible refine at_load 4 _ rfl ?_); refine own_load1 M 4 _ rfl rfl g (j * 6 + 1) rfl 4 rfl Try.underlying4 rfl hc0 ?_; (try simp only [Act.put, List.setIfInBounds_toArray, List.set_cons_zero, List.set_cons_succ])))
        all_goals go_ret
        have hres : setS sh.σ (some (e, j)) v = (sh.σ, 3) := by simp [setS, hg, hh, hF]
        exact ⟨_, hf, by rw [hres]; rfl, sh, ok, by rw [hres], rfl, M.tail.perm pm.symm⟩
      | false =>
        rw [hF] at hc0
        go_wp2_with (first
          | ((with_reducible refine at_load 74 _ rfl ?_); (first | refine own_load1 M 74 _ rfl rfl _ _ rfl 0 rfl Try.underlying74 rfl rfl ?_ | refine own_load1 M 74 _ rfl rfl _ _ rfl 1 rfl Try.underlying74 rfl rfl ?_ | refine own_load1 M 74 _ rfl rfl _ _ rfl 2 rfl Try.underlying74 rfl rfl ?_ | refine own_load1 M 74 _ rfl rfl _ _ rfl 3 rfl Try.underlying74 rfl rfl ?_ | refine own_load1 M 74 _ rfl rfl _ _ rfl 4 rfl Try.underlying74 rfl rfl ?_); try simp only [Act.put, List.setIfInBounds_toArray, List.set_cons_zero, List.set_cons_succ])
          | ((with_reducible refine at_load 81 _ rfl ?_); refine own_load1 M 81 _ rfl rfl sh.gQ e rfl 3 rfl Try.underlying81 rfl hcQ ?_; (try simp only [Act.put, List.setIfInBounds_toArray, List.set_cons_zero, List.set_cons_succ]))
          | ((with_reducible refine at_load 4 _ rfl ?_); refine own_load1 M 4 _ rfl rfl g (j * 6 + 2) rfl 4 rfl Try.underlying4 rfl hc1 ?_; (try simp only [Act.put, List.setIfInBounds_toArray, List.set_cons_zero, List.set_cons_succ]))
          | ((with_reducible refine at_load 4 _ rfl ?_); refine own_load1 M 4 _ rfl rfl g (j * 6 + 1) rfl 4 rfl Try.underlying4 rfl hc0 ?_; (try simp only [Act.put, List.setIfInBounds_toArray, List.set_cons_zero, List.set_cons_succ])))
        refine held_start (C := fun w' => Own S w0 w' [(gb, .cells v.cs.toArray 29 (0, 0)), (sh.gR, .cells sh.top.toArray 76 (0, 0)), (sh.gQ, .cells sh.curQ.toArray 81 (0, 0))]) 12 rfl M (by kernel_rfl) ?_
        clear M
        intro w M
        (refine held_pure (i := 0) rfl (by kernel_rfl) (by kernel_rfl) (by kernel_rfl) rfl rfl (fun _ _ _ _ h => h) (M.less (.cons_cons _ (.cons_cons _ (.cons _ (.cons_cons _ (List.nil_sublist _)))))) ?_; apply Exists.intro; refine ⟨?_, ?_⟩; focus (intro w hw; first | (go_simp; done) | (go_simp; rfl) | (go_simp; rw [if_pos (by omega)])); (try simp only [Act.put, List.setIfInBounds_toArray, List.set_cons_zero, List.set_cons_succ]))
        (try simp only [Act.put, List.setIfInBounds_toArray, List.set_cons_zero, List.set_cons_succ])
        (refine held_pure (i := 1) rfl (by kernel_rfl) (by kernel_rfl) (by kernel_rfl) rfl rfl (fun _ _ _ _ h => h) (M.less (.cons_cons _ (.cons_cons _ (.cons _ (.cons_cons _ (List.nil_sublist _)))))) ?_; apply Exists.intro; refine ⟨?_, ?_⟩; focus (intro w hw; first | (go_simp; done) | (go_simp; rfl) | (go_simp; rw [if_pos (by omega)])); (try simp only [Act.put, List.setIfInBounds_toArray, List.set_cons_zero, List.set_cons_succ]))
        (try simp only [Act.put, List.setIfInBounds_toArray, List.set_cons_zero, List.set_cons_succ])
        (refine held_pure (i := 2) rfl (by kernel_rfl) (by kernel_rfl) (by kernel_rfl) rfl rfl (fun _ _ _ _ h => h) (M.less (.cons_cons _ (.cons_cons _ (.cons _ (.cons_cons _ (List.nil_sublist _)))))) ?_; apply Exists.intro; refine ⟨?_, ?_⟩; focus (intro w hw; first | (go_simp; done) | (go_simp; rfl) | (go_simp; rw [if_pos (by omega)])); (try simp only [Act.put, List.setIfInBounds_toArray, List.set_cons_zero, List.set_cons_succ]))
        (try simp only [Act.put, List.setIfInBounds_toArray, List.set_cons_zero, List.set_cons_succ])
        (refine held_load1 3 rfl (by kernel_rfl) (by kernel_rfl) (by kernel_rfl) rfl rfl (fun _ _ _ _ h => h) (M.less (.cons_cons _ (.cons_cons _ (.cons _ (.cons_cons _ (List.nil_sublist _)))))) 74 _ rfl sh.gR 1 rfl 1 rfl Try.underlying74 rfl rfl ?_; (try simp only [Act.put, List.setIfInBounds_toArray, List.set_cons_zero, List.set_cons_succ]))
        (try simp only [Act.put, List.setIfInBounds_toArray, List.set_cons_zero, List.set_cons_succ])
        (refine held_pure (i := 4) rfl (by kernel_rfl) (by kernel_rfl) (by kernel_rfl) rfl rfl (fun _ _ _ _ h => h) (M.less (.cons_cons _ (.cons_cons _ (.cons _ (.cons_cons _ (List.nil_sublist _)))))) ?_; apply Exists.intro; refine ⟨?_, ?_⟩; focus (intro w hw; first | (go_simp; done) | (go_simp; rfl) | (go_simp; rw [if_pos (by omega)])); (try simp only [Act.put, List.setIfInBounds_toArray, List.set_cons_zero, List.set_cons_succ]))
        (try simp only [Act.put, List.setIfInBounds_toArray, List.set_cons_zero, List.set_cons_succ])
        (refine held_pure (i := 5) rfl (by kernel_rfl) (by kernel_rfl) (by kernel_rfl) rfl rfl (fun _ _ _ _ h => h) (M.less (.cons_cons _ (.cons_cons _ (.cons _ (.cons_cons _ (List.nil_sublist _)))))) ?_; apply Exists.intro; refine ⟨?_, ?_⟩; focus (intro w hw; first | (go_simp; done) | (go_simp; rfl) | (go_simp; rw [if_pos (by omega)])); (try simp only [Act.put, List.setIfInBounds_toArray, List.set_cons_zero, List.set_cons_succ]))
        (try simp only [Act.put, List.setIfInBounds_toArray, List.set_cons_zero, List.set_cons_succ])
        (refine held_load1 6 rfl (by kernel_rfl) (by kernel_rfl) (by kernel_rfl) rfl rfl (fun _ _ _ _ h => h) (M.less (.cons_cons _ (.cons_cons _ (.cons _ (.cons_cons _ (List.nil_sublist _)))))) 81 _ rfl sh.gQ e rfl 2 rfl Try.underlying81 rfl hcQ ?_; (try simp only [Act.put, List.setIfInBounds_toArray, List.set_cons_zero, List.set_cons_succ]))
        (try simp only [Act.put, List.setIfInBounds_toArray, List.set_cons_zero, List.set_cons_succ])
        (refine held_pure (i := 7) rfl (by kernel_rfl) (by kernel_rfl) (by kernel_rfl) rfl rfl (fun _ _ _ _ h => h) (M.less (.cons_cons _ (.cons_cons _ (.cons _ (.cons_cons _ (List.nil_sublist _)))))) ?_; apply Exists.intro; refine ⟨?_, ?_⟩; focus (intro w hw; first | (go_simp; done) | (go_simp; rfl) | (go_simp; rw [if_pos (by omega)])); (try simp only [Act.put, List.setIfInBounds_toArray, List.set_cons_zero, List.set_cons_succ]))
        (try simp only [Act.put, List.setIfInBounds_toArray, List.set_cons_zero, List.set_cons_succ])
        (refine held_loadN (n := 3) 8 rfl (by kernel_rfl) (by kernel_rfl) (by kernel_rfl) rfl rfl (fun _ _ _ _ h => h) (M.less (.cons_cons _ (.cons_cons _ (.cons _ (.cons_cons _ (List.nil_sublist _)))))) 29 _ rfl _ _ rfl 0 rfl Try.underlying29 rfl infoVa (Nat.le_of_ble_eq_true rfl) ?_; simp only [List.drop_succ_cons, List.drop_zero, List.take_succ_cons, List.take_zero]; (try simp only [Act.put, List.setIfInBounds_toArray, List.set_cons_zero, List.set_cons_succ]))
        (try simp only [Act.put, List.setIfInBounds_toArray, List.set_cons_zero, List.set_cons_succ])
        (refine held_pure (i := 9) rfl (by kernel_rfl) (by kernel_rfl) (by kernel_rfl) rfl rfl (fun _ _ _ _ h => h) (M.less (.cons_cons _ (.cons_cons _ (.cons _ (.cons_cons _ (List.nil_sublist _)))))) ?_; apply Exists.intro; refine ⟨?_, ?_⟩; focus (intro w hw; first | (go_simp; done) | (go_simp; rfl) | (go_simp; rw [if_pos (by omega)])); (try simp only [Act.put, List.setIfInBounds_toArray, List.set_cons_zero, List.set_cons_succ]))
        (try simp only [Act.put, List.setIfInBounds_toArray, List.set_cons_zero, List.set_cons_succ])
        (refine held_pure (i := 10) rfl (by kernel_rfl) (by kernel_rfl) (by kernel_rfl) rfl rfl (fun _ _ _ _ h => h) (M.less (.cons_cons _ (.cons_cons _ (.cons _ (.cons_cons _ (List.nil_sublist _)))))) ?_; apply Exists.intro; refine ⟨?_, ?_⟩; focus (intro w hw; first | (go_simp; done) | (go_simp; rfl) | (go_simp; rw [if_pos (by omega)])); (try simp only [Act.put, List.setIfInBounds_toArray, List.set_cons_zero, List.set_cons_succ]))
        (try simp only [Act.put, List.setIfInBounds_toArray, List.set_cons_zero, List.set_cons_succ])
        refine held_one (i := 11) (by kernel_rfl) rfl rfl ?_
        refine op_storeT (v := v.val) (vs := v.cs) M 29 _ 54 rfl g (j * 6 + 3) rfl rfl rfl 4 rfl infoVa rfl (by simp only [List.length_cons, List.length_nil]; omega) ?_
        clear M
        intro w M
        simp only [List.set_cons_zero, List.set_cons_succ] at M
        (try simp only [Act.put, List.setIfInBounds_toArray, List.set_cons_zero, List.set_cons_succ])
        refine ⟨(M.less (.cons_cons _ (.cons_cons _ (.cons _ (.cons_cons _ (List.nil_sublist _)))))), ?_⟩
        refine wpAnyH_done (by kernel_rfl) ?_ _
        go_wp2
        all_goals go_ret
        obtain ⟨⟨hrows, hl⟩⟩ := hkeep
        obtain ⟨m1, m2, hv, hm⟩ := split_at hx
        have h2 := rowOk_splice hro (j * 6 + 3) v.cs (by simp only [List.length_cons, List.length_nil]; omega)
        have e2 := flat_set Vr.cs_len m1 m2 x { x with v := v } 3 v.cs (by simp) rfl
        rw [hm, ← hv] at e2
        rw [← e2] at h2
        have hres : setS sh.σ (some (e, j)) v = (updV sh.σ e j (fun x => { x with v := v }), 0) := by simp [setS, hg, hh, hF]
        obtain ⟨sh', ok', hσ', hg', M'⟩ := updLeftR ok hrows hl hv hm hq (fun x => { x with v := v }) h2 M.tail
        exact ⟨_, hf, by rw [hres]; rfl, sh', ok', by rw [hres]; exact hσ', hg', M'⟩
    | false =>
      rw [hh] at hc1
      go_wp2_with (first
        | ((with_reducible refine at_load 74 _ rfl ?_); (first | refine own_load1 M 74 _ rfl rfl _ _ rfl 0 rfl Try.underlying74 rfl rfl ?_ | refine own_load1 M 74 _ rfl rfl _ _ rfl 1 rfl Try.underlying74 rfl rfl ?_ | refine own_load1 M 74 _ rfl rfl _ _ rfl 2 rfl Try.underlying74 rfl rfl ?_ | refine own_load1 M 74 _ rfl rfl _ _ rfl 3 rfl Try.underlying74 rfl rfl ?_ | refine own_load1 M 74 _ rfl rfl _ _ rfl 4 rfl Try.underlying74 rfl rfl ?_); try simp only [Act.put, List.setIfInBounds_toArray, List.set_cons_zero, List.set_cons_succ])
        | ((with_reducible refine at_load 81 _ rfl ?_); refine own_load1 M 81 _ rfl rfl sh.gQ e rfl 3 rfl Try.underlying81 rfl hcQ ?_; (try simp only [Act.put, List.setIfInBounds_toArray, List.set_cons_zero, List.set_cons_succ]))
        | ((with_reducible refine at_load 4 _ rfl ?_); refine own_load1 M 4 _ rfl rfl g (j * 6 + 2) rfl 4 rfl Try.underlying4 rfl hc1 ?_; (try simp only [Act.put, List.setIfInBounds_toArray, List.set_cons_zero, List.set_cons_succ])))
      all_goals go_ret
      have hres : setS sh.σ (some (e, j)) v = (sh.σ, 2) := by simp [setS, hg, hh]
      exact ⟨_, hf, by rw [hres]; rfl, sh, ok, by rw [hres], rfl, M.tail.perm pm.symm⟩
end Go.Proofs.Ytkckgjjhnjcffaa
