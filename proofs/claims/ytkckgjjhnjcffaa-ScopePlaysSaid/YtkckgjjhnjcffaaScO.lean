/- The example of the document: scopes are alive. -/
import Derived.Test.YtkckgjjhnjcffaaScN
namespace Go.Proofs.Ytkckgjjhnjcffaa
open Go.ChangeShapes Go.WideShapes Go.ChangeAt Go.RowKit
set_option linter.unusedVariables false
set_option linter.unusedSimpArgs false
set_option maxRecDepth 100000
attribute [local irreducible] wpList Calls wpQuiet
def S1 (w0 : World) (X : List (Nat × Obj)) (gS : Nat) (σ : List Sc) (w : World) : Prop := ∃ s : ShS, s.Ok ∧ s.gS = gS ∧ s.σ = σ ∧ Own nobody w0 w (s.blks ++ X)
section
variable {w0 w : World} {X : List (Nat × Obj)} {gS : Nat} {σ : List Sc}
theorem S1.x (h : S1 w0 X gS σ w) : Own nobody w0 w X := by
  obtain ⟨s, -, -, -, M⟩ := h
  exact M.less (List.sublist_append_right _ _)
theorem S1.call (h : S1 w0 X gS σ w) {w' : World} (hb : Below w.heap.size w w') : S1 w0 X gS σ w' := by
  obtain ⟨s, h1, h2, h3, M⟩ := h
  exact ⟨s, h1, h2, h3, M.call hb⟩
theorem S1.alloc (h : S1 w0 X gS σ w) (o : Obj) : S1 w0 ((w.heap.size, o) :: X) gS σ (w.alloc o) := by
  obtain ⟨s, h1, h2, h3, M⟩ := h
  exact ⟨s, h1, h2, h3, (M.alloc o).perm List.perm_middle.symm⟩
theorem aLet (h : S1 w0 X gS σ w) (env : Int) (k : ByteArray) (fixed : Bool) :
    Calls Try.prog 13 #[.pointer (some ⟨gS, 0, none⟩), .int .i64 env, .string k, .bool fixed] w fun e w' => e = .returned (.bool (letS σ env k fixed).2) ∧ S1 w0 X gS (letS σ env k fixed).1 w' := by
  obtain ⟨s, h1, rfl, rfl, M⟩ := h
  exact (let_c s h1 M.start env k fixed).mono fun e w' ⟨he, s', k1, k2, k3, N⟩ => ⟨he, s', k1, k3, k2, M.into N⟩
theorem aBegin (h : S1 w0 X gS σ w) (env : Int) (k : ByteArray) (v : Va) :
    Calls Try.prog 17 #[.pointer (some ⟨gS, 0, none⟩), .int .i64 env, .string k, v.val] w fun e w' => e = .returned (.bool (beginS σ env k v).2) ∧ S1 w0 X gS (beginS σ env k v).1 w' := by
  obtain ⟨s, h1, rfl, rfl, M⟩ := h
  exact (begin_c s h1 M.start env k v).mono fun e w' ⟨he, s', k1, k2, k3, N⟩ => ⟨he, s', k1, k3, k2, M.into N⟩
theorem aGet (h : S1 w0 X gS σ w) (env : Int) (k : ByteArray) {res : Option (Nat × Nat)} (hf : Finds σ k env res) :
    Calls Try.prog 19 #[.pointer (some ⟨gS, 0, none⟩), .int .i64 env, .string k] w fun e w' => e = .returned (.tuple #[(getS σ res).1.val, .int .i64 (getS σ res).2]) ∧ Below w.heap.size w w' := by
  obtain ⟨s, h1, rfl, rfl, M⟩ := h
  refine (get_c s h1 (fun p hp => M.start.mem hp) M.start.nodup env k).mono fun e w' ⟨⟨res', hf', he⟩, hb⟩ => ?_
  obtain rfl := hf.det hf'
  exact ⟨he, hb⟩
end
/-- One object is made beside others. -/
theorem own_alloc_S1 {ops : Array Oper} {rest : List Oper} {o : Oper} {a : Act} {w0 w : World} {X : List (Nat × Obj)} {gS : Nat} {σ : List Sc} {Q : Exit → Act → World → Prop} (h1 : S1 w0 X gS σ w) (ty : TypeId) (ho : o.op = .alloc ty) (hgd : o.guard = none) {cs : Array Value} {v : Value} (hz : ∀ w, (zeroValue ty).run Try.prog w = .ok v w) (hv : v.cells = cs)
    (h : ∀ g w', S1 w0 ((g, .cells cs ty (0, 0)) :: X) gS σ w' → wpList Try.prog ops Q rest (a.put o.dst (.pointer (some ⟨g, 0, none⟩))) w') : wpList Try.prog ops Q (o :: rest) a w := by
  obtain ⟨s, k1, k2, k3, M⟩ := h1
  exact own_alloc M ty ho hgd hz hv fun g w' M' => h g w' ⟨s, k1, k2, k3, M'.perm List.perm_middle.symm⟩
theorem own_store_S1 {ops : Array Oper} {rest : List Oper} {o : Oper} {a : Act} {w0 w : World} {X : List (Nat × Obj)} {gS : Nat} {σ : List Sc} {Q : Exit → Act → World → Prop} {g : Nat} {t : TypeId} {cs : List Value} (h1 : S1 w0 ((g, .cells cs.toArray t (0, 0)) :: X) gS σ w) (ty : TypeId) (x : Operand) (j : Nat) (ho : o.op = .store ty x (.tmp j)) (hgd : o.guard = none) (hx : a.eval x = .pointer (some ⟨g, 0, none⟩))
    {v : Value} (hj : a.tmps[j]? = some v) {vs : List Value} (hy : v.cells = vs.toArray) (hn : (Try.prog.info? ty).map (·.size) = some vs.length) (h2 : vs.all (·.oneCell') = true) (hle : vs.length = cs.length)
    (h : ∀ w', S1 w0 ((g, .cells vs.toArray t (0, 0)) :: X) gS σ w' → wpList Try.prog ops Q rest (a.put o.dst undef) w') : wpList Try.prog ops Q (o :: rest) a w := by
  obtain ⟨s, k1, k2, k3, M⟩ := h1
  refine own_storeT (M.perm List.perm_middle) ty x j ho hgd g 0 hx hj hy 0 rfl hn h2 (by omega) fun w' M' => h w' ⟨s, k1, k2, k3, ?_⟩
  have e : cs.take 0 ++ vs ++ cs.drop (0 + vs.length) = vs := by simp [hle]
  rw [e] at M'
  exact M'.perm List.perm_middle.symm
theorem buildNull (w : World) : (Instr.build 29 #[(0, .int .i64 1)]).run Try.prog w = .ok (Va.val ⟨1, 0, ⟨#[]⟩⟩) w := by kernel_rfl
abbrev kA : ByteArray := { data := #[97] }
def σ1 : List Sc := [⟨-1, [⟨kA, false, false, Va.zero⟩]⟩]
def σ2 : List Sc := [⟨-1, [⟨kA, false, true, ⟨1, 0, ⟨#[]⟩⟩⟩]⟩]
theorem al_find0 : Finds [⟨-1, []⟩] kA 0 none := .up (e := 0) rfl rfl rfl (.out (by simp))
theorem al_let : letS [⟨-1, []⟩] 0 kA false = (σ1, true) := rfl
theorem al_idx (b : Bool) (v : Va) : idx kA [⟨kA, false, b, v⟩] = some 0 := by simp [idx]
theorem al_begin : beginS σ1 0 kA ⟨1, 0, ⟨#[]⟩⟩ = (σ2, true) := by
  have h : at? σ1 0 = some ⟨-1, [⟨kA, false, false, Va.zero⟩]⟩ := rfl
  simp only [beginS, h, al_idx]
  rfl
theorem al_find2 : Finds σ2 kA 0 (some (0, 0)) := .here (e := 0) rfl rfl (al_idx _ _)
theorem alive_c (w0 : World) : Calls Try.prog 10 #[] w0 fun e w' => e = .returned (.bool true) ∧ Below w0.heap.size w0 w' := by
  go_enter Try.func10, Try.ntmps10
  have e0 : (getS [⟨-1, []⟩] none).1.val = Va.zero.val := rfl
  have e1 : (getS [⟨-1, []⟩] none).2 = 1 := rfl
  have e2 : (getS σ2 (some (0, 0))).1.val = (⟨1, 0, ⟨#[]⟩⟩ : Va).val := rfl
  have e3 : (getS σ2 (some (0, 0))).2 = 0 := rfl
  have el1 : (letS [⟨-1, []⟩] 0 kA false).2 = true := rfl
  have el2 : (letS [⟨-1, []⟩] 0 kA false).1 = σ1 := rfl
  have eb1 : (beginS σ1 0 kA ⟨1, 0, ⟨#[]⟩⟩).2 = true := by rw [al_begin]
  have eb2 : (beginS σ1 0 kA ⟨1, 0, ⟨#[]⟩⟩).1 = σ2 := by rw [al_begin]
  go_wp2_with (first
    | (go_at_call 11; (with_reducible refine (new_c w0).mono ?_); rintro _ w1 ⟨sh, rfl, ok, hσ, M⟩; have h0 : S1 w0 [] sh.gS [⟨-1, []⟩] w1 := ⟨sh, ok, rfl, hσ, by simpa using M⟩; clear M hσ ok; generalize sh.gS = gS at h0 ⊢)
    | (go_at_call 19; (with_reducible refine (aGet h0 0 kA al_find0).mono ?_); rw [e0, e1]; rintro _ w2 ⟨rfl, hb⟩; replace h0 := h0.call hb; clear hb)
    | (go_at_call 19; (with_reducible refine (aGet h0 0 kA al_find2).mono ?_); rw [e2, e3]; rintro _ w2 ⟨rfl, hb⟩; replace h0 := h0.call hb; clear hb)
    | (go_at_call 13; (with_reducible refine (aLet h0 0 kA false).mono ?_); rw [el1, el2]; rintro _ w2 ⟨rfl, h1⟩; clear h0; have h0 := h1; clear h1)
    | (go_at_call 17; (with_reducible refine (aBegin h0 0 kA ⟨1, 0, ⟨#[]⟩⟩).mono ?_); rw [eb1, eb2]; rintro _ w2 ⟨rfl, h1⟩; clear h0; have h0 := h1; clear h1)
    | ((with_reducible refine at_slot 2 rfl ?_); refine own_alloc_S1 h0 29 rfl rfl zeroVa (cs := Va.zero.cs.toArray) rfl ?_; clear h0; intro g2 w2 h0; (try simp only [Act.put, List.setIfInBounds_toArray, List.set_cons_zero, List.set_cons_succ]))
    | ((with_reducible refine at_slot 6 rfl ?_); refine own_alloc_S1 h0 29 rfl rfl zeroVa (cs := Va.zero.cs.toArray) rfl ?_; clear h0; intro g6 w2 h0; (try simp only [Act.put, List.setIfInBounds_toArray, List.set_cons_zero, List.set_cons_succ]))
    | ((with_reducible refine at_store 29 _ (.tmp 14) rfl ?_); refine own_store_S1 h0 29 _ _ rfl rfl rfl (v := Va.zero.val) rfl (vs := Va.zero.cs) rfl infoVa rfl rfl ?_; clear h0; intro w2 h0; (try simp only [Act.put, List.setIfInBounds_toArray, List.set_cons_zero, List.set_cons_succ]))
    | ((with_reducible refine at_store 29 _ (.tmp 24) rfl ?_); refine own_store_S1 h0 29 _ _ rfl rfl rfl (v := (⟨1, 0, ⟨#[]⟩⟩ : Va).val) rfl (vs := (⟨1, 0, ⟨#[]⟩⟩ : Va).cs) rfl infoVa rfl rfl ?_; clear h0; intro w2 h0; (try simp only [Act.put, List.setIfInBounds_toArray, List.set_cons_zero, List.set_cons_succ]))
    | ((with_reducible refine at_build 29 _ rfl ?_); refine own_val rfl (fun w => run_build_op rfl (buildNull) (by first | (simp only [List.map_toArray, List.map_cons, List.map_nil]; done) | (simp only [List.map_toArray, List.map_cons, List.map_nil]; rfl)) w) ?_; try simp only [Act.put, List.setIfInBounds_toArray, List.set_cons_zero, List.set_cons_succ])
    | ((with_reducible refine at_load 3 _ rfl ?_); refine own_load1 h0.x 3 _ rfl rfl g6 0 rfl 0 rfl Try.underlying3 rfl rfl ?_; (try simp only [Act.put, List.setIfInBounds_toArray, List.set_cons_zero, List.set_cons_succ]))
    | ((with_reducible refine at_guard (_, _) rfl ?_); (refine own_guard rfl rfl rfl ?_ ?_ <;> (intro hc; (try simp only [Bool.not_true, Bool.not_false, Bool.not_eq_true', Bool.not_eq_false', reduceCtorEq] at hc); (try simp only [hc, Bool.not_true, Bool.not_false]))); try simp only [Act.put, List.setIfInBounds_toArray, List.set_cons_zero, List.set_cons_succ]))
  go_ret
  exact ⟨rfl, h0.x.below⟩
end Go.Proofs.Ytkckgjjhnjcffaa
