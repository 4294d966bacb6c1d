/- The scopes of a law side by side: what each call leaves of all of them. -/
import Derived.Test.YtkckgjjhnjcffaaScU
import Derived.Test.YtkckgjjhnjcffaaScY
import Derived.Test.YtkckgjjhnjcffaaScZ
namespace Go.Proofs.Ytkckgjjhnjcffaa
open Go.ChangeShapes Go.WideShapes Go.ChangeAt Go.RowKit
set_option linter.unusedVariables false
set_option linter.unusedSimpArgs false
set_option maxRecDepth 100000
attribute [local irreducible] wpList Calls wpQuiet
theorem buildScR (v u : Option Addr) (n c m d : Nat) (w : World) : (Instr.build 76 #[(0, .slice v n c), (1, .slice u m d)]).run Try.prog w = .ok (.agg #[.slice v n c, .slice u m d]) w := by kernel_rfl
theorem makeSlR (w : World) : (Instr.makeSlice 74 (.int .i64 1) (.int .i64 1)).run Try.prog w = .ok (.slice (some ⟨w.heap.size, 0, none⟩) 1 1) (w.alloc (.cells #[.slice none 0 0] 81 (0, 0))) := by kernel_rfl
section
variable {P : Program} {ops : Array Oper} {rest : List Oper} {o : Oper} {a : Act} {w w0 : World} {Q : Exit → Act → World → Prop} {S : Nat → Prop} {L : List (Nat × Obj)}
theorem at_makeSlice (t : TypeId) (x y : Operand) (_ : o.op = .makeSlice t x y) (h : wpList P ops Q (o :: rest) a w) : wpList P ops Q (o :: rest) a w := h
theorem own_makeSlice (M : Own S w0 w L) (t : TypeId) (x y : Operand) (ho : o.op = .makeSlice t x y) (hgd : o.guard = none) {n : Nat} {u v : Value} (hx : a.eval x = u) (hy : a.eval y = v) {cs : Array Value} {e : TypeId}
    (hrun : ∀ w, (Instr.makeSlice t u v).run P w = .ok (.slice (some ⟨w.heap.size, 0, none⟩) n n) (w.alloc (.cells cs e (0, 0))))
    (h : ∀ g w', Own S w0 w' ((g, .cells cs e (0, 0)) :: L) → wpList P ops Q rest (a.put o.dst (.slice (some ⟨g, 0, none⟩) n n)) w') : wpList P ops Q (o :: rest) a w :=
  wpList_step fun K hK => by
    rw [if_pos (by simp [Region.wanted, hgd])]
    unfold Oper.wp execOp
    simp only [ho, hx, hy, Sem.run_bind, hrun, Result.andThen_ok]
    exact hK _ _ (h _ _ (M.alloc _))
end
theorem rnew_c (w : World) : Calls Try.prog 12 #[] w fun e w' => ∃ sh : ShR, e = .returned (.pointer (some ⟨sh.gR, 0, none⟩)) ∧ sh.Ok ∧ sh.σ = [⟨-1, []⟩] ∧ Own nobody w w' sh.blks := by
  have M := Own.refl nobody w
  go_enter Try.func12, Try.ntmps12
  go_wp2_with (first
    | ((with_reducible refine at_buildSlice 54 _ _ rfl ?_); refine own_buildSlice M 54 _ _ rfl rfl (by first | (simp only [List.map_toArray, List.map_cons, List.map_nil]; done) | (simp only [List.map_toArray, List.map_cons, List.map_nil]; rfl)) (bsInt _) ?_; clear M; intro gp w M; (try simp only [Act.put, List.setIfInBounds_toArray, List.set_cons_zero, List.set_cons_succ]))
    | ((with_reducible refine at_makeSlice 74 _ _ rfl ?_); refine own_makeSlice M 74 _ _ rfl rfl rfl rfl makeSlR ?_; clear M; intro gq w M; (try simp only [Act.put, List.setIfInBounds_toArray, List.set_cons_zero, List.set_cons_succ]))
    | ((with_reducible refine at_build 76 _ rfl ?_); refine own_val rfl (fun w => run_build_op rfl (buildScR _ _ _ _ _ _) (by first | (simp only [List.map_toArray, List.map_cons, List.map_nil]; done) | (simp only [List.map_toArray, List.map_cons, List.map_nil]; rfl)) w) ?_; try simp only [Act.put, List.setIfInBounds_toArray, List.set_cons_zero, List.set_cons_succ])
    | ((with_reducible refine at_slot 4 rfl ?_); (with_reducible refine at_box _ _ rfl ?_); refine own_box (cs := #[.slice (some ⟨gp, 0, none⟩) 1 1, .slice (some ⟨gq, 0, none⟩) 1 1]) M _ _ rfl rfl rfl ?_; clear M; intro gs w M; (try simp only [Act.put, List.setIfInBounds_toArray, List.set_cons_zero, List.set_cons_succ])))
  go_ret
  refine ⟨⟨gs, gp, 1, [.int .i64 (-1)], gq, 1, [.slice none 0 0], [⟨⟨-1, []⟩, none⟩]⟩, rfl, ⟨⟨rfl, by simp, by simp [maxLen], rfl, rfl⟩, ⟨rfl, by simp, by simp [maxLen], rfl, rfl⟩, ?_, ?_⟩, rfl, ?_⟩
  · intro r hr
    obtain rfl := List.mem_singleton.1 hr
    exact ⟨rfl, rfl⟩
  · intro e p hp
    cases e with
    | zero =>
      cases hp
      show (-1 : Int) < 0
      decide
    | succ e => simp at hp
  · exact M.perm ((List.Perm.swap _ _ _).cons _)
/-- A name is always found or not. -/
theorem Finds.total {σ : List Sc} (hp : ParOk (σ.map Sc.parent)) (k : ByteArray) : ∀ (n : Nat) (env : Int), env < n → ∃ res, Finds σ k env res
  | 0, env, h => ⟨none, .out (by omega)⟩
  | n + 1, env, h => by
    by_cases hin : 0 ≤ env ∧ env < σ.length
    · obtain ⟨e, rfl⟩ : ∃ e : Nat, env = e := ⟨env.toNat, by omega⟩
      have hs : σ[e]? = some (σ[e]'(by omega)) := List.getElem?_eq_getElem _
      generalize σ[e]'(by omega) = sc at hs
      cases hj : idx k sc.vars with
      | some j => exact ⟨_, .here rfl hs hj⟩
      | none =>
        have hpar := hp e sc.parent (by simp [hs])
        obtain ⟨res, hr⟩ := Finds.total hp k n sc.parent (by omega)
        exact ⟨res, .up rfl hs hj hr⟩
    · exact ⟨none, .out hin⟩
theorem parS {sh : ShS} (ok : sh.Ok) : ParOk (sh.σ.map Sc.parent) := by
  have := ok.par
  unfold ShS.σ
  rwa [List.map_map]
theorem Own.intoNew {S : Nat → Prop} {w0 w w' : World} {R A' : List (Nat × Obj)} (h : Own S w0 w R) (n : Own nobody w w' A') : Own S w0 w' (A' ++ R) := by
  have e : nobody = fun k => k ∈ ([] : List (Nat × Obj)).map Prod.fst := by
    funext k
    simp [nobody]
  rw [e] at n
  exact Own.into (A := []) h n
/-- Three objects, and other blocks. -/
def St (w0 : World) (X : List (Nat × Obj)) (gS gO gR : Nat) (σs σo σr : List Sc) (w : World) : Prop :=
  ∃ (s o : ShS) (r : ShR), s.Ok ∧ o.Ok ∧ r.Ok ∧ s.gS = gS ∧ o.gS = gO ∧ r.gR = gR ∧ s.σ = σs ∧ o.σ = σo ∧ r.σ = σr ∧ Own nobody w0 w (s.blks ++ (o.blks ++ (r.blks ++ X)))
theorem perm2' {α : Type} (a b c : List α) : (a ++ (b ++ c)).Perm (b ++ (a ++ c)) := permRow a b c
theorem perm3' {α : Type} (a b c d : List α) : (a ++ (b ++ (c ++ d))).Perm (c ++ (a ++ (b ++ d))) := ((permRow b c d).append_left a).trans (permRow a c (b ++ d))
section
variable {w0 w : World} {X : List (Nat × Obj)} {gS gO gR : Nat} {σs σo σr : List Sc}
theorem St.x (h : St w0 X gS gO gR σs σo σr w) : Own nobody w0 w X := by
  obtain ⟨s, o, r, -, -, -, -, -, -, -, -, -, M⟩ := h
  exact M.less (List.Sublist.trans (List.sublist_append_right _ _) (List.Sublist.trans (List.sublist_append_right _ _) (List.sublist_append_right _ _)))
theorem St.below (h : St w0 X gS gO gR σs σo σr w) : Below w0.heap.size w0 w := h.x.below
theorem St.less (h : St w0 X gS gO gR σs σo σr w) {Y : List (Nat × Obj)} (hs : Y.Sublist X) : St w0 Y gS gO gR σs σo σr w := by
  obtain ⟨s, o, r, h1, h2, h3, h4, h5, h6, h7, h8, h9, M⟩ := h
  exact ⟨s, o, r, h1, h2, h3, h4, h5, h6, h7, h8, h9, M.less (List.Sublist.append_left (List.Sublist.append_left (List.Sublist.append_left hs _) _) _)⟩
theorem St.call (h : St w0 X gS gO gR σs σo σr w) {w' : World} (hb : Below w.heap.size w w') : St w0 X gS gO gR σs σo σr w' := by
  obtain ⟨s, o, r, h1, h2, h3, h4, h5, h6, h7, h8, h9, M⟩ := h
  exact ⟨s, o, r, h1, h2, h3, h4, h5, h6, h7, h8, h9, M.call hb⟩
theorem sMake (h : St w0 X gS gO gR σs σo σr w) (p : Int) (hn : σs.length ≤ 1000) :
    Calls Try.prog 14 #[.pointer (some ⟨gS, 0, none⟩), .int .i64 p] w fun e w' => e = .returned (.int .i64 (mkS σs p).2) ∧ St w0 X gS gO gR (mkS σs p).1 σo σr w' := by
  obtain ⟨s, o, r, h1, h2, h3, rfl, h5, h6, rfl, h8, h9, M⟩ := h
  refine (make_c s h1 M.start p (by rw [← σ_len]; exact hn)).mono fun e w' ⟨he, s', k1, k2, k3, N⟩ => ⟨he, s', o, r, k1, h2, h3, k3, h5, h6, k2, h8, h9, M.into N⟩
theorem oMake (h : St w0 X gS gO gR σs σo σr w) (p : Int) (hn : σo.length ≤ 1000) :
    Calls Try.prog 14 #[.pointer (some ⟨gO, 0, none⟩), .int .i64 p] w fun e w' => e = .returned (.int .i64 (mkS σo p).2) ∧ St w0 X gS gO gR σs (mkS σo p).1 σr w' := by
  obtain ⟨s, o, r, h1, h2, h3, h4, rfl, h6, h7, rfl, h9, M⟩ := h
  replace M := M.perm (perm2' _ _ _)
  refine (make_c o h2 M.start p (by rw [← σ_len]; exact hn)).mono fun e w' ⟨he, o', k1, k2, k3, N⟩ => ⟨he, s, o', r, h1, k1, h3, h4, k3, h6, h7, k2, h9, (M.into N).perm (perm2' _ _ _)⟩
theorem rMake (h : St w0 X gS gO gR σs σo σr w) (p : Int) (hn : σr.length ≤ 1000) :
    Calls Try.prog 15 #[.pointer (some ⟨gR, 0, none⟩), .int .i64 p] w fun e w' => e = .returned (.int .i64 (mkS σr p).2) ∧ St w0 X gS gO gR σs σo (mkS σr p).1 w' := by
  obtain ⟨s, o, r, h1, h2, h3, h4, h5, rfl, h7, h8, rfl, M⟩ := h
  replace M := M.perm (perm3' _ _ _ _)
  refine (rmake_c r h3 M.start p (by rw [← σR_len]; exact hn)).mono fun e w' ⟨he, r', k1, k2, k3, N⟩ => ⟨he, s, o, r', h1, h2, k1, h4, h5, k3, h7, h8, k2, (M.into N).perm (perm3' _ _ _ _).symm⟩
theorem sLet (h : St w0 X gS gO gR σs σo σr w) (env : Int) (k : ByteArray) (fixed : Bool) :
    Calls Try.prog 13 #[.pointer (some ⟨gS, 0, none⟩), .int .i64 env, .string k, .bool fixed] w fun e w' => e = .returned (.bool (letS σs env k fixed).2) ∧ St w0 X gS gO gR (letS σs env k fixed).1 σo σr w' := by
  obtain ⟨s, o, r, h1, h2, h3, rfl, h5, h6, rfl, h8, h9, M⟩ := h
  refine (let_c s h1 M.start env k fixed).mono fun e w' ⟨he, s', k1, k2, k3, N⟩ => ⟨he, s', o, r, k1, h2, h3, k3, h5, h6, k2, h8, h9, M.into N⟩
theorem oLet (h : St w0 X gS gO gR σs σo σr w) (env : Int) (k : ByteArray) (fixed : Bool) :
    Calls Try.prog 13 #[.pointer (some ⟨gO, 0, none⟩), .int .i64 env, .string k, .bool fixed] w fun e w' => e = .returned (.bool (letS σo env k fixed).2) ∧ St w0 X gS gO gR σs (letS σo env k fixed).1 σr w' := by
  obtain ⟨s, o, r, h1, h2, h3, h4, rfl, h6, h7, rfl, h9, M⟩ := h
  replace M := M.perm (perm2' _ _ _)
  refine (let_c o h2 M.start env k fixed).mono fun e w' ⟨he, o', k1, k2, k3, N⟩ => ⟨he, s, o', r, h1, k1, h3, h4, k3, h6, h7, k2, h9, (M.into N).perm (perm2' _ _ _)⟩
theorem rLet (h : St w0 X gS gO gR σs σo σr w) (env : Int) (k : ByteArray) (fixed : Bool) (hn : ∀ sc ∈ σr, sc.vars.length ≤ 1000) :
    Calls Try.prog 16 #[.pointer (some ⟨gR, 0, none⟩), .int .i64 env, .string k, .bool fixed] w fun e w' => e = .returned (.bool (letS σr env k fixed).2) ∧ St w0 X gS gO gR σs σo (letS σr env k fixed).1 w' := by
  obtain ⟨s, o, r, h1, h2, h3, h4, h5, rfl, h7, h8, rfl, M⟩ := h
  replace M := M.perm (perm3' _ _ _ _)
  refine (rlet_c r h3 M.start env k fixed (fun q hq => hn q.sc (List.mem_map_of_mem hq))).mono fun e w' ⟨he, r', k1, k2, k3, N⟩ => ⟨he, s, o, r', h1, h2, k1, h4, h5, k3, h7, h8, k2, (M.into N).perm (perm3' _ _ _ _).symm⟩
theorem sBegin (h : St w0 X gS gO gR σs σo σr w) (env : Int) (k : ByteArray) (v : Va) :
    Calls Try.prog 17 #[.pointer (some ⟨gS, 0, none⟩), .int .i64 env, .string k, v.val] w fun e w' => e = .returned (.bool (beginS σs env k v).2) ∧ St w0 X gS gO gR (beginS σs env k v).1 σo σr w' := by
  obtain ⟨s, o, r, h1, h2, h3, rfl, h5, h6, rfl, h8, h9, M⟩ := h
  refine (begin_c s h1 M.start env k v).mono fun e w' ⟨he, s', k1, k2, k3, N⟩ => ⟨he, s', o, r, k1, h2, h3, k3, h5, h6, k2, h8, h9, M.into N⟩
theorem rBegin (h : St w0 X gS gO gR σs σo σr w) (env : Int) (k : ByteArray) (v : Va) :
    Calls Try.prog 18 #[.pointer (some ⟨gR, 0, none⟩), .int .i64 env, .string k, v.val] w fun e w' => e = .returned (.bool (beginS σr env k v).2) ∧ St w0 X gS gO gR σs σo (beginS σr env k v).1 w' := by
  obtain ⟨s, o, r, h1, h2, h3, h4, h5, rfl, h7, h8, rfl, M⟩ := h
  replace M := M.perm (perm3' _ _ _ _)
  refine (rbegin_c r h3 M.start env k v).mono fun e w' ⟨he, r', k1, k2, k3, N⟩ => ⟨he, s, o, r', h1, h2, k1, h4, h5, k3, h7, h8, k2, (M.into N).perm (perm3' _ _ _ _).symm⟩
theorem sSet (h : St w0 X gS gO gR σs σo σr w) (env : Int) (k : ByteArray) (v : Va) {res : Option (Nat × Nat)} (hf : Finds σs k env res) :
    Calls Try.prog 21 #[.pointer (some ⟨gS, 0, none⟩), .int .i64 env, .string k, v.val] w fun e w' => e = .returned (.int .i64 (setS σs res v).2) ∧ St w0 X gS gO gR (setS σs res v).1 σo σr w' := by
  obtain ⟨s, o, r, h1, h2, h3, rfl, h5, h6, rfl, h8, h9, M⟩ := h
  refine (set_c s h1 M.start env k v).mono fun e w' ⟨res', hf', he, s', k1, k2, k3, N⟩ => ?_
  obtain rfl := hf.det hf'
  exact ⟨he, s', o, r, k1, h2, h3, k3, h5, h6, k2, h8, h9, M.into N⟩
theorem rSet (h : St w0 X gS gO gR σs σo σr w) (env : Int) (k : ByteArray) (v : Va) {res : Option (Nat × Nat)} (hf : Finds σr k env res) :
    Calls Try.prog 22 #[.pointer (some ⟨gR, 0, none⟩), .int .i64 env, .string k, v.val] w fun e w' => e = .returned (.int .i64 (setS σr res v).2) ∧ St w0 X gS gO gR σs σo (setS σr res v).1 w' := by
  obtain ⟨s, o, r, h1, h2, h3, h4, h5, rfl, h7, h8, rfl, M⟩ := h
  replace M := M.perm (perm3' _ _ _ _)
  refine (rset_c r h3 M.start env k v).mono fun e w' ⟨res', hf', he, r', k1, k2, k3, N⟩ => ?_
  obtain rfl := hf.det hf'
  exact ⟨he, s, o, r', h1, h2, k1, h4, h5, k3, h7, h8, k2, (M.into N).perm (perm3' _ _ _ _).symm⟩
theorem sGet (h : St w0 X gS gO gR σs σo σr w) (env : Int) (k : ByteArray) {res : Option (Nat × Nat)} (hf : Finds σs k env res) :
    Calls Try.prog 19 #[.pointer (some ⟨gS, 0, none⟩), .int .i64 env, .string k] w fun e w' => e = .returned (.tuple #[(getS σs res).1.val, .int .i64 (getS σs res).2]) ∧ Below w.heap.size w w' := by
  obtain ⟨s, o, r, h1, h2, h3, rfl, h5, h6, rfl, h8, h9, M⟩ := h
  refine (get_c s h1 (fun p hp => M.start.mem hp) M.start.nodup env k).mono fun e w' ⟨⟨res', hf', he⟩, hb⟩ => ?_
  obtain rfl := hf.det hf'
  exact ⟨he, hb⟩
theorem rGet (h : St w0 X gS gO gR σs σo σr w) (env : Int) (k : ByteArray) {res : Option (Nat × Nat)} (hf : Finds σr k env res) :
    Calls Try.prog 20 #[.pointer (some ⟨gR, 0, none⟩), .int .i64 env, .string k] w fun e w' => e = .returned (.tuple #[(getS σr res).1.val, .int .i64 (getS σr res).2]) ∧ Below w.heap.size w w' := by
  obtain ⟨s, o, r, h1, h2, h3, h4, h5, rfl, h7, h8, rfl, M⟩ := h
  replace M := M.perm (perm3' _ _ _ _)
  refine (rget_c r h3 (fun p hp => M.start.mem hp) M.start.nodup env k).mono fun e w' ⟨⟨res', hf', he⟩, hb⟩ => ?_
  obtain rfl := hf.det hf'
  exact ⟨he, hb⟩
theorem St.find (h : St w0 X gS gO gR σs σo σr w) (env : Int) (k : ByteArray) : ∃ res, Finds σs k env res := by
  obtain ⟨s, o, r, h1, h2, h3, h4, h5, h6, rfl, h8, h9, M⟩ := h
  exact Finds.total (parS h1) k (env.toNat + 1) env (by omega)
end
end Go.Proofs.Ytkckgjjhnjcffaa
