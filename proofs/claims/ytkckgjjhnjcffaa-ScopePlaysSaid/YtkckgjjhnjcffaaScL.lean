/- ScopePlays: the law's own loop. -/
import Derived.Test.YtkckgjjhnjcffaaScO
import Derived.Deep.Slices
namespace Go.Proofs.Ytkckgjjhnjcffaa
open Go.ChangeShapes Go.WideShapes Go.ChangeAt Go.RowKit
set_option linter.unusedVariables false
set_option linter.unusedSimpArgs false
set_option maxRecDepth 100000
attribute [local irreducible] wpList Calls wpQuiet
/-- A call that is asked for. -/
structure Ac where
  way : Int
  env : Int
  name : ByteArray
  fixed : Bool
  v : Va
abbrev Ac.cs (a : Ac) : List Value := [.int .i64 a.way, .int .i64 a.env, .string a.name, .bool a.fixed, .int .i64 a.v.k, .int .i64 a.v.n, .string a.v.s]
def AcsAt (w : World) (A : Option Addr) (l : List Ac) : Prop := ∀ (k : Nat) (x : Ac), l[k]? = some x → ∃ ad, A = some ad ∧ ∀ j v, x.cs[j]? = some v → w.cell? ((ad.add (k * 7)).add j) = some v
theorem infoAct : (Try.prog.info? 31).map (·.size) = some 7 := by kernel_rfl
abbrev Ac.zero : Ac := ⟨0, 0, ⟨#[]⟩, false, Va.zero⟩
theorem zeroAct (w : World) : (zeroValue 31).run Try.prog w = .ok (.agg Ac.zero.cs.toArray) w := by kernel_rfl
section
variable {P : Program} {ops : Array Oper} {rest : List Oper} {o : Oper} {a : Act} {w w0 : World} {Q : Exit → Act → World → Prop}
theorem wpList_load_row (ty : TypeId) (x : Operand) (ho : o.op = .load ty x) (hgd : o.guard = none) (ad : Addr) (hx : a.eval x = .pointer (some ad)) {d : TypeDesc} (hu : P.underlying ty = some d)
    (hd : (match d with | .struct _ | .array _ _ => true | _ => false) = true) (vs : List Value) (hi : (P.info? ty).map (·.size) = some vs.length) (hvs : ∀ j v, vs[j]? = some v → w.cell? (ad.add j) = some v)
    (h : wpList P ops Q rest (a.put o.dst (.agg vs.toArray)) w) : wpList P ops Q (o :: rest) a w :=
  wpList_step fun K hK => by
    rw [if_pos (by simp [Region.wanted, hgd])]
    have hl : (loadCells ad vs.length).run P w = .ok vs.toArray w := run_loadCells_list (P := P) w ad vs hvs
    have e : (loadVar ty ad).run P w = .ok (.agg vs.toArray) w := by
      cases hq : P.info? ty with
      | none => simp [hq] at hi
      | some i =>
        have hs : i.size = vs.length := by simpa [hq] using hi
        have hagg : (isAgg ty).run P w = .ok true w := by
          unfold isAgg
          rw [Sem.run_bind, run_underlying hu w]
          cases d <;> simp_all
        simp [loadVar, Sem.run_bind, hagg, sizeOf, typeInfo, hq, hs, hl]
    unfold Oper.wp execOp
    simp only [ho, hx, Instr.loadAt, Instr.sureAddr, Sem.run_bind, Sem.run_pure, Result.andThen_ok, e]
    exact hK _ _ h
end
theorem cell_keep {w0 w : World} {L : List (Nat × Obj)} (M : Own nobody w0 w L) {a : Addr} {v : Value} (h : w0.cell? a = some v) : w.cell? a = some v := by
  refine (M.below.cell ?_).trans h
  unfold World.cell? at h
  split at h
  · rename_i hb
    exact (Array.getElem?_eq_some_iff.1 hb).1
  · cases h
theorem permSt {α : Type} (a : α) (s o r X : List α) : (a :: (s ++ (o ++ (r ++ X)))).Perm (s ++ (o ++ (r ++ (a :: X)))) :=
  ((List.perm_middle (a := a) (l₁ := s) (l₂ := o ++ (r ++ X))).symm.trans (((List.perm_middle (a := a) (l₁ := o) (l₂ := r ++ X)).symm.trans ((List.perm_middle (a := a) (l₁ := r) (l₂ := X)).symm.append_left o)).append_left s))
section
variable {ops : Array Oper} {rest : List Oper} {o : Oper} {a : Act} {w0 w : World} {X : List (Nat × Obj)} {gS gO gR : Nat} {σs σo σr : List Sc} {Q : Exit → Act → World → Prop}
theorem own_alloc_St (h1 : St w0 X gS gO gR σs σo σr w) (ty : TypeId) (ho : o.op = .alloc ty) (hgd : o.guard = none) {cs : Array Value} {v : Value} (hz : ∀ w, (zeroValue ty).run Try.prog w = .ok v w) (hv : v.cells = cs)
    (h : ∀ g w', St w0 ((g, .cells cs ty (0, 0)) :: X) gS gO gR σs σo σr w' → wpList Try.prog ops Q rest (a.put o.dst (.pointer (some ⟨g, 0, none⟩))) w') : wpList Try.prog ops Q (o :: rest) a w := by
  obtain ⟨s, o', r, k1, k2, k3, k4, k5, k6, k7, k8, k9, M⟩ := h1
  exact own_alloc M ty ho hgd hz hv fun g w' M' => h g w' ⟨s, o', r, k1, k2, k3, k4, k5, k6, k7, k8, k9, M'.perm (permSt _ _ _ _ _)⟩
theorem own_store_St {g : Nat} {t : TypeId} {cs : List Value} (h1 : St w0 ((g, .cells cs.toArray t (0, 0)) :: X) gS gO gR σs σo σr w) (ty : TypeId) (x : Operand) (j : Nat) (ho : o.op = .store ty x (.tmp j)) (hgd : o.guard = none) (hx : a.eval x = .pointer (some ⟨g, 0, none⟩))
    {v : Value} (hj : a.tmps[j]? = some v) {vs : List Value} (hy : v.cells = vs.toArray) (hn : (Try.prog.info? ty).map (·.size) = some vs.length) (h2 : vs.all (·.oneCell') = true) (hle : vs.length = cs.length)
    (h : ∀ w', St w0 ((g, .cells vs.toArray t (0, 0)) :: X) gS gO gR σs σo σr w' → wpList Try.prog ops Q rest (a.put o.dst undef) w') : wpList Try.prog ops Q (o :: rest) a w := by
  obtain ⟨s, o', r, k1, k2, k3, k4, k5, k6, k7, k8, k9, M⟩ := h1
  refine own_storeT (M.perm (permSt _ _ _ _ _).symm) ty x j ho hgd g 0 hx hj hy 0 rfl hn h2 (by omega) fun w' M' => h w' ⟨s, o', r, k1, k2, k3, k4, k5, k6, k7, k8, k9, ?_⟩
  have e : cs.take 0 ++ vs ++ cs.drop (0 + vs.length) = vs := by simp [hle]
  rw [e] at M'
  exact M'.perm (permSt _ _ _ _ _)
end
def small (n : Nat) (σ : List Sc) : Prop := ∀ sc ∈ σ, sc.vars.length ≤ n
theorem st_start {w0 w : World} {X : List (Nat × Obj)} {gS gO gR : Nat} {σs σo σr : List Sc} {Q : Exit → Act → World → Prop} {a : Act} {id : Nat} {l : List Oper} {C : World → Prop} (n : Nat) (hn : l.toArray.size = n) (h1 : St w0 X gS gO gR σs σo σr w) (hm : Try.prog.follows .mixedOrders = true)
    (h : ∀ w', St w0 X gS gO gR σs σo σr w' → wpAnyH Try.prog .any l.toArray Q C n (Array.replicate n false) a w') : (Code.region id l.toArray true).wp Try.prog Q a w := by
  subst hn
  exact wp_region_held hm (h _ (h1.call ((Below.refl _ _).drew)))
theorem roundEnd {l : List Ac} {n : Nat} {w0 w : World} {X : List (Nat × Obj)} {gS gO gR : Nat} {σ σo : List Sc} (hlt : n < l.length) (hst : St w0 X gS gO gR σ σo σ w) (h1 : σ.length ≤ n + 2) (h2 : σo.length ≤ n + 2) (h3 : small (n + 1) σ) :
    (∃ n_1 : Nat, n_1 ≤ l.length ∧ Value.int .i64 ((n : Int) + 1) = Value.int .i64 n_1 ∧ ∃ σ σo, St w0 [] gS gO gR σ σo σ w ∧ σ.length ≤ n_1 + 1 ∧ σo.length ≤ n_1 + 1 ∧ small n_1 σ) ∧
      l.length - (intOf (Value.int .i64 ((n : Int) + 1))).toNat < l.length - (intOf (Value.int .i64 (n : Int))).toNat :=
  ⟨⟨n + 1, hlt, congrArg (Value.int .i64) (by omega), _, _, hst.less (List.nil_sublist _), h1, h2, h3⟩, by simp only [intOf]; omega⟩
theorem mkS_len (σ : List Sc) (p : Int) : (mkS σ p).1.length ≤ σ.length + 1 := by
  unfold mkS
  split <;> simp
theorem letS_len (σ : List Sc) (env : Int) (k : ByteArray) (b : Bool) : (letS σ env k b).1.length = σ.length := by
  unfold letS
  split
  · rfl
  · split <;> simp
theorem small_modify {n : Nat} {σ : List Sc} (h : small n σ) (e : Nat) (f : Sc → Sc) (hf : ∀ sc, sc.vars.length ≤ n → (f sc).vars.length ≤ n + 1) : small (n + 1) (σ.modify e f) := by
  intro sc hs
  obtain ⟨i, hi⟩ := List.mem_iff_getElem?.1 hs
  rw [List.getElem?_modify] at hi
  cases hq : σ[i]? with
  | none => rw [hq] at hi; simp at hi
  | some q =>
    rw [hq] at hi
    have hq' := h q (List.mem_of_getElem? hq)
    simp only [Option.map_eq_map, Option.map_some, Option.some.injEq] at hi
    split at hi
    · subst hi
      exact hf q hq'
    · subst hi
      omega
theorem small_mono {n : Nat} {σ : List Sc} (h : small n σ) : small (n + 1) σ := fun sc hs => by have := h sc hs; omega
theorem mkS_small {n : Nat} {σ : List Sc} (h : small n σ) (p : Int) : small (n + 1) (mkS σ p).1 := by
  unfold mkS
  split
  · exact small_mono h
  · intro sc hs
    rcases List.mem_append.1 hs with hs | hs
    · exact small_mono h sc hs
    · obtain rfl := List.mem_singleton.1 hs
      simp
theorem letS_small {n : Nat} {σ : List Sc} (h : small n σ) (env : Int) (k : ByteArray) (b : Bool) : small (n + 1) (letS σ env k b).1 := by
  unfold letS
  split
  · exact small_mono h
  · split
    · exact small_mono h
    · exact small_modify h _ _ fun sc hs => by simp; omega
theorem updV_len (σ : List Sc) (e j : Nat) (f : Vr → Vr) : (updV σ e j f).length = σ.length := by simp [updV]
theorem updV_small {n : Nat} {σ : List Sc} (h : small n σ) (e j : Nat) (f : Vr → Vr) : small (n + 1) (updV σ e j f) := small_modify h _ _ fun sc hs => by simp; omega
theorem beginS_len (σ : List Sc) (env : Int) (k : ByteArray) (v : Va) : (beginS σ env k v).1.length = σ.length := by
  unfold beginS
  split
  · rfl
  · split
    · rfl
    · split
      · rfl
      · split
        · rfl
        · exact updV_len _ _ _ _
theorem beginS_small {n : Nat} {σ : List Sc} (h : small n σ) (env : Int) (k : ByteArray) (v : Va) : small (n + 1) (beginS σ env k v).1 := by
  unfold beginS
  split
  · exact small_mono h
  · split
    · exact small_mono h
    · split
      · exact small_mono h
      · split
        · exact small_mono h
        · exact updV_small h _ _ _
theorem setS_len (σ : List Sc) (r : Option (Nat × Nat)) (v : Va) : (setS σ r v).1.length = σ.length := by
  unfold setS
  split
  · rfl
  · split
    · rfl
    · split
      · split
        · rfl
        · exact updV_len _ _ _ _
      · rfl
theorem setS_small {n : Nat} {σ : List Sc} (h : small n σ) (r : Option (Nat × Nat)) (v : Va) : small (n + 1) (setS σ r v).1 := by
  unfold setS
  split
  · exact small_mono h
  · split
    · exact small_mono h
    · split
      · split
        · exact small_mono h
        · exact updV_small h _ _ _
      · exact small_mono h
theorem permRev {α : Type} (c b a d : List α) : (c ++ (b ++ (a ++ d))).Perm (a ++ (b ++ (c ++ d))) :=
  (permRow c b (a ++ d)).trans (((permRow c a d).append_left b).trans (permRow b a (c ++ d)))
abbrev kO : ByteArray := { data := #[111] }
set_option maxHeartbeats 4000000 in
theorem plays_c {w0 : World} {A : Option Addr} {c : Nat} {l : List Ac} (hA : AcsAt w0 A l) :
    Calls Try.prog 3 #[.slice A l.length c] w0 fun e w' => e = .returned (.bool true) ∧ Below w0.heap.size w0 w' := by
  have M0 := Own.refl nobody w0
  go_enter Try.func3, Try.ntmps3
  go_wp2_with (first
    | (go_at_call 10; (with_reducible refine (alive_c w0).mono ?_); rintro _ w1 ⟨rfl, hb⟩; replace M0 := M0.call hb; clear hb)
    | ((with_reducible refine at_guard (_, _) rfl ?_); (refine own_guard rfl rfl rfl ?_ ?_ <;> (intro hc; (try simp only [Bool.not_true, Bool.not_false, Bool.not_eq_true', Bool.not_eq_false', reduceCtorEq] at hc); (try simp only [hc, Bool.not_true, Bool.not_false]))); try simp only [Act.put, List.setIfInBounds_toArray, List.set_cons_zero, List.set_cons_succ])
    | (go_at_call 11; (with_reducible refine (new_c _).mono ?_); rintro _ w1 ⟨s1, rfl, ok1, hσ1, N⟩; have M1 := Own.intoNew M0 N; clear M0 N)
    | (go_at_call 11; (with_reducible refine (new_c _).mono ?_); rintro _ w1 ⟨s2, rfl, ok2, hσ2, N⟩; have M2 := Own.intoNew M1 N; clear M1 N)
    | (go_at_call 12; (with_reducible refine (rnew_c _).mono ?_); rintro _ w1 ⟨s3, rfl, ok3, hσ3, N⟩; have M3 := Own.intoNew M2 N; clear M2 N))
  · go_ret
    exact ⟨rfl, M0.below⟩
  have hl100 : (l.length : Int) ≤ 100 := by assumption
  have hst : St w0 [] s1.gS s2.gS s3.gR [⟨-1, []⟩] [⟨-1, []⟩] [⟨-1, []⟩] w1 := ⟨s1, s2, s3, ok1, ok2, ok3, rfl, rfl, rfl, hσ1, hσ2, hσ3, M3.perm (permRev _ _ _ _)⟩
  clear M3 ok1 ok2 ok3 hσ1 hσ2 hσ3
  generalize s1.gS = gS at hst ⊢
  generalize s2.gS = gO at hst ⊢
  generalize s3.gR = gR at hst ⊢
  go_loopw [7] (fun i wr => ∃ n : Nat, n ≤ l.length ∧ i = .int .i64 n ∧ ∃ σ σo, St w0 [] gS gO gR σ σo σ wr ∧ σ.length ≤ n + 1 ∧ σo.length ≤ n + 1 ∧ small n σ)
    (fun i _ => l.length - (intOf i).toNat)
  case atStart => exact ⟨0, Nat.zero_le _, rfl, _, _, hst, by simp, by simp, by intro sc hs; obtain rfl := List.mem_singleton.1 hs; simp⟩
  case round =>
    clear hst
    obtain ⟨n, hn, rfl, σ, σo, hst, hlσ, hlo, hsm⟩ := hrel
    by_cases hlt : n < l.length
    · have hx : l[n]? = some l[n] := List.getElem?_eq_getElem hlt
      generalize l[n] = x at hx
      obtain ⟨ad, rfl, hcell0⟩ := hA n x hx
      have hcell : ∀ j v, x.cs[j]? = some v → wr.cell? ((ad.add (n * 7)).add j) = some v := fun j v hv => cell_keep hst.x (hcell0 j v hv)
      obtain ⟨res, hf⟩ := hst.find x.env x.name
      obtain ⟨gv, hgv⟩ : ∃ gv, (getS σ res).1 = gv := ⟨_, rfl⟩
      obtain ⟨ge, hge⟩ : ∃ ge, (getS σ res).2 = ge := ⟨_, rfl⟩
      clear hcell0
      go_wp2_with (first
        | ((with_reducible refine at_load 31 _ rfl ?_); refine wpList_load_row 31 _ rfl rfl (ad.add (n * 7)) rfl Try.underlying31 rfl x.cs infoAct hcell ?_; (try simp only [Act.put, List.setIfInBounds_toArray, List.set_cons_zero, List.set_cons_succ]))
        | ((with_reducible refine at_slot 8 rfl ?_); refine own_alloc_St hst 31 rfl rfl zeroAct (cs := Ac.zero.cs.toArray) rfl ?_; clear hst; intro g8 w hst; (try simp only [Act.put, List.setIfInBounds_toArray, List.set_cons_zero, List.set_cons_succ]))
        | ((with_reducible refine at_store 31 _ (.tmp 34) rfl ?_); refine own_store_St hst 31 _ _ rfl rfl rfl (v := .agg x.cs.toArray) rfl (vs := x.cs) rfl infoAct rfl rfl ?_; clear hst; intro w hst; (try simp only [Act.put, List.setIfInBounds_toArray, List.set_cons_zero, List.set_cons_succ]))
        | (go_at_call 13; (with_reducible refine (oLet hst 0 kO true).mono ?_); rintro _ w ⟨rfl, hst2⟩; clear hst; have hst := hst2; clear hst2)
        | (go_at_call 14; (with_reducible refine (oMake hst 0 (by rw [letS_len]; omega)).mono ?_); rintro _ w ⟨rfl, hst2⟩; clear hst; have hst := hst2; clear hst2)
        | ((with_reducible refine at_load 3 _ rfl ?_); (first | refine own_load1 hst.x 3 _ rfl rfl _ _ rfl 0 rfl Try.underlying3 rfl rfl ?_ | refine own_load1 hst.x 3 _ rfl rfl _ _ rfl 1 rfl Try.underlying3 rfl rfl ?_); (try simp only [Act.put, List.setIfInBounds_toArray, List.set_cons_zero, List.set_cons_succ]))
        | ((with_reducible refine at_load 9 _ rfl ?_); (first | refine own_load1 hst.x 9 _ rfl rfl _ _ rfl 0 rfl Try.underlying9 rfl rfl ?_ | refine own_load1 hst.x 9 _ rfl rfl _ _ rfl 1 rfl Try.underlying9 rfl rfl ?_); (try simp only [Act.put, List.setIfInBounds_toArray, List.set_cons_zero, List.set_cons_succ]))
        | (go_at_call 19; (with_reducible refine (sGet hst _ _ hf).mono ?_); rw [hgv, hge]; rintro _ w ⟨rfl, hb⟩; replace hst := hst.call hb; clear hb)
        | (go_at_call 20; (with_reducible refine (rGet hst _ _ hf).mono ?_); rw [hgv, hge]; rintro _ w ⟨rfl, hb⟩; replace hst := hst.call hb; clear hb)
        | ((with_reducible refine at_slot 9 rfl ?_); refine own_alloc_St hst 29 rfl rfl zeroVa (cs := Va.zero.cs.toArray) rfl ?_; clear hst; intro g9 w hst; (try simp only [Act.put, List.setIfInBounds_toArray, List.set_cons_zero, List.set_cons_succ]))
        | ((with_reducible refine at_slot 11 rfl ?_); refine own_alloc_St hst 29 rfl rfl zeroVa (cs := Va.zero.cs.toArray) rfl ?_; clear hst; intro g11 w hst; (try simp only [Act.put, List.setIfInBounds_toArray, List.set_cons_zero, List.set_cons_succ]))
        | ((with_reducible refine at_store 29 _ (.tmp _) rfl ?_); refine own_store_St hst 29 _ _ rfl rfl rfl (v := gv.val) rfl (vs := gv.cs) rfl infoVa rfl rfl ?_; clear hst; intro w hst; (try simp only [Act.put, List.setIfInBounds_toArray, List.set_cons_zero, List.set_cons_succ]))
        | ((with_reducible refine at_load 29 _ rfl ?_); (first | refine own_loadN hst.x 29 _ rfl rfl _ _ rfl 0 rfl Try.underlying29 rfl 3 infoVa (Nat.le_of_ble_eq_true rfl) ?_ | refine own_loadN hst.x 29 _ rfl rfl _ _ rfl 1 rfl Try.underlying29 rfl 3 infoVa (Nat.le_of_ble_eq_true rfl) ?_); simp only [List.drop_succ_cons, List.drop_zero, List.take_succ_cons, List.take_zero]; (try simp only [Act.put, List.setIfInBounds_toArray, List.set_cons_zero, List.set_cons_succ]))
        | ((with_reducible refine at_bin .neq 29 _ _ _ rfl ?_); refine own_val rfl (fun w => run_bin_agg rfl guardVa rfl rfl w (run_neq_va w _ _ _ _ _ _)) ?_; try simp only [Act.put, List.setIfInBounds_toArray, List.set_cons_zero, List.set_cons_succ])
        | ((with_reducible refine at_guard (_, _) rfl ?_); (refine own_guard rfl rfl rfl ?_ ?_ <;> (intro hc; (try simp only [Bool.not_true, Bool.not_false, Bool.not_eq_true', Bool.not_eq_false', reduceCtorEq] at hc); (try simp only [hc, Bool.not_true, Bool.not_false]))); try simp only [Act.put, List.setIfInBounds_toArray, List.set_cons_zero, List.set_cons_succ]))
      · obtain ⟨z, hz⟩ : ∃ z, (mkS σ x.env).2 = z := ⟨_, rfl⟩
        · refine st_start (C := fun w' => Own nobody w0 w' [(g8, .cells x.cs.toArray 31 (0, 0))]) 9 rfl hst (by kernel_rfl) ?_
          clear hst
          intro w hst
          (refine held_pure (i := 0) rfl (by kernel_rfl) (by kernel_rfl) (by kernel_rfl) rfl rfl (fun _ _ _ _ h => h) hst.x ?_; apply Exists.intro; refine ⟨?_, ?_⟩; focus (intro w hw; first | (go_simp; done) | (go_simp; rfl) | (go_simp; rw [if_pos (by omega)])); (try simp only [Act.put, List.setIfInBounds_toArray, List.set_cons_zero, List.set_cons_succ]))
          (try simp only [Act.put, List.setIfInBounds_toArray, List.set_cons_zero, List.set_cons_succ])
          (refine held_pure (i := 1) rfl (by kernel_rfl) (by kernel_rfl) (by kernel_rfl) rfl rfl (fun _ _ _ _ h => h) hst.x ?_; apply Exists.intro; refine ⟨?_, ?_⟩; focus (intro w hw; first | (go_simp; done) | (go_simp; rfl) | (go_simp; rw [if_pos (by omega)])); (try simp only [Act.put, List.setIfInBounds_toArray, List.set_cons_zero, List.set_cons_succ]))
          (try simp only [Act.put, List.setIfInBounds_toArray, List.set_cons_zero, List.set_cons_succ])
          (refine held_load1 2 rfl (by kernel_rfl) (by kernel_rfl) (by kernel_rfl) rfl rfl (fun _ _ _ _ h => h) hst.x 3 _ rfl g8 1 rfl 0 rfl Try.underlying3 rfl rfl ?_; (try simp only [Act.put, List.setIfInBounds_toArray, List.set_cons_zero, List.set_cons_succ]))
          (try simp only [Act.put, List.setIfInBounds_toArray, List.set_cons_zero, List.set_cons_succ])
          (refine held_pure (i := 4) rfl (by kernel_rfl) (by kernel_rfl) (by kernel_rfl) rfl rfl (fun _ _ _ _ h => h) hst.x ?_; apply Exists.intro; refine ⟨?_, ?_⟩; focus (intro w hw; first | (go_simp; done) | (go_simp; rfl) | (go_simp; rw [if_pos (by omega)])); (try simp only [Act.put, List.setIfInBounds_toArray, List.set_cons_zero, List.set_cons_succ]))
          (try simp only [Act.put, List.setIfInBounds_toArray, List.set_cons_zero, List.set_cons_succ])
          (refine held_pure (i := 5) rfl (by kernel_rfl) (by kernel_rfl) (by kernel_rfl) rfl rfl (fun _ _ _ _ h => h) hst.x ?_; apply Exists.intro; refine ⟨?_, ?_⟩; focus (intro w hw; first | (go_simp; done) | (go_simp; rfl) | (go_simp; rw [if_pos (by omega)])); (try simp only [Act.put, List.setIfInBounds_toArray, List.set_cons_zero, List.set_cons_succ]))
          (try simp only [Act.put, List.setIfInBounds_toArray, List.set_cons_zero, List.set_cons_succ])
          (refine held_load1 6 rfl (by kernel_rfl) (by kernel_rfl) (by kernel_rfl) rfl rfl (fun _ _ _ _ h => h) hst.x 3 _ rfl g8 1 rfl 0 rfl Try.underlying3 rfl rfl ?_; (try simp only [Act.put, List.setIfInBounds_toArray, List.set_cons_zero, List.set_cons_succ]))
          (try simp only [Act.put, List.setIfInBounds_toArray, List.set_cons_zero, List.set_cons_succ])
          refine held_one (i := 3) (by kernel_rfl) rfl rfl ?_
          refine op_callee 14 Try.func14 (by kernel_rfl) rfl rfl (args := #[.pointer (some ⟨gS, 0, none⟩), .int .i64 x.env]) (by first | (simp only [List.map_toArray, List.map_cons, List.map_nil]; done) | (simp only [List.map_toArray, List.map_cons, List.map_nil]; rfl)) ((sMake hst x.env (by omega)).mono ?_)
          rintro _ w ⟨rfl, hst2⟩
          clear hst
          have hst := hst2
          clear hst2
          refine ⟨_, rfl, hst.x, ?_⟩
          rw [hz]
          (try simp only [Act.put, List.setIfInBounds_toArray, List.set_cons_zero, List.set_cons_succ])
          refine held_one (i := 7) (by kernel_rfl) rfl rfl ?_
          refine op_callee 15 Try.func15 (by kernel_rfl) rfl rfl (args := #[.pointer (some ⟨gR, 0, none⟩), .int .i64 x.env]) (by first | (simp only [List.map_toArray, List.map_cons, List.map_nil]; done) | (simp only [List.map_toArray, List.map_cons, List.map_nil]; rfl)) ((rMake hst x.env (by omega)).mono ?_)
          rintro _ w ⟨rfl, hst2⟩
          clear hst
          have hst := hst2
          clear hst2
          refine ⟨_, rfl, hst.x, ?_⟩
          rw [hz]
          (try simp only [Act.put, List.setIfInBounds_toArray, List.set_cons_zero, List.set_cons_succ])
          (refine held_pure (i := 8) rfl (by kernel_rfl) (by kernel_rfl) (by kernel_rfl) rfl rfl (fun _ _ _ _ h => h) hst.x ?_; apply Exists.intro; refine ⟨?_, ?_⟩; focus (intro w hw; first | (go_simp; done) | (go_simp; rfl) | (go_simp; rw [if_pos (by omega)])); (try simp only [Act.put, List.setIfInBounds_toArray, List.set_cons_zero, List.set_cons_succ]))
          (try simp only [Act.put, List.setIfInBounds_toArray, List.set_cons_zero, List.set_cons_succ])
          refine wpAnyH_done (by kernel_rfl) ?_ _
          go_wp2
          exact roundEnd hlt hst (by have := mkS_len σ x.env; omega) (by have := mkS_len (letS σo 0 kO true).1 0; rw [letS_len] at this; omega) (mkS_small hsm _)
      · obtain ⟨z, hz⟩ : ∃ z, (letS σ x.env x.name x.fixed).2 = z := ⟨_, rfl⟩
        · refine st_start (C := fun w' => Own nobody w0 w' [(g8, .cells x.cs.toArray 31 (0, 0))]) 17 rfl hst (by kernel_rfl) ?_
          clear hst
          intro w hst
          (refine held_pure (i := 0) rfl (by kernel_rfl) (by kernel_rfl) (by kernel_rfl) rfl rfl (fun _ _ _ _ h => h) hst.x ?_; apply Exists.intro; refine ⟨?_, ?_⟩; focus (intro w hw; first | (go_simp; done) | (go_simp; rfl) | (go_simp; rw [if_pos (by omega)])); (try simp only [Act.put, List.setIfInBounds_toArray, List.set_cons_zero, List.set_cons_succ]))
          (try simp only [Act.put, List.setIfInBounds_toArray, List.set_cons_zero, List.set_cons_succ])
          (refine held_pure (i := 1) rfl (by kernel_rfl) (by kernel_rfl) (by kernel_rfl) rfl rfl (fun _ _ _ _ h => h) hst.x ?_; apply Exists.intro; refine ⟨?_, ?_⟩; focus (intro w hw; first | (go_simp; done) | (go_simp; rfl) | (go_simp; rw [if_pos (by omega)])); (try simp only [Act.put, List.setIfInBounds_toArray, List.set_cons_zero, List.set_cons_succ]))
          (try simp only [Act.put, List.setIfInBounds_toArray, List.set_cons_zero, List.set_cons_succ])
          (refine held_load1 2 rfl (by kernel_rfl) (by kernel_rfl) (by kernel_rfl) rfl rfl (fun _ _ _ _ h => h) hst.x 3 _ rfl g8 1 rfl 0 rfl Try.underlying3 rfl rfl ?_; (try simp only [Act.put, List.setIfInBounds_toArray, List.set_cons_zero, List.set_cons_succ]))
          (try simp only [Act.put, List.setIfInBounds_toArray, List.set_cons_zero, List.set_cons_succ])
          (refine held_pure (i := 3) rfl (by kernel_rfl) (by kernel_rfl) (by kernel_rfl) rfl rfl (fun _ _ _ _ h => h) hst.x ?_; apply Exists.intro; refine ⟨?_, ?_⟩; focus (intro w hw; first | (go_simp; done) | (go_simp; rfl) | (go_simp; rw [if_pos (by omega)])); (try simp only [Act.put, List.setIfInBounds_toArray, List.set_cons_zero, List.set_cons_succ]))
          (try simp only [Act.put, List.setIfInBounds_toArray, List.set_cons_zero, List.set_cons_succ])
          (refine held_load1 4 rfl (by kernel_rfl) (by kernel_rfl) (by kernel_rfl) rfl rfl (fun _ _ _ _ h => h) hst.x 9 _ rfl g8 2 rfl 0 rfl Try.underlying9 rfl rfl ?_; (try simp only [Act.put, List.setIfInBounds_toArray, List.set_cons_zero, List.set_cons_succ]))
          (try simp only [Act.put, List.setIfInBounds_toArray, List.set_cons_zero, List.set_cons_succ])
          (refine held_pure (i := 5) rfl (by kernel_rfl) (by kernel_rfl) (by kernel_rfl) rfl rfl (fun _ _ _ _ h => h) hst.x ?_; apply Exists.intro; refine ⟨?_, ?_⟩; focus (intro w hw; first | (go_simp; done) | (go_simp; rfl) | (go_simp; rw [if_pos (by omega)])); (try simp only [Act.put, List.setIfInBounds_toArray, List.set_cons_zero, List.set_cons_succ]))
          (try simp only [Act.put, List.setIfInBounds_toArray, List.set_cons_zero, List.set_cons_succ])
          (refine held_load1 6 rfl (by kernel_rfl) (by kernel_rfl) (by kernel_rfl) rfl rfl (fun _ _ _ _ h => h) hst.x 4 _ rfl g8 3 rfl 0 rfl Try.underlying4 rfl rfl ?_; (try simp only [Act.put, List.setIfInBounds_toArray, List.set_cons_zero, List.set_cons_succ]))
          (try simp only [Act.put, List.setIfInBounds_toArray, List.set_cons_zero, List.set_cons_succ])
          (refine held_pure (i := 8) rfl (by kernel_rfl) (by kernel_rfl) (by kernel_rfl) rfl rfl (fun _ _ _ _ h => h) hst.x ?_; apply Exists.intro; refine ⟨?_, ?_⟩; focus (intro w hw; first | (go_simp; done) | (go_simp; rfl) | (go_simp; rw [if_pos (by omega)])); (try simp only [Act.put, List.setIfInBounds_toArray, List.set_cons_zero, List.set_cons_succ]))
          (try simp only [Act.put, List.setIfInBounds_toArray, List.set_cons_zero, List.set_cons_succ])
          (refine held_pure (i := 9) rfl (by kernel_rfl) (by kernel_rfl) (by kernel_rfl) rfl rfl (fun _ _ _ _ h => h) hst.x ?_; apply Exists.intro; refine ⟨?_, ?_⟩; focus (intro w hw; first | (go_simp; done) | (go_simp; rfl) | (go_simp; rw [if_pos (by omega)])); (try simp only [Act.put, List.setIfInBounds_toArray, List.set_cons_zero, List.set_cons_succ]))
          (try simp only [Act.put, List.setIfInBounds_toArray, List.set_cons_zero, List.set_cons_succ])
          (refine held_load1 10 rfl (by kernel_rfl) (by kernel_rfl) (by kernel_rfl) rfl rfl (fun _ _ _ _ h => h) hst.x 3 _ rfl g8 1 rfl 0 rfl Try.underlying3 rfl rfl ?_; (try simp only [Act.put, List.setIfInBounds_toArray, List.set_cons_zero, List.set_cons_succ]))
          (try simp only [Act.put, List.setIfInBounds_toArray, List.set_cons_zero, List.set_cons_succ])
          (refine held_pure (i := 11) rfl (by kernel_rfl) (by kernel_rfl) (by kernel_rfl) rfl rfl (fun _ _ _ _ h => h) hst.x ?_; apply Exists.intro; refine ⟨?_, ?_⟩; focus (intro w hw; first | (go_simp; done) | (go_simp; rfl) | (go_simp; rw [if_pos (by omega)])); (try simp only [Act.put, List.setIfInBounds_toArray, List.set_cons_zero, List.set_cons_succ]))
          (try simp only [Act.put, List.setIfInBounds_toArray, List.set_cons_zero, List.set_cons_succ])
          (refine held_load1 12 rfl (by kernel_rfl) (by kernel_rfl) (by kernel_rfl) rfl rfl (fun _ _ _ _ h => h) hst.x 9 _ rfl g8 2 rfl 0 rfl Try.underlying9 rfl rfl ?_; (try simp only [Act.put, List.setIfInBounds_toArray, List.set_cons_zero, List.set_cons_succ]))
          (try simp only [Act.put, List.setIfInBounds_toArray, List.set_cons_zero, List.set_cons_succ])
          (refine held_pure (i := 13) rfl (by kernel_rfl) (by kernel_rfl) (by kernel_rfl) rfl rfl (fun _ _ _ _ h => h) hst.x ?_; apply Exists.intro; refine ⟨?_, ?_⟩; focus (intro w hw; first | (go_simp; done) | (go_simp; rfl) | (go_simp; rw [if_pos (by omega)])); (try simp only [Act.put, List.setIfInBounds_toArray, List.set_cons_zero, List.set_cons_succ]))
          (try simp only [Act.put, List.setIfInBounds_toArray, List.set_cons_zero, List.set_cons_succ])
          (refine held_load1 14 rfl (by kernel_rfl) (by kernel_rfl) (by kernel_rfl) rfl rfl (fun _ _ _ _ h => h) hst.x 4 _ rfl g8 3 rfl 0 rfl Try.underlying4 rfl rfl ?_; (try simp only [Act.put, List.setIfInBounds_toArray, List.set_cons_zero, List.set_cons_succ]))
          (try simp only [Act.put, List.setIfInBounds_toArray, List.set_cons_zero, List.set_cons_succ])
          refine held_one (i := 7) (by kernel_rfl) rfl rfl ?_
          refine op_callee 13 Try.func13 (by kernel_rfl) rfl rfl (args := #[.pointer (some ⟨gS, 0, none⟩), .int .i64 x.env, .string x.name, .bool x.fixed]) (by first | (simp only [List.map_toArray, List.map_cons, List.map_nil]; done) | (simp only [List.map_toArray, List.map_cons, List.map_nil]; rfl)) ((sLet hst x.env x.name x.fixed).mono ?_)
          rintro _ w ⟨rfl, hst2⟩
          clear hst
          have hst := hst2
          clear hst2
          refine ⟨_, rfl, hst.x, ?_⟩
          rw [hz]
          (try simp only [Act.put, List.setIfInBounds_toArray, List.set_cons_zero, List.set_cons_succ])
          refine held_one (i := 15) (by kernel_rfl) rfl rfl ?_
          refine op_callee 16 Try.func16 (by kernel_rfl) rfl rfl (args := #[.pointer (some ⟨gR, 0, none⟩), .int .i64 x.env, .string x.name, .bool x.fixed]) (by first | (simp only [List.map_toArray, List.map_cons, List.map_nil]; done) | (simp only [List.map_toArray, List.map_cons, List.map_nil]; rfl)) ((rLet hst x.env x.name x.fixed (fun sc hs => by have := hsm sc hs; omega)).mono ?_)
          rintro _ w ⟨rfl, hst2⟩
          clear hst
          have hst := hst2
          clear hst2
          refine ⟨_, rfl, hst.x, ?_⟩
          rw [hz]
          (try simp only [Act.put, List.setIfInBounds_toArray, List.set_cons_zero, List.set_cons_succ])
          (refine held_pure (i := 16) rfl (by kernel_rfl) (by kernel_rfl) (by kernel_rfl) rfl rfl (fun _ _ _ _ h => h) hst.x ?_; apply Exists.intro; refine ⟨?_, ?_⟩; focus (intro w hw; first | (go_simp; done) | (go_simp; rfl) | (go_simp; rw [if_pos (by omega)])); (try simp only [Act.put, List.setIfInBounds_toArray, List.set_cons_zero, List.set_cons_succ]))
          (try simp only [Act.put, List.setIfInBounds_toArray, List.set_cons_zero, List.set_cons_succ])
          refine wpAnyH_done (by kernel_rfl) ?_ _
          go_wp2
          exact roundEnd hlt hst (by rw [letS_len]; omega) (by have := mkS_len (letS σo 0 kO true).1 0; rw [letS_len] at this; omega) (letS_small hsm _ _ _)
      · obtain ⟨z, hz⟩ : ∃ z, (beginS σ x.env x.name x.v).2 = z := ⟨_, rfl⟩
        · refine st_start (C := fun w' => Own nobody w0 w' [(g8, .cells x.cs.toArray 31 (0, 0))]) 17 rfl hst (by kernel_rfl) ?_
          clear hst
          intro w hst
          (refine held_pure (i := 0) rfl (by kernel_rfl) (by kernel_rfl) (by kernel_rfl) rfl rfl (fun _ _ _ _ h => h) hst.x ?_; apply Exists.intro; refine ⟨?_, ?_⟩; focus (intro w hw; first | (go_simp; done) | (go_simp; rfl) | (go_simp; rw [if_pos (by omega)])); (try simp only [Act.put, List.setIfInBounds_toArray, List.set_cons_zero, List.set_cons_succ]))
          (try simp only [Act.put, List.setIfInBounds_toArray, List.set_cons_zero, List.set_cons_succ])
          (refine held_pure (i := 1) rfl (by kernel_rfl) (by kernel_rfl) (by kernel_rfl) rfl rfl (fun _ _ _ _ h => h) hst.x ?_; apply Exists.intro; refine ⟨?_, ?_⟩; focus (intro w hw; first | (go_simp; done) | (go_simp; rfl) | (go_simp; rw [if_pos (by omega)])); (try simp only [Act.put, List.setIfInBounds_toArray, List.set_cons_zero, List.set_cons_succ]))
          (try simp only [Act.put, List.setIfInBounds_toArray, List.set_cons_zero, List.set_cons_succ])
          (refine held_load1 2 rfl (by kernel_rfl) (by kernel_rfl) (by kernel_rfl) rfl rfl (fun _ _ _ _ h => h) hst.x 3 _ rfl g8 1 rfl 0 rfl Try.underlying3 rfl rfl ?_; (try simp only [Act.put, List.setIfInBounds_toArray, List.set_cons_zero, List.set_cons_succ]))
          (try simp only [Act.put, List.setIfInBounds_toArray, List.set_cons_zero, List.set_cons_succ])
          (refine held_pure (i := 3) rfl (by kernel_rfl) (by kernel_rfl) (by kernel_rfl) rfl rfl (fun _ _ _ _ h => h) hst.x ?_; apply Exists.intro; refine ⟨?_, ?_⟩; focus (intro w hw; first | (go_simp; done) | (go_simp; rfl) | (go_simp; rw [if_pos (by omega)])); (try simp only [Act.put, List.setIfInBounds_toArray, List.set_cons_zero, List.set_cons_succ]))
          (try simp only [Act.put, List.setIfInBounds_toArray, List.set_cons_zero, List.set_cons_succ])
          (refine held_load1 4 rfl (by kernel_rfl) (by kernel_rfl) (by kernel_rfl) rfl rfl (fun _ _ _ _ h => h) hst.x 9 _ rfl g8 2 rfl 0 rfl Try.underlying9 rfl rfl ?_; (try simp only [Act.put, List.setIfInBounds_toArray, List.set_cons_zero, List.set_cons_succ]))
          (try simp only [Act.put, List.setIfInBounds_toArray, List.set_cons_zero, List.set_cons_succ])
          (refine held_pure (i := 5) rfl (by kernel_rfl) (by kernel_rfl) (by kernel_rfl) rfl rfl (fun _ _ _ _ h => h) hst.x ?_; apply Exists.intro; refine ⟨?_, ?_⟩; focus (intro w hw; first | (go_simp; done) | (go_simp; rfl) | (go_simp; rw [if_pos (by omega)])); (try simp only [Act.put, List.setIfInBounds_toArray, List.set_cons_zero, List.set_cons_succ]))
          (try simp only [Act.put, List.setIfInBounds_toArray, List.set_cons_zero, List.set_cons_succ])
          (refine held_loadN (n := 3) 6 rfl (by kernel_rfl) (by kernel_rfl) (by kernel_rfl) rfl rfl (fun _ _ _ _ h => h) hst.x 29 _ rfl _ _ rfl 0 rfl Try.underlying29 rfl infoVa (Nat.le_of_ble_eq_true rfl) ?_; simp only [List.drop_succ_cons, List.drop_zero, List.take_succ_cons, List.take_zero]; (try simp only [Act.put, List.setIfInBounds_toArray, List.set_cons_zero, List.set_cons_succ]))
          (try simp only [Act.put, List.setIfInBounds_toArray, List.set_cons_zero, List.set_cons_succ])
          (refine held_pure (i := 8) rfl (by kernel_rfl) (by kernel_rfl) (by kernel_rfl) rfl rfl (fun _ _ _ _ h => h) hst.x ?_; apply Exists.intro; refine ⟨?_, ?_⟩; focus (intro w hw; first | (go_simp; done) | (go_simp; rfl) | (go_simp; rw [if_pos (by omega)])); (try simp only [Act.put, List.setIfInBounds_toArray, List.set_cons_zero, List.set_cons_succ]))
          (try simp only [Act.put, List.setIfInBounds_toArray, List.set_cons_zero, List.set_cons_succ])
          (refine held_pure (i := 9) rfl (by kernel_rfl) (by kernel_rfl) (by kernel_rfl) rfl rfl (fun _ _ _ _ h => h) hst.x ?_; apply Exists.intro; refine ⟨?_, ?_⟩; focus (intro w hw; first | (go_simp; done) | (go_simp; rfl) | (go_simp; rw [if_pos (by omega)])); (try simp only [Act.put, List.setIfInBounds_toArray, List.set_cons_zero, List.set_cons_succ]))
          (try simp only [Act.put, List.setIfInBounds_toArray, List.set_cons_zero, List.set_cons_succ])
          (refine held_load1 10 rfl (by kernel_rfl) (by kernel_rfl) (by kernel_rfl) rfl rfl (fun _ _ _ _ h => h) hst.x 3 _ rfl g8 1 rfl 0 rfl Try.underlying3 rfl rfl ?_; (try simp only [Act.put, List.setIfInBounds_toArray, List.set_cons_zero, List.set_cons_succ]))
          (try simp only [Act.put, List.setIfInBounds_toArray, List.set_cons_zero, List.set_cons_succ])
          (refine held_pure (i := 11) rfl (by kernel_rfl) (by kernel_rfl) (by kernel_rfl) rfl rfl (fun _ _ _ _ h => h) hst.x ?_; apply Exists.intro; refine ⟨?_, ?_⟩; focus (intro w hw; first | (go_simp; done) | (go_simp; rfl) | (go_simp; rw [if_pos (by omega)])); (try simp only [Act.put, List.setIfInBounds_toArray, List.set_cons_zero, List.set_cons_succ]))
          (try simp only [Act.put, List.setIfInBounds_toArray, List.set_cons_zero, List.set_cons_succ])
          (refine held_load1 12 rfl (by kernel_rfl) (by kernel_rfl) (by kernel_rfl) rfl rfl (fun _ _ _ _ h => h) hst.x 9 _ rfl g8 2 rfl 0 rfl Try.underlying9 rfl rfl ?_; (try simp only [Act.put, List.setIfInBounds_toArray, List.set_cons_zero, List.set_cons_succ]))
          (try simp only [Act.put, List.setIfInBounds_toArray, List.set_cons_zero, List.set_cons_succ])
          (refine held_pure (i := 13) rfl (by kernel_rfl) (by kernel_rfl) (by kernel_rfl) rfl rfl (fun _ _ _ _ h => h) hst.x ?_; apply Exists.intro; refine ⟨?_, ?_⟩; focus (intro w hw; first | (go_simp; done) | (go_simp; rfl) | (go_simp; rw [if_pos (by omega)])); (try simp only [Act.put, List.setIfInBounds_toArray, List.set_cons_zero, List.set_cons_succ]))
          (try simp only [Act.put, List.setIfInBounds_toArray, List.set_cons_zero, List.set_cons_succ])
          (refine held_loadN (n := 3) 14 rfl (by kernel_rfl) (by kernel_rfl) (by kernel_rfl) rfl rfl (fun _ _ _ _ h => h) hst.x 29 _ rfl _ _ rfl 0 rfl Try.underlying29 rfl infoVa (Nat.le_of_ble_eq_true rfl) ?_; simp only [List.drop_succ_cons, List.drop_zero, List.take_succ_cons, List.take_zero]; (try simp only [Act.put, List.setIfInBounds_toArray, List.set_cons_zero, List.set_cons_succ]))
          (try simp only [Act.put, List.setIfInBounds_toArray, List.set_cons_zero, List.set_cons_succ])
          refine held_one (i := 7) (by kernel_rfl) rfl rfl ?_
          refine op_callee 17 Try.func17 (by kernel_rfl) rfl rfl (args := #[.pointer (some ⟨gS, 0, none⟩), .int .i64 x.env, .string x.name, x.v.val]) (by first | (simp only [List.map_toArray, List.map_cons, List.map_nil]; done) | (simp only [List.map_toArray, List.map_cons, List.map_nil]; rfl)) ((sBegin hst x.env x.name x.v).mono ?_)
          rintro _ w ⟨rfl, hst2⟩
          clear hst
          have hst := hst2
          clear hst2
          refine ⟨_, rfl, hst.x, ?_⟩
          rw [hz]
          (try simp only [Act.put, List.setIfInBounds_toArray, List.set_cons_zero, List.set_cons_succ])
          refine held_one (i := 15) (by kernel_rfl) rfl rfl ?_
          refine op_callee 18 Try.func18 (by kernel_rfl) rfl rfl (args := #[.pointer (some ⟨gR, 0, none⟩), .int .i64 x.env, .string x.name, x.v.val]) (by first | (simp only [List.map_toArray, List.map_cons, List.map_nil]; done) | (simp only [List.map_toArray, List.map_cons, List.map_nil]; rfl)) ((rBegin hst x.env x.name x.v).mono ?_)
          rintro _ w ⟨rfl, hst2⟩
          clear hst
          have hst := hst2
          clear hst2
          refine ⟨_, rfl, hst.x, ?_⟩
          rw [hz]
          (try simp only [Act.put, List.setIfInBounds_toArray, List.set_cons_zero, List.set_cons_succ])
          (refine held_pure (i := 16) rfl (by kernel_rfl) (by kernel_rfl) (by kernel_rfl) rfl rfl (fun _ _ _ _ h => h) hst.x ?_; apply Exists.intro; refine ⟨?_, ?_⟩; focus (intro w hw; first | (go_simp; done) | (go_simp; rfl) | (go_simp; rw [if_pos (by omega)])); (try simp only [Act.put, List.setIfInBounds_toArray, List.set_cons_zero, List.set_cons_succ]))
          (try simp only [Act.put, List.setIfInBounds_toArray, List.set_cons_zero, List.set_cons_succ])
          refine wpAnyH_done (by kernel_rfl) ?_ _
          go_wp2
          exact roundEnd hlt hst (by rw [beginS_len]; omega) (by have := mkS_len (letS σo 0 kO true).1 0; rw [letS_len] at this; omega) (beginS_small hsm _ _ _)
      · exact roundEnd hlt hst (by omega) (by have := mkS_len (letS σo 0 kO true).1 0; rw [letS_len] at this; omega) (small_mono hsm)
      · exact absurd (veq_refl _) (by assumption)
      · obtain ⟨z, hz⟩ : ∃ z, (setS σ res x.v).2 = z := ⟨_, rfl⟩
        · refine st_start (C := fun w' => Own nobody w0 w' [(g8, .cells x.cs.toArray 31 (0, 0))]) 17 rfl hst (by kernel_rfl) ?_
          clear hst
          intro w hst
          (refine held_pure (i := 0) rfl (by kernel_rfl) (by kernel_rfl) (by kernel_rfl) rfl rfl (fun _ _ _ _ h => h) hst.x ?_; apply Exists.intro; refine ⟨?_, ?_⟩; focus (intro w hw; first | (go_simp; done) | (go_simp; rfl) | (go_simp; rw [if_pos (by omega)])); (try simp only [Act.put, List.setIfInBounds_toArray, List.set_cons_zero, List.set_cons_succ]))
          (try simp only [Act.put, List.setIfInBounds_toArray, List.set_cons_zero, List.set_cons_succ])
          (refine held_pure (i := 1) rfl (by kernel_rfl) (by kernel_rfl) (by kernel_rfl) rfl rfl (fun _ _ _ _ h => h) hst.x ?_; apply Exists.intro; refine ⟨?_, ?_⟩; focus (intro w hw; first | (go_simp; done) | (go_simp; rfl) | (go_simp; rw [if_pos (by omega)])); (try simp only [Act.put, List.setIfInBounds_toArray, List.set_cons_zero, List.set_cons_succ]))
          (try simp only [Act.put, List.setIfInBounds_toArray, List.set_cons_zero, List.set_cons_succ])
          (refine held_load1 2 rfl (by kernel_rfl) (by kernel_rfl) (by kernel_rfl) rfl rfl (fun _ _ _ _ h => h) hst.x 3 _ rfl g8 1 rfl 0 rfl Try.underlying3 rfl rfl ?_; (try simp only [Act.put, List.setIfInBounds_toArray, List.set_cons_zero, List.set_cons_succ]))
          (try simp only [Act.put, List.setIfInBounds_toArray, List.set_cons_zero, List.set_cons_succ])
          (refine held_pure (i := 3) rfl (by kernel_rfl) (by kernel_rfl) (by kernel_rfl) rfl rfl (fun _ _ _ _ h => h) hst.x ?_; apply Exists.intro; refine ⟨?_, ?_⟩; focus (intro w hw; first | (go_simp; done) | (go_simp; rfl) | (go_simp; rw [if_pos (by omega)])); (try simp only [Act.put, List.setIfInBounds_toArray, List.set_cons_zero, List.set_cons_succ]))
          (try simp only [Act.put, List.setIfInBounds_toArray, List.set_cons_zero, List.set_cons_succ])
          (refine held_load1 4 rfl (by kernel_rfl) (by kernel_rfl) (by kernel_rfl) rfl rfl (fun _ _ _ _ h => h) hst.x 9 _ rfl g8 2 rfl 0 rfl Try.underlying9 rfl rfl ?_; (try simp only [Act.put, List.setIfInBounds_toArray, List.set_cons_zero, List.set_cons_succ]))
          (try simp only [Act.put, List.setIfInBounds_toArray, List.set_cons_zero, List.set_cons_succ])
          (refine held_pure (i := 5) rfl (by kernel_rfl) (by kernel_rfl) (by kernel_rfl) rfl rfl (fun _ _ _ _ h => h) hst.x ?_; apply Exists.intro; refine ⟨?_, ?_⟩; focus (intro w hw; first | (go_simp; done) | (go_simp; rfl) | (go_simp; rw [if_pos (by omega)])); (try simp only [Act.put, List.setIfInBounds_toArray, List.set_cons_zero, List.set_cons_succ]))
          (try simp only [Act.put, List.setIfInBounds_toArray, List.set_cons_zero, List.set_cons_succ])
          (refine held_loadN (n := 3) 6 rfl (by kernel_rfl) (by kernel_rfl) (by kernel_rfl) rfl rfl (fun _ _ _ _ h => h) hst.x 29 _ rfl _ _ rfl 0 rfl Try.underlying29 rfl infoVa (Nat.le_of_ble_eq_true rfl) ?_; simp only [List.drop_succ_cons, List.drop_zero, List.take_succ_cons, List.take_zero]; (try simp only [Act.put, List.setIfInBounds_toArray, List.set_cons_zero, List.set_cons_succ]))
          (try simp only [Act.put, List.setIfInBounds_toArray, List.set_cons_zero, List.set_cons_succ])
          (refine held_pure (i := 8) rfl (by kernel_rfl) (by kernel_rfl) (by kernel_rfl) rfl rfl (fun _ _ _ _ h => h) hst.x ?_; apply Exists.intro; refine ⟨?_, ?_⟩; focus (intro w hw; first | (go_simp; done) | (go_simp; rfl) | (go_simp; rw [if_pos (by omega)])); (try simp only [Act.put, List.setIfInBounds_toArray, List.set_cons_zero, List.set_cons_succ]))
          (try simp only [Act.put, List.setIfInBounds_toArray, List.set_cons_zero, List.set_cons_succ])
          (refine held_pure (i := 9) rfl (by kernel_rfl) (by kernel_rfl) (by kernel_rfl) rfl rfl (fun _ _ _ _ h => h) hst.x ?_; apply Exists.intro; refine ⟨?_, ?_⟩; focus (intro w hw; first | (go_simp; done) | (go_simp; rfl) | (go_simp; rw [if_pos (by omega)])); (try simp only [Act.put, List.setIfInBounds_toArray, List.set_cons_zero, List.set_cons_succ]))
          (try simp only [Act.put, List.setIfInBounds_toArray, List.set_cons_zero, List.set_cons_succ])
          (refine held_load1 10 rfl (by kernel_rfl) (by kernel_rfl) (by kernel_rfl) rfl rfl (fun _ _ _ _ h => h) hst.x 3 _ rfl g8 1 rfl 0 rfl Try.underlying3 rfl rfl ?_; (try simp only [Act.put, List.setIfInBounds_toArray, List.set_cons_zero, List.set_cons_succ]))
          (try simp only [Act.put, List.setIfInBounds_toArray, List.set_cons_zero, List.set_cons_succ])
          (refine held_pure (i := 11) rfl (by kernel_rfl) (by kernel_rfl) (by kernel_rfl) rfl rfl (fun _ _ _ _ h => h) hst.x ?_; apply Exists.intro; refine ⟨?_, ?_⟩; focus (intro w hw; first | (go_simp; done) | (go_simp; rfl) | (go_simp; rw [if_pos (by omega)])); (try simp only [Act.put, List.setIfInBounds_toArray, List.set_cons_zero, List.set_cons_succ]))
          (try simp only [Act.put, List.setIfInBounds_toArray, List.set_cons_zero, List.set_cons_succ])
          (refine held_load1 12 rfl (by kernel_rfl) (by kernel_rfl) (by kernel_rfl) rfl rfl (fun _ _ _ _ h => h) hst.x 9 _ rfl g8 2 rfl 0 rfl Try.underlying9 rfl rfl ?_; (try simp only [Act.put, List.setIfInBounds_toArray, List.set_cons_zero, List.set_cons_succ]))
          (try simp only [Act.put, List.setIfInBounds_toArray, List.set_cons_zero, List.set_cons_succ])
          (refine held_pure (i := 13) rfl (by kernel_rfl) (by kernel_rfl) (by kernel_rfl) rfl rfl (fun _ _ _ _ h => h) hst.x ?_; apply Exists.intro; refine ⟨?_, ?_⟩; focus (intro w hw; first | (go_simp; done) | (go_simp; rfl) | (go_simp; rw [if_pos (by omega)])); (try simp only [Act.put, List.setIfInBounds_toArray, List.set_cons_zero, List.set_cons_succ]))
          (try simp only [Act.put, List.setIfInBounds_toArray, List.set_cons_zero, List.set_cons_succ])
          (refine held_loadN (n := 3) 14 rfl (by kernel_rfl) (by kernel_rfl) (by kernel_rfl) rfl rfl (fun _ _ _ _ h => h) hst.x 29 _ rfl _ _ rfl 0 rfl Try.underlying29 rfl infoVa (Nat.le_of_ble_eq_true rfl) ?_; simp only [List.drop_succ_cons, List.drop_zero, List.take_succ_cons, List.take_zero]; (try simp only [Act.put, List.setIfInBounds_toArray, List.set_cons_zero, List.set_cons_succ]))
          (try simp only [Act.put, List.setIfInBounds_toArray, List.set_cons_zero, List.set_cons_succ])
          refine held_one (i := 7) (by kernel_rfl) rfl rfl ?_
          refine op_callee 21 Try.func21 (by kernel_rfl) rfl rfl (args := #[.pointer (some ⟨gS, 0, none⟩), .int .i64 x.env, .string x.name, x.v.val]) (by first | (simp only [List.map_toArray, List.map_cons, List.map_nil]; done) | (simp only [List.map_toArray, List.map_cons, List.map_nil]; rfl)) ((sSet hst x.env x.name x.v hf).mono ?_)
          rintro _ w ⟨rfl, hst2⟩
          clear hst
          have hst := hst2
          clear hst2
          refine ⟨_, rfl, hst.x, ?_⟩
          rw [hz]
          (try simp only [Act.put, List.setIfInBounds_toArray, List.set_cons_zero, List.set_cons_succ])
          refine held_one (i := 15) (by kernel_rfl) rfl rfl ?_
          refine op_callee 22 Try.func22 (by kernel_rfl) rfl rfl (args := #[.pointer (some ⟨gR, 0, none⟩), .int .i64 x.env, .string x.name, x.v.val]) (by first | (simp only [List.map_toArray, List.map_cons, List.map_nil]; done) | (simp only [List.map_toArray, List.map_cons, List.map_nil]; rfl)) ((rSet hst x.env x.name x.v hf).mono ?_)
          rintro _ w ⟨rfl, hst2⟩
          clear hst
          have hst := hst2
          clear hst2
          refine ⟨_, rfl, hst.x, ?_⟩
          rw [hz]
          (try simp only [Act.put, List.setIfInBounds_toArray, List.set_cons_zero, List.set_cons_succ])
          (refine held_pure (i := 16) rfl (by kernel_rfl) (by kernel_rfl) (by kernel_rfl) rfl rfl (fun _ _ _ _ h => h) hst.x ?_; apply Exists.intro; refine ⟨?_, ?_⟩; focus (intro w hw; first | (go_simp; done) | (go_simp; rfl) | (go_simp; rw [if_pos (by omega)])); (try simp only [Act.put, List.setIfInBounds_toArray, List.set_cons_zero, List.set_cons_succ]))
          (try simp only [Act.put, List.setIfInBounds_toArray, List.set_cons_zero, List.set_cons_succ])
          refine wpAnyH_done (by kernel_rfl) ?_ _
          go_wp2
          exact roundEnd hlt hst (by rw [setS_len]; omega) (by have := mkS_len (letS σo 0 kO true).1 0; rw [letS_len] at this; omega) (setS_small hsm _ _)
      · exact roundEnd hlt hst (by omega) (by have := mkS_len (letS σo 0 kO true).1 0; rw [letS_len] at this; omega) (small_mono hsm)
    · go_wp2
      go_ret
      exact ⟨rfl, hst.below⟩
end Go.Proofs.Ytkckgjjhnjcffaa
