/-
  A symbolic run of Go functions by computation (part 13): regions that draw their order; code; calls; the theorem.
-/
import Derived.Test.YtkckgjjhnjcffaaSxC
namespace Go.Sx
set_option linter.unusedVariables false
set_option linter.unusedSimpArgs false

theorem rowsOk.down {E0 E : Env} (le : E0.Le E) {rows : T (List SV)} {nr es base : Nat} {cs0 cs : Array Value} (h0 : rowsOk E0 rows nr es base cs0) (h : rowsOk E rows nr es base cs) : rowsOk E0 rows nr es base cs := by
  intro r row hr
  obtain ⟨a1, a2, L0, a3, -⟩ := h0 r row hr
  obtain ⟨-, -, L, b3, b4⟩ := h r row hr
  rw [SV.monoL le a3] at b3
  cases b3
  exact ⟨a1, a2, L0, a3, b4⟩
theorem entsOk.down {E0 E : Env} (le : E0.Le E) : ∀ {l : List (SV × SV × Nat)} {m0 m : List MapEntry}, entsOk E0 l m0 → entsOk E l m → entsOk E0 l m
  | [], _, [], _, _ => trivial
  | [], _, _ :: _, _, h => h.elim
  | (_, _, _) :: _, [], _, h, _ => h.elim
  | (_, _, _) :: _, _ :: _, [], _, h => h.elim
  | (k, v, n) :: l, e0 :: m0, e :: m, h0, h => by
    obtain ⟨a1, a2, a3, a4⟩ := h0
    obtain ⟨b1, b2, b3, b4⟩ := h
    refine ⟨?_, ?_, b3, entsOk.down le a4 b4⟩
    · have := SV.mono le a1; rw [b1] at this; rw [a1]; exact this.symm
    · have := SV.mono le a2; rw [b2] at this; rw [a2]; exact this.symm
theorem entsOk.dens {E : Env} : ∀ {l : List (SV × SV × Nat)} {m : List MapEntry} {k v : SV}, entsOk E l m → (k, v) ∈ l.map pairOf → (∃ K, k.den E = some K) ∧ ∃ V, v.den E = some V
  | [], _, k, v, _, hm => by simp at hm
  | (_, _, _) :: _, [], k, v, h, _ => h.elim
  | (k', v', n) :: l, e :: m, k, v, h, hm => by
    simp only [List.map_cons, List.mem_cons, pairOf, Prod.mk.injEq] at hm
    rcases hm with ⟨rfl, rfl⟩ | hm
    · exact ⟨⟨_, h.1⟩, ⟨_, h.2.1⟩⟩
    · exact entsOk.dens h.2.2.2 hm
theorem entsOk.downP {E0 E : Env} (le : E0.Le E) : ∀ {l : List (SV × SV × Nat)} {m : List MapEntry}, (∀ k v, (k, v) ∈ l.map pairOf → (∃ K, k.den E0 = some K) ∧ ∃ V, v.den E0 = some V) → entsOk E l m → entsOk E0 l m
  | [], [], _, _ => trivial
  | [], _ :: _, _, h => h.elim
  | (_, _, _) :: _, [], _, h => h.elim
  | (k, v, n) :: l, e :: m, h0, h => by
    obtain ⟨b1, b2, b3, b4⟩ := h
    obtain ⟨⟨K, hK⟩, V, hV⟩ := h0 k v (by simp [pairOf])
    refine ⟨?_, ?_, b3, entsOk.downP le (fun k v hm => h0 k v (by simp at hm ⊢; exact .inr hm)) b4⟩
    · have := SV.mono le hK; rw [b1] at this; rw [hK]; exact this.symm
    · have := SV.mono le hV; rw [b2] at this; rw [hV]; exact this.symm
theorem ObjOk.down {E0 E : Env} (le : E0.Le E) {base n : Nat} {o : SObj} {O0 O : Option Obj} (h0 : ObjOk E0 base n o O0) (h : ObjOk E base n o O) : ObjOk E0 base n o O := by
  cases o with
  | dead => trivial
  | cells rows nr es ty opn ro =>
    obtain ⟨cs0, fr0, -, -, -, -, -, a6⟩ := h0
    obtain ⟨cs, fr, b1, b2, b3, b4, b5, b6⟩ := h
    exact ⟨cs, fr, b1, b2, b3, b4, b5, a6.down le b6⟩
  | map ents clock =>
    obtain ⟨es0, -, a2⟩ := h0
    obtain ⟨es, b1, b2⟩ := h
    exact ⟨es, b1, a2.down le b2⟩
  | miter m since seen stepped =>
    obtain ⟨-, x, y, z, -, a2⟩ := h0
    obtain ⟨h1, x', y', z', b1, b2⟩ := h
    have := le.blk _ _ a2
    rw [b2] at this
    cases this
    exact ⟨h1, x, y, z, b1, a2⟩
  | umap l =>
    obtain ⟨es0, c0, ents0, -, p0, a2⟩ := h0
    obtain ⟨es, c, ents, b1, p1, b2⟩ := h
    refine ⟨es, c, ents, b1, p1, entsOk.downP le (fun k v hm => ?_) b2⟩
    exact entsOk.dens a2 (p0.mem_iff.2 (p1.mem_iff.1 hm))
  | siter s pos =>
    obtain ⟨-, bs0, a1, -⟩ := h0
    obtain ⟨h1, bs, b1, b2⟩ := h
    have := SX.mono le a1
    rw [b1] at this
    cases this
    exact ⟨h1, bs0, a1, b2⟩
theorem Mem.mono {E F : Env} (le : E.Le F) {h : T SObj} {w : World} (M : Mem E h w) : Mem F h w := fun id o hid hl => by
  obtain ⟨b, base, n, h1, h2⟩ := M id o hid hl
  exact ⟨b, base, n, le.blk _ _ h1, h2.mono le⟩
theorem Mem.down {E0 E : Env} (le : E0.Le E) {hL h : T SObj} {wS w : World} (M0 : Mem E0 hL wS) (M : Mem E h w) (ha : ∀ id o, hL.get id = some o → h.get id = some o) : Mem E0 hL w := fun id o hid hl => by
  obtain ⟨b, base, n, h1, h2⟩ := M0 id o hid hl
  obtain ⟨b', base', n', h3, h4⟩ := M id o (ha id o hid) hl
  rw [le.blk _ _ h1] at h3
  cases h3
  exact ⟨b, base, n, h1, h2.down le h4⟩
/-! ### orders of a region: what an operation looks at must hold until it has come up -/
section
variable {P : Program} {ops : Array Oper} {Q : Exit → Act → World → Prop} {M : Nat → World → Prop}
/-- All that it waits for has come up. -/
def condAt (ops : Array Oper) (listed : Array Bool) (j : Nat) : Bool := ((ops[j]?).map (·.after.all fun e => !Region.binds .any e || listed.getD e.on false)).getD false
def Closed (ops : Array Oper) (listed : Array Bool) : Prop := ∀ j, listed.getD j false = true → condAt ops listed j = true
theorem anc_listed {listed : Array Bool} (hc : Closed ops listed) : ∀ {n j i : Nat}, condAt ops listed j = true → anc ops n j i = true → listed.getD i false = true := by
  intro n
  induction n with
  | zero => intro j i _ h; cases h
  | succ n ih =>
    intro j i hj h
    unfold anc at h
    unfold condAt at hj
    split at h
    · rename_i o ho
      rw [ho] at hj
      simp only [Option.map_some, Option.getD_some, Array.all_eq_true_iff_forall_mem] at hj
      obtain ⟨e, he, hb⟩ := Array.any_eq_true'.1 h
      rw [Bool.and_eq_true, Bool.or_eq_true] at hb
      have h1 := hj e he
      rw [hb.1] at h1
      simp only [Bool.not_true, Bool.false_or] at h1
      rcases hb.2 with h2 | h2
      · rw [← Nat.eq_of_beq_eq_true h2]; exact h1
      · exact ih (hc _ h1) h2
    · cases h
theorem cond_set {listed : Array Bool} {i j : Nat} (h : condAt ops listed j = true) : condAt ops (listed.setIfInBounds i true) j = true := by
  unfold condAt at h ⊢
  cases ho : ops[j]? with
  | none => rw [ho] at h; simp at h
  | some o =>
    rw [ho] at h
    simp only [Option.map_some, Option.getD_some, Array.all_eq_true_iff_forall_mem] at h ⊢
    intro e he
    have := h e he
    rw [Bool.or_eq_true] at this ⊢
    exact this.imp id getD_set_true
theorem Closed.set {listed : Array Bool} (hc : Closed ops listed) {i : Nat} (hi : condAt ops listed i = true) : Closed ops (listed.setIfInBounds i true) := by
  intro j hj
  by_cases e : i = j
  · subst e; exact cond_set hi
  · rw [getD_set_ne false e] at hj
    exact cond_set (hc j hj)
theorem cond_ready {listed : Array Bool} {i : Nat} (h : i ∈ Region.ready .any ops listed) : condAt ops listed i = true := by
  unfold Region.ready at h
  have := (List.mem_filter.1 h).2
  simp only [Bool.and_eq_true] at this
  exact this.2
def wpAnyG (P : Program) (ops : Array Oper) (Q : Exit → Act → World → Prop) (M : Nat → World → Prop) : Nat → Array Bool → (Nat → Prop) → Act → World → Prop
  | 0, listed, _, a, w => Region.ready .any ops listed = [] ∧ Q .normal a w
  | n + 1, listed, alive, a, w =>
    (Region.ready .any ops listed = [] → Q .normal a w) ∧
    ∀ i ∈ Region.ready .any ops listed, wpOp P ops Q i (fun a' w' => ∃ alive' : Nat → Prop, (∀ k, alive k → anc ops 4 i k = false → alive' k) ∧ (∀ k, alive' k → M k w') ∧ wpAnyG P ops Q M n (listed.setIfInBounds i true) alive' a' w') a w
theorem wpAny_of_G : ∀ (n : Nat) (listed : Array Bool) (alive : Nat → Prop) (a : Act) (w : World), wpAnyG P ops Q M n listed alive a w → wpAny P .any ops Q n listed a w
  | 0, _, _, _, _, h => h
  | n + 1, _, _, _, _, h => ⟨h.1, fun i hi => wpOp_mono (fun a' w' ⟨l, _, _, k⟩ => wpAny_of_G n _ l a' w' k) (h.2 i hi)⟩
theorem wpAnyG_all {n : Nat} {listed : Array Bool} {alive : Nat → Prop} {a : Act} {w : World} {rs : List Nat} (hr : Region.ready .any ops listed = rs) (hne : rs ≠ [])
    (h : ∀ i ∈ rs, wpOp P ops Q i (fun a' w' => ∃ alive' : Nat → Prop, (∀ k, alive k → anc ops 4 i k = false → alive' k) ∧ (∀ k, alive' k → M k w') ∧ wpAnyG P ops Q M n (listed.setIfInBounds i true) alive' a' w') a w) : wpAnyG P ops Q M (n + 1) listed alive a w := by
  subst hr
  exact ⟨fun e => absurd e hne, h⟩
theorem wpAnyG_done {listed : Array Bool} {alive : Nat → Prop} {a : Act} {w : World} (hr : Region.ready .any ops listed = []) (h : Q .normal a w) : ∀ n, wpAnyG P ops Q M n listed alive a w := by
  intro n
  cases n with
  | zero => exact ⟨hr, h⟩
  | succ n => exact ⟨fun _ => h, fun i hi => by rw [hr] at hi; cases hi⟩
/-- One that may come up now, and that looks at nothing that is changed before it comes up, may be taken first. -/
theorem wpAnyG_take {i : Nat} {oi : Oper} {v : Value} (hi : ops[i]? = some oi) (hsel : Region.noSelect ops = true) (hQ : ∀ c a w, Q (.panic c) (a.put oi.dst v) w → Q (.panic c) a w) :
    ∀ {n : Nat} {listed : Array Bool} {alive : Nat → Prop} {a : Act} {w : World}, Region.free .any ops listed i = true → i ∈ Region.ready .any ops listed → Closed ops listed → YieldsIf P ops (M i) oi v a → alive i → (∀ k, alive k → M k w) →
      wpAnyG P ops Q M n (listed.setIfInBounds i true) alive (a.put oi.dst v) w → wpAnyG P ops Q M (n + 1) listed alive a w := by
  intro n
  induction n with
  | zero =>
    intro listed alive a w _ hr _ hy hal hM H
    refine ⟨fun e => (by rw [e] at hr; cases hr), fun j hj => ?_⟩
    by_cases e : j = i
    · subst e; exact hy.wpOp hi (hM _ hal) ⟨alive, fun k hk _ => hk, hM, H⟩
    · have := ready_mono hj e
      rw [H.1] at this
      cases this
  | succ n ih =>
    intro listed alive a w hfree hr hc hy hal hM H
    refine ⟨fun e => (by rw [e] at hr; cases hr), fun j hj => ?_⟩
    by_cases e : j = i
    · subst e; exact hy.wpOp hi (hM _ hal) ⟨alive, fun k hk _ => hk, hM, H⟩
    · have hij := H.2 j (ready_mono hj e)
      obtain ⟨hjun, oj, hoj, hall⟩ := Go.mem_ready.1 hj
      have hiun : listed.getD i true = false := (Go.mem_ready.1 hr).1
      have hiun0 : listed.getD i false = false := by
        simp only [Array.getD_eq_getD_getElem?] at hiun ⊢
        cases hx : listed[i]? with
        | none => rfl
        | some b => rw [hx] at hiun; exact hiun
      have hnot : ∀ d ∈ oj.after, Region.binds .any d = true → d.on ≠ i := fun d hd hb heq => by
        have h1 := hall d hd hb
        rw [heq, hiun0] at h1
        cases h1
      have hanc : anc ops 4 j i = false := by
        rw [Bool.eq_false_iff]
        intro h
        have := anc_listed hc (cond_ready hj) h
        rw [hiun0] at this; cases this
      have hap := Region.free_spec hi hfree j oj hoj e hjun hnot
      have h2 := wpOp_putIf hoj hap (fun cs b => Region.noSelect_spec hsel i oi cs b hi) (fun cs b => Region.noSelect_spec hsel j oj cs b hoj) hQ hy hij
      have hset : ∀ k, (listed.setIfInBounds j true).getD k true = false → listed.getD k true = false := fun k hk => by
        by_cases ek : j = k
        · subst ek; exact hjun
        · rw [getD_set_ne true ek] at hk; exact hk
      have hfree' : Region.free .any ops (listed.setIfInBounds j true) i = true := by
        unfold Region.free at hfree ⊢
        rw [hi] at hfree ⊢
        simp only [List.all_eq_true] at hfree ⊢
        intro k hk
        have := hfree k hk
        simp only [Bool.or_eq_true] at this ⊢
        rcases this with (h | h) | h
        · exact .inl (.inl h)
        · refine .inl (.inr ?_)
          cases hx : (listed.setIfInBounds j true).getD k true with
          | true => rfl
          | false => rw [hset k hx] at h; cases h
        · exact .inr h
      refine wpOp_mono (fun a' w' h3 => ?_) h2
      obtain ⟨k1, alive', k2, k3, k4⟩ := h3
      rw [Array.setIfInBounds_comm _ _ (Ne.symm e)] at k4
      exact ⟨alive', k2, k3, ih hfree' (ready_mono hr (Ne.symm e)) (hc.set (cond_ready hj)) k1 (k2 i hal hanc) k3 k4⟩
end
theorem agree_ok {h : T SObj} : ∀ {l : List (Nat × SObj)} {id : Nat} {o : SObj}, agree h l = true → (id, o) ∈ l → h.get id = some o
  | (i, x) :: l, id, o, ha, hm => by
    simp only [agree, Bool.and_eq_true] at ha
    rcases List.mem_cons.1 hm with e | e
    · cases e
      have h1 := ha.1
      split at h1
      · rename_i o' ho'
        rw [SObj.beq_eq _ _ h1]; exact ho'
      · cases h1
    · exact agree_ok ha.2 e
section
variable {P : Program} {w0 w : World} {E : Env} {s : St} {a : SAct} {A : Act} {F : Fs}
theorem takeStep_ok {h : T SObj} {ops : Array Oper} (hA : ActRel E a A) (ha : AsmOk E s.asm) {o : Oper} {outs : List (SAct × St)} (e : takeStep P h ops a s o = some outs) {S : World → Prop} (hS : ∀ w, S w → Mem E h w) (hw : S w) :
    ∃ a' asm' V, (a', { s with asm := asm' }) ∈ outs ∧ AsmOk E asm' ∧ ActRel E a' (A.put o.dst V) ∧ YieldsIf P ops S o V A := by
  unfold takeStep at e
  split at e
  · rename_i g hg
    obtain ⟨z, h1, h2⟩ := guardOn_ok hA hg
    obtain ⟨asm1, h3, h4⟩ := ways_ok ha h1
    obtain ⟨ys, h5, h6⟩ := bindL_mem e h3
    cases z with
    | true =>
      simp only at h5
      split at h5
      · rename_i o1 ho1
        obtain ⟨v, asm', V, k1, k2, k3, k4⟩ := xTake_ok h4 hA ho1 hS hw
        have hm : (v, { s with asm := asm' }) ∈ withAsm s o1 := List.mem_map.2 ⟨_, k1, rfl⟩
        obtain ⟨a', p1, p2⟩ := putAll_mem h5 hm
        exact ⟨a', asm', V, h6 _ p2, k2, put_ok hA p1 k3, .inl ⟨h2, k4⟩⟩
      · cases h5
    | false =>
      obtain ⟨a', p1, p2⟩ := putAll_mem h5 (List.mem_singleton.2 rfl)
      exact ⟨a', asm1, undef, h6 _ p2, h4, put_ok hA p1 (skipV_den E), .inr ⟨h2, rfl⟩⟩
  · cases e
theorem varAt_ok (R : Rel w0 E s w) (hA : ActRel E a A) {id : Nat} (hid : id ∈ s.resv) {o : Oper} {outs : List (SV × St)} (h : varAt P a s o id = some outs) : EffOk P w0 E A o w outs := by
  have key : ∀ (cs : List SV) (L : List Value) (t : TypeId), SV.denL E cs = some L → (execOp A.eval o).run P w = .ok (.value (.pointer (some ⟨w.heap.size, 0, none⟩))) (w.alloc (.cells L.toArray t (0, 0))) →
      outs = [(.ptr id 0, { s with h := s.h.put id (.cells (.node .nil (some cs) .nil) 1 cs.length t false false), resv := s.resv.filter fun j => !Nat.beq j id })] → EffOk P w0 E A o w outs := by
    intro cs L t hL hrun ho
    have le := E.le_add (R.rsv id hid).2 w.heap.size 0 cs.length
    refine ⟨.ptr id 0, _, _, .pointer (some ⟨w.heap.size, 0, none⟩), _, by rw [ho]; exact List.mem_singleton.2 rfl, le, R.allocAt hid (.cells L.toArray t (0, 0)) cs.length (so := .cells (.node .nil (some cs) .nil) 1 cs.length t false false) ⟨L.toArray, (0, 0), rfl, fun _ => rfl, by simp [denL_length hL], by omega, fun _ => ⟨rfl, by omega⟩, ?_⟩, by simp [SV.den, Env.add_new], .inl hrun⟩
    intro r row hr
    rw [T.get_single] at hr
    split at hr
    · rename_i e
      subst e
      cases hr
      exact ⟨by omega, rfl, L, SV.monoL le hL, fun j V hj => by simpa using hj⟩
    · cases hr
  unfold varAt at h
  split at h
  · rename_i t ho
    split at h
    · rename_i z hz
      cases h
      obtain ⟨Z, z1, z2⟩ := run_zero hz (P := P) (E := E)
      obtain ⟨L, l1, l2⟩ := cellsOf_ok z1
      refine key _ L t l1 ?_ rfl
      simp only [execOp, ho, Instr.alloc, Sem.run_bind, z2, Result.andThen_ok, Go.newVar, newRow, run_newObj, Sem.run_pure, l2]
      rfl
    · cases h
  · rename_i t x ho
    split at h
    · rename_i v hv
      cases h
      obtain ⟨L, l1, l2⟩ := cellsOf_ok (ev_ok hA hv)
      refine key _ L t l1 ?_ rfl
      simp only [execOp, ho, Instr.box, Sem.run_bind, Go.newVar, newRow, run_newObj, Result.andThen_ok, Sem.run_pure, l2]
      rfl
    · cases h
  · cases h
theorem stepAt_ok (hF : FsOk P F) {ops : Array Oper} (hA : ActRel E a A) (R : Rel w0 E s w) {o : Oper} {id : Option Nat} {outs : List (SAct × St)} (h : stepAt P F ops a s o id = some outs) {K : Act → World → Prop} {Q : Exit → Act → World → Prop}
    (hK : ∀ a' s' E' A' w', (a', s') ∈ outs → E.Le E' → ActRel E' a' A' → Rel w0 E' s' w' → K A' w') : if Region.wanted o (yielded ops A.tmps) then o.wp P A w K Q else K (A.put o.dst undef) w := by
  unfold stepAt at h
  split at h
  · exact opStep_ok hF hA R h hK
  · rename_i id
    split at h
    · rename_i g hr hg
      have hid : id ∈ s.resv := by simpa using hr
      obtain ⟨z, h1, h2⟩ := guardOn_ok hA hg
      obtain ⟨asm1, h3, h4⟩ := ways_ok R.asm h1
      obtain ⟨ys, h5, h6⟩ := bindL_mem h h3
      rw [h2]
      cases z with
      | true =>
        rw [if_pos rfl]
        simp only at h5
        split at h5
        · rename_i o1 ho1
          obtain ⟨v, s', E', V, w', q1, q2, q3, q4, q5⟩ := varAt_ok (R.setAsm h4) hA hid ho1
          obtain ⟨a', p1, p2⟩ := putAll_mem h5 q1
          have hk := hK _ _ E' _ _ (h6 _ p2) q2 (put_ok (hA.mono q2) p1 q4) q3
          unfold Oper.wp
          rcases q5 with q5 | ⟨q5, rfl⟩
          · rw [q5, Oper.upon_value]; exact hk
          · rw [q5, Oper.upon_skip]; exact hk
        · cases h5
      | false =>
        rw [if_neg (by simp)]
        obtain ⟨a', p1, p2⟩ := putAll_mem h5 (List.mem_singleton.2 rfl)
        exact hK _ _ E _ _ (h6 _ p2) (.refl E) (put_ok hA p1 (skipV_den E)) (R.setAsm h4)
    · cases h
theorem bitsOf_bit : ∀ {l : List Nat} {k : Nat}, (bitsOf l).testBit k = decide (k ∈ l)
  | [], k => by simp [bitsOf]
  | t :: l, k => by
    show (2 ^ t ||| bitsOf l).testBit k = _
    rw [Nat.testBit_or, Nat.testBit_two_pow, bitsOf_bit, Bool.eq_iff_iff, Bool.or_eq_true, decide_eq_true_iff, decide_eq_true_iff, decide_eq_true_iff, List.mem_cons]
    exact or_congr_left ⟨Eq.symm, Eq.symm⟩
theorem within_iff {x y : Nat} : within x y = true ↔ ∀ k, x.testBit k = true → y.testBit k = true := by
  unfold within
  rw [Nat.beq_eq]
  show y &&& x = x ↔ _
  constructor
  · intro h k hk
    rw [← h, Nat.testBit_and, Bool.and_eq_true] at hk
    exact hk.1
  · intro h
    apply Nat.eq_of_testBit_eq
    intro k
    rw [Nat.testBit_and]
    cases hx : x.testBit k with
    | false => simp
    | true => simp [h k hx]
theorem meets_false {x y : Nat} : meets x y = false ↔ ∀ k, x.testBit k = true → y.testBit k = false := by
  have key : (x &&& y = 0) ↔ ∀ k, x.testBit k = true → y.testBit k = false := by
    constructor
    · intro h k hk
      have := congrArg (fun n => n.testBit k) h
      simp only [Nat.testBit_and, hk, Bool.true_and, Nat.zero_testBit] at this
      exact this
    · intro h
      apply Nat.eq_of_testBit_eq
      intro k
      rw [Nat.testBit_and, Nat.zero_testBit]
      cases hx : x.testBit k with
      | false => rfl
      | true => simp [h k hx]
  rw [← key]
  unfold meets
  split
  · rename_i h
    have : x &&& y = 0 := Nat.eq_of_beq_eq_true h
    simp [this]
  · rename_i h
    have : ¬ (x &&& y = 0) := Nat.ne_of_beq_eq_false h
    simp [this]
theorem meets_true {x y : Nat} : meets x y = true ↔ ∃ k, x.testBit k = true ∧ y.testBit k = true := by
  constructor
  · intro h
    apply Classical.byContradiction
    intro hn
    have : meets x y = false := meets_false.2 fun k hk => by
      cases hy : y.testBit k with
      | false => rfl
      | true => exact absurd ⟨k, hk, hy⟩ hn
    rw [h] at this; cases this
  · rintro ⟨k, h1, h2⟩
    cases hm : meets x y with
    | true => rfl
    | false => rw [meets_false.1 hm k h1] at h2; cases h2
theorem meets_bit {m i : Nat} : meets m (Nat.pow 2 i) = m.testBit i := by
  show meets m (2 ^ i) = _
  rw [Bool.eq_iff_iff, meets_true]
  constructor
  · rintro ⟨k, h1, h2⟩
    rw [Nat.testBit_two_pow] at h2
    have := of_decide_eq_true h2
    subst this; exact h1
  · intro h
    exact ⟨i, h, by simp [Nat.testBit_two_pow]⟩
theorem bit_meets {m i : Nat} : meets (Nat.pow 2 i) m = m.testBit i := by
  show meets (2 ^ i) m = _
  rw [Bool.eq_iff_iff, meets_true]
  constructor
  · rintro ⟨k, h1, h2⟩
    rw [Nat.testBit_two_pow] at h1
    have := of_decide_eq_true h1
    subst this; exact h2
  · intro h
    exact ⟨i, by simp [Nat.testBit_two_pow], h⟩
/-- The bits tell what has come up. -/
structure RepM (ops : Array Oper) (listed : Array Bool) (m : Nat) : Prop where
  size : listed.size = ops.size
  bit : ∀ k, m.testBit k = listed.getD k false
theorem RepM.unl {ops : Array Oper} {listed : Array Bool} {m k : Nat} (h : RepM ops listed m) (hk : k < ops.size) : listed.getD k true = m.testBit k := by
  rw [h.bit]
  have : k < listed.size := by rw [h.size]; exact hk
  simp [this]
theorem RepM.set {ops : Array Oper} {listed : Array Bool} {m i : Nat} (h : RepM ops listed m) (hi : i < ops.size) : RepM ops (listed.setIfInBounds i true) (Nat.lor m (Nat.pow 2 i)) := by
  refine ⟨by simpa using h.size, fun k => ?_⟩
  show (m ||| 2 ^ i).testBit k = _
  rw [Nat.testBit_or, Nat.testBit_two_pow, h.bit]
  by_cases e : i = k
  · subst e
    have : i < listed.size := by rw [h.size]; exact hi
    simp [this]
  · rw [getD_set_ne false e]
    simp [e]
theorem mem_needL {o : Oper} {k : Nat} : k ∈ needL o ↔ ∃ e ∈ o.after, Region.binds .any e = true ∧ e.on = k := by
  unfold needL
  rw [List.mem_filterMap]
  constructor
  · rintro ⟨e, he, hk⟩
    split at hk
    · rename_i hb
      cases hk
      exact ⟨e, by simpa using he, hb, rfl⟩
    · cases hk
  · rintro ⟨e, he, hb, rfl⟩
    exact ⟨e, by simpa using he, by rw [hb]⟩
theorem need_cond {ops : Array Oper} {listed : Array Bool} {m : Nat} (R : RepM ops listed m) {o : Oper} {j : Nat} (hj : ops[j]? = some o) : within (bitsOf (needL o)) m = condAt ops listed j := by
  rw [Bool.eq_iff_iff, within_iff]
  unfold condAt
  rw [hj]
  simp only [Option.map_some, Option.getD_some, Array.all_eq_true_iff_forall_mem, Bool.or_eq_true, Bool.not_eq_true']
  constructor
  · intro h e he
    cases hb : Region.binds .any e with
    | false => exact .inl rfl
    | true =>
      right
      rw [← R.bit]
      exact h e.on (by rw [bitsOf_bit]; exact decide_eq_true (mem_needL.2 ⟨e, he, hb, rfl⟩))
  · intro h k hk
    rw [bitsOf_bit] at hk
    obtain ⟨e, he, hb, rfl⟩ := mem_needL.1 (of_decide_eq_true hk)
    rw [R.bit]
    rcases h e he with h | h
    · rw [hb] at h; cases h
    · exact h
theorem mem_rowsM {ops : Array Oper} : ∀ {l : List Oper} {n : Nat} {r : RowM}, r ∈ rowsM ops n l ↔ ∃ k o, l[k]? = some o ∧ r = rowAt ops (n + k) o
  | [], n, r => by simp [rowsM]
  | o :: l, n, r => by
    simp only [rowsM, List.mem_cons, mem_rowsM (l := l)]
    constructor
    · rintro (rfl | ⟨k, o', h1, rfl⟩)
      · exact ⟨0, o, rfl, rfl⟩
      · exact ⟨k + 1, o', by simpa using h1, by rw [Nat.add_assoc, Nat.add_comm 1 k]⟩
    · rintro ⟨k, o', h1, rfl⟩
      cases k with
      | zero => simp at h1; subst h1; exact .inl rfl
      | succ k => exact .inr ⟨k, o', by simpa using h1, by rw [Nat.add_assoc, Nat.add_comm 1 k]⟩
theorem mem_rows {ops : Array Oper} {r : RowM} : r ∈ rowsM ops 0 ops.toList ↔ ∃ o, ops[r.i]? = some o ∧ r = rowAt ops r.i o := by
  rw [mem_rowsM]
  constructor
  · rintro ⟨k, o, h1, rfl⟩
    refine ⟨o, ?_, ?_⟩
    · simpa [rowAt] using h1
    · simp [rowAt]
  · rintro ⟨o, h1, h2⟩
    exact ⟨r.i, o, by simpa using h1, by rw [Nat.zero_add]; exact h2⟩
theorem readyM_sub {m : Nat} : ∀ {l : List RowM} {r : RowM}, r ∈ readyM m l → r ∈ l
  | [], r, h => by cases h
  | x :: l, r, h => by
    simp only [readyM] at h
    split at h
    · exact List.mem_cons_of_mem _ (readyM_sub h)
    · split at h
      · rcases List.mem_cons.1 h with rfl | h
        · exact List.mem_cons_self
        · exact List.mem_cons_of_mem _ (readyM_sub h)
      · exact List.mem_cons_of_mem _ (readyM_sub h)
theorem readyM_eq {ops : Array Oper} {listed : Array Bool} {m : Nat} (R : RepM ops listed m) : ∀ {l : List Oper} {n : Nat}, (∀ k, l[k]? = ops[n + k]?) → (readyM m (rowsM ops n l)).map (·.i) = (List.range' n l.length).filter fun j => !listed.getD j true && condAt ops listed j
  | [], n, _ => by simp [rowsM, readyM]
  | o :: l, n, h => by
    have ho : ops[n]? = some o := by have := h 0; simpa using this.symm
    have hlt : n < ops.size := (Array.getElem?_eq_some_iff.1 ho).1
    have ih := readyM_eq R (l := l) (n := n + 1) fun k => by
      have := h (k + 1)
      rw [List.getElem?_cons_succ] at this
      rw [this]; congr 1; omega
    have hb : meets m (rowAt ops n o).bit = listed.getD n true := by rw [R.unl hlt]; exact meets_bit
    have hc : within (rowAt ops n o).need m = condAt ops listed n := need_cond R ho
    simp only [rowsM, readyM, hb, hc, List.length_cons, List.range'_succ, List.filter_cons]
    cases h1 : listed.getD n true with
    | true => simpa using ih
    | false =>
      cases h2 : condAt ops listed n with
      | true => simp [ih, rowAt]
      | false => simpa using ih
theorem ready_eq {ops : Array Oper} {listed : Array Bool} {m : Nat} (R : RepM ops listed m) : Region.ready .any ops listed = (readyM m (rowsM ops 0 ops.toList)).map (·.i) := by
  rw [readyM_eq R (fun k => by simp)]
  unfold Region.ready condAt
  rw [List.range_eq_range']
  simp
theorem blockM_mem {x y : RowM} : ∀ {l : List RowM}, y ∈ l → y.bit = Nat.pow 2 y.i → (Nat.beq x.i y.i || (meets y.need x.bit || (!meets x.put y.sees && (!meets x.put y.put && !meets y.put x.sees)))) = false → (blockM x l).testBit y.i = true
  | z :: l, hm, hb, hc => by
    simp only [blockM]
    rcases List.mem_cons.1 hm with e | hm
    · subst e
      rw [hc]
      show (y.bit ||| blockM x l).testBit y.i = true
      rw [hb, Nat.testBit_or]
      show ((2 ^ y.i).testBit y.i || _) = true
      simp [Nat.testBit_two_pow]
    · have ih := blockM_mem hm hb hc
      split
      · exact ih
      · show (z.bit ||| blockM x l).testBit y.i = true
        rw [Nat.testBit_or, ih, Bool.or_true]
theorem dstBits_sees {o : Oper} {l : List Nat} (h : meets (dstBits o) (bitsOf l) = false) : ∀ d, o.dst = some d → d ∉ l := by
  intro d hd hm
  have := meets_false.1 h d (by simp only [dstBits, hd]; show (2 ^ d).testBit d = true; simp [Nat.testBit_two_pow])
  rw [bitsOf_bit] at this
  exact of_decide_eq_false this hm
theorem freeM_ok {ops : Array Oper} {listed : Array Bool} {m : Nat} (R : RepM ops listed m) {x : RowM} (hx : x ∈ rowsM ops 0 ops.toList) (h : freeM (rowsM ops 0 ops.toList) x m = true) : Region.free .any ops listed x.i = true := by
  obtain ⟨ox, hox, ex⟩ := mem_rows.1 hx
  unfold Region.free
  rw [hox]
  simp only [List.all_eq_true, List.mem_range]
  intro j hj
  have hoj : ops[j]? = some ops[j] := Array.getElem?_eq_getElem hj
  have hy : rowAt ops j ops[j] ∈ rowsM ops 0 ops.toList := mem_rows.2 ⟨ops[j], hoj, rfl⟩
  cases hc : (Nat.beq x.i (rowAt ops j ops[j]).i || (meets (rowAt ops j ops[j]).need x.bit || (!meets x.put (rowAt ops j ops[j]).sees && (!meets x.put (rowAt ops j ops[j]).put && !meets (rowAt ops j ops[j]).put x.sees)))) with
  | false =>
    have := within_iff.1 h j (blockM_mem (x := x) hy rfl hc)
    rw [← R.unl hj] at this
    rw [this]; simp
  | true =>
    rw [Bool.or_eq_true, Bool.or_eq_true, Bool.and_eq_true, Bool.and_eq_true] at hc
    rw [hoj]
    simp only [Bool.or_eq_true]
    rcases hc with hc | hc | ⟨h1, h2, h3⟩
    · have := Nat.eq_of_beq_eq_true hc
      left; left
      simp only [rowAt] at this
      simp [this]
    · right; left
      rw [ex] at hc
      simp only [rowAt, meets_bit, bitsOf_bit] at hc
      obtain ⟨e, he, hb, hon⟩ := mem_needL.1 (of_decide_eq_true hc)
      exact Array.any_eq_true'.2 ⟨e, he, by simp [hb, hon]⟩
    · right; right
      rw [ex] at h1 h2 h3
      simp only [rowAt, Bool.not_eq_true'] at h1 h2 h3
      have k1 := dstBits_sees h1
      have k3 := dstBits_sees h3
      unfold Oper.apart
      rw [Bool.and_eq_true]
      constructor
      · cases hd : ox.dst with
        | none => rfl
        | some d =>
          simp only [Bool.and_eq_true, Bool.not_eq_true', bne_iff_ne, ne_eq]
          refine ⟨?_, fun e => ?_⟩
          · have := k1 d hd
            simpa using this
          · have := meets_false.1 h2 d (by simp only [dstBits, hd]; show (2 ^ d).testBit d = true; simp [Nat.testBit_two_pow])
            simp only [dstBits, e] at this
            have t : (Nat.pow 2 d).testBit d = true := by show (2 ^ d).testBit d = true; simp [Nat.testBit_two_pow]
            rw [t] at this; cases this
      · cases hd : ops[j].dst with
        | none => rfl
        | some d =>
          have := k3 d hd
          simpa using this
theorem noSelectM_ok {ops : Array Oper} : ∀ {l : List Oper} {n : Nat}, noSelectM (rowsM ops n l) = true → ∀ o ∈ l, (match o.op with | .select .. => false | _ => true) = true
  | [], n, h, o', hm => by cases hm
  | o :: l, n, h, o', hm => by
    simp only [rowsM, noSelectM, rowAt] at h
    split at h
    · cases h
    · rename_i hno
      rcases List.mem_cons.1 hm with rfl | hm
      · split
        · rename_i e; exact (hno _ _ e).elim
        · rfl
      · exact noSelectM_ok h o' hm
theorem takeOne_ok {h : Nat → T SObj} {al : Nat → Bool} {ops : Array Oper} {rows : List RowM} {m : Nat} : ∀ {l : List RowM} {x : RowM} {outs : List (SAct × St)}, takeOne P h al ops rows m a s l = some (x, outs) →
    x ∈ l ∧ al x.i = true ∧ freeM rows x m = true ∧ takeStep P (h x.i) ops a s x.o = some outs
  | [], x, outs, e => by cases e
  | r :: l, x, outs, e => by
    have up : takeOne P h al ops rows m a s l = some (x, outs) → x ∈ r :: l ∧ al x.i = true ∧ freeM rows x m = true ∧ takeStep P (h x.i) ops a s x.o = some outs := fun e => by
      obtain ⟨h1, h2⟩ := takeOne_ok e
      exact ⟨List.mem_cons_of_mem _ h1, h2⟩
    unfold takeOne at e
    split at e
    · rename_i hc
      simp only [Bool.and_eq_true] at hc
      split at e
      · rename_i o1 ho1
        cases e
        exact ⟨List.mem_cons_self, hc.2.1, hc.2.2, ho1⟩
      · exact up e
    · exact up e
theorem newKey_iff {t : TypeId} {k : SV} {l : List (SV × SV)} : newKey P t k l = true ↔ ∃ kt et, P.underlying t = some (.map kt et) ∧ keyOk P 5 kt k = true ∧ ∀ e ∈ l, eqv P 30 kt k e.1 = some (.lit false) := by
  have key : ∀ (c : Option BX), isLit c = true → isYes c = false → c = some (.lit false) := by
    intro c h1 h2
    cases c with
    | none => cases h1
    | some c => cases c <;> simp_all [isLit, isYes]
  constructor
  · intro h
    unfold newKey at h
    split at h
    · rename_i kt et hu
      split at h
      · rename_i hk
        unfold ukey at hk
        split at hk
        · rename_i hc
          simp only [Bool.and_eq_true, litAll, List.all_eq_true] at hc
          refine ⟨kt, et, hu, hc.1, fun e he => key _ (hc.2 e he) ?_⟩
          split at hk
          · rename_i hh
            simp only [hits, List.filter_eq_nil_iff] at hh
            simpa using hh e he
          · cases hk
          · cases hk
        · cases hk
      · cases h
    · cases h
  · rintro ⟨kt, et, hu, hk, hl⟩
    have h1 : litAll (eqv P 30 kt) k l = true := by
      simp only [litAll, List.all_eq_true]
      intro e he; rw [hl e he]; rfl
    have h2 : hits (eqv P 30 kt) k l = [] := by
      simp only [hits, List.filter_eq_nil_iff]
      intro e he; rw [hl e he]; simp [isYes]
    simp [newKey, hu, ukey, hk, h1, h2]
theorem newKeyF_ok {kt : TypeId} {k : SV} : ∀ {l : List (SV × SV)}, newKeyF P kt k l = true → ∀ e ∈ l, eqv P 30 kt k e.1 = some (.lit false)
  | x :: l, h, e, he => by
    simp only [newKeyF] at h
    split at h
    · rename_i hx
      rcases List.mem_cons.1 he with rfl | he
      · exact hx
      · exact newKeyF_ok h e he
    · cases h
theorem newAll_ok {t : Nat} {base : List (SV × SV)} {kv : List (Nat × SV × SV)} (h : newAll P t base kv = true) : ∀ p ∈ kv, newKey P t p.2.1 base = true ∧ ∀ q ∈ kv, p.1 = q.1 ∨ newKey P t p.2.1 [q.2] = true := by
  unfold newAll at h
  split at h
  · rename_i kt et hu
    simp only [List.all_eq_true, Bool.and_eq_true, Bool.or_eq_true] at h
    intro p hp
    obtain ⟨h1, h2, h3⟩ := h p hp
    refine ⟨newKey_iff.2 ⟨kt, et, hu, h1, newKeyF_ok h2⟩, fun q hq => ?_⟩
    exact (h3 q hq).imp Nat.eq_of_beq_eq_true fun h => newKey_iff.2 ⟨kt, et, hu, h1, newKeyF_ok h⟩
  · cases h
theorem insListM_ok {a : SAct} {t id : Nat} : ∀ {l : List RowM} {kv : List (Nat × SV × SV)}, insListM a t id l = some kv → kv.map (·.1) = l.map (·.i) ∧ ∀ p ∈ kv, ∃ r ∈ l, r.i = p.1 ∧ insOf a r.o = some (t, id, p.2.1, p.2.2)
  | [], kv, h => by simp only [insListM, Option.some.injEq] at h; subst h; simp
  | r :: l, kv, h => by
    simp only [insListM] at h
    split at h
    · rename_i t' id' k x m h1 h2
      split at h
      · rename_i hb
        cases h
        simp only [Bool.and_eq_true] at hb
        have e1 := Nat.eq_of_beq_eq_true hb.1
        have e2 := Nat.eq_of_beq_eq_true hb.2
        subst e1; subst e2
        obtain ⟨h3, h4⟩ := insListM_ok h2
        refine ⟨by simp [h3], fun p hp => ?_⟩
        rcases List.mem_cons.1 hp with rfl | hp
        · exact ⟨r, List.mem_cons_self, rfl, h1⟩
        · obtain ⟨r', h5, h6⟩ := h4 p hp
          exact ⟨r', List.mem_cons_of_mem _ h5, h6⟩
      · cases h
    · cases h
theorem maskM_bit {ops : Array Oper} : ∀ {l : List RowM}, (∀ r ∈ l, r.bit = Nat.pow 2 r.i) → ∀ k, (maskM l).testBit k = decide (k ∈ l.map (·.i))
  | [], _, k => by simp [maskM]
  | r :: l, h, k => by
    show (r.bit ||| maskM l).testBit k = _
    rw [Nat.testBit_or, maskM_bit (ops := ops) (fun r hr => h r (List.mem_cons_of_mem _ hr)), h r List.mem_cons_self]
    show ((2 ^ r.i).testBit k || _) = _
    rw [Nat.testBit_two_pow, Bool.eq_iff_iff, Bool.or_eq_true, decide_eq_true_iff, decide_eq_true_iff, decide_eq_true_iff, List.map_cons, List.mem_cons]
    exact or_congr_left ⟨Eq.symm, Eq.symm⟩
theorem leftM_bit {m rm : Nat} : ∀ {l : List RowM}, (∀ r ∈ l, r.bit = Nat.pow 2 r.i) → ∀ k, (leftM m rm l).testBit k = true → ∃ r ∈ l, r.i = k ∧ m.testBit k = false ∧ rm.testBit k = false
  | [], _, k, h => by simp [leftM] at h
  | r :: l, hb, k, h => by
    have hr := hb r List.mem_cons_self
    have up : (leftM m rm l).testBit k = true → ∃ r' ∈ r :: l, r'.i = k ∧ m.testBit k = false ∧ rm.testBit k = false := fun h => by
      obtain ⟨r', h1, h2⟩ := leftM_bit (fun r hr => hb r (List.mem_cons_of_mem _ hr)) k h
      exact ⟨r', List.mem_cons_of_mem _ h1, h2⟩
    simp only [leftM] at h
    split at h
    · exact up h
    · rename_i hc
      simp only [hr, meets_bit, Bool.or_eq_false_iff] at hc
      replace h : (r.bit ||| leftM m rm l).testBit k = true := h
      rw [Nat.testBit_or, Bool.or_eq_true] at h
      rcases h with h | h
      · rw [hr] at h
        replace h : (2 ^ r.i).testBit k = true := h
        rw [Nat.testBit_two_pow] at h
        have := of_decide_eq_true h
        subst this
        exact ⟨r, List.mem_cons_self, rfl, hc.1, hc.2⟩
      · exact up h
theorem orAll_rep {ops : Array Oper} : ∀ {l : List RowM} {listed : Array Bool} {m : Nat}, RepM ops listed m → (∀ r ∈ l, r.bit = Nat.pow 2 r.i ∧ r.i < ops.size) → RepM ops (listAll listed (l.map (·.i))) (orAll m l)
  | [], listed, m, R, _ => R
  | r :: l, listed, m, R, h => by
    obtain ⟨h1, h2⟩ := h r List.mem_cons_self
    have := R.set h2
    rw [← h1] at this
    show RepM ops (listAll (listed.setIfInBounds r.i true) (l.map (·.i))) (orAll (Nat.lor m r.bit) l)
    exact orAll_rep this fun x hx => h x (List.mem_cons_of_mem _ hx)
theorem unlisted_set {ops : Array Oper} {listed : Array Bool} {i : Nat} : unlisted ops (listed.setIfInBounds i true) = (unlisted ops listed).filter fun j => j != i := by
  unfold unlisted
  rw [List.filter_filter]
  apply List.filter_congr
  intro j _
  by_cases e : j = i
  · subst e
    simp only [Array.getD_eq_getD_getElem?, Array.getElem?_setIfInBounds_self, bne_self_eq_false, Bool.false_and]
    split <;> simp
  · simp [Array.getD_eq_getD_getElem?, Array.getElem?_setIfInBounds_ne (Ne.symm e), e]
theorem mem_ready {ops : Array Oper} {listed : Array Bool} {j : Nat} : j ∈ Region.ready .any ops listed ↔ j ∈ unlisted ops listed ∧ condAt ops listed j = true := by
  unfold Region.ready unlisted condAt
  simp only [List.mem_filter, Bool.and_eq_true]
  constructor
  · rintro ⟨h1, h2, h3⟩; exact ⟨⟨h1, h2⟩, h3⟩
  · rintro ⟨⟨h1, h2⟩, h3⟩; exact ⟨h1, h2, h3⟩
theorem unlisted_length {ops : Array Oper} {listed : Array Bool} {i : Nat} (h : i ∈ unlisted ops listed) : (unlisted ops (listed.setIfInBounds i true)).length + 1 = (unlisted ops listed).length := by
  have hn : (unlisted ops listed).Nodup := List.Pairwise.filter _ List.nodup_range
  rw [unlisted_set]
  have he := hn.erase_eq_filter i
  rw [← he, List.length_erase_of_mem h]
  have := List.length_pos_of_mem h
  omega
theorem unlisted_false {ops : Array Oper} {listed : Array Bool} {j : Nat} (h : j ∈ unlisted ops listed) : listed.getD j false = false := by
  have h2 := (List.mem_filter.1 h).2
  simp only [Bool.not_eq_true', Array.getD_eq_getD_getElem?] at h2 ⊢
  cases hx : listed[j]? with
  | none => rfl
  | some b => rw [hx] at h2; simpa using h2
theorem blocked {ops : Array Oper} {listed : Array Bool} {T rs : List Nat} {j : Nat} (h : waitsFor ops T rs j = true) (hT : ∀ i ∈ T, i ∈ unlisted ops listed) {r : Nat} (hr : r ∈ rs) (hu : r ∈ unlisted ops listed) : condAt ops listed j = false := by
  have key : ∀ (o : Oper), ops[j]? = some o → ∀ e ∈ o.after, Region.binds .any e = true → e.on ∈ unlisted ops listed → condAt ops listed j = false := by
    intro o ho e he hb hun
    unfold condAt
    rw [ho]
    simp only [Option.map_some, Option.getD_some]
    rw [Bool.eq_false_iff]
    intro hall
    have := Array.all_eq_true_iff_forall_mem.1 hall e he
    rw [hb, unlisted_false hun] at this
    simp at this
  unfold waitsFor at h
  split at h
  · rename_i o ho
    rw [Bool.or_eq_true] at h
    rcases h with h | h
    · obtain ⟨e, he, hb⟩ := Array.any_eq_true'.1 h
      simp only [Bool.and_eq_true] at hb
      obtain ⟨i, hi, hbi⟩ := List.any_eq_true.1 hb.2
      have := Nat.eq_of_beq_eq_true hbi
      exact key o ho e he hb.1 (this ▸ hT i hi)
    · have h := List.all_eq_true.1 h r hr
      obtain ⟨e, he, hb⟩ := Array.any_eq_true'.1 h
      simp only [Bool.and_eq_true] at hb
      have := Nat.eq_of_beq_eq_true hb.2
      exact key o ho e he hb.1 (this ▸ hu)
  · cases h
theorem listAll_get : ∀ {l : List Nat} {listed : Array Bool} {j : Nat}, (listAll listed l)[j]? = if j ∈ l then (listed[j]?).map (fun _ => true) else listed[j]?
  | [], listed, j => by simp [listAll]
  | i :: l, listed, j => by
    have e0 : (listed.setIfInBounds i true)[j]? = if j = i then (listed[j]?).map (fun _ => true) else listed[j]? := by
      by_cases e : j = i
      · subst e
        rw [if_pos rfl, Array.getElem?_setIfInBounds_self]
        split
        · rename_i hlt; simp [hlt]
        · rename_i hlt; simp [Array.getElem?_eq_none (Nat.le_of_not_lt hlt)]
      · rw [if_neg e, Array.getElem?_setIfInBounds_ne (Ne.symm e)]
    rw [listAll, listAll_get, e0]
    by_cases e : j = i
    · subst e
      simp
    · by_cases e2 : j ∈ l <;> simp [e, e2]
theorem perm_out {β : Type} : ∀ {l : List (Nat × β)} {p : Nat × β}, (l.map (·.1)).Nodup → p ∈ l → l.Perm (p :: l.filter fun q => q.1 != p.1)
  | q :: l, p, hn, hm => by
    simp only [List.map_cons, List.nodup_cons] at hn
    rcases List.mem_cons.1 hm with rfl | hm
    · have : (l.filter fun q => q.1 != p.1) = l := by
        rw [List.filter_eq_self]
        intro r hr
        simp only [bne_iff_ne, ne_eq]
        intro e
        exact hn.1 (e ▸ List.mem_map.2 ⟨r, hr, rfl⟩)
      simp [this]
    · have hne : q.1 ≠ p.1 := fun e => hn.1 (e ▸ List.mem_map.2 ⟨p, hm, rfl⟩)
      have hq : (q.1 != p.1) = true := by simpa using hne
      simp only [List.filter_cons, hq, if_true]
      exact ((perm_out hn.2 hm).cons q).trans (List.Perm.swap _ _ _)
theorem inserts_rec {ops : Array Oper} {hL : Nat → T SObj} {E0 : Env} {wS : World} (M0 : ∀ k, Mem E0 (hL k) wS) {alive : Nat → Prop} {Q : Exit → Act → World → Prop} {t id : Nat} {TT rs : List Nat} (hT2 : ∀ j ∈ TT, waitsFor ops TT rs j = true) (hA : ActRel E a A) (le0 : E0.Le E) :
    ∀ {f : Nat} {listed : Array Bool} {rem : List (Nat × SV × SV)} {cur : List (SV × SV)} {s : St} {w : World}, (unlisted ops listed).length ≤ f → (∀ j, j ∈ unlisted ops listed ↔ j ∈ rem.map (·.1) ∨ j ∈ TT) → (rem.map (·.1)).Nodup → (∀ p ∈ rem, p.1 ∈ rs ∧ p.1 ∉ TT) → (∀ p ∈ rem, condAt ops listed p.1 = true) →
      (∀ p ∈ rem, ∃ o, ops[p.1]? = some o ∧ insOf a o = some (t, id, p.2.1, p.2.2)) → (∀ p ∈ rem, newKey P t p.2.1 cur = true) → (∀ p ∈ rem, ∀ q ∈ rem, p.1 ≠ q.1 → newKey P t p.2.1 [q.2] = true) →
      s.h.get id = some (.umap cur) → Rel w0 E s w → (∀ k, alive k → Mem E0 (hL k) w) → (∀ k j o, alive k → (hL k).get j = some o → j ≠ id ∧ s.h.get j = some o) → Closed ops listed →
      (∀ g s' l' w' listed', (unlisted ops listed').length ≤ g → (∀ j, listed'[j]? = if j ∈ rem.map (·.1) then (listed[j]?).map (fun _ => true) else listed[j]?) →
        l'.Perm (cur ++ rem.map (·.2)) → s'.h.get id = some (.umap l') → (∀ j, j ≠ id → s'.h.get j = s.h.get j) → s'.next = s.next → s'.asm = s.asm → s'.resv = s.resv → Rel w0 E s' w' → (∀ k, alive k → Mem E0 (hL k) w') → Closed ops listed' → wpAnyG P ops Q (fun k w => Mem E0 (hL k) w) g listed' alive A w') →
      wpAnyG P ops Q (fun k w => Mem E0 (hL k) w) f listed alive A w := by
  intro f
  induction f with
  | zero =>
    intro listed rem cur s w h0 h1 hnd h2 h3 h4 h5 h6 h7 R hMw h8 hcl hQ
    have hrem : rem = [] := by
      cases rem with
      | nil => rfl
      | cons p l =>
        have := (h1 p.1).2 (.inl (by simp))
        have := List.length_pos_of_mem this
        omega
    subst hrem
    exact hQ _ s cur w listed h0 (fun j => by simp) (by simp) h7 (fun _ _ => rfl) rfl rfl rfl R hMw hcl
  | succ f ih =>
    intro listed rem cur s w h0 h1 hnd h2 h3 h4 h5 h6 h7 R hMw h8 hcl hQ
    by_cases hrem : rem = []
    · subst hrem
      exact hQ _ s cur w listed h0 (fun j => by simp) (by simp) h7 (fun _ _ => rfl) rfl rfl rfl R hMw hcl
    · obtain ⟨p0, hp0⟩ := List.exists_mem_of_ne_nil rem hrem
      have hu0 : p0.1 ∈ unlisted ops listed := (h1 p0.1).2 (.inl (List.mem_map.2 ⟨p0, hp0, rfl⟩))
      have hr0 : p0.1 ∈ Region.ready .any ops listed := mem_ready.2 ⟨hu0, h3 p0 hp0⟩
      refine wpAnyG_all rfl (List.ne_nil_of_mem hr0) fun i hi => ?_
      obtain ⟨hiu, hic⟩ := mem_ready.1 hi
      have him : i ∈ rem.map (·.1) := by
        rcases (h1 i).1 hiu with h | h
        · exact h
        · have := blocked (hT2 i h) (fun k hk => (h1 k).2 (.inr hk)) (h2 p0 hp0).1 hu0
          rw [hic] at this; cases this
      obtain ⟨p, hp, rfl⟩ := List.mem_map.1 him
      obtain ⟨o, ho, hins⟩ := h4 p hp
      have hperm := perm_out hnd hp
      unfold insOf at hins
      split at hins
      · rename_i hg hd
        split at hins
        · rename_i t' m k x hop
          split at hins
          · rename_i id' k' x' hm hk hx
            cases hins
            obtain ⟨w', R', hrun⟩ := insert_one (P := P) R h7 (h5 p hp) (ev_ok hA hm) (ev_ok hA hk) (ev_ok hA hx)
            have hMem : ∀ k, alive k → Mem E0 (hL k) w' := fun k hk => Mem.down le0 (M0 k) R'.mem fun j oj hj => by
              obtain ⟨q1, q2⟩ := h8 k j oj hk hj
              simp only [T.get_put]
              rw [if_neg (Ne.symm q1)]; exact q2
            have hlen := unlisted_length hiu
            have hmem : ∀ j, j ∈ (rem.filter fun q => q.1 != p.1).map (·.1) ↔ j ∈ rem.map (·.1) ∧ j ≠ p.1 := by
              intro j
              constructor
              · intro h
                obtain ⟨q, q1, rfl⟩ := List.mem_map.1 h
                obtain ⟨q2, q3⟩ := List.mem_filter.1 q1
                exact ⟨List.mem_map.2 ⟨q, q2, rfl⟩, by simpa using q3⟩
              · rintro ⟨h, hne⟩
                obtain ⟨q, q1, rfl⟩ := List.mem_map.1 h
                exact List.mem_map.2 ⟨q, List.mem_filter.2 ⟨q1, by simpa using hne⟩, rfl⟩
            have hgo : wpAnyG P ops Q (fun k w => Mem E0 (hL k) w) f (listed.setIfInBounds p.1 true) alive A w' := by
              refine ih (cur := cur ++ [(p.2.1, p.2.2)]) (rem := rem.filter fun q => q.1 != p.1) (by omega) (fun j => ?_) ?_ (fun q hq => h2 q (List.mem_filter.1 hq).1) (fun q hq => cond_set (h3 q (List.mem_filter.1 hq).1)) (fun q hq => h4 q (List.mem_filter.1 hq).1) (fun q hq => ?_) (fun q hq r hr => h6 q (List.mem_filter.1 hq).1 r (List.mem_filter.1 hr).1) (by simp [T.get_put]) R' hMem (fun k j oj hk hj => ?_) (hcl.set hic) ?_
              · rw [unlisted_set, List.mem_filter, h1, hmem]
                constructor
                · rintro ⟨h | h, hne⟩
                  · exact .inl ⟨h, by simpa using hne⟩
                  · exact .inr h
                · rintro (⟨h, hne⟩ | h)
                  · exact ⟨.inl h, by simpa using hne⟩
                  · refine ⟨.inr h, ?_⟩
                    simp only [bne_iff_ne, ne_eq]
                    intro e
                    exact (h2 p hp).2 (e ▸ h)
              · exact List.Nodup.sublist (List.Sublist.map _ List.filter_sublist) hnd
              · obtain ⟨q1, q2⟩ := List.mem_filter.1 hq
                have hne : q.1 ≠ p.1 := by simpa using q2
                obtain ⟨kt, et, hu, hko, hall⟩ := newKey_iff.1 (h5 q q1)
                obtain ⟨kt', et', hu', -, hall'⟩ := newKey_iff.1 (h6 q q1 p hp hne)
                rw [hu] at hu'; cases hu'
                refine newKey_iff.2 ⟨kt, et, hu, hko, fun e he => ?_⟩
                rcases List.mem_append.1 he with he | he
                · exact hall e he
                · exact hall' e he
              · obtain ⟨q1, q2⟩ := h8 k j oj hk hj
                exact ⟨q1, by simp only [T.get_put]; rw [if_neg (Ne.symm q1)]; exact q2⟩
              · intro g s2 l2 w2 listed2 p0' pl p1 p2 p3 p4 p5 p6 R2 hM2 hc2
                refine hQ g s2 l2 w2 listed2 p0' (fun j => ?_) (p1.trans ?_) p2 (fun j hj => ?_) p4 p5 p6 R2 hM2 hc2
                · rw [pl j]
                  by_cases e : j = p.1
                  · subst e
                    rw [if_neg (fun h => ((hmem _).1 h).2 rfl), if_pos him, Array.getElem?_setIfInBounds_self]
                    split
                    · rename_i hlt; simp [hlt]
                    · rename_i hlt; simp [Array.getElem?_eq_none (Nat.le_of_not_lt hlt)]
                  · rw [Array.getElem?_setIfInBounds_ne (Ne.symm e)]
                    by_cases e2 : j ∈ rem.map (·.1)
                    · rw [if_pos e2, if_pos ((hmem j).2 ⟨e2, e⟩)]
                    · rw [if_neg e2, if_neg (fun h => e2 ((hmem j).1 h).1)]
                · have := (hperm.map (·.2)).symm
                  simp only [List.map_cons] at this
                  rw [List.append_assoc]
                  exact (List.Perm.refl cur).append (by simpa using this)
                · rw [p3 j hj]; simp only [T.get_put]; rw [if_neg (Ne.symm hj)]
            unfold wpOp
            simp only [ho]
            rw [if_pos (by simp [Region.wanted, hg])]
            left
            unfold Oper.wp
            have hexec : (execOp A.eval o).run P w = .ok .skip w' := by simp only [execOp, hop, Sem.run_bind, hrun, Result.andThen_ok, Sem.run_pure]
            rw [hexec, Oper.upon_skip]
            have hput : A.put o.dst undef = A := by rw [hd]; rfl
            first
              | (rw [hput]; exact ⟨alive, fun k hk _ => hk, hMem, hgo⟩)
              | exact ⟨alive, fun k hk _ => hk, hMem, hgo⟩
          · cases hins
        · cases hins
      · cases hins
theorem insertsAll_ok {ops : Array Oper} {hL : Nat → T SObj} {E0 : Env} {wS : World} (M0 : ∀ k, Mem E0 (hL k) wS) {alive : Nat → Prop} {Q : Exit → Act → World → Prop} (hA : ActRel E a A) (le0 : E0.Le E) (R : Rel w0 E s w) (hMw : ∀ k, alive k → Mem E0 (hL k) w) {L : List (Nat × List (Nat × SObj))} (hLc : ∀ k id o, alive k → (hL k).get id = some o → ∃ l, (k, l) ∈ L ∧ (id, o) ∈ l) {f m : Nat} {listed : Array Bool} {rs : List RowM} {s' : St}
    (hf : (unlisted ops listed).length ≤ f) (hcl : Closed ops listed) (hrep : RepM ops listed m) (hrs : ∀ r ∈ rs, r ∈ rowsM ops 0 ops.toList) (hr : Region.ready .any ops listed = rs.map (·.i)) (h : insertsAll P (rowsM ops 0 ops.toList) m a s L rs = some s')
    (hQ : ∀ g w', (unlisted ops (listAll listed (rs.map (·.i)))).length ≤ g → Rel w0 E s' w' → (∀ k, alive k → Mem E0 (hL k) w') → Closed ops (listAll listed (rs.map (·.i))) → wpAnyG P ops Q (fun k w => Mem E0 (hL k) w) g (listAll listed (rs.map (·.i))) alive A w') : wpAnyG P ops Q (fun k w => Mem E0 (hL k) w) f listed alive A w := by
  have hbit : ∀ r ∈ rowsM ops 0 ops.toList, r.bit = Nat.pow 2 r.i := fun r hr => by
    obtain ⟨o, h1, h2⟩ := mem_rows.1 hr
    rw [h2]; rfl
  unfold insertsAll at h
  split at h
  · cases h
  rename_i r rs0
  split at h
  · cases h
  rename_i t id _ _ hins
  split at h
  · rename_i kv base hkv hbase
    split at h
    · rename_i hc
      cases h
      simp only [Bool.and_eq_true] at hc
      obtain ⟨c1, c3, c4, c5⟩ := hc
      obtain ⟨k1, k2⟩ := insListM_ok hkv
      have c3 := newAll_ok c3
      have hapart : ∀ k j oj, alive k → (hL k).get j = some oj → j ≠ id ∧ s.h.get j = some oj := fun k j oj hk hj => by
        obtain ⟨l, hl, hm⟩ := hLc k j oj hk hj
        refine ⟨fun e => ?_, agree_ok (List.all_eq_true.1 c4 _ hl) hm⟩
        have := List.all_eq_true.1 (List.all_eq_true.1 c5 _ hl) _ hm
        rw [e] at this
        simp at this
      have hready : ∀ p ∈ kv, p.1 ∈ Region.ready .any ops listed := fun p hp => by rw [hr, ← k1]; exact List.mem_map.2 ⟨p, hp, rfl⟩
      have hTm : ∀ j, j ∈ ((unlisted ops listed).filter fun j => !((r :: rs0).map (·.i)).any (Nat.beq j)) ↔ j ∈ unlisted ops listed ∧ j ∉ (r :: rs0).map (·.i) := by
        intro j
        rw [List.mem_filter]
        constructor
        · rintro ⟨h1, h2⟩
          refine ⟨h1, fun hm => ?_⟩
          have : ((r :: rs0).map (·.i)).any (Nat.beq j) = true := List.any_eq_true.2 ⟨j, hm, by simp⟩
          rw [this] at h2; cases h2
        · rintro ⟨h1, h2⟩
          refine ⟨h1, ?_⟩
          rw [Bool.not_eq_true', Bool.eq_false_iff]
          intro hany
          obtain ⟨k, hk, hb⟩ := List.any_eq_true.1 hany
          exact h2 (Nat.eq_of_beq_eq_true hb ▸ hk)
      have hunl : ∀ k, k < ops.size → (k ∈ unlisted ops listed ↔ m.testBit k = false) := fun k hk => by
        unfold unlisted
        rw [List.mem_filter, hrep.unl hk]
        simp [hk]
      have hsz : ∀ x ∈ rowsM ops 0 ops.toList, x.i < ops.size := fun x hx => by
        obtain ⟨o, h1, -⟩ := mem_rows.1 hx
        exact (Array.getElem?_eq_some_iff.1 h1).1
      have hmask : ∀ k, (maskM (r :: rs0)).testBit k = decide (k ∈ (r :: rs0).map (·.i)) := maskM_bit (ops := ops) fun x hx => hbit x (hrs x hx)
      have hwait : ∀ j ∈ ((unlisted ops listed).filter fun j => !((r :: rs0).map (·.i)).any (Nat.beq j)), waitsFor ops ((unlisted ops listed).filter fun j => !((r :: rs0).map (·.i)).any (Nat.beq j)) ((r :: rs0).map (·.i)) j = true := by
        intro j hj
        obtain ⟨hj1, hj2⟩ := (hTm j).1 hj
        have hlt : j < ops.size := List.mem_range.1 (List.mem_filter.1 hj1).1
        have hx : rowAt ops j ops[j] ∈ rowsM ops 0 ops.toList := mem_rows.2 ⟨ops[j], Array.getElem?_eq_getElem hlt, rfl⟩
        have hw := List.all_eq_true.1 c1 _ hx
        simp only [Bool.or_eq_true, rowAt, meets_bit, hmask] at hw
        unfold waitsFor
        rw [Array.getElem?_eq_getElem hlt]
        simp only [Bool.or_eq_true]
        rcases hw with hw | hw | hw | hw
        · rw [(hunl j hlt).1 hj1] at hw; cases hw
        · exact absurd (of_decide_eq_true hw) hj2
        · left
          obtain ⟨k, h1, h2⟩ := meets_true.1 hw
          rw [bitsOf_bit] at h1
          obtain ⟨e, he, hb, rfl⟩ := mem_needL.1 (of_decide_eq_true h1)
          obtain ⟨y, hy, hyi, q1, q2⟩ := leftM_bit hbit _ h2
          rw [hmask] at q2
          refine Array.any_eq_true'.2 ⟨e, he, ?_⟩
          rw [hb, Bool.true_and]
          refine List.any_eq_true.2 ⟨e.on, (hTm _).2 ⟨(hunl _ (hyi ▸ hsz y hy)).2 q1, of_decide_eq_false q2⟩, by simp⟩
        · right
          rw [List.all_eq_true]
          intro k hk
          have := within_iff.1 hw k (by rw [hmask]; exact decide_eq_true hk)
          rw [bitsOf_bit] at this
          obtain ⟨e, he, hb, rfl⟩ := mem_needL.1 (of_decide_eq_true this)
          exact Array.any_eq_true'.2 ⟨e, he, by simp [hb]⟩
      have go : ∀ s1 : St, s1.h.get id = some (.umap base) → (∀ j, j ≠ id → s1.h.get j = s.h.get j) → s1.next = s.next → s1.asm = s.asm → s1.resv = s.resv → Rel w0 E s1 w → wpAnyG P ops Q (fun k w => Mem E0 (hL k) w) f listed alive A w := by
        intro s1 g1 g2 g3 g4 g5 R1
        refine inserts_rec (t := t) (id := id) (rs := (r :: rs0).map (·.i)) M0 hwait hA le0 (rem := kv) (cur := base) hf (fun j => ?_) ?_ (fun p hp => ?_) (fun p hp => (mem_ready.1 (hready p hp)).2) (fun p hp => ?_) (fun p hp => (c3 p hp).1) (fun p hp q hq hne => ?_) g1 R1 hMw (fun k j oj hk hj => ⟨(hapart k j oj hk hj).1, by rw [g2 j (hapart k j oj hk hj).1]; exact (hapart k j oj hk hj).2⟩) hcl ?_
        · rw [k1, hTm]
          constructor
          · intro h
            by_cases e : j ∈ (r :: rs0).map (·.i)
            · exact .inl e
            · exact .inr ⟨h, e⟩
          · rintro (h | h)
            · exact (mem_ready.1 (by rw [hr]; exact h)).1
            · exact h.1
        · rw [k1, ← hr]
          exact List.Pairwise.filter _ List.nodup_range
        · have : p.1 ∈ (r :: rs0).map (·.i) := by rw [← k1]; exact List.mem_map.2 ⟨p, hp, rfl⟩
          exact ⟨this, fun h => ((hTm _).1 h).2 this⟩
        · obtain ⟨y, hy, hyi, hyo⟩ := k2 p hp
          obtain ⟨o, q1, q2⟩ := mem_rows.1 (hrs y hy)
          refine ⟨o, by rw [← hyi]; exact q1, ?_⟩
          rw [q2] at hyo; exact hyo
        · rcases (c3 p hp).2 q hq with h1 | h1
          · exact absurd h1 hne
          · exact h1
        · intro g s2 l2 w2 listed2 hg pl p1 p2 p3 p4 p5 p6 R2 hM2 hc2
          have hl : listed2 = listAll listed ((r :: rs0).map (·.i)) := by
            apply Array.ext_getElem?
            intro j
            rw [pl j, listAll_get, k1]
          rw [hl] at hg hc2 ⊢
          refine hQ g w2 hg (R2.permU (id := id) p1 p2 (fun i => ?_) (by rw [p4, g3]) (by rw [p5, g4]) (by rw [p6, g5])) hM2 hc2
          simp only [T.get_put]
          by_cases e : i = id
          · rw [if_pos e.symm, if_pos e]
          · rw [if_neg (fun h => e h.symm), if_neg e, p3 i e, g2 i e]
      unfold pairsOf at hbase
      split at hbase
      · rename_i es cl hid
        cases hbase
        refine go { s with h := s.h.put id (.umap (es.map pairOf)) } ?_ (fun j hj => ?_) rfl rfl rfl (R.toU hid)
        · simp [T.get_put]
        · show (s.h.put id (.umap (es.map pairOf))).get j = s.h.get j
          rw [T.get_put, if_neg (Ne.symm hj)]
      · rename_i l hid
        cases hbase
        exact go s hid (fun _ _ => rfl) rfl rfl rfl R
      · cases hbase
    · cases h
  · cases h
theorem surv_ok {ops : Array Oper} {j : Nat} {h : T SObj} : ∀ {L L' : List (Nat × List (Nat × SObj))}, surv ops j h L = some L' → (∀ k l, (k, l) ∈ L → anc ops 4 j k = false → (k, l) ∈ L') ∧ (∀ k l, (k, l) ∈ L' → (k, l) ∈ L ∧ agree h l = true)
  | [], L', e => by simp only [surv, Option.some.injEq] at e; subst e; simp
  | (i, l) :: m, L', e => by
    simp only [surv] at e
    split at e
    · rename_i m' hm
      obtain ⟨h1, h2⟩ := surv_ok hm
      split at e
      · rename_i ha
        cases e
        refine ⟨fun k l' hk hc => ?_, fun k l' hk => ?_⟩
        · rcases List.mem_cons.1 hk with e | hk
          · exact e ▸ List.mem_cons_self
          · exact List.mem_cons_of_mem _ (h1 k l' hk hc)
        · rcases List.mem_cons.1 hk with e | hk
          · cases e; exact ⟨List.mem_cons_self, ha⟩
          · exact ⟨List.mem_cons_of_mem _ (h2 k l' hk).1, (h2 k l' hk).2⟩
      · split at e
        · rename_i hanc
          cases e
          refine ⟨fun k l' hk hc => ?_, fun k l' hk => ⟨List.mem_cons_of_mem _ (h2 k l' hk).1, (h2 k l' hk).2⟩⟩
          rcases List.mem_cons.1 hk with e | hk
          · cases e; rw [hanc] at hc; cases hc
          · exact h1 k l' hk hc
        · cases e
    · cases e
/-- What those that are still to come look at. -/
def LOk (hL : Nat → T SObj) : Option (List (Nat × List (Nat × SObj))) → Prop
  | none => True
  | some L => ∀ k l, (k, l) ∈ L → ∀ id o, (hL k).get id = some o → (id, o) ∈ l
theorem aliveB_mem {hL : Nat → T SObj} {L : List (Nat × List (Nat × SObj))} {k : Nat} (h : aliveB hL L k = true) : (∀ id, (hL k).get id = none) ∨ ∃ l, (k, l) ∈ L := by
  unfold aliveB at h
  rw [Bool.or_eq_true] at h
  rcases h with h | h
  · left
    intro id
    unfold isNil at h
    split at h
    · rename_i e; rw [e]; exact T.get_nil id
    · cases h
  · obtain ⟨p, hp, hb⟩ := List.any_eq_true.1 h
    have := Nat.eq_of_beq_eq_true hb
    exact .inr ⟨p.2, this ▸ hp⟩
theorem execAny_ok (hF : FsOk P F) {ops : Array Oper} (hsel : Region.noSelect ops = true) {hL : Nat → T SObj} {rsv : Nat → Option Nat} {E0 : Env} {wS : World} (M0 : ∀ k, Mem E0 (hL k) wS)
    {Q : Exit → Act → World → Prop} (hQp : ∀ v d c a w, Q (.panic c) (Act.put a d v) w → Q (.panic c) a w) : ∀ {f g m : Nat} {Lc : Option (List (Nat × List (Nat × SObj)))} {listed : Array Bool} {a : SAct} {s : St} {E : Env} {A : Act} {w : World} {outs : List (SAct × St)}, execAny P F ops (rowsM ops 0 ops.toList) hL rsv f Lc m a s = some outs → RepM ops listed m → (unlisted ops listed).length ≤ g →
      LOk hL Lc → Closed ops listed → E0.Le E → ActRel E a A → Rel w0 E s w → (∀ k, alOf hL Lc k = true → Mem E0 (hL k) w) →
      (∀ a' s' E' A' w', (a', s') ∈ outs → E.Le E' → ActRel E' a' A' → Rel w0 E' s' w' → Q .normal A' w') → wpAnyG P ops Q (fun k w => Mem E0 (hL k) w) g listed (fun k => alOf hL Lc k = true) A w
  | 0, g, m, Lc, listed, a, s, E, A, w, outs, h, hrep, hg, hal, hcl, le0, hA, R, hM, hQ => by
    unfold execAny at h
    split at h
    · rename_i hr
      cases h
      exact wpAnyG_done (by rw [ready_eq hrep, hr]; rfl) (hQ a s E A w (by simp) (.refl E) hA R) _
    · cases h
  | f + 1, g, m, Lc, listed, a, s, E, A, w, outs, h, hrep, hg, hal, hcl, le0, hA, R, hM, hQ => by
    unfold execAny at h
    split at h
    · rename_i hr
      cases h
      exact wpAnyG_done (by rw [ready_eq hrep, hr]; rfl) (hQ a s E A w (by simp) (.refl E) hA R) _
    · rename_i r rs hr0
      have hr : Region.ready .any ops listed = (r :: rs).map (·.i) := by rw [ready_eq hrep, hr0]
      have hrow : ∀ x ∈ r :: rs, x ∈ rowsM ops 0 ops.toList := fun x hx => readyM_sub (by rw [hr0]; exact hx)
      have hat : ∀ x ∈ r :: rs, ops[x.i]? = some x.o ∧ x.bit = Nat.pow 2 x.i ∧ x.i < ops.size := fun x hx => by
        obtain ⟨o, h1, h2⟩ := mem_rows.1 (hrow x hx)
        have : x.o = o := by rw [h2]; rfl
        exact ⟨by rw [this]; exact h1, by rw [h2]; rfl, (Array.getElem?_eq_some_iff.1 h1).1⟩
      have hin : ∀ x ∈ r :: rs, x.i ∈ unlisted ops listed := fun x hx => (mem_ready.1 (by rw [hr]; exact List.mem_map.2 ⟨x, hx, rfl⟩)).1
      have hco : ∀ x ∈ r :: rs, condAt ops listed x.i = true := fun x hx => (mem_ready.1 (by rw [hr]; exact List.mem_map.2 ⟨x, hx, rfl⟩)).2
      have hset : ∀ x ∈ r :: rs, RepM ops (listed.setIfInBounds x.i true) (Nat.lor m x.bit) := fun x hx => by rw [(hat x hx).2.1]; exact hrep.set (hat x hx).2.2
      have hdown : ∀ {g' : Nat} {x : RowM}, g = g' + 1 → x ∈ r :: rs → (unlisted ops (listed.setIfInBounds x.i true)).length ≤ g' := fun e hi => by
        have := unlisted_length (hin _ hi); omega
      obtain ⟨g, rfl⟩ : ∃ g', g = g' + 1 := by
        have := List.length_pos_of_mem (hin r (by simp))
        exact ⟨g - 1, by omega⟩
      split at h
      · rename_i x o1 hi
        obtain ⟨h1, hali, h3, h4⟩ := takeOne_ok hi
        have h2 := (hat x h1).1
        obtain ⟨a', asm', V, k1, k2, k3, k4⟩ := takeStep_ok (P := P) hA R.asm h4 (S := fun w => Mem E0 (hL x.i) w) (fun w hw => hw.mono le0) (hM x.i hali)
        obtain ⟨ys, q1, q2⟩ := bindL_mem h k1
        refine wpAnyG_take h2 hsel (fun c a w => hQp V x.o.dst c a w) (freeM_ok hrep (hrow x h1) h3) (by rw [hr]; exact List.mem_map.2 ⟨x, h1, rfl⟩) hcl k4 hali hM ?_
        exact execAny_ok hF hsel M0 hQp q1 (hset x h1) (hdown rfl h1) hal (hcl.set (hco x h1)) le0 k3 (R.setAsm k2) hM (fun a2 s2 E2 A2 w2 hm => hQ a2 s2 E2 A2 w2 (q2 _ hm))
      · split at h
        · cases h
        rename_i L _
        split at h
        · rename_i s1 hs1
          refine insertsAll_ok M0 (alive := fun k => alOf hL (some L) k = true) hA le0 R hM (fun k id o hk hg => ?_) hg hcl hrep hrow hr hs1 (fun g' w' hg' R' hM' hc' => execAny_ok hF hsel M0 hQp h (orAll_rep hrep (fun x hx => (hat x hx).2)) hg' hal hc' le0 hA R' hM' hQ)
          rcases aliveB_mem hk with e | ⟨l, hl⟩
          · rw [e] at hg; cases hg
          · exact ⟨l, hl, hal k l hl id o hg⟩
        split at h
        · cases h
        · split at h
          · rename_i o1 ho1
            cases h
            refine wpAnyG_all hr (by simp) fun i hi => ?_
            obtain ⟨x, hx, rfl⟩ := List.mem_map.1 hi
            obtain ⟨ys, q1, q2⟩ := allOf_mem ho1 hx
            have ho := (hat x hx).1
            · split at q1
              · rename_i o2 ho2
                unfold wpOp
                simp only [ho]
                have := stepAt_ok hF hA R ho2 (Q := Q) (K := fun A' w' => ∃ alive' : Nat → Prop, (∀ k, alOf hL (some L) k = true → anc ops 4 x.i k = false → alive' k) ∧ (∀ k, alive' k → Mem E0 (hL k) w') ∧ wpAnyG P ops Q (fun k w => Mem E0 (hL k) w) g (listed.setIfInBounds x.i true) alive' A' w') fun a' s' E' A' w' hm le hA' R' => by
                  obtain ⟨zs, z1, z2⟩ := bindL_mem q1 hm
                  simp only at z1
                  split at z1
                  · rename_i L' hL'
                    obtain ⟨v1, v2⟩ := surv_ok hL'
                    have hal' : LOk hL (some L') := fun k l hl => hal k l (v2 k l hl).1
                    have hM' : ∀ k, alOf hL (some L') k = true → Mem E0 (hL k) w' := fun k hk => by
                      refine Mem.down (le0.trans le) (M0 k) R'.mem fun id o hid => ?_
                      rcases aliveB_mem hk with e | ⟨l, hl⟩
                      · rw [e] at hid; cases hid
                      · exact agree_ok (v2 k l hl).2 (hal k l (v2 k l hl).1 id o hid)
                    refine ⟨fun k => alOf hL (some L') k = true, fun k hk hc => ?_, hM', execAny_ok hF hsel M0 hQp z1 (hset x hx) (hdown rfl hx) hal' (hcl.set (hco x hx)) (le0.trans le) hA' R' hM' fun a2 s2 E2 A2 w2 hm2 le2 => hQ a2 s2 E2 A2 w2 (dedup_mem (q2 _ (z2 _ hm2))) (le.trans le2)⟩
                    simp only [alOf, aliveB, Bool.or_eq_true] at hk ⊢
                    rcases hk with e | e
                    · exact .inl e
                    · obtain ⟨p, hp, hb⟩ := List.any_eq_true.1 e
                      have e2 := Nat.eq_of_beq_eq_true hb
                      subst e2
                      exact .inr (List.any_eq_true.2 ⟨p, v1 p.1 p.2 hp hc, hb⟩)
                  · cases z1
                split
                · rename_i hw; rw [if_pos hw] at this; exact .inl this
                · rename_i hw; rw [if_neg hw] at this; exact this
              · cases q1
          · cases h

/-! ### code -/
/-- The blocks that the region's own operations look at. -/
def looksAt (a : SAct) (o : Oper) : Option Nat :=
  match o.op with
  | .load _ x => (match a.ev x with | some (.ptr id _) => some id | _ => none)
  | .lookup _ x _ _ => (match a.ev x with | some (.map id) => some id | _ => none)
  | .convert _ _ x => (match a.ev x with | some (.slc id _ _ _ _) => some id | _ => none)
  | .slice _ x _ _ _ => (match a.ev x with | some (.slc id _ _ _ _) => some id | _ => none)
  | .call { args := args, .. } => (match args.toList with | [x] => (match a.ev x with | some (.map id) => some id | _ => none) | _ => none)
  | _ => none
def looks (P : Program) (s : St) : List Oper → Nat → SAct → List (Nat × List (Nat × SObj))
  | [], _, _ => []
  | o :: l, i, a =>
    match pureKind o with
    | false => looks P s l (i + 1) a
    | true =>
      match xPure P s.h s.asm a o with
      | some [(v, _)] =>
        match a.put o.dst v with
        | some a' => match looksAt a o with
          | some id => match s.h.get id with
            | some ob => (i, [(id, ob)]) :: looks P s l (i + 1) a'
            | none => looks P s l (i + 1) a'
          | none => looks P s l (i + 1) a'
        | none => looks P s l (i + 1) a
      | _ => looks P s l (i + 1) a
def mkT : List (Nat × SObj) → T SObj
  | [] => .nil
  | (id, o) :: l => (mkT l).put id o
theorem looks_ok {P : Program} {s : St} : ∀ {l : List Oper} {n : Nat} {a : SAct} {k : Nat} {m : List (Nat × SObj)}, (k, m) ∈ looks P s l n a → n ≤ k ∧ ∀ id o, (id, o) ∈ m → s.h.get id = some o
  | [], n, a, k, m, h => by cases h
  | o :: l, n, a, k, m, h => by
    have up : ∀ {a' : SAct}, (k, m) ∈ looks P s l (n + 1) a' → n ≤ k ∧ ∀ id o, (id, o) ∈ m → s.h.get id = some o := fun h => by
      obtain ⟨h1, h2⟩ := looks_ok h
      exact ⟨by omega, h2⟩
    simp only [looks] at h
    split at h
    · exact up h
    · split at h
      · split at h
        · split at h
          · split at h
            · rename_i ob hob
              rcases List.mem_cons.1 h with e | h
              · cases e
                refine ⟨Nat.le_refl _, fun id o hm => ?_⟩
                simp only [List.mem_singleton, Prod.mk.injEq] at hm
                obtain ⟨rfl, rfl⟩ := hm
                exact hob
              · exact up h
            · exact up h
          · exact up h
        · exact up h
      · exact up h
def atOf : List (Nat × List (Nat × SObj)) → Nat → T SObj
  | [], _ => .nil
  | (i, l) :: m, k => match Nat.beq i k with
    | true => mkT l
    | false => atOf m k
/-- The numbers grow. -/
def grows : List (Nat × List (Nat × SObj)) → Bool
  | [] => true
  | (i, _) :: m => m.all (fun p => Nat.blt i p.1) && grows m
theorem looks_grow {P : Program} {s : St} : ∀ {l : List Oper} {n : Nat} {a : SAct}, grows (looks P s l n a) = true
  | [], n, a => rfl
  | o :: l, n, a => by
    simp only [looks]
    split
    · exact looks_grow
    · split
      · split
        · split
          · split
            · simp only [grows, Bool.and_eq_true, List.all_eq_true]
              refine ⟨fun p hp => ?_, looks_grow⟩
              have := (looks_ok (k := p.1) (m := p.2) hp).1
              rw [Nat.blt_eq]; omega
            · exact looks_grow
          · exact looks_grow
        · exact looks_grow
      · exact looks_grow
theorem atOf_ok : ∀ {L : List (Nat × List (Nat × SObj))} {k : Nat} {l : List (Nat × SObj)}, grows L = true → (k, l) ∈ L → atOf L k = mkT l
  | (i, l0) :: m, k, l, hg, hm => by
    simp only [grows, Bool.and_eq_true, List.all_eq_true] at hg
    simp only [atOf]
    rcases List.mem_cons.1 hm with e | hm
    · cases e; simp
    · have := hg.1 _ hm
      rw [Nat.blt_eq] at this
      have hne : Nat.beq i k = false := by
        rw [Bool.eq_false_iff]
        intro e
        have := Nat.eq_of_beq_eq_true e
        omega
      rw [hne]
      exact atOf_ok hg.2 hm
theorem atOf_get {L : List (Nat × List (Nat × SObj))} {k id : Nat} {o : SObj} (h : (atOf L k).get id = some o) : ∃ l, (k, l) ∈ L ∧ (atOf L k) = mkT l := by
  induction L with
  | nil => simp [atOf, T.get_nil] at h
  | cons p m ih =>
    obtain ⟨i, l⟩ := p
    simp only [atOf] at h ⊢
    split at h
    · rename_i e
      have := Nat.eq_of_beq_eq_true e
      subst this
      exact ⟨l, List.mem_cons_self, by simp⟩
    · obtain ⟨l', h1, h2⟩ := ih h
      exact ⟨l', List.mem_cons_of_mem _ h1, h2⟩
theorem mkT_ok : ∀ {l : List (Nat × SObj)} {id : Nat} {o : SObj}, (mkT l).get id = some o → (id, o) ∈ l
  | [], id, o, h => by simp [mkT, T.get_nil] at h
  | (i, x) :: l, id, o, h => by
    simp only [mkT, T.get_put] at h
    split at h
    · rename_i e; subst e; cases h; exact List.mem_cons_self
    · exact List.mem_cons_of_mem _ (mkT_ok h)
def reserveN (s : St) : Nat → St
  | 0 => s
  | n + 1 => reserveN (reserve s) n
theorem Rel.reserveN (R : Rel w0 E s w) : ∀ n, Rel w0 E (reserveN s n) w := by
  intro n
  induction n generalizing s with
  | zero => exact R
  | succ n ih => exact ih R.reserve
def nthVar (ops : List Oper) (next : Nat) (i : Nat) : Option Nat :=
  match ops[i]? with
  | some o => match makesVar o with
    | true => some (next + (ops.take i).countP makesVar)
    | false => none
  | none => none
def execDraw (P : Program) (F : Fs) (ops : Array Oper) (a : SAct) (s : St) : Option (List (SAct × St)) :=
  match noSelectM (rowsM ops 0 ops.toList) && P.follows .mixedOrders with
  | true =>
    match ops.toList.all pureKind with
    | true => execAny P F ops (rowsM ops 0 ops.toList) (fun _ => s.h) (fun _ => none) ops.size none 0 a s
    | false =>
      let L := looks P s ops.toList 0 a
      execAny P F ops (rowsM ops 0 ops.toList) (atOf L) (nthVar ops.toList s.next) ops.size (some L) 0 a (reserveN s (ops.toList.countP makesVar))
  | false => none
theorem execDraw_ok (hF : FsOk P F) {ops : Array Oper} (hA : ActRel E a A) (R : Rel w0 E s w) {outs : List (SAct × St)} (h : execDraw P F ops a s = some outs) {Q : Exit → Act → World → Prop} (hQp : ∀ v d c a w, Q (.panic c) (Act.put a d v) w → Q (.panic c) a w)
    (hQ : ∀ a' s' E' A' w', (a', s') ∈ outs → E.Le E' → ActRel E' a' A' → Rel w0 E' s' w' → Q .normal A' w') (id : Nat) : (Code.region id ops true).wp P Q A w := by
  unfold execDraw at h
  split at h
  · rename_i hc
    simp only [Bool.and_eq_true] at hc
    have hsel : Region.noSelect ops = true := by
      unfold Region.noSelect
      rw [← Array.all_toList, List.all_eq_true]
      exact noSelectM_ok hc.1
    have hrep : RepM ops (Array.replicate ops.size false) 0 := ⟨by simp, fun k => by
      simp only [Nat.zero_testBit, Array.getD_eq_getD_getElem?, Array.getElem?_replicate]
      split <;> rfl⟩
    have hcount : (unlisted ops (Array.replicate ops.size false)).length ≤ ops.size := by
      have := List.length_filter_le (fun i => !(Array.replicate ops.size false).getD i true) (List.range ops.size)
      rw [List.length_range] at this
      exact this
    have hclosed : Closed ops (Array.replicate ops.size false) := fun j hj => by
      simp only [Array.getD_eq_getD_getElem?, Array.getElem?_replicate] at hj
      split at hj <;> simp at hj
    have Rd : Rel w0 E s { w with drawn := w.drawn + 1 } := R.same rfl rfl rfl rfl
    split at h
    · refine wp_region_any hc.2 (wpAny_of_G (M := fun _ w => Mem E s.h w) _ _ (fun k => alOf (fun _ => s.h) none k = true) _ _ ?_)
      exact execAny_ok hF hsel (E0 := E) (wS := w) (fun _ => R.mem) hQp h hrep hcount trivial hclosed (.refl E) hA Rd (fun _ _ => Rd.mem) hQ
    · have hobj : ∀ k id o, (atOf (looks P s ops.toList 0 a) k).get id = some o → s.h.get id = some o := fun k id o hg => by
        obtain ⟨l, h1, h2⟩ := atOf_get hg
        rw [h2] at hg
        exact (looks_ok h1).2 id o (mkT_ok hg)
      have hmem : ∀ {w : World}, Mem E s.h w → ∀ k, Mem E (atOf (looks P s ops.toList 0 a) k) w := fun M k id o hid hl => M id o (hobj k id o hid) hl
      refine wp_region_any hc.2 (wpAny_of_G (M := fun k w => Mem E (atOf (looks P s ops.toList 0 a) k) w) _ _ (fun k => alOf (atOf (looks P s ops.toList 0 a)) (some (looks P s ops.toList 0 a)) k = true) _ _ ?_)
      exact execAny_ok hF hsel (E0 := E) (wS := w) (hmem R.mem) hQp h hrep hcount (fun k l hl id o hg => by rw [atOf_ok looks_grow hl] at hg; exact mkT_ok hg) hclosed (.refl E) hA (Rd.reserveN _) (fun k _ => hmem Rd.mem k) hQ
  · cases h
def asNormal (l : List (SAct × St)) : List (SExit × SAct × St) := l.map fun p => (.normal, p.1, p.2)
def leave1 (id : Nat) (p : SExit × SAct × St) : SExit × SAct × St :=
  match p.1 with
  | .exit i => match Nat.beq i id with
    | true => (.normal, p.2.1, p.2.2)
    | false => p
  | _ => p
def leaveBlock (id : Nat) (l : List (SExit × SAct × St)) : List (SExit × SAct × St) := l.map (leave1 id)
def xres1 (P : Program) (a : SAct) (s : St) : ResultVar → Option SV
  | .tmp t => a.tm.get t
  | .cell p t => match a.tm.get p with
    | some v => xload P s.h t v
    | none => none
def xresult (P : Program) (fn : Func) (a : SAct) (s : St) : Option SV :=
  match fn.results.toList with
  | [r] => xres1 P a s r
  | l => match optL (xres1 P a s) l with
    | some vs => some (.tup vs)
    | none => none
def resOf (tmps : Array Value) : ResultVar → Sem Value
  | .tmp t => pure (tmps.getD t undef)
  | .cell a t => do loadVar t (← asAddr (tmps.getD a undef))
theorem results_eq (fn : Func) (tmps : Array Value) : results fn tmps = (do
    let vs ← fn.results.mapM (resOf tmps)
    pure (if h : vs.size = 1 then vs[0] else .tuple vs)) := by
  unfold results
  congr 1
theorem results_ok (hA : ActRel E a A) (R : Rel w0 E s w) {fn : Func} {v : SV} (h : xresult P fn a s = some v) : ∃ V, v.den E = some V ∧ (results fn A.tmps).run P w = .ok V w := by
  have one : ∀ (r : ResultVar) (v : SV), xres1 P a s r = some v → ∃ V, v.den E = some V ∧ (resOf A.tmps r).run P w = .ok V w := by
    intro r v hv
    cases r with
    | tmp t =>
      obtain ⟨V, h1, h2⟩ := hA.tm t v hv
      exact ⟨V, h1, by simp [resOf, h2]⟩
    | cell p t =>
      simp only [xres1] at hv
      split at hv
      · rename_i u hu
        obtain ⟨U, h1, h2⟩ := hA.tm p u hu
        obtain ⟨V, h3, h4⟩ := xload_ok (P := P) R.mem hv h1
        refine ⟨V, h3, ?_⟩
        have hU : ∃ ad, U = .pointer (some ad) := by
          unfold xload at hv
          split at hv
          · obtain ⟨_, _, _, _, rfl⟩ := den_ptr h1; exact ⟨_, rfl⟩
          · cases hv
        obtain ⟨ad, rfl⟩ := hU
        simp only [Instr.loadAt, Instr.sureAddr, Sem.run_bind, Sem.run_pure, Result.andThen_ok] at h4
        simp [resOf, h2, asAddr, h4]
      · cases hv
  have many : ∀ (l : List ResultVar) (vs : List SV), optL (xres1 P a s) l = some vs → ∃ L, SV.denL E vs = some L ∧ L.length = l.length ∧ (l.mapM (resOf A.tmps) : Sem (List Value)).run P w = .ok L w := by
    intro l
    induction l with
    | nil => intro vs h; simp only [optL, Option.some.injEq] at h; subst h; exact ⟨[], rfl, rfl, by simp⟩
    | cons r l ih =>
      intro vs h
      simp only [optL] at h
      split at h
      · rename_i u hu
        split at h
        · rename_i us hus
          cases h
          obtain ⟨V, h1, h2⟩ := one r u hu
          obtain ⟨L, h3, h4, h5⟩ := ih us hus
          refine ⟨V :: L, denL_cons h1 h3, by simp [h4], ?_⟩
          simp only [List.mapM_cons, Sem.run_bind, h2, Result.andThen_ok, h5, Sem.run_pure]
        · cases h
      · cases h
  have hm : ∀ (L : List Value), (fn.results.toList.mapM (resOf A.tmps) : Sem (List Value)).run P w = .ok L w → (results fn A.tmps).run P w = .ok (if h : L.toArray.size = 1 then L.toArray[0] else .tuple L.toArray) w := by
    intro L hL
    rw [results_eq, Array.mapM_eq_mapM_toList]
    simp only [Sem.run_bind, Sem.run_map, hL, Result.andThen_ok, Sem.run_pure]
  unfold xresult at h
  split at h
  · rename_i r hr
    obtain ⟨V, h1, h2⟩ := one r v h
    refine ⟨V, h1, ?_⟩
    have := hm [V] (by
      rw [hr]
      simp only [List.mapM_cons, List.mapM_nil, Sem.run_bind, h2, Result.andThen_ok, Sem.run_pure])
    simpa using this
  · rename_i hne
    split at h
    · rename_i vs hvs
      cases h
      obtain ⟨L, h1, h2, h3⟩ := many _ _ hvs
      refine ⟨.tuple L.toArray, by simp [SV.den, h1], ?_⟩
      rw [hm L h3]
      have : ¬ L.toArray.size = 1 := by
        intro e
        have e2 : fn.results.toList.length = 1 := by rw [← h2]; simpa using e
        match hl : fn.results.toList, e2 with
        | [r], _ => exact hne r hl
      rw [dif_neg this]
    · cases h
def initT : List SV → Nat → Frame → Frame
  | [], _, t => t
  | v :: l, i, t => initT l (i + 1) (t.put i v)
theorem initT_get : ∀ (l : List SV) (i : Nat) (t : Frame) (j : Nat), (initT l i t).get j = if i ≤ j ∧ j < i + l.length then l[j - i]? else t.get j
  | [], i, t, j => by simp only [initT, List.length_nil]; rw [if_neg (by omega)]
  | v :: l, i, t, j => by
    simp only [initT]
    rw [initT_get l (i + 1), Frame.get_put]
    simp only [List.length_cons]
    by_cases h1 : i = j
    · subst h1
      rw [if_neg (by omega), if_pos rfl, if_pos (by omega)]
      simp
    · rw [if_neg h1]
      by_cases h2 : i + 1 ≤ j ∧ j < i + 1 + l.length
      · rw [if_pos h2, if_pos (by omega)]
        have : j - i = (j - (i + 1)) + 1 := by omega
        rw [this, List.getElem?_cons_succ]
      · rw [if_neg h2, if_neg (by omega)]
abbrev Contracts := FuncId → Option (List SV → St → Option (List (SV × St)))
def stepExec (P : Program) (F : Fs) (c : Code) (a : SAct) (s : St) : Option (List (SExit × SAct × St)) :=
  match c with
  | .skip => some [(.normal, a, s)]
  | .label _ => some [(.normal, a, s)]
  | .ret => some [(.ret, a, s)]
  | .exit id => some [(.exit id, a, s)]
  | .region _ ops draw =>
    match (match draw with | true => execDraw P F ops a s | false => execList P F ops ops.toList a s) with
    | some outs => some (asNormal outs)
    | none => none
  | .seq x y => match F.exec x a s with
    | some outs => bindL outs fun p => match p.1 with
      | .normal => F.exec y p.2.1 p.2.2
      | e => some [p]
    | none => none
  | .cond c x y => match a.ev c with
    | some (.bool b) => bindL (ways s.asm b) fun p => match p.1 with
      | true => F.exec x a { s with asm := p.2 }
      | false => F.exec y a { s with asm := p.2 }
    | _ => none
  | .block id c => match F.exec c a s with
    | some outs => some (leaveBlock id outs)
    | none => none
  | .loop c => match F.exec c a s with
    | some outs => bindL outs fun p => match p.1 with
      | .normal => F.exec (.loop c) p.2.1 p.2.2
      | e => some [p]
    | none => none
  | .scope c => F.exec c a s
  | _ => none
def outsOf (P : Program) (fn : Func) : List (SExit × SAct × St) → Option (List (SV × St))
  | [] => some []
  | (e, a, s) :: l => match (match e with | .exit _ => none | _ => xresult P fn a s), outsOf P fn l with
    | some v, some m => some ((v, s) :: m)
    | _, _ => none
def stepCall (P : Program) (C : Contracts) (F : Fs) (f : FuncId) (args : List SV) (s : St) : Option (List (SV × St)) :=
  match C f with
  | some g => g args s
  | none => match P.funcs[f]? with
    | some fn => match fn.body with
      | some c => match F.exec c { tm := initT args 0 .empty, n := max args.length fn.ntmps } s with
        | some outs => outsOf P fn outs
        | none => none
      | none => none
    | none => none
def fs (P : Program) (C : Contracts) : Nat → Fs
  | 0 => ⟨fun _ _ _ => none, fun _ _ _ => none⟩
  | n + 1 => ⟨stepExec P (fs P C n), stepCall P C (fs P C n)⟩
theorem outsOf_mem {fn : Func} : ∀ {l : List (SExit × SAct × St)} {outs : List (SV × St)} {e : SExit} {a : SAct} {s : St}, outsOf P fn l = some outs → (e, a, s) ∈ l → (∀ i, e ≠ .exit i) ∧ ∃ v, xresult P fn a s = some v ∧ (v, s) ∈ outs := by
  intro l
  induction l with
  | nil => intro outs e a s h hm; cases hm
  | cons x l ih =>
    intro outs e a s h hm
    obtain ⟨e0, a0, s0⟩ := x
    simp only [outsOf] at h
    split at h
    · rename_i v m h1 h2
      cases h
      rcases List.mem_cons.1 hm with x | x
      · cases x
        cases e with
        | exit i => cases h1
        | normal => exact ⟨fun i e => (by cases e), v, h1, List.mem_cons_self⟩
        | ret => exact ⟨fun i e => (by cases e), v, h1, List.mem_cons_self⟩
      · obtain ⟨k1, v', k2, k3⟩ := ih h2 x
        exact ⟨k1, v', k2, List.mem_cons_of_mem _ k3⟩
    · cases h
theorem Post.weaken {E E' : Env} {outs outs' : List (SExit × SAct × St)} (le : E.Le E') (h : ∀ p ∈ outs', p ∈ outs) {e : Exit} {A : Act} {w : World} (hp : Post w0 E' outs' e A w) : Post w0 E outs e A w := by
  obtain ⟨se, a, s, E2, h1, h2, h3, h4, h5⟩ := hp
  exact ⟨se, a, s, E2, h _ h1, h2, le.trans h3, h4, h5⟩
theorem Post.noPanic {outs : List (SExit × SAct × St)} {c : List PanicEntry} {A : Act} {w : World} (h : Post w0 E outs (.panic c) A w) : False := by
  obtain ⟨se, a, s, E2, h1, h2, -⟩ := h
  cases se <;> exact h2.elim
theorem exec_seq_like {x : Code} {outs o1 : List (SExit × SAct × St)} {g : SAct → St → Option (List (SExit × SAct × St))} (h : (bindL o1 fun p => match p.1 with | .normal => g p.2.1 p.2.2 | e => some [p]) = some outs) {K : Act → World → Prop}
    (hK : ∀ a s E' A w outs', g a s = some outs' → E.Le E' → ActRel E' a A → Rel w0 E' s w → (∀ p ∈ outs', p ∈ outs) → K A w) {e : Exit} {A : Act} {w : World} (hp : Post w0 E o1 e A w) : Exit.then K (Post w0 E outs) e A w := by
  obtain ⟨se, a, s, E2, h1, h2, h3, h4, h5⟩ := hp
  obtain ⟨ys, q1, q2⟩ := bindL_mem h h1
  cases se with
  | normal =>
    cases e <;> simp only [ExOk] at h2
    exact hK a s E2 A w ys q1 h3 h4 h5 q2
  | exit i =>
    cases e <;> simp only [ExOk] at h2
    subst h2
    simp only [Option.some.injEq] at q1
    subst q1
    exact ⟨.exit i, a, s, E2, q2 _ (by simp), rfl, h3, h4, h5⟩
  | ret =>
    cases e <;> simp only [ExOk] at h2
    simp only [Option.some.injEq] at q1
    subst q1
    exact ⟨.ret, a, s, E2, q2 _ (by simp), trivial, h3, h4, h5⟩
theorem stepExec_ok (hF : FsOk P F) : ∀ {c : Code}, (∀ x, c ≠ .loop x) → ∀ {a : SAct} {s : St} {outs : List (SExit × SAct × St)}, stepExec P F c a s = some outs → ∀ {w0 : World} {E : Env} {A : Act} {w : World}, ActRel E a A → Rel w0 E s w → c.wp P (Post w0 E outs) A w := by
  intro c hnl a s outs h w0 E A w hA R
  cases c with
  | skip =>
    simp only [stepExec, Option.some.injEq] at h; subst h
    exact wp_skip ⟨.normal, a, s, E, by simp, trivial, .refl E, hA, R⟩
  | label l =>
    simp only [stepExec, Option.some.injEq] at h; subst h
    exact wp_label ⟨.normal, a, s, E, by simp, trivial, .refl E, hA, R⟩
  | ret =>
    simp only [stepExec, Option.some.injEq] at h; subst h
    exact wp_ret ⟨.ret, a, s, E, by simp, trivial, .refl E, hA, R⟩
  | exit id =>
    simp only [stepExec, Option.some.injEq] at h; subst h
    exact wp_exit ⟨.exit id, a, s, E, by simp, rfl, .refl E, hA, R⟩
  | region id ops draw =>
    simp only [stepExec] at h
    split at h
    · rename_i o1 ho1
      cases h
      have fin : ∀ a' s' E' A' w', (a', s') ∈ o1 → E.Le E' → ActRel E' a' A' → Rel w0 E' s' w' → Post w0 E (asNormal o1) .normal A' w' := fun a' s' E' A' w' hm le hA' R' =>
        ⟨.normal, a', s', E', List.mem_map.2 ⟨_, hm, rfl⟩, trivial, le, hA', R'⟩
      cases draw with
      | true => exact execDraw_ok hF hA R ho1 (fun v d c a w hp => (hp.noPanic).elim) fin id
      | false => exact wp_region_list (execList_ok hF hA R ho1 fin)
    · cases h
  | seq x y =>
    simp only [stepExec] at h
    split at h
    · rename_i o1 ho1
      refine wp_seq (wp_mono (hF.exec x a s o1 ho1 w0 E A w hA R) fun e A' w' hp => ?_)
      exact exec_seq_like (x := x) h (fun a' s' E' A' w' outs' hg le hA' R' hsub => wp_mono (hF.exec y a' s' outs' hg w0 E' A' w' hA' R') fun e A2 w2 hp2 => hp2.weaken le hsub) hp
    · cases h
  | cond c x y =>
    simp only [stepExec] at h
    split at h
    · rename_i b hb
      obtain ⟨z, h1, hC⟩ := den_bool (ev_ok hA hb)
      obtain ⟨asm', h3, h4⟩ := ways_ok R.asm h1
      obtain ⟨ys, q1, q2⟩ := bindL_mem h h3
      refine wp_cond hC ?_
      cases z with
      | true => exact wp_mono (hF.exec x a _ ys q1 w0 E A w hA (R.setAsm h4)) fun e A2 w2 hp2 => hp2.weaken (.refl E) q2
      | false => exact wp_mono (hF.exec y a _ ys q1 w0 E A w hA (R.setAsm h4)) fun e A2 w2 hp2 => hp2.weaken (.refl E) q2
    · cases h
  | block id c =>
    simp only [stepExec] at h
    split at h
    · rename_i o1 ho1
      cases h
      refine wp_block (wp_mono (hF.exec c a s o1 ho1 w0 E A w hA R) fun e A' w' hp => ?_)
      obtain ⟨se, a', s', E2, h1, h2, h3, h4, h5⟩ := hp
      have hm : leave1 id (se, a', s') ∈ leaveBlock id o1 := List.mem_map.2 ⟨_, h1, rfl⟩
      cases se with
      | normal =>
        cases e <;> simp only [ExOk] at h2
        exact ⟨.normal, a', s', E2, hm, trivial, h3, h4, h5⟩
      | ret =>
        cases e <;> simp only [ExOk] at h2
        exact ⟨.ret, a', s', E2, hm, trivial, h3, h4, h5⟩
      | exit i =>
        cases e <;> simp only [ExOk] at h2
        subst h2
        simp only [leave1] at hm
        simp only [Exit.inBlock]
        split
        · rename_i e; subst e
          rw [Nat.beq_refl] at hm
          exact ⟨.normal, a', s', E2, hm, trivial, h3, h4, h5⟩
        · rename_i e
          have : Nat.beq i id = false := by
            cases hb : Nat.beq i id with
            | false => rfl
            | true => exact (e (Nat.eq_of_beq_eq_true hb)).elim
          rw [this] at hm
          exact ⟨.exit i, a', s', E2, hm, rfl, h3, h4, h5⟩
    · cases h
  | loop c => exact (hnl c rfl).elim
  | scope c =>
    simp only [stepExec] at h
    refine wp_scope_straight (wp_mono (hF.exec c a s outs h w0 E A w hA R) fun e A' w' hp => ?_)
    cases e with
    | goto l => obtain ⟨se, a', s', E2, h1, h2, -⟩ := hp; cases se <;> exact h2.elim
    | _ => exact hp
  | _ => simp only [stepExec] at h; cases h
end
end Go.Sx
