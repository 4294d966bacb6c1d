/-
  A symbolic run of Go functions by computation (part 12): regions, code, calls.
-/
import Derived.Test.YtkckgjjhnjcffaaSxB
namespace Go.Sx
set_option linter.unusedVariables false
set_option linter.unusedSimpArgs false

/-! ### ways, one behind the other -/
def bindL {α β : Type} : List α → (α → Option (List β)) → Option (List β)
  | [], _ => some []
  | x :: l, f =>
    match l with
    | [] => f x
    | _ :: _ => match f x, bindL l f with
      | some ys, some zs => some (ys ++ zs)
      | _, _ => none
theorem bindL_mem {α β : Type} {f : α → Option (List β)} : ∀ {l : List α} {outs : List β} {x : α}, bindL l f = some outs → x ∈ l → ∃ ys, f x = some ys ∧ ∀ y ∈ ys, y ∈ outs
  | [], outs, x, _, hx => by cases hx
  | y :: l, outs, x, h, hx => by
    unfold bindL at h
    split at h
    · simp at hx; subst hx
      exact ⟨outs, h, fun y hy => hy⟩
    · split at h
      · rename_i ys zs hy hz
        cases h
        rcases List.mem_cons.1 hx with rfl | hx
        · exact ⟨ys, hy, fun z hz => List.mem_append.2 (.inl hz)⟩
        · obtain ⟨us, h1, h2⟩ := bindL_mem hz hx
          exact ⟨us, h1, fun z hz => List.mem_append.2 (.inr (h2 z hz))⟩
      · cases h

inductive SExit where
  | normal
  | exit (id : Nat)
  | ret
structure Fs where
  exec : Code → SAct → St → Option (List (SExit × SAct × St))
  call : FuncId → List SV → St → Option (List (SV × St))
def ExOk : SExit → Exit → Prop
  | .normal, .normal => True
  | .exit i, .exit j => i = j
  | .ret, .ret => True
  | _, _ => False
def Post (w0 : World) (E : Env) (outs : List (SExit × SAct × St)) : Exit → Act → World → Prop := fun e A w =>
  ∃ se a s E', (se, a, s) ∈ outs ∧ ExOk se e ∧ E.Le E' ∧ ActRel E' a A ∧ Rel w0 E' s w
def CallPost (w0 : World) (E : Env) (outs : List (SV × St)) : Ending → World → Prop := fun e w =>
  ∃ v s E' V, (v, s) ∈ outs ∧ E.Le E' ∧ v.den E' = some V ∧ e = .returned V ∧ Rel w0 E' s w
/-- What a call of f comes to. -/
def CallOk (P : Program) (f : FuncId) (args : List SV) (s : St) (outs : List (SV × St)) : Prop :=
  ∀ w0 E w ARGS, SV.denL E args = some ARGS → Rel w0 E s w → Calls P f ARGS.toArray w (CallPost w0 E outs)
structure FsOk (P : Program) (F : Fs) : Prop where
  exec : ∀ c a s outs, F.exec c a s = some outs → ∀ w0 E A w, ActRel E a A → Rel w0 E s w → c.wp P (Post w0 E outs) A w
  call : ∀ f args s outs, F.call f args s = some outs → CallOk P f args s outs

/-! ### one operation -/
def guardOn (ops : Array Oper) (a : SAct) (o : Oper) : Option BX :=
  match o.guard with
  | none => some (.lit true)
  | some (j, want) =>
    match (ops[j]?).bind (·.dst) with
    | none => some (.lit false)
    | some t => match a.tm.get t with
      | some (.bool b) => some (match want with | true => b | false => mkNot b)
      | some (.tup _) => some (.lit false)
      | _ => none
def plainFunc (P : Program) (f : FuncId) : Bool :=
  match P.funcs[f]? with
  | some fn => !(fn.name == "runtime.NumGoroutine") && fn.body.isSome
  | none => false
/-- The method of a type, by name, that needs no way to its receiver. -/
def methodOf (P : Program) (t : TypeId) (name : String) : Option FuncId :=
  match P.info? t with
  | some i => match i.methods.find? (·.name == name) with
    | some m => match m.path.isEmpty, m.func, P.underlying t with
      | true, some (f, true), some (.pointer _) => some f
      | true, some (f, false), some (.pointer _) => none
      | true, some (f, false), some _ => some f
      | _, _, _ => none
    | none => none
  | none => none
def callOf (P : Program) (a : SAct) (o : Oper) : Option (FuncId × List SV) :=
  match o.op with
  | .call { callee := .value x, args := args, argTypes := _ } => match a.ev x, evL a args.toList with
    | some (.func (.func f) first cap), some l => match plainFunc P f with
      | true => some (f, first ++ (l ++ cap))
      | false => none
    | _, _ => none
  | .call { callee := .invoke x name, args := args, argTypes := _ } => match a.ev x, evL a args.toList with
    | some (.iface t v), some l => match methodOf P t name with
      | some f => match plainFunc P f with
        | true => some (f, v :: l)
        | false => none
      | none => none
    | _, _ => none
  | _ => none
def putAll (a : SAct) (d : Option Tmp) : List (SV × St) → Option (List (SAct × St))
  | [] => some []
  | (v, s) :: l => match a.put d v, putAll a d l with
    | some a', some m => some ((a', s) :: m)
    | _, _ => none
def withAsm (s : St) (l : List (SV × Asm)) : List (SV × St) := l.map fun p => (p.1, { s with asm := p.2 })
def runOp (P : Program) (F : Fs) (a : SAct) (s : St) (o : Oper) : Option (List (SAct × St)) :=
  match xPure P s.h s.asm a o with
  | some outs => putAll a o.dst (withAsm s outs)
  | none => match callOf P a o with
    | some (f, args) => match F.call f args s with
      | some outs => putAll a o.dst outs
      | none => none
    | none => match xEff P s a o with
      | some outs => putAll a o.dst outs
      | none => none
def opStep (P : Program) (F : Fs) (ops : Array Oper) (a : SAct) (s : St) (o : Oper) : Option (List (SAct × St)) :=
  match o.guard with
  | none => runOp P F a s o
  | some _ => match guardOn ops a o with
    | some g => bindL (ways s.asm g) fun p => match p.1 with
      | true => runOp P F a { s with asm := p.2 } o
      | false => putAll a o.dst [(skipV, { s with asm := p.2 })]
    | none => none
section
variable {P : Program} {w0 w : World} {E : Env} {s : St} {a : SAct} {A : Act} {F : Fs}
theorem guardOn_ok {ops : Array Oper} (hA : ActRel E a A) {o : Oper} {g : BX} (h : guardOn ops a o = some g) : ∃ z, g.den E = some z ∧ Region.wanted o (yielded ops A.tmps) = z := by
  unfold guardOn at h
  split at h
  · rename_i hg
    cases h
    exact ⟨true, rfl, by simp [Region.wanted, hg]⟩
  · rename_i j want hg
    split at h
    · rename_i hj
      cases h
      refine ⟨false, rfl, ?_⟩
      simp [Region.wanted, hg, yielded, hj]
    · rename_i t hj
      split at h
      · rename_i b hb
        cases h
        obtain ⟨V, h1, h2⟩ := hA.tm t _ hb
        obtain ⟨z, hz, rfl⟩ := den_bool h1
        cases want with
        | true => exact ⟨z, hz, by simp [Region.wanted, hg, yielded, hj, h2]⟩
        | false => exact ⟨!z, mkNot_ok hz, by cases z <;> simp [Region.wanted, hg, yielded, hj, h2]⟩
      · rename_i l hb
        cases h
        obtain ⟨V, h1, h2⟩ := hA.tm t _ hb
        obtain ⟨L, hL, rfl⟩ := den_tup h1
        exact ⟨false, rfl, by simp [Region.wanted, hg, yielded, hj, h2]⟩
      · cases h
theorem putAll_mem {d : Option Tmp} : ∀ {l : List (SV × St)} {outs : List (SAct × St)} {v : SV} {s : St}, putAll a d l = some outs → (v, s) ∈ l → ∃ a', a.put d v = some a' ∧ (a', s) ∈ outs
  | [], outs, v, s, _, hm => by cases hm
  | (v0, s0) :: l, outs, v, s, h, hm => by
    simp only [putAll] at h
    split at h
    · rename_i a' m h1 h2
      cases h
      rcases List.mem_cons.1 hm with e | e
      · cases e; exact ⟨a', h1, List.mem_cons_self⟩
      · obtain ⟨a2, h3, h4⟩ := putAll_mem h2 e
        exact ⟨a2, h3, List.mem_cons_of_mem _ h4⟩
    · cases h
theorem run_plain {f : FuncId} (h : plainFunc P f = true) (args : Array Value) (w : World) : (callFunc f args).run P w = .ok (.enter f args) w := by
  unfold plainFunc at h
  split at h
  · rename_i fn hf
    simp only [Bool.and_eq_true, Bool.not_eq_true', beq_eq_false_iff_ne] at h
    obtain ⟨c, hc⟩ := Option.isSome_iff_exists.1 h.2
    simp [callFunc, hf, h.1, hc]
  · cases h
theorem methodOf_ok {t : TypeId} {name : String} {f : FuncId} (h : methodOf P t name = some f) (V : Value) (n : Nat) (w : World) : (method (n + 1) t V name).run P w = .ok (f, V) w := by
  unfold methodOf at h
  split at h
  · rename_i i hi
    split at h
    · rename_i m hm
      have key : ∀ (pr : Bool) (d : TypeDesc), m.path.isEmpty = true → m.func = some (f, pr) → P.underlying t = some d → ((∃ e, d = .pointer e) ∧ pr = true ∨ (∀ e, d ≠ .pointer e) ∧ pr = false) → (method (n + 1) t V name).run P w = .ok (f, V) w := by
        intro pr d hp hf hu hd
        have hp' : m.path.toList = [] := by
          have : m.path = #[] := Array.isEmpty_iff.1 hp
          rw [this]
        simp only [method, Sem.run_bind, run_info hi, Result.andThen_ok, hm, hp', follow, Sem.run_pure, hf, hp, if_true]
        rcases hd with ⟨⟨e, rfl⟩, rfl⟩ | ⟨hd, rfl⟩
        · simp [receiverAt, run_underlying hu, Place.get]
        · simp only [receiverAt, Sem.run_bind, run_underlying hu, Result.andThen_ok]
          cases d <;> first | (exfalso; exact hd _ rfl) | simp [Place.get]
      split at h
      · rename_i hp hf hu
        cases h
        exact key true _ hp hf hu (.inl ⟨⟨_, rfl⟩, rfl⟩)
      · cases h
      · rename_i d hni hp hf hu
        cases h
        refine key false d hp hf hu (.inr ⟨fun e he => ?_, rfl⟩)
        subst he
        first | exact hni _ rfl | exact hni _ _ rfl rfl | simp_all
      · cases h
    · cases h
  · cases h
theorem callOf_ok (hA : ActRel E a A) {o : Oper} {f : FuncId} {args : List SV} (h : callOf P a o = some (f, args)) (w : World) : ∃ ARGS, SV.denL E args = some ARGS ∧ (execOp A.eval o).run P w = .ok (.enter f ARGS.toArray) w := by
  unfold callOf at h
  split at h
  · rename_i x xs tys ho
    split at h
    · rename_i f' first cap l hx hl
      split at h
      · rename_i hp
        cases h
        obtain ⟨L, M, h1, h2, hX⟩ := den_func (ev_ok hA hx)
        have h3 := evL_ok hA hl
        refine ⟨L ++ (xs.toList.map A.eval ++ M), denL_append h1 (denL_append h3 h2), ?_⟩
        have hargs : L.toArray ++ xs.map A.eval ++ M.toArray = (L ++ (xs.toList.map A.eval ++ M)).toArray := by apply Array.ext'; simp
        simp only [execOp, ho, resolve, hX, Deferred.ofValue, Sem.run_bind, Sem.run_pure, Result.andThen_ok, invoke]
        rw [run_plain hp, hargs]
      · cases h
    · cases h
  · rename_i x name xs tys ho
    split at h
    · rename_i t v l hx hl
      split at h
      · rename_i f' hm
        split at h
        · rename_i hp
          cases h
          obtain ⟨V, h1, hX⟩ := den_iface (ev_ok hA hx)
          have h3 := evL_ok hA hl
          refine ⟨V :: xs.toList.map A.eval, denL_cons h1 h3, ?_⟩
          have hargs : #[V] ++ (#[A.eval x] ++ xs.map A.eval).extract 1 (#[A.eval x] ++ xs.map A.eval).size = (V :: xs.toList.map A.eval).toArray := by
            apply Array.ext'
            simp
            exact List.take_of_length_le (by simp)
          have hz : ((#[A.eval x] ++ xs.map A.eval)[0]? : Option Value) = some (.iface t V) := by rw [hX, Array.getElem?_append_left (by simp)]; rfl
          have hsz : P.types.size + Made.depth = (P.types.size + 99) + 1 := rfl
          simp only [execOp, ho, resolve, Sem.run_bind, Sem.run_pure, Result.andThen_ok, invoke, hz, callMethod, run_program, hsz, methodOf_ok hm]
          rw [run_plain hp, hargs]
        · cases h
      · cases h
    · cases h
  · cases h
/-- One operation, in whatever it goes on with. -/
theorem runOp_ok (hF : FsOk P F) (hA : ActRel E a A) (R : Rel w0 E s w) {o : Oper} {outs : List (SAct × St)} (h : runOp P F a s o = some outs) {K : Act → World → Prop} {Q : Exit → Act → World → Prop}
    (hK : ∀ a' s' E' A' w', (a', s') ∈ outs → E.Le E' → ActRel E' a' A' → Rel w0 E' s' w' → K A' w') : o.wp P A w K Q := by
  unfold runOp at h
  split at h
  · rename_i o1 ho1
    obtain ⟨v, asm', V, h1, h2, h3, h4⟩ := xPure_ok R.mem R.asm hA ho1
    have hm : (v, { s with asm := asm' }) ∈ withAsm s o1 := List.mem_map.2 ⟨_, h1, rfl⟩
    obtain ⟨a', p1, p2⟩ := putAll_mem h hm
    unfold Oper.wp
    rw [h4, Oper.upon_value]
    exact hK _ _ E _ _ p2 (.refl E) (put_ok hA p1 h3) (R.setAsm h2)
  · split at h
    · rename_i f args hc
      split at h
      · rename_i o1 ho1
        obtain ⟨ARGS, h1, h2⟩ := callOf_ok (P := P) hA hc w
        unfold Oper.wp
        rw [h2, Oper.upon_enter]
        refine (hF.call f args s o1 ho1 w0 E w ARGS h1 R).mono fun e w' he => ?_
        obtain ⟨v, s', E', V, q1, q2, q3, rfl, q5⟩ := he
        obtain ⟨a', p1, p2⟩ := putAll_mem h q1
        exact hK _ _ E' _ _ p2 q2 (put_ok (hA.mono q2) p1 q3) q5
      · cases h
    · split at h
      · rename_i o1 ho1
        obtain ⟨v, s', E', V, w', q1, q2, q3, q4, q5⟩ := xEff_ok R hA ho1
        obtain ⟨a', p1, p2⟩ := putAll_mem h q1
        have hk := hK _ _ E' _ _ p2 q2 (put_ok (hA.mono q2) p1 q4) q3
        unfold Oper.wp
        rcases q5 with q5 | ⟨q5, rfl⟩
        · rw [q5, Oper.upon_value]; exact hk
        · rw [q5, Oper.upon_skip]; exact hk
      · cases h
theorem opStep_ok (hF : FsOk P F) {ops : Array Oper} (hA : ActRel E a A) (R : Rel w0 E s w) {o : Oper} {outs : List (SAct × St)} (h : opStep P F ops a s o = some outs) {K : Act → World → Prop} {Q : Exit → Act → World → Prop}
    (hK : ∀ a' s' E' A' w', (a', s') ∈ outs → E.Le E' → ActRel E' a' A' → Rel w0 E' s' w' → K A' w') : if Region.wanted o (yielded ops A.tmps) then o.wp P A w K Q else K (A.put o.dst undef) w := by
  unfold opStep at h
  split at h
  · rename_i hg
    rw [if_pos (by simp [Region.wanted, hg])]
    exact runOp_ok hF hA R h hK
  · split at h
    · rename_i g hg
      obtain ⟨z, h1, h2⟩ := guardOn_ok hA hg
      obtain ⟨asm', h3, h4⟩ := ways_ok R.asm h1
      obtain ⟨ys, h5, h6⟩ := bindL_mem h h3
      rw [h2]
      cases z with
      | true =>
        rw [if_pos rfl]
        exact runOp_ok hF hA (R.setAsm h4) h5 (fun a' s' E' A' w' hm => hK a' s' E' A' w' (h6 _ hm))
      | false =>
        rw [if_neg (by simp)]
        obtain ⟨a', p1, p2⟩ := putAll_mem h5 (List.mem_singleton.2 rfl)
        exact hK _ _ E _ _ (h6 _ p2) (.refl E) (put_ok hA p1 (skipV_den E)) (R.setAsm h4)
    · cases h
def execList (P : Program) (F : Fs) (ops : Array Oper) : List Oper → SAct → St → Option (List (SAct × St))
  | [], a, s => some [(a, s)]
  | o :: l, a, s => match opStep P F ops a s o with
    | some outs => bindL outs fun p => execList P F ops l p.1 p.2
    | none => none
theorem execList_ok (hF : FsOk P F) {ops : Array Oper} : ∀ {l : List Oper} {a : SAct} {s : St} {E : Env} {A : Act} {w : World} {outs : List (SAct × St)}, ActRel E a A → Rel w0 E s w → execList P F ops l a s = some outs → ∀ {Q : Exit → Act → World → Prop},
    (∀ a' s' E' A' w', (a', s') ∈ outs → E.Le E' → ActRel E' a' A' → Rel w0 E' s' w' → Q .normal A' w') → wpList P ops Q l A w
  | [], a, s, E, A, w, outs, hA, R, h, Q, hQ => by
    simp only [execList, Option.some.injEq] at h
    subst h
    exact wpList_nil (hQ a s E A w (by simp) (.refl E) hA R)
  | o :: l, a, s, E, A, w, outs, hA, R, h, Q, hQ => by
    simp only [execList] at h
    split at h
    · rename_i o1 ho1
      refine wpList_step fun K hK => opStep_ok hF hA R ho1 fun a' s' E' A' w' hm le hA' R' => ?_
      obtain ⟨ys, h1, h2⟩ := bindL_mem h hm
      exact hK _ _ (execList_ok hF hA' R' h1 fun a2 s2 E2 A2 w2 hm2 le2 => hQ a2 s2 E2 A2 w2 (h2 _ hm2) (le.trans le2))
    · cases h

/-! ### a region that draws its order -/
def pureKind (o : Oper) : Bool :=
  match o.op with
  | .move _ | .assign _ | .pick .. | .build .. | .load .. | .nilCheck _ | .binOp .. | .unOp .. | .convert .. | .makeInterface .. | .makeFunc .. | .slice .. | .fieldAddr .. | .field .. | .indexAddr .. | .index .. | .lookup .. | .typeAssert .. | .extract .. => true
  | .call { callee := .builtin b, .. } => match b with
    | .len | .cap | .max | .min => true
    | _ => false
  | _ => false
def makesVar (o : Oper) : Bool :=
  match o.op with
  | .alloc _ | .box .. => true
  | _ => false
def xTake (P : Program) (h : T SObj) (asm : Asm) (a : SAct) (o : Oper) : Option (List (SV × Asm)) :=
  match o.op with
  | .pick c x y => xpick a asm c x y
  | _ => match xPure P h asm a o with
    | some [p] => some [p]
    | _ => none
theorem xTake_ok {h : T SObj} {asm : Asm} (ha : AsmOk E asm) (hA : ActRel E a A) {o : Oper} {outs : List (SV × Asm)} (e : xTake P h asm a o = some outs) {S : World → Prop} (hS : ∀ w, S w → Mem E h w) (hw : S w) :
    ∃ v asm' V, (v, asm') ∈ outs ∧ AsmOk E asm' ∧ v.den E = some V ∧ ∀ w', S w' → (execOp A.eval o).run P w' = .ok (.value V) w' := by
  unfold xTake at e
  split at e
  · rename_i c x y ho
    have h0 : xPure P h asm a o = some outs := by rw [xPure_eq]; simp only [xPure0, ho]; exact e
    obtain ⟨v, asm', V, h1, h2, h3, h4⟩ := xPure_ok (hS w hw) ha hA h0
    refine ⟨v, asm', V, h1, h2, h3, fun w' _ => ?_⟩
    -- a pick does not look at the world
    unfold xpick at e
    have key : ∀ z, A.eval c = .bool z → (execOp A.eval o).run P w' = .ok (.value V) w' := by
      intro z hz
      have e1 : ∀ w, (execOp A.eval o).run P w = .ok (.value (if z then A.eval x else A.eval y)) w := fun w => by simp [execOp, ho, hz, asBool]
      rw [e1] at h4
      cases h4
      exact e1 w'
    split at e
    · rename_i hc; obtain ⟨b, hb, hC⟩ := den_bool (ev_ok hA hc); exact key _ hC
    · rename_i hc; obtain ⟨b, hb, hC⟩ := den_bool (ev_ok hA hc); exact key _ hC
    · rename_i hc; obtain ⟨b, hb, hC⟩ := den_bool (ev_ok hA hc); exact key _ hC
    · cases e
  · split at e
    · rename_i p hp
      cases e
      obtain ⟨v, asm', V, h1, h2, h3, h4⟩ := xPure_ok (hS w hw) ha hA hp
      refine ⟨v, asm', V, h1, h2, h3, fun w' hw' => ?_⟩
      obtain ⟨v2, asm2, V2, k1, k2, k3, k4⟩ := xPure_ok (hS w' hw') ha hA hp
      simp only [List.mem_singleton] at h1 k1
      rw [← h1] at k1
      cases k1
      rw [h3] at k3
      cases k3
      exact k4
    · cases e
/-- An operation that is taken ahead: it looks at nothing but these blocks. -/
def takeStep (P : Program) (h : T SObj) (ops : Array Oper) (a : SAct) (s : St) (o : Oper) : Option (List (SAct × St)) :=
  match guardOn ops a o with
  | some g => bindL (ways s.asm g) fun p => match p.1 with
    | true => match xTake P h p.2 a o with
      | some outs => putAll a o.dst (withAsm s outs)
      | none => none
    | false => putAll a o.dst [(skipV, { s with asm := p.2 })]
  | none => none
def varAt (P : Program) (a : SAct) (s : St) (o : Oper) (id : Nat) : Option (List (SV × St)) :=
  match o.op with
  | .alloc t => match xzero P t with
    | some z => some [(.ptr id 0, { s with h := s.h.put id (.cells (.node .nil (some (cellsOf z)) .nil) 1 (cellsOf z).length t false false), resv := s.resv.filter fun j => !Nat.beq j id })]
    | none => none
  | .box t x => match a.ev x with
    | some v => some [(.ptr id 0, { s with h := s.h.put id (.cells (.node .nil (some (cellsOf v)) .nil) 1 (cellsOf v).length t false false), resv := s.resv.filter fun j => !Nat.beq j id })]
    | none => none
  | _ => none
def stepAt (P : Program) (F : Fs) (ops : Array Oper) (a : SAct) (s : St) (o : Oper) (id : Option Nat) : Option (List (SAct × St)) :=
  match id with
  | none => opStep P F ops a s o
  | some id => match s.resv.contains id, guardOn ops a o with
    | true, some g => bindL (ways s.asm g) fun p => match p.1 with
      | true => match varAt P a { s with asm := p.2 } o id with
        | some outs => putAll a o.dst outs
        | none => none
      | false => putAll a o.dst [(skipV, { s with asm := p.2 })]
    | _, _ => none
def St.beq (s t : St) : Bool := Nat.beq s.next t.next && (decide (s.asm = t.asm) && (decide (s.resv = t.resv) && s.h.beq SObj.beq t.h))
theorem St.beq_eq {s t : St} (h : s.beq t = true) : s = t := by
  simp only [St.beq, Bool.and_eq_true] at h
  obtain ⟨h1, h2, h3, h4⟩ := h
  have h1 := Nat.eq_of_beq_eq_true h1
  have h2 := of_decide_eq_true h2
  have h3 := of_decide_eq_true h3
  have h4 := T.beq_eq SObj.beq_eq _ _ h4
  cases s; cases t
  simp_all
def outBeq (p q : SAct × St) : Bool := Nat.beq p.1.n q.1.n && (p.1.tm.beq q.1.tm && p.2.beq q.2)
theorem outBeq_eq {p q : SAct × St} (h : outBeq p q = true) : p = q := by
  simp only [outBeq, Bool.and_eq_true] at h
  obtain ⟨h1, h2, h3⟩ := h
  have h1 := Nat.eq_of_beq_eq_true h1
  have h2 := Frame.beq_eq h2
  have h3 := St.beq_eq h3
  obtain ⟨⟨t, n⟩, s⟩ := p
  obtain ⟨⟨t', n'⟩, s'⟩ := q
  dsimp only at h1 h2 h3
  rw [h1, h2, h3]
def dedup : List (SAct × St) → List (SAct × St)
  | [] => []
  | p :: l => match (dedup l).any (outBeq p) with
    | true => dedup l
    | false => p :: dedup l
theorem dedup_mem : ∀ {l : List (SAct × St)} {p : SAct × St}, p ∈ l → p ∈ dedup l := by
  intro l
  induction l with
  | nil => intro p h; cases h
  | cons q l ih =>
    intro p h
    have e : dedup (q :: l) = match (dedup l).any (outBeq q) with | true => dedup l | false => q :: dedup l := rfl
    rw [e]
    cases hb : (dedup l).any (outBeq q) with
    | true =>
      rcases List.mem_cons.1 h with h | h
      · obtain ⟨r, h1, h2⟩ := List.any_eq_true.1 hb
        rw [h, outBeq_eq h2]; exact h1
      · exact ih h
    | false =>
      rcases List.mem_cons.1 h with h | h
      · rw [h]; exact List.mem_cons_self
      · exact List.mem_cons_of_mem _ (ih h)
/-! ### a region's table: what each operation waits for, fills and sees, as bits -/
structure RowM where
  i : Nat
  bit : Nat
  need : Nat
  put : Nat
  sees : Nat
  o : Oper
def bitsOf : List Nat → Nat
  | [] => 0
  | t :: l => Nat.lor (Nat.pow 2 t) (bitsOf l)
def needL (o : Oper) : List Nat := o.after.toList.filterMap fun e => match Region.binds .any e with | true => some e.on | false => none
def dstBits (o : Oper) : Nat := match o.dst with | some d => Nat.pow 2 d | none => 0
def rowAt (ops : Array Oper) (i : Nat) (o : Oper) : RowM := ⟨i, Nat.pow 2 i, bitsOf (needL o), dstBits o, bitsOf (o.looksAt ops), o⟩
def rowsM (ops : Array Oper) : Nat → List Oper → List RowM
  | _, [] => []
  | i, o :: l => rowAt ops i o :: rowsM ops (i + 1) l
def within (x y : Nat) : Bool := Nat.beq (Nat.land y x) x
def meets (x y : Nat) : Bool := match Nat.beq (Nat.land x y) 0 with | true => false | false => true
def readyM (m : Nat) : List RowM → List RowM
  | [] => []
  | r :: l => match meets m r.bit with
    | true => readyM m l
    | false => match within r.need m with
      | true => r :: readyM m l
      | false => readyM m l
/-- Those that must have come up ahead of x, if x is to be taken first. -/
def blockM (x : RowM) : List RowM → Nat
  | [] => 0
  | y :: l => match Nat.beq x.i y.i || (meets y.need x.bit || (!meets x.put y.sees && (!meets x.put y.put && !meets y.put x.sees))) with
    | true => blockM x l
    | false => Nat.lor y.bit (blockM x l)
def freeM (rows : List RowM) (x : RowM) (m : Nat) : Bool := within (blockM x rows) m
def noSelectM : List RowM → Bool
  | [] => true
  | r :: l => match r.o.op with
    | .select .. => false
    | _ => noSelectM l
/-- The first of those that may come up that can be taken ahead. -/
def takeOne (P : Program) (h : Nat → T SObj) (al : Nat → Bool) (ops : Array Oper) (rows : List RowM) (m : Nat) (a : SAct) (s : St) : List RowM → Option (RowM × List (SAct × St))
  | [] => none
  | r :: l =>
    match pureKind r.o && (al r.i && freeM rows r m) with
    | true => match takeStep P (h r.i) ops a s r.o with
      | some outs => some (r, outs)
      | none => takeOne P h al ops rows m a s l
    | false => takeOne P h al ops rows m a s l
def agree (h : T SObj) : List (Nat × SObj) → Bool
  | [] => true
  | (id, o) :: l => (match h.get id with | some o' => SObj.beq o o' | none => false) && agree h l
/-! ### insertions of apart keys into one map, in whatever order -/
def insOf (a : SAct) (o : Oper) : Option (TypeId × Nat × SV × SV) :=
  match o.guard, o.dst with
  | none, none => match o.op with
    | .insert t m k x => match a.ev m, a.ev k, a.ev x with
      | some (.map id), some k, some x => some (t, id, k, x)
      | _, _, _ => none
    | _ => none
  | _, _ => none
def insListM (a : SAct) (t id : Nat) : List RowM → Option (List (Nat × SV × SV))
  | [] => some []
  | r :: l => match insOf a r.o, insListM a t id l with
    | some (t', id', k, x), some m => match Nat.beq t' t && Nat.beq id' id with
      | true => some ((r.i, k, x) :: m)
      | false => none
    | _, _ => none
def unlisted (ops : Array Oper) (listed : Array Bool) : List Nat := (List.range ops.size).filter fun i => !listed.getD i true
def pairsOf (h : T SObj) (id : Nat) : Option (List (SV × SV)) :=
  match h.get id with
  | some (.map es _) => some (es.map pairOf)
  | some (.umap l) => some l
  | _ => none
def newKeyF (P : Program) (kt : TypeId) (k : SV) : List (SV × SV) → Bool
  | [] => true
  | e :: l => match eqv P 30 kt k e.1 with
    | some (.lit false) => newKeyF P kt k l
    | _ => false
def newAll (P : Program) (t : Nat) (base : List (SV × SV)) (kv : List (Nat × SV × SV)) : Bool :=
  match P.underlying t with
  | some (.map kt _) => kv.all fun p => keyOk P 5 kt p.2.1 && (newKeyF P kt p.2.1 base && kv.all fun q => Nat.beq p.1 q.1 || newKeyF P kt p.2.1 [q.2])
  | _ => false
/-- An operation that waits for one of those in T, or for all of those in rs. -/
def waitsFor (ops : Array Oper) (T rs : List Nat) (j : Nat) : Bool :=
  match ops[j]? with
  | some o => o.after.any (fun e => Region.binds .any e && T.any (Nat.beq e.on)) || rs.all fun r => o.after.any fun e => Region.binds .any e && Nat.beq e.on r
  | none => false
def maskM : List RowM → Nat
  | [] => 0
  | r :: l => Nat.lor r.bit (maskM l)
def leftM (m rm : Nat) : List RowM → Nat
  | [] => 0
  | r :: l => match meets m r.bit || meets rm r.bit with
    | true => leftM m rm l
    | false => Nat.lor r.bit (leftM m rm l)
def othersWait (m rm tm : Nat) (rows : List RowM) : Bool := rows.all fun x => meets m x.bit || (meets rm x.bit || (meets x.need tm || within rm x.need))
def listAll (listed : Array Bool) : List Nat → Array Bool
  | [] => listed
  | i :: l => listAll (listed.setIfInBounds i true) l
/-- Operation j waits for operation i, in at most n steps. -/
def anc (ops : Array Oper) : Nat → Nat → Nat → Bool
  | 0, _, _ => false
  | n + 1, j, i => match ops[j]? with
    | some o => o.after.any fun e => Region.binds .any e && (Nat.beq e.on i || anc ops n e.on i)
    | none => false
/-- What is still to be looked at, behind operation j: what it changed must wait for j. -/
def surv (ops : Array Oper) (j : Nat) (h : T SObj) : List (Nat × List (Nat × SObj)) → Option (List (Nat × List (Nat × SObj)))
  | [] => some []
  | (i, l) :: m => match surv ops j h m with
    | some m' => match agree h l with
      | true => some ((i, l) :: m')
      | false => match anc ops 4 j i with
        | true => some m'
        | false => none
    | none => none
def isNil (h : T SObj) : Bool :=
  match h with
  | .nil => true
  | _ => false
def aliveB (hL : Nat → T SObj) (L : List (Nat × List (Nat × SObj))) (k : Nat) : Bool := isNil (hL k) || L.any fun p => Nat.beq p.1 k
def insertsAll (P : Program) (rows : List RowM) (m : Nat) (a : SAct) (s : St) (L : List (Nat × List (Nat × SObj))) (rs : List RowM) : Option St :=
  match rs with
  | [] => none
  | r :: _ =>
    match insOf a r.o with
    | none => none
    | some (t, id, _, _) => match insListM a t id rs, pairsOf s.h id with
      | some kv, some base =>
        match othersWait m (maskM rs) (leftM m (maskM rs) rows) rows && (newAll P t base kv && (L.all (fun p => agree s.h p.2) && L.all fun p => p.2.all fun q => !Nat.beq q.1 id)) with
        | true => some { s with h := s.h.put id (.umap (base ++ kv.map (·.2))) }
        | false => none
      | _, _ => none
def orAll (m : Nat) : List RowM → Nat
  | [] => m
  | r :: l => orAll (Nat.lor m r.bit) l
def allOf {α β : Type} (f : α → Option (List β)) : List α → Option (List β)
  | [] => some []
  | x :: l => match f x, allOf f l with
    | some ys, some zs => some (ys ++ zs)
    | _, _ => none
theorem allOf_mem {α β : Type} {f : α → Option (List β)} : ∀ {l : List α} {outs : List β} {x : α}, allOf f l = some outs → x ∈ l → ∃ ys, f x = some ys ∧ ∀ y ∈ ys, y ∈ outs
  | y :: l, outs, x, h, hx => by
    simp only [allOf] at h
    split at h
    · rename_i ys zs hy hz
      cases h
      rcases List.mem_cons.1 hx with rfl | hx
      · exact ⟨ys, hy, fun z hz => List.mem_append.2 (.inl hz)⟩
      · obtain ⟨us, h1, h2⟩ := allOf_mem hz hx
        exact ⟨us, h1, fun z hz => List.mem_append.2 (.inr (h2 z hz))⟩
    · cases h
def alOf (hL : Nat → T SObj) (Lc : Option (List (Nat × List (Nat × SObj)))) : Nat → Bool := match Lc with | none => fun _ => true | some L => aliveB hL L
def execAny (P : Program) (F : Fs) (ops : Array Oper) (rows : List RowM) (hL : Nat → T SObj) (rsv : Nat → Option Nat) : Nat → Option (List (Nat × List (Nat × SObj))) → Nat → SAct → St → Option (List (SAct × St))
  | 0, _, m, a, s => match readyM m rows with
    | [] => some [(a, s)]
    | _ :: _ => none
  | f + 1, Lc, m, a, s =>
    match readyM m rows with
    | [] => some [(a, s)]
    | r :: rs =>
      match takeOne P hL (alOf hL Lc) ops rows m a s (r :: rs) with
      | some (x, outs) => bindL outs fun p => execAny P F ops rows hL rsv f Lc (Nat.lor m x.bit) p.1 p.2
      | none => match Lc with
        | none => none
        | some L => match insertsAll P rows m a s L (r :: rs) with
        | some s' => execAny P F ops rows hL rsv f (some L) (orAll m (r :: rs)) a s'
        | none => match Nat.ble (r :: rs).length 3 with
        | false => none
        | true => match allOf (fun x => match stepAt P F ops a s x.o (rsv x.i) with
              | some outs => bindL outs fun p => match surv ops x.i p.2.h L with
                | some L' => execAny P F ops rows hL rsv f (some L') (Nat.lor m x.bit) p.1 p.2
                | none => none
              | none => none) (r :: rs) with
          | some outs => some (dedup outs)
          | none => none
end
end Go.Sx
