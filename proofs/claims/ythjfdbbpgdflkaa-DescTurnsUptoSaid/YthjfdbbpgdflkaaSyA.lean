/-
  A fast symbolic run (part 1): what a piece of code comes to, code as functions that are put together once.
-/
import Derived.Test.YthjfdbbpgdflkaaSxE
namespace Go.Sx
set_option linter.unusedVariables false
set_option linter.unusedSimpArgs false

inductive Res where
  | norm (tm : Frame) (s : St)
  | exit (id : Nat) (tm : Frame) (s : St)
  | ret (tm : Frame) (s : St)
  | many (l : List (SExit × Frame × St))
  | fail
def Res.outs : Res → Option (List (SExit × Frame × St))
  | .norm tm s => some [(.normal, tm, s)]
  | .exit i tm s => some [(.exit i, tm, s)]
  | .ret tm s => some [(.ret, tm, s)]
  | .many l => some l
  | .fail => none
inductive CRes where
  | one (v : SV) (s : St)
  | many (l : List (SV × St))
  | fail
def CRes.outs : CRes → Option (List (SV × St))
  | .one v s => some [(v, s)]
  | .many l => some l
  | .fail => none
def ofMany : Option (List (SExit × Frame × St)) → Res
  | some l => .many l
  | none => .fail
def Res.bindMany (l : List (SExit × Frame × St)) (k : Frame → St → Res) : Res :=
  ofMany (bindL l fun p => match p.1 with | .normal => (k p.2.1 p.2.2).outs | _ => some [p])
noncomputable def Res.bind (r : Res) (k : Frame → St → Res) : Res := @Res.rec (fun _ => Res) k Res.exit Res.ret (fun l => Res.bindMany l k) .fail r
theorem ofMany_outs {o : Option (List (SExit × Frame × St))} : (ofMany o).outs = o := by cases o <;> rfl
theorem bind_outs {r : Res} {k : Frame → St → Res} {outs : List (SExit × Frame × St)} (h : (r.bind k).outs = some outs) :
    ∃ o1, r.outs = some o1 ∧ ∀ p ∈ o1, (p.1 = .normal → ∃ ys, (k p.2.1 p.2.2).outs = some ys ∧ ∀ y ∈ ys, y ∈ outs) ∧ (p.1 ≠ .normal → p ∈ outs) := by
  cases r with
  | norm tm s =>
    refine ⟨_, rfl, fun p hp => ?_⟩
    rw [List.mem_singleton.1 hp]
    exact ⟨fun _ => ⟨outs, h, fun y hy => hy⟩, fun e => (e rfl).elim⟩
  | exit i tm s =>
    have h : some [(SExit.exit i, tm, s)] = some outs := h
    refine ⟨_, rfl, fun p hp => ⟨fun e => ?_, fun _ => ?_⟩⟩
    · rw [List.mem_singleton.1 hp] at e; cases e
    · cases h; exact hp
  | ret tm s =>
    have h : some [(SExit.ret, tm, s)] = some outs := h
    refine ⟨_, rfl, fun p hp => ⟨fun e => ?_, fun _ => ?_⟩⟩
    · rw [List.mem_singleton.1 hp] at e; cases e
    · cases h; exact hp
  | many l =>
    have h : (ofMany (bindL l fun p => match p.1 with | .normal => (k p.2.1 p.2.2).outs | _ => some [p])).outs = some outs := h
    rw [ofMany_outs] at h
    refine ⟨l, rfl, fun p hp => ?_⟩
    obtain ⟨ys, h1, h2⟩ := bindL_mem h hp
    refine ⟨fun e => ?_, fun e => ?_⟩
    · rw [e] at h1
      exact ⟨ys, h1, h2⟩
    · have h1 : some [p] = some ys := by
        rw [← h1]
        cases hp1 : p.1 with
        | normal => exact (e hp1).elim
        | _ => rfl
      cases h1
      exact h2 p (List.mem_singleton.2 rfl)
  | fail => cases h
def withN (n : Nat) (l : List (SExit × Frame × St)) : List (SExit × SAct × St) := l.map fun p => (p.1, ⟨p.2.1, n⟩, p.2.2)
theorem mem_withN {n : Nat} {l : List (SExit × Frame × St)} {e : SExit} {a : SAct} {s : St} : (e, a, s) ∈ withN n l ↔ a.n = n ∧ (e, a.tm, s) ∈ l := by
  simp only [withN, List.mem_map, Prod.mk.injEq]
  constructor
  · rintro ⟨⟨e', t', s'⟩, h1, h2, h3, h4⟩
    dsimp only at h2 h3 h4
    subst h2 h4
    rw [← h3]
    exact ⟨rfl, h1⟩
  · rintro ⟨h1, h2⟩
    refine ⟨_, h2, rfl, ?_, rfl⟩
    obtain ⟨t, m⟩ := a
    dsimp only at h1 ⊢
    rw [h1]
structure FK where
  exec : Nat → Code → Frame → St → Res
  call : FuncId → List SV → St → CRes
def toFs (F : FK) : Fs where
  exec c a s := match (F.exec a.n c a.tm s).outs with
    | some l => some (withN a.n l)
    | none => none
  call f args s := (F.call f args s).outs
abbrev KO := FK → Frame → St → (Frame → St → Res) → Res
structure KW where
  f : KO
/-! ### what an operand is -/
structure GW where
  g : Frame → Option SV
def gleaf (q : Frame → F4 (Option SV)) (t : Nat) : GW := F4.get ⟨⟨fun f => (q f).a⟩, ⟨fun f => (q f).b⟩, ⟨fun f => (q f).c⟩, ⟨fun f => (q f).d⟩⟩ t
def gmid (p : Frame → F16) (t : Nat) : GW := F4.get ⟨gleaf (fun f => (p f).a) t, gleaf (fun f => (p f).b) t, gleaf (fun f => (p f).c) t, gleaf (fun f => (p f).d) t⟩ (Nat.div t 4)
def gtmp (t : Nat) : GW := @Bool.casesOn (fun _ => GW) (Nat.blt t 64) ⟨fun f => f.rest.get (Nat.sub t 64)⟩ (F4.get ⟨gmid Frame.f0 t, gmid Frame.f1 t, gmid Frame.f2 t, gmid Frame.f3 t⟩ (Nat.div t 16))
theorem F4.four (i : Nat) :
    (∀ (α : Type) (t : F4 α), t.get i = t.a ∧ ∀ x, t.set i x = ⟨x, t.b, t.c, t.d⟩) ∨ (∀ (α : Type) (t : F4 α), t.get i = t.b ∧ ∀ x, t.set i x = ⟨t.a, x, t.c, t.d⟩) ∨
    (∀ (α : Type) (t : F4 α), t.get i = t.c ∧ ∀ x, t.set i x = ⟨t.a, t.b, x, t.d⟩) ∨ (∀ (α : Type) (t : F4 α), t.get i = t.d ∧ ∀ x, t.set i x = ⟨t.a, t.b, t.c, x⟩) := by
  simp only [F4.get, F4.set]
  cases bitA i <;> cases bitB i
  · exact .inr (.inr (.inr fun α t => ⟨rfl, fun x => rfl⟩))
  · exact .inr (.inl fun α t => ⟨rfl, fun x => rfl⟩)
  · exact .inr (.inr (.inl fun α t => ⟨rfl, fun x => rfl⟩))
  · exact .inl fun α t => ⟨rfl, fun x => rfl⟩
theorem Frame.four (i : Nat) :
    (∀ f : Frame, f.part i = f.f0 ∧ ∀ x, f.setPart i x = ⟨x, f.f1, f.f2, f.f3, f.rest⟩) ∨ (∀ f : Frame, f.part i = f.f1 ∧ ∀ x, f.setPart i x = ⟨f.f0, x, f.f2, f.f3, f.rest⟩) ∨
    (∀ f : Frame, f.part i = f.f2 ∧ ∀ x, f.setPart i x = ⟨f.f0, f.f1, x, f.f3, f.rest⟩) ∨ (∀ f : Frame, f.part i = f.f3 ∧ ∀ x, f.setPart i x = ⟨f.f0, f.f1, f.f2, x, f.rest⟩) := by
  simp only [Frame.part, F4.get, Frame.setPart]
  cases bitA i <;> cases bitB i
  · exact .inr (.inr (.inr fun f => ⟨rfl, fun x => rfl⟩))
  · exact .inr (.inl fun f => ⟨rfl, fun x => rfl⟩)
  · exact .inr (.inr (.inl fun f => ⟨rfl, fun x => rfl⟩))
  · exact .inl fun f => ⟨rfl, fun x => rfl⟩
theorem gleaf_ok (q : Frame → F4 (Option SV)) (t : Nat) (f : Frame) : (gleaf q t).g f = (q f).get t := by
  unfold gleaf
  rcases F4.four t with h | h | h | h <;> rw [(h _ _).1, (h _ _).1]
theorem gmid_ok (p : Frame → F16) (t : Nat) (f : Frame) : (gmid p t).g f = ((p f).get (Nat.div t 4)).get t := by
  unfold gmid
  rcases F4.four (Nat.div t 4) with h | h | h | h <;> rw [(h _ _).1, (h _ _).1] <;> exact gleaf_ok _ t f
theorem gtmp_ok (t : Nat) (f : Frame) : (gtmp t).g f = f.get t := by
  simp only [gtmp, Frame.get]
  cases Nat.blt t 64
  · rfl
  · show (F4.get (F4.mk (gmid Frame.f0 t) (gmid Frame.f1 t) (gmid Frame.f2 t) (gmid Frame.f3 t)) (Nat.div t 16)).g f = ((f.part (Nat.div t 16)).get (Nat.div t 4)).get t
    rw [Frame.part]
    rcases F4.four (Nat.div t 16) with h | h | h | h <;> rw [(h _ _).1, (h _ _).1] <;> exact gmid_ok _ t f
def gop : Operand → GW
  | .tmp t => gtmp t
  | .const v => match ofV 8 v with
    | some x => ⟨fun _ => some x⟩
    | none => ⟨fun _ => none⟩
  | .global _ => ⟨fun _ => none⟩
  | .func f => ⟨fun _ => some (.func (.func f) [] [])⟩
theorem gop_ok (x : Operand) (tm : Frame) (n : Nat) : (gop x).g tm = SAct.ev ⟨tm, n⟩ x := by
  cases x with
  | tmp t => exact gtmp_ok t tm
  | const v =>
    simp only [gop, SAct.ev]
    cases ofV 8 v <;> rfl
  | _ => rfl
/-! ### where a result is put -/
structure PW (β : Type) where
  p : Frame → SV → (Frame → β) → β
structure LW (α β : Type) where
  p : α → SV → (α → β) → β
noncomputable def pleaf (β : Type) (t : Nat) : LW (F4 (Option SV)) β := F4.get
  ⟨⟨fun q v k => @F4.rec (Option SV) (fun _ => β) (fun a b c d => k ⟨some v, b, c, d⟩) q⟩, ⟨fun q v k => @F4.rec (Option SV) (fun _ => β) (fun a b c d => k ⟨a, some v, c, d⟩) q⟩,
   ⟨fun q v k => @F4.rec (Option SV) (fun _ => β) (fun a b c d => k ⟨a, b, some v, d⟩) q⟩, ⟨fun q v k => @F4.rec (Option SV) (fun _ => β) (fun a b c d => k ⟨a, b, c, some v⟩) q⟩⟩ t
noncomputable def pmid (β : Type) (t : Nat) : LW F16 β := @LW.rec (F4 (Option SV)) β (fun _ => LW F16 β) (fun r => F4.get
  ⟨⟨fun q v k => @F4.rec (F4 (Option SV)) (fun _ => β) (fun a b c d => r a v fun x => k ⟨x, b, c, d⟩) q⟩, ⟨fun q v k => @F4.rec (F4 (Option SV)) (fun _ => β) (fun a b c d => r b v fun x => k ⟨a, x, c, d⟩) q⟩,
   ⟨fun q v k => @F4.rec (F4 (Option SV)) (fun _ => β) (fun a b c d => r c v fun x => k ⟨a, b, x, d⟩) q⟩, ⟨fun q v k => @F4.rec (F4 (Option SV)) (fun _ => β) (fun a b c d => r d v fun x => k ⟨a, b, c, x⟩) q⟩⟩ (Nat.div t 4)) (pleaf β t)
noncomputable def pnear (β : Type) (t : Nat) : PW β := @LW.rec F16 β (fun _ => PW β) (fun r => F4.get
  ⟨⟨fun f v k => @Frame.rec (fun _ => β) (fun a b c d e => r a v fun x => k ⟨x, b, c, d, e⟩) f⟩, ⟨fun f v k => @Frame.rec (fun _ => β) (fun a b c d e => r b v fun x => k ⟨a, x, c, d, e⟩) f⟩,
   ⟨fun f v k => @Frame.rec (fun _ => β) (fun a b c d e => r c v fun x => k ⟨a, b, x, d, e⟩) f⟩, ⟨fun f v k => @Frame.rec (fun _ => β) (fun a b c d e => r d v fun x => k ⟨a, b, c, x, e⟩) f⟩⟩ (Nat.div t 16)) (pmid β t)
noncomputable def ptmp (β : Type) (t : Nat) : PW β := @Bool.casesOn (fun _ => PW β) (Nat.blt t 64) ⟨fun f v k => k (f.put t v)⟩ (pnear β t)
theorem pleaf_ok (β : Type) (t : Nat) (q : F4 (Option SV)) (v : SV) (k : F4 (Option SV) → β) : (pleaf β t).p q v k = k (q.set t (some v)) := by
  unfold pleaf
  rcases F4.four t with h | h | h | h <;> rw [(h _ _).1, (h _ _).2]
theorem pmid_ok (β : Type) (t : Nat) (q : F16) (v : SV) (k : F16 → β) : (pmid β t).p q v k = k (q.set (Nat.div t 4) ((q.get (Nat.div t 4)).set t (some v))) := by
  have hr := pleaf_ok β t
  unfold pmid
  revert hr
  generalize pleaf β t = L
  intro hr
  cases L with
  | mk r =>
    dsimp only at hr ⊢
    rcases F4.four (Nat.div t 4) with h | h | h | h <;> rw [(h _ _).1, (h _ _).2, (h _ _).1] <;> exact hr _ v _
theorem pnear_ok (β : Type) (t : Nat) (f : Frame) (v : SV) (k : Frame → β) : (pnear β t).p f v k = k (f.setPart (Nat.div t 16) ((f.part (Nat.div t 16)).set (Nat.div t 4) (((f.part (Nat.div t 16)).get (Nat.div t 4)).set t (some v)))) := by
  have hr := pmid_ok β t
  unfold pnear
  revert hr
  generalize pmid β t = L
  intro hr
  cases L with
  | mk r =>
    dsimp only at hr ⊢
    simp only [Frame.setPart, Frame.part]
    rw [F4.get]
    generalize ht : Nat.div t 16 = u
    have e : ∀ x : F4 F16, x.get u = @Bool.casesOn (fun _ => F16) (bitB u) (@Bool.casesOn (fun _ => F16) (bitA u) x.d x.c) (@Bool.casesOn (fun _ => F16) (bitA u) x.b x.a) := fun x => by rw [F4.get]
    rw [e]
    cases bitA u <;> cases bitB u <;> exact hr _ v _
theorem ptmp_ok (β : Type) (t : Nat) (f : Frame) (v : SV) (k : Frame → β) : (ptmp β t).p f v k = k (f.put t v) := by
  simp only [ptmp, Frame.put]
  cases Nat.blt t 64
  · rfl
  · exact pnear_ok β t f v k
noncomputable def pdst (n : Nat) (d : Option Tmp) : PW Res :=
  match d with
  | none => ⟨fun f _ k => k f⟩
  | some t => match Nat.blt t n with
    | true => ptmp Res t
    | false => ⟨fun _ _ _ => .fail⟩
theorem pdst_ok {n : Nat} {d : Option Tmp} {tm : Frame} {v : SV} {k : Frame → Res} {outs : List (SExit × Frame × St)} (h : ((pdst n d).p tm v k).outs = some outs) :
    ∃ a, SAct.put ⟨tm, n⟩ d v = some a ∧ a.n = n ∧ (k a.tm).outs = some outs := by
  unfold pdst at h
  split at h
  · exact ⟨⟨tm, n⟩, rfl, rfl, h⟩
  · rename_i t
    split at h
    · rename_i hlt
      rw [ptmp_ok] at h
      exact ⟨⟨tm.put t v, n⟩, by simp only [SAct.put, hlt], rfl, h⟩
    · cases h
/-! ### one operation -/
def manyOps (n : Nat) (o : Option (List (SAct × St))) (k : Frame → St → Res) : Res :=
  match o with
  | some l => match l with
    | [p] => match Nat.beq p.1.n n with
      | true => k p.1.tm p.2
      | false => .fail
    | l => match l.all fun p => Nat.beq p.1.n n with
      | true => ofMany (bindL l fun p => (k p.1.tm p.2).outs)
      | false => .fail
  | none => .fail
theorem manyOps_outs {n : Nat} {o : Option (List (SAct × St))} {k : Frame → St → Res} {outs : List (SExit × Frame × St)} (h : (manyOps n o k).outs = some outs) :
    ∃ l, o = some l ∧ ∀ p ∈ l, p.1.n = n ∧ ∃ ys, (k p.1.tm p.2).outs = some ys ∧ ∀ y ∈ ys, y ∈ outs := by
  unfold manyOps at h
  split at h
  · rename_i l
    split at h
    · rename_i p
      split at h
      · rename_i hn
        refine ⟨[p], rfl, fun q hq => ?_⟩
        rw [List.mem_singleton.1 hq]
        exact ⟨Nat.eq_of_beq_eq_true hn, outs, h, fun y hy => hy⟩
      · cases h
    · split at h
      · rename_i hn
        rw [ofMany_outs] at h
        refine ⟨l, rfl, fun q hq => ?_⟩
        obtain ⟨ys, h1, h2⟩ := bindL_mem h hq
        exact ⟨Nat.eq_of_beq_eq_true (List.all_eq_true.1 hn q hq), ys, h1, h2⟩
      · cases h
  · cases h
/-- What a piece of an operation must be. -/
def KoOk (P : Program) (n : Nat) (ops : Array Oper) (o : Oper) (f : KO) : Prop :=
  ∀ F tm s k outs, (f F tm s k).outs = some outs → ∃ l, opStep P (toFs F) ops ⟨tm, n⟩ s o = some l ∧ ∀ p ∈ l, p.1.n = n ∧ ∃ ys, (k p.1.tm p.2).outs = some ys ∧ ∀ y ∈ ys, y ∈ outs
/-- The same of an operation whose guard holds. -/
def KrOk (P : Program) (n : Nat) (o : Oper) (f : KO) : Prop :=
  ∀ F tm s k outs, (f F tm s k).outs = some outs → ∃ l, runOp P (toFs F) ⟨tm, n⟩ s o = some l ∧ ∀ p ∈ l, p.1.n = n ∧ ∃ ys, (k p.1.tm p.2).outs = some ys ∧ ∀ y ∈ ys, y ∈ outs
def kgen (P : Program) (n : Nat) (o : Oper) : KW := ⟨fun F tm s k => manyOps n (runOp P (toFs F) ⟨tm, n⟩ s o) k⟩
theorem kgen_ok (P : Program) (n : Nat) (o : Oper) : KrOk P n o (kgen P n o).f := fun F tm s k outs h => manyOps_outs h
/-! ### a state whose parts are at hand -/
noncomputable def forceS {β : Type} (s : St) (k : St → β) : β :=
  @St.rec (fun _ => β) (fun h next asm resv => @T.rec SObj (fun _ => β) (@Nat.rec (fun _ => β) (@List.rec (BX × Bool) (fun _ => β) (@List.rec Nat (fun _ => β) (k ⟨.nil, 0, [], []⟩) (fun c d _ => k ⟨.nil, 0, [], c :: d⟩) resv) (fun a b _ => @List.rec Nat (fun _ => β) (k ⟨.nil, 0, a :: b, []⟩) (fun c d _ => k ⟨.nil, 0, a :: b, c :: d⟩) resv) asm) (fun m _ => @List.rec (BX × Bool) (fun _ => β) (@List.rec Nat (fun _ => β) (k ⟨.nil, Nat.succ m, [], []⟩) (fun c d _ => k ⟨.nil, Nat.succ m, [], c :: d⟩) resv) (fun a b _ => @List.rec Nat (fun _ => β) (k ⟨.nil, Nat.succ m, a :: b, []⟩) (fun c d _ => k ⟨.nil, Nat.succ m, a :: b, c :: d⟩) resv) asm) next)
    (fun l v r _ _ => @Nat.rec (fun _ => β) (@List.rec (BX × Bool) (fun _ => β) (@List.rec Nat (fun _ => β) (k ⟨.node l v r, 0, [], []⟩) (fun c d _ => k ⟨.node l v r, 0, [], c :: d⟩) resv) (fun a b _ => @List.rec Nat (fun _ => β) (k ⟨.node l v r, 0, a :: b, []⟩) (fun c d _ => k ⟨.node l v r, 0, a :: b, c :: d⟩) resv) asm) (fun m _ => @List.rec (BX × Bool) (fun _ => β) (@List.rec Nat (fun _ => β) (k ⟨.node l v r, Nat.succ m, [], []⟩) (fun c d _ => k ⟨.node l v r, Nat.succ m, [], c :: d⟩) resv) (fun a b _ => @List.rec Nat (fun _ => β) (k ⟨.node l v r, Nat.succ m, a :: b, []⟩) (fun c d _ => k ⟨.node l v r, Nat.succ m, a :: b, c :: d⟩) resv) asm) next) h) s
theorem forceS_eq {β : Type} (s : St) (k : St → β) : forceS s k = k s := by
  obtain ⟨h, next, asm, resv⟩ := s
  cases h <;> cases next <;> cases asm <;> cases resv <;> rfl
inductive BV where
  | no
  | lit (b : Bool)
  | sym (b : BX)
noncomputable def asBool (v : SV) : BV := @SV.rec (fun _ => BV) (fun _ => Unit) (fun b => @BX.rec (fun _ => BV) (fun b => .lit b) (fun i => .sym (.var i)) (fun b _ => .sym (.not b)) (fun a b => .sym (.ieq a b)) (fun a b => .sym (.ilt a b)) (fun a b => .sym (.seq a b)) (fun a b _ _ => .sym (.and a b)) b)
  (fun _ _ => .no) (fun _ => .no) .no (fun _ _ => .no) .no (fun _ _ _ _ _ => .no) .no (fun _ => .no) .no (fun _ _ _ _ _ => .no) .no (fun _ _ _ => .no) (fun _ _ => .no) (fun _ _ => .no) () (fun _ _ _ _ => ()) v
theorem asBool_lit {v : SV} {b : Bool} (h : asBool v = .lit b) : v = .bool (.lit b) := by
  cases v with
  | bool x => cases x <;> cases h; rfl
  | _ => cases h
theorem asBool_sym {v : SV} {b : BX} (h : asBool v = .sym b) : v = .bool b := by
  cases v with
  | bool x => cases x <;> cases h <;> rfl
  | _ => cases h
theorem bindL_cons {α β : Type} (x y : α) (l : List α) (f : α → Option (List β)) : bindL (x :: y :: l) f = match f x, bindL (y :: l) f with
    | some ys, some zs => some (ys ++ zs)
    | _, _ => none := rfl
theorem bindL_map {α β γ : Type} {f : α → β} {g : β → Option (List γ)} : ∀ (l : List α), bindL (l.map f) g = bindL l fun x => g (f x)
  | [] => rfl
  | [x] => rfl
  | x :: y :: l => by
    have := bindL_map (f := f) (g := g) (y :: l)
    simp only [List.map_cons] at this
    rw [List.map_cons, List.map_cons, bindL_cons, this, bindL_cons]
theorem bindL_all {α β : Type} {f : α → Option (List β)} {R : β → Prop} : ∀ {l : List α}, (∀ x ∈ l, ∃ ys, f x = some ys ∧ ∀ y ∈ ys, R y) → ∃ m, bindL l f = some m ∧ ∀ y ∈ m, R y
  | [], _ => ⟨[], rfl, fun y hy => by cases hy⟩
  | [x], h => by
    obtain ⟨ys, h1, h2⟩ := h x List.mem_cons_self
    exact ⟨ys, by simp only [bindL, h1], h2⟩
  | x :: y :: l, h => by
    obtain ⟨ys, h1, h2⟩ := h x List.mem_cons_self
    obtain ⟨m, m1, m2⟩ := bindL_all (l := y :: l) fun z hz => h z (List.mem_cons_of_mem _ hz)
    refine ⟨ys ++ m, by simp only [bindL, h1] at m1 ⊢; rw [m1], fun z hz => ?_⟩
    rcases List.mem_append.1 hz with hz | hz
    · exact h2 z hz
    · exact m2 z hz
end Go.Sx
