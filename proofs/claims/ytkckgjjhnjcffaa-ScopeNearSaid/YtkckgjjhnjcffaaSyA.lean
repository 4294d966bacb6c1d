/-
  A fast symbolic run (part 1): what a piece of code comes to, code as functions that are put together once.
-/
import Derived.Test.YtkckgjjhnjcffaaSxE
namespace Go.Sx
set_option linter.unusedVariables false
set_option linter.unusedSimpArgs false

inductive Res where
  | norm (tm : Frame) (s : St)
  | exit (id : Nat) (tm : Frame) (s : St)
  | ret (tm : Frame) (s : St)
  | many (l : List (SExit × Frame × St))
  | fail
def Res.outs : Res → Option (List (SExit × Frame × St))
  | .norm tm s => some [(.normal, tm, s)]
  | .exit i tm s => some [(.exit i, tm, s)]
  | .ret tm s => some [(.ret, tm, s)]
  | .many l => some l
  | .fail => none
inductive CRes where
  | one (v : SV) (s : St)
  | many (l : List (SV × St))
  | fail
def CRes.outs : CRes → Option (List (SV × St))
  | .one v s => some [(v, s)]
  | .many l => some l
  | .fail => none
def ofMany : Option (List (SExit × Frame × St)) → Res
  | some l => .many l
  | none => .fail
def Res.bindMany (l : List (SExit × Frame × St)) (k : Frame → St → Res) : Res :=
  ofMany (bindL l fun p => match p.1 with | .normal => (k p.2.1 p.2.2).outs | _ => some [p])
noncomputable def Res.bind (r : Res) (k : Frame → St → Res) : Res := @Res.rec (fun _ => Res) k Res.exit Res.ret (fun l => Res.bindMany l k) .fail r
theorem ofMany_outs {o : Option (List (SExit × Frame × St))} : (ofMany o).outs = o := by cases o <;> rfl
theorem bind_outs {r : Res} {k : Frame → St → Res} {outs : List (SExit × Frame × St)} (h : (r.bind k).outs = some outs) :
    ∃ o1, r.outs = some o1 ∧ ∀ p ∈ o1, (p.1 = .normal → ∃ ys, (k p.2.1 p.2.2).outs = some ys ∧ ∀ y ∈ ys, y ∈ outs) ∧ (p.1 ≠ .normal → p ∈ outs) := by
  cases r with
  | norm tm s =>
    refine ⟨_, rfl, fun p hp => ?_⟩
    rw [List.mem_singleton.1 hp]
    exact ⟨fun _ => ⟨outs, h, fun y hy => hy⟩, fun e => (e rfl).elim⟩
  | exit i tm s =>
    have h : some [(SExit.exit i, tm, s)] = some outs := h
    refine ⟨_, rfl, fun p hp => ⟨fun e => ?_, fun _ => ?_⟩⟩
    · rw [List.mem_singleton.1 hp] at e; cases e
    · cases h; exact hp
  | ret tm s =>
    have h : some [(SExit.ret, tm, s)] = some outs := h
    refine ⟨_, rfl, fun p hp => ⟨fun e => ?_, fun _ => ?_⟩⟩
    · rw [List.mem_singleton.1 hp] at e; cases e
    · cases h; exact hp
  | many l =>
    have h : (ofMany (bindL l fun p => match p.1 with | .normal => (k p.2.1 p.2.2).outs | _ => some [p])).outs = some outs := h
    rw [ofMany_outs] at h
    refine ⟨l, rfl, fun p hp => ?_⟩
    obtain ⟨ys, h1, h2⟩ := bindL_mem h hp
    refine ⟨fun e => ?_, fun e => ?_⟩
    · rw [e] at h1
      exact ⟨ys, h1, h2⟩
    · have h1 : some [p] = some ys := by
        rw [← h1]
        cases hp1 : p.1 with
        | normal => exact (e hp1).elim
        | _ => rfl
      cases h1
      exact h2 p (List.mem_singleton.2 rfl)
  | fail => cases h
def withN (n : Nat) (l : List (SExit × Frame × St)) : List (SExit × SAct × St) := l.map fun p => (p.1, ⟨p.2.1, n⟩, p.2.2)
theorem mem_withN {n : Nat} {l : List (SExit × Frame × St)} {e : SExit} {a : SAct} {s : St} : (e, a, s) ∈ withN n l ↔ a.n = n ∧ (e, a.tm, s) ∈ l := by
  simp only [withN, List.mem_map, Prod.mk.injEq]
  constructor
  · rintro ⟨⟨e', t', s'⟩, h1, h2, h3, h4⟩
    dsimp only at h2 h3 h4
    subst h2 h4
    rw [← h3]
    exact ⟨rfl, h1⟩
  · rintro ⟨h1, h2⟩
    refine ⟨_, h2, rfl, ?_, rfl⟩
    obtain ⟨t, m⟩ := a
    dsimp only at h1 ⊢
    rw [h1]
structure FK where
  exec : Nat → Code → Frame → St → Res
  call : FuncId → List SV → St → CRes
def toFs (F : FK) : Fs where
  exec c a s := match (F.exec a.n c a.tm s).outs with
    | some l => some (withN a.n l)
    | none => none
  call f args s := (F.call f args s).outs
abbrev KO := FK → Frame → St → (Frame → St → Res) → Res
structure KW where
  f : KO
/-! ### memory, by its recursors -/
noncomputable def tget {α : Type} (t : T α) (i : Nat) : Option α :=
  @T.rec α (fun _ => Nat → Option α) (fun _ => none) (fun _ v _ gl gr i => @Nat.rec (fun _ => Option α) v (fun j _ => @Bool.rec (fun _ => Option α) (gr (Nat.div j 2)) (gl (Nat.div j 2)) (Nat.beq (Nat.mod j 2) 0)) i) t i
theorem tget_eq {α : Type} : ∀ (t : T α) (i : Nat), tget t i = t.get i
  | .nil, i => rfl
  | .node l v r, 0 => rfl
  | .node l v r, j + 1 => by
    rw [T.get_succ]
    show @Bool.rec (fun _ => Option α) (tget r (Nat.div j 2)) (tget l (Nat.div j 2)) (Nat.beq (Nat.mod j 2) 0) = _
    have e : Nat.beq (j % 2) 0 = Nat.beq (Nat.mod j 2) 0 := rfl
    rw [e, tget_eq r, tget_eq l]
    cases Nat.beq (Nat.mod j 2) 0 <;> rfl
theorem T.set_fuel {α : Type} : ∀ (f g : Nat) (t : T α) (i : Nat) (a : α), i < f → i < g → T.set f t i a = T.set g t i a
  | 0, _, _, _, _, h, _ => by omega
  | _, 0, _, _, _, _, h => by omega
  | f + 1, g + 1, .nil, 0, a, _, _ => rfl
  | f + 1, g + 1, .node l v r, 0, a, _, _ => rfl
  | f + 1, g + 1, .nil, j + 1, a, h1, h2 => by
    rw [T.set_nilS, T.set_nilS, T.set_fuel f g .nil (j / 2) a (by omega) (by omega)]
  | f + 1, g + 1, .node l v r, j + 1, a, h1, h2 => by
    rw [T.set_nodeS, T.set_nodeS, T.set_fuel f g l (j / 2) a (by omega) (by omega), T.set_fuel f g r (j / 2) a (by omega) (by omega)]
noncomputable def tput {α β : Type} (t : T α) (i : Nat) (a : α) (k : T α → β) : β :=
  @T.rec α (fun _ => Nat → (T α → β) → β) (fun i k => @Nat.rec (fun _ => β) (k (.node .nil (some a) .nil)) (fun j _ => k (T.put .nil (Nat.succ j) a)) i) (fun l v r gl gr i k => @Nat.rec (fun _ => β) (k (.node l (some a) r)) (fun j _ => @Bool.rec (fun _ => β) (gr (Nat.div j 2) fun r' => k (.node l v r')) (gl (Nat.div j 2) fun l' => k (.node l' v r)) (Nat.beq (Nat.mod j 2) 0)) i) t i k
theorem tput_eq {α β : Type} (a : α) : ∀ (t : T α) (i : Nat) (k : T α → β), tput t i a k = k (t.put i a)
  | .nil, 0, k => rfl
  | .nil, j + 1, k => rfl
  | .node l v r, 0, k => rfl
  | .node l v r, j + 1, k => by
    have e0 : (T.node l v r).put (j + 1) a = match Nat.beq (j % 2) 0 with | true => .node (l.put (j / 2) a) v r | false => .node l v (r.put (j / 2) a) := by
      show T.set (j + 1 + 1) (.node l v r) (j + 1) a = _
      rw [T.set_nodeS, T.set_fuel (j + 1) (j / 2 + 1) l (j / 2) a (by omega) (by omega), T.set_fuel (j + 1) (j / 2 + 1) r (j / 2) a (by omega) (by omega)]
      rfl
    have e : Nat.beq (j % 2) 0 = Nat.beq (Nat.mod j 2) 0 := rfl
    rw [e0, e]
    show @Bool.rec (fun _ => β) (tput r (Nat.div j 2) a fun r' => k (.node l v r')) (tput l (Nat.div j 2) a fun l' => k (.node l' v r)) (Nat.beq (Nat.mod j 2) 0) = _
    rw [tput_eq a r, tput_eq a l]
    cases Nat.beq (Nat.mod j 2) 0 <;> rfl
/-! ### what an operand is -/
structure GW where
  g : Frame → Option SV
def gleaf (q : Frame → F4 (Option SV)) (t : Nat) : GW := F4.get ⟨⟨fun f => (q f).a⟩, ⟨fun f => (q f).b⟩, ⟨fun f => (q f).c⟩, ⟨fun f => (q f).d⟩⟩ t
def gmid (p : Frame → F16) (t : Nat) : GW := F4.get ⟨gleaf (fun f => (p f).a) t, gleaf (fun f => (p f).b) t, gleaf (fun f => (p f).c) t, gleaf (fun f => (p f).d) t⟩ (Nat.div t 4)
noncomputable def gtmp (t : Nat) : GW := @Bool.casesOn (fun _ => GW) (Nat.blt t 64) ⟨fun f => tget f.rest (Nat.sub t 64)⟩ (F4.get ⟨gmid Frame.f0 t, gmid Frame.f1 t, gmid Frame.f2 t, gmid Frame.f3 t⟩ (Nat.div t 16))
theorem F4.four (i : Nat) :
    (∀ (α : Type) (t : F4 α), t.get i = t.a ∧ ∀ x, t.set i x = ⟨x, t.b, t.c, t.d⟩) ∨ (∀ (α : Type) (t : F4 α), t.get i = t.b ∧ ∀ x, t.set i x = ⟨t.a, x, t.c, t.d⟩) ∨
    (∀ (α : Type) (t : F4 α), t.get i = t.c ∧ ∀ x, t.set i x = ⟨t.a, t.b, x, t.d⟩) ∨ (∀ (α : Type) (t : F4 α), t.get i = t.d ∧ ∀ x, t.set i x = ⟨t.a, t.b, t.c, x⟩) := by
  simp only [F4.get, F4.set]
  cases bitA i <;> cases bitB i
  · exact .inr (.inr (.inr fun α t => ⟨rfl, fun x => rfl⟩))
  · exact .inr (.inl fun α t => ⟨rfl, fun x => rfl⟩)
  · exact .inr (.inr (.inl fun α t => ⟨rfl, fun x => rfl⟩))
  · exact .inl fun α t => ⟨rfl, fun x => rfl⟩
theorem Frame.four (i : Nat) :
    (∀ f : Frame, f.part i = f.f0 ∧ ∀ x, f.setPart i x = ⟨x, f.f1, f.f2, f.f3, f.rest⟩) ∨ (∀ f : Frame, f.part i = f.f1 ∧ ∀ x, f.setPart i x = ⟨f.f0, x, f.f2, f.f3, f.rest⟩) ∨
    (∀ f : Frame, f.part i = f.f2 ∧ ∀ x, f.setPart i x = ⟨f.f0, f.f1, x, f.f3, f.rest⟩) ∨ (∀ f : Frame, f.part i = f.f3 ∧ ∀ x, f.setPart i x = ⟨f.f0, f.f1, f.f2, x, f.rest⟩) := by
  simp only [Frame.part, F4.get, Frame.setPart]
  cases bitA i <;> cases bitB i
  · exact .inr (.inr (.inr fun f => ⟨rfl, fun x => rfl⟩))
  · exact .inr (.inl fun f => ⟨rfl, fun x => rfl⟩)
  · exact .inr (.inr (.inl fun f => ⟨rfl, fun x => rfl⟩))
  · exact .inl fun f => ⟨rfl, fun x => rfl⟩
theorem gleaf_ok (q : Frame → F4 (Option SV)) (t : Nat) (f : Frame) : (gleaf q t).g f = (q f).get t := by
  unfold gleaf
  rcases F4.four t with h | h | h | h <;> rw [(h _ _).1, (h _ _).1]
theorem gmid_ok (p : Frame → F16) (t : Nat) (f : Frame) : (gmid p t).g f = ((p f).get (Nat.div t 4)).get t := by
  unfold gmid
  rcases F4.four (Nat.div t 4) with h | h | h | h <;> rw [(h _ _).1, (h _ _).1] <;> exact gleaf_ok _ t f
theorem gtmp_ok (t : Nat) (f : Frame) : (gtmp t).g f = f.get t := by
  simp only [gtmp, Frame.get]
  cases Nat.blt t 64
  · exact tget_eq _ _
  · show (F4.get (F4.mk (gmid Frame.f0 t) (gmid Frame.f1 t) (gmid Frame.f2 t) (gmid Frame.f3 t)) (Nat.div t 16)).g f = ((f.part (Nat.div t 16)).get (Nat.div t 4)).get t
    rw [Frame.part]
    rcases F4.four (Nat.div t 16) with h | h | h | h <;> rw [(h _ _).1, (h _ _).1] <;> exact gmid_ok _ t f
noncomputable def gop : Operand → GW
  | .tmp t => gtmp t
  | .const v => match ofV 8 v with
    | some x => ⟨fun _ => some x⟩
    | none => ⟨fun _ => none⟩
  | .global _ => ⟨fun _ => none⟩
  | .func f => ⟨fun _ => some (.func (.func f) [] [])⟩
theorem gop_ok (x : Operand) (tm : Frame) (n : Nat) : (gop x).g tm = SAct.ev ⟨tm, n⟩ x := by
  cases x with
  | tmp t => exact gtmp_ok t tm
  | const v =>
    simp only [gop, SAct.ev]
    cases ofV 8 v <;> rfl
  | _ => rfl
/-! ### where a result is put -/
structure PW (β : Type) where
  p : Frame → SV → (Frame → β) → β
structure LW (α β : Type) where
  p : α → SV → (α → β) → β
noncomputable def pleaf (β : Type) (t : Nat) : LW (F4 (Option SV)) β := F4.get
  ⟨⟨fun q v k => @F4.rec (Option SV) (fun _ => β) (fun a b c d => k ⟨some v, b, c, d⟩) q⟩, ⟨fun q v k => @F4.rec (Option SV) (fun _ => β) (fun a b c d => k ⟨a, some v, c, d⟩) q⟩,
   ⟨fun q v k => @F4.rec (Option SV) (fun _ => β) (fun a b c d => k ⟨a, b, some v, d⟩) q⟩, ⟨fun q v k => @F4.rec (Option SV) (fun _ => β) (fun a b c d => k ⟨a, b, c, some v⟩) q⟩⟩ t
noncomputable def pmid (β : Type) (t : Nat) : LW F16 β := @LW.rec (F4 (Option SV)) β (fun _ => LW F16 β) (fun r => F4.get
  ⟨⟨fun q v k => @F4.rec (F4 (Option SV)) (fun _ => β) (fun a b c d => r a v fun x => k ⟨x, b, c, d⟩) q⟩, ⟨fun q v k => @F4.rec (F4 (Option SV)) (fun _ => β) (fun a b c d => r b v fun x => k ⟨a, x, c, d⟩) q⟩,
   ⟨fun q v k => @F4.rec (F4 (Option SV)) (fun _ => β) (fun a b c d => r c v fun x => k ⟨a, b, x, d⟩) q⟩, ⟨fun q v k => @F4.rec (F4 (Option SV)) (fun _ => β) (fun a b c d => r d v fun x => k ⟨a, b, c, x⟩) q⟩⟩ (Nat.div t 4)) (pleaf β t)
noncomputable def pnear (β : Type) (t : Nat) : PW β := @LW.rec F16 β (fun _ => PW β) (fun r => F4.get
  ⟨⟨fun f v k => @Frame.rec (fun _ => β) (fun a b c d e => r a v fun x => k ⟨x, b, c, d, e⟩) f⟩, ⟨fun f v k => @Frame.rec (fun _ => β) (fun a b c d e => r b v fun x => k ⟨a, x, c, d, e⟩) f⟩,
   ⟨fun f v k => @Frame.rec (fun _ => β) (fun a b c d e => r c v fun x => k ⟨a, b, x, d, e⟩) f⟩, ⟨fun f v k => @Frame.rec (fun _ => β) (fun a b c d e => r d v fun x => k ⟨a, b, c, x, e⟩) f⟩⟩ (Nat.div t 16)) (pmid β t)
noncomputable def ptmp (β : Type) (t : Nat) : PW β := @Bool.casesOn (fun _ => PW β) (Nat.blt t 64) ⟨fun f v k => @Frame.rec (fun _ => β) (fun a b c d e => tput e (Nat.sub t 64) v fun e' => k ⟨a, b, c, d, e'⟩) f⟩ (pnear β t)
theorem pleaf_ok (β : Type) (t : Nat) (q : F4 (Option SV)) (v : SV) (k : F4 (Option SV) → β) : (pleaf β t).p q v k = k (q.set t (some v)) := by
  unfold pleaf
  rcases F4.four t with h | h | h | h <;> rw [(h _ _).1, (h _ _).2]
theorem pmid_ok (β : Type) (t : Nat) (q : F16) (v : SV) (k : F16 → β) : (pmid β t).p q v k = k (q.set (Nat.div t 4) ((q.get (Nat.div t 4)).set t (some v))) := by
  have hr := pleaf_ok β t
  unfold pmid
  revert hr
  generalize pleaf β t = L
  intro hr
  cases L with
  | mk r =>
    dsimp only at hr ⊢
    rcases F4.four (Nat.div t 4) with h | h | h | h <;> rw [(h _ _).1, (h _ _).2, (h _ _).1] <;> exact hr _ v _
theorem pnear_ok (β : Type) (t : Nat) (f : Frame) (v : SV) (k : Frame → β) : (pnear β t).p f v k = k (f.setPart (Nat.div t 16) ((f.part (Nat.div t 16)).set (Nat.div t 4) (((f.part (Nat.div t 16)).get (Nat.div t 4)).set t (some v)))) := by
  have hr := pmid_ok β t
  unfold pnear
  revert hr
  generalize pmid β t = L
  intro hr
  cases L with
  | mk r =>
    dsimp only at hr ⊢
    simp only [Frame.setPart, Frame.part]
    rw [F4.get]
    generalize ht : Nat.div t 16 = u
    have e : ∀ x : F4 F16, x.get u = @Bool.casesOn (fun _ => F16) (bitB u) (@Bool.casesOn (fun _ => F16) (bitA u) x.d x.c) (@Bool.casesOn (fun _ => F16) (bitA u) x.b x.a) := fun x => by rw [F4.get]
    rw [e]
    cases bitA u <;> cases bitB u <;> exact hr _ v _
theorem ptmp_ok (β : Type) (t : Nat) (f : Frame) (v : SV) (k : Frame → β) : (ptmp β t).p f v k = k (f.put t v) := by
  simp only [ptmp, Frame.put]
  cases Nat.blt t 64
  · exact tput_eq v f.rest (Nat.sub t 64) _
  · exact pnear_ok β t f v k
noncomputable def pdst (n : Nat) (d : Option Tmp) : PW Res :=
  match d with
  | none => ⟨fun f _ k => k f⟩
  | some t => match Nat.blt t n with
    | true => ptmp Res t
    | false => ⟨fun _ _ _ => .fail⟩
theorem pdst_ok {n : Nat} {d : Option Tmp} {tm : Frame} {v : SV} {k : Frame → Res} {outs : List (SExit × Frame × St)} (h : ((pdst n d).p tm v k).outs = some outs) :
    ∃ a, SAct.put ⟨tm, n⟩ d v = some a ∧ a.n = n ∧ (k a.tm).outs = some outs := by
  unfold pdst at h
  split at h
  · exact ⟨⟨tm, n⟩, rfl, rfl, h⟩
  · rename_i t
    split at h
    · rename_i hlt
      rw [ptmp_ok] at h
      exact ⟨⟨tm.put t v, n⟩, by simp only [SAct.put, hlt], rfl, h⟩
    · cases h
/-! ### one operation -/
def manyOps (n : Nat) (o : Option (List (SAct × St))) (k : Frame → St → Res) : Res :=
  match o with
  | some l => match l with
    | [p] => match Nat.beq p.1.n n with
      | true => k p.1.tm p.2
      | false => .fail
    | l => match l.all fun p => Nat.beq p.1.n n with
      | true => ofMany (bindL l fun p => (k p.1.tm p.2).outs)
      | false => .fail
  | none => .fail
theorem manyOps_outs {n : Nat} {o : Option (List (SAct × St))} {k : Frame → St → Res} {outs : List (SExit × Frame × St)} (h : (manyOps n o k).outs = some outs) :
    ∃ l, o = some l ∧ ∀ p ∈ l, p.1.n = n ∧ ∃ ys, (k p.1.tm p.2).outs = some ys ∧ ∀ y ∈ ys, y ∈ outs := by
  unfold manyOps at h
  split at h
  · rename_i l
    split at h
    · rename_i p
      split at h
      · rename_i hn
        refine ⟨[p], rfl, fun q hq => ?_⟩
        rw [List.mem_singleton.1 hq]
        exact ⟨Nat.eq_of_beq_eq_true hn, outs, h, fun y hy => hy⟩
      · cases h
    · split at h
      · rename_i hn
        rw [ofMany_outs] at h
        refine ⟨l, rfl, fun q hq => ?_⟩
        obtain ⟨ys, h1, h2⟩ := bindL_mem h hq
        exact ⟨Nat.eq_of_beq_eq_true (List.all_eq_true.1 hn q hq), ys, h1, h2⟩
      · cases h
  · cases h
/-- What a piece of an operation must be. -/
def KoOk (P : Program) (n : Nat) (ops : Array Oper) (o : Oper) (f : KO) : Prop :=
  ∀ F tm s k outs, (f F tm s k).outs = some outs → ∃ l, opStep P (toFs F) ops ⟨tm, n⟩ s o = some l ∧ ∀ p ∈ l, p.1.n = n ∧ ∃ ys, (k p.1.tm p.2).outs = some ys ∧ ∀ y ∈ ys, y ∈ outs
/-- The same of an operation whose guard holds. -/
def KrOk (P : Program) (n : Nat) (o : Oper) (f : KO) : Prop :=
  ∀ F tm s k outs, (f F tm s k).outs = some outs → ∃ l, runOp P (toFs F) ⟨tm, n⟩ s o = some l ∧ ∀ p ∈ l, p.1.n = n ∧ ∃ ys, (k p.1.tm p.2).outs = some ys ∧ ∀ y ∈ ys, y ∈ outs
def kgen (P : Program) (n : Nat) (o : Oper) : KW := ⟨fun F tm s k => manyOps n (runOp P (toFs F) ⟨tm, n⟩ s o) k⟩
theorem kgen_ok (P : Program) (n : Nat) (o : Oper) : KrOk P n o (kgen P n o).f := fun F tm s k outs h => manyOps_outs h
/-! ### a state whose parts are at hand -/
noncomputable def forceS {β : Type} (s : St) (k : St → β) : β :=
  @St.rec (fun _ => β) (fun h next asm resv => @T.rec SObj (fun _ => β) (@Nat.rec (fun _ => β) (@List.rec (BX × Bool) (fun _ => β) (@List.rec Nat (fun _ => β) (k ⟨.nil, 0, [], []⟩) (fun c d _ => k ⟨.nil, 0, [], c :: d⟩) resv) (fun a b _ => @List.rec Nat (fun _ => β) (k ⟨.nil, 0, a :: b, []⟩) (fun c d _ => k ⟨.nil, 0, a :: b, c :: d⟩) resv) asm) (fun m _ => @List.rec (BX × Bool) (fun _ => β) (@List.rec Nat (fun _ => β) (k ⟨.nil, Nat.succ m, [], []⟩) (fun c d _ => k ⟨.nil, Nat.succ m, [], c :: d⟩) resv) (fun a b _ => @List.rec Nat (fun _ => β) (k ⟨.nil, Nat.succ m, a :: b, []⟩) (fun c d _ => k ⟨.nil, Nat.succ m, a :: b, c :: d⟩) resv) asm) next)
    (fun l v r _ _ => @Nat.rec (fun _ => β) (@List.rec (BX × Bool) (fun _ => β) (@List.rec Nat (fun _ => β) (k ⟨.node l v r, 0, [], []⟩) (fun c d _ => k ⟨.node l v r, 0, [], c :: d⟩) resv) (fun a b _ => @List.rec Nat (fun _ => β) (k ⟨.node l v r, 0, a :: b, []⟩) (fun c d _ => k ⟨.node l v r, 0, a :: b, c :: d⟩) resv) asm) (fun m _ => @List.rec (BX × Bool) (fun _ => β) (@List.rec Nat (fun _ => β) (k ⟨.node l v r, Nat.succ m, [], []⟩) (fun c d _ => k ⟨.node l v r, Nat.succ m, [], c :: d⟩) resv) (fun a b _ => @List.rec Nat (fun _ => β) (k ⟨.node l v r, Nat.succ m, a :: b, []⟩) (fun c d _ => k ⟨.node l v r, Nat.succ m, a :: b, c :: d⟩) resv) asm) next) h) s
theorem forceS_eq {β : Type} (s : St) (k : St → β) : forceS s k = k s := by
  obtain ⟨h, next, asm, resv⟩ := s
  cases h <;> cases next <;> cases asm <;> cases resv <;> rfl
inductive BV where
  | no
  | lit (b : Bool)
  | sym (b : BX)
noncomputable def asBool (v : SV) : BV := @SV.rec (fun _ => BV) (fun _ => Unit) (fun b => @BX.rec (fun _ => BV) (fun b => .lit b) (fun i => .sym (.var i)) (fun b _ => .sym (.not b)) (fun a b => .sym (.ieq a b)) (fun a b => .sym (.ilt a b)) (fun a b => .sym (.seq a b)) (fun a b _ _ => .sym (.and a b)) b)
  (fun _ _ => .no) (fun _ => .no) .no (fun _ _ => .no) .no (fun _ _ _ _ _ => .no) .no (fun _ => .no) .no (fun _ _ _ _ _ => .no) .no (fun _ _ _ => .no) (fun _ _ => .no) (fun _ _ => .no) () (fun _ _ _ _ => ()) v
theorem asBool_lit {v : SV} {b : Bool} (h : asBool v = .lit b) : v = .bool (.lit b) := by
  cases v with
  | bool x => cases x <;> cases h; rfl
  | _ => cases h
theorem asBool_sym {v : SV} {b : BX} (h : asBool v = .sym b) : v = .bool b := by
  cases v with
  | bool x => cases x <;> cases h <;> rfl
  | _ => cases h
theorem bindL_cons {α β : Type} (x y : α) (l : List α) (f : α → Option (List β)) : bindL (x :: y :: l) f = match f x, bindL (y :: l) f with
    | some ys, some zs => some (ys ++ zs)
    | _, _ => none := rfl
theorem bindL_map {α β γ : Type} {f : α → β} {g : β → Option (List γ)} : ∀ (l : List α), bindL (l.map f) g = bindL l fun x => g (f x)
  | [] => rfl
  | [x] => rfl
  | x :: y :: l => by
    have := bindL_map (f := f) (g := g) (y :: l)
    simp only [List.map_cons] at this
    rw [List.map_cons, List.map_cons, bindL_cons, this, bindL_cons]
theorem bindL_all {α β : Type} {f : α → Option (List β)} {R : β → Prop} : ∀ {l : List α}, (∀ x ∈ l, ∃ ys, f x = some ys ∧ ∀ y ∈ ys, R y) → ∃ m, bindL l f = some m ∧ ∀ y ∈ m, R y
  | [], _ => ⟨[], rfl, fun y hy => by cases hy⟩
  | [x], h => by
    obtain ⟨ys, h1, h2⟩ := h x List.mem_cons_self
    exact ⟨ys, by simp only [bindL, h1], h2⟩
  | x :: y :: l, h => by
    obtain ⟨ys, h1, h2⟩ := h x List.mem_cons_self
    obtain ⟨m, m1, m2⟩ := bindL_all (l := y :: l) fun z hz => h z (List.mem_cons_of_mem _ hz)
    refine ⟨ys ++ m, by simp only [bindL, h1] at m1 ⊢; rw [m1], fun z hz => ?_⟩
    rcases List.mem_append.1 hz with hz | hz
    · exact h2 z hz
    · exact m2 z hz
/-! ### pointers -/
inductive PtrV where
  | no
  | yes (id off : Nat)
noncomputable def asPtr (v : SV) : PtrV := @SV.rec (fun _ => PtrV) (fun _ => Unit) (fun _ => .no) (fun _ _ => .no) (fun _ => .no) .no (fun i o => .yes i o) .no (fun _ _ _ _ _ => .no) .no (fun _ => .no) .no (fun _ _ _ _ _ => .no) .no (fun _ _ _ => .no) (fun _ _ => .no) (fun _ _ => .no) () (fun _ _ _ _ => ()) v
theorem asPtr_cases (v : SV) : (∃ i o, v = .ptr i o ∧ asPtr v = .yes i o) ∨ asPtr v = .no ∧ ∀ i o, v ≠ .ptr i o := by
  cases v with
  | ptr i o => exact .inl ⟨i, o, rfl, rfl⟩
  | _ => exact .inr ⟨rfl, fun i o e => by cases e⟩
noncomputable def lnth {α : Type} (l : List α) (i : Nat) : Option α := @List.rec α (fun _ => Nat → Option α) (fun _ => none) (fun a _ g i => @Nat.rec (fun _ => Option α) (some a) (fun j _ => g j) i) l i
theorem lnth_eq {α : Type} : ∀ (l : List α) (i : Nat), lnth l i = l[i]?
  | [], i => rfl
  | a :: l, 0 => rfl
  | a :: l, j + 1 => by rw [List.getElem?_cons_succ, ← lnth_eq l j]; rfl
noncomputable def ldrop {α : Type} (i : Nat) (l : List α) : List α := @Nat.rec (fun _ => List α → List α) (fun l => l) (fun _ g l => @List.rec α (fun _ => List α) [] (fun _ l _ => g l) l) i l
theorem ldrop_eq {α : Type} : ∀ (i : Nat) (l : List α), ldrop i l = l.drop i
  | 0, l => rfl
  | i + 1, [] => by simp; rfl
  | i + 1, a :: l => by rw [List.drop_succ_cons, ← ldrop_eq i l]; rfl
noncomputable def ltake {α : Type} (i : Nat) (l : List α) : List α := @Nat.rec (fun _ => List α → List α) (fun _ => []) (fun _ g l => @List.rec α (fun _ => List α) [] (fun a l _ => a :: g l) l) i l
theorem ltake_eq {α : Type} : ∀ (i : Nat) (l : List α), ltake i l = l.take i
  | 0, l => by simp; rfl
  | i + 1, [] => by simp; rfl
  | i + 1, a :: l => by rw [List.take_succ_cons, ← ltake_eq i l]; rfl
/-- A list, all at hand, behind an other one. -/
noncomputable def lapp {α β : Type} (l m : List α) (k : List α → β) : β := @List.rec α (fun _ => (List α → β) → β) (fun k => k m) (fun a _ g k => g fun r => k (a :: r)) l k
theorem lapp_eq {α β : Type} : ∀ (l m : List α) (k : List α → β), lapp l m k = k (l ++ m)
  | [], m, k => rfl
  | a :: l, m, k => by
    show lapp l m (fun r => k (a :: r)) = _
    rw [lapp_eq l]; rfl
noncomputable def llen {α : Type} (l : List α) : Nat := @List.rec α (fun _ => Nat) 0 (fun _ _ n => Nat.succ n) l
theorem llen_eq {α : Type} : ∀ (l : List α), llen l = l.length
  | [] => rfl
  | a :: l => by rw [List.length_cons, ← llen_eq l]; rfl
/-! ### loads -/
noncomputable def rowAtF (h : T SObj) (id off n : Nat) (k : List SV → Option SV) : Option SV :=
  @Option.rec SObj (fun _ => Option SV) none (fun ob => @SObj.rec (fun _ => Option SV) none (fun rows _ es _ _ _ => @Option.rec (List SV) (fun _ => Option SV) none (fun row => @Bool.rec (fun _ => Option SV) none (k (ldrop (Nat.mod off es) row)) (Nat.ble (Nat.add (Nat.mod off es) n) es)) (tget rows (Nat.div off es))) (fun _ _ => none) (fun _ _ _ _ => none) (fun _ _ => none) (fun _ => none) ob) (tget h id)
theorem rowAtF_eq (h : T SObj) (id off n : Nat) (k : List SV → Option SV) : rowAtF h id off n k = match h.get id with
    | some (.cells rows nr es ty opn ro) => match rows.get (off / es) with
      | some row => match Nat.ble (off % es + n) es with
        | true => k (row.drop (off % es))
        | false => none
      | none => none
    | _ => none := by
  unfold rowAtF
  rw [tget_eq]
  cases h.get id with
  | none => rfl
  | some ob => cases ob with
    | cells rows nr es ty opn ro =>
      have e1 : ∀ i, tget rows i = rows.get i := tget_eq rows
      have e2 : ∀ (i : Nat) (l : List SV), ldrop i l = l.drop i := ldrop_eq
      dsimp only
      rw [e1]
      have e3 : rows.get (Nat.div off es) = rows.get (off / es) := rfl
      rw [e3]
      cases rows.get (off / es) with
      | none => rfl
      | some row =>
        dsimp only
        rw [e2]
        have e4 : Nat.ble (Nat.add (Nat.mod off es) n) es = Nat.ble (off % es + n) es := rfl
        rw [e4]
        cases Nat.ble (off % es + n) es <;> rfl
    | _ => rfl
noncomputable def loadOne (h : T SObj) (v : SV) : Option SV :=
  @PtrV.rec (fun _ => Option SV) none (fun id off => rowAtF h id off 1 fun row => @List.rec SV (fun _ => Option SV) none (fun a _ _ => some a) row) (asPtr v)
noncomputable def loadAgg (n : Nat) (h : T SObj) (v : SV) : Option SV :=
  @PtrV.rec (fun _ => Option SV) none (fun id off => rowAtF h id off n fun row => some (.agg (ltake n row))) (asPtr v)
structure QW where
  q : T SObj → SV → Option SV
noncomputable def kload (P : Program) (t : TypeId) : QW :=
  match P.underlying t with
  | some d => match aggD d with
    | true => match szOf P t with
      | some n => ⟨fun h v => loadAgg n h v⟩
      | none => ⟨fun _ _ => none⟩
    | false => ⟨loadOne⟩
  | none => ⟨fun _ _ => none⟩
theorem kload_eq (P : Program) (t : TypeId) (h : T SObj) (v : SV) : (kload P t).q h v = xload P h t v := by
  unfold kload
  cases hu : P.underlying t with
  | none =>
    cases v <;> simp only [xload, hu]
  | some d =>
    cases ha : aggD d with
    | false =>
      simp only [ha]
      unfold loadOne
      rcases asPtr_cases v with ⟨i, o, rfl, e⟩ | ⟨e, hn⟩
      · rw [e]
        simp only [xload, hu, ha, readCells]
        rw [rowAtF_eq]
        cases h.get i with
        | none => rfl
        | some ob => cases ob with
          | cells rows nr es ty opn ro =>
            dsimp only
            cases rows.get (o / es) with
            | none => rfl
            | some row =>
              dsimp only
              cases Nat.ble (o % es + 1) es with
              | false => rfl
              | true =>
                dsimp only
                cases List.drop (o % es) row with
                | nil => rfl
                | cons a l => rfl
          | _ => rfl
      · rw [e]
        cases v <;> first | rfl | (rename_i i o; exact (hn i o rfl).elim)
    | true =>
      simp only [ha]
      cases hs : szOf P t with
      | none => cases v <;> simp only [xload, hu, ha, hs]
      | some n =>
        simp only
        unfold loadAgg
        rcases asPtr_cases v with ⟨i, o, rfl, e⟩ | ⟨e, hn⟩
        · rw [e]
          simp only [xload, hu, ha, hs, readCells]
          rw [rowAtF_eq]
          cases h.get i with
          | none => rfl
          | some ob => cases ob with
            | cells rows nr es ty opn ro =>
              dsimp only
              cases rows.get (o / es) with
              | none => rfl
              | some row =>
                dsimp only
                cases Nat.ble (o % es + n) es with
                | false => rfl
                | true =>
                  dsimp only
                  rw [ltake_eq]
            | _ => rfl
        · rw [e]
          cases v <;> first | rfl | (rename_i i o; exact (hn i o rfl).elim)
/-! ### stores -/
/-- A number, worked out. -/
noncomputable def natL {β : Type} (x : Nat) (k : Nat → β) : β := @Nat.rec (fun _ => β) (k 0) (fun m _ => k m) (Nat.add x 1)
theorem natL_eq {β : Type} (x : Nat) (k : Nat → β) : natL x k = k x := rfl
inductive AggV where
  | no
  | yes (cs : List SV)
noncomputable def asAgg (v : SV) : AggV := @SV.rec (fun _ => AggV) (fun _ => Unit) (fun _ => .no) (fun _ _ => .no) (fun _ => .no) .no (fun _ _ => .no) .no (fun _ _ _ _ _ => .no) .no (fun _ => .no) .no (fun _ _ _ _ _ => .no) .no (fun _ _ _ => .no) (fun cs _ => .yes cs) (fun _ _ => .no) () (fun _ _ _ _ => ()) v
noncomputable def cellsF (v : SV) : List SV := @AggV.rec (fun _ => List SV) [v] (fun cs => cs) (asAgg v)
theorem cellsF_eq (v : SV) : cellsF v = cellsOf v := by cases v <;> rfl
noncomputable def oneF (v : SV) : Bool := @SV.rec (fun _ => Bool) (fun _ => Unit) (fun _ => true) (fun _ _ => true) (fun _ => true) true (fun _ _ => true) true (fun _ _ _ _ _ => true) true (fun _ => true) true (fun _ _ _ _ _ => true) true (fun _ _ _ => true) (fun _ _ => false) (fun _ _ => false) () (fun _ _ _ _ => ()) v
theorem oneF_eq (v : SV) : oneF v = v.one := by cases v <;> rfl
noncomputable def onesF (l : List SV) : Bool := @List.rec SV (fun _ => Bool) true (fun a _ ih => @Bool.rec (fun _ => Bool) false ih (oneF a)) l
theorem onesF_eq : ∀ (l : List SV), onesF l = l.all SV.one
  | [] => rfl
  | a :: l => by
    show @Bool.rec (fun _ => Bool) false (onesF l) (oneF a) = _
    rw [List.all_cons, oneF_eq, onesF_eq l]
    cases a.one <;> rfl
noncomputable def storeF (s : St) (id off : Nat) (vs : List SV) (k : St → Res) : Res :=
  @St.rec (fun _ => Res) (fun h next asm resv => @Option.rec SObj (fun _ => Res) .fail (fun ob => @SObj.rec (fun _ => Res) .fail (fun rows nr es ty opn ro => @Bool.rec (fun _ => Res)
    (@Option.rec (List SV) (fun _ => Res) .fail (fun row => @Bool.rec (fun _ => Res) .fail (lapp vs (ldrop (Nat.add (Nat.mod off es) (llen vs)) row) fun m => lapp (ltake (Nat.mod off es) row) m fun row' => tput rows (Nat.div off es) row' fun rows' => tput h id (.cells rows' nr es ty opn false) fun h' => k ⟨h', next, asm, resv⟩) (Nat.ble (Nat.add (Nat.mod off es) (llen vs)) es)) (tget rows (Nat.div off es)))
    .fail ro) (fun _ _ => .fail) (fun _ _ _ _ => .fail) (fun _ _ => .fail) (fun _ => .fail) ob) (tget h id)) s
theorem storeF_ok {s : St} {id off : Nat} {vs : List SV} {k : St → Res} {outs : List (SExit × Frame × St)} (hh : (storeF s id off vs k).outs = some outs) : ∃ h', writeCells s.h id off vs = some h' ∧ (k { s with h := h' }).outs = some outs := by
  obtain ⟨h, next, asm, resv⟩ := s
  have hh : (@Option.rec SObj (fun _ => Res) .fail (fun ob => @SObj.rec (fun _ => Res) .fail (fun rows nr es ty opn ro => @Bool.rec (fun _ => Res)
    (@Option.rec (List SV) (fun _ => Res) .fail (fun row => @Bool.rec (fun _ => Res) .fail (lapp vs (ldrop (Nat.add (Nat.mod off es) (llen vs)) row) fun m => lapp (ltake (Nat.mod off es) row) m fun row' => tput rows (Nat.div off es) row' fun rows' => tput h id (.cells rows' nr es ty opn false) fun h' => k ⟨h', next, asm, resv⟩) (Nat.ble (Nat.add (Nat.mod off es) (llen vs)) es)) (tget rows (Nat.div off es)))
    .fail ro) (fun _ _ => .fail) (fun _ _ _ _ => .fail) (fun _ _ => .fail) (fun _ => .fail) ob) (tget h id)).outs = some outs := hh
  rw [tget_eq] at hh
  simp only [writeCells]
  cases hg : h.get id with
  | none => rw [hg] at hh; cases hh
  | some ob => cases ob with
    | cells rows nr es ty opn ro =>
      rw [hg] at hh
      cases ro with
      | true => cases hh
      | false =>
        have hh : (@Option.rec (List SV) (fun _ => Res) .fail (fun row => @Bool.rec (fun _ => Res) .fail (lapp vs (ldrop (Nat.add (Nat.mod off es) (llen vs)) row) fun m => lapp (ltake (Nat.mod off es) row) m fun row' => tput rows (Nat.div off es) row' fun rows' => tput h id (.cells rows' nr es ty opn false) fun h' => k ⟨h', next, asm, resv⟩) (Nat.ble (Nat.add (Nat.mod off es) (llen vs)) es)) (tget rows (Nat.div off es))).outs = some outs := hh
        rw [tget_eq] at hh
        dsimp only
        have e0 : rows.get (Nat.div off es) = rows.get (off / es) := rfl
        rw [e0] at hh
        cases hr : rows.get (off / es) with
        | none => rw [hr] at hh; cases hh
        | some row =>
          rw [hr] at hh
          have hh : (@Bool.rec (fun _ => Res) .fail (lapp vs (ldrop (Nat.add (Nat.mod off es) (llen vs)) row) fun m => lapp (ltake (Nat.mod off es) row) m fun row' => tput rows (Nat.div off es) row' fun rows' => tput h id (.cells rows' nr es ty opn false) fun h' => k ⟨h', next, asm, resv⟩) (Nat.ble (Nat.add (Nat.mod off es) (llen vs)) es)).outs = some outs := hh
          rw [llen_eq] at hh
          have e1 : Nat.ble (Nat.add (Nat.mod off es) vs.length) es = Nat.ble (off % es + vs.length) es := rfl
          rw [e1] at hh
          dsimp only
          cases hb : Nat.ble (off % es + vs.length) es with
          | false => rw [hb] at hh; cases hh
          | true =>
            rw [hb] at hh
            have hh : (lapp vs (ldrop (Nat.add (Nat.mod off es) vs.length) row) fun m => lapp (ltake (Nat.mod off es) row) m fun row' => tput rows (Nat.div off es) row' fun rows' => tput h id (.cells rows' nr es ty opn false) fun h' => k ⟨h', next, asm, resv⟩).outs = some outs := hh
            rw [lapp_eq, lapp_eq, tput_eq, tput_eq, ltake_eq, ldrop_eq] at hh
            exact ⟨_, rfl, hh⟩
    | _ => rw [hg] at hh; cases hh
noncomputable def boxF (s : St) (cs : List SV) (t : TypeId) (k : SV → St → Res) : Res :=
  @St.rec (fun _ => Res) (fun h next asm resv => natL (llen cs) fun len => natL (Nat.add next 1) fun next' => tput h next (.cells (.node .nil (some cs) .nil) 1 len t false false) fun h' => k (.ptr next 0) ⟨h', next', asm, resv⟩) s
theorem boxF_eq (s : St) (cs : List SV) (t : TypeId) (k : SV → St → Res) : boxF s cs t k = k (newVar s cs t).1 (newVar s cs t).2 := by
  obtain ⟨h, next, asm, resv⟩ := s
  show (natL (llen cs) fun len => natL (Nat.add next 1) fun next' => tput h next (.cells (.node .nil (some cs) .nil) 1 len t false false) fun h' => k (.ptr next 0) ⟨h', next', asm, resv⟩) = _
  rw [natL_eq, natL_eq, tput_eq, llen_eq]
  rfl
/-! ### ways -/
noncomputable def stA (s : St) (asm : Asm) (k : St → Res) : Res := @St.rec (fun _ => Res) (fun h next _ resv => @List.rec (BX × Bool) (fun _ => Res) (k ⟨h, next, [], resv⟩) (fun a l _ => k ⟨h, next, a :: l, resv⟩) asm) s
theorem stA_eq (s : St) (asm : Asm) (k : St → Res) : stA s asm k = k ⟨s.h, s.next, asm, s.resv⟩ := by
  obtain ⟨h, next, a, resv⟩ := s
  cases asm <;> rfl
noncomputable def oneWay (s : St) (f q : St → Res) (p : Bool × Asm) : Res := @Prod.rec Bool Asm (fun _ => Res) (fun b asm => @Bool.rec (fun _ => Res) (stA s asm q) (stA s asm f) b) p
theorem oneWay_eq (s : St) (f q : St → Res) (p : Bool × Asm) : oneWay s f q p = match p.1 with | true => f ⟨s.h, s.next, p.2, s.resv⟩ | false => q ⟨s.h, s.next, p.2, s.resv⟩ := by
  obtain ⟨b, asm⟩ := p
  cases b
  · exact stA_eq s asm q
  · exact stA_eq s asm f
noncomputable def splitWays (l : List (Bool × Asm)) (s : St) (f q : St → Res) : Res :=
  match l with
  | [p] => oneWay s f q p
  | l => ofMany (bindL l fun p => (oneWay s f q p).outs)
theorem splitWays_outs {l : List (Bool × Asm)} {s : St} {f q : St → Res} {outs : List (SExit × Frame × St)} (h : (splitWays l s f q).outs = some outs) : ∀ p ∈ l, ∃ ys, (match p.1 with | true => f ⟨s.h, s.next, p.2, s.resv⟩ | false => q ⟨s.h, s.next, p.2, s.resv⟩).outs = some ys ∧ ∀ y ∈ ys, y ∈ outs := by
  unfold splitWays at h
  intro p hp
  split at h
  · rename_i p0
    rw [oneWay_eq] at h
    rw [List.mem_singleton.1 hp]
    exact ⟨outs, h, fun y hy => hy⟩
  · rw [ofMany_outs] at h
    obtain ⟨ys, h1, h2⟩ := bindL_mem h hp
    rw [oneWay_eq] at h1
    exact ⟨ys, h1, h2⟩
/-- Values and states, one or many. -/
noncomputable def eachOut (l : List (SV × St)) (k : SV → St → Res) : Res :=
  match l with
  | [q] => forceS q.2 fun s' => k q.1 s'
  | l => ofMany (bindL l fun q => (k q.1 q.2).outs)
theorem eachOut_outs {l : List (SV × St)} {k : SV → St → Res} {outs : List (SExit × Frame × St)} (h : (eachOut l k).outs = some outs) : ∀ q ∈ l, ∃ ys, (k q.1 q.2).outs = some ys ∧ ∀ y ∈ ys, y ∈ outs := by
  unfold eachOut at h
  intro p hp
  split at h
  · rename_i q
    rw [forceS_eq] at h
    rw [List.mem_singleton.1 hp]
    exact ⟨outs, h, fun y hy => hy⟩
  · rw [ofMany_outs] at h
    obtain ⟨ys, h1, h2⟩ := bindL_mem h hp
    exact ⟨ys, h1, h2⟩
end Go.Sx
