/-
  A fast symbolic run (part 4): regions that draw their order, where one order is as good as all.
-/
import Derived.Test.YtkckgjjhnjcffaaSyB
namespace Go.Sx
set_option linter.unusedVariables false
set_option linter.unusedSimpArgs false
/-! ### what a load saw -/
structure Look where
  k : Nat
  id : Nat
  r : Nat
  row : List SV
  nr : Nat
  es : Nat
  ty : TypeId
  opn : Bool
  ro : Bool
def Look.obj (x : Look) : SObj := .cells (T.put .nil x.r x.row) x.nr x.es x.ty x.opn x.ro
def Look.heap (x : Look) : T SObj := T.put .nil x.id x.obj
def lookHeap : List Look → Nat → T SObj
  | [], _ => .nil
  | x :: l, k => match Nat.beq x.k k with
    | true => x.heap
    | false => lookHeap l k
def Holds (h : T SObj) (x : Look) : Prop := ∃ rows, h.get x.id = some (.cells rows x.nr x.es x.ty x.opn x.ro) ∧ rows.get x.r = some x.row
noncomputable def holds (h : T SObj) (x : Look) : Bool :=
  match tget h x.id with
  | some (.cells rows nr es ty opn ro) => Nat.beq nr x.nr && (Nat.beq es x.es && (Nat.beq ty x.ty && ((opn == x.opn) && ((ro == x.ro) && match tget rows x.r with | some row => SV.beqL row x.row | none => false))))
  | _ => false
theorem holds_ok {h : T SObj} {x : Look} (hh : holds h x = true) : Holds h x := by
  unfold holds at hh
  rw [tget_eq] at hh
  split at hh
  · rename_i rows nr es ty opn ro hg
    simp only [Bool.and_eq_true, beq_iff_eq] at hh
    obtain ⟨h1, h2, h3, h4, h5, h6⟩ := hh
    have h1 := Nat.eq_of_beq_eq_true h1
    have h2 := Nat.eq_of_beq_eq_true h2
    have h3 := Nat.eq_of_beq_eq_true h3
    rw [tget_eq] at h6
    split at h6
    · rename_i row hr
      have h6 := SV.beqL_eq _ _ h6
      subst h1 h2 h3 h4 h5 h6
      exact ⟨rows, hg, hr⟩
    · cases h6
  · cases hh
theorem look_mem {E : Env} {h : T SObj} {w : World} {x : Look} (M : Mem E h w) (hx : Holds h x) : Mem E x.heap w := by
  obtain ⟨rows, h1, h2⟩ := hx
  intro id o hid hl
  simp only [Look.heap, T.get_put, T.get_nil] at hid
  split at hid
  · rename_i e
    subst e
    cases hid
    obtain ⟨b, base, n, k1, k2⟩ := M _ _ h1 rfl
    refine ⟨b, base, n, k1, ?_⟩
    obtain ⟨cs, fr, a1, a2, a3, a4, a5, a6⟩ := k2
    refine ⟨cs, fr, a1, a2, a3, a4, a5, fun r row hr => ?_⟩
    rw [T.get_put, T.get_nil] at hr
    split at hr
    · rename_i e
      subst e
      cases hr
      exact a6 _ _ h2
    · cases hr
  · cases hid
theorem mem_nil {E : Env} {w : World} : Mem E .nil w := fun id o hid _ => by cases hid
theorem lookHeap_mem {E : Env} {w : World} : ∀ {L : List Look} {k : Nat}, (∀ x ∈ L, x.k = k → Mem E x.heap w) → Mem E (lookHeap L k) w
  | [], k, _ => mem_nil
  | x :: l, k, h => by
    simp only [lookHeap]
    split
    · rename_i e
      exact h x List.mem_cons_self (Nat.eq_of_beq_eq_true e)
    · exact lookHeap_mem fun y hy => h y (List.mem_cons_of_mem _ hy)
theorem lookHeap_of {L : List Look} {x : Look} (hx : x ∈ L) (hn : (L.map (·.k)).Nodup) : lookHeap L x.k = x.heap := by
  induction L with
  | nil => cases hx
  | cons y l ih =>
    simp only [List.map_cons, List.nodup_cons] at hn
    simp only [lookHeap]
    rcases List.mem_cons.1 hx with e | hx
    · subst e
      rw [Nat.beq_refl]
    · split
      · rename_i e
        exact (hn.1 (List.mem_map.2 ⟨x, hx, (Nat.eq_of_beq_eq_true e).symm⟩)).elim
      · exact ih hx hn.2
noncomputable def mkLook (h : T SObj) (k : Nat) (v : SV) : Option Look :=
  match v with
  | .ptr id off => match tget h id with
    | some (.cells rows nr es ty opn ro) => match tget rows (Nat.div off es) with
      | some row => some ⟨k, id, Nat.div off es, row, nr, es, ty, opn, ro⟩
      | none => none
    | _ => none
  | _ => none
theorem mkLook_ok {h : T SObj} {k : Nat} {v : SV} {x : Look} (hx : mkLook h k v = some x) : x.k = k ∧ Holds h x ∧ ∀ P t u, xload P h t v = some u → xload P x.heap t v = some u := by
  unfold mkLook at hx
  split at hx
  · rename_i id off
    rw [tget_eq] at hx
    split at hx
    · rename_i rows nr es ty opn ro hg
      rw [tget_eq] at hx
      split at hx
      · rename_i row hr
        cases hx
        refine ⟨rfl, ⟨rows, hg, hr⟩, fun P t u hu => ?_⟩
        have e : ∀ n, readCells (Look.heap ⟨k, id, Nat.div off es, row, nr, es, ty, opn, ro⟩) id off n = readCells h id off n := fun n => by
          simp only [readCells, Look.heap, Look.obj, T.get_put_self, hg]
          have e1 : (T.put .nil (Nat.div off es) row).get (off / es) = some row := T.get_put_self _ _ _
          have e2 : rows.get (off / es) = some row := hr
          rw [e1, e2]
        simp only [xload, e] at hu ⊢
        exact hu
      · cases hx
    · cases hx
  · cases hx
/-! ### values of operations that leave all as it is -/
structure PV where
  v : Frame → T SObj → Asm → Option SV
noncomputable def pv1 (x : Operand) (q : T SObj → SV → Option SV) : PV := @GW.rec (fun _ => PV) (fun g => ⟨fun tm h _ => @Option.rec SV (fun _ => Option SV) none (fun u => q h u) (g tm)⟩) (gop x)
noncomputable def pv2 (x y : Operand) (q : T SObj → SV → SV → Option SV) : PV := @GW.rec (fun _ => PV) (fun g => @GW.rec (fun _ => PV) (fun g' => ⟨fun tm h _ => @Option.rec SV (fun _ => Option SV) none (fun u => @Option.rec SV (fun _ => Option SV) none (fun u' => q h u u') (g' tm)) (g tm)⟩) (gop y)) (gop x)
noncomputable def pv0 (P : Program) (n : Nat) (o : Oper) : PV :=
  match o.op with
  | .move x => @GW.rec (fun _ => PV) (fun g => ⟨fun tm _ _ => g tm⟩) (gop x)
  | .assign x => @GW.rec (fun _ => PV) (fun g => ⟨fun tm _ _ => g tm⟩) (gop x)
  | .load t x => @QW.rec (fun _ => PV) (fun q => pv1 x q) (kload P t)
  | .nilCheck x => pv1 x fun _ v => nilCheckF v
  | .extract x i => pv1 x fun _ v => extractF i v
  | .fieldAddr t x f => @Q1W.rec (fun _ => PV) (fun q => pv1 x fun _ v => q v) (kfaddr P t f)
  | .field t x f => @Q1W.rec (fun _ => PV) (fun q => pv1 x fun _ v => q v) (kfield P t f)
  | .unOp op _ x => pv1 x fun _ v => xun op v
  | .binOp op t x y _ => @Q2W.rec (fun _ => PV) (fun q => pv2 x y fun _ u v => q u v) (kbinS P op t (isConstO x || isConstO y))
  | .indexAddr t x i => @Q2W.rec (fun _ => PV) (fun q => pv2 x i fun _ u v => q u v) (kiaddr P t)
  | .index t x i => pv2 x i fun _ u v => xindex P t u v
  | .pick c x y => @GW.rec (fun _ => PV) (fun gc => @GW.rec (fun _ => PV) (fun g => @GW.rec (fun _ => PV) (fun g' => ⟨fun tm _ _ => @Option.rec SV (fun _ => Option SV) none (fun b => @BV.rec (fun _ => Option SV) none (fun b => @Bool.rec (fun _ => Option SV) (g' tm) (g tm) b) (fun _ => none) (asBool b)) (gc tm)⟩) (gop y)) (gop x)) (gop c)
  | .build t parts => match kbuildW (Option SV) none P t parts.toList with
    | some (b, z) => @BW.rec (Option SV) (fun _ => PV) (fun b => ⟨fun tm _ _ => b tm z fun c => some (.agg c)⟩) b
    | none => ⟨fun tm _ _ => xbuild P ⟨tm, n⟩ t parts⟩
  | .makeInterface t x => ⟨fun tm h asm => match kpMakeInterface t x P h asm ⟨tm, n⟩ with | some [q] => some q.1 | _ => none⟩
  | .typeAssert x xt t ok => pv1 x fun _ v => xassert P v xt t ok
  | .convert src dst x => pv1 x fun h v => xconvert P h src dst v
  | .call { callee := .builtin .len, args := args, argTypes := tys } => match args.toList, tys[0]? with
    | [x], some t => @QW.rec (fun _ => PV) (fun q => pv1 x q) (klen P t)
    | _, _ => ⟨fun _ _ _ => none⟩
  | _ => ⟨fun _ _ _ => none⟩
def PvOk (P : Program) (n : Nat) (o : Oper) (f : PV) : Prop := ∀ tm h asm v, f.v tm h asm = some v → xPure P h asm ⟨tm, n⟩ o = some [(v, asm)]
section
variable {P : Program} {n : Nat} {o : Oper}
theorem optO {q : SV → Option SV} {x : Option SV} {v : SV} (h : (@Option.rec SV (fun _ => Option SV) none q x) = some v) : ∃ u, x = some u ∧ q u = some v := by
  cases x with
  | none => cases h
  | some u => exact ⟨u, rfl, h⟩
theorem pv1_ok {x : Operand} {q : T SObj → SV → Option SV} (H : ∀ h asm a v, a.ev x = some v → xPure P h asm a o = one1 asm (q h v)) : PvOk P n o (pv1 x q) := by
  intro tm h asm v hv
  have hv : @Option.rec SV (fun _ => Option SV) none (fun u => q h u) ((gop x).g tm) = some v := hv
  obtain ⟨u, h1, h2⟩ := optO hv
  rw [gop_ok x tm n] at h1
  rw [H h asm _ u h1, h2]; rfl
theorem pv2_ok {x y : Operand} {q : T SObj → SV → SV → Option SV} (H : ∀ h asm a u v, a.ev x = some u → a.ev y = some v → xPure P h asm a o = one1 asm (q h u v)) : PvOk P n o (pv2 x y q) := by
  intro tm h asm v hv
  have hv : @Option.rec SV (fun _ => Option SV) none (fun u => @Option.rec SV (fun _ => Option SV) none (fun u' => q h u u') ((gop y).g tm)) ((gop x).g tm) = some v := hv
  obtain ⟨u, h1, hv⟩ := optO hv
  obtain ⟨u', h2, h3⟩ := optO hv
  rw [gop_ok x tm n] at h1
  rw [gop_ok y tm n] at h2
  rw [H h asm _ u u' h1 h2, h3]; rfl
theorem pv0_ok (P : Program) (n : Nat) (o : Oper) : PvOk P n o (pv0 P n o) := by
  unfold pv0
  split
  · rename_i x ho
    intro tm h asm v hv
    have hv : (gop x).g tm = some v := hv
    rw [gop_ok x tm n] at hv
    simp only [xPure, kpOf, ho, kpMove, hv, one1]
  · rename_i x ho
    intro tm h asm v hv
    have hv : (gop x).g tm = some v := hv
    rw [gop_ok x tm n] at hv
    simp only [xPure, kpOf, ho, kpAssign, hv, one1]
  · rename_i t x ho
    exact pv1_ok (q := (kload P t).q) fun h asm a v hv => by rw [kload_eq]; simp only [xPure, kpOf, ho, kpLoad, hv]
  · rename_i x ho
    exact pv1_ok (nilCheckF_ok ho)
  · rename_i x i ho
    exact pv1_ok (extractF_ok ho)
  · rename_i t x f ho
    exact pv1_ok (q := fun _ v => (kfaddr P t f).q v) fun h asm a v hv => by rw [kfaddr_eq]; simp only [xPure, kpOf, ho, kpFieldAddr, hv]
  · rename_i t x f ho
    exact pv1_ok (q := fun _ v => (kfield P t f).q v) fun h asm a v hv => by rw [kfield_eq]; simp only [xPure, kpOf, ho, kpField, hv]
  · rename_i op _ x ho
    exact pv1_ok fun h asm a v hv => by simp only [xPure, kpOf, ho, kpUnOp, hv]
  · rename_i op t x y _ ho
    exact pv2_ok (q := fun _ u v => (kbinS P op t (isConstO x || isConstO y)).q u v) fun h asm a u v hu hv => by rw [kbinS_eq]; simp only [xPure, kpOf, ho, kpBinOp, hu, hv]
  · rename_i t x i ho
    exact pv2_ok (q := fun _ u v => (kiaddr P t).q u v) fun h asm a u v hu hv => by rw [kiaddr_eq]; simp only [xPure, kpOf, ho, kpIndexAddr, hu, hv]
  · rename_i t x i ho
    exact pv2_ok fun h asm a u v hu hv => by simp only [xPure, kpOf, ho, kpIndex, hu, hv]
  · rename_i c x y ho
    intro tm h asm v hv
    have hv : @Option.rec SV (fun _ => Option SV) none (fun b => @BV.rec (fun _ => Option SV) none (fun b => @Bool.rec (fun _ => Option SV) ((gop y).g tm) ((gop x).g tm) b) (fun _ => none) (asBool b)) ((gop c).g tm) = some v := hv
    obtain ⟨b, h1, h2⟩ := optO hv
    rw [gop_ok c tm n] at h1
    cases hb : asBool b with
    | no => rw [hb] at h2; cases h2
    | sym z => rw [hb] at h2; cases h2
    | lit z =>
      rw [hb] at h2
      have := asBool_lit hb
      subst this
      cases z with
      | true =>
        have h2 : (gop x).g tm = some v := h2
        rw [gop_ok x tm n] at h2
        simp only [xPure, kpOf, ho, kpPick, xpick, h1, h2, one1]
      | false =>
        have h2 : (gop y).g tm = some v := h2
        rw [gop_ok y tm n] at h2
        simp only [xPure, kpOf, ho, kpPick, xpick, h1, h2, one1]
  · rename_i t parts ho
    intro tm h asm v hv
    split at hv
    · rename_i b z hb
      have hv : (b.b tm z fun c => some (.agg c)) = some v := hv
      rcases kbuildW_ok hb n tm (fun c => some (.agg c)) with e | ⟨c, h1, h2⟩
      · rw [e] at hv; cases hv
      · rw [h2] at hv
        cases hv
        simp only [xPure, kpOf, ho, kpBuild, h1, one1]
    · have hv : xbuild P ⟨tm, n⟩ t parts = some v := hv
      simp only [xPure, kpOf, ho, kpBuild, hv, one1]
  · rename_i t x ho
    intro tm h asm v hv
    have hv : (match kpMakeInterface t x P h asm ⟨tm, n⟩ with | some [q] => some q.1 | _ => none) = some v := hv
    simp only [xPure, kpOf, ho]
    split at hv
    · rename_i q hq
      cases hv
      unfold kpMakeInterface at hq ⊢
      split at hq
      · split at hq
        · cases hq
        · cases hq; rfl
        · cases hq
      · cases hq
    · cases hv
  · rename_i x xt t ok ho
    exact pv1_ok fun h asm a v hv => by simp only [xPure, kpOf, ho, kpTypeAssert, hv]
  · rename_i src dst x ho
    exact pv1_ok fun h asm a v hv => by simp only [xPure, kpOf, ho, kpConvert, hv]
  · rename_i args tys ho
    split
    · rename_i x t h1 h2
      exact pv1_ok (q := (klen P t).q) fun h asm a v hv => by rw [klen_eq]; simp only [xPure, kpOf, ho, kpCall, h1, h2, hv]
    · exact fun tm h asm v hv => by cases hv
  · exact fun tm h asm v hv => by cases hv
end
/-- The same with its guard: it runs, or it is skipped. -/
structure GPV where
  p : Frame → T SObj → Asm → (SV → Res) → Res → Res → Res
/-- run: with its value; skip; no -/
noncomputable def pvg (P : Program) (n : Nat) (ops : Array Oper) (o : Oper) : GPV :=
  match o.guard with
  | none => @PV.rec (fun _ => GPV) (fun f => ⟨fun tm h asm k _ no => @Option.rec SV (fun _ => Res) no k (f tm h asm)⟩) (pv0 P n o)
  | some (j, want) => match (ops[j]?).bind (·.dst) with
    | none => ⟨fun _ _ _ _ sk _ => sk⟩
    | some t => @GW.rec (fun _ => GPV) (fun g => @PV.rec (fun _ => GPV) (fun f => match want with
      | true => ⟨fun tm h asm k sk no => @Option.rec SV (fun _ => Res) no (fun u => @GV.rec (fun _ => Res) no sk (fun b => @Bool.rec (fun _ => Res) sk (@Option.rec SV (fun _ => Res) no k (f tm h asm)) b) (fun _ => no) (asGuard u)) (g tm)⟩
      | false => ⟨fun tm h asm k sk no => @Option.rec SV (fun _ => Res) no (fun u => @GV.rec (fun _ => Res) no sk (fun b => @Bool.rec (fun _ => Res) (@Option.rec SV (fun _ => Res) no k (f tm h asm)) sk b) (fun _ => no) (asGuard u)) (g tm)⟩) (pv0 P n o)) (gtmp t)
theorem pvg_ok {P : Program} {n : Nat} {ops : Array Oper} {o : Oper} {tm : Frame} {h : T SObj} {asm : Asm} {k : SV → Res} {sk no : Res} {outs : List (SExit × Frame × St)} (hh : ((pvg P n ops o).p tm h asm k sk no).outs = some outs) :
    no.outs = some outs ∨ (guardOn ops ⟨tm, n⟩ o = some (.lit false) ∧ sk.outs = some outs) ∨ (guardOn ops ⟨tm, n⟩ o = some (.lit true) ∧ ∃ v, xPure P h asm ⟨tm, n⟩ o = some [(v, asm)] ∧ (k v).outs = some outs) := by
  have run : ∀ {g : Option BX}, guardOn ops ⟨tm, n⟩ o = g → g = some (.lit true) → (@Option.rec SV (fun _ => Res) no k ((pv0 P n o).v tm h asm)).outs = some outs → no.outs = some outs ∨ (guardOn ops ⟨tm, n⟩ o = some (.lit false) ∧ sk.outs = some outs) ∨ (guardOn ops ⟨tm, n⟩ o = some (.lit true) ∧ ∃ v, xPure P h asm ⟨tm, n⟩ o = some [(v, asm)] ∧ (k v).outs = some outs) := fun hg e h1 => by
    cases hv : (pv0 P n o).v tm h asm with
    | none => rw [hv] at h1; exact .inl h1
    | some v => rw [hv] at h1; exact .inr (.inr ⟨hg.trans e, v, pv0_ok P n o tm h asm v hv, h1⟩)
  unfold pvg at hh
  split at hh
  · rename_i hg
    exact run (by simp only [guardOn, hg]) rfl hh
  · rename_i j want hg
    split at hh
    · rename_i hj
      exact .inr (.inl ⟨by simp only [guardOn, hg, hj], hh⟩)
    · rename_i t hj
      have cs : ∀ {f : SV → Res}, (@Option.rec SV (fun _ => Res) no f ((gtmp t).g tm)).outs = some outs → no.outs = some outs ∨ ∃ u, tm.get t = some u ∧ (f u).outs = some outs := fun {f} h1 => by
        rw [gtmp_ok] at h1
        cases hu : tm.get t with
        | none => rw [hu] at h1; exact .inl h1
        | some u => rw [hu] at h1; exact .inr ⟨u, rfl, h1⟩
      cases want with
      | true =>
        rcases cs (f := fun u => @GV.rec (fun _ => Res) no sk (fun b => @Bool.rec (fun _ => Res) sk (@Option.rec SV (fun _ => Res) no k ((pv0 P n o).v tm h asm)) b) (fun _ => no) (asGuard u)) hh with h1 | ⟨u, hu, h1⟩
        · exact .inl h1
        · have hv := guard_val n hg hj hu
          cases hb : asGuard u with
          | no => rw [hb] at h1; exact .inl h1
          | sym b => rw [hb] at h1; exact .inl h1
          | skip =>
            rw [hb] at h1
            obtain ⟨l, rfl⟩ := asGuard_skip hb
            exact .inr (.inl ⟨hv, h1⟩)
          | lit b =>
            rw [hb] at h1
            have := asGuard_lit hb
            subst this
            cases b with
            | true => exact run hv rfl h1
            | false => exact .inr (.inl ⟨hv, h1⟩)
      | false =>
        rcases cs (f := fun u => @GV.rec (fun _ => Res) no sk (fun b => @Bool.rec (fun _ => Res) (@Option.rec SV (fun _ => Res) no k ((pv0 P n o).v tm h asm)) sk b) (fun _ => no) (asGuard u)) hh with h1 | ⟨u, hu, h1⟩
        · exact .inl h1
        · have hv := guard_val n hg hj hu
          cases hb : asGuard u with
          | no => rw [hb] at h1; exact .inl h1
          | sym b => rw [hb] at h1; exact .inl h1
          | skip =>
            rw [hb] at h1
            obtain ⟨l, rfl⟩ := asGuard_skip hb
            exact .inr (.inl ⟨hv, h1⟩)
          | lit b =>
            rw [hb] at h1
            have := asGuard_lit hb
            subst this
            cases b with
            | true => exact .inr (.inl ⟨hv, h1⟩)
            | false => exact run hv rfl h1
/-! ### the schedule -/
def isLoad (o : Oper) : Bool := match o.op with
  | .load .. => true
  | _ => false
def plainK (o : Oper) : Bool := match o.op with
  | .move _ | .assign _ | .pick .. | .build .. | .nilCheck _ | .binOp .. | .unOp .. | .makeInterface .. | .fieldAddr .. | .field .. | .indexAddr .. | .index .. | .typeAssert .. | .extract .. | .convert .. => true
  | .call { callee := .builtin .len, .. } => true
  | _ => false
def take1 (rows : List RowM) (m : Nat) : Option RowM := (readyM m rows).find? fun r => (isLoad r.o || plainK r.o) && freeM rows r m
def take2 (rows : List RowM) (m : Nat) : Option RowM := (readyM m rows).find? fun r => plainK r.o && freeM rows r m
def list1 (rows : List RowM) : Nat → Nat → List RowM
  | 0, _ => []
  | f + 1, m => match take1 rows m with
    | some r => r :: list1 rows f (Nat.lor m r.bit)
    | none => []
def maskAfter (m : Nat) : List RowM → Nat
  | [] => m
  | r :: l => maskAfter (Nat.lor m r.bit) l
def TakesOk (rows : List RowM) : Nat → List RowM → Prop
  | _, [] => True
  | m, r :: l => r ∈ readyM m rows ∧ freeM rows r m = true ∧ TakesOk rows (Nat.lor m r.bit) l
theorem list1_ok {rows : List RowM} : ∀ (f m : Nat), TakesOk rows m (list1 rows f m)
  | 0, m => trivial
  | f + 1, m => by
    unfold list1
    split
    · rename_i r hr
      have h1 := List.mem_of_find?_eq_some hr
      have h2 := List.find?_some hr
      simp only [Bool.and_eq_true] at h2
      exact ⟨h1, h2.2, list1_ok f _⟩
    · trivial
noncomputable def loadAddr (o : Oper) : GW := match o.op with
  | .load _ x => gop x
  | _ => ⟨fun _ => none⟩
structure P1W where
  p : Frame → T SObj → Asm → (Frame → List Look → Res) → Res → Res
noncomputable def p1 (P : Program) (n : Nat) (ops : Array Oper) : List RowM → P1W
  | [] => ⟨fun tm _ _ k _ => k tm []⟩
  | r :: l => match isLoad r.o with
    | true => @GPV.rec (fun _ => P1W) (fun f => @GW.rec (fun _ => P1W) (fun g => @PW.rec Res (fun _ => P1W) (fun p => @P1W.rec (fun _ => P1W) (fun q => ⟨fun tm h asm k no =>
        f tm h asm (fun v => @Option.rec SV (fun _ => Res) no (fun a => @Option.rec Look (fun _ => Res) no (fun x => p tm v fun tm' => q tm' h asm (fun t L => k t (x :: L)) no) (mkLook h r.i a)) (g tm)) (p tm skipV fun tm' => q tm' h asm k no) no⟩) (p1 P n ops l)) (pdst n r.o.dst)) (loadAddr r.o)) (pvg P n ops r.o)
    | false => @GPV.rec (fun _ => P1W) (fun f => @PW.rec Res (fun _ => P1W) (fun p => @P1W.rec (fun _ => P1W) (fun q => ⟨fun tm h asm k no =>
        f tm .nil asm (fun v => p tm v fun tm' => q tm' h asm k no) (p tm skipV fun tm' => q tm' h asm k no) no⟩) (p1 P n ops l)) (pdst n r.o.dst)) (pvg P n ops r.o)
inductive Pass (P : Program) (n : Nat) (ops : Array Oper) (h : T SObj) (asm : Asm) : List RowM → Frame → Frame → List Look → Prop
  | nil (tm : Frame) : Pass P n ops h asm [] tm tm []
  | skip {r : RowM} {l : List RowM} {tm t : Frame} {a : SAct} {L : List Look} : guardOn ops ⟨tm, n⟩ r.o = some (.lit false) → SAct.put ⟨tm, n⟩ r.o.dst skipV = some a → a.n = n → Pass P n ops h asm l a.tm t L → Pass P n ops h asm (r :: l) tm t L
  | plain {r : RowM} {l : List RowM} {tm t : Frame} {a : SAct} {v : SV} {L : List Look} : guardOn ops ⟨tm, n⟩ r.o = some (.lit true) → xPure P .nil asm ⟨tm, n⟩ r.o = some [(v, asm)] → SAct.put ⟨tm, n⟩ r.o.dst v = some a → a.n = n → Pass P n ops h asm l a.tm t L → Pass P n ops h asm (r :: l) tm t L
  | load {r : RowM} {l : List RowM} {tm t : Frame} {a : SAct} {v : SV} {L : List Look} {x : Look} : guardOn ops ⟨tm, n⟩ r.o = some (.lit true) → xPure P x.heap asm ⟨tm, n⟩ r.o = some [(v, asm)] → isLoad r.o = true → x.k = r.i → Holds h x → SAct.put ⟨tm, n⟩ r.o.dst v = some a → a.n = n → Pass P n ops h asm l a.tm t L → Pass P n ops h asm (r :: l) tm t (x :: L)
section
variable {P : Program} {n : Nat} {ops : Array Oper}
theorem p1_ok {h : T SObj} {asm : Asm} {no : Res} {outs : List (SExit × Frame × St)} : ∀ {l : List RowM} {tm : Frame} {k : Frame → List Look → Res}, ((p1 P n ops l).p tm h asm k no).outs = some outs → no.outs = some outs ∨ ∃ t L, Pass P n ops h asm l tm t L ∧ (k t L).outs = some outs := by
  intro l
  induction l with
  | nil => exact fun {tm k} hh => .inr ⟨tm, [], .nil tm, hh⟩
  | cons r l ih =>
    intro tm k hh
    unfold p1 at hh
    split at hh
    · rename_i hl
      have hh : ((pvg P n ops r.o).p tm h asm (fun v => @Option.rec SV (fun _ => Res) no (fun a => @Option.rec Look (fun _ => Res) no (fun x => (pdst n r.o.dst).p tm v fun tm' => (p1 P n ops l).p tm' h asm (fun t L => k t (x :: L)) no) (mkLook h r.i a)) ((loadAddr r.o).g tm)) ((pdst n r.o.dst).p tm skipV fun tm' => (p1 P n ops l).p tm' h asm k no) no).outs = some outs := hh
      rcases pvg_ok hh with h1 | ⟨hg, h1⟩ | ⟨hg, v, hx, h1⟩
      · exact .inl h1
      · obtain ⟨a, p1, p2, p3⟩ := pdst_ok h1
        rcases ih p3 with e | ⟨t, L, q1, q2⟩
        · exact .inl e
        · exact .inr ⟨t, L, .skip hg p1 p2 q1, q2⟩
      · cases ha : (loadAddr r.o).g tm with
        | none => rw [ha] at h1; exact .inl h1
        | some u =>
          rw [ha] at h1
          have h1 : (@Option.rec Look (fun _ => Res) no (fun x => (pdst n r.o.dst).p tm v fun tm' => (p1 P n ops l).p tm' h asm (fun t L => k t (x :: L)) no) (mkLook h r.i u)).outs = some outs := h1
          cases hk : mkLook h r.i u with
          | none => rw [hk] at h1; exact .inl h1
          | some x =>
            rw [hk] at h1
            obtain ⟨a, p1, p2, p3⟩ := pdst_ok h1
            rcases ih p3 with e | ⟨t, L, q1, q2⟩
            · exact .inl e
            · obtain ⟨m1, m2, m3⟩ := mkLook_ok hk
              refine .inr ⟨t, x :: L, .load hg ?_ hl m1 m2 p1 p2 q1, q2⟩
              unfold isLoad at hl
              split at hl
              · rename_i ty y ho
                simp only [loadAddr, ho] at ha
                rw [gop_ok y tm n] at ha
                simp only [xPure, kpOf, ho, kpLoad, ha] at hx ⊢
                cases hv : xload P h ty u with
                | none => rw [hv] at hx; cases hx
                | some v' =>
                  rw [hv] at hx
                  cases hx
                  rw [m3 P ty v hv]; rfl
              · cases hl
    · have hh : ((pvg P n ops r.o).p tm .nil asm (fun v => (pdst n r.o.dst).p tm v fun tm' => (p1 P n ops l).p tm' h asm k no) ((pdst n r.o.dst).p tm skipV fun tm' => (p1 P n ops l).p tm' h asm k no) no).outs = some outs := hh
      rcases pvg_ok hh with h1 | ⟨hg, h1⟩ | ⟨hg, v, hx, h1⟩
      · exact .inl h1
      · obtain ⟨a, p1, p2, p3⟩ := pdst_ok h1
        rcases ih p3 with e | ⟨t, L, q1, q2⟩
        · exact .inl e
        · exact .inr ⟨t, L, .skip hg p1 p2 q1, q2⟩
      · obtain ⟨a, p1, p2, p3⟩ := pdst_ok h1
        rcases ih p3 with e | ⟨t, L, q1, q2⟩
        · exact .inl e
        · exact .inr ⟨t, L, .plain hg hx p1 p2 q1, q2⟩
theorem yields_run {E : Env} {tm : Frame} {asm : Asm} {A : Act} {o : Oper} {hp : T SObj} {v : SV} {S : World → Prop} (hS : ∀ w, S w → Mem E hp w) {w : World} (hw : S w) (hA : ActRel E ⟨tm, n⟩ A) (ha : AsmOk E asm) (hg : guardOn ops ⟨tm, n⟩ o = some (.lit true)) (hx : xPure P hp asm ⟨tm, n⟩ o = some [(v, asm)]) :
    ∃ V, v.den E = some V ∧ YieldsIf P ops S o V A := by
  obtain ⟨z, h1, h2⟩ := guardOn_ok hA hg
  simp only [BX.den, Option.some.injEq] at h1
  subst h1
  obtain ⟨v1, asm1, V, k1, k2, k3, k4⟩ := xPure_ok (hS w hw) ha hA hx
  cases List.mem_singleton.1 k1
  refine ⟨V, k3, .inl ⟨h2, fun w' hw' => ?_⟩⟩
  obtain ⟨v2, asm2, V2, j1, j2, j3, j4⟩ := xPure_ok (hS w' hw') ha hA hx
  cases List.mem_singleton.1 j1
  rw [k3] at j3
  cases j3
  exact j4
theorem yields_skip {E : Env} {tm : Frame} {A : Act} {o : Oper} {S : World → Prop} (hA : ActRel E ⟨tm, n⟩ A) (hg : guardOn ops ⟨tm, n⟩ o = some (.lit false)) : YieldsIf P ops S o undef A := by
  obtain ⟨z, h1, h2⟩ := guardOn_ok hA hg
  simp only [BX.den, Option.some.injEq] at h1
  subst h1
  exact .inr ⟨h2, rfl⟩
theorem ready_facts {listed : Array Bool} {m : Nat} (hrep : RepM ops listed m) {r : RowM} (hr : r ∈ readyM m (rowsM ops 0 ops.toList)) :
    ops[r.i]? = some r.o ∧ r.i ∈ Region.ready .any ops listed ∧ r.i ∈ unlisted ops listed ∧ condAt ops listed r.i = true ∧ RepM ops (listed.setIfInBounds r.i true) (Nat.lor m r.bit) ∧ r ∈ rowsM ops 0 ops.toList := by
  have hrow := readyM_sub hr
  obtain ⟨o, h1, h2⟩ := mem_rows.1 hrow
  have e1 : r.o = o := by rw [h2]; rfl
  have e2 : r.bit = Nat.pow 2 r.i := by rw [h2]; rfl
  have hready : r.i ∈ Region.ready .any ops listed := by rw [ready_eq hrep]; exact List.mem_map.2 ⟨r, hr, rfl⟩
  have hu := mem_ready.1 hready
  refine ⟨by rw [e1]; exact h1, hready, hu.1, hu.2, ?_, hrow⟩
  rw [e2]
  exact hrep.set (Array.getElem?_eq_some_iff.1 h1).1
theorem take_one (hsel : Region.noSelect ops = true) {Q : Exit → Act → World → Prop} (hQp : ∀ v d c a w, Q (.panic c) (Act.put a d v) w → Q (.panic c) a w) {M : Nat → World → Prop} {listed : Array Bool} {m g : Nat} (hrep : RepM ops listed m) (hgl : (unlisted ops listed).length ≤ g) (hcl : Closed ops listed) {r : RowM} (hr : r ∈ readyM m (rowsM ops 0 ops.toList)) (hf : freeM (rowsM ops 0 ops.toList) r m = true)
    {alive : Nat → Prop} {A : Act} {w : World} {V : Value} (hy : YieldsIf P ops (M r.i) r.o V A) (hal : alive r.i) (hM : ∀ k, alive k → M k w)
    (H : ∀ g', (unlisted ops (listed.setIfInBounds r.i true)).length ≤ g' → Closed ops (listed.setIfInBounds r.i true) → wpAnyG P ops Q M g' (listed.setIfInBounds r.i true) alive (A.put r.o.dst V) w) : wpAnyG P ops Q M g listed alive A w := by
  obtain ⟨f1, f2, f3, f4, f5, f6⟩ := ready_facts hrep hr
  obtain ⟨g, rfl⟩ : ∃ g', g = g' + 1 := by
    have := List.length_pos_of_mem f3
    exact ⟨g - 1, by omega⟩
  refine wpAnyG_take f1 hsel (fun c a w => hQp V r.o.dst c a w) (freeM_ok hrep f6 hf) f2 hcl hy hal hM (H g ?_ (hcl.set f4))
  have := unlisted_length f3
  omega
theorem pass_ok (hsel : Region.noSelect ops = true) {Q : Exit → Act → World → Prop} (hQp : ∀ v d c a w, Q (.panic c) (Act.put a d v) w → Q (.panic c) a w) {L0 : List Look} (hn : (L0.map (·.k)).Nodup) {E : Env} {w : World} (hM : ∀ k, Mem E (lookHeap L0 k) w) {h : T SObj} {asm : Asm} (ha : AsmOk E asm) :
    ∀ {l : List RowM} {tm t : Frame} {L : List Look}, Pass P n ops h asm l tm t L → (∀ x ∈ L, x ∈ L0) → ∀ {g m : Nat} {listed : Array Bool} {A : Act}, TakesOk (rowsM ops 0 ops.toList) m l → RepM ops listed m → (unlisted ops listed).length ≤ g → Closed ops listed → ActRel E ⟨tm, n⟩ A →
      (∀ g' listed' A', RepM ops listed' (maskAfter m l) → (unlisted ops listed').length ≤ g' → Closed ops listed' → ActRel E ⟨t, n⟩ A' → wpAnyG P ops Q (fun k w => Mem E (lookHeap L0 k) w) g' listed' (fun _ => True) A' w) →
      wpAnyG P ops Q (fun k w => Mem E (lookHeap L0 k) w) g listed (fun _ => True) A w := by
  intro l tm t L hp
  induction hp with
  | nil tm => exact fun _ {g m listed A} _ hrep hgl hcl hA H => H g listed A hrep hgl hcl hA
  | skip hg hput han hrest ih =>
    intro hL g m listed A ht hrep hgl hcl hA H
    obtain ⟨t1, t2, t3⟩ := ht
    have hA' := put_ok hA hput (skipV_den E)
    refine take_one hsel hQp hrep hgl hcl t1 t2 (yields_skip hA hg) trivial (fun k _ => hM k) fun g' hg' hc' => ?_
    refine ih hL t3 (ready_facts hrep t1).2.2.2.2.1 hg' hc' ?_ H
    rename_i a _
    obtain ⟨ta, na⟩ := a
    dsimp only at han
    subst han
    exact hA'
  | plain hg hx hput han hrest ih =>
    intro hL g m listed A ht hrep hgl hcl hA H
    obtain ⟨t1, t2, t3⟩ := ht
    obtain ⟨V, hV, hy⟩ := yields_run (P := P) (ops := ops) (S := fun w => Mem E (lookHeap L0 _) w) (fun w _ => mem_nil) (hM _) hA ha hg hx
    have hA' := put_ok hA hput hV
    refine take_one hsel hQp hrep hgl hcl t1 t2 hy trivial (fun k _ => hM k) fun g' hg' hc' => ?_
    refine ih hL t3 (ready_facts hrep t1).2.2.2.2.1 hg' hc' ?_ H
    rename_i a _ _
    obtain ⟨ta, na⟩ := a
    dsimp only at han
    subst han
    exact hA'
  | load hg hx hld hk hholds hput han hrest ih =>
    intro hL g m listed A ht hrep hgl hcl hA H
    obtain ⟨t1, t2, t3⟩ := ht
    have hxm := hL _ List.mem_cons_self
    have hlh := lookHeap_of hxm hn
    rw [hk] at hlh
    obtain ⟨V, hV, hy⟩ := yields_run (P := P) (ops := ops) (S := fun w => Mem E (lookHeap L0 _) w) (fun w hw => by rw [hlh] at hw; exact hw) (hM _) hA ha hg hx
    have hA' := put_ok hA hput hV
    refine take_one hsel hQp hrep hgl hcl t1 t2 hy trivial (fun k _ => hM k) fun g' hg' hc' => ?_
    refine ih (fun y hy => hL y (List.mem_cons_of_mem _ hy)) t3 (ready_facts hrep t1).2.2.2.2.1 hg' hc' ?_ H
    rename_i a _ _ _
    obtain ⟨ta, na⟩ := a
    dsimp only at han
    subst han
    exact hA'
end
/-! ### the second half -/
noncomputable def holdAll (al : List Nat) (h : T SObj) (L : List Look) : Bool := @List.rec Look (fun _ => Bool) true (fun x _ ih => @Bool.rec (fun _ => Bool) ih (@Bool.rec (fun _ => Bool) false ih (holds h x)) (al.any (Nat.beq x.k))) L
theorem holdAll_ok {al : List Nat} {h : T SObj} : ∀ {L : List Look}, holdAll al h L = true → ∀ x ∈ L, x.k ∈ al → Holds h x
  | [], _, x, hx, _ => by cases hx
  | y :: L, hh, x, hx, hk => by
    have hh : @Bool.rec (fun _ => Bool) (holdAll al h L) (@Bool.rec (fun _ => Bool) false (holdAll al h L) (holds h y)) (al.any (Nat.beq y.k)) = true := hh
    rcases List.mem_cons.1 hx with e | hx
    · subst e
      have : al.any (Nat.beq x.k) = true := List.any_eq_true.2 ⟨x.k, hk, Nat.beq_refl _⟩
      rw [this] at hh
      have hh : @Bool.rec (fun _ => Bool) false (holdAll al h L) (holds h x) = true := hh
      cases hb : holds h x with
      | true => exact holds_ok hb
      | false => rw [hb] at hh; cases hh
    · refine holdAll_ok (L := L) ?_ x hx hk
      cases hb : al.any (Nat.beq y.k) with
      | false => rw [hb] at hh; exact hh
      | true =>
        rw [hb] at hh
        have hh : @Bool.rec (fun _ => Bool) false (holdAll al h L) (holds h y) = true := hh
        cases hc : holds h y with
        | true => rw [hc] at hh; exact hh
        | false => rw [hc] at hh; cases hh
structure R2W where
  f : List Look → Res → FK → Frame → St → (Frame → St → Res) → Res
def later (ops : Array Oper) (i : Nat) (al : List Nat) : List Nat := al.filter fun k => !anc ops 4 i k
noncomputable def r2take (P : Program) (n : Nat) (ops : Array Oper) (x : RowM) (nx : R2W) : R2W :=
  @GPV.rec (fun _ => R2W) (fun f => @PW.rec Res (fun _ => R2W) (fun p => @R2W.rec (fun _ => R2W) (fun q => ⟨fun L no F tm s k => f tm .nil s.asm (fun v => p tm v fun tm' => q L no F tm' s k) (p tm skipV fun tm' => q L no F tm' s k) no⟩) nx) (pdst n x.o.dst)) (pvg P n ops x.o)
noncomputable def r2step (P : Program) (n : Nat) (ops : Array Oper) (x : RowM) (al : List Nat) (nx : R2W) : R2W :=
  @KW.rec (fun _ => R2W) (fun f => @R2W.rec (fun _ => R2W) (fun q => match al with
    | [] => ⟨fun L no F tm s k => f F tm s fun tm' s' => q L no F tm' s' k⟩
    | al => ⟨fun L no F tm s k => f F tm s fun tm' s' => @Bool.rec (fun _ => Res) no (q L no F tm' s' k) (holdAll al s'.h L)⟩) nx) (kop P n ops x.o)
noncomputable def r2 (P : Program) (n : Nat) (ops : Array Oper) (rows : List RowM) : Nat → Nat → List Nat → Option R2W
  | 0, m, _ => match readyM m rows with
    | [] => some ⟨fun _ _ _ tm s k => k tm s⟩
    | _ => none
  | f + 1, m, al => match readyM m rows with
    | [] => some ⟨fun _ _ _ tm s k => k tm s⟩
    | r :: rs => match take2 rows m with
      | some x => match r2 P n ops rows f (Nat.lor m x.bit) al with
        | some nx => some (r2take P n ops x nx)
        | none => none
      | none => match rs with
        | [] => match r2 P n ops rows f (Nat.lor m r.bit) (later ops r.i al) with
          | some nx => some (r2step P n ops r (later ops r.i al) nx)
          | none => none
        | _ => none
section
variable {P : Program} {n : Nat} {ops : Array Oper}
theorem r2step_run {x : RowM} {al : List Nat} {nx : R2W} {L : List Look} {no : Res} {F : FK} {tm : Frame} {s : St} {k : Frame → St → Res} {outs : List (SExit × Frame × St)} (h : ((r2step P n ops x al nx).f L no F tm s k).outs = some outs) :
    ∃ k', ((kop P n ops x.o).f F tm s k').outs = some outs ∧ ∀ tm' s' ys, (k' tm' s').outs = some ys → no.outs = some ys ∨ ((∀ y ∈ L, y.k ∈ al → Holds s'.h y) ∧ (nx.f L no F tm' s' k).outs = some ys) := by
  unfold r2step at h
  cases al with
  | nil => exact ⟨_, h, fun tm' s' ys h2 => .inr ⟨fun y _ hy => (by cases hy), h2⟩⟩
  | cons b al =>
    refine ⟨fun tm' s' => @Bool.rec (fun _ => Res) no (nx.f L no F tm' s' k) (holdAll (b :: al) s'.h L), h, fun tm' s' ys h2 => ?_⟩
    dsimp only at h2
    cases hb : holdAll (b :: al) s'.h L with
    | false => rw [hb] at h2; exact .inl h2
    | true => rw [hb] at h2; exact .inr ⟨holdAll_ok hb, h2⟩
theorem lookHeap_nil {L : List Look} {k : Nat} (h : ∀ y ∈ L, y.k ≠ k) : lookHeap L k = .nil := by
  induction L with
  | nil => rfl
  | cons x l ih =>
    simp only [lookHeap]
    split
    · rename_i e
      exact (h x List.mem_cons_self (Nat.eq_of_beq_eq_true e)).elim
    · exact ih fun y hy => h y (List.mem_cons_of_mem _ hy)
theorem plain_load {o : Oper} (h : plainK o = true) : isLoad o = false := by
  unfold plainK at h
  unfold isLoad
  split at h <;> first | (cases h; done) | (rename_i e; rw [e])
theorem r2_ok {F : FK} (hF : FsOk P (toFs F)) (hsel : Region.noSelect ops = true) {w0 : World} {Q : Exit → Act → World → Prop} (hQp : ∀ v d c a w, Q (.panic c) (Act.put a d v) w → Q (.panic c) a w) {L : List Look} (hn : (L.map (·.k)).Nodup) (hLd : ∀ y ∈ L, ∃ o, ops[y.k]? = some o ∧ isLoad o = true) {E0 : Env} {wS : World} (M0 : ∀ k, Mem E0 (lookHeap L k) wS) {no : Res} {k : Frame → St → Res} {o0 : List (SExit × Frame × St)} (hno : ¬ ∃ ys, no.outs = some ys ∧ ∀ y ∈ ys, y ∈ o0)
    (hk : ∀ tm' s' E' A' w' ys, (k tm' s').outs = some ys → (∀ y ∈ ys, y ∈ o0) → E0.Le E' → ActRel E' ⟨tm', n⟩ A' → Rel w0 E' s' w' → Q .normal A' w') :
    ∀ {f m : Nat} {al : List Nat} {W : R2W}, r2 P n ops (rowsM ops 0 ops.toList) f m al = some W → ∀ {g : Nat} {listed : Array Bool} {alive : Nat → Prop} {tm : Frame} {s : St} {E : Env} {A : Act} {w : World} {outs : List (SExit × Frame × St)},
      RepM ops listed m → (unlisted ops listed).length ≤ g → Closed ops listed → E0.Le E → ActRel E ⟨tm, n⟩ A → Rel w0 E s w → (∀ k, alive k → Mem E0 (lookHeap L k) w) → (∀ k, lookHeap L k = .nil → alive k) → (∀ k, alive k → lookHeap L k = .nil ∨ k ∈ al) →
      (∀ y ∈ outs, y ∈ o0) → (W.f L no F tm s k).outs = some outs → wpAnyG P ops Q (fun k w => Mem E0 (lookHeap L k) w) g listed alive A w := by
  have done : ∀ {m : Nat} {g : Nat} {listed : Array Bool} {alive : Nat → Prop} {tm : Frame} {s : St} {E : Env} {A : Act} {w : World} {outs : List (SExit × Frame × St)}, readyM m (rowsM ops 0 ops.toList) = [] → RepM ops listed m → E0.Le E → ActRel E ⟨tm, n⟩ A → Rel w0 E s w → (∀ y ∈ outs, y ∈ o0) → (k tm s).outs = some outs → wpAnyG P ops Q (fun k w => Mem E0 (lookHeap L k) w) g listed alive A w :=
    fun {m g listed alive tm s E A w outs} hr hrep le0 hA R hsub h => wpAnyG_done (by rw [ready_eq hrep, hr]; rfl) (hk tm s E A w outs h hsub le0 hA R) _
  intro f
  induction f with
  | zero =>
    intro m al W hW g listed alive tm s E A w outs hrep hgl hcl le0 hA R hM hnil hal hsub h
    unfold r2 at hW
    split at hW
    · rename_i hr
      cases hW
      exact done hr hrep le0 hA R hsub h
    · cases hW
  | succ f ih =>
    intro m al W hW g listed alive tm s E A w outs hrep hgl hcl le0 hA R hM hnil hal hsub h
    unfold r2 at hW
    split at hW
    · rename_i hr
      cases hW
      exact done hr hrep le0 hA R hsub h
    · rename_i r rs hr
      split at hW
      · rename_i x hx
        split at hW
        · rename_i nx hnx
          cases hW
          have t1 := List.mem_of_find?_eq_some hx
          have t2 := List.find?_some hx
          simp only [Bool.and_eq_true] at t2
          obtain ⟨f1, f2, f3, f4, f5, f6⟩ := ready_facts hrep t1
          have hxn : lookHeap L x.i = .nil := lookHeap_nil fun y hy e => by
            obtain ⟨o, h1, h2⟩ := hLd y hy
            rw [e, f1] at h1
            cases h1
            rw [plain_load t2.1] at h2
            cases h2
          have h : ((pvg P n ops x.o).p tm .nil s.asm (fun v => (pdst n x.o.dst).p tm v fun tm' => nx.f L no F tm' s k) ((pdst n x.o.dst).p tm skipV fun tm' => nx.f L no F tm' s k) no).outs = some outs := h
          rcases pvg_ok h with h1 | ⟨hg, h1⟩ | ⟨hg, v, hxp, h1⟩
          · exact (hno ⟨outs, h1, hsub⟩).elim
          · obtain ⟨a, p1, p2, p3⟩ := pdst_ok h1
            have hA' := put_ok hA p1 (skipV_den E)
            refine take_one hsel hQp hrep hgl hcl t1 t2.2 (yields_skip hA hg) (hnil _ hxn) hM fun g' hg' hc' => ?_
            refine ih hnx f5 hg' hc' le0 ?_ R hM hnil hal hsub p3
            obtain ⟨ta, na⟩ := a
            dsimp only at p2
            subst p2
            exact hA'
          · obtain ⟨a, p1, p2, p3⟩ := pdst_ok h1
            obtain ⟨V, hV, hy⟩ := yields_run (P := P) (ops := ops) (S := fun w => Mem E0 (lookHeap L x.i) w) (fun w _ => mem_nil) (hM _ (hnil _ hxn)) hA R.asm hg hxp
            have hA' := put_ok hA p1 hV
            refine take_one hsel hQp hrep hgl hcl t1 t2.2 hy (hnil _ hxn) hM fun g' hg' hc' => ?_
            refine ih hnx f5 hg' hc' le0 ?_ R hM hnil hal hsub p3
            obtain ⟨ta, na⟩ := a
            dsimp only at p2
            subst p2
            exact hA'
        · cases hW
      · split at hW
        · split at hW
          · rename_i nx hnx
            cases hW
            have hmem : r ∈ readyM m (rowsM ops 0 ops.toList) := by rw [hr]; exact List.mem_singleton.2 rfl
            obtain ⟨f1, f2, f3, f4, f5, f6⟩ := ready_facts hrep hmem
            obtain ⟨g, rfl⟩ : ∃ g', g = g' + 1 := by
              have := List.length_pos_of_mem f3
              exact ⟨g - 1, by omega⟩
            have hg' : (unlisted ops (listed.setIfInBounds r.i true)).length ≤ g := by
              have := unlisted_length f3
              omega
            obtain ⟨k', hk1, hk2⟩ := r2step_run h
            obtain ⟨l, l1, l2⟩ := kop_ok P n ops r.o F tm s k' outs hk1
            refine wpAnyG_all (rs := [r.i]) (by rw [ready_eq hrep, hr]; rfl) (by simp) fun i hi => ?_
            obtain rfl := List.mem_singleton.1 hi
            unfold wpOp
            simp only [f1]
            have key := opStep_ok hF hA R l1 (Q := Q) (K := fun A' w' => ∃ alive' : Nat → Prop, (∀ k, alive k → anc ops 4 r.i k = false → alive' k) ∧ (∀ k, alive' k → Mem E0 (lookHeap L k) w') ∧ wpAnyG P ops Q (fun k w => Mem E0 (lookHeap L k) w) g (listed.setIfInBounds r.i true) alive' A' w') fun a' s' E' A' w' hm le hA' R' => by
              obtain ⟨p1, ys, p2, p3⟩ := l2 _ hm
              obtain ⟨t', m'⟩ := a'
              dsimp only at p1
              subst p1
              rcases hk2 _ _ _ p2 with e | ⟨hh, hrun⟩
              · exact (hno ⟨ys, e, fun y hy => hsub _ (p3 y hy)⟩).elim
              · have hal' : ∀ k, (alive k ∧ anc ops 4 r.i k = false) ∨ lookHeap L k = .nil → lookHeap L k = .nil ∨ k ∈ later ops r.i al := fun k hk => by
                  rcases hk with ⟨k1, k2⟩ | k1
                  · rcases hal k k1 with e | e
                    · exact .inl e
                    · exact .inr (List.mem_filter.2 ⟨e, by rw [k2]; rfl⟩)
                  · exact .inl k1
                have hM' : ∀ k, (alive k ∧ anc ops 4 r.i k = false) ∨ lookHeap L k = .nil → Mem E0 (lookHeap L k) w' := fun k hk => by
                  rcases hal' k hk with e | e
                  · rw [e]; exact mem_nil
                  · by_cases hx : ∃ y ∈ L, y.k = k
                    · obtain ⟨y, y1, y2⟩ := hx
                      subst y2
                      have e1 := lookHeap_of y1 hn
                      have m0 := M0 y.k
                      rw [e1] at m0 ⊢
                      exact Mem.down (le0.trans le) m0 (look_mem R'.mem (hh y y1 e)) fun id o h => h
                    · rw [lookHeap_nil fun y hy e => hx ⟨y, hy, e⟩]; exact mem_nil
                exact ⟨_, fun k h1 h2 => .inl ⟨h1, h2⟩, hM', ih hnx f5 hg' (hcl.set f4) (le0.trans le) hA' R' hM' (fun k h => .inr h) hal' (fun y hy => hsub _ (p3 y hy)) hrun⟩
            split
            · rename_i hw; rw [if_pos hw] at key; exact .inl key
            · rename_i hw; rw [if_neg hw] at key; exact key
          · cases hW
        · cases hW
end
/-! ### the region -/
def nodupN : List Nat → Bool
  | [] => true
  | x :: l => !l.any (Nat.beq x) && nodupN l
theorem nodupN_ok : ∀ {l : List Nat}, nodupN l = true → l.Nodup
  | [], _ => List.nodup_nil
  | x :: l, h => by
    simp only [nodupN, Bool.and_eq_true, Bool.not_eq_true'] at h
    refine List.nodup_cons.2 ⟨fun hx => ?_, nodupN_ok h.2⟩
    have : l.any (Nat.beq x) = true := List.any_eq_true.2 ⟨x, hx, Nat.beq_refl _⟩
    rw [this] at h
    cases h.1
def loadsOf : List RowM → List Nat
  | [] => []
  | r :: l => match isLoad r.o with
    | true => r.i :: loadsOf l
    | false => loadsOf l
theorem mem_loadsOf {r : RowM} : ∀ {l : List RowM}, r ∈ l → isLoad r.o = true → r.i ∈ loadsOf l
  | x :: l, hm, h => by
    unfold loadsOf
    rcases List.mem_cons.1 hm with e | hm
    · subst e; rw [h]; exact List.mem_cons_self
    · split
      · exact List.mem_cons_of_mem _ (mem_loadsOf hm h)
      · exact mem_loadsOf hm h
theorem loadsOf_sub : ∀ {l : List RowM}, (loadsOf l).Sublist (l.map (·.i))
  | [] => .slnil
  | r :: l => by
    unfold loadsOf
    split
    · exact loadsOf_sub.cons_cons _
    · exact loadsOf_sub.cons _
theorem pass_looks {P : Program} {n : Nat} {ops : Array Oper} {h : T SObj} {asm : Asm} {l : List RowM} {tm t : Frame} {L : List Look} (hp : Pass P n ops h asm l tm t L) : (L.map (·.k)).Sublist (loadsOf l) ∧ (∀ x ∈ L, Holds h x) ∧ ∀ x ∈ L, ∃ r ∈ l, r.i = x.k ∧ isLoad r.o = true := by
  induction hp with
  | nil => exact ⟨.slnil, fun x hx => (by cases hx), fun x hx => (by cases hx)⟩
  | @skip r l tm t a L hg hput han hrest ih =>
    refine ⟨?_, ih.2.1, fun x hx => ?_⟩
    · unfold loadsOf
      split
      · exact ih.1.cons _
      · exact ih.1
    · obtain ⟨r, h1, h2⟩ := ih.2.2 x hx
      exact ⟨r, List.mem_cons_of_mem _ h1, h2⟩
  | @plain r l tm t a v L hg hx hput han hrest ih =>
    refine ⟨?_, ih.2.1, fun x hx => ?_⟩
    · unfold loadsOf
      split
      · exact ih.1.cons _
      · exact ih.1
    · obtain ⟨r, h1, h2⟩ := ih.2.2 x hx
      exact ⟨r, List.mem_cons_of_mem _ h1, h2⟩
  | @load r l tm t a v L x hg hx hld hk hholds hput han hrest ih =>
    refine ⟨?_, fun y hy => ?_, fun y hy => ?_⟩
    · unfold loadsOf
      rw [hld]
      simp only [List.map_cons, hk]
      exact ih.1.cons_cons _
    · rcases List.mem_cons.1 hy with e | hy
      · rw [e]; exact hholds
      · exact ih.2.1 y hy
    · rcases List.mem_cons.1 hy with e | hy
      · exact ⟨r, List.mem_cons_self, by rw [e, hk], hld⟩
      · obtain ⟨r, h1, h2⟩ := ih.2.2 y hy
        exact ⟨r, List.mem_cons_of_mem _ h1, h2⟩
theorem takes_rows {rows : List RowM} : ∀ (l : List RowM) (m : Nat), TakesOk rows m l → ∀ r ∈ l, r ∈ rows := by
  intro l
  induction l with
  | nil => intro m _ r hr; cases hr
  | cons x l ih =>
    intro m h r hr
    rcases List.mem_cons.1 hr with e | hr
    · rw [e]; exact readyM_sub h.1
    · exact ih _ h.2.2 r hr
def kdrawGen (P : Program) (n : Nat) (ops : Array Oper) (F : FK) (tm : Frame) (s : St) (k : Frame → St → Res) : Res := manyOps n (execDraw P (toFs F) ops ⟨tm, n⟩ s) k
noncomputable def kdraw (P : Program) (n : Nat) (ops : Array Oper) : KW :=
  match noSelectM (rowsM ops 0 ops.toList) && (P.follows .mixedOrders && nodupN ((list1 (rowsM ops 0 ops.toList) ops.size 0).map (·.i))), r2 P n ops (rowsM ops 0 ops.toList) ops.size (maskAfter 0 (list1 (rowsM ops 0 ops.toList) ops.size 0)) (loadsOf (list1 (rowsM ops 0 ops.toList) ops.size 0)) with
  | true, some W => @P1W.rec (fun _ => KW) (fun p => @R2W.rec (fun _ => KW) (fun q => ⟨fun F tm s k => p tm s.h s.asm (fun t L => q L (kdrawGen P n ops F tm s k) F t s k) (kdrawGen P n ops F tm s k)⟩) W) (p1 P n ops (list1 (rowsM ops 0 ops.toList) ops.size 0))
  | _, _ => ⟨fun F tm s k => kdrawGen P n ops F tm s k⟩
theorem kdrawGen_ok {P : Program} {n : Nat} {ops : Array Oper} {F : FK} (hF : FsOk P (toFs F)) {tm : Frame} {s : St} {k : Frame → St → Res} {outs : List (SExit × Frame × St)} (h : (kdrawGen P n ops F tm s k).outs = some outs) {w0 : World} {E : Env} {A : Act} {w : World} (hA : ActRel E ⟨tm, n⟩ A) (R : Rel w0 E s w) {Q : Exit → Act → World → Prop} (hQp : ∀ v d c a w, Q (.panic c) (Act.put a d v) w → Q (.panic c) a w)
    (hQ : ∀ tm' s' E' A' w' ys, (k tm' s').outs = some ys → (∀ y ∈ ys, y ∈ outs) → E.Le E' → ActRel E' ⟨tm', n⟩ A' → Rel w0 E' s' w' → Q .normal A' w') (id : Nat) : (Code.region id ops true).wp P Q A w := by
  obtain ⟨l, h1, h2⟩ := manyOps_outs h
  refine execDraw_ok hF hA R h1 hQp (fun a' s' E' A' w' hm le hA' R' => ?_) id
  obtain ⟨p1, ys, p2, p3⟩ := h2 _ hm
  obtain ⟨t', m'⟩ := a'
  dsimp only at p1
  subst p1
  exact hQ t' s' E' A' w' ys p2 p3 le hA' R'
theorem kdraw_ok {P : Program} {n : Nat} {ops : Array Oper} {F : FK} (hF : FsOk P (toFs F)) {tm : Frame} {s : St} {k : Frame → St → Res} {outs : List (SExit × Frame × St)} (h : ((kdraw P n ops).f F tm s k).outs = some outs) {w0 : World} {E : Env} {A : Act} {w : World} (hA : ActRel E ⟨tm, n⟩ A) (R : Rel w0 E s w) {Q : Exit → Act → World → Prop} (hQp : ∀ v d c a w, Q (.panic c) (Act.put a d v) w → Q (.panic c) a w)
    (hQ : ∀ tm' s' E' A' w' ys, (k tm' s').outs = some ys → (∀ y ∈ ys, y ∈ outs) → E.Le E' → ActRel E' ⟨tm', n⟩ A' → Rel w0 E' s' w' → Q .normal A' w') (id : Nat) : (Code.region id ops true).wp P Q A w := by
  by_cases hno : ∃ ys, (kdrawGen P n ops F tm s k).outs = some ys ∧ ∀ y ∈ ys, y ∈ outs
  · obtain ⟨ys, h1, h2⟩ := hno
    exact kdrawGen_ok hF h1 hA R hQp (fun tm' s' E' A' w' zs z1 z2 => hQ tm' s' E' A' w' zs z1 fun y hy => h2 _ (z2 y hy)) id
  · unfold kdraw at h
    split at h
    · rename_i W hc hW
      simp only [Bool.and_eq_true] at hc
      have h : ((p1 P n ops (list1 (rowsM ops 0 ops.toList) ops.size 0)).p tm s.h s.asm (fun t L => W.f L (kdrawGen P n ops F tm s k) F t s k) (kdrawGen P n ops F tm s k)).outs = some outs := h
      rcases p1_ok h with h1 | ⟨t, L, hp, h1⟩
      · exact (hno ⟨outs, h1, fun y hy => hy⟩).elim
      · obtain ⟨a1, a2, a3⟩ := pass_looks hp
        have hto : TakesOk (rowsM ops 0 ops.toList) 0 (list1 (rowsM ops 0 ops.toList) ops.size 0) := list1_ok _ _
        have hn : (L.map (·.k)).Nodup := (a1.trans loadsOf_sub).nodup (nodupN_ok hc.2.2)
        have hsel : Region.noSelect ops = true := by
          unfold Region.noSelect
          rw [← Array.all_toList, List.all_eq_true]
          exact noSelectM_ok hc.1
        have hrep : RepM ops (Array.replicate ops.size false) 0 := ⟨by simp, fun k => by
          simp only [Nat.zero_testBit, Array.getD_eq_getD_getElem?, Array.getElem?_replicate]
          split <;> rfl⟩
        have hcount : (unlisted ops (Array.replicate ops.size false)).length ≤ ops.size := by
          have := List.length_filter_le (fun i => !(Array.replicate ops.size false).getD i true) (List.range ops.size)
          rw [List.length_range] at this
          exact this
        have hclosed : Closed ops (Array.replicate ops.size false) := fun j hj => by
          simp only [Array.getD_eq_getD_getElem?, Array.getElem?_replicate] at hj
          split at hj <;> simp at hj
        have Rd : Rel w0 E s { w with drawn := w.drawn + 1 } := R.same rfl rfl rfl rfl
        have hM : ∀ k, Mem E (lookHeap L k) { w with drawn := w.drawn + 1 } := fun k => lookHeap_mem fun x hx _ => look_mem Rd.mem (a2 x hx)
        refine wp_region_any hc.2.1 (wpAny_of_G (M := fun k w => Mem E (lookHeap L k) w) _ _ (fun _ => True) _ _ ?_)
        refine pass_ok hsel hQp hn hM R.asm hp (fun x hx => hx) hto hrep hcount hclosed hA fun g' listed' A' r1 r2' r3 r4 => ?_
        refine r2_ok hF hsel hQp hn (fun y hy => ?_) hM hno hQ hW r1 r2' r3 (.refl E) r4 Rd (fun k _ => hM k) (fun _ _ => trivial) (fun k _ => ?_) (fun y hy => hy) h1
        · obtain ⟨r, q1, q2, q3⟩ := a3 y hy
          obtain ⟨o, o1, o2⟩ := mem_rows.1 (takes_rows _ _ hto r q1)
          have : r.o = o := by rw [o2]; rfl
          exact ⟨o, by rw [← q2]; exact o1, by rw [← this]; exact q3⟩
        · by_cases hx : ∃ y ∈ L, y.k = k
          · obtain ⟨y, y1, y2⟩ := hx
            obtain ⟨r, q1, q2, q3⟩ := a3 y y1
            right
            rw [← y2, ← q2]
            exact mem_loadsOf q1 q3
          · exact .inl (lookHeap_nil fun y hy e => hx ⟨y, hy, e⟩)
    · exact (hno ⟨outs, h, fun y hy => hy⟩).elim
end Go.Sx
