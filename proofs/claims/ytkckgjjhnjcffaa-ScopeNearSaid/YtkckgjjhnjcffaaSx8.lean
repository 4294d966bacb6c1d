/-
  A symbolic run of Go functions by computation (part 8): an operation that leaves memory alone.
-/
import Derived.Test.YtkckgjjhnjcffaaSx7
namespace Go.Sx
set_option linter.unusedVariables false
set_option linter.unusedSimpArgs false

def one1 (asm : Asm) : Option SV → Option (List (SV × Asm))
  | some v => some [(v, asm)]
  | none => none
def notNil : SV → Bool
  | .ptr _ _ => true
  | .iface _ _ => true
  | .func (.func _) _ _ => true
  | _ => false
def xpick (a : SAct) (asm : Asm) (c x y : Operand) : Option (List (SV × Asm)) :=
  match a.ev c with
  | some (.bool (.lit true)) => one1 asm (a.ev x)
  | some (.bool (.lit false)) => one1 asm (a.ev y)
  | some (.bool b) => match a.ev x, a.ev y with
    | some u, some v => some ((ways asm b).map fun p => (sel p.1 (fun _ => u) (fun _ => v) (), p.2))
    | _, _ => none
  | _ => none
def kpMove (x : Operand) (P : Program) (h : T SObj) (asm : Asm) (a : SAct) : Option (List (SV × Asm)) := one1 asm (a.ev x)
def kpAssign (x : Operand) (P : Program) (h : T SObj) (asm : Asm) (a : SAct) : Option (List (SV × Asm)) := one1 asm (a.ev x)
def kpPick (c : Operand) (x : Operand) (y : Operand) (P : Program) (h : T SObj) (asm : Asm) (a : SAct) : Option (List (SV × Asm)) := xpick a asm c x y
def kpBuild (t : TypeId) (parts : Array (Nat × Operand)) (P : Program) (h : T SObj) (asm : Asm) (a : SAct) : Option (List (SV × Asm)) := one1 asm (xbuild P a t parts)
def kpLoad (t : TypeId) (x : Operand) (P : Program) (h : T SObj) (asm : Asm) (a : SAct) : Option (List (SV × Asm)) := match a.ev x with
  | some v => one1 asm (xload P h t v)
  | none => none
def kpNilCheck (x : Operand) (P : Program) (h : T SObj) (asm : Asm) (a : SAct) : Option (List (SV × Asm)) := match a.ev x with
  | some v => match notNil v with
    | true => some [(v, asm)]
    | false => none
  | none => none
def kpBinOp (op : BinOp) (t : TypeId) (x : Operand) (y : Operand) (P : Program) (h : T SObj) (asm : Asm) (a : SAct) : Option (List (SV × Asm)) := match a.ev x, a.ev y with
  | some u, some v => one1 asm (xbin P op t (isConstO x || isConstO y) u v)
  | _, _ => none
def kpUnOp (op : UnOp) (x : Operand) (P : Program) (h : T SObj) (asm : Asm) (a : SAct) : Option (List (SV × Asm)) := match a.ev x with
  | some v => one1 asm (xun op v)
  | none => none
def kpConvert (src : TypeId) (dst : TypeId) (x : Operand) (P : Program) (h : T SObj) (asm : Asm) (a : SAct) : Option (List (SV × Asm)) := match a.ev x with
  | some v => one1 asm (xconvert P h src dst v)
  | none => none
def kpMakeInterface (t : TypeId) (x : Operand) (P : Program) (h : T SObj) (asm : Asm) (a : SAct) : Option (List (SV × Asm)) := match a.ev x with
  | some v => match P.underlying t with
    | some (.interface _) => none
    | some _ => some [(.iface t v, asm)]
    | none => none
  | none => none
def kpMakeFunc (fn : Fn) (first : Array Operand) (captured : Array Operand) (P : Program) (h : T SObj) (asm : Asm) (a : SAct) : Option (List (SV × Asm)) := match evL a first.toList, evL a captured.toList with
  | some u, some v => some [(.func fn u v, asm)]
  | _, _ => none
def kpSlice (t : TypeId) (x : Operand) (lo : Option Operand) (hi : Option Operand) (mx : Option Operand) (P : Program) (h : T SObj) (asm : Asm) (a : SAct) : Option (List (SV × Asm)) := match a.ev x, natO a lo, natO a hi, natO a mx with
  | some v, some l, some h', some m => one1 asm (xslice P h t v l h' m)
  | _, _, _, _ => none
def kpFieldAddr (s : TypeId) (x : Operand) (f : Nat) (P : Program) (h : T SObj) (asm : Asm) (a : SAct) : Option (List (SV × Asm)) := match a.ev x with
  | some v => one1 asm (xfieldAddr P s v f)
  | none => none
def kpField (t : TypeId) (x : Operand) (f : Nat) (P : Program) (h : T SObj) (asm : Asm) (a : SAct) : Option (List (SV × Asm)) := match a.ev x with
  | some v => one1 asm (xfield P t v f)
  | none => none
def kpIndexAddr (t : TypeId) (x : Operand) (i : Operand) (P : Program) (h : T SObj) (asm : Asm) (a : SAct) : Option (List (SV × Asm)) := match a.ev x, a.ev i with
  | some u, some v => one1 asm (xindexAddr P t u v)
  | _, _ => none
def kpIndex (t : TypeId) (x : Operand) (i : Operand) (P : Program) (h : T SObj) (asm : Asm) (a : SAct) : Option (List (SV × Asm)) := match a.ev x, a.ev i with
  | some u, some v => one1 asm (xindex P t u v)
  | _, _ => none
def kpLookup (t : TypeId) (x : Operand) (k : Operand) (ok : Bool) (P : Program) (h : T SObj) (asm : Asm) (a : SAct) : Option (List (SV × Asm)) := match a.ev x, a.ev k with
  | some u, some v => xlookup P h t u v ok asm
  | _, _ => none
def kpTypeAssert (x : Operand) (xt : TypeId) (t : TypeId) (ok : Bool) (P : Program) (h : T SObj) (asm : Asm) (a : SAct) : Option (List (SV × Asm)) := match a.ev x with
  | some v => one1 asm (xassert P v xt t ok)
  | none => none
def kpExtract (x : Operand) (i : Nat) (P : Program) (h : T SObj) (asm : Asm) (a : SAct) : Option (List (SV × Asm)) := match a.ev x with
  | some (.tup vs) => one1 asm (vs[i]?)
  | _ => none
def kpCall (b : Builtin) (args : Array Operand) (tys : Array TypeId) (P : Program) (h : T SObj) (asm : Asm) (a : SAct) : Option (List (SV × Asm)) :=
  match b with
  | .len => match args.toList, tys[0]? with
    | [x], some t => match a.ev x with
      | some v => one1 asm (xlen P h t v)
      | none => none
    | _, _ => none
  | .cap => match args.toList, tys[0]? with
    | [x], some t => match a.ev x with
      | some v => one1 asm (xcap P t v)
      | none => none
    | _, _ => none
  | .max => match evL a args.toList with
    | some l => xmmW true asm l
    | none => none
  | .min => match evL a args.toList with
    | some l => xmmW false asm l
    | none => none
  | _ => none
def kpNone (P : Program) (h : T SObj) (asm : Asm) (a : SAct) : Option (List (SV × Asm)) := none
def kpOf : Op → Program → T SObj → Asm → SAct → Option (List (SV × Asm))
  | .move x => kpMove x
  | .assign x => kpAssign x
  | .pick c x y => kpPick c x y
  | .build t parts => kpBuild t parts
  | .load t x => kpLoad t x
  | .nilCheck x => kpNilCheck x
  | .binOp op t x y _ => kpBinOp op t x y
  | .unOp op _ x => kpUnOp op x
  | .convert src dst x => kpConvert src dst x
  | .makeInterface t x => kpMakeInterface t x
  | .makeFunc fn first captured => kpMakeFunc fn first captured
  | .slice t x lo hi mx => kpSlice t x lo hi mx
  | .fieldAddr s x f => kpFieldAddr s x f
  | .field t x f => kpField t x f
  | .indexAddr t x i => kpIndexAddr t x i
  | .index t x i => kpIndex t x i
  | .lookup t x k ok => kpLookup t x k ok
  | .typeAssert x xt t ok => kpTypeAssert x xt t ok
  | .extract x i => kpExtract x i
  | .call { callee := .builtin b, args := args, argTypes := tys } => kpCall b args tys
  | _ => kpNone
def xPure (P : Program) (h : T SObj) (asm : Asm) (a : SAct) (o : Oper) : Option (List (SV × Asm)) :=
  kpOf o.op P h asm a
/-- The same in one piece. -/
def xPure0 (P : Program) (h : T SObj) (asm : Asm) (a : SAct) (o : Oper) : Option (List (SV × Asm)) :=
  match o.op with
  | .move x => one1 asm (a.ev x)
  | .assign x => one1 asm (a.ev x)
  | .pick c x y => xpick a asm c x y
  | .build t parts => one1 asm (xbuild P a t parts)
  | .load t x => match a.ev x with
    | some v => one1 asm (xload P h t v)
    | none => none
  | .nilCheck x => match a.ev x with
    | some v => match notNil v with
      | true => some [(v, asm)]
      | false => none
    | none => none
  | .binOp op t x y _ => match a.ev x, a.ev y with
    | some u, some v => one1 asm (xbin P op t (isConstO x || isConstO y) u v)
    | _, _ => none
  | .unOp op _ x => match a.ev x with
    | some v => one1 asm (xun op v)
    | none => none
  | .convert src dst x => match a.ev x with
    | some v => one1 asm (xconvert P h src dst v)
    | none => none
  | .makeInterface t x => match a.ev x with
    | some v => match P.underlying t with
      | some (.interface _) => none
      | some _ => some [(.iface t v, asm)]
      | none => none
    | none => none
  | .makeFunc fn first captured => match evL a first.toList, evL a captured.toList with
    | some u, some v => some [(.func fn u v, asm)]
    | _, _ => none
  | .slice t x lo hi mx => match a.ev x, natO a lo, natO a hi, natO a mx with
    | some v, some l, some h', some m => one1 asm (xslice P h t v l h' m)
    | _, _, _, _ => none
  | .fieldAddr s x f => match a.ev x with
    | some v => one1 asm (xfieldAddr P s v f)
    | none => none
  | .field t x f => match a.ev x with
    | some v => one1 asm (xfield P t v f)
    | none => none
  | .indexAddr t x i => match a.ev x, a.ev i with
    | some u, some v => one1 asm (xindexAddr P t u v)
    | _, _ => none
  | .index t x i => match a.ev x, a.ev i with
    | some u, some v => one1 asm (xindex P t u v)
    | _, _ => none
  | .lookup t x k ok => match a.ev x, a.ev k with
    | some u, some v => xlookup P h t u v ok asm
    | _, _ => none
  | .typeAssert x xt t ok => match a.ev x with
    | some v => one1 asm (xassert P v xt t ok)
    | none => none
  | .extract x i => match a.ev x with
    | some (.tup vs) => one1 asm (vs[i]?)
    | _ => none
  | .call { callee := .builtin b, args := args, argTypes := tys } =>
    match b with
    | .len => match args.toList, tys[0]? with
      | [x], some t => match a.ev x with
        | some v => one1 asm (xlen P h t v)
        | none => none
      | _, _ => none
    | .cap => match args.toList, tys[0]? with
      | [x], some t => match a.ev x with
        | some v => one1 asm (xcap P t v)
        | none => none
      | _, _ => none
    | .max => match evL a args.toList with
      | some l => xmmW true asm l
      | none => none
    | .min => match evL a args.toList with
      | some l => xmmW false asm l
      | none => none
    | _ => none
  | _ => none
theorem xPure_eq (P : Program) (h : T SObj) (asm : Asm) (a : SAct) (o : Oper) : xPure P h asm a o = xPure0 P h asm a o := by
  unfold xPure xPure0
  cases o.op <;> first | rfl | (rename_i c; cases c with | mk callee args tys => cases callee <;> first | rfl | (rename_i b; cases b <;> rfl))
section
variable {P : Program} {E : Env} {h : T SObj} {w : World}
/-- What an operation's ways are good for: one of them is what happens. -/
def PureOk (P : Program) (E : Env) (A : Act) (o : Oper) (w : World) (outs : List (SV × Asm)) : Prop :=
  ∃ v asm' V, (v, asm') ∈ outs ∧ AsmOk E asm' ∧ v.den E = some V ∧ (execOp A.eval o).run P w = .ok (.value V) w
theorem pure_one {A : Act} {o : Oper} {asm : Asm} (ha : AsmOk E asm) {x : Option SV} {outs : List (SV × Asm)} (h : one1 asm x = some outs) {S : Sem Value} (hS : execOp A.eval o = (do pure (.value (← S)))) (hx : ∀ v, x = some v → ∃ V, v.den E = some V ∧ S.run P w = .ok V w) : PureOk P E A o w outs := by
  unfold one1 at h
  split at h
  · rename_i v
    cases h
    obtain ⟨V, h1, h2⟩ := hx v rfl
    exact ⟨v, asm, V, by simp, ha, h1, by rw [hS]; simp only [Sem.run_bind, h2, Result.andThen_ok, Sem.run_pure]⟩
  · cases h
theorem notNil_ok {v : SV} {V : Value} (h : notNil v = true) (hV : v.den E = some V) {x : Operand} {ρ : Operand → Value} (hρ : ρ x = V) {o : Oper} (ho : o.op = .nilCheck x) (w : World) : (execOp ρ o).run P w = .ok (.value V) w := by
  unfold notNil at h
  split at h
  · obtain ⟨_, _, _, _, rfl⟩ := den_ptr hV
    simp [execOp, ho, hρ]
  · obtain ⟨_, _, rfl⟩ := den_iface hV
    simp [execOp, ho, hρ]
  · obtain ⟨_, _, _, _, rfl⟩ := den_func hV
    simp [execOp, ho, hρ]
  · cases h
theorem xPure_ok (M : Mem E h w) {asm : Asm} (ha : AsmOk E asm) {a : SAct} {A : Act} (hA : ActRel E a A) {o : Oper} {outs : List (SV × Asm)} (e : xPure P h asm a o = some outs) : PureOk P E A o w outs := by
  rw [xPure_eq] at e
  unfold xPure0 at e
  split at e
  · -- move
    rename_i x ho
    exact pure_one ha e (S := pure (A.eval x)) (by simp [execOp, ho]) (fun v hv => ⟨_, ev_ok hA hv, rfl⟩)
  · -- assign
    rename_i x ho
    exact pure_one ha e (S := pure (A.eval x)) (by simp [execOp, ho]) (fun v hv => ⟨_, ev_ok hA hv, rfl⟩)
  · -- pick
    rename_i c x y ho
    unfold xpick at e
    split at e
    · rename_i hc
      obtain ⟨b, hb, hC⟩ := den_bool (ev_ok hA hc)
      simp only [BX.den, Option.some.injEq] at hb; subst hb
      exact pure_one ha e (S := pure (A.eval x)) (by simp [execOp, ho, hC, asBool]) (fun v hv => ⟨_, ev_ok hA hv, rfl⟩)
    · rename_i hc
      obtain ⟨b, hb, hC⟩ := den_bool (ev_ok hA hc)
      simp only [BX.den, Option.some.injEq] at hb; subst hb
      exact pure_one ha e (S := pure (A.eval y)) (by simp [execOp, ho, hC, asBool]) (fun v hv => ⟨_, ev_ok hA hv, rfl⟩)
    · rename_i b _ _ hc
      obtain ⟨z, hb, hC⟩ := den_bool (ev_ok hA hc)
      split at e
      · rename_i u v hu hv
        cases e
        obtain ⟨asm', w1, w2⟩ := ways_ok ha hb
        refine ⟨sel z (fun _ => u) (fun _ => v) (), asm', if z then A.eval x else A.eval y, List.mem_map.2 ⟨_, w1, rfl⟩, w2, ?_, ?_⟩
        · cases z
          · exact ev_ok hA hv
          · exact ev_ok hA hu
        · simp [execOp, ho, hC, asBool]
      · cases e
    · cases e
  · -- build
    rename_i t parts ho
    exact pure_one ha e (S := Instr.build t (parts.map fun (i, x) => (i, A.eval x))) (by simp [execOp, ho]) (fun v hv => xbuild_ok hA hv w)
  · -- load
    rename_i t x ho
    split at e
    · rename_i v hv
      exact pure_one ha e (S := Instr.loadAt t (A.eval x)) (by simp [execOp, ho]) (fun u hu => xload_ok M hu (ev_ok hA hv))
    · cases e
  · -- nilCheck
    rename_i x ho
    split at e
    · rename_i v hv
      split at e
      · rename_i hn
        cases e
        exact ⟨v, asm, _, by simp, ha, ev_ok hA hv, notNil_ok hn (ev_ok hA hv) rfl ho w⟩
      · cases e
    · cases e
  · -- binOp
    rename_i op t x y t' ho
    split at e
    · rename_i u v hu hv
      exact pure_one ha e (S := (do eqGuard op t x y (A.eval x) (A.eval y); binOp op t (A.eval x) (A.eval y))) (by simp [execOp, ho]) (fun z hz => xbin_ok hz (ev_ok hA hu) (ev_ok hA hv) (fun hc => by simpa using hc) w)
    · cases e
  · -- unOp
    rename_i op t x ho
    split at e
    · rename_i v hv
      exact pure_one ha e (S := Op.unary op (A.eval x)) (by simp [execOp, ho]) (fun u hu => xun_ok hu (ev_ok hA hv) w)
    · cases e
  · -- convert
    rename_i src dst x ho
    split at e
    · rename_i v hv
      exact pure_one ha e (S := convert src dst (A.eval x)) (by simp [execOp, ho]) (fun u hu => xconvert_ok M hu (ev_ok hA hv))
    · cases e
  · -- makeInterface
    rename_i t x ho
    split at e
    · rename_i v hv
      split at e
      · cases e
      · rename_i d hni hu
        cases e
        refine ⟨.iface t v, asm, .iface t (A.eval x), by simp, ha, by simp [SV.den, ev_ok hA hv], ?_⟩
        have : (Instr.makeInterface t (A.eval x)).run P w = .ok (.iface t (A.eval x)) w := by
          cases d <;> first | (exfalso; exact hni _ rfl) | simp [Instr.makeInterface, run_underlying hu]
        simp only [execOp, ho, Sem.run_bind, this, Result.andThen_ok, Sem.run_pure]
      · cases e
    · cases e
  · -- makeFunc
    rename_i fn first captured ho
    split at e
    · rename_i u v hu hv
      cases e
      refine ⟨.func fn u v, asm, .func fn (first.map A.eval) (captured.map A.eval), by simp, ha, ?_, by simp [execOp, ho, Instr.makeFunc]⟩
      have h1 := evL_ok hA hu
      have h2 := evL_ok hA hv
      simp only [SV.den, h1, h2, Option.some.injEq, Value.func.injEq, true_and]
      constructor <;> (apply Array.ext'; simp)
    · cases e
  · -- slice
    rename_i t x lo hi mx ho
    split at e
    · rename_i v l h' m hv hl hh hm
      exact pure_one ha e (S := Instr.sliceAt t (A.eval x) (lo.map A.eval) (hi.map A.eval) (mx.map A.eval)) (by simp [execOp, ho]) (fun u hu => xslice_ok M hu (ev_ok hA hv) (natO_ok hA hl) (natO_ok hA hh) (natO_ok hA hm))
    · cases e
  · -- fieldAddr
    rename_i s x f ho
    split at e
    · rename_i v hv
      exact pure_one ha e (S := Instr.fieldAt s (A.eval x) f) (by simp [execOp, ho]) (fun u hu => xfieldAddr_ok hu (ev_ok hA hv) w)
    · cases e
  · -- field
    rename_i s x f ho
    split at e
    · rename_i v hv
      exact pure_one ha e (S := Instr.field s (A.eval x) f) (by simp [execOp, ho]) (fun u hu => xfield_ok hu (ev_ok hA hv) w)
    · cases e
  · -- indexAddr
    rename_i t x i ho
    split at e
    · rename_i u v hu hv
      exact pure_one ha e (S := Instr.indexAt t (A.eval x) (A.eval i)) (by simp [execOp, ho]) (fun z hz => xindexAddr_ok hz (ev_ok hA hu) (ev_ok hA hv) w)
    · cases e
  · -- index
    rename_i t x i ho
    split at e
    · rename_i u v hu hv
      exact pure_one ha e (S := Instr.index t (A.eval x) (A.eval i)) (by simp [execOp, ho]) (fun z hz => xindex_ok hz (ev_ok hA hu) (ev_ok hA hv) w)
    · cases e
  · -- lookup
    rename_i t x k ok ho
    split at e
    · rename_i u v hu hv
      obtain ⟨r, asm', V, h1, h2, h3, h4⟩ := xlookup_ok (P := P) M ha e (ev_ok hA hu) (ev_ok hA hv)
      exact ⟨r, asm', V, h1, h2, h3, by simp only [execOp, ho, Sem.run_bind, h4, Result.andThen_ok, Sem.run_pure]⟩
    · cases e
  · -- typeAssert
    rename_i x xt t ok ho
    split at e
    · rename_i v hv
      exact pure_one ha e (S := Instr.typeAssert (A.eval x) xt t ok) (by simp [execOp, ho]) (fun u hu => xassert_ok hu (ev_ok hA hv) w)
    · cases e
  · -- extract
    rename_i x i ho
    split at e
    · rename_i vs hv
      obtain ⟨L, hL, hX⟩ := den_tup (ev_ok hA hv)
      refine pure_one ha e (S := Instr.extract (A.eval x) i) (by simp [execOp, ho]) (fun u hu => ?_)
      obtain ⟨V, h1, h2⟩ := denL_get hL hu
      exact ⟨V, h2, by simp [Instr.extract, hX, h1]⟩
    · cases e
  · -- a builtin
    rename_i b args tys ho
    have hcall : ∀ b', b = b' → execOp A.eval o = builtin b' tys o.type (args.map fun | .const _ => true | _ => false) (args.map A.eval) := by
      rintro b' rfl
      simp [execOp, ho, resolve, invoke]
      rfl
    split at e
    · split at e
      · rename_i x t hx ht
        split at e
        · rename_i v hv
          have hargs : args.map A.eval = #[A.eval x] := by apply Array.ext'; simp [hx]
          exact pure_one ha e (S := Builtin.len_ tys o.type #[A.eval x]) (by rw [hcall _ rfl, hargs]; rfl) (fun u hu => xlen_ok M hu (ev_ok hA hv) o.type tys ht)
        · cases e
      · cases e
    · split at e
      · rename_i x t hx ht
        split at e
        · rename_i v hv
          have hargs : args.map A.eval = #[A.eval x] := by apply Array.ext'; simp [hx]
          exact pure_one ha e (S := Builtin.cap_ tys o.type #[A.eval x]) (by rw [hcall _ rfl, hargs]; rfl) (fun u hu => xcap_ok hu (ev_ok hA hv) o.type tys ht w)
        · cases e
      · cases e
    · split at e
      · rename_i l hl
        have hargs : args.map A.eval = (args.toList.map A.eval).toArray := by apply Array.ext'; simp
        obtain ⟨v, asm', V, q1, q2, q3, q4⟩ := xmaxW_ok (P := P) ha e (evL_ok hA hl) tys o.type w
        refine ⟨v, asm', V, q1, q2, q3, ?_⟩
        rw [hcall _ rfl, hargs]
        simp only [builtin, Sem.run_bind, q4, Result.andThen_ok, Sem.run_pure]
      · cases e
    · split at e
      · rename_i l hl
        have hargs : args.map A.eval = (args.toList.map A.eval).toArray := by apply Array.ext'; simp
        obtain ⟨v, asm', V, q1, q2, q3, q4⟩ := xminW_ok (P := P) ha e (evL_ok hA hl) tys o.type w
        refine ⟨v, asm', V, q1, q2, q3, ?_⟩
        rw [hcall _ rfl, hargs]
        simp only [builtin, Sem.run_bind, q4, Result.andThen_ok, Sem.run_pure]
      · cases e
    · cases e
  · cases e
end
end Go.Sx
