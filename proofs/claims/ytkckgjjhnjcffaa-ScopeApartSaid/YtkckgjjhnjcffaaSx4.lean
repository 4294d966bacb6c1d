/-
  A symbolic run of Go functions by computation (part 4): types, parts, loads, places, sums, comparisons.
-/
import Derived.Test.YtkckgjjhnjcffaaSx3
import Derived.Laws.StructEq
namespace Go.Sx
set_option linter.unusedVariables false
set_option linter.unusedSimpArgs false

/-! ### what a value may stand for -/
section
variable {E : Env} {V : Value}
theorem den_bool {b : BX} (h : (SV.bool b).den E = some V) : ∃ x, b.den E = some x ∧ V = .bool x := by
  simp only [SV.den] at h
  split at h
  · rename_i x hx; cases h; exact ⟨x, hx, rfl⟩
  · cases h
theorem den_int {k : IntKind} {n : IX} (h : (SV.int k n).den E = some V) : ∃ x, n.den E = some x ∧ V = .int k x := by
  simp only [SV.den] at h
  split at h
  · rename_i x hx; cases h; exact ⟨x, hx, rfl⟩
  · cases h
theorem den_lit {k : IntKind} {n : Int} (h : (SV.int k (.lit n)).den E = some V) : V = .int k n := by
  obtain ⟨x, hx, rfl⟩ := den_int h
  simp only [IX.den, Option.some.injEq] at hx
  rw [hx]
theorem den_str {s : SX} (h : (SV.str s).den E = some V) : ∃ x, s.den E = some x ∧ V = .string x := by
  simp only [SV.den] at h
  split at h
  · rename_i x hx; cases h; exact ⟨x, hx, rfl⟩
  · cases h
theorem den_ptr {id off : Nat} (h : (SV.ptr id off).den E = some V) : ∃ b base n, E.blk id = some (b, base, n) ∧ V = .pointer (some ⟨b, base + off, none⟩) := by
  simp only [SV.den] at h
  split at h
  · rename_i b base n hx; cases h; exact ⟨b, base, n, hx, rfl⟩
  · cases h
def capOf (cap : Option Nat) (n off es : Nat) : Nat := match cap with | some c => c | none => (n - off) / es
theorem den_slc {id off len es : Nat} {cap : Option Nat} (h : (SV.slc id off len cap es).den E = some V) : ∃ b base n, E.blk id = some (b, base, n) ∧ V = .slice (some ⟨b, base + off, none⟩) len (capOf cap n off es) := by
  simp only [SV.den] at h
  split at h
  · rename_i b base n hx
    split at h <;> cases h <;> exact ⟨b, base, n, hx, rfl⟩
  · cases h
theorem den_slc_mk {id off len es b base n : Nat} {cap : Option Nat} (h : E.blk id = some (b, base, n)) : (SV.slc id off len cap es).den E = some (.slice (some ⟨b, base + off, none⟩) len (capOf cap n off es)) := by
  simp only [SV.den, h]
  cases cap <;> rfl
theorem den_map {id : Nat} (h : (SV.map id).den E = some V) : ∃ b base n, E.blk id = some (b, base, n) ∧ V = .map (some b) := by
  simp only [SV.den] at h
  split at h
  · rename_i b base n hx; cases h; exact ⟨b, base, n, hx, rfl⟩
  · cases h
theorem den_func {fn : Fn} {xs ys : List SV} (h : (SV.func fn xs ys).den E = some V) : ∃ L M, SV.denL E xs = some L ∧ SV.denL E ys = some M ∧ V = .func fn L.toArray M.toArray := by
  simp only [SV.den] at h
  split at h
  · rename_i x y hx hy; cases h; exact ⟨x, y, hx, hy, rfl⟩
  · cases h
theorem den_iface {t : TypeId} {v : SV} (h : (SV.iface t v).den E = some V) : ∃ x, v.den E = some x ∧ V = .iface t x := by
  simp only [SV.den] at h
  split at h
  · rename_i x hx; cases h; exact ⟨x, hx, rfl⟩
  · cases h
theorem den_agg {xs : List SV} (h : (SV.agg xs).den E = some V) : ∃ L, SV.denL E xs = some L ∧ V = .agg L.toArray := by
  simp only [SV.den] at h
  split at h
  · rename_i x hx; cases h; exact ⟨x, hx, rfl⟩
  · cases h
theorem den_tup {xs : List SV} (h : (SV.tup xs).den E = some V) : ∃ L, SV.denL E xs = some L ∧ V = .tuple L.toArray := by
  simp only [SV.den] at h
  split at h
  · rename_i x hx; cases h; exact ⟨x, hx, rfl⟩
  · cases h
theorem den_nil0 : (SV.nilp.den E = some V → V = .pointer none) ∧ (SV.nils.den E = some V → V = .slice none 0 0) ∧ (SV.nilm.den E = some V → V = .map none) ∧ (SV.nilf.den E = some V → V = .nilFunc) ∧ (SV.nili.den E = some V → V = .nilIface) := by
  simp only [SV.den, Option.some.injEq]
  exact ⟨Eq.symm, Eq.symm, Eq.symm, Eq.symm, Eq.symm⟩
end

/-! ### constants -/
def optL {α β : Type} (f : α → Option β) : List α → Option (List β)
  | [] => some []
  | a :: l => match f a with
    | some b => match optL f l with
      | some m => some (b :: m)
      | none => none
    | none => none
def ofV : Nat → Value → Option SV
  | 0, _ => none
  | n + 1, v =>
    match v with
    | .bool b => some (.bool (.lit b))
    | .int k z => some (.int k (.lit z))
    | .string s => some (.str (.lit s.size (enc s.data.toList)))
    | .pointer none => some .nilp
    | .slice none 0 0 => some .nils
    | .map none => some .nilm
    | .nilFunc => some .nilf
    | .nilIface => some .nili
    | .func fn f c => match optL (ofV n) f.toList, optL (ofV n) c.toList with
      | some x, some y => some (.func fn x y)
      | _, _ => none
    | .iface t x => match ofV n x with | some y => some (.iface t y) | none => none
    | .agg cs => match optL (ofV n) cs.toList with | some x => some (.agg x) | none => none
    | .tuple cs => match optL (ofV n) cs.toList with | some x => some (.tup x) | none => none
    | _ => none
theorem optL_den {E : Env} {f : Value → Option SV} (hf : ∀ v s, f v = some s → s.den E = some v) : ∀ {l : List Value} {m : List SV}, optL f l = some m → SV.denL E m = some l
  | [], m, h => by simp [optL] at h; subst h; simp [SV.denL]
  | a :: l, m, h => by
    simp only [optL] at h
    split at h
    · rename_i b hb
      split at h
      · rename_i c hc; cases h
        exact denL_cons (hf _ _ hb) (optL_den hf hc)
      · cases h
    · cases h
theorem ofV_den {E : Env} : ∀ (n : Nat) (v : Value) (s : SV), ofV n v = some s → s.den E = some v
  | 0, v, s, h => by simp [ofV] at h
  | n + 1, v, s, h => by
    have ih := ofV_den (E := E) n
    cases v <;> simp only [ofV] at h
    case bool b => cases h; simp [SV.den, BX.den]
    case int k z => cases h; simp [SV.den, IX.den]
    case string b =>
      cases h
      simp only [SV.den, SX.den]
      congr 1
      congr 1
      have e : b.size = b.data.toList.length := by rw [Array.length_toList]; rfl
      unfold txt
      rw [e, dec_enc]
    case pointer a => cases a <;> simp at h; subst h; simp [SV.den]
    case slice a l c =>
      clear ih
      cases a with
      | some a => simp at h
      | none =>
        cases l with
        | succ l => simp at h
        | zero =>
          cases c with
          | succ c => simp at h
          | zero => simp only [Option.some.injEq] at h; subst h; simp [SV.den]
    case map r => cases r <;> simp at h; subst h; simp [SV.den]
    case nilFunc => cases h; simp [SV.den]
    case nilIface => cases h; simp [SV.den]
    case func fn f c =>
      split at h
      · rename_i x y hx hy; cases h
        simp [SV.den, optL_den ih hx, optL_den ih hy]
      · cases h
    case iface t x =>
      split at h
      · rename_i y hy; cases h
        simp [SV.den, ih _ _ hy]
      · cases h
    case agg cs =>
      split at h
      · rename_i y hy; cases h
        simp [SV.den, optL_den ih hy]
      · cases h
    case tuple cs =>
      split at h
      · rename_i y hy; cases h
        simp [SV.den, optL_den ih hy]
      · cases h
    all_goals cases h

/-! ### temporaries -/
structure SAct where
  tm : T SV := .nil
  n : Nat := 0
structure ActRel (E : Env) (a : SAct) (A : Act) : Prop where
  size : A.tmps.size = a.n
  tm : ∀ i v, a.tm.get i = some v → ∃ V, v.den E = some V ∧ A.tmps[i]? = some V
  defers : A.defers = []
theorem ActRel.mono {E F : Env} (le : E.Le F) {a : SAct} {A : Act} (h : ActRel E a A) : ActRel F a A :=
  ⟨h.size, fun i v hv => by obtain ⟨V, h1, h2⟩ := h.tm i v hv; exact ⟨V, SV.mono le h1, h2⟩, h.defers⟩
def SAct.ev (a : SAct) : Operand → Option SV
  | .tmp t => a.tm.get t
  | .const v => ofV 8 v
  | .global _ => none
  | .func f => some (.func (.func f) [] [])
theorem ev_ok {E : Env} {a : SAct} {A : Act} (h : ActRel E a A) {x : Operand} {v : SV} (hx : a.ev x = some v) : v.den E = some (A.eval x) := by
  cases x with
  | tmp t =>
    obtain ⟨V, h1, h2⟩ := h.tm t v hx
    rw [h1]
    simp [Act.eval, h2]
  | const c => exact ofV_den _ _ _ hx
  | global g => cases hx
  | func f => cases hx; simp [SV.den, SV.denL, Act.eval]
def SAct.put : SAct → Option Tmp → SV → Option SAct
  | a, none, _ => some a
  | ⟨tm, n⟩, some i, v => match Nat.blt i n with
    | true => some ⟨tm.put i v, n⟩
    | false => none
theorem put_ok {E : Env} {a a' : SAct} {A : Act} (h : ActRel E a A) {d : Option Tmp} {v : SV} (hp : a.put d v = some a') {V : Value} (hv : v.den E = some V) : ActRel E a' (A.put d V) := by
  unfold SAct.put at hp
  split at hp
  · cases hp; exact h
  · rename_i tm n i
    split at hp
    · rename_i hlt
      cases hp
      have hlt' : i < n := by simpa [Nat.blt_eq] using hlt
      have hs : A.tmps.size = n := h.size
      refine ⟨by simp [Act.put, h.size], fun j u hj => ?_, h.defers⟩
      simp only [T.get_put] at hj
      simp only [Act.put]
      split at hj
      · rename_i e; subst e
        cases hj
        exact ⟨V, hv, by rw [Array.getElem?_setIfInBounds_self_of_lt (by rw [hs]; exact hlt')]⟩
      · rename_i e
        obtain ⟨U, h1, h2⟩ := h.tm j u hj
        exact ⟨U, h1, by rw [Array.getElem?_setIfInBounds_ne e]; exact h2⟩
    · cases hp

/-! ### types -/
def aggD : TypeDesc → Bool
  | .struct _ | .array _ _ => true
  | _ => false
def szOf (P : Program) (t : TypeId) : Option Nat :=
  match P.info? t with
  | some i => some i.size
  | none => none
def bytesOf (P : Program) (t : TypeId) : Option Nat :=
  match P.info? t with
  | some i => some i.bytes
  | none => none
def xzero (P : Program) (t : TypeId) : Option SV :=
  match P.info? t with
  | some i => match i.zero with
    | some z => ofV 8 z
    | none => none
  | none => none
section
variable {P : Program} {E : Env} {h : T SObj} {w : World} {t : TypeId}
theorem run_info {i : TypeInfo} (hi : P.info? t = some i) (w : World) : (typeInfo t).run P w = .ok i w := by
  simp [typeInfo, hi]
theorem run_size {n : Nat} (hn : szOf P t = some n) (w : World) : (sizeOf t).run P w = .ok n w := by
  unfold szOf at hn
  split at hn
  · rename_i i hi; cases hn; simp [sizeOf, run_info hi]
  · cases hn
theorem run_zero {z : SV} (hz : xzero P t = some z) : ∃ Z, z.den E = some Z ∧ ∀ w, (zeroValue t).run P w = .ok Z w := by
  unfold xzero at hz
  split at hz
  · rename_i i hi
    split at hz
    · rename_i Z hZ
      exact ⟨Z, ofV_den _ _ _ hz, fun w => by simp [zeroValue, run_info hi, hZ]⟩
    · cases hz
  · cases hz
theorem run_agg {d : TypeDesc} (hd : P.underlying t = some d) (w : World) : (isAgg t).run P w = .ok (aggD d) w := by
  unfold isAgg
  rw [Sem.run_bind, run_underlying hd w]
  cases d <;> rfl

/-! ### parts and loads -/
def xpart (P : Program) (t : TypeId) (cs : List SV) (off : Nat) : Option SV :=
  match P.underlying t with
  | some d => match aggD d with
    | true => match szOf P t with
      | some n => some (.agg ((cs.drop off).take n))
      | none => none
    | false => cs[off]?
  | none => none
theorem xpart_ok {cs : List SV} {off : Nat} {v : SV} (hv : xpart P t cs off = some v) {L : List Value} (hL : SV.denL E cs = some L) (w : World) : ∃ V, v.den E = some V ∧ (part t L.toArray off).run P w = .ok V w := by
  unfold xpart at hv
  split at hv
  · rename_i d hd
    split at hv
    · rename_i ha
      split at hv
      · rename_i n hn
        cases hv
        refine ⟨.agg ((L.drop off).take n).toArray, by simp [SV.den, denL_take n (denL_drop off hL)], ?_⟩
        simp [part, run_agg hd, ha, run_size hn, List.extract_eq_take_drop]
      · cases hv
    · rename_i ha
      obtain ⟨V, h1, h2⟩ := denL_get hL hv
      exact ⟨V, h2, by simp [part, run_agg hd, ha, h1]⟩
  · cases hv
def xload (P : Program) (h : T SObj) (t : TypeId) : SV → Option SV
  | .ptr id off => match P.underlying t with
    | some d => match aggD d with
      | true => match szOf P t with
        | some n => match readCells h id off n with
          | some vs => some (.agg vs)
          | none => none
        | none => none
      | false => match readCells h id off 1 with
        | some [v] => some v
        | _ => none
    | none => none
  | _ => none
theorem xload_ok (M : Mem E h w) {a v : SV} (hv : xload P h t a = some v) {A : Value} (hA : a.den E = some A) : ∃ V, v.den E = some V ∧ (Instr.loadAt t A).run P w = .ok V w := by
  unfold xload at hv
  split at hv
  · rename_i id off
    obtain ⟨b, base, m, hb, rfl⟩ := den_ptr hA
    split at hv
    · rename_i d hd
      split at hv
      · rename_i ha
        split at hv
        · rename_i n hn
          split at hv
          · rename_i vs hvs
            cases hv
            obtain ⟨L, h1, h2, h3⟩ := run_loadCells_at (P := P) M hvs hb
            exact ⟨.agg L.toArray, by simp [SV.den, h1], by simp [Instr.loadAt, Instr.sureAddr, loadVar, run_agg hd, ha, run_size hn, h3]⟩
          · cases hv
        · cases hv
      · rename_i ha
        split at hv
        · rename_i u hvs
          cases hv
          obtain ⟨L, h1, h2, h3⟩ := read_cell M hvs hb
          obtain ⟨V, Vs, rfl, h4, h5⟩ := denL_cons_inv h1
          have h6 := h3 0 V (by simp)
          have hadd : (⟨b, base + off, none⟩ : Addr).add 0 = ⟨b, base + off, none⟩ := by simp [Addr.add]
          rw [hadd] at h6
          exact ⟨V, h4, by simp [Instr.loadAt, Instr.sureAddr, loadVar, run_agg hd, ha, h6]⟩
        · cases hv
    · cases hv
  · cases hv

/-! ### places -/
def xfieldAddr (P : Program) (s : TypeId) (x : SV) (f : Nat) : Option SV :=
  match x with
  | .ptr id off => match P.underlying s with
    | some (.struct fields) => match fields[f]? with
      | some fd => match szOf P fd.type with
        | some (n + 1) => some (.ptr id (off + fd.offset))
        | _ => none
      | none => none
    | _ => none
  | _ => none
theorem xfieldAddr_ok {s : TypeId} {x v : SV} {f : Nat} (hv : xfieldAddr P s x f = some v) {X : Value} (hX : x.den E = some X) (w : World) : ∃ V, v.den E = some V ∧ (Instr.fieldAt s X f).run P w = .ok V w := by
  unfold xfieldAddr at hv
  split at hv
  · rename_i id off
    obtain ⟨b, base, m, hb, rfl⟩ := den_ptr hX
    split at hv
    · rename_i fields hu
      split at hv
      · rename_i fd hf
        split at hv
        · rename_i n hn
          cases hv
          refine ⟨.pointer (some ⟨b, base + (off + fd.offset), none⟩), by simp [SV.den, hb], ?_⟩
          have hadd : (⟨b, base + off, none⟩ : Addr).add fd.offset = ⟨b, base + (off + fd.offset), none⟩ := by
            unfold Addr.add
            split
            · rename_i e; simp [e]
            · simp; omega
          simp [Instr.fieldAt, run_underlying hu, hf, Instr.sureAddr, fieldPlace, run_size hn, hadd]
        · cases hv
      · cases hv
    · cases hv
  · cases hv
def xfield (P : Program) (t : TypeId) (x : SV) (f : Nat) : Option SV :=
  match x with
  | .agg cs => match P.underlying t with
    | some (.struct fields) => match fields[f]? with
      | some fd => xpart P fd.type cs fd.offset
      | none => none
    | _ => none
  | _ => none
theorem xfield_ok {s : TypeId} {x v : SV} {f : Nat} (hv : xfield P s x f = some v) {X : Value} (hX : x.den E = some X) (w : World) : ∃ V, v.den E = some V ∧ (Instr.field s X f).run P w = .ok V w := by
  unfold xfield at hv
  split at hv
  · rename_i cs
    obtain ⟨L, hL, rfl⟩ := den_agg hX
    split at hv
    · rename_i fields hu
      split at hv
      · rename_i fd hf
        obtain ⟨V, h1, h2⟩ := xpart_ok hv hL w
        exact ⟨V, h1, by simp [Instr.field, run_underlying hu, hf, asAgg, h2]⟩
      · cases hv
    · cases hv
  · cases hv
def natOf : IX → Option Nat
  | .lit (.ofNat n) => some n
  | _ => none
theorem natOf_ok {x : IX} {n : Nat} (h : natOf x = some n) : x.den E = some (n : Int) := by
  unfold natOf at h
  split at h
  · cases h; rfl
  · cases h
def xindexAddr (P : Program) (t : TypeId) (x ix : SV) : Option SV :=
  match ix with
  | .int k i => match natOf i with
    | some i => match P.underlying t with
      | some (.array len elem) => match x with
        | .ptr id off => match Nat.blt i len with
          | true => match szOf P elem with
            | some n => some (.ptr id (off + i * n))
            | none => none
          | false => none
        | _ => none
      | some (.slice elem) => match x with
        | .slc id off len cap es => match Nat.blt i len with
          | true => match szOf P elem with
            | some n => some (.ptr id (off + i * n))
            | none => none
          | false => none
        | _ => none
      | _ => none
    | none => none
  | _ => none
theorem add_at (b o n : Nat) : (⟨b, o, none⟩ : Addr).add n = ⟨b, o + n, none⟩ := by
  unfold Addr.add
  split
  · rename_i e; simp [e]
  · rfl
theorem xindexAddr_ok {x ix v : SV} (hv : xindexAddr P t x ix = some v) {X I : Value} (hX : x.den E = some X) (hI : ix.den E = some I) (w : World) : ∃ V, v.den E = some V ∧ (Instr.indexAt t X I).run P w = .ok V w := by
  unfold xindexAddr at hv
  split at hv
  · rename_i k i0
    split at hv
    · rename_i i hi
      obtain ⟨z, hz, rfl⟩ := den_int hI
      have := natOf_ok (E := E) hi
      rw [hz] at this
      cases this
      split at hv
      · rename_i len elem hu
        split at hv
        · rename_i id off
          obtain ⟨b, base, m, hb, rfl⟩ := den_ptr hX
          split at hv
          · rename_i hlt
            split at hv
            · rename_i n hn
              cases hv
              have hlt' : i < len := by simpa [Nat.blt_eq] using hlt
              refine ⟨.pointer (some ⟨b, base + (off + i * n), none⟩), by simp [SV.den, hb], ?_⟩
              simp [Instr.indexAt, asIntOf, run_underlying hu, Instr.sureAddr, run_size hn, hlt', add_at, Nat.add_assoc]
            · cases hv
          · cases hv
        · cases hv
      · rename_i elem hu
        split at hv
        · rename_i id off len cap es
          obtain ⟨b, base, m, hb, rfl⟩ := den_slc hX
          split at hv
          · rename_i hlt
            split at hv
            · rename_i n hn
              cases hv
              have hlt' : i < len := by simpa [Nat.blt_eq] using hlt
              refine ⟨.pointer (some ⟨b, base + (off + i * n), none⟩), by simp [SV.den, hb], ?_⟩
              simp [Instr.indexAt, asIntOf, run_underlying hu, run_size hn, hlt', add_at, Nat.add_assoc]
            · cases hv
          · cases hv
        · cases hv
      · cases hv
    · cases hv
  · cases hv
def xindex (P : Program) (t : TypeId) (x ix : SV) : Option SV :=
  match ix with
  | .int k i => match natOf i with
    | some i => match P.underlying t with
      | some (.array len elem) => match x with
        | .agg cs => match Nat.blt i len with
          | true => match szOf P elem with
            | some n => xpart P elem cs (i * n)
            | none => none
          | false => none
        | _ => none
      | some .string => match x with
        | .str (.lit n c) => match Nat.blt i n with
          | true => some (.int .u8 (.lit (.ofNat (c / 256 ^ i % 256))))
          | false => none
        | _ => none
      | _ => none
    | none => none
  | _ => none
theorem xindex_ok {x ix v : SV} (hv : xindex P t x ix = some v) {X I : Value} (hX : x.den E = some X) (hI : ix.den E = some I) (w : World) : ∃ V, v.den E = some V ∧ (Instr.index t X I).run P w = .ok V w := by
  unfold xindex at hv
  split at hv
  · rename_i k i0
    split at hv
    · rename_i i hi
      obtain ⟨z, hz, rfl⟩ := den_int hI
      have := natOf_ok (E := E) hi
      rw [hz] at this
      cases this
      split at hv
      · rename_i len elem hu
        split at hv
        · rename_i cs
          obtain ⟨L, hL, rfl⟩ := den_agg hX
          split at hv
          · rename_i hlt
            split at hv
            · rename_i n hn
              have hlt' : i < len := by simpa [Nat.blt_eq] using hlt
              obtain ⟨V, h1, h2⟩ := xpart_ok hv hL w
              exact ⟨V, h1, by simp [Instr.index, asIntOf, run_underlying hu, run_size hn, hlt', h2]⟩
            · cases hv
          · cases hv
        · cases hv
      · rename_i hu
        split at hv
        · rename_i n c
          obtain ⟨s, hs, rfl⟩ := den_str hX
          simp only [SX.den, Option.some.injEq] at hs
          subst hs
          split at hv
          · rename_i hlt
            cases hv
            have hlt' : i < n := by simpa [Nat.blt_eq] using hlt
            refine ⟨.int .u8 ((c / 256 ^ i % 256 : Nat) : Int), by simp [SV.den, IX.den], ?_⟩
            have hg : (txt n c)[i]? = some (UInt8.ofNat (c / 256 ^ i % 256)) := by
              have h1 := dec_get n c i hlt'
              have h2 : i < (txt n c).size := by simpa using hlt'
              rw [getElem?_pos (txt n c) i h2]
              congr 1
              have h3 : (dec n c)[i]'(by simpa using hlt') = UInt8.ofNat (c / 256 ^ i % 256) := by
                have := (List.getElem?_eq_some_iff.1 h1).2
                exact this
              rw [← h3]
              rfl
            have hm : (UInt8.ofNat (c / 256 ^ i % 256)).toNat = c / 256 ^ i % 256 := by simp
            simp [Instr.index, asIntOf, run_underlying hu, hg]
          · cases hv
        · cases hv
      · cases hv
    · cases hv
  · cases hv
end
end Go.Sx
