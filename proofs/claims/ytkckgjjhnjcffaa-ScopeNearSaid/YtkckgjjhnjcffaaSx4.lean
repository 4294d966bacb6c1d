/-
  A symbolic run of Go functions by computation (part 4): types, parts, loads, places, sums, comparisons.
-/
import Derived.Test.YtkckgjjhnjcffaaSx3
import Derived.Laws.StructEq
namespace Go.Sx
set_option linter.unusedVariables false
set_option linter.unusedSimpArgs false

/-! ### what a value may stand for -/
section
variable {E : Env} {V : Value}
theorem den_bool {b : BX} (h : (SV.bool b).den E = some V) : ∃ x, b.den E = some x ∧ V = .bool x := by
  simp only [SV.den] at h
  split at h
  · rename_i x hx; cases h; exact ⟨x, hx, rfl⟩
  · cases h
theorem den_int {k : IntKind} {n : IX} (h : (SV.int k n).den E = some V) : ∃ x, n.den E = some x ∧ V = .int k x := by
  simp only [SV.den] at h
  split at h
  · rename_i x hx; cases h; exact ⟨x, hx, rfl⟩
  · cases h
theorem den_lit {k : IntKind} {n : Int} (h : (SV.int k (.lit n)).den E = some V) : V = .int k n := by
  obtain ⟨x, hx, rfl⟩ := den_int h
  simp only [IX.den, Option.some.injEq] at hx
  rw [hx]
theorem den_str {s : SX} (h : (SV.str s).den E = some V) : ∃ x, s.den E = some x ∧ V = .string x := by
  simp only [SV.den] at h
  split at h
  · rename_i x hx; cases h; exact ⟨x, hx, rfl⟩
  · cases h
theorem den_ptr {id off : Nat} (h : (SV.ptr id off).den E = some V) : ∃ b base n, E.blk id = some (b, base, n) ∧ V = .pointer (some ⟨b, base + off, none⟩) := by
  simp only [SV.den] at h
  split at h
  · rename_i b base n hx; cases h; exact ⟨b, base, n, hx, rfl⟩
  · cases h
def capOf (cap : Option Nat) (n off es : Nat) : Nat := match cap with | some c => c | none => (n - off) / es
theorem den_slc {id off len es : Nat} {cap : Option Nat} (h : (SV.slc id off len cap es).den E = some V) : ∃ b base n, E.blk id = some (b, base, n) ∧ V = .slice (some ⟨b, base + off, none⟩) len (capOf cap n off es) := by
  simp only [SV.den] at h
  split at h
  · rename_i b base n hx
    split at h <;> cases h <;> exact ⟨b, base, n, hx, rfl⟩
  · cases h
theorem den_slc_mk {id off len es b base n : Nat} {cap : Option Nat} (h : E.blk id = some (b, base, n)) : (SV.slc id off len cap es).den E = some (.slice (some ⟨b, base + off, none⟩) len (capOf cap n off es)) := by
  simp only [SV.den, h]
  cases cap <;> rfl
theorem den_map {id : Nat} (h : (SV.map id).den E = some V) : ∃ b base n, E.blk id = some (b, base, n) ∧ V = .map (some b) := by
  simp only [SV.den] at h
  split at h
  · rename_i b base n hx; cases h; exact ⟨b, base, n, hx, rfl⟩
  · cases h
theorem den_func {fn : Fn} {xs ys : List SV} (h : (SV.func fn xs ys).den E = some V) : ∃ L M, SV.denL E xs = some L ∧ SV.denL E ys = some M ∧ V = .func fn L.toArray M.toArray := by
  simp only [SV.den] at h
  split at h
  · rename_i x y hx hy; cases h; exact ⟨x, y, hx, hy, rfl⟩
  · cases h
theorem den_iface {t : TypeId} {v : SV} (h : (SV.iface t v).den E = some V) : ∃ x, v.den E = some x ∧ V = .iface t x := by
  simp only [SV.den] at h
  split at h
  · rename_i x hx; cases h; exact ⟨x, hx, rfl⟩
  · cases h
theorem den_agg {xs : List SV} (h : (SV.agg xs).den E = some V) : ∃ L, SV.denL E xs = some L ∧ V = .agg L.toArray := by
  simp only [SV.den] at h
  split at h
  · rename_i x hx; cases h; exact ⟨x, hx, rfl⟩
  · cases h
theorem den_tup {xs : List SV} (h : (SV.tup xs).den E = some V) : ∃ L, SV.denL E xs = some L ∧ V = .tuple L.toArray := by
  simp only [SV.den] at h
  split at h
  · rename_i x hx; cases h; exact ⟨x, hx, rfl⟩
  · cases h
theorem den_nil0 : (SV.nilp.den E = some V → V = .pointer none) ∧ (SV.nils.den E = some V → V = .slice none 0 0) ∧ (SV.nilm.den E = some V → V = .map none) ∧ (SV.nilf.den E = some V → V = .nilFunc) ∧ (SV.nili.den E = some V → V = .nilIface) := by
  simp only [SV.den, Option.some.injEq]
  exact ⟨Eq.symm, Eq.symm, Eq.symm, Eq.symm, Eq.symm⟩
end

/-! ### constants -/
def optL {α β : Type} (f : α → Option β) : List α → Option (List β)
  | [] => some []
  | a :: l => match f a with
    | some b => match optL f l with
      | some m => some (b :: m)
      | none => none
    | none => none
def ofV : Nat → Value → Option SV
  | 0, _ => none
  | n + 1, v =>
    match v with
    | .bool b => some (.bool (.lit b))
    | .int k z => some (.int k (.lit z))
    | .string s => some (.str (.lit s.size (enc s.data.toList)))
    | .pointer none => some .nilp
    | .slice none 0 0 => some .nils
    | .map none => some .nilm
    | .nilFunc => some .nilf
    | .nilIface => some .nili
    | .func fn f c => match optL (ofV n) f.toList, optL (ofV n) c.toList with
      | some x, some y => some (.func fn x y)
      | _, _ => none
    | .iface t x => match ofV n x with | some y => some (.iface t y) | none => none
    | .agg cs => match optL (ofV n) cs.toList with | some x => some (.agg x) | none => none
    | .tuple cs => match optL (ofV n) cs.toList with | some x => some (.tup x) | none => none
    | _ => none
theorem optL_den {E : Env} {f : Value → Option SV} (hf : ∀ v s, f v = some s → s.den E = some v) : ∀ {l : List Value} {m : List SV}, optL f l = some m → SV.denL E m = some l
  | [], m, h => by simp [optL] at h; subst h; simp [SV.denL]
  | a :: l, m, h => by
    simp only [optL] at h
    split at h
    · rename_i b hb
      split at h
      · rename_i c hc; cases h
        exact denL_cons (hf _ _ hb) (optL_den hf hc)
      · cases h
    · cases h
theorem ofV_den {E : Env} : ∀ (n : Nat) (v : Value) (s : SV), ofV n v = some s → s.den E = some v
  | 0, v, s, h => by simp [ofV] at h
  | n + 1, v, s, h => by
    have ih := ofV_den (E := E) n
    cases v <;> simp only [ofV] at h
    case bool b => cases h; simp [SV.den, BX.den]
    case int k z => cases h; simp [SV.den, IX.den]
    case string b =>
      cases h
      simp only [SV.den, SX.den]
      congr 1
      congr 1
      have e : b.size = b.data.toList.length := by rw [Array.length_toList]; rfl
      unfold txt
      rw [e, dec_enc]
    case pointer a => cases a <;> simp at h; subst h; simp [SV.den]
    case slice a l c =>
      clear ih
      cases a with
      | some a => simp at h
      | none =>
        cases l with
        | succ l => simp at h
        | zero =>
          cases c with
          | succ c => simp at h
          | zero => simp only [Option.some.injEq] at h; subst h; simp [SV.den]
    case map r => cases r <;> simp at h; subst h; simp [SV.den]
    case nilFunc => cases h; simp [SV.den]
    case nilIface => cases h; simp [SV.den]
    case func fn f c =>
      split at h
      · rename_i x y hx hy; cases h
        simp [SV.den, optL_den ih hx, optL_den ih hy]
      · cases h
    case iface t x =>
      split at h
      · rename_i y hy; cases h
        simp [SV.den, ih _ _ hy]
      · cases h
    case agg cs =>
      split at h
      · rename_i y hy; cases h
        simp [SV.den, optL_den ih hy]
      · cases h
    case tuple cs =>
      split at h
      · rename_i y hy; cases h
        simp [SV.den, optL_den ih hy]
      · cases h
    all_goals cases h

/-! ### temporaries: four times four by four near at hand, the rest in a map -/
structure F4 (α : Type) where
  a : α
  b : α
  c : α
  d : α
def bitA (i : Nat) : Bool := Nat.beq (Nat.mod i 2) 0
def bitB (i : Nat) : Bool := Nat.beq (Nat.mod (Nat.div i 2) 2) 0
theorem bitA_iff {i j : Nat} : bitA i = bitA j ↔ i % 2 = j % 2 := by
  have hi : bitA i = decide (i % 2 = 0) := by simp only [bitA]; show Nat.beq (i % 2) 0 = _; rw [Bool.eq_iff_iff]; simp
  have hj : bitA j = decide (j % 2 = 0) := by simp only [bitA]; show Nat.beq (j % 2) 0 = _; rw [Bool.eq_iff_iff]; simp
  rw [hi, hj, Bool.eq_iff_iff]
  simp only [decide_eq_true_eq]
  omega
theorem bitB_iff {i j : Nat} : bitB i = bitB j ↔ i / 2 % 2 = j / 2 % 2 := @bitA_iff (i / 2) (j / 2)
theorem bits_iff {i j : Nat} : (bitA i = bitA j ∧ bitB i = bitB j) ↔ i % 4 = j % 4 := by rw [bitA_iff, bitB_iff]; omega
def F4.get {α : Type} (t : F4 α) (i : Nat) : α := @Bool.casesOn (fun _ => α) (bitB i) (@Bool.casesOn (fun _ => α) (bitA i) t.d t.c) (@Bool.casesOn (fun _ => α) (bitA i) t.b t.a)
def F4.set {α : Type} (t : F4 α) (i : Nat) (x : α) : F4 α := @Bool.casesOn (fun _ => F4 α) (bitB i) (@Bool.casesOn (fun _ => F4 α) (bitA i) ⟨t.a, t.b, t.c, x⟩ ⟨t.a, t.b, x, t.d⟩) (@Bool.casesOn (fun _ => F4 α) (bitA i) ⟨t.a, x, t.c, t.d⟩ ⟨x, t.b, t.c, t.d⟩)
theorem F4.get_set {α : Type} (t : F4 α) (i j : Nat) (x : α) : (t.set i x).get j = if i % 4 = j % 4 then x else t.get j := by
  have h := @bits_iff i j
  by_cases e : i % 4 = j % 4
  · rw [if_pos e]
    obtain ⟨h1, h2⟩ := h.2 e
    simp only [F4.get, F4.set, ← h1, ← h2]
    cases bitA i <;> cases bitB i <;> rfl
  · rw [if_neg e]
    have hn : ¬ (bitA i = bitA j ∧ bitB i = bitB j) := fun x => e (h.1 x)
    simp only [F4.get, F4.set]
    cases h1 : bitA i <;> cases h2 : bitB i <;> cases h3 : bitA j <;> cases h4 : bitB j <;> first | rfl | (simp [h1, h2, h3, h4] at hn; done)
def F4.all4 {α : Type} (f : α → α → Bool) (t u : F4 α) : Bool := f t.a u.a && (f t.b u.b && (f t.c u.c && f t.d u.d))
theorem F4.all4_eq {α : Type} {f : α → α → Bool} (hf : ∀ a b, f a b = true → a = b) {t u : F4 α} (h : F4.all4 f t u = true) : t = u := by
  simp only [F4.all4, Bool.and_eq_true] at h
  cases t; cases u
  simp only at h
  rw [hf _ _ h.1, hf _ _ h.2.1, hf _ _ h.2.2.1, hf _ _ h.2.2.2]
def optBeq {α : Type} (f : α → α → Bool) : Option α → Option α → Bool
  | none, none => true
  | some a, some b => f a b
  | _, _ => false
theorem optBeq_eq {α : Type} {f : α → α → Bool} (hf : ∀ a b, f a b = true → a = b) : ∀ (a b : Option α), optBeq f a b = true → a = b
  | none, none, _ => rfl
  | some a, some b, h => by rw [hf a b h]
  | some a, none, h => by cases h
  | none, some a, h => by cases h
abbrev F16 := F4 (F4 (Option SV))
structure Frame where
  f0 : F16
  f1 : F16
  f2 : F16
  f3 : F16
  rest : T SV
def none4 : F4 (Option SV) := ⟨none, none, none, none⟩
def none16 : F16 := ⟨none4, none4, none4, none4⟩
def Frame.empty : Frame := ⟨none16, none16, none16, none16, .nil⟩
def Frame.part (f : Frame) (i : Nat) : F16 := (F4.mk f.f0 f.f1 f.f2 f.f3).get i
def Frame.setPart (f : Frame) (i : Nat) (x : F16) : Frame := @Bool.casesOn (fun _ => Frame) (bitB i) (@Bool.casesOn (fun _ => Frame) (bitA i) ⟨f.f0, f.f1, f.f2, x, f.rest⟩ ⟨f.f0, f.f1, x, f.f3, f.rest⟩) (@Bool.casesOn (fun _ => Frame) (bitA i) ⟨f.f0, x, f.f2, f.f3, f.rest⟩ ⟨x, f.f1, f.f2, f.f3, f.rest⟩)
theorem Frame.part_setPart (f : Frame) (i j : Nat) (x : F16) : (f.setPart i x).part j = if i % 4 = j % 4 then x else f.part j := by
  rw [Frame.part, Frame.part, ← F4.get_set]
  simp only [Frame.setPart, F4.set]
  cases bitA i <;> cases bitB i <;> rfl
theorem Frame.rest_setPart (f : Frame) (i : Nat) (x : F16) : (f.setPart i x).rest = f.rest := by
  simp only [Frame.setPart]
  cases bitA i <;> cases bitB i <;> rfl
def Frame.get (f : Frame) (i : Nat) : Option SV := @Bool.casesOn (fun _ => Option SV) (Nat.blt i 64) (f.rest.get (Nat.sub i 64)) (((f.part (Nat.div i 16)).get (Nat.div i 4)).get i)
def Frame.put (f : Frame) (i : Nat) (v : SV) : Frame := @Bool.casesOn (fun _ => Frame) (Nat.blt i 64) ⟨f.f0, f.f1, f.f2, f.f3, f.rest.put (Nat.sub i 64) v⟩
  (f.setPart (Nat.div i 16) ((f.part (Nat.div i 16)).set (Nat.div i 4) (((f.part (Nat.div i 16)).get (Nat.div i 4)).set i (some v))))
theorem Frame.get_put (f : Frame) (i : Nat) (v : SV) (j : Nat) : (f.put i v).get j = if i = j then some v else f.get j := by
  have hb : ∀ n, Nat.blt n 64 = decide (n < 64) := fun n => by rw [Bool.eq_iff_iff, Nat.blt_eq, decide_eq_true_eq]
  by_cases hi : i < 64 <;> by_cases hj : j < 64
  · have e1 : Nat.blt i 64 = true := by rw [hb]; simpa using hi
    have e2 : Nat.blt j 64 = true := by rw [hb]; simpa using hj
    simp only [Frame.get, Frame.put, e1, e2]
    have ed : ∀ a b : Nat, Nat.div a b = a / b := fun _ _ => rfl
    simp only [ed]
    rw [Frame.part_setPart]
    by_cases h1 : i / 16 % 4 = j / 16 % 4
    · rw [if_pos h1, F4.get_set]
      have e3 : f.part (i / 16) = f.part (j / 16) := by
        have := (@bits_iff (i / 16) (j / 16)).2 h1
        simp only [Frame.part, F4.get, this.1, this.2]
      by_cases h2 : i / 4 % 4 = j / 4 % 4
      · have e4 : ∀ t : F16, t.get (i / 4) = t.get (j / 4) := fun t => by
          have := (@bits_iff (i / 4) (j / 4)).2 h2
          simp only [F4.get, this.1, this.2]
        rw [if_pos h2, F4.get_set]
        by_cases h3 : i % 4 = j % 4
        · have : i = j := by omega
          rw [if_pos h3, if_pos this]
        · have : ¬ i = j := fun e => h3 (by rw [e])
          rw [if_neg h3, if_neg this]
          show ((f.part (i / 16)).get (i / 4)).get j = ((f.part (j / 16)).get (j / 4)).get j
          rw [e3, e4]
      · have : ¬ i = j := fun e => h2 (by rw [e])
        rw [if_neg h2, if_neg this]
        show ((f.part (i / 16)).get (j / 4)).get j = ((f.part (j / 16)).get (j / 4)).get j
        rw [e3]
    · have : ¬ i = j := fun e => h1 (by rw [e])
      rw [if_neg h1, if_neg this]
  · have e1 : Nat.blt i 64 = true := by rw [hb]; simpa using hi
    have e2 : Nat.blt j 64 = false := by rw [hb]; simpa using hj
    have : ¬ i = j := fun e => hj (by omega)
    simp only [Frame.get, Frame.put, e1, e2, if_neg this]
    show (Frame.setPart _ _ _).rest.get _ = _
    rw [Frame.rest_setPart]
  · have e1 : Nat.blt i 64 = false := by rw [hb]; simpa using hi
    have e2 : Nat.blt j 64 = true := by rw [hb]; simpa using hj
    have : ¬ i = j := fun e => hi (by omega)
    simp only [Frame.get, Frame.put, e1, e2, if_neg this]
    rfl
  · have e1 : Nat.blt i 64 = false := by rw [hb]; simpa using hi
    have e2 : Nat.blt j 64 = false := by rw [hb]; simpa using hj
    simp only [Frame.get, Frame.put, e1, e2]
    show (T.put _ (i - 64) v).get (j - 64) = _
    rw [T.get_put]
    by_cases h : i = j
    · rw [if_pos h, if_pos (by rw [h])]
    · rw [if_neg h, if_neg (by omega)]
      rfl
theorem Frame.get_empty (i : Nat) : Frame.empty.get i = none := by
  simp only [Frame.get]
  cases Nat.blt i 64
  · rfl
  · show ((Frame.empty.part (i / 16)).get (i / 4)).get i = none
    simp only [Frame.part, F4.get]
    cases bitA (i / 16) <;> cases bitB (i / 16) <;> cases bitA (i / 4) <;> cases bitB (i / 4) <;> cases bitA i <;> cases bitB i <;> rfl
def Frame.beq (f g : Frame) : Bool := F4.all4 (F4.all4 (optBeq SV.beq)) f.f0 g.f0 && (F4.all4 (F4.all4 (optBeq SV.beq)) f.f1 g.f1 && (F4.all4 (F4.all4 (optBeq SV.beq)) f.f2 g.f2 && (F4.all4 (F4.all4 (optBeq SV.beq)) f.f3 g.f3 && f.rest.beq SV.beq g.rest)))
theorem Frame.beq_eq {f g : Frame} (h : f.beq g = true) : f = g := by
  simp only [Frame.beq, Bool.and_eq_true] at h
  have k : ∀ a b : F16, F4.all4 (F4.all4 (optBeq SV.beq)) a b = true → a = b := fun a b h => F4.all4_eq (fun a b h => F4.all4_eq (optBeq_eq SV.beq_eq) h) h
  cases f; cases g
  simp only at h
  rw [k _ _ h.1, k _ _ h.2.1, k _ _ h.2.2.1, k _ _ h.2.2.2.1, T.beq_eq SV.beq_eq _ _ h.2.2.2.2]
structure SAct where
  tm : Frame := .empty
  n : Nat := 0
structure ActRel (E : Env) (a : SAct) (A : Act) : Prop where
  size : A.tmps.size = a.n
  tm : ∀ i v, a.tm.get i = some v → ∃ V, v.den E = some V ∧ A.tmps[i]? = some V
  defers : A.defers = []
theorem ActRel.mono {E F : Env} (le : E.Le F) {a : SAct} {A : Act} (h : ActRel E a A) : ActRel F a A :=
  ⟨h.size, fun i v hv => by obtain ⟨V, h1, h2⟩ := h.tm i v hv; exact ⟨V, SV.mono le h1, h2⟩, h.defers⟩
def SAct.ev (a : SAct) : Operand → Option SV
  | .tmp t => a.tm.get t
  | .const v => ofV 8 v
  | .global _ => none
  | .func f => some (.func (.func f) [] [])
theorem ev_ok {E : Env} {a : SAct} {A : Act} (h : ActRel E a A) {x : Operand} {v : SV} (hx : a.ev x = some v) : v.den E = some (A.eval x) := by
  cases x with
  | tmp t =>
    obtain ⟨V, h1, h2⟩ := h.tm t v hx
    rw [h1]
    simp [Act.eval, h2]
  | const c => exact ofV_den _ _ _ hx
  | global g => cases hx
  | func f => cases hx; simp [SV.den, SV.denL, Act.eval]
def SAct.put : SAct → Option Tmp → SV → Option SAct
  | a, none, _ => some a
  | ⟨tm, n⟩, some i, v => match Nat.blt i n with
    | true => some ⟨tm.put i v, n⟩
    | false => none
theorem put_ok {E : Env} {a a' : SAct} {A : Act} (h : ActRel E a A) {d : Option Tmp} {v : SV} (hp : a.put d v = some a') {V : Value} (hv : v.den E = some V) : ActRel E a' (A.put d V) := by
  unfold SAct.put at hp
  split at hp
  · cases hp; exact h
  · rename_i tm n i
    split at hp
    · rename_i hlt
      cases hp
      have hlt' : i < n := by simpa [Nat.blt_eq] using hlt
      have hs : A.tmps.size = n := h.size
      refine ⟨by simp [Act.put, h.size], fun j u hj => ?_, h.defers⟩
      simp only [Frame.get_put] at hj
      simp only [Act.put]
      split at hj
      · rename_i e; subst e
        cases hj
        exact ⟨V, hv, by rw [Array.getElem?_setIfInBounds_self_of_lt (by rw [hs]; exact hlt')]⟩
      · rename_i e
        obtain ⟨U, h1, h2⟩ := h.tm j u hj
        exact ⟨U, h1, by rw [Array.getElem?_setIfInBounds_ne e]; exact h2⟩
    · cases hp

/-! ### types -/
def aggD : TypeDesc → Bool
  | .struct _ | .array _ _ => true
  | _ => false
def szOf (P : Program) (t : TypeId) : Option Nat :=
  match P.info? t with
  | some i => some i.size
  | none => none
def bytesOf (P : Program) (t : TypeId) : Option Nat :=
  match P.info? t with
  | some i => some i.bytes
  | none => none
def xzero (P : Program) (t : TypeId) : Option SV :=
  match P.info? t with
  | some i => match i.zero with
    | some z => ofV 8 z
    | none => none
  | none => none
section
variable {P : Program} {E : Env} {h : T SObj} {w : World} {t : TypeId}
theorem run_info {i : TypeInfo} (hi : P.info? t = some i) (w : World) : (typeInfo t).run P w = .ok i w := by
  simp [typeInfo, hi]
theorem run_size {n : Nat} (hn : szOf P t = some n) (w : World) : (sizeOf t).run P w = .ok n w := by
  unfold szOf at hn
  split at hn
  · rename_i i hi; cases hn; simp [sizeOf, run_info hi]
  · cases hn
theorem run_zero {z : SV} (hz : xzero P t = some z) : ∃ Z, z.den E = some Z ∧ ∀ w, (zeroValue t).run P w = .ok Z w := by
  unfold xzero at hz
  split at hz
  · rename_i i hi
    split at hz
    · rename_i Z hZ
      exact ⟨Z, ofV_den _ _ _ hz, fun w => by simp [zeroValue, run_info hi, hZ]⟩
    · cases hz
  · cases hz
theorem run_agg {d : TypeDesc} (hd : P.underlying t = some d) (w : World) : (isAgg t).run P w = .ok (aggD d) w := by
  unfold isAgg
  rw [Sem.run_bind, run_underlying hd w]
  cases d <;> rfl

/-! ### parts and loads -/
def xpart (P : Program) (t : TypeId) (cs : List SV) (off : Nat) : Option SV :=
  match P.underlying t with
  | some d => match aggD d with
    | true => match szOf P t with
      | some n => some (.agg ((cs.drop off).take n))
      | none => none
    | false => cs[off]?
  | none => none
theorem xpart_ok {cs : List SV} {off : Nat} {v : SV} (hv : xpart P t cs off = some v) {L : List Value} (hL : SV.denL E cs = some L) (w : World) : ∃ V, v.den E = some V ∧ (part t L.toArray off).run P w = .ok V w := by
  unfold xpart at hv
  split at hv
  · rename_i d hd
    split at hv
    · rename_i ha
      split at hv
      · rename_i n hn
        cases hv
        refine ⟨.agg ((L.drop off).take n).toArray, by simp [SV.den, denL_take n (denL_drop off hL)], ?_⟩
        simp [part, run_agg hd, ha, run_size hn, List.extract_eq_take_drop]
      · cases hv
    · rename_i ha
      obtain ⟨V, h1, h2⟩ := denL_get hL hv
      exact ⟨V, h2, by simp [part, run_agg hd, ha, h1]⟩
  · cases hv
def xload (P : Program) (h : T SObj) (t : TypeId) : SV → Option SV
  | .ptr id off => match P.underlying t with
    | some d => match aggD d with
      | true => match szOf P t with
        | some n => match readCells h id off n with
          | some vs => some (.agg vs)
          | none => none
        | none => none
      | false => match readCells h id off 1 with
        | some [v] => some v
        | _ => none
    | none => none
  | _ => none
theorem xload_ok (M : Mem E h w) {a v : SV} (hv : xload P h t a = some v) {A : Value} (hA : a.den E = some A) : ∃ V, v.den E = some V ∧ (Instr.loadAt t A).run P w = .ok V w := by
  unfold xload at hv
  split at hv
  · rename_i id off
    obtain ⟨b, base, m, hb, rfl⟩ := den_ptr hA
    split at hv
    · rename_i d hd
      split at hv
      · rename_i ha
        split at hv
        · rename_i n hn
          split at hv
          · rename_i vs hvs
            cases hv
            obtain ⟨L, h1, h2, h3⟩ := run_loadCells_at (P := P) M hvs hb
            exact ⟨.agg L.toArray, by simp [SV.den, h1], by simp [Instr.loadAt, Instr.sureAddr, loadVar, run_agg hd, ha, run_size hn, h3]⟩
          · cases hv
        · cases hv
      · rename_i ha
        split at hv
        · rename_i u hvs
          cases hv
          obtain ⟨L, h1, h2, h3⟩ := read_cell M hvs hb
          obtain ⟨V, Vs, rfl, h4, h5⟩ := denL_cons_inv h1
          have h6 := h3 0 V (by simp)
          have hadd : (⟨b, base + off, none⟩ : Addr).add 0 = ⟨b, base + off, none⟩ := by simp [Addr.add]
          rw [hadd] at h6
          exact ⟨V, h4, by simp [Instr.loadAt, Instr.sureAddr, loadVar, run_agg hd, ha, h6]⟩
        · cases hv
    · cases hv
  · cases hv

/-! ### places -/
def xfieldAddr (P : Program) (s : TypeId) (x : SV) (f : Nat) : Option SV :=
  match x with
  | .ptr id off => match P.underlying s with
    | some (.struct fields) => match fields[f]? with
      | some fd => match szOf P fd.type with
        | some (n + 1) => some (.ptr id (off + fd.offset))
        | _ => none
      | none => none
    | _ => none
  | _ => none
theorem xfieldAddr_ok {s : TypeId} {x v : SV} {f : Nat} (hv : xfieldAddr P s x f = some v) {X : Value} (hX : x.den E = some X) (w : World) : ∃ V, v.den E = some V ∧ (Instr.fieldAt s X f).run P w = .ok V w := by
  unfold xfieldAddr at hv
  split at hv
  · rename_i id off
    obtain ⟨b, base, m, hb, rfl⟩ := den_ptr hX
    split at hv
    · rename_i fields hu
      split at hv
      · rename_i fd hf
        split at hv
        · rename_i n hn
          cases hv
          refine ⟨.pointer (some ⟨b, base + (off + fd.offset), none⟩), by simp [SV.den, hb], ?_⟩
          have hadd : (⟨b, base + off, none⟩ : Addr).add fd.offset = ⟨b, base + (off + fd.offset), none⟩ := by
            unfold Addr.add
            split
            · rename_i e; simp [e]
            · simp; omega
          simp [Instr.fieldAt, run_underlying hu, hf, Instr.sureAddr, fieldPlace, run_size hn, hadd]
        · cases hv
      · cases hv
    · cases hv
  · cases hv
def xfield (P : Program) (t : TypeId) (x : SV) (f : Nat) : Option SV :=
  match x with
  | .agg cs => match P.underlying t with
    | some (.struct fields) => match fields[f]? with
      | some fd => xpart P fd.type cs fd.offset
      | none => none
    | _ => none
  | _ => none
theorem xfield_ok {s : TypeId} {x v : SV} {f : Nat} (hv : xfield P s x f = some v) {X : Value} (hX : x.den E = some X) (w : World) : ∃ V, v.den E = some V ∧ (Instr.field s X f).run P w = .ok V w := by
  unfold xfield at hv
  split at hv
  · rename_i cs
    obtain ⟨L, hL, rfl⟩ := den_agg hX
    split at hv
    · rename_i fields hu
      split at hv
      · rename_i fd hf
        obtain ⟨V, h1, h2⟩ := xpart_ok hv hL w
        exact ⟨V, h1, by simp [Instr.field, run_underlying hu, hf, asAgg, h2]⟩
      · cases hv
    · cases hv
  · cases hv
def natOf : IX → Option Nat
  | .lit (.ofNat n) => some n
  | _ => none
theorem natOf_ok {x : IX} {n : Nat} (h : natOf x = some n) : x.den E = some (n : Int) := by
  unfold natOf at h
  split at h
  · cases h; rfl
  · cases h
def xindexAddr (P : Program) (t : TypeId) (x ix : SV) : Option SV :=
  match ix with
  | .int k i => match natOf i with
    | some i => match P.underlying t with
      | some (.array len elem) => match x with
        | .ptr id off => match Nat.blt i len with
          | true => match szOf P elem with
            | some n => some (.ptr id (off + i * n))
            | none => none
          | false => none
        | _ => none
      | some (.slice elem) => match x with
        | .slc id off len cap es => match Nat.blt i len with
          | true => match szOf P elem with
            | some n => some (.ptr id (off + i * n))
            | none => none
          | false => none
        | _ => none
      | _ => none
    | none => none
  | _ => none
theorem add_at (b o n : Nat) : (⟨b, o, none⟩ : Addr).add n = ⟨b, o + n, none⟩ := by
  unfold Addr.add
  split
  · rename_i e; simp [e]
  · rfl
theorem xindexAddr_ok {x ix v : SV} (hv : xindexAddr P t x ix = some v) {X I : Value} (hX : x.den E = some X) (hI : ix.den E = some I) (w : World) : ∃ V, v.den E = some V ∧ (Instr.indexAt t X I).run P w = .ok V w := by
  unfold xindexAddr at hv
  split at hv
  · rename_i k i0
    split at hv
    · rename_i i hi
      obtain ⟨z, hz, rfl⟩ := den_int hI
      have := natOf_ok (E := E) hi
      rw [hz] at this
      cases this
      split at hv
      · rename_i len elem hu
        split at hv
        · rename_i id off
          obtain ⟨b, base, m, hb, rfl⟩ := den_ptr hX
          split at hv
          · rename_i hlt
            split at hv
            · rename_i n hn
              cases hv
              have hlt' : i < len := by simpa [Nat.blt_eq] using hlt
              refine ⟨.pointer (some ⟨b, base + (off + i * n), none⟩), by simp [SV.den, hb], ?_⟩
              simp [Instr.indexAt, asIntOf, run_underlying hu, Instr.sureAddr, run_size hn, hlt', add_at, Nat.add_assoc]
            · cases hv
          · cases hv
        · cases hv
      · rename_i elem hu
        split at hv
        · rename_i id off len cap es
          obtain ⟨b, base, m, hb, rfl⟩ := den_slc hX
          split at hv
          · rename_i hlt
            split at hv
            · rename_i n hn
              cases hv
              have hlt' : i < len := by simpa [Nat.blt_eq] using hlt
              refine ⟨.pointer (some ⟨b, base + (off + i * n), none⟩), by simp [SV.den, hb], ?_⟩
              simp [Instr.indexAt, asIntOf, run_underlying hu, run_size hn, hlt', add_at, Nat.add_assoc]
            · cases hv
          · cases hv
        · cases hv
      · cases hv
    · cases hv
  · cases hv
def xindex (P : Program) (t : TypeId) (x ix : SV) : Option SV :=
  match ix with
  | .int k i => match natOf i with
    | some i => match P.underlying t with
      | some (.array len elem) => match x with
        | .agg cs => match Nat.blt i len with
          | true => match szOf P elem with
            | some n => xpart P elem cs (i * n)
            | none => none
          | false => none
        | _ => none
      | some .string => match x with
        | .str (.lit n c) => match Nat.blt i n with
          | true => some (.int .u8 (.lit (.ofNat (c / 256 ^ i % 256))))
          | false => none
        | _ => none
      | _ => none
    | none => none
  | _ => none
theorem xindex_ok {x ix v : SV} (hv : xindex P t x ix = some v) {X I : Value} (hX : x.den E = some X) (hI : ix.den E = some I) (w : World) : ∃ V, v.den E = some V ∧ (Instr.index t X I).run P w = .ok V w := by
  unfold xindex at hv
  split at hv
  · rename_i k i0
    split at hv
    · rename_i i hi
      obtain ⟨z, hz, rfl⟩ := den_int hI
      have := natOf_ok (E := E) hi
      rw [hz] at this
      cases this
      split at hv
      · rename_i len elem hu
        split at hv
        · rename_i cs
          obtain ⟨L, hL, rfl⟩ := den_agg hX
          split at hv
          · rename_i hlt
            split at hv
            · rename_i n hn
              have hlt' : i < len := by simpa [Nat.blt_eq] using hlt
              obtain ⟨V, h1, h2⟩ := xpart_ok hv hL w
              exact ⟨V, h1, by simp [Instr.index, asIntOf, run_underlying hu, run_size hn, hlt', h2]⟩
            · cases hv
          · cases hv
        · cases hv
      · rename_i hu
        split at hv
        · rename_i n c
          obtain ⟨s, hs, rfl⟩ := den_str hX
          simp only [SX.den, Option.some.injEq] at hs
          subst hs
          split at hv
          · rename_i hlt
            cases hv
            have hlt' : i < n := by simpa [Nat.blt_eq] using hlt
            refine ⟨.int .u8 ((c / 256 ^ i % 256 : Nat) : Int), by simp [SV.den, IX.den], ?_⟩
            have hg : (txt n c)[i]? = some (UInt8.ofNat (c / 256 ^ i % 256)) := by
              have h1 := dec_get n c i hlt'
              have h2 : i < (txt n c).size := by simpa using hlt'
              rw [getElem?_pos (txt n c) i h2]
              congr 1
              have h3 : (dec n c)[i]'(by simpa using hlt') = UInt8.ofNat (c / 256 ^ i % 256) := by
                have := (List.getElem?_eq_some_iff.1 h1).2
                exact this
              rw [← h3]
              rfl
            have hm : (UInt8.ofNat (c / 256 ^ i % 256)).toNat = c / 256 ^ i % 256 := by simp
            simp [Instr.index, asIntOf, run_underlying hu, hg]
          · cases hv
        · cases hv
      · cases hv
    · cases hv
  · cases hv
end
end Go.Sx
