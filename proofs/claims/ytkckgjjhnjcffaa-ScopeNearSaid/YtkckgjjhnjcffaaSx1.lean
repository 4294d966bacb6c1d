/-
  A symbolic run of Go functions by computation (part 1): finite maps, texts as numbers, terms, values and what they stand for.
-/
import Derived.Calls
import Derived.Tactics
import Derived.LoopN
import Derived.Scope
import Derived.OrdersHeld
import Derived.Below
namespace Go.Sx
set_option linter.unusedVariables false
set_option linter.unusedSimpArgs false

/-! ### finite maps from numbers -/
inductive T (α : Type) where
  | nil
  | node (l : T α) (v : Option α) (r : T α)
def T.get {α : Type} : T α → Nat → Option α
  | .nil, _ => none
  | .node l v r, i => @Nat.casesOn (fun _ => Option α) i v fun j => @Bool.casesOn (fun _ => Option α) (Nat.beq (Nat.mod j 2) 0) (r.get (Nat.div j 2)) (l.get (Nat.div j 2))
def T.set {α : Type} : Nat → T α → Nat → α → T α
  | 0, t, _, _ => t
  | f + 1, .nil, i, a => @Nat.casesOn (fun _ => T α) i (.node .nil (some a) .nil) fun j => @Bool.casesOn (fun _ => T α) (Nat.beq (Nat.mod j 2) 0) (.node .nil none (T.set f .nil (Nat.div j 2) a)) (.node (T.set f .nil (Nat.div j 2) a) none .nil)
  | f + 1, .node l v r, i, a => @Nat.casesOn (fun _ => T α) i (.node l (some a) r) fun j => @Bool.casesOn (fun _ => T α) (Nat.beq (Nat.mod j 2) 0) (.node l v (T.set f r (Nat.div j 2) a)) (.node (T.set f l (Nat.div j 2) a) v r)
theorem T.get_zero {α : Type} (l : T α) (v : Option α) (r : T α) : (T.node l v r).get 0 = v := rfl
theorem T.get_succ {α : Type} (l : T α) (v : Option α) (r : T α) (j : Nat) : (T.node l v r).get (j + 1) = match Nat.beq (j % 2) 0 with | true => l.get (j / 2) | false => r.get (j / 2) := by
  cases hb : Nat.beq (j % 2) 0 <;> (have hb' : Nat.beq (Nat.mod j 2) 0 = _ := hb; simp only [T.get, T.set, hb'] <;> rfl)
theorem T.set_nil0 {α : Type} (f : Nat) (a : α) : T.set (f + 1) .nil 0 a = .node .nil (some a) .nil := rfl
theorem T.set_nilS {α : Type} (f j : Nat) (a : α) : T.set (f + 1) .nil (j + 1) a = match Nat.beq (j % 2) 0 with | true => .node (T.set f .nil (j / 2) a) none .nil | false => .node .nil none (T.set f .nil (j / 2) a) := by
  cases hb : Nat.beq (j % 2) 0 <;> (have hb' : Nat.beq (Nat.mod j 2) 0 = _ := hb; simp only [T.get, T.set, hb'] <;> rfl)
theorem T.set_node0 {α : Type} (f : Nat) (l : T α) (v : Option α) (r : T α) (a : α) : T.set (f + 1) (.node l v r) 0 a = .node l (some a) r := rfl
theorem T.set_nodeS {α : Type} (f j : Nat) (l : T α) (v : Option α) (r : T α) (a : α) : T.set (f + 1) (.node l v r) (j + 1) a = match Nat.beq (j % 2) 0 with | true => .node (T.set f l (j / 2) a) v r | false => .node l v (T.set f r (j / 2) a) := by
  cases hb : Nat.beq (j % 2) 0 <;> (have hb' : Nat.beq (Nat.mod j 2) 0 = _ := hb; simp only [T.get, T.set, hb'] <;> rfl)
def T.put {α : Type} (t : T α) (i : Nat) (a : α) : T α := T.set (Nat.succ i) t i a
theorem T.get_nil {α : Type} (i : Nat) : (T.nil : T α).get i = none := rfl
theorem T.get_single {α : Type} (v : Option α) (i : Nat) : (T.node .nil v .nil).get i = if i = 0 then v else none := by
  cases i with
  | zero => rfl
  | succ j => rw [T.get_succ, if_neg (by omega)]; split <;> rfl
theorem half_inj {j k : Nat} (h : j / 2 = k / 2) (h2 : j % 2 = k % 2) : j = k := by omega
theorem T.get_set {α : Type} : ∀ (f : Nat) (t : T α) (i : Nat) (a : α) (j : Nat), i < f → (T.set f t i a).get j = if i = j then some a else t.get j
  | 0, _, _, _, _, h => by omega
  | f + 1, t, 0, a, j, h => by
    cases t <;> cases j <;> simp [T.set_nil0, T.set_node0, T.get_zero, T.get_succ, T.get_nil]
    all_goals first | done | (split <;> rfl)
  | f + 1, t, i + 1, a, 0, h => by
    cases t <;> simp only [T.set_nilS, T.set_nodeS] <;> split <;> simp [T.get_zero, T.get_nil]
  | f + 1, t, i + 1, a, j + 1, h => by
    have hi : i / 2 < f := by omega
    have ih := fun (t : T α) (k : Nat) => T.get_set f t (i / 2) a k hi
    have key : ∀ k, k % 2 = i % 2 → ((i / 2 = k / 2) ↔ (i + 1 = k + 1)) := fun k hk => ⟨fun e => by have := half_inj e hk.symm; omega, fun e => by rw [Nat.succ.inj e]⟩
    cases t <;> simp only [T.set_nilS, T.set_nodeS] <;> cases hb : Nat.beq (i % 2) 0 <;> simp only [T.get_succ, T.get_nil] <;> cases hc : Nat.beq (j % 2) 0
    all_goals
      have hb' : (i % 2 = 0) = (Nat.beq (i % 2) 0 = true) := by simp
      have hc' : (j % 2 = 0) = (Nat.beq (j % 2) 0 = true) := by simp
      rw [hb] at hb'
      rw [hc] at hc'
      simp at hb' hc'
    all_goals first
      | (rw [ih]; by_cases e : i = j
         · subst e; simp
         · have : ¬ (i / 2 = j / 2) := fun e' => e (by omega)
           simp [e, this, T.get_nil]; done)
      | (have : ¬ (i = j) := fun e => by omega
         simp [this])
theorem T.get_put {α : Type} (t : T α) (i : Nat) (a : α) (j : Nat) : (t.put i a).get j = if i = j then some a else t.get j := T.get_set _ t i a j (Nat.lt_succ_self i)
theorem T.get_put_self {α : Type} (t : T α) (i : Nat) (a : α) : (t.put i a).get i = some a := by rw [T.get_put]; simp
theorem T.get_put_ne {α : Type} (t : T α) {i j : Nat} (a : α) (h : i ≠ j) : (t.put i a).get j = t.get j := by rw [T.get_put]; simp [h]
def T.beq {α : Type} (f : α → α → Bool) : T α → T α → Bool
  | .nil, .nil => true
  | .node l v r, .node l' v' r' => l.beq f l' && ((match v, v' with | none, none => true | some a, some b => f a b | _, _ => false) && r.beq f r')
  | _, _ => false
theorem T.beq_eq {α : Type} {f : α → α → Bool} (hf : ∀ a b, f a b = true → a = b) : ∀ (t u : T α), t.beq f u = true → t = u
  | .nil, .nil, _ => rfl
  | .nil, .node .., h => by simp [T.beq] at h
  | .node .., .nil, h => by simp [T.beq] at h
  | .node l v r, .node l' v' r', h => by
    simp only [T.beq, Bool.and_eq_true] at h
    obtain ⟨h1, h2, h3⟩ := h
    have e1 := T.beq_eq hf l l' h1
    have e3 := T.beq_eq hf r r' h3
    subst e1 e3
    cases v <;> cases v' <;> simp at h2 ⊢
    exact hf _ _ h2

/-! ### texts as numbers -/
/-- The n lowest digits of c to the base 256. -/
def dec : Nat → Nat → List UInt8
  | 0, _ => []
  | n + 1, c => UInt8.ofNat (c % 256) :: dec n (c / 256)
def enc : List UInt8 → Nat
  | [] => 0
  | b :: l => b.toNat + 256 * enc l
@[simp] theorem length_dec : ∀ n c, (dec n c).length = n
  | 0, _ => rfl
  | n + 1, c => by simp [dec, length_dec n]
theorem dec_enc : ∀ l, dec l.length (enc l) = l
  | [] => rfl
  | b :: l => by
    have hb := b.toNat_lt
    have h1 : (b.toNat + 256 * enc l) % 256 = b.toNat := by omega
    have h2 : (b.toNat + 256 * enc l) / 256 = enc l := by omega
    simp only [List.length_cons, dec, enc, h1, h2, dec_enc l]
    simp
theorem dec_mod : ∀ n c, dec n (c % 256 ^ n) = dec n c
  | 0, _ => rfl
  | n + 1, c => by
    have h1 : c % 256 ^ (n + 1) % 256 = c % 256 := by
      rw [Nat.pow_succ', Nat.mod_mul_right_mod]
    have h2 : c % 256 ^ (n + 1) / 256 = c / 256 % 256 ^ n := by
      rw [Nat.pow_succ', Nat.mod_mul_right_div_self]
    simp only [dec, h1, h2, dec_mod n]
theorem dec_inj : ∀ n c d, dec n c = dec n d → c % 256 ^ n = d % 256 ^ n
  | 0, c, d, _ => by simp [Nat.mod_one]
  | n + 1, c, d, h => by
    simp only [dec, List.cons.injEq] at h
    have h1 : c % 256 = d % 256 := by
      have := congrArg UInt8.toNat h.1
      simpa using this
    have h2 := dec_inj n _ _ h.2
    rw [Nat.pow_succ', Nat.mod_mul, Nat.mod_mul, h1, h2]
theorem dec_eq_iff (n c d : Nat) : dec n c = dec n d ↔ c % 256 ^ n = d % 256 ^ n :=
  ⟨dec_inj n c d, fun h => by rw [← dec_mod n c, ← dec_mod n d, h]⟩
theorem dec_append : ∀ m n c d, dec (m + n) (c % 256 ^ m + d * 256 ^ m) = dec m c ++ dec n d
  | 0, n, c, d => by simp [dec, Nat.mod_one]
  | m + 1, n, c, d => by
    have e : m + 1 + n = (m + n) + 1 := by omega
    rw [e]
    have h1 : (c % 256 ^ (m + 1) + d * 256 ^ (m + 1)) % 256 = c % 256 := by
      rw [Nat.pow_succ, ← Nat.mul_assoc, Nat.add_mul_mod_self_right, Nat.mul_comm, Nat.mod_mul_right_mod]
    have h2 : (c % 256 ^ (m + 1) + d * 256 ^ (m + 1)) / 256 = c / 256 % 256 ^ m + d * 256 ^ m := by
      rw [Nat.pow_succ, ← Nat.mul_assoc, Nat.add_mul_div_right _ _ (by decide : 0 < 256), Nat.mul_comm (256 ^ m) 256, Nat.mod_mul_right_div_self]
    simp only [dec, h1, h2, dec_append m n, List.cons_append]
theorem dec_drop : ∀ k n c, (dec n c).drop k = dec (n - k) (c / 256 ^ k)
  | 0, n, c => by simp
  | k + 1, 0, c => by simp [dec]
  | k + 1, n + 1, c => by
    simp only [dec, List.drop_succ_cons, dec_drop k n, Nat.add_sub_add_right]
    rw [Nat.div_div_eq_div_mul, ← Nat.pow_succ']
theorem dec_take : ∀ k n c, k ≤ n → (dec n c).take k = dec k c
  | 0, n, c, _ => by simp [dec]
  | k + 1, 0, c, h => by omega
  | k + 1, n + 1, c, h => by simp only [dec, List.take_succ_cons, dec_take k n _ (by omega)]
theorem dec_get (n c i : Nat) (h : i < n) : (dec n c)[i]? = some (UInt8.ofNat (c / 256 ^ i % 256)) := by
  have e : (dec n c)[i]? = ((dec n c).drop i)[0]? := by simp
  rw [e, dec_drop]
  obtain ⟨m, hm⟩ : ∃ m, n - i = m + 1 := ⟨n - i - 1, by omega⟩
  rw [hm]
  rfl
def txt (n c : Nat) : ByteArray := ⟨(dec n c).toArray⟩
@[simp] theorem size_txt (n c : Nat) : (txt n c).size = n := by simp [txt, ByteArray.size]
theorem txt_data (n c : Nat) : (txt n c).data.toList = dec n c := by simp [txt]

/-! ### terms -/
inductive SX where
  | lit (len code : Nat)
  | var (i : Nat)
  | cat (a b : SX)
  deriving DecidableEq, Repr
inductive IX where
  | lit (n : Int)
  | var (i : Nat)
  | bin (o : BinOp) (k : IntKind) (a b : IX)
  | slen (s : SX)
  deriving DecidableEq, Repr
inductive BX where
  | lit (b : Bool)
  | var (i : Nat)
  | not (b : BX)
  | ieq (a b : IX)
  | ilt (a b : IX)
  | seq (s t : SX)
  | and (a b : BX)
  deriving DecidableEq, Repr
inductive SV where
  | bool (b : BX)
  | int (k : IntKind) (n : IX)
  | str (s : SX)
  | nilp
  | ptr (id off : Nat)
  | nils
  | slc (id off len : Nat) (cap : Option Nat) (es : Nat)
  | nilm
  | map (id : Nat)
  | nilf
  | func (fn : Fn) (first captured : List SV)
  | nili
  | iface (t : TypeId) (v : SV)
  | agg (cs : List SV)
  | tup (vs : List SV)
  deriving Repr
instance : Inhabited SV := ⟨.tup []⟩

/-- What the unknowns are: of each block its number, where its known part begins, and how many cells it has from there on. -/
structure Env where
  blk : Nat → Option (Nat × Nat × Nat) := fun _ => none
  ints : List Int := []
  bools : List Bool := []
  strs : List ByteArray := []
structure Env.Le (E F : Env) : Prop where
  blk : ∀ (i : Nat) (x : Nat × Nat × Nat), E.blk i = some x → F.blk i = some x
  ints : ∀ (i : Nat) (x : Int), E.ints[i]? = some x → F.ints[i]? = some x
  bools : ∀ (i : Nat) (x : Bool), E.bools[i]? = some x → F.bools[i]? = some x
  strs : ∀ (i : Nat) (x : ByteArray), E.strs[i]? = some x → F.strs[i]? = some x
theorem Env.Le.refl (E : Env) : E.Le E := ⟨fun _ _ h => h, fun _ _ h => h, fun _ _ h => h, fun _ _ h => h⟩
theorem Env.Le.trans {E F G : Env} (h : E.Le F) (h' : F.Le G) : E.Le G :=
  ⟨fun i x e => h'.blk i x (h.blk i x e), fun i x e => h'.ints i x (h.ints i x e), fun i x e => h'.bools i x (h.bools i x e), fun i x e => h'.strs i x (h.strs i x e)⟩
def Env.add (E : Env) (id b base n : Nat) : Env := { E with blk := fun j => if j = id then some (b, base, n) else E.blk j }
theorem Env.le_add (E : Env) {id : Nat} (h : E.blk id = none) (b base n : Nat) : E.Le (E.add id b base n) :=
  ⟨fun i x hx => by
    show (if i = id then some (b, base, n) else E.blk i) = some x
    rw [if_neg (fun e => by rw [e, h] at hx; cases hx)]; exact hx, fun _ _ h => h, fun _ _ h => h, fun _ _ h => h⟩
theorem Env.add_new (E : Env) (id b base n : Nat) : (E.add id b base n).blk id = some (b, base, n) := by
  show (if id = id then some (b, base, n) else E.blk id) = _
  rw [if_pos rfl]
theorem Env.add_ne (E : Env) {id j : Nat} (b base n : Nat) (h : j ≠ id) : (E.add id b base n).blk j = E.blk j := by
  show (if j = id then some (b, base, n) else E.blk j) = _
  rw [if_neg h]

def SX.den (E : Env) : SX → Option ByteArray
  | .lit n c => some (txt n c)
  | .var i => E.strs[i]?
  | .cat a b => match a.den E, b.den E with
    | some x, some y => some (x ++ y)
    | _, _ => none
def intBin (o : BinOp) (k : IntKind) (x y : Int) : Option Int :=
  match o with
  | .add => some (k.wrap (x + y))
  | .sub => some (k.wrap (x - y))
  | .mul => some (k.wrap (x * y))
  | .quo => if y = 0 then none else some (k.wrap (x.tdiv y))
  | .rem => if y = 0 then none else some (x.tmod y)
  | .and => some (k.wrap (BitVec.ofInt k.bits x &&& BitVec.ofInt k.bits y).toNat)
  | .or => some (k.wrap (BitVec.ofInt k.bits x ||| BitVec.ofInt k.bits y).toNat)
  | .xor => some (k.wrap (BitVec.ofInt k.bits x ^^^ BitVec.ofInt k.bits y).toNat)
  | .andNot => some (k.wrap (BitVec.ofInt k.bits x &&& ~~~ BitVec.ofInt k.bits y).toNat)
  | .shl => if y < 0 then none else some (k.wrap (x * 2 ^ (min y.toNat k.bits)))
  | .shr => if y < 0 then none else some (x.fdiv (2 ^ (min y.toNat k.bits)))
  | _ => none
def IX.den (E : Env) : IX → Option Int
  | .lit n => some n
  | .var i => E.ints[i]?
  | .bin o k a b => match a.den E, b.den E with
    | some x, some y => intBin o k x y
    | _, _ => none
  | .slen s => match s.den E with
    | some b => some (b.size : Int)
    | none => none
def BX.den (E : Env) : BX → Option Bool
  | .lit b => some b
  | .var i => E.bools[i]?
  | .not b => match b.den E with
    | some x => some !x
    | none => none
  | .ieq a b => match a.den E, b.den E with
    | some x, some y => some (x == y)
    | _, _ => none
  | .ilt a b => match a.den E, b.den E with
    | some x, some y => some (decide (x < y))
    | _, _ => none
  | .seq s t => match s.den E, t.den E with
    | some x, some y => some (x.toList == y.toList)
    | _, _ => none
  | .and a b => match a.den E, b.den E with
    | some x, some y => some (x && y)
    | _, _ => none
mutual
def SV.den (E : Env) : SV → Option Value
  | .bool b => match b.den E with | some x => some (.bool x) | none => none
  | .int k n => match n.den E with | some x => some (.int k x) | none => none
  | .str s => match s.den E with | some x => some (.string x) | none => none
  | .nilp => some (.pointer none)
  | .ptr id off => match E.blk id with
    | some (b, base, _) => some (.pointer (some ⟨b, base + off, none⟩))
    | none => none
  | .nils => some (.slice none 0 0)
  | .slc id off len cap es => match E.blk id with
    | some (b, base, n) => match cap with
      | some c => some (.slice (some ⟨b, base + off, none⟩) len c)
      | none => some (.slice (some ⟨b, base + off, none⟩) len ((n - off) / es))
    | none => none
  | .nilm => some (.map none)
  | .map id => match E.blk id with
    | some (b, _, _) => some (.map (some b))
    | none => none
  | .nilf => some .nilFunc
  | .func fn first cap => match SV.denL E first, SV.denL E cap with
    | some x, some y => some (.func fn x.toArray y.toArray)
    | _, _ => none
  | .nili => some .nilIface
  | .iface t v => match v.den E with | some x => some (.iface t x) | none => none
  | .agg cs => match SV.denL E cs with | some x => some (.agg x.toArray) | none => none
  | .tup vs => match SV.denL E vs with | some x => some (.tuple x.toArray) | none => none
def SV.denL (E : Env) : List SV → Option (List Value)
  | [] => some []
  | v :: vs => match v.den E, SV.denL E vs with
    | some a, some b => some (a :: b)
    | _, _ => none
end
theorem SX.mono {E F : Env} (le : E.Le F) : ∀ {s : SX} {b : ByteArray}, s.den E = some b → s.den F = some b
  | .lit n c, b, h => h
  | .var i, b, h => le.strs i b h
  | .cat x y, b, h => by
    simp only [SX.den] at h ⊢
    cases hx : x.den E with
    | none => simp [hx] at h
    | some u =>
      cases hy : y.den E with
      | none => simp [hx, hy] at h
      | some v =>
        rw [SX.mono le hx, SX.mono le hy]
        simpa [hx, hy] using h
theorem IX.mono {E F : Env} (le : E.Le F) : ∀ {s : IX} {b : Int}, s.den E = some b → s.den F = some b
  | .lit n, b, h => h
  | .var i, b, h => le.ints i b h
  | .slen s, b, h => by
    simp only [IX.den] at h ⊢
    cases hx : s.den E with
    | none => simp [hx] at h
    | some u => rw [SX.mono le hx]; simpa [hx] using h
  | .bin o k x y, b, h => by
    simp only [IX.den] at h ⊢
    cases hx : x.den E with
    | none => simp [hx] at h
    | some u =>
      cases hy : y.den E with
      | none => simp [hx, hy] at h
      | some v =>
        rw [IX.mono le hx, IX.mono le hy]
        simpa [hx, hy] using h
theorem BX.mono {E F : Env} (le : E.Le F) : ∀ {s : BX} {b : Bool}, s.den E = some b → s.den F = some b
  | .lit n, b, h => h
  | .var i, b, h => le.bools i b h
  | .not x, b, h => by
    simp only [BX.den] at h ⊢
    cases hx : x.den E with
    | none => simp [hx] at h
    | some u => rw [BX.mono le hx]; simpa [hx] using h
  | .ieq x y, b, h => by
    simp only [BX.den] at h ⊢
    cases hx : x.den E with
    | none => simp [hx] at h
    | some u =>
      cases hy : y.den E with
      | none => simp [hx, hy] at h
      | some v =>
        rw [IX.mono le hx, IX.mono le hy]
        simpa [hx, hy] using h
  | .ilt x y, b, h => by
    simp only [BX.den] at h ⊢
    cases hx : x.den E with
    | none => simp [hx] at h
    | some u =>
      cases hy : y.den E with
      | none => simp [hx, hy] at h
      | some v =>
        rw [IX.mono le hx, IX.mono le hy]
        simpa [hx, hy] using h
  | .seq x y, b, h => by
    simp only [BX.den] at h ⊢
    cases hx : x.den E with
    | none => simp [hx] at h
    | some u =>
      cases hy : y.den E with
      | none => simp [hx, hy] at h
      | some v =>
        rw [SX.mono le hx, SX.mono le hy]
        simpa [hx, hy] using h
  | .and x y, b, h => by
    simp only [BX.den] at h ⊢
    cases hx : x.den E with
    | none => simp [hx] at h
    | some u =>
      cases hy : y.den E with
      | none => simp [hx, hy] at h
      | some v =>
        rw [BX.mono le hx, BX.mono le hy]
        simpa [hx, hy] using h
mutual
theorem SV.mono {E F : Env} (le : E.Le F) : ∀ {s : SV} {b : Value}, s.den E = some b → s.den F = some b
  | .bool x, b, h => by
    simp only [SV.den] at h ⊢
    cases hx : x.den E with
    | none => simp [hx] at h
    | some u => rw [BX.mono le hx]; simpa [hx] using h
  | .int k x, b, h => by
    simp only [SV.den] at h ⊢
    cases hx : x.den E with
    | none => simp [hx] at h
    | some u => rw [IX.mono le hx]; simpa [hx] using h
  | .str x, b, h => by
    simp only [SV.den] at h ⊢
    cases hx : x.den E with
    | none => simp [hx] at h
    | some u => rw [SX.mono le hx]; simpa [hx] using h
  | .nilp, b, h => by simpa [SV.den] using h
  | .ptr id off, b, h => by
    simp only [SV.den] at h ⊢
    cases hx : E.blk id with
    | none => simp [hx] at h
    | some u => rw [le.blk id u hx]; simpa [hx] using h
  | .nils, b, h => by simpa [SV.den] using h
  | .slc id off len cap es, b, h => by
    simp only [SV.den] at h ⊢
    cases hx : E.blk id with
    | none => simp [hx] at h
    | some u => rw [le.blk id u hx]; simpa [hx] using h
  | .nilm, b, h => by simpa [SV.den] using h
  | .map id, b, h => by
    simp only [SV.den] at h ⊢
    cases hx : E.blk id with
    | none => simp [hx] at h
    | some u => rw [le.blk id u hx]; simpa [hx] using h
  | .nilf, b, h => by simpa [SV.den] using h
  | .func fn xs ys, b, h => by
    simp only [SV.den] at h ⊢
    cases hx : SV.denL E xs with
    | none => simp [hx] at h
    | some u =>
      cases hy : SV.denL E ys with
      | none => simp [hx, hy] at h
      | some v =>
        rw [SV.monoL le hx, SV.monoL le hy]
        simpa [hx, hy] using h
  | .nili, b, h => by simpa [SV.den] using h
  | .iface t x, b, h => by
    simp only [SV.den] at h ⊢
    cases hx : x.den E with
    | none => simp [hx] at h
    | some u => rw [SV.mono le hx]; simpa [hx] using h
  | .agg xs, b, h => by
    simp only [SV.den] at h ⊢
    cases hx : SV.denL E xs with
    | none => simp [hx] at h
    | some u => rw [SV.monoL le hx]; simpa [hx] using h
  | .tup xs, b, h => by
    simp only [SV.den] at h ⊢
    cases hx : SV.denL E xs with
    | none => simp [hx] at h
    | some u => rw [SV.monoL le hx]; simpa [hx] using h
theorem SV.monoL {E F : Env} (le : E.Le F) : ∀ {s : List SV} {b : List Value}, SV.denL E s = some b → SV.denL F s = some b
  | [], b, h => by simpa [SV.denL] using h
  | x :: xs, b, h => by
    simp only [SV.denL] at h ⊢
    cases hx : x.den E with
    | none => simp [hx] at h
    | some u =>
      cases hy : SV.denL E xs with
      | none => simp [hx, hy] at h
      | some v =>
        rw [SV.mono le hx, SV.monoL le hy]
        simpa [hx, hy] using h
end
/-! ### the same value -/
mutual
def SV.beq : SV → SV → Bool
  | .bool a, .bool b => decide (a = b)
  | .int k a, .int l b => decide (k = l) && decide (a = b)
  | .str a, .str b => decide (a = b)
  | .nilp, .nilp => true
  | .ptr a b, .ptr c d => Nat.beq a c && Nat.beq b d
  | .nils, .nils => true
  | .slc a b c d e, .slc a' b' c' d' e' => Nat.beq a a' && (Nat.beq b b' && (Nat.beq c c' && (decide (d = d') && Nat.beq e e')))
  | .nilm, .nilm => true
  | .map a, .map b => Nat.beq a b
  | .nilf, .nilf => true
  | .func f xs ys, .func g us vs => decide (f = g) && (SV.beqL xs us && SV.beqL ys vs)
  | .nili, .nili => true
  | .iface t v, .iface u w => Nat.beq t u && SV.beq v w
  | .agg xs, .agg ys => SV.beqL xs ys
  | .tup xs, .tup ys => SV.beqL xs ys
  | _, _ => false
def SV.beqL : List SV → List SV → Bool
  | [], [] => true
  | a :: l, b :: m => SV.beq a b && SV.beqL l m
  | _, _ => false
end
mutual
theorem SV.beq_eq : ∀ (a b : SV), SV.beq a b = true → a = b
  | .bool a, b, h => by cases b <;> simp [SV.beq] at h ⊢; exact h
  | .int k a, b, h => by cases b <;> simp [SV.beq] at h ⊢; exact h
  | .str a, b, h => by cases b <;> simp [SV.beq] at h ⊢; exact h
  | .nilp, b, h => by cases b <;> simp [SV.beq] at h ⊢
  | .ptr a c, b, h => by cases b <;> simp [SV.beq] at h ⊢; exact h
  | .nils, b, h => by cases b <;> simp [SV.beq] at h ⊢
  | .slc a c d e f, b, h => by cases b <;> simp [SV.beq] at h ⊢; exact h
  | .nilm, b, h => by cases b <;> simp [SV.beq] at h ⊢
  | .map a, b, h => by cases b <;> simp [SV.beq] at h ⊢; exact h
  | .nilf, b, h => by cases b <;> simp [SV.beq] at h ⊢
  | .func f xs ys, b, h => by
    cases b <;> simp [SV.beq] at h ⊢
    exact ⟨h.1, SV.beqL_eq _ _ h.2.1, SV.beqL_eq _ _ h.2.2⟩
  | .nili, b, h => by cases b <;> simp [SV.beq] at h ⊢
  | .iface t v, b, h => by
    cases b <;> simp [SV.beq] at h ⊢
    exact ⟨h.1, SV.beq_eq _ _ h.2⟩
  | .agg xs, b, h => by
    cases b <;> simp [SV.beq] at h ⊢
    exact SV.beqL_eq _ _ h
  | .tup xs, b, h => by
    cases b <;> simp [SV.beq] at h ⊢
    exact SV.beqL_eq _ _ h
theorem SV.beqL_eq : ∀ (a b : List SV), SV.beqL a b = true → a = b
  | [], b, h => by cases b <;> simp [SV.beqL] at h ⊢
  | a :: l, b, h => by
    cases b <;> simp [SV.beqL] at h ⊢
    exact ⟨SV.beq_eq _ _ h.1, SV.beqL_eq _ _ h.2⟩
end
/-! ### lists of values -/
theorem denL_nil (E : Env) : SV.denL E [] = some [] := by simp [SV.denL]
theorem denL_cons_inv {E : Env} {v : SV} {vs : List SV} {L : List Value} (h : SV.denL E (v :: vs) = some L) : ∃ V Vs, L = V :: Vs ∧ v.den E = some V ∧ SV.denL E vs = some Vs := by
  simp only [SV.denL] at h
  cases hx : v.den E with
  | none => simp [hx] at h
  | some u =>
    cases hy : SV.denL E vs with
    | none => simp [hx, hy] at h
    | some w => exact ⟨u, w, by simpa [hx, hy] using h.symm, rfl, rfl⟩
theorem denL_cons {E : Env} {v : SV} {vs : List SV} {V : Value} {Vs : List Value} (h : v.den E = some V) (h' : SV.denL E vs = some Vs) : SV.denL E (v :: vs) = some (V :: Vs) := by
  simp [SV.denL, h, h']
theorem denL_get {E : Env} : ∀ {vs : List SV} {L : List Value} {i : Nat} {v : SV}, SV.denL E vs = some L → vs[i]? = some v → ∃ V, L[i]? = some V ∧ v.den E = some V
  | [], L, i, v, h, hi => by simp at hi
  | x :: xs, L, 0, v, h, hi => by
    obtain ⟨V, Vs, rfl, h1, h2⟩ := denL_cons_inv h
    simp at hi
    subst hi
    exact ⟨V, by simp, h1⟩
  | x :: xs, L, i + 1, v, h, hi => by
    obtain ⟨V, Vs, rfl, h1, h2⟩ := denL_cons_inv h
    simp at hi
    obtain ⟨U, hU, hv⟩ := denL_get h2 hi
    exact ⟨U, by simpa using hU, hv⟩
theorem denL_length {E : Env} : ∀ {vs : List SV} {L : List Value}, SV.denL E vs = some L → L.length = vs.length
  | [], L, h => by simp [SV.denL] at h; subst h; rfl
  | x :: xs, L, h => by
    obtain ⟨V, Vs, rfl, h1, h2⟩ := denL_cons_inv h
    simp [denL_length h2]
theorem denL_append {E : Env} : ∀ {xs ys : List SV} {L M : List Value}, SV.denL E xs = some L → SV.denL E ys = some M → SV.denL E (xs ++ ys) = some (L ++ M)
  | [], ys, L, M, h, h' => by simp [SV.denL] at h; subst h; simpa using h'
  | x :: xs, ys, L, M, h, h' => by
    obtain ⟨V, Vs, rfl, h1, h2⟩ := denL_cons_inv h
    exact denL_cons h1 (denL_append h2 h')
theorem denL_take {E : Env} : ∀ {xs : List SV} {L : List Value} (n : Nat), SV.denL E xs = some L → SV.denL E (xs.take n) = some (L.take n)
  | [], L, n, h => by simp [SV.denL] at h; subst h; simp [SV.denL]
  | x :: xs, L, 0, h => by simp [SV.denL]
  | x :: xs, L, n + 1, h => by
    obtain ⟨V, Vs, rfl, h1, h2⟩ := denL_cons_inv h
    exact denL_cons h1 (denL_take n h2)
theorem denL_drop {E : Env} : ∀ {xs : List SV} {L : List Value} (n : Nat), SV.denL E xs = some L → SV.denL E (xs.drop n) = some (L.drop n)
  | [], L, n, h => by simp [SV.denL] at h; subst h; simp [SV.denL]
  | x :: xs, L, 0, h => by simpa using h
  | x :: xs, L, n + 1, h => by
    obtain ⟨V, Vs, rfl, h1, h2⟩ := denL_cons_inv h
    simpa using denL_drop n h2
end Go.Sx
