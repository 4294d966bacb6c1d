/-
  A symbolic run of Go functions by computation (part 1): finite maps, texts as numbers, terms, values and what they stand for.
-/
import Derived.Calls
import Derived.Tactics
import Derived.LoopN
import Derived.Scope
import Derived.OrdersHeld
import Derived.Below
import Derived.Laws.Rows
import Derived.Laws.CopyRow
import Derived.Lib.Space
import Derived.Laws.Entries
import Derived.Laws.Strings
import Derived.Laws.StructEq
namespace Go.Sx
set_option linter.unusedVariables false
set_option linter.unusedSimpArgs false

/-! ### finite maps from numbers -/
inductive T (α : Type) where
  | nil
  | node (l : T α) (v : Option α) (r : T α)
def T.get {α : Type} : T α → Nat → Option α
  | .nil, _ => none
  | .node l v r, i => @Nat.casesOn (fun _ => Option α) i v fun j => @Bool.casesOn (fun _ => Option α) (Nat.beq (Nat.mod j 2) 0) (r.get (Nat.div j 2)) (l.get (Nat.div j 2))
def T.set {α : Type} : Nat → T α → Nat → α → T α
  | 0, t, _, _ => t
  | f + 1, .nil, i, a => @Nat.casesOn (fun _ => T α) i (.node .nil (some a) .nil) fun j => @Bool.casesOn (fun _ => T α) (Nat.beq (Nat.mod j 2) 0) (.node .nil none (T.set f .nil (Nat.div j 2) a)) (.node (T.set f .nil (Nat.div j 2) a) none .nil)
  | f + 1, .node l v r, i, a => @Nat.casesOn (fun _ => T α) i (.node l (some a) r) fun j => @Bool.casesOn (fun _ => T α) (Nat.beq (Nat.mod j 2) 0) (.node l v (T.set f r (Nat.div j 2) a)) (.node (T.set f l (Nat.div j 2) a) v r)
theorem T.get_zero {α : Type} (l : T α) (v : Option α) (r : T α) : (T.node l v r).get 0 = v := rfl
theorem T.get_succ {α : Type} (l : T α) (v : Option α) (r : T α) (j : Nat) : (T.node l v r).get (j + 1) = match Nat.beq (j % 2) 0 with | true => l.get (j / 2) | false => r.get (j / 2) := by
  cases hb : Nat.beq (j % 2) 0 <;> (have hb' : Nat.beq (Nat.mod j 2) 0 = _ := hb; simp only [T.get, T.set, hb'] <;> rfl)
theorem T.set_nil0 {α : Type} (f : Nat) (a : α) : T.set (f + 1) .nil 0 a = .node .nil (some a) .nil := rfl
theorem T.set_nilS {α : Type} (f j : Nat) (a : α) : T.set (f + 1) .nil (j + 1) a = match Nat.beq (j % 2) 0 with | true => .node (T.set f .nil (j / 2) a) none .nil | false => .node .nil none (T.set f .nil (j / 2) a) := by
  cases hb : Nat.beq (j % 2) 0 <;> (have hb' : Nat.beq (Nat.mod j 2) 0 = _ := hb; simp only [T.get, T.set, hb'] <;> rfl)
theorem T.set_node0 {α : Type} (f : Nat) (l : T α) (v : Option α) (r : T α) (a : α) : T.set (f + 1) (.node l v r) 0 a = .node l (some a) r := rfl
theorem T.set_nodeS {α : Type} (f j : Nat) (l : T α) (v : Option α) (r : T α) (a : α) : T.set (f + 1) (.node l v r) (j + 1) a = match Nat.beq (j % 2) 0 with | true => .node (T.set f l (j / 2) a) v r | false => .node l v (T.set f r (j / 2) a) := by
  cases hb : Nat.beq (j % 2) 0 <;> (have hb' : Nat.beq (Nat.mod j 2) 0 = _ := hb; simp only [T.get, T.set, hb'] <;> rfl)
def T.put {α : Type} (t : T α) (i : Nat) (a : α) : T α := T.set (Nat.succ i) t i a
theorem T.get_nil {α : Type} (i : Nat) : (T.nil : T α).get i = none := rfl
theorem T.get_single {α : Type} (v : Option α) (i : Nat) : (T.node .nil v .nil).get i = if i = 0 then v else none := by
  cases i with
  | zero => rfl
  | succ j => rw [T.get_succ, if_neg (by omega)]; split <;> rfl
theorem half_inj {j k : Nat} (h : j / 2 = k / 2) (h2 : j % 2 = k % 2) : j = k := by omega
theorem T.get_set {α : Type} : ∀ (f : Nat) (t : T α) (i : Nat) (a : α) (j : Nat), i < f → (T.set f t i a).get j = if i = j then some a else t.get j
  | 0, _, _, _, _, h => by omega
  | f + 1, t, 0, a, j, h => by
    cases t <;> cases j <;> simp [T.set_nil0, T.set_node0, T.get_zero, T.get_succ, T.get_nil]
    all_goals first | done | (split <;> rfl)
  | f + 1, t, i + 1, a, 0, h => by
    cases t <;> simp only [T.set_nilS, T.set_nodeS] <;> split <;> simp [T.get_zero, T.get_nil]
  | f + 1, t, i + 1, a, j + 1, h => by
    have hi : i / 2 < f := by omega
    have ih := fun (t : T α) (k : Nat) => T.get_set f t (i / 2) a k hi
    have key : ∀ k, k % 2 = i % 2 → ((i / 2 = k / 2) ↔ (i + 1 = k + 1)) := fun k hk => ⟨fun e => by have := half_inj e hk.symm; omega, fun e => by rw [Nat.succ.inj e]⟩
    cases t <;> simp only [T.set_nilS, T.set_nodeS] <;> cases hb : Nat.beq (i % 2) 0 <;> simp only [T.get_succ, T.get_nil] <;> cases hc : Nat.beq (j % 2) 0
    all_goals
      have hb' : (i % 2 = 0) = (Nat.beq (i % 2) 0 = true) := by simp
      have hc' : (j % 2 = 0) = (Nat.beq (j % 2) 0 = true) := by simp
      rw [hb] at hb'
      rw [hc] at hc'
      simp at hb' hc'
    all_goals first
      | (rw [ih]; by_cases e : i = j
         · subst e; simp
         · have : ¬ (i / 2 = j / 2) := fun e' => e (by omega)
           simp [e, this, T.get_nil]; done)
      | (have : ¬ (i = j) := fun e => by omega
         simp [this])
theorem T.get_put {α : Type} (t : T α) (i : Nat) (a : α) (j : Nat) : (t.put i a).get j = if i = j then some a else t.get j := T.get_set _ t i a j (Nat.lt_succ_self i)
theorem T.get_put_self {α : Type} (t : T α) (i : Nat) (a : α) : (t.put i a).get i = some a := by rw [T.get_put]; simp
theorem T.get_put_ne {α : Type} (t : T α) {i j : Nat} (a : α) (h : i ≠ j) : (t.put i a).get j = t.get j := by rw [T.get_put]; simp [h]
def T.beq {α : Type} (f : α → α → Bool) : T α → T α → Bool
  | .nil, .nil => true
  | .node l v r, .node l' v' r' => l.beq f l' && ((match v, v' with | none, none => true | some a, some b => f a b | _, _ => false) && r.beq f r')
  | _, _ => false
theorem T.beq_eq {α : Type} {f : α → α → Bool} (hf : ∀ a b, f a b = true → a = b) : ∀ (t u : T α), t.beq f u = true → t = u
  | .nil, .nil, _ => rfl
  | .nil, .node .., h => by simp [T.beq] at h
  | .node .., .nil, h => by simp [T.beq] at h
  | .node l v r, .node l' v' r', h => by
    simp only [T.beq, Bool.and_eq_true] at h
    obtain ⟨h1, h2, h3⟩ := h
    have e1 := T.beq_eq hf l l' h1
    have e3 := T.beq_eq hf r r' h3
    subst e1 e3
    cases v <;> cases v' <;> simp at h2 ⊢
    exact hf _ _ h2

/-! ### texts as numbers -/
/-- The n lowest digits of c to the base 256. -/
def dec : Nat → Nat → List UInt8
  | 0, _ => []
  | n + 1, c => UInt8.ofNat (c % 256) :: dec n (c / 256)
def enc : List UInt8 → Nat
  | [] => 0
  | b :: l => b.toNat + 256 * enc l
@[simp] theorem length_dec : ∀ n c, (dec n c).length = n
  | 0, _ => rfl
  | n + 1, c => by simp [dec, length_dec n]
theorem dec_enc : ∀ l, dec l.length (enc l) = l
  | [] => rfl
  | b :: l => by
    have hb := b.toNat_lt
    have h1 : (b.toNat + 256 * enc l) % 256 = b.toNat := by omega
    have h2 : (b.toNat + 256 * enc l) / 256 = enc l := by omega
    simp only [List.length_cons, dec, enc, h1, h2, dec_enc l]
    simp
theorem dec_mod : ∀ n c, dec n (c % 256 ^ n) = dec n c
  | 0, _ => rfl
  | n + 1, c => by
    have h1 : c % 256 ^ (n + 1) % 256 = c % 256 := by
      rw [Nat.pow_succ', Nat.mod_mul_right_mod]
    have h2 : c % 256 ^ (n + 1) / 256 = c / 256 % 256 ^ n := by
      rw [Nat.pow_succ', Nat.mod_mul_right_div_self]
    simp only [dec, h1, h2, dec_mod n]
theorem dec_inj : ∀ n c d, dec n c = dec n d → c % 256 ^ n = d % 256 ^ n
  | 0, c, d, _ => by simp [Nat.mod_one]
  | n + 1, c, d, h => by
    simp only [dec, List.cons.injEq] at h
    have h1 : c % 256 = d % 256 := by
      have := congrArg UInt8.toNat h.1
      simpa using this
    have h2 := dec_inj n _ _ h.2
    rw [Nat.pow_succ', Nat.mod_mul, Nat.mod_mul, h1, h2]
theorem dec_eq_iff (n c d : Nat) : dec n c = dec n d ↔ c % 256 ^ n = d % 256 ^ n :=
  ⟨dec_inj n c d, fun h => by rw [← dec_mod n c, ← dec_mod n d, h]⟩
theorem dec_append : ∀ m n c d, dec (m + n) (c % 256 ^ m + d * 256 ^ m) = dec m c ++ dec n d
  | 0, n, c, d => by simp [dec, Nat.mod_one]
  | m + 1, n, c, d => by
    have e : m + 1 + n = (m + n) + 1 := by omega
    rw [e]
    have h1 : (c % 256 ^ (m + 1) + d * 256 ^ (m + 1)) % 256 = c % 256 := by
      rw [Nat.pow_succ, ← Nat.mul_assoc, Nat.add_mul_mod_self_right, Nat.mul_comm, Nat.mod_mul_right_mod]
    have h2 : (c % 256 ^ (m + 1) + d * 256 ^ (m + 1)) / 256 = c / 256 % 256 ^ m + d * 256 ^ m := by
      rw [Nat.pow_succ, ← Nat.mul_assoc, Nat.add_mul_div_right _ _ (by decide : 0 < 256), Nat.mul_comm (256 ^ m) 256, Nat.mod_mul_right_div_self]
    simp only [dec, h1, h2, dec_append m n, List.cons_append]
theorem dec_drop : ∀ k n c, (dec n c).drop k = dec (n - k) (c / 256 ^ k)
  | 0, n, c => by simp
  | k + 1, 0, c => by simp [dec]
  | k + 1, n + 1, c => by
    simp only [dec, List.drop_succ_cons, dec_drop k n, Nat.add_sub_add_right]
    rw [Nat.div_div_eq_div_mul, ← Nat.pow_succ']
theorem dec_take : ∀ k n c, k ≤ n → (dec n c).take k = dec k c
  | 0, n, c, _ => by simp [dec]
  | k + 1, 0, c, h => by omega
  | k + 1, n + 1, c, h => by simp only [dec, List.take_succ_cons, dec_take k n _ (by omega)]
theorem dec_get (n c i : Nat) (h : i < n) : (dec n c)[i]? = some (UInt8.ofNat (c / 256 ^ i % 256)) := by
  have e : (dec n c)[i]? = ((dec n c).drop i)[0]? := by simp
  rw [e, dec_drop]
  obtain ⟨m, hm⟩ : ∃ m, n - i = m + 1 := ⟨n - i - 1, by omega⟩
  rw [hm]
  rfl
def txt (n c : Nat) : ByteArray := ⟨(dec n c).toArray⟩
@[simp] theorem size_txt (n c : Nat) : (txt n c).size = n := by simp [txt, ByteArray.size]
theorem txt_data (n c : Nat) : (txt n c).data.toList = dec n c := by simp [txt]

/-! ### terms -/
inductive SX where
  | lit (len code : Nat)
  | var (i : Nat)
  | cat (a b : SX)
  deriving DecidableEq, Repr
inductive IX where
  | lit (n : Int)
  | var (i : Nat)
  | bin (o : BinOp) (k : IntKind) (a b : IX)
  | slen (s : SX)
  deriving DecidableEq, Repr
inductive BX where
  | lit (b : Bool)
  | var (i : Nat)
  | not (b : BX)
  | ieq (a b : IX)
  | ilt (a b : IX)
  | seq (s t : SX)
  | and (a b : BX)
  deriving DecidableEq, Repr
inductive SV where
  | bool (b : BX)
  | int (k : IntKind) (n : IX)
  | str (s : SX)
  | nilp
  | ptr (id off : Nat)
  | nils
  | slc (id off len : Nat) (cap : Option Nat) (es : Nat)
  | nilm
  | map (id : Nat)
  | nilf
  | func (fn : Fn) (first captured : List SV)
  | nili
  | iface (t : TypeId) (v : SV)
  | agg (cs : List SV)
  | tup (vs : List SV)
  | opq (i : Nat) -- a slice that is an unknown itself
  | opf (id : Nat) -- a slice that the run made, of which nothing is known
  deriving Repr
instance : Inhabited SV := ⟨.tup []⟩

/-- What the unknowns are: of each block its number, where its known part begins, and how many cells it has from there on. -/
structure Env where
  blk : Nat → Option (Nat × Nat × Nat) := fun _ => none
  ints : List Int := []
  bools : List Bool := []
  strs : List ByteArray := []
  vals : List Value := []
  fv : Nat → Option Value := fun _ => none
  kp : Nat → Option Obj := fun _ => none -- blocks that have no name and stay as they are
structure Env.Le (E F : Env) : Prop where
  blk : ∀ (i : Nat) (x : Nat × Nat × Nat), E.blk i = some x → F.blk i = some x
  ints : ∀ (i : Nat) (x : Int), E.ints[i]? = some x → F.ints[i]? = some x
  bools : ∀ (i : Nat) (x : Bool), E.bools[i]? = some x → F.bools[i]? = some x
  strs : ∀ (i : Nat) (x : ByteArray), E.strs[i]? = some x → F.strs[i]? = some x
  vals : ∀ (i : Nat) (x : Value), E.vals[i]? = some x → F.vals[i]? = some x
  fv : ∀ (i : Nat) (x : Value), E.fv i = some x → F.fv i = some x
  kp : F.kp = E.kp
theorem Env.Le.refl (E : Env) : E.Le E := ⟨fun _ _ h => h, fun _ _ h => h, fun _ _ h => h, fun _ _ h => h, fun _ _ h => h, fun _ _ h => h, rfl⟩
theorem Env.Le.trans {E F G : Env} (h : E.Le F) (h' : F.Le G) : E.Le G :=
  ⟨fun i x e => h'.blk i x (h.blk i x e), fun i x e => h'.ints i x (h.ints i x e), fun i x e => h'.bools i x (h.bools i x e), fun i x e => h'.strs i x (h.strs i x e), fun i x e => h'.vals i x (h.vals i x e), fun i x e => h'.fv i x (h.fv i x e), h'.kp.trans h.kp⟩
def Env.add (E : Env) (id b base n : Nat) : Env := { E with blk := fun j => if j = id then some (b, base, n) else E.blk j }
theorem Env.le_add (E : Env) {id : Nat} (h : E.blk id = none) (b base n : Nat) : E.Le (E.add id b base n) :=
  ⟨fun i x hx => by
    show (if i = id then some (b, base, n) else E.blk i) = some x
    rw [if_neg (fun e => by rw [e, h] at hx; cases hx)]; exact hx, fun _ _ h => h, fun _ _ h => h, fun _ _ h => h, fun _ _ h => h, fun _ _ h => h, rfl⟩
theorem Env.add_new (E : Env) (id b base n : Nat) : (E.add id b base n).blk id = some (b, base, n) := by
  show (if id = id then some (b, base, n) else E.blk id) = _
  rw [if_pos rfl]
theorem Env.add_ne (E : Env) {id j : Nat} (b base n : Nat) (h : j ≠ id) : (E.add id b base n).blk j = E.blk j := by
  show (if j = id then some (b, base, n) else E.blk j) = _
  rw [if_neg h]

def SX.den (E : Env) : SX → Option ByteArray
  | .lit n c => some (txt n c)
  | .var i => E.strs[i]?
  | .cat a b => match a.den E, b.den E with
    | some x, some y => some (x ++ y)
    | _, _ => none
def intBin (o : BinOp) (k : IntKind) (x y : Int) : Option Int :=
  match o with
  | .add => some (k.wrap (x + y))
  | .sub => some (k.wrap (x - y))
  | .mul => some (k.wrap (x * y))
  | .quo => if y = 0 then none else some (k.wrap (x.tdiv y))
  | .rem => if y = 0 then none else some (x.tmod y)
  | .and => some (k.wrap (BitVec.ofInt k.bits x &&& BitVec.ofInt k.bits y).toNat)
  | .or => some (k.wrap (BitVec.ofInt k.bits x ||| BitVec.ofInt k.bits y).toNat)
  | .xor => some (k.wrap (BitVec.ofInt k.bits x ^^^ BitVec.ofInt k.bits y).toNat)
  | .andNot => some (k.wrap (BitVec.ofInt k.bits x &&& ~~~ BitVec.ofInt k.bits y).toNat)
  | .shl => if y < 0 then none else some (k.wrap (x * 2 ^ (min y.toNat k.bits)))
  | .shr => if y < 0 then none else some (x.fdiv (2 ^ (min y.toNat k.bits)))
  | _ => none
def IX.den (E : Env) : IX → Option Int
  | .lit n => some n
  | .var i => E.ints[i]?
  | .bin o k a b => match a.den E, b.den E with
    | some x, some y => intBin o k x y
    | _, _ => none
  | .slen s => match s.den E with
    | some b => some (b.size : Int)
    | none => none
def BX.den (E : Env) : BX → Option Bool
  | .lit b => some b
  | .var i => E.bools[i]?
  | .not b => match b.den E with
    | some x => some !x
    | none => none
  | .ieq a b => match a.den E, b.den E with
    | some x, some y => some (x == y)
    | _, _ => none
  | .ilt a b => match a.den E, b.den E with
    | some x, some y => some (decide (x < y))
    | _, _ => none
  | .seq s t => match s.den E, t.den E with
    | some x, some y => some (x.toList == y.toList)
    | _, _ => none
  | .and a b => match a.den E, b.den E with
    | some x, some y => some (x && y)
    | _, _ => none
mutual
def SV.den (E : Env) : SV → Option Value
  | .bool b => match b.den E with | some x => some (.bool x) | none => none
  | .int k n => match n.den E with | some x => some (.int k x) | none => none
  | .str s => match s.den E with | some x => some (.string x) | none => none
  | .nilp => some (.pointer none)
  | .ptr id off => match E.blk id with
    | some (b, base, _) => some (.pointer (some ⟨b, base + off, none⟩))
    | none => none
  | .nils => some (.slice none 0 0)
  | .slc id off len cap es => match E.blk id with
    | some (b, base, n) => match cap with
      | some c => some (.slice (some ⟨b, base + off, none⟩) len c)
      | none => some (.slice (some ⟨b, base + off, none⟩) len ((n - off) / es))
    | none => none
  | .nilm => some (.map none)
  | .map id => match E.blk id with
    | some (b, _, _) => some (.map (some b))
    | none => none
  | .nilf => some .nilFunc
  | .func fn first cap => match SV.denL E first, SV.denL E cap with
    | some x, some y => some (.func fn x.toArray y.toArray)
    | _, _ => none
  | .nili => some .nilIface
  | .iface t v => match v.den E with | some x => some (.iface t x) | none => none
  | .agg cs => match SV.denL E cs with | some x => some (.agg x.toArray) | none => none
  | .tup vs => match SV.denL E vs with | some x => some (.tuple x.toArray) | none => none
  | .opq i => match E.vals[i]? with | some (.slice a l c) => some (.slice a l c) | _ => none
  | .opf i => match E.fv i, E.blk i with | some (.slice (some ad) l c), some (b, base, n) => (match decide (ad = ⟨b, base, none⟩ ∧ l * 3 ≤ n ∧ l ≤ 1048576) with | true => some (.slice (some ad) l c) | false => none) | _, _ => none
def SV.denL (E : Env) : List SV → Option (List Value)
  | [] => some []
  | v :: vs => match v.den E, SV.denL E vs with
    | some a, some b => some (a :: b)
    | _, _ => none
end
theorem SX.mono {E F : Env} (le : E.Le F) : ∀ {s : SX} {b : ByteArray}, s.den E = some b → s.den F = some b
  | .lit n c, b, h => h
  | .var i, b, h => le.strs i b h
  | .cat x y, b, h => by
    simp only [SX.den] at h ⊢
    cases hx : x.den E with
    | none => simp [hx] at h
    | some u =>
      cases hy : y.den E with
      | none => simp [hx, hy] at h
      | some v =>
        rw [SX.mono le hx, SX.mono le hy]
        simpa [hx, hy] using h
theorem IX.mono {E F : Env} (le : E.Le F) : ∀ {s : IX} {b : Int}, s.den E = some b → s.den F = some b
  | .lit n, b, h => h
  | .var i, b, h => le.ints i b h
  | .slen s, b, h => by
    simp only [IX.den] at h ⊢
    cases hx : s.den E with
    | none => simp [hx] at h
    | some u => rw [SX.mono le hx]; simpa [hx] using h
  | .bin o k x y, b, h => by
    simp only [IX.den] at h ⊢
    cases hx : x.den E with
    | none => simp [hx] at h
    | some u =>
      cases hy : y.den E with
      | none => simp [hx, hy] at h
      | some v =>
        rw [IX.mono le hx, IX.mono le hy]
        simpa [hx, hy] using h
theorem BX.mono {E F : Env} (le : E.Le F) : ∀ {s : BX} {b : Bool}, s.den E = some b → s.den F = some b
  | .lit n, b, h => h
  | .var i, b, h => le.bools i b h
  | .not x, b, h => by
    simp only [BX.den] at h ⊢
    cases hx : x.den E with
    | none => simp [hx] at h
    | some u => rw [BX.mono le hx]; simpa [hx] using h
  | .ieq x y, b, h => by
    simp only [BX.den] at h ⊢
    cases hx : x.den E with
    | none => simp [hx] at h
    | some u =>
      cases hy : y.den E with
      | none => simp [hx, hy] at h
      | some v =>
        rw [IX.mono le hx, IX.mono le hy]
        simpa [hx, hy] using h
  | .ilt x y, b, h => by
    simp only [BX.den] at h ⊢
    cases hx : x.den E with
    | none => simp [hx] at h
    | some u =>
      cases hy : y.den E with
      | none => simp [hx, hy] at h
      | some v =>
        rw [IX.mono le hx, IX.mono le hy]
        simpa [hx, hy] using h
  | .seq x y, b, h => by
    simp only [BX.den] at h ⊢
    cases hx : x.den E with
    | none => simp [hx] at h
    | some u =>
      cases hy : y.den E with
      | none => simp [hx, hy] at h
      | some v =>
        rw [SX.mono le hx, SX.mono le hy]
        simpa [hx, hy] using h
  | .and x y, b, h => by
    simp only [BX.den] at h ⊢
    cases hx : x.den E with
    | none => simp [hx] at h
    | some u =>
      cases hy : y.den E with
      | none => simp [hx, hy] at h
      | some v =>
        rw [BX.mono le hx, BX.mono le hy]
        simpa [hx, hy] using h
mutual
theorem SV.mono {E F : Env} (le : E.Le F) : ∀ {s : SV} {b : Value}, s.den E = some b → s.den F = some b
  | .bool x, b, h => by
    simp only [SV.den] at h ⊢
    cases hx : x.den E with
    | none => simp [hx] at h
    | some u => rw [BX.mono le hx]; simpa [hx] using h
  | .int k x, b, h => by
    simp only [SV.den] at h ⊢
    cases hx : x.den E with
    | none => simp [hx] at h
    | some u => rw [IX.mono le hx]; simpa [hx] using h
  | .str x, b, h => by
    simp only [SV.den] at h ⊢
    cases hx : x.den E with
    | none => simp [hx] at h
    | some u => rw [SX.mono le hx]; simpa [hx] using h
  | .nilp, b, h => by simpa [SV.den] using h
  | .ptr id off, b, h => by
    simp only [SV.den] at h ⊢
    cases hx : E.blk id with
    | none => simp [hx] at h
    | some u => rw [le.blk id u hx]; simpa [hx] using h
  | .nils, b, h => by simpa [SV.den] using h
  | .slc id off len cap es, b, h => by
    simp only [SV.den] at h ⊢
    cases hx : E.blk id with
    | none => simp [hx] at h
    | some u => rw [le.blk id u hx]; simpa [hx] using h
  | .nilm, b, h => by simpa [SV.den] using h
  | .map id, b, h => by
    simp only [SV.den] at h ⊢
    cases hx : E.blk id with
    | none => simp [hx] at h
    | some u => rw [le.blk id u hx]; simpa [hx] using h
  | .nilf, b, h => by simpa [SV.den] using h
  | .func fn xs ys, b, h => by
    simp only [SV.den] at h ⊢
    cases hx : SV.denL E xs with
    | none => simp [hx] at h
    | some u =>
      cases hy : SV.denL E ys with
      | none => simp [hx, hy] at h
      | some v =>
        rw [SV.monoL le hx, SV.monoL le hy]
        simpa [hx, hy] using h
  | .nili, b, h => by simpa [SV.den] using h
  | .iface t x, b, h => by
    simp only [SV.den] at h ⊢
    cases hx : x.den E with
    | none => simp [hx] at h
    | some u => rw [SV.mono le hx]; simpa [hx] using h
  | .agg xs, b, h => by
    simp only [SV.den] at h ⊢
    cases hx : SV.denL E xs with
    | none => simp [hx] at h
    | some u => rw [SV.monoL le hx]; simpa [hx] using h
  | .tup xs, b, h => by
    simp only [SV.den] at h ⊢
    cases hx : SV.denL E xs with
    | none => simp [hx] at h
    | some u => rw [SV.monoL le hx]; simpa [hx] using h
  | .opq i, b, h => by
    simp only [SV.den] at h ⊢
    cases hx : E.vals[i]? with
    | none => simp [hx] at h
    | some u => rw [le.vals i u hx]; simpa [hx] using h
  | .opf i, b, h => by
    simp only [SV.den] at h ⊢
    cases hx : E.fv i with
    | none => simp [hx] at h
    | some u =>
      cases hy : E.blk i with
      | none => rw [hx, hy] at h; split at h <;> simp_all
      | some v => rw [le.fv i u hx, le.blk i v hy]; rw [hx, hy] at h; exact h
theorem SV.monoL {E F : Env} (le : E.Le F) : ∀ {s : List SV} {b : List Value}, SV.denL E s = some b → SV.denL F s = some b
  | [], b, h => by simpa [SV.denL] using h
  | x :: xs, b, h => by
    simp only [SV.denL] at h ⊢
    cases hx : x.den E with
    | none => simp [hx] at h
    | some u =>
      cases hy : SV.denL E xs with
      | none => simp [hx, hy] at h
      | some v =>
        rw [SV.mono le hx, SV.monoL le hy]
        simpa [hx, hy] using h
end
/-! ### the same value -/
mutual
def SV.beq : SV → SV → Bool
  | .bool a, .bool b => decide (a = b)
  | .int k a, .int l b => decide (k = l) && decide (a = b)
  | .str a, .str b => decide (a = b)
  | .nilp, .nilp => true
  | .ptr a b, .ptr c d => Nat.beq a c && Nat.beq b d
  | .nils, .nils => true
  | .slc a b c d e, .slc a' b' c' d' e' => Nat.beq a a' && (Nat.beq b b' && (Nat.beq c c' && (decide (d = d') && Nat.beq e e')))
  | .nilm, .nilm => true
  | .map a, .map b => Nat.beq a b
  | .nilf, .nilf => true
  | .func f xs ys, .func g us vs => decide (f = g) && (SV.beqL xs us && SV.beqL ys vs)
  | .nili, .nili => true
  | .iface t v, .iface u w => Nat.beq t u && SV.beq v w
  | .agg xs, .agg ys => SV.beqL xs ys
  | .tup xs, .tup ys => SV.beqL xs ys
  | .opq i, .opq j => Nat.beq i j
  | .opf i, .opf j => Nat.beq i j
  | _, _ => false
def SV.beqL : List SV → List SV → Bool
  | [], [] => true
  | a :: l, b :: m => SV.beq a b && SV.beqL l m
  | _, _ => false
end
mutual
theorem SV.beq_eq : ∀ (a b : SV), SV.beq a b = true → a = b
  | .bool a, b, h => by cases b <;> simp [SV.beq] at h ⊢; exact h
  | .int k a, b, h => by cases b <;> simp [SV.beq] at h ⊢; exact h
  | .str a, b, h => by cases b <;> simp [SV.beq] at h ⊢; exact h
  | .nilp, b, h => by cases b <;> simp [SV.beq] at h ⊢
  | .ptr a c, b, h => by cases b <;> simp [SV.beq] at h ⊢; exact h
  | .nils, b, h => by cases b <;> simp [SV.beq] at h ⊢
  | .slc a c d e f, b, h => by cases b <;> simp [SV.beq] at h ⊢; exact h
  | .nilm, b, h => by cases b <;> simp [SV.beq] at h ⊢
  | .map a, b, h => by cases b <;> simp [SV.beq] at h ⊢; exact h
  | .nilf, b, h => by cases b <;> simp [SV.beq] at h ⊢
  | .func f xs ys, b, h => by
    cases b <;> simp [SV.beq] at h ⊢
    exact ⟨h.1, SV.beqL_eq _ _ h.2.1, SV.beqL_eq _ _ h.2.2⟩
  | .nili, b, h => by cases b <;> simp [SV.beq] at h ⊢
  | .iface t v, b, h => by
    cases b <;> simp [SV.beq] at h ⊢
    exact ⟨h.1, SV.beq_eq _ _ h.2⟩
  | .agg xs, b, h => by
    cases b <;> simp [SV.beq] at h ⊢
    exact SV.beqL_eq _ _ h
  | .tup xs, b, h => by
    cases b <;> simp [SV.beq] at h ⊢
    exact SV.beqL_eq _ _ h
  | .opq i, b, h => by cases b <;> simp [SV.beq] at h ⊢; exact h
  | .opf i, b, h => by cases b <;> simp [SV.beq] at h ⊢; exact h
theorem SV.beqL_eq : ∀ (a b : List SV), SV.beqL a b = true → a = b
  | [], b, h => by cases b <;> simp [SV.beqL] at h ⊢
  | a :: l, b, h => by
    cases b <;> simp [SV.beqL] at h ⊢
    exact ⟨SV.beq_eq _ _ h.1, SV.beqL_eq _ _ h.2⟩
end
/-! ### lists of values -/
theorem denL_nil (E : Env) : SV.denL E [] = some [] := by simp [SV.denL]
theorem denL_cons_inv {E : Env} {v : SV} {vs : List SV} {L : List Value} (h : SV.denL E (v :: vs) = some L) : ∃ V Vs, L = V :: Vs ∧ v.den E = some V ∧ SV.denL E vs = some Vs := by
  simp only [SV.denL] at h
  cases hx : v.den E with
  | none => simp [hx] at h
  | some u =>
    cases hy : SV.denL E vs with
    | none => simp [hx, hy] at h
    | some w => exact ⟨u, w, by simpa [hx, hy] using h.symm, rfl, rfl⟩
theorem denL_cons {E : Env} {v : SV} {vs : List SV} {V : Value} {Vs : List Value} (h : v.den E = some V) (h' : SV.denL E vs = some Vs) : SV.denL E (v :: vs) = some (V :: Vs) := by
  simp [SV.denL, h, h']
theorem denL_get {E : Env} : ∀ {vs : List SV} {L : List Value} {i : Nat} {v : SV}, SV.denL E vs = some L → vs[i]? = some v → ∃ V, L[i]? = some V ∧ v.den E = some V
  | [], L, i, v, h, hi => by simp at hi
  | x :: xs, L, 0, v, h, hi => by
    obtain ⟨V, Vs, rfl, h1, h2⟩ := denL_cons_inv h
    simp at hi
    subst hi
    exact ⟨V, by simp, h1⟩
  | x :: xs, L, i + 1, v, h, hi => by
    obtain ⟨V, Vs, rfl, h1, h2⟩ := denL_cons_inv h
    simp at hi
    obtain ⟨U, hU, hv⟩ := denL_get h2 hi
    exact ⟨U, by simpa using hU, hv⟩
theorem denL_length {E : Env} : ∀ {vs : List SV} {L : List Value}, SV.denL E vs = some L → L.length = vs.length
  | [], L, h => by simp [SV.denL] at h; subst h; rfl
  | x :: xs, L, h => by
    obtain ⟨V, Vs, rfl, h1, h2⟩ := denL_cons_inv h
    simp [denL_length h2]
theorem denL_append {E : Env} : ∀ {xs ys : List SV} {L M : List Value}, SV.denL E xs = some L → SV.denL E ys = some M → SV.denL E (xs ++ ys) = some (L ++ M)
  | [], ys, L, M, h, h' => by simp [SV.denL] at h; subst h; simpa using h'
  | x :: xs, ys, L, M, h, h' => by
    obtain ⟨V, Vs, rfl, h1, h2⟩ := denL_cons_inv h
    exact denL_cons h1 (denL_append h2 h')
theorem denL_take {E : Env} : ∀ {xs : List SV} {L : List Value} (n : Nat), SV.denL E xs = some L → SV.denL E (xs.take n) = some (L.take n)
  | [], L, n, h => by simp [SV.denL] at h; subst h; simp [SV.denL]
  | x :: xs, L, 0, h => by simp [SV.denL]
  | x :: xs, L, n + 1, h => by
    obtain ⟨V, Vs, rfl, h1, h2⟩ := denL_cons_inv h
    exact denL_cons h1 (denL_take n h2)
theorem denL_drop {E : Env} : ∀ {xs : List SV} {L : List Value} (n : Nat), SV.denL E xs = some L → SV.denL E (xs.drop n) = some (L.drop n)
  | [], L, n, h => by simp [SV.denL] at h; subst h; simp [SV.denL]
  | x :: xs, L, 0, h => by simpa using h
  | x :: xs, L, n + 1, h => by
    obtain ⟨V, Vs, rfl, h1, h2⟩ := denL_cons_inv h
    simpa using denL_drop n h2
end Go.Sx
/-
  A symbolic run of Go functions by computation (part 1b): what a run may ask of the world and the unknowns: the table of the ASCII spaces.
-/
namespace Go.Sx
/-- The table's cells. -/
def spaceV : Array Value := (Lib.asciiSpaceTab.map fun z => Value.int .u8 z).toArray
def QQ (_ : Env) (w : World) : Prop := ∃ ty fr, w.heap[1]? = some (.cells spaceV ty fr)
theorem QQ.mono {E F : Env} (_ : E.Le F) {w : World} (h : QQ E w) : QQ F w := h
theorem QQ.below {E : Env} {w w' : World} (B : RowKit.Below w.heap.size w w') (h : QQ E w) : QQ E w' := by
  obtain ⟨ty, fr, h1⟩ := h
  exact ⟨ty, fr, (B.block _ (Array.getElem?_eq_some_iff.1 h1).1).trans h1⟩
theorem QQ.noBlk {E : Env} {w : World} {f : Nat → Option Obj} (h : QQ E w) : QQ { E with blk := fun _ => none, fv := fun _ => none, kp := f } w := h
end Go.Sx
/-
  A symbolic run of Go functions by computation (part 2): what is known of memory, and how it stands to a world.
-/
namespace Go.Sx
set_option linter.unusedVariables false

inductive SObj where
  | dead
  | cells (rows : T (List SV)) (nr es : Nat) (ty : TypeId) (opn ro : Bool)
  | map (es : List (SV × SV × Nat)) (clock : Nat)
  | miter (m since : Nat) (seen : List Nat) (stepped : Nat)
  | siter (s : SX) (pos : Nat)
  | umap (es : List (SV × SV)) -- a map, its entries in whatever order
  | raw -- cells of which nothing is known but that they are there
def SObj.live : SObj → Bool
  | .dead => false
  | _ => true
/-- What the run may write: what it made. -/
def SObj.own : SObj → Bool
  | .dead => false
  | .cells _ _ _ _ _ ro => !ro
  | .raw => false
  | _ => true
theorem SObj.own_live {o : SObj} (h : o.own = true) : o.live = true := by
  cases o with
  | dead => cases h
  | _ => rfl
def entsBeq : List (SV × SV × Nat) → List (SV × SV × Nat) → Bool
  | [], [] => true
  | (k, v, n) :: l, (k', v', n') :: l' => SV.beq k k' && (SV.beq v v' && (Nat.beq n n' && entsBeq l l'))
  | _, _ => false
theorem entsBeq_eq : ∀ (l m : List (SV × SV × Nat)), entsBeq l m = true → l = m
  | [], [], _ => rfl
  | [], _ :: _, h => by simp [entsBeq] at h
  | _ :: _, [], h => by simp [entsBeq] at h
  | (k, v, n) :: l, (k', v', n') :: l', h => by
    simp [entsBeq] at h
    obtain ⟨h1, h2, h3, h4⟩ := h
    rw [SV.beq_eq _ _ h1, SV.beq_eq _ _ h2, h3, entsBeq_eq _ _ h4]
def pairsBeq : List (SV × SV) → List (SV × SV) → Bool
  | [], [] => true
  | (k, v) :: l, (k', v') :: l' => SV.beq k k' && (SV.beq v v' && pairsBeq l l')
  | _, _ => false
theorem pairsBeq_eq : ∀ (l m : List (SV × SV)), pairsBeq l m = true → l = m
  | [], [], _ => rfl
  | [], _ :: _, h => by simp [pairsBeq] at h
  | _ :: _, [], h => by simp [pairsBeq] at h
  | (k, v) :: l, (k', v') :: l', h => by
    simp [pairsBeq] at h
    obtain ⟨h1, h2, h4⟩ := h
    rw [SV.beq_eq _ _ h1, SV.beq_eq _ _ h2, pairsBeq_eq _ _ h4]
def SObj.beq : SObj → SObj → Bool
  | .dead, .dead => true
  | .cells rows nr es ty opn ro, .cells rows' nr' es' ty' opn' ro' => Nat.beq nr nr' && (Nat.beq es es' && (Nat.beq ty ty' && ((opn == opn') && ((ro == ro') && rows.beq SV.beqL rows'))))
  | .map es c, .map es' c' => Nat.beq c c' && entsBeq es es'
  | .miter a b c d, .miter a' b' c' d' => Nat.beq a a' && (Nat.beq b b' && (decide (c = c') && Nat.beq d d'))
  | .siter s p, .siter s' p' => decide (s = s') && Nat.beq p p'
  | .umap l, .umap l' => pairsBeq l l'
  | .raw, .raw => true
  | _, _ => false
theorem SObj.beq_eq (a b : SObj) (h : SObj.beq a b = true) : a = b := by
  cases a <;> cases b <;> simp [SObj.beq] at h ⊢
  · obtain ⟨h1, h2, h3, h4, h5, h6⟩ := h
    exact ⟨T.beq_eq SV.beqL_eq _ _ h6, h1, h2, h3, h4, h5⟩
  · exact ⟨entsBeq_eq _ _ h.2, h.1⟩
  · exact h
  · exact h
  · exact pairsBeq_eq _ _ h

structure St where
  h : T SObj := .nil
  next : Nat := 0
  asm : List (BX × Bool) := []
  resv : List Nat := []

def rowsOk (E : Env) (rows : T (List SV)) (nr es base : Nat) (cs : Array Value) : Prop :=
  ∀ r row, rows.get r = some row → r < nr ∧ row.length = es ∧ ∃ L, SV.denL E row = some L ∧ ∀ (j : Nat) (V : Value), L[j]? = some V → cs[base + (r * es + j)]? = some V
def entsOk (E : Env) : List (SV × SV × Nat) → List MapEntry → Prop
  | [], [] => True
  | (k, v, n) :: l, e :: m => k.den E = some e.key ∧ v.den E = some e.val ∧ e.born = n ∧ entsOk E l m
  | _, _ => False
def pairOf (e : SV × SV × Nat) : SV × SV := (e.1, e.2.1)
def ObjOk (E : Env) (base n : Nat) : SObj → Option Obj → Prop
  | .dead, _ => True
  | .cells rows nr es ty opn ro, O => ∃ cs fr ty', O = some (.cells cs ty' fr) ∧ (ro = false → fr = (0, 0) ∧ ty = ty') ∧ (base + n ≤ cs.size ∧ (ro = false → cs.size = base + n)) ∧ nr * es ≤ n ∧ (opn = false → base = 0 ∧ nr * es = n) ∧ rowsOk E rows nr es base cs
  | .map ents clock, O => ∃ es, O = some (.map es clock) ∧ entsOk E ents es.toList
  | .miter m since seen stepped, O => base = 0 ∧ ∃ x y z, O = some (.mapIter (some x) since seen.toArray stepped) ∧ E.blk m = some (x, y, z)
  | .siter s pos, O => base = 0 ∧ ∃ bs, s.den E = some bs ∧ O = some (.stringIter bs pos)
  | .raw, O => ∃ cs ty fr, O = some (.cells cs ty fr) ∧ base + n ≤ cs.size ∧ ∀ i, i < n → ∃ V, cs[base + i]? = some V ∧ V.oneCell' = true
  | .umap l, O => ∃ es clock ents, O = some (.map es clock) ∧ (ents.map pairOf).Perm l ∧ entsOk E ents es.toList
theorem szOk {a b : Nat} {p : Prop} (h : a = b) : b ≤ a ∧ (p → a = b) := ⟨Nat.le_of_eq h.symm, fun _ => h⟩
theorem rowsOk.mono {E F : Env} (le : E.Le F) {rows : T (List SV)} {nr es base : Nat} {cs : Array Value} (h : rowsOk E rows nr es base cs) : rowsOk F rows nr es base cs := by
  intro r row hr
  obtain ⟨h1, h2, L, h3, h4⟩ := h r row hr
  exact ⟨h1, h2, L, SV.monoL le h3, h4⟩
theorem entsOk.mono {E F : Env} (le : E.Le F) : ∀ {l : List (SV × SV × Nat)} {m : List MapEntry}, entsOk E l m → entsOk F l m
  | [], [], _ => trivial
  | [], _ :: _, h => h.elim
  | (_, _, _) :: _, [], h => h.elim
  | (k, v, n) :: l, e :: m, h => ⟨SV.mono le h.1, SV.mono le h.2.1, h.2.2.1, entsOk.mono le h.2.2.2⟩
theorem ObjOk.mono {E F : Env} (le : E.Le F) {base n : Nat} {o : SObj} {O : Option Obj} (h : ObjOk E base n o O) : ObjOk F base n o O := by
  cases o with
  | dead => trivial
  | cells rows nr es ty opn ro => obtain ⟨cs, fr, ty', h1, h2, h3, h4, h5, h6⟩ := h; exact ⟨cs, fr, ty', h1, h2, h3, h4, h5, h6.mono le⟩
  | map ents clock => obtain ⟨es, h1, h2⟩ := h; exact ⟨es, h1, h2.mono le⟩
  | miter m since seen stepped => obtain ⟨h0, x, y, z, h1, h2⟩ := h; exact ⟨h0, x, y, z, h1, le.blk _ _ h2⟩
  | siter s pos => obtain ⟨h0, bs, h1, h2⟩ := h; exact ⟨h0, bs, SX.mono le h1, h2⟩
  | umap l => obtain ⟨es, c, ents, h1, h2, h3⟩ := h; exact ⟨es, c, ents, h1, h2, h3.mono le⟩
  | raw => exact h

/-- What the heap says is so in this world. -/
def Mem (E : Env) (h : T SObj) (w : World) : Prop :=
  ∀ id o, h.get id = some o → o.live = true → ∃ b base n, E.blk id = some (b, base, n) ∧ ObjOk E base n o w.heap[b]?
/-- The world w came of w0, and is as the state says. -/
structure Rel (w0 : World) (E : Env) (s : St) (w : World) : Prop where
  os : w.os = w0.os
  tape : w.tape = w0.tape
  output : w.output = w0.output
  size : w0.heap.size ≤ w.heap.size
  frame : ∀ k, k < w0.heap.size → w.heap[k]? = w0.heap[k]?
  mem : Mem E s.h w
  fresh : ∀ id, s.next ≤ id → E.blk id = none
  new : ∀ id o b base n, s.h.get id = some o → o.own = true → E.blk id = some (b, base, n) → w0.heap.size ≤ b
  inj : ∀ id id' o o' x x', s.h.get id = some o → s.h.get id' = some o' → o.own = true → o'.live = true → E.blk id = some x → E.blk id' = some x' → x.1 = x'.1 → id = id'
  asm : ∀ c v, (c, v) ∈ s.asm → c.den E = some v
  rsv : ∀ id, id ∈ s.resv → id < s.next ∧ E.blk id = none
  qq : QQ E w0
  vfr : ∀ id, s.next ≤ id → E.fv id = none
  keep : ∀ k O, E.kp k = some O → w0.heap.size ≤ k ∧ w.heap[k]? = some O
  apart : ∀ id o x, s.h.get id = some o → o.live = true → E.blk id = some x → E.kp x.1 = none

theorem Rel.below {w0 w : World} {E : Env} {s : St} (R : Rel w0 E s w) : RowKit.Below w0.heap.size w0 w := ⟨R.os, R.tape, R.output, R.size, R.frame⟩
theorem Rel.start (E : Env) (w : World) (asm : List (BX × Bool)) (h : ∀ id, E.blk id = none) (ha : ∀ c v, (c, v) ∈ asm → c.den E = some v) (hq : QQ E w) (hv : ∀ id, E.fv id = none := by intro; rfl) (hk : ∀ k, E.kp k = none := by intro; rfl) : Rel w E { asm := asm } w where
  os := rfl
  tape := rfl
  output := rfl
  size := Nat.le_refl _
  frame := fun _ _ => rfl
  mem := fun id o h => by simp [T.get_nil] at h
  fresh := fun id _ => h id
  new := fun id o b base n h => by simp [T.get_nil] at h
  inj := fun id id' o o' x x' h => by simp [T.get_nil] at h
  asm := ha
  rsv := fun id h => by simp at h
  qq := hq
  vfr := fun id _ => hv id
  keep := fun k O h => by rw [hk] at h; cases h
  apart := fun id o x h => by simp [T.get_nil] at h
theorem ObjOk.lt {E : Env} {base n : Nat} {o : SObj} {w : World} {b : Nat} (h : ObjOk E base n o w.heap[b]?) (hl : o.live = true) : b < w.heap.size := by
  have key : ∀ O, w.heap[b]? = some O → b < w.heap.size := fun O e => (Array.getElem?_eq_some_iff.1 e).1
  cases o with
  | dead => cases hl
  | cells rows nr es ty opn ro => obtain ⟨cs, fr, ty', h1, -⟩ := h; exact key _ h1
  | map ents clock => obtain ⟨es, h1, -⟩ := h; exact key _ h1
  | miter m since seen stepped => obtain ⟨-, x, y, z, h1, -⟩ := h; exact key _ h1
  | siter s pos => obtain ⟨-, bs, -, h1⟩ := h; exact key _ h1
  | umap l => obtain ⟨es, c, ents, h1, -⟩ := h; exact key _ h1
  | raw => obtain ⟨cs, ty, fr, h1, -⟩ := h; exact key _ h1
/-- w' is w but for block b, which is O. -/
structure Upd (w w' : World) (b : Nat) (O : Obj) : Prop where
  os : w'.os = w.os
  tape : w'.tape = w.tape
  output : w'.output = w.output
  size : w'.heap.size = w.heap.size
  here : w'.heap[b]? = some O
  other : ∀ k, k ≠ b → w'.heap[k]? = w.heap[k]?
theorem Upd.setRow {w : World} {b : Nat} {old : Array Value} {t : TypeId} {fr : Nat × Nat} (h : w.heap[b]? = some (.cells old t fr)) (new : Array Value) : Upd w (w.setRow b new) b (.cells new t fr) :=
  ⟨rfl, rfl, rfl, size_setRow _ _ _, setRow_heap _ _ _ _ _ _ h, fun k hk => setRow_other _ _ _ _ hk⟩
theorem Upd.setObj {w : World} {b : Nat} (h : b < w.heap.size) (O : Obj) : Upd w { w with heap := w.heap.setIfInBounds b O } b O :=
  ⟨rfl, rfl, rfl, by simp, by simp [h], fun k hk => by simp [Ne.symm hk]⟩
section
variable {w0 w w' : World} {E : Env} {s : St}
theorem Rel.same (R : Rel w0 E s w) (h : w'.heap = w.heap) (h1 : w'.os = w.os) (h2 : w'.tape = w.tape) (h3 : w'.output = w.output) : Rel w0 E s w' :=
  ⟨h1.trans R.os, h2.trans R.tape, h3.trans R.output, by rw [h]; exact R.size, by rw [h]; exact R.frame, by unfold Mem; rw [h]; exact R.mem, R.fresh, R.new, R.inj, R.asm, R.rsv, R.qq, R.vfr, by rw [h]; exact R.keep, R.apart⟩
theorem Rel.upd (R : Rel w0 E s w) {id : Nat} {o : SObj} (hid : s.h.get id = some o) (hl : o.own = true) {b base n : Nat} (hb : E.blk id = some (b, base, n)) {O : Obj} (U : Upd w w' b O) {so : SObj} (hO : ObjOk E base n so (some O)) :
    Rel w0 E { s with h := s.h.put id so } w' := by
  have hbw : w0.heap.size ≤ b := R.new id o b base n hid hl hb
  refine ⟨U.os.trans R.os, U.tape.trans R.tape, U.output.trans R.output, by rw [U.size]; exact R.size, fun k hk => ?_, fun id' o' h' hl' => ?_, R.fresh, fun id' o' b' base' n' h' hl' hb' => ?_, fun i j o1 o2 x1 x2 h1 h2 l1 l2 e1 e2 e => ?_, R.asm, R.rsv, R.qq, R.vfr, fun k O hk => ⟨(R.keep k O hk).1, ?_⟩, fun id' o' x h' hl' hx => ?_⟩
  · rw [U.other k (by omega)]; exact R.frame k hk
  · simp only [T.get_put] at h'
    split at h'
    · rename_i e; subst e
      cases h'
      exact ⟨b, base, n, hb, by rw [U.here]; exact hO⟩
    · rename_i e
      obtain ⟨b', base', n', e1, e2⟩ := R.mem id' o' h' hl'
      refine ⟨b', base', n', e1, ?_⟩
      rw [U.other b' (fun e' => ?_)]
      · exact e2
      · exact e (R.inj id id' o o' _ _ hid h' hl hl' hb e1 e'.symm)
  · simp only [T.get_put] at h'
    split at h'
    · rename_i e; subst e
      rw [hb] at hb'; cases hb'; exact hbw
    · exact R.new id' o' b' base' n' h' hl' hb'
  · simp only [T.get_put] at h1 h2
    split at h1 <;> split at h2
    · rename_i a c; exact a.symm.trans c
    · rename_i a c; subst a; exact R.inj id j o o2 x1 x2 hid h2 hl l2 e1 e2 e
    · rename_i a c; subst c; exact R.inj i id o1 o x1 x2 h1 hid l1 (SObj.own_live hl) e1 e2 e
    · exact R.inj i j o1 o2 x1 x2 h1 h2 l1 l2 e1 e2 e
  · rw [U.other k (fun e => ?_)]
    · exact (R.keep k O hk).2
    · subst e
      have : E.kp k = none := R.apart id o _ hid (SObj.own_live hl) hb
      rw [this] at hk
      cases hk
  · simp only [T.get_put] at h'
    split at h'
    · rename_i e; subst e
      exact R.apart id o x hid (SObj.own_live hl) hx
    · exact R.apart id' o' x h' hl' hx
theorem Rel.kill (R : Rel w0 E s w) (id : Nat) : Rel w0 E { s with h := s.h.put id .dead } w := by
  refine ⟨R.os, R.tape, R.output, R.size, R.frame, fun id' o' h' hl' => ?_, R.fresh, fun id' o' b' base' n' h' hl' hb' => ?_, fun i j o1 o2 x1 x2 h1 h2 l1 l2 e1 e2 e => ?_, R.asm, R.rsv, R.qq, R.vfr, R.keep, fun id' o' x h' hl' hx => ?_⟩
  · simp only [T.get_put] at h'
    split at h'
    · cases h'; cases hl'
    · exact R.mem id' o' h' hl'
  · simp only [T.get_put] at h'
    split at h'
    · cases h'; cases hl'
    · exact R.new id' o' b' base' n' h' hl' hb'
  · simp only [T.get_put] at h1 h2
    split at h1
    · cases h1; cases l1
    · split at h2
      · cases h2; cases l2
      · exact R.inj i j o1 o2 x1 x2 h1 h2 l1 l2 e1 e2 e
  · simp only [T.get_put] at h'
    split at h'
    · cases h'; cases hl'
    · exact R.apart id' o' x h' hl' hx
/-- A name for a block that no live name has. -/
theorem Rel.name (R : Rel w0 E s w) {b base n : Nat} (hb : w0.heap.size ≤ b) (hno : ∀ id o x, s.h.get id = some o → o.live = true → E.blk id = some x → x.1 ≠ b) {so : SObj} (hO : ObjOk (E.add s.next b base n) base n so w.heap[b]?) (hkp : E.kp b = none) :
    Rel w0 (E.add s.next b base n) { s with h := s.h.put s.next so, next := s.next + 1 } w := by
  have hn : E.blk s.next = none := R.fresh s.next (Nat.le_refl _)
  have le := E.le_add hn b base n
  have old : ∀ id o, s.h.get id = some o → o.live = true → s.next ≠ id := fun id o h hl e => by
    subst e
    obtain ⟨_, _, _, e1, _⟩ := R.mem _ o h hl
    rw [hn] at e1; cases e1
  refine ⟨R.os, R.tape, R.output, R.size, R.frame, fun id' o' h' hl' => ?_, fun id' hid' => ?_, fun id' o' b' base' n' h' hl' hb' => ?_, fun i j o1 o2 x1 x2 h1 h2 l1 l2 e1 e2 e => ?_, fun c v h => BX.mono le (R.asm c v h), fun id h => ⟨Nat.lt_succ_of_lt (R.rsv id h).1, by rw [Env.add_ne _ _ _ _ (Nat.ne_of_lt (R.rsv id h).1)]; exact (R.rsv id h).2⟩, QQ.mono le R.qq, fun id h => R.vfr id (Nat.le_of_succ_le h), fun k O hk => R.keep k O hk, fun id' o' x h' hl' hx => ?_⟩
  · simp only [T.get_put] at h'
    split at h'
    · rename_i e; subst e
      cases h'
      exact ⟨b, base, n, E.add_new _ _ _ _, hO⟩
    · obtain ⟨b', base', n', e1, e2⟩ := R.mem id' o' h' hl'
      exact ⟨b', base', n', le.blk _ _ e1, e2.mono le⟩
  · have h1 : s.next + 1 ≤ id' := hid'
    rw [Env.add_ne _ _ _ _ (by omega)]
    exact R.fresh id' (by omega)
  · simp only [T.get_put] at h'
    split at h'
    · rename_i e; subst e
      rw [Env.add_new] at hb'; cases hb'; exact hb
    · rename_i e
      rw [Env.add_ne _ _ _ _ (Ne.symm e)] at hb'
      exact R.new id' o' b' base' n' h' hl' hb'
  · simp only [T.get_put] at h1 h2
    split at h1 <;> split at h2
    · rename_i a c; exact a.symm.trans c
    · rename_i a c; subst a
      rw [Env.add_new] at e1; cases e1
      rw [Env.add_ne _ _ _ _ (Ne.symm c)] at e2
      exact (hno j o2 x2 h2 l2 e2 e.symm).elim
    · rename_i a c; subst c
      rw [Env.add_new] at e2; cases e2
      rw [Env.add_ne _ _ _ _ (Ne.symm a)] at e1
      exact (hno i o1 x1 h1 (SObj.own_live l1) e1 e).elim
    · rename_i a c
      rw [Env.add_ne _ _ _ _ (Ne.symm a)] at e1
      rw [Env.add_ne _ _ _ _ (Ne.symm c)] at e2
      exact R.inj i j o1 o2 x1 x2 h1 h2 l1 l2 e1 e2 e
  · simp only [T.get_put] at h'
    split at h'
    · rename_i e; subst e
      rw [Env.add_new] at hx; cases hx
      exact hkp
    · rename_i e
      rw [Env.add_ne _ _ _ _ (Ne.symm e)] at hx
      exact R.apart id' o' x h' hl' hx
theorem Rel.alloc0 (R : Rel w0 E s w) (O : Obj) : Rel w0 E s (w.alloc O) := by
  refine ⟨R.os, R.tape, R.output, by rw [World.size_alloc]; have := R.size; omega, fun k hk => ?_, fun id' o' h' hl' => ?_, R.fresh, R.new, R.inj, R.asm, R.rsv, R.qq, R.vfr, fun k O' hk => ⟨(R.keep k O' hk).1, ?_⟩, R.apart⟩
  · rw [heap_alloc_old _ _ _ (by have := R.size; omega)]; exact R.frame k hk
  · obtain ⟨b', base', n', e1, e2⟩ := R.mem id' o' h' hl'
    exact ⟨b', base', n', e1, by rw [heap_alloc_old _ _ _ (e2.lt hl')]; exact e2⟩
  · have h1 := (R.keep k O' hk).2
    rw [heap_alloc_old _ _ _ (Array.getElem?_eq_some_iff.1 h1).1]; exact h1
theorem Rel.kpNew (R : Rel w0 E s w) {b : Nat} (h : w.heap.size ≤ b) : E.kp b = none := by
  cases hk : E.kp b with
  | none => rfl
  | some O =>
    have h1 := (R.keep b O hk).2
    have := (Array.getElem?_eq_some_iff.1 h1).1
    omega
/-- A new block, and its name. -/
theorem Rel.alloc (R : Rel w0 E s w) (O : Obj) (n : Nat) {so : SObj} (hO : ObjOk (E.add s.next w.heap.size 0 n) 0 n so (some O)) :
    Rel w0 (E.add s.next w.heap.size 0 n) { s with h := s.h.put s.next so, next := s.next + 1 } (w.alloc O) := by
  refine (R.alloc0 O).name R.size (fun id o x h hl hx e => ?_) (by rw [heap_alloc_new]; exact hO) (R.kpNew (Nat.le_refl _))
  obtain ⟨b', base', n', e1, e2⟩ := R.mem id o h hl
  rw [hx] at e1; cases e1
  have := e2.lt hl
  simp at e
  omega
/-- A name is kept for later. -/
def reserve (s : St) : St := { s with next := s.next + 1, resv := s.next :: s.resv }
theorem Rel.reserve (R : Rel w0 E s w) : Rel w0 E (reserve s) w := by
  refine ⟨R.os, R.tape, R.output, R.size, R.frame, R.mem, fun id h => R.fresh id (by have : s.next + 1 ≤ id := h; omega), R.new, R.inj, R.asm, fun id h => ?_, R.qq, fun id h => R.vfr id (Nat.le_of_succ_le h), R.keep, R.apart⟩
  rcases List.mem_cons.1 h with rfl | h
  · exact ⟨Nat.lt_succ_self _, R.fresh _ (Nat.le_refl _)⟩
  · exact ⟨Nat.lt_succ_of_lt (R.rsv id h).1, (R.rsv id h).2⟩
/-- A new block under a name that was kept. -/
theorem Rel.allocAt (R : Rel w0 E s w) {id : Nat} (hid : id ∈ s.resv) (O : Obj) (n : Nat) {so : SObj} (hO : ObjOk (E.add id w.heap.size 0 n) 0 n so (some O)) :
    Rel w0 (E.add id w.heap.size 0 n) { s with h := s.h.put id so, resv := s.resv.filter fun j => !Nat.beq j id } (w.alloc O) := by
  obtain ⟨hlt, hn⟩ := R.rsv id hid
  have le := E.le_add hn w.heap.size 0 n
  have hsz := R.size
  have old : ∀ id' o, s.h.get id' = some o → o.live = true → id' ≠ id ∧ ∃ b base n', E.blk id' = some (b, base, n') ∧ b < w.heap.size ∧ ObjOk E base n' o w.heap[b]? := fun id' o h hl => by
    obtain ⟨b', base', n', e1, e2⟩ := R.mem id' o h hl
    exact ⟨(fun e => by subst e; rw [hn] at e1; cases e1), b', base', n', e1, e2.lt hl, e2⟩
  refine ⟨R.os, R.tape, R.output, by rw [World.size_alloc]; omega, fun k hk => by rw [heap_alloc_old _ _ _ (by omega)]; exact R.frame k hk, fun id' o' h' hl' => ?_, fun id' hid' => ?_, fun id' o' b' base' n' h' hl' hb' => ?_, fun i j o1 o2 x1 x2 h1 h2 l1 l2 e1 e2 e => ?_, fun c v h => BX.mono le (R.asm c v h), fun id' h' => ?_, QQ.mono le R.qq, R.vfr, fun k O' hk => ⟨(R.keep k O' hk).1, ?_⟩, fun id' o' x h' hl' hx => ?_⟩
  · simp only [T.get_put] at h'
    split at h'
    · rename_i e; subst e
      cases h'
      exact ⟨_, _, _, E.add_new _ _ _ _, by rw [heap_alloc_new]; exact hO⟩
    · obtain ⟨-, b', base', n', e1, e2, e3⟩ := old id' o' h' hl'
      exact ⟨b', base', n', le.blk _ _ e1, by rw [heap_alloc_old _ _ _ e2]; exact e3.mono le⟩
  · have h1 : s.next ≤ id' := hid'
    rw [Env.add_ne _ _ _ _ (by omega)]
    exact R.fresh id' h1
  · simp only [T.get_put] at h'
    split at h'
    · rename_i e; subst e
      rw [Env.add_new] at hb'; cases hb'; exact hsz
    · rename_i e
      rw [Env.add_ne _ _ _ _ (Ne.symm e)] at hb'
      exact R.new id' o' b' base' n' h' hl' hb'
  · simp only [T.get_put] at h1 h2
    have fresh : ∀ k o x, s.h.get k = some o → o.live = true → E.blk k = some x → x.1 ≠ w.heap.size := fun k o x hk hl hx => by
      obtain ⟨-, b', base', n', e1, e2, -⟩ := old k o hk hl
      rw [hx] at e1; cases e1
      simp only
      omega
    split at h1 <;> split at h2
    · rename_i a c; exact a.symm.trans c
    · rename_i a c; subst a
      rw [Env.add_new] at e1; cases e1
      rw [Env.add_ne _ _ _ _ (Ne.symm c)] at e2
      exact (fresh j o2 x2 h2 l2 e2 e.symm).elim
    · rename_i a c; subst c
      rw [Env.add_new] at e2; cases e2
      rw [Env.add_ne _ _ _ _ (Ne.symm a)] at e1
      exact (fresh i o1 x1 h1 (SObj.own_live l1) e1 e).elim
    · rename_i a c
      rw [Env.add_ne _ _ _ _ (Ne.symm a)] at e1
      rw [Env.add_ne _ _ _ _ (Ne.symm c)] at e2
      exact R.inj i j o1 o2 x1 x2 h1 h2 l1 l2 e1 e2 e
  · have h1 := List.mem_filter.1 h'
    have hne : id' ≠ id := fun e => by subst e; have := h1.2; simp at this
    refine ⟨(R.rsv id' h1.1).1, ?_⟩
    rw [Env.add_ne _ _ _ _ hne]
    exact (R.rsv id' h1.1).2
  · have h1 := (R.keep k O' hk).2
    rw [heap_alloc_old _ _ _ (Array.getElem?_eq_some_iff.1 h1).1]; exact h1
  · simp only [T.get_put] at h'
    split at h'
    · rename_i e; subst e
      rw [Env.add_new] at hx; cases hx
      exact R.kpNew (Nat.le_refl _)
    · rename_i e
      rw [Env.add_ne _ _ _ _ (Ne.symm e)] at hx
      exact R.apart id' o' x h' hl' hx
/-- A name for a new block of which nothing is known, and for a slice of it. -/
def Env.addV (E : Env) (id b base n : Nat) (V : Value) : Env := { E with blk := fun j => if j = id then some (b, base, n) else E.blk j, fv := fun j => if j = id then some V else E.fv j }
theorem Env.le_addV (E : Env) {id : Nat} (h : E.blk id = none) (h2 : E.fv id = none) (b base n : Nat) (V : Value) : E.Le (E.addV id b base n V) :=
  ⟨fun i x hx => by
    show (if i = id then some (b, base, n) else E.blk i) = some x
    rw [if_neg (fun e => by rw [e, h] at hx; cases hx)]; exact hx, fun _ _ h => h, fun _ _ h => h, fun _ _ h => h, fun _ _ h => h, fun i x hx => by
    show (if i = id then some V else E.fv i) = some x
    rw [if_neg (fun e => by rw [e, h2] at hx; cases hx)]; exact hx, rfl⟩
theorem Rel.nameRo (R : Rel w0 E s w) {b base n : Nat} (V : Value) (hno : ∀ id o x, s.h.get id = some o → o.own = true → E.blk id = some x → x.1 ≠ b) {cs : Array Value} {ty : TypeId} {fr : Nat × Nat} (hb : w.heap[b]? = some (.cells cs ty fr)) (hn : base + n ≤ cs.size) (h1 : ∀ i, i < n → ∃ U, cs[base + i]? = some U ∧ U.oneCell' = true) (hkp : E.kp b = none) :
    E.Le (E.addV s.next b base n V) ∧ Rel w0 (E.addV s.next b base n V) { s with h := s.h.put s.next .raw, next := s.next + 1 } w := by
  have hn1 : E.blk s.next = none := R.fresh s.next (Nat.le_refl _)
  have hn2 : E.fv s.next = none := R.vfr s.next (Nat.le_refl _)
  have le := E.le_addV hn1 hn2 b base n V
  have ne : ∀ id, id ≠ s.next → (E.addV s.next b base n V).blk id = E.blk id := fun id h => by
    show (if id = s.next then some (b, base, n) else E.blk id) = _
    rw [if_neg h]
  have nw : (E.addV s.next b base n V).blk s.next = some (b, base, n) := by
    show (if s.next = s.next then some (b, base, n) else E.blk s.next) = _
    rw [if_pos rfl]
  refine ⟨le, R.os, R.tape, R.output, R.size, R.frame, fun id' o' h' hl' => ?_, fun id' hid' => ?_, fun id' o' b' base' n' h' hl' hb' => ?_, fun i j o1 o2 x1 x2 h1 h2 l1 l2 e1 e2 e => ?_, fun c v h => BX.mono le (R.asm c v h), fun id h => ⟨Nat.lt_succ_of_lt (R.rsv id h).1, by rw [ne _ (Nat.ne_of_lt (R.rsv id h).1)]; exact (R.rsv id h).2⟩, QQ.mono le R.qq, fun id h => ?_, fun k O hk => R.keep k O hk, fun id' o' x h' hl' hx => ?_⟩
  · simp only [T.get_put] at h'
    split at h'
    · rename_i e; subst e
      cases h'
      exact ⟨b, base, n, nw, cs, ty, fr, hb, hn, h1⟩
    · obtain ⟨b', base', n', e1, e2⟩ := R.mem id' o' h' hl'
      exact ⟨b', base', n', le.blk _ _ e1, e2.mono le⟩
  · have h1 : s.next + 1 ≤ id' := hid'
    rw [ne _ (by omega)]
    exact R.fresh id' (by omega)
  · simp only [T.get_put] at h'
    split at h'
    · cases h'; cases hl'
    · rename_i e
      rw [ne _ (Ne.symm e)] at hb'
      exact R.new id' o' b' base' n' h' hl' hb'
  · simp only [T.get_put] at h1 h2
    split at h1
    · cases h1; cases l1
    · rename_i a
      rw [ne _ (Ne.symm a)] at e1
      split at h2
      · rename_i c; subst c
        rw [nw] at e2; cases e2
        exact (hno i o1 x1 h1 l1 e1 e).elim
      · rename_i c
        rw [ne _ (Ne.symm c)] at e2
        exact R.inj i j o1 o2 x1 x2 h1 h2 l1 l2 e1 e2 e
  · have h : s.next + 1 ≤ id := h
    show (if id = s.next then some V else E.fv id) = none
    rw [if_neg (by omega)]
    exact R.vfr id (by omega)
  · simp only [T.get_put] at h'
    split at h'
    · rename_i e; subst e
      rw [nw] at hx; cases hx
      exact hkp
    · rename_i e
      rw [ne _ (Ne.symm e)] at hx
      exact R.apart id' o' x h' hl' hx
theorem Rel.le_new (R : Rel w0 E s w) (b base n : Nat) : E.Le (E.add s.next b base n) := E.le_add (R.fresh _ (Nat.le_refl _)) _ _ _
end

/-! ### cells -/
def readCells (h : T SObj) (id off n : Nat) : Option (List SV) :=
  match h.get id with
  | some (.cells rows nr es ty opn ro) =>
    match rows.get (off / es) with
    | some row =>
      match Nat.ble (off % es + n) es with
      | true => some ((row.drop (off % es)).take n)
      | false => none
    | none => none
  | _ => none
def writeCells (h : T SObj) (id off : Nat) (vs : List SV) : Option (T SObj) :=
  match h.get id with
  | some (.cells rows nr es ty opn false) =>
    match rows.get (off / es) with
    | some row =>
      match Nat.ble (off % es + vs.length) es with
      | true => some (h.put id (.cells (rows.put (off / es) (row.take (off % es) ++ (vs ++ row.drop (off % es + vs.length)))) nr es ty opn false))
      | false => none
    | none => none
  | _ => none
theorem split_off (off es j : Nat) : off / es * es + (off % es + j) = off + j := by
  have := Nat.div_add_mod off es
  rw [Nat.mul_comm] at this
  omega
/-- What is read is there. -/
theorem read_ok {E : Env} {h : T SObj} {w : World} (M : Mem E h w) {id off n : Nat} {vs : List SV} (hr : readCells h id off n = some vs) :
    ∃ b base m L, E.blk id = some (b, base, m) ∧ SV.denL E vs = some L ∧ vs.length = n ∧ off + n ≤ m ∧ ∃ cs ty fr, w.heap[b]? = some (.cells cs ty fr) ∧ ∀ (j : Nat) (V : Value), L[j]? = some V → cs[base + off + j]? = some V := by
  unfold readCells at hr
  split at hr
  · rename_i rows nr es ty opn ro hid
    split at hr
    · rename_i row hrow
      split at hr
      · rename_i hle
        cases hr
        have hle' : off % es + n ≤ es := Nat.le_of_ble_eq_true hle
        obtain ⟨b, base, m, hb, cs, fr, ty, hcs, -, ⟨hsz, -⟩, hnr, hcl, hrows⟩ := M id _ hid rfl
        obtain ⟨h1, h2, L, h3, h4⟩ := hrows _ row hrow
        have hoff : off / es * es + es ≤ nr * es := by
          have := Nat.mul_le_mul_right es (Nat.succ_le_of_lt h1)
          rw [Nat.succ_mul] at this
          exact this
        have hs := split_off off es n
        refine ⟨b, base, m, _, hb, denL_take n (denL_drop (off % es) h3), by simp; omega, by omega, cs, ty, fr, hcs, fun j V hj => ?_⟩
        rw [List.getElem?_take] at hj
        split at hj
        · rw [List.getElem?_drop] at hj
          have := h4 _ V hj
          rw [split_off] at this
          rw [Nat.add_assoc]; exact this
        · cases hj
      · cases hr
    · cases hr
  · cases hr
theorem read_cell {E : Env} {h : T SObj} {w : World} (M : Mem E h w) {id off n : Nat} {vs : List SV} (hr : readCells h id off n = some vs) {b base m : Nat} (hb : E.blk id = some (b, base, m)) :
    ∃ L, SV.denL E vs = some L ∧ L.length = n ∧ ∀ (j : Nat) (V : Value), L[j]? = some V → w.cell? ((⟨b, base + off, none⟩ : Addr).add j) = some V := by
  obtain ⟨b', base', m', L, h1, h2, h3, h4, cs, ty, fr, h5, h6⟩ := read_ok M hr
  rw [hb] at h1; cases h1
  refine ⟨L, h2, by rw [denL_length h2, h3], fun j V hj => ?_⟩
  have hadd : (⟨b, base + off, none⟩ : Addr).add j = ⟨b, base + off + j, none⟩ := by unfold Addr.add; split <;> simp_all
  rw [hadd, cell_of_row w b _ cs ty fr h5]
  exact h6 j V hj
theorem run_loadCells_at {P : Program} {E : Env} {h : T SObj} {w : World} (M : Mem E h w) {id off n : Nat} {vs : List SV} (hr : readCells h id off n = some vs) {b base m : Nat} (hb : E.blk id = some (b, base, m)) :
    ∃ L, SV.denL E vs = some L ∧ L.length = n ∧ (loadCells ⟨b, base + off, none⟩ n).run P w = .ok L.toArray w := by
  obtain ⟨L, h1, h2, h3⟩ := read_cell M hr hb
  exact ⟨L, h1, h2, by rw [← h2]; exact run_loadCells_list (P := P) w _ L h3⟩
def SV.one : SV → Bool
  | .agg _ | .tup _ => false
  | _ => true
theorem SV.one_ok {E : Env} {v : SV} {V : Value} (h : v.den E = some V) (h1 : v.one = true) : V.oneCell' = true := by
  cases v <;> simp only [SV.one, SV.den] at h h1
  all_goals first
    | (cases h1; done)
    | (cases h; rfl)
    | (split at h <;> first | (cases h; done) | (cases h; rfl) | (split at h <;> cases h <;> rfl))
theorem SV.one_all {E : Env} : ∀ {vs : List SV} {L : List Value}, SV.denL E vs = some L → vs.all SV.one = true → ∀ V ∈ L, V.oneCell' = true
  | [], L, h, _, V, hV => by simp [SV.denL] at h; subst h; cases hV
  | x :: xs, L, h, h1, V, hV => by
    obtain ⟨U, Us, rfl, h2, h3⟩ := denL_cons_inv h
    simp only [List.all_cons, Bool.and_eq_true] at h1
    rcases List.mem_cons.1 hV with rfl | hV
    · exact SV.one_ok h2 h1.1
    · exact SV.one_all h3 h1.2 V hV
/-- What is written is there from then on. -/
theorem write_ok {P : Program} {w0 w : World} {E : Env} {s : St} (R : Rel w0 E s w) {id off : Nat} {vs : List SV} {h' : T SObj} (hw : writeCells s.h id off vs = some h') (h1 : vs.all SV.one = true) {L : List Value} (hL : SV.denL E vs = some L)
    {b base m : Nat} (hb : E.blk id = some (b, base, m)) :
    ∃ w', (storeCells ⟨b, base + off, none⟩ L).run P w = .ok () w' ∧ Rel w0 E { s with h := h' } w' := by
  unfold writeCells at hw
  split at hw
  · rename_i rows nr es ty opn hid
    split at hw
    · rename_i row hrow
      split at hw
      · rename_i hle
        cases hw
        have hle' : off % es + vs.length ≤ es := Nat.le_of_ble_eq_true hle
        obtain ⟨b', base', m', hb', cs, fr, ty', hcs, hfr, ⟨-, hsz⟩, hnr, hcl, hrows⟩ := R.mem id _ hid rfl
        rw [hb] at hb'; cases hb'
        obtain ⟨rfl, rfl⟩ := hfr rfl
        have hsz := hsz rfl
        obtain ⟨r1, r2, Lr, r3, r4⟩ := hrows _ row hrow
        have hoff : off / es * es + es ≤ nr * es := by
          have := Nat.mul_le_mul_right es (Nat.succ_le_of_lt r1)
          rw [Nat.succ_mul] at this
          exact this
        have hs := split_off off es vs.length
        have hlen := denL_length hL
        have hst := run_storeCells_at (P := P) b (base + off) ty L 0 cs w hcs (by omega) (SV.one_all hL h1)
        simp only [Nat.add_zero] at hst
        refine ⟨_, hst, R.upd hid rfl hb (Upd.setRow hcs _) ⟨_, _, _, rfl, fun _ => ⟨rfl, rfl⟩, szOk ?_, hnr, hcl, ?_⟩⟩
        · have : base + off + L.length ≤ cs.size := by omega
          simp
          omega
        · intro r row' hr'
          rw [T.get_put] at hr'
          have hsplice : ∀ k, (cs.toList.take (base + off) ++ L ++ cs.toList.drop (base + off + L.length)).toArray[k]? = if k < base + off then cs[k]? else if k < base + off + L.length then L[k - (base + off)]? else cs[k]? := by
            intro k
            have hbo : base + off + L.length ≤ cs.toList.length := by simp; omega
            simp only [List.getElem?_toArray, List.append_assoc]
            by_cases c1 : k < base + off
            · rw [if_pos c1, List.getElem?_append_left (by simp; omega), List.getElem?_take, if_pos c1]
              simp
            · rw [if_neg c1, List.getElem?_append_right (by simp; omega)]
              have e1 : (cs.toList.take (base + off)).length = base + off := by simp; omega
              rw [e1]
              by_cases c2 : k < base + off + L.length
              · rw [if_pos c2, List.getElem?_append_left (by omega)]
              · rw [if_neg c2, List.getElem?_append_right (by omega), List.getElem?_drop]
                have : base + off + L.length + (k - (base + off) - L.length) = k := by omega
                rw [this]
                simp
          split at hr'
          · rename_i e; subst e
            cases hr'
            refine ⟨r1, by simp; omega, _, denL_append (denL_take _ r3) (denL_append hL (denL_drop _ r3)), fun j V hj => ?_⟩
            have hLr := denL_length r3
            have e1 : (Lr.take (off % es)).length = off % es := by simp; omega
            rw [hsplice]
            have hso := split_off off es 0
            simp only [Nat.add_zero] at hso
            by_cases c1 : j < off % es
            · rw [List.getElem?_append_left (by omega), List.getElem?_take, if_pos c1] at hj
              rw [if_pos (by omega)]
              exact r4 j V hj
            · rw [List.getElem?_append_right (by omega), e1] at hj
              rw [if_neg (by omega)]
              by_cases c2 : j < off % es + L.length
              · rw [List.getElem?_append_left (by omega)] at hj
                rw [if_pos (by omega)]
                have : base + (off / es * es + j) - (base + off) = j - off % es := by omega
                rw [this]; exact hj
              · rw [List.getElem?_append_right (by omega), List.getElem?_drop] at hj
                rw [if_neg (by omega)]
                have : off % es + vs.length + (j - off % es - L.length) = j := by omega
                rw [this] at hj
                exact r4 j V hj
          · rename_i e
            obtain ⟨q1, q2, Lq, q3, q4⟩ := hrows r row' hr'
            refine ⟨q1, q2, Lq, q3, fun j V hj => ?_⟩
            have hjl : j < es := by
              have := (List.getElem?_eq_some_iff.1 hj).1
              rw [denL_length q3] at this
              omega
            rw [hsplice]
            have hso := split_off off es 0
            simp only [Nat.add_zero] at hso
            have hne : base + (r * es + j) < base + off ∨ base + off + L.length ≤ base + (r * es + j) := by
              rcases Nat.lt_or_gt_of_ne e with c | c
              · right
                have := Nat.mul_le_mul_right es (Nat.succ_le_of_lt c)
                rw [Nat.succ_mul] at this
                omega
              · left
                have := Nat.mul_le_mul_right es (Nat.succ_le_of_lt c)
                rw [Nat.succ_mul] at this
                omega
            rcases hne with c | c
            · rw [if_pos c]; exact q4 j V hj
            · rw [if_neg (by omega), if_neg (by omega)]; exact q4 j V hj
      · cases hw
    · cases hw
  · cases hw
end Go.Sx
/-
  A symbolic run of Go functions by computation (part 3): tests, and the operations that leave memory alone.
-/
namespace Go.Sx
set_option linter.unusedVariables false
set_option linter.unusedSimpArgs false

abbrev Asm := List (BX × Bool)
def AsmOk (E : Env) (asm : Asm) : Prop := ∀ c v, (c, v) ∈ asm → c.den E = some v
def mkNot : BX → BX
  | .lit b => .lit (!b)
  | .not b => b
  | b => .not b
theorem mkNot_ok {E : Env} {b : BX} {x : Bool} (h : b.den E = some x) : (mkNot b).den E = some (!x) := by
  cases b with
  | lit b => simp only [BX.den, Option.some.injEq] at h; subst h; rfl
  | not b =>
    simp only [BX.den] at h
    split at h
    · rename_i y hy; cases h; simp only [mkNot, hy, Bool.not_not]
    · cases h
  | _ => simp only [mkNot]; unfold BX.den; rw [h]
def mkAnd : BX → BX → BX
  | .lit true, b => b
  | .lit false, _ => .lit false
  | a, .lit true => a
  | a, b => .and a b
theorem mkAnd_ok {E : Env} {a b : BX} {x y : Bool} (h : a.den E = some x) (h' : b.den E = some y) : (mkAnd a b).den E = some (x && y) := by
  unfold mkAnd
  split
  · simp only [BX.den, Option.some.injEq] at h; subst h; simpa using h'
  · simp only [BX.den, Option.some.injEq] at h; subst h; simp [BX.den]
  · simp only [BX.den, Option.some.injEq] at h'; subst h'; simpa using h
  · simp [BX.den, h, h']
def mkIeq : IX → IX → BX
  | .lit a, .lit b => .lit (decide (a = b))
  | .lit a, b => .ieq b (.lit a)
  | .var i, .var j => match Nat.beq i j with
    | true => .lit true
    | false => match Nat.ble i j with
      | true => .ieq (.var i) (.var j)
      | false => .ieq (.var j) (.var i)
  | a, b => .ieq a b
theorem mkIeq_ok {E : Env} {a b : IX} {x y : Int} (h : a.den E = some x) (h' : b.den E = some y) : (mkIeq a b).den E = some (x == y) := by
  unfold mkIeq
  split
  · simp only [IX.den, Option.some.injEq] at h h'; subst h h'; simp only [BX.den, Option.some.injEq]; rw [Bool.eq_iff_iff]; simp
  · simp only [IX.den, Option.some.injEq] at h; subst h; simp [BX.den, h', IX.den, BEq.comm]
  · split
    · rename_i hb
      have := Nat.eq_of_beq_eq_true hb; subst this
      rw [h] at h'; cases h'
      simp [BX.den]
    · split
      · simp [BX.den, h, h']
      · simp [BX.den, h, h', BEq.comm]
  · simp [BX.den, h, h']
def mkIlt : IX → IX → BX
  | .lit a, .lit b => .lit (decide (a < b))
  | a, b => .ilt a b
theorem mkIlt_ok {E : Env} {a b : IX} {x y : Int} (h : a.den E = some x) (h' : b.den E = some y) : (mkIlt a b).den E = some (decide (x < y)) := by
  unfold mkIlt
  split
  · simp only [IX.den, Option.some.injEq] at h h'; subst h h'; simp [BX.den]
  · simp [BX.den, h, h']
def mkSeq : SX → SX → BX
  | .lit n c, .lit m d => .lit (match Nat.beq n m with | true => Nat.beq (c % 256 ^ n) (d % 256 ^ n) | false => false)
  | .lit n c, t => .seq t (.lit n c)
  | .var i, .var j => match Nat.beq i j with
    | true => .lit true
    | false => match Nat.ble i j with
      | true => .seq (.var i) (.var j)
      | false => .seq (.var j) (.var i)
  | s, t => .seq s t
theorem toList_txt (n c : Nat) : (txt n c).toList = dec n c := by rw [Go.ByteArray.toList_eq]; exact txt_data n c
theorem mkSeq_ok {E : Env} {a b : SX} {x y : ByteArray} (h : a.den E = some x) (h' : b.den E = some y) : (mkSeq a b).den E = some (x.toList == y.toList) := by
  unfold mkSeq
  split
  · rename_i n c m d
    simp only [SX.den, Option.some.injEq] at h h'; subst h h'
    simp only [BX.den, toList_txt, Option.some.injEq]
    split
    · rename_i e
      have e := Nat.eq_of_beq_eq_true e
      subst e
      rw [Bool.eq_iff_iff]
      simp only [Nat.beq_eq, beq_iff_eq, dec_eq_iff]
    · rename_i e
      have e := Nat.ne_of_beq_eq_false e
      symm
      rw [beq_eq_false_iff_ne]
      intro h
      have := congrArg List.length h
      simp at this
      exact e this
  · simp only [SX.den, Option.some.injEq] at h; subst h; simp [BX.den, h', SX.den, BEq.comm]
  · split
    · rename_i hb
      have := Nat.eq_of_beq_eq_true hb; subst this
      rw [h] at h'; cases h'
      simp [BX.den]
    · split
      · simp [BX.den, h, h']
      · simp [BX.den, h, h', BEq.comm]
  · simp [BX.den, h, h']

/-! ### what is known -/
/-- The bounds of a term that the assumptions tell. -/
def bnd (x : IX) : Asm → Option Int × Option Int
  | [] => (none, none)
  | (c, v) :: l =>
    let (lo, hi) := bnd x l
    let up (n : Int) : Option Int := match hi with | none => some n | some h => some (if n < h then n else h)
    let dn (n : Int) : Option Int := match lo with | none => some n | some h => some (if n < h then h else n)
    match c, v with
    | .ilt a (.lit n), true => if a = x then (lo, up (n - 1)) else (lo, hi)
    | .ilt a (.lit n), false => if a = x then (dn n, hi) else (lo, hi)
    | .ilt (.lit n) a, true => if a = x then (dn (n + 1), hi) else (lo, hi)
    | .ilt (.lit n) a, false => if a = x then (lo, up n) else (lo, hi)
    | .ieq a (.lit n), true => if a = x then (dn n, up n) else (lo, hi)
    | _, _ => (lo, hi)
theorem bnd_ok {E : Env} {x : IX} {z : Int} (hx : x.den E = some z) : ∀ {asm : Asm}, AsmOk E asm → (∀ n, (bnd x asm).1 = some n → n ≤ z) ∧ (∀ n, (bnd x asm).2 = some n → z ≤ n)
  | [], _ => ⟨fun n h => by simp [bnd] at h, fun n h => by simp [bnd] at h⟩
  | (c, v) :: l, ha => by
    obtain ⟨h1, h2⟩ := bnd_ok hx (asm := l) (fun c v h => ha c v (List.mem_cons_of_mem _ h))
    have hc : c.den E = some v := ha c v (List.mem_cons_self)
    have up : ∀ n m, z ≤ n → (match (bnd x l).2 with | none => some n | some h => some (if n < h then n else h)) = some m → z ≤ m := by
      intro n m hn hm
      cases e : (bnd x l).2 with
      | none => rw [e] at hm; cases hm; exact hn
      | some h =>
        rw [e] at hm
        have := h2 h e
        simp only [Option.some.injEq] at hm
        split at hm <;> omega
    have dn : ∀ n m, n ≤ z → (match (bnd x l).1 with | none => some n | some h => some (if n < h then h else n)) = some m → m ≤ z := by
      intro n m hn hm
      cases e : (bnd x l).1 with
      | none => rw [e] at hm; cases hm; exact hn
      | some h =>
        rw [e] at hm
        have := h1 h e
        simp only [Option.some.injEq] at hm
        split at hm <;> omega
    simp only [bnd]
    split
    · rename_i a n
      split
      · rename_i e; subst e
        simp only [BX.den, hx, IX.den, Option.some.injEq, decide_eq_true_eq] at hc
        exact ⟨h1, fun m hm => up _ m (by omega) hm⟩
      · exact ⟨h1, h2⟩
    · rename_i a n
      split
      · rename_i e; subst e
        simp only [BX.den, hx, IX.den, Option.some.injEq, decide_eq_false_iff_not] at hc
        exact ⟨fun m hm => dn _ m (by omega) hm, h2⟩
      · exact ⟨h1, h2⟩
    · rename_i a n _
      split
      · rename_i e; subst e
        simp only [BX.den, hx, IX.den, Option.some.injEq, decide_eq_true_eq] at hc
        exact ⟨fun m hm => dn _ m (by omega) hm, h2⟩
      · exact ⟨h1, h2⟩
    · rename_i a n _
      split
      · rename_i e; subst e
        simp only [BX.den, hx, IX.den, Option.some.injEq, decide_eq_false_iff_not] at hc
        exact ⟨h1, fun m hm => up _ m (by omega) hm⟩
      · exact ⟨h1, h2⟩
    · rename_i a n
      split
      · rename_i e; subst e
        simp only [BX.den, hx, IX.den, Option.some.injEq, beq_iff_eq] at hc
        exact ⟨fun m hm => dn _ m (by omega) hm, fun m hm => up _ m (by omega) hm⟩
      · exact ⟨h1, h2⟩
    · exact ⟨h1, h2⟩
def said (c : BX) : Asm → Option Bool
  | [] => none
  | (d, v) :: l => match decide (c = d) with
    | true => some v
    | false => said c l
theorem said_ok {E : Env} {c : BX} {v x : Bool} (hc : c.den E = some x) : ∀ {asm : Asm}, AsmOk E asm → said c asm = some v → x = v
  | [], _, h => by simp [said] at h
  | (d, u) :: l, ha, h => by
    simp only [said] at h
    split at h
    · rename_i e
      have e : c = d := by simpa using e
      subst e
      have := ha c u (List.mem_cons_self)
      rw [hc] at this
      simp at this h
      rw [this, h]
    · exact said_ok hc (fun c v h => ha c v (List.mem_cons_of_mem _ h)) h
def known (asm : Asm) (c : BX) : Option Bool :=
  match asm with
  | [] => none
  | _ =>
    match said c asm with
    | some v => some v
    | none =>
      match c with
      | .ilt a (.lit n) =>
        match bnd a asm with
        | (lo, hi) =>
          match (match hi with | some h => decide (h < n) | none => false) with
          | true => some true
          | false => match (match lo with | some l => decide (n ≤ l) | none => false) with
            | true => some false
            | false => none
      | .ilt (.lit n) a =>
        match bnd a asm with
        | (lo, hi) =>
          match (match lo with | some l => decide (n < l) | none => false) with
          | true => some true
          | false => match (match hi with | some h => decide (h ≤ n) | none => false) with
            | true => some false
            | false => none
      | .ieq a (.lit n) =>
        match bnd a asm with
        | (lo, hi) =>
          match (match lo with | some l => decide (n < l) | none => false) || (match hi with | some h => decide (h < n) | none => false) with
          | true => some false
          | false => match (match lo with | some l => decide (l = n) | none => false) && (match hi with | some h => decide (h = n) | none => false) with
            | true => some true
            | false => none
      | _ => none
theorem known_ok {E : Env} {c : BX} {v x : Bool} (hc : c.den E = some x) {asm : Asm} (ha : AsmOk E asm) (h : known asm c = some v) : x = v := by
  unfold known at h
  split at h
  · cases h
  split at h
  · rename_i hs; cases h; exact said_ok hc ha hs
  · split at h
    · rename_i a n
      simp only [BX.den, IX.den] at hc
      split at hc
      · rename_i z y hz hy
        cases hy
        obtain ⟨h1, h2⟩ := bnd_ok hz ha
        split at h
        rename_i lo hi e
        rw [e] at h1 h2
        split at h
        · rename_i e1
          cases h
          split at e1
          · have := h2 _ rfl
            simp only [decide_eq_true_eq] at e1
            simp only [Option.some.injEq] at hc
            rw [← hc, decide_eq_true_eq]; omega
          · cases e1
        · split at h
          · rename_i e1
            cases h
            split at e1
            · have := h1 _ rfl
              simp only [decide_eq_true_eq] at e1
              simp only [Option.some.injEq] at hc
              rw [← hc, decide_eq_false_iff_not]; omega
            · cases e1
          · cases h
      · cases hc
    · rename_i n a _
      simp only [BX.den, IX.den] at hc
      split at hc
      · rename_i y z hy hz
        cases hy
        obtain ⟨h1, h2⟩ := bnd_ok hz ha
        split at h
        rename_i lo hi e
        rw [e] at h1 h2
        split at h
        · rename_i e1
          cases h
          split at e1
          · have := h1 _ rfl
            simp only [decide_eq_true_eq] at e1
            simp only [Option.some.injEq] at hc
            rw [← hc, decide_eq_true_eq]; omega
          · cases e1
        · split at h
          · rename_i e1
            cases h
            split at e1
            · have := h2 _ rfl
              simp only [decide_eq_true_eq] at e1
              simp only [Option.some.injEq] at hc
              rw [← hc, decide_eq_false_iff_not]; omega
            · cases e1
          · cases h
      · cases hc
    · rename_i a n
      simp only [BX.den, IX.den] at hc
      split at hc
      · rename_i z y hz hy
        cases hy
        obtain ⟨h1, h2⟩ := bnd_ok hz ha
        split at h
        rename_i lo hi e
        rw [e] at h1 h2
        simp only [Option.some.injEq] at hc
        split at h
        · rename_i e1
          cases h
          rw [Bool.or_eq_true] at e1
          rw [← hc, beq_eq_false_iff_ne]
          rcases e1 with e1 | e1
          · split at e1
            · have := h1 _ rfl
              simp only [decide_eq_true_eq] at e1
              omega
            · cases e1
          · split at e1
            · have := h2 _ rfl
              simp only [decide_eq_true_eq] at e1
              omega
            · cases e1
        · split at h
          · rename_i e1
            cases h
            rw [Bool.and_eq_true] at e1
            obtain ⟨e1, e2⟩ := e1
            split at e1
            · split at e2
              · have := h1 _ rfl
                have := h2 _ rfl
                simp only [decide_eq_true_eq] at e1 e2
                rw [← hc, beq_iff_eq]; omega
              · cases e2
            · cases e1
          · cases h
      · cases hc
    · cases h
/-- The ways in which a test may come out. -/
def ways (asm : Asm) : BX → List (Bool × Asm)
  | .lit b => [(b, asm)]
  | .not b => (ways asm b).map fun p => (!p.1, p.2)
  | .and a b => (ways asm a).flatMap fun p => match p.1 with
    | true => ways p.2 b
    | false => [(false, p.2)]
  | c => match known asm c with
    | some v => [(v, asm)]
    | none => [(true, (c, true) :: asm), (false, (c, false) :: asm)]
theorem ways_atom {E : Env} {asm : Asm} (ha : AsmOk E asm) {c : BX} {v : Bool} (hc : c.den E = some v) :
    ∃ asm', (v, asm') ∈ (match known asm c with | some v => [(v, asm)] | none => [(true, (c, true) :: asm), (false, (c, false) :: asm)]) ∧ AsmOk E asm' := by
  cases hk : known asm c with
  | some u =>
    have := known_ok hc ha hk
    subst this
    exact ⟨asm, by simp, ha⟩
  | none =>
    refine ⟨(c, v) :: asm, by cases v <;> simp, fun d u h => ?_⟩
    rcases List.mem_cons.1 h with h | h
    · cases h; exact hc
    · exact ha d u h
theorem ways_ok {E : Env} : ∀ {c : BX} {asm : Asm} (ha : AsmOk E asm) {v : Bool} (hc : c.den E = some v), ∃ asm', (v, asm') ∈ ways asm c ∧ AsmOk E asm'
  | .lit b, asm, ha, v, hc => by simp only [BX.den, Option.some.injEq] at hc; subst hc; exact ⟨asm, by simp [ways], ha⟩
  | .not b, asm, ha, v, hc => by
    simp only [BX.den] at hc
    split at hc
    · rename_i y hy
      cases hc
      obtain ⟨asm', h1, h2⟩ := ways_ok ha hy
      exact ⟨asm', by simp only [ways, List.mem_map]; exact ⟨_, h1, rfl⟩, h2⟩
    · cases hc
  | .and a b, asm, ha, v, hc => by
    simp only [BX.den] at hc
    split at hc
    · rename_i x y hx hy
      cases hc
      obtain ⟨asm', h1, h2⟩ := ways_ok ha hx
      cases x with
      | false => exact ⟨asm', by simp only [ways, List.mem_flatMap]; exact ⟨_, h1, by simp⟩, h2⟩
      | true =>
        obtain ⟨asm2, h3, h4⟩ := ways_ok h2 hy
        exact ⟨asm2, by simp only [ways, List.mem_flatMap]; exact ⟨_, h1, by simpa using h3⟩, h4⟩
    · cases hc
  | .var i, asm, ha, v, hc => ways_atom ha hc
  | .ieq a b, asm, ha, v, hc => ways_atom ha hc
  | .ilt a b, asm, ha, v, hc => ways_atom ha hc
  | .seq a b, asm, ha, v, hc => ways_atom ha hc
end Go.Sx
/-
  A symbolic run of Go functions by computation (part 4): types, parts, loads, places, sums, comparisons.
-/
namespace Go.Sx
set_option linter.unusedVariables false
set_option linter.unusedSimpArgs false

/-! ### what a value may stand for -/
section
variable {E : Env} {V : Value}
theorem den_bool {b : BX} (h : (SV.bool b).den E = some V) : ∃ x, b.den E = some x ∧ V = .bool x := by
  simp only [SV.den] at h
  split at h
  · rename_i x hx; cases h; exact ⟨x, hx, rfl⟩
  · cases h
theorem den_int {k : IntKind} {n : IX} (h : (SV.int k n).den E = some V) : ∃ x, n.den E = some x ∧ V = .int k x := by
  simp only [SV.den] at h
  split at h
  · rename_i x hx; cases h; exact ⟨x, hx, rfl⟩
  · cases h
theorem den_lit {k : IntKind} {n : Int} (h : (SV.int k (.lit n)).den E = some V) : V = .int k n := by
  obtain ⟨x, hx, rfl⟩ := den_int h
  simp only [IX.den, Option.some.injEq] at hx
  rw [hx]
theorem den_str {s : SX} (h : (SV.str s).den E = some V) : ∃ x, s.den E = some x ∧ V = .string x := by
  simp only [SV.den] at h
  split at h
  · rename_i x hx; cases h; exact ⟨x, hx, rfl⟩
  · cases h
theorem den_ptr {id off : Nat} (h : (SV.ptr id off).den E = some V) : ∃ b base n, E.blk id = some (b, base, n) ∧ V = .pointer (some ⟨b, base + off, none⟩) := by
  simp only [SV.den] at h
  split at h
  · rename_i b base n hx; cases h; exact ⟨b, base, n, hx, rfl⟩
  · cases h
def capOf (cap : Option Nat) (n off es : Nat) : Nat := match cap with | some c => c | none => (n - off) / es
theorem den_slc {id off len es : Nat} {cap : Option Nat} (h : (SV.slc id off len cap es).den E = some V) : ∃ b base n, E.blk id = some (b, base, n) ∧ V = .slice (some ⟨b, base + off, none⟩) len (capOf cap n off es) := by
  simp only [SV.den] at h
  split at h
  · rename_i b base n hx
    split at h <;> cases h <;> exact ⟨b, base, n, hx, rfl⟩
  · cases h
theorem den_slc_mk {id off len es b base n : Nat} {cap : Option Nat} (h : E.blk id = some (b, base, n)) : (SV.slc id off len cap es).den E = some (.slice (some ⟨b, base + off, none⟩) len (capOf cap n off es)) := by
  simp only [SV.den, h]
  cases cap <;> rfl
theorem den_map {id : Nat} (h : (SV.map id).den E = some V) : ∃ b base n, E.blk id = some (b, base, n) ∧ V = .map (some b) := by
  simp only [SV.den] at h
  split at h
  · rename_i b base n hx; cases h; exact ⟨b, base, n, hx, rfl⟩
  · cases h
theorem den_func {fn : Fn} {xs ys : List SV} (h : (SV.func fn xs ys).den E = some V) : ∃ L M, SV.denL E xs = some L ∧ SV.denL E ys = some M ∧ V = .func fn L.toArray M.toArray := by
  simp only [SV.den] at h
  split at h
  · rename_i x y hx hy; cases h; exact ⟨x, y, hx, hy, rfl⟩
  · cases h
theorem den_iface {t : TypeId} {v : SV} (h : (SV.iface t v).den E = some V) : ∃ x, v.den E = some x ∧ V = .iface t x := by
  simp only [SV.den] at h
  split at h
  · rename_i x hx; cases h; exact ⟨x, hx, rfl⟩
  · cases h
theorem den_agg {xs : List SV} (h : (SV.agg xs).den E = some V) : ∃ L, SV.denL E xs = some L ∧ V = .agg L.toArray := by
  simp only [SV.den] at h
  split at h
  · rename_i x hx; cases h; exact ⟨x, hx, rfl⟩
  · cases h
theorem den_tup {xs : List SV} (h : (SV.tup xs).den E = some V) : ∃ L, SV.denL E xs = some L ∧ V = .tuple L.toArray := by
  simp only [SV.den] at h
  split at h
  · rename_i x hx; cases h; exact ⟨x, hx, rfl⟩
  · cases h
theorem den_nil0 : (SV.nilp.den E = some V → V = .pointer none) ∧ (SV.nils.den E = some V → V = .slice none 0 0) ∧ (SV.nilm.den E = some V → V = .map none) ∧ (SV.nilf.den E = some V → V = .nilFunc) ∧ (SV.nili.den E = some V → V = .nilIface) := by
  simp only [SV.den, Option.some.injEq]
  exact ⟨Eq.symm, Eq.symm, Eq.symm, Eq.symm, Eq.symm⟩
end

/-! ### constants -/
def optL {α β : Type} (f : α → Option β) : List α → Option (List β)
  | [] => some []
  | a :: l => match f a with
    | some b => match optL f l with
      | some m => some (b :: m)
      | none => none
    | none => none
def ofV : Nat → Value → Option SV
  | 0, _ => none
  | n + 1, v =>
    match v with
    | .bool b => some (.bool (.lit b))
    | .int k z => some (.int k (.lit z))
    | .string s => some (.str (.lit s.size (enc s.data.toList)))
    | .pointer none => some .nilp
    | .slice none 0 0 => some .nils
    | .map none => some .nilm
    | .nilFunc => some .nilf
    | .nilIface => some .nili
    | .func fn f c => match optL (ofV n) f.toList, optL (ofV n) c.toList with
      | some x, some y => some (.func fn x y)
      | _, _ => none
    | .iface t x => match ofV n x with | some y => some (.iface t y) | none => none
    | .agg cs => match optL (ofV n) cs.toList with | some x => some (.agg x) | none => none
    | .tuple cs => match optL (ofV n) cs.toList with | some x => some (.tup x) | none => none
    | _ => none
theorem optL_den {E : Env} {f : Value → Option SV} (hf : ∀ v s, f v = some s → s.den E = some v) : ∀ {l : List Value} {m : List SV}, optL f l = some m → SV.denL E m = some l
  | [], m, h => by simp [optL] at h; subst h; simp [SV.denL]
  | a :: l, m, h => by
    simp only [optL] at h
    split at h
    · rename_i b hb
      split at h
      · rename_i c hc; cases h
        exact denL_cons (hf _ _ hb) (optL_den hf hc)
      · cases h
    · cases h
theorem ofV_den {E : Env} : ∀ (n : Nat) (v : Value) (s : SV), ofV n v = some s → s.den E = some v
  | 0, v, s, h => by simp [ofV] at h
  | n + 1, v, s, h => by
    have ih := ofV_den (E := E) n
    cases v <;> simp only [ofV] at h
    case bool b => cases h; simp [SV.den, BX.den]
    case int k z => cases h; simp [SV.den, IX.den]
    case string b =>
      cases h
      simp only [SV.den, SX.den]
      congr 1
      congr 1
      have e : b.size = b.data.toList.length := by rw [Array.length_toList]; rfl
      unfold txt
      rw [e, dec_enc]
    case pointer a => cases a <;> simp at h; subst h; simp [SV.den]
    case slice a l c =>
      clear ih
      cases a with
      | some a => simp at h
      | none =>
        cases l with
        | succ l => simp at h
        | zero =>
          cases c with
          | succ c => simp at h
          | zero => simp only [Option.some.injEq] at h; subst h; simp [SV.den]
    case map r => cases r <;> simp at h; subst h; simp [SV.den]
    case nilFunc => cases h; simp [SV.den]
    case nilIface => cases h; simp [SV.den]
    case func fn f c =>
      split at h
      · rename_i x y hx hy; cases h
        simp [SV.den, optL_den ih hx, optL_den ih hy]
      · cases h
    case iface t x =>
      split at h
      · rename_i y hy; cases h
        simp [SV.den, ih _ _ hy]
      · cases h
    case agg cs =>
      split at h
      · rename_i y hy; cases h
        simp [SV.den, optL_den ih hy]
      · cases h
    case tuple cs =>
      split at h
      · rename_i y hy; cases h
        simp [SV.den, optL_den ih hy]
      · cases h
    all_goals cases h

/-! ### temporaries: four times four by four near at hand, the rest in a map -/
structure F4 (α : Type) where
  a : α
  b : α
  c : α
  d : α
def bitA (i : Nat) : Bool := Nat.beq (Nat.mod i 2) 0
def bitB (i : Nat) : Bool := Nat.beq (Nat.mod (Nat.div i 2) 2) 0
theorem bitA_iff {i j : Nat} : bitA i = bitA j ↔ i % 2 = j % 2 := by
  have hi : bitA i = decide (i % 2 = 0) := by simp only [bitA]; show Nat.beq (i % 2) 0 = _; rw [Bool.eq_iff_iff]; simp
  have hj : bitA j = decide (j % 2 = 0) := by simp only [bitA]; show Nat.beq (j % 2) 0 = _; rw [Bool.eq_iff_iff]; simp
  rw [hi, hj, Bool.eq_iff_iff]
  simp only [decide_eq_true_eq]
  omega
theorem bitB_iff {i j : Nat} : bitB i = bitB j ↔ i / 2 % 2 = j / 2 % 2 := @bitA_iff (i / 2) (j / 2)
theorem bits_iff {i j : Nat} : (bitA i = bitA j ∧ bitB i = bitB j) ↔ i % 4 = j % 4 := by rw [bitA_iff, bitB_iff]; omega
def F4.get {α : Type} (t : F4 α) (i : Nat) : α := @Bool.casesOn (fun _ => α) (bitB i) (@Bool.casesOn (fun _ => α) (bitA i) t.d t.c) (@Bool.casesOn (fun _ => α) (bitA i) t.b t.a)
def F4.set {α : Type} (t : F4 α) (i : Nat) (x : α) : F4 α := @Bool.casesOn (fun _ => F4 α) (bitB i) (@Bool.casesOn (fun _ => F4 α) (bitA i) ⟨t.a, t.b, t.c, x⟩ ⟨t.a, t.b, x, t.d⟩) (@Bool.casesOn (fun _ => F4 α) (bitA i) ⟨t.a, x, t.c, t.d⟩ ⟨x, t.b, t.c, t.d⟩)
theorem F4.get_set {α : Type} (t : F4 α) (i j : Nat) (x : α) : (t.set i x).get j = if i % 4 = j % 4 then x else t.get j := by
  have h := @bits_iff i j
  by_cases e : i % 4 = j % 4
  · rw [if_pos e]
    obtain ⟨h1, h2⟩ := h.2 e
    simp only [F4.get, F4.set, ← h1, ← h2]
    cases bitA i <;> cases bitB i <;> rfl
  · rw [if_neg e]
    have hn : ¬ (bitA i = bitA j ∧ bitB i = bitB j) := fun x => e (h.1 x)
    simp only [F4.get, F4.set]
    cases h1 : bitA i <;> cases h2 : bitB i <;> cases h3 : bitA j <;> cases h4 : bitB j <;> first | rfl | (simp [h1, h2, h3, h4] at hn; done)
def F4.all4 {α : Type} (f : α → α → Bool) (t u : F4 α) : Bool := f t.a u.a && (f t.b u.b && (f t.c u.c && f t.d u.d))
theorem F4.all4_eq {α : Type} {f : α → α → Bool} (hf : ∀ a b, f a b = true → a = b) {t u : F4 α} (h : F4.all4 f t u = true) : t = u := by
  simp only [F4.all4, Bool.and_eq_true] at h
  cases t; cases u
  simp only at h
  rw [hf _ _ h.1, hf _ _ h.2.1, hf _ _ h.2.2.1, hf _ _ h.2.2.2]
def optBeq {α : Type} (f : α → α → Bool) : Option α → Option α → Bool
  | none, none => true
  | some a, some b => f a b
  | _, _ => false
theorem optBeq_eq {α : Type} {f : α → α → Bool} (hf : ∀ a b, f a b = true → a = b) : ∀ (a b : Option α), optBeq f a b = true → a = b
  | none, none, _ => rfl
  | some a, some b, h => by rw [hf a b h]
  | some a, none, h => by cases h
  | none, some a, h => by cases h
abbrev F16 := F4 (F4 (Option SV))
structure Frame where
  f0 : F16
  f1 : F16
  f2 : F16
  f3 : F16
  rest : T SV
  ds : List (FuncId × List SV)
def none4 : F4 (Option SV) := ⟨none, none, none, none⟩
def none16 : F16 := ⟨none4, none4, none4, none4⟩
def Frame.empty : Frame := ⟨none16, none16, none16, none16, .nil, []⟩
def Frame.part (f : Frame) (i : Nat) : F16 := (F4.mk f.f0 f.f1 f.f2 f.f3).get i
def Frame.setPart (f : Frame) (i : Nat) (x : F16) : Frame := @Bool.casesOn (fun _ => Frame) (bitB i) (@Bool.casesOn (fun _ => Frame) (bitA i) ⟨f.f0, f.f1, f.f2, x, f.rest, f.ds⟩ ⟨f.f0, f.f1, x, f.f3, f.rest, f.ds⟩) (@Bool.casesOn (fun _ => Frame) (bitA i) ⟨f.f0, x, f.f2, f.f3, f.rest, f.ds⟩ ⟨x, f.f1, f.f2, f.f3, f.rest, f.ds⟩)
theorem Frame.part_setPart (f : Frame) (i j : Nat) (x : F16) : (f.setPart i x).part j = if i % 4 = j % 4 then x else f.part j := by
  rw [Frame.part, Frame.part, ← F4.get_set]
  simp only [Frame.setPart, F4.set]
  cases bitA i <;> cases bitB i <;> rfl
theorem Frame.ds_setPart (f : Frame) (i : Nat) (x : F16) : (f.setPart i x).ds = f.ds := by
  simp only [Frame.setPart]
  cases bitA i <;> cases bitB i <;> rfl
theorem Frame.rest_setPart (f : Frame) (i : Nat) (x : F16) : (f.setPart i x).rest = f.rest := by
  simp only [Frame.setPart]
  cases bitA i <;> cases bitB i <;> rfl
def Frame.get (f : Frame) (i : Nat) : Option SV := @Bool.casesOn (fun _ => Option SV) (Nat.blt i 64) (f.rest.get (Nat.sub i 64)) (((f.part (Nat.div i 16)).get (Nat.div i 4)).get i)
def Frame.put (f : Frame) (i : Nat) (v : SV) : Frame := @Bool.casesOn (fun _ => Frame) (Nat.blt i 64) ⟨f.f0, f.f1, f.f2, f.f3, f.rest.put (Nat.sub i 64) v, f.ds⟩
  (f.setPart (Nat.div i 16) ((f.part (Nat.div i 16)).set (Nat.div i 4) (((f.part (Nat.div i 16)).get (Nat.div i 4)).set i (some v))))
theorem Frame.get_put (f : Frame) (i : Nat) (v : SV) (j : Nat) : (f.put i v).get j = if i = j then some v else f.get j := by
  have hb : ∀ n, Nat.blt n 64 = decide (n < 64) := fun n => by rw [Bool.eq_iff_iff, Nat.blt_eq, decide_eq_true_eq]
  by_cases hi : i < 64 <;> by_cases hj : j < 64
  · have e1 : Nat.blt i 64 = true := by rw [hb]; simpa using hi
    have e2 : Nat.blt j 64 = true := by rw [hb]; simpa using hj
    simp only [Frame.get, Frame.put, e1, e2]
    have ed : ∀ a b : Nat, Nat.div a b = a / b := fun _ _ => rfl
    simp only [ed]
    rw [Frame.part_setPart]
    by_cases h1 : i / 16 % 4 = j / 16 % 4
    · rw [if_pos h1, F4.get_set]
      have e3 : f.part (i / 16) = f.part (j / 16) := by
        have := (@bits_iff (i / 16) (j / 16)).2 h1
        simp only [Frame.part, F4.get, this.1, this.2]
      by_cases h2 : i / 4 % 4 = j / 4 % 4
      · have e4 : ∀ t : F16, t.get (i / 4) = t.get (j / 4) := fun t => by
          have := (@bits_iff (i / 4) (j / 4)).2 h2
          simp only [F4.get, this.1, this.2]
        rw [if_pos h2, F4.get_set]
        by_cases h3 : i % 4 = j % 4
        · have : i = j := by omega
          rw [if_pos h3, if_pos this]
        · have : ¬ i = j := fun e => h3 (by rw [e])
          rw [if_neg h3, if_neg this]
          show ((f.part (i / 16)).get (i / 4)).get j = ((f.part (j / 16)).get (j / 4)).get j
          rw [e3, e4]
      · have : ¬ i = j := fun e => h2 (by rw [e])
        rw [if_neg h2, if_neg this]
        show ((f.part (i / 16)).get (j / 4)).get j = ((f.part (j / 16)).get (j / 4)).get j
        rw [e3]
    · have : ¬ i = j := fun e => h1 (by rw [e])
      rw [if_neg h1, if_neg this]
  · have e1 : Nat.blt i 64 = true := by rw [hb]; simpa using hi
    have e2 : Nat.blt j 64 = false := by rw [hb]; simpa using hj
    have : ¬ i = j := fun e => hj (by omega)
    simp only [Frame.get, Frame.put, e1, e2, if_neg this]
    show (Frame.setPart _ _ _).rest.get _ = _
    rw [Frame.rest_setPart]
  · have e1 : Nat.blt i 64 = false := by rw [hb]; simpa using hi
    have e2 : Nat.blt j 64 = true := by rw [hb]; simpa using hj
    have : ¬ i = j := fun e => hi (by omega)
    simp only [Frame.get, Frame.put, e1, e2, if_neg this]
    rfl
  · have e1 : Nat.blt i 64 = false := by rw [hb]; simpa using hi
    have e2 : Nat.blt j 64 = false := by rw [hb]; simpa using hj
    simp only [Frame.get, Frame.put, e1, e2]
    show (T.put _ (i - 64) v).get (j - 64) = _
    rw [T.get_put]
    by_cases h : i = j
    · rw [if_pos h, if_pos (by rw [h])]
    · rw [if_neg h, if_neg (by omega)]
      rfl
theorem Frame.ds_put (f : Frame) (i : Nat) (v : SV) : (f.put i v).ds = f.ds := by
  simp only [Frame.put]
  cases Nat.blt i 64
  · rfl
  · exact Frame.ds_setPart _ _ _
theorem Frame.get_empty (i : Nat) : Frame.empty.get i = none := by
  simp only [Frame.get]
  cases Nat.blt i 64
  · rfl
  · show ((Frame.empty.part (i / 16)).get (i / 4)).get i = none
    simp only [Frame.part, F4.get]
    cases bitA (i / 16) <;> cases bitB (i / 16) <;> cases bitA (i / 4) <;> cases bitB (i / 4) <;> cases bitA i <;> cases bitB i <;> rfl
def nilDs : List (FuncId × List SV) → Bool
  | [] => true
  | _ :: _ => false
theorem nilDs_eq {l : List (FuncId × List SV)} (h : nilDs l = true) : l = [] := by
  cases l with
  | nil => rfl
  | cons a b => cases h
def Frame.beq (f g : Frame) : Bool := F4.all4 (F4.all4 (optBeq SV.beq)) f.f0 g.f0 && (F4.all4 (F4.all4 (optBeq SV.beq)) f.f1 g.f1 && (F4.all4 (F4.all4 (optBeq SV.beq)) f.f2 g.f2 && (F4.all4 (F4.all4 (optBeq SV.beq)) f.f3 g.f3 && (f.rest.beq SV.beq g.rest && (nilDs f.ds && nilDs g.ds)))))
theorem Frame.beq_eq {f g : Frame} (h : f.beq g = true) : f = g := by
  simp only [Frame.beq, Bool.and_eq_true] at h
  have k : ∀ a b : F16, F4.all4 (F4.all4 (optBeq SV.beq)) a b = true → a = b := fun a b h => F4.all4_eq (fun a b h => F4.all4_eq (optBeq_eq SV.beq_eq) h) h
  cases f; cases g
  simp only at h
  rw [k _ _ h.1, k _ _ h.2.1, k _ _ h.2.2.1, k _ _ h.2.2.2.1, T.beq_eq SV.beq_eq _ _ h.2.2.2.2.1, nilDs_eq h.2.2.2.2.2.1, nilDs_eq h.2.2.2.2.2.2]
structure SAct where
  tm : Frame := .empty
  n : Nat := 0
/-- The calls that are put off. -/
def DefsRel (E : Env) : List (FuncId × List SV) → List Deferred → Prop
  | [], [] => True
  | (f, xs) :: l, d :: m => (∃ cap L, d.target = .fn (.func f) cap ∧ SV.denL E xs = some L ∧ d.args ++ cap = L.toArray) ∧ DefsRel E l m
  | _, _ => False
theorem DefsRel.mono {E F : Env} (le : E.Le F) : ∀ {l : List (FuncId × List SV)} {m : List Deferred}, DefsRel E l m → DefsRel F l m
  | [], [], _ => trivial
  | [], _ :: _, h => h.elim
  | (_, _) :: _, [], h => h.elim
  | (f, xs) :: l, d :: m, h => by
    obtain ⟨⟨cap, L, h1, h2, h3⟩, h4⟩ := h
    exact ⟨⟨cap, L, h1, SV.monoL le h2, h3⟩, DefsRel.mono le h4⟩
theorem DefsRel.nil {E : Env} {m : List Deferred} (h : DefsRel E [] m) : m = [] := by
  cases m with
  | nil => rfl
  | cons a b => exact h.elim
structure ActRel (E : Env) (a : SAct) (A : Act) : Prop where
  size : A.tmps.size = a.n
  tm : ∀ i v, a.tm.get i = some v → ∃ V, v.den E = some V ∧ A.tmps[i]? = some V
  defers : DefsRel E a.tm.ds A.defers
theorem ActRel.mono {E F : Env} (le : E.Le F) {a : SAct} {A : Act} (h : ActRel E a A) : ActRel F a A :=
  ⟨h.size, fun i v hv => by obtain ⟨V, h1, h2⟩ := h.tm i v hv; exact ⟨V, SV.mono le h1, h2⟩, h.defers.mono le⟩
def SAct.ev (a : SAct) : Operand → Option SV
  | .tmp t => a.tm.get t
  | .const v => ofV 8 v
  | .global _ => none
  | .func f => some (.func (.func f) [] [])
theorem ev_ok {E : Env} {a : SAct} {A : Act} (h : ActRel E a A) {x : Operand} {v : SV} (hx : a.ev x = some v) : v.den E = some (A.eval x) := by
  cases x with
  | tmp t =>
    obtain ⟨V, h1, h2⟩ := h.tm t v hx
    rw [h1]
    simp [Act.eval, h2]
  | const c => exact ofV_den _ _ _ hx
  | global g => cases hx
  | func f => cases hx; simp [SV.den, SV.denL, Act.eval]
def SAct.put : SAct → Option Tmp → SV → Option SAct
  | a, none, _ => some a
  | ⟨tm, n⟩, some i, v => match Nat.blt i n with
    | true => some ⟨tm.put i v, n⟩
    | false => none
theorem put_ok {E : Env} {a a' : SAct} {A : Act} (h : ActRel E a A) {d : Option Tmp} {v : SV} (hp : a.put d v = some a') {V : Value} (hv : v.den E = some V) : ActRel E a' (A.put d V) := by
  unfold SAct.put at hp
  split at hp
  · cases hp; exact h
  · rename_i tm n i
    split at hp
    · rename_i hlt
      cases hp
      have hlt' : i < n := by simpa [Nat.blt_eq] using hlt
      have hs : A.tmps.size = n := h.size
      refine ⟨by simp [Act.put, h.size], fun j u hj => ?_, by rw [Frame.ds_put]; exact h.defers⟩
      simp only [Frame.get_put] at hj
      simp only [Act.put]
      split at hj
      · rename_i e; subst e
        cases hj
        exact ⟨V, hv, by rw [Array.getElem?_setIfInBounds_self_of_lt (by rw [hs]; exact hlt')]⟩
      · rename_i e
        obtain ⟨U, h1, h2⟩ := h.tm j u hj
        exact ⟨U, h1, by rw [Array.getElem?_setIfInBounds_ne e]; exact h2⟩
    · cases hp

/-! ### types -/
def aggD : TypeDesc → Bool
  | .struct _ | .array _ _ => true
  | _ => false
def szOf (P : Program) (t : TypeId) : Option Nat :=
  match P.info? t with
  | some i => some i.size
  | none => none
def bytesOf (P : Program) (t : TypeId) : Option Nat :=
  match P.info? t with
  | some i => some i.bytes
  | none => none
def xzero (P : Program) (t : TypeId) : Option SV :=
  match P.info? t with
  | some i => match i.zero with
    | some z => ofV 8 z
    | none => none
  | none => none
section
variable {P : Program} {E : Env} {h : T SObj} {w : World} {t : TypeId}
theorem run_info {i : TypeInfo} (hi : P.info? t = some i) (w : World) : (typeInfo t).run P w = .ok i w := by
  simp [typeInfo, hi]
theorem run_size {n : Nat} (hn : szOf P t = some n) (w : World) : (sizeOf t).run P w = .ok n w := by
  unfold szOf at hn
  split at hn
  · rename_i i hi; cases hn; simp [sizeOf, run_info hi]
  · cases hn
theorem run_zero {z : SV} (hz : xzero P t = some z) : ∃ Z, z.den E = some Z ∧ ∀ w, (zeroValue t).run P w = .ok Z w := by
  unfold xzero at hz
  split at hz
  · rename_i i hi
    split at hz
    · rename_i Z hZ
      exact ⟨Z, ofV_den _ _ _ hz, fun w => by simp [zeroValue, run_info hi, hZ]⟩
    · cases hz
  · cases hz
theorem run_agg {d : TypeDesc} (hd : P.underlying t = some d) (w : World) : (isAgg t).run P w = .ok (aggD d) w := by
  unfold isAgg
  rw [Sem.run_bind, run_underlying hd w]
  cases d <;> rfl

/-! ### parts and loads -/
def xpart (P : Program) (t : TypeId) (cs : List SV) (off : Nat) : Option SV :=
  match P.underlying t with
  | some d => match aggD d with
    | true => match szOf P t with
      | some n => some (.agg ((cs.drop off).take n))
      | none => none
    | false => cs[off]?
  | none => none
theorem xpart_ok {cs : List SV} {off : Nat} {v : SV} (hv : xpart P t cs off = some v) {L : List Value} (hL : SV.denL E cs = some L) (w : World) : ∃ V, v.den E = some V ∧ (part t L.toArray off).run P w = .ok V w := by
  unfold xpart at hv
  split at hv
  · rename_i d hd
    split at hv
    · rename_i ha
      split at hv
      · rename_i n hn
        cases hv
        refine ⟨.agg ((L.drop off).take n).toArray, by simp [SV.den, denL_take n (denL_drop off hL)], ?_⟩
        simp [part, run_agg hd, ha, run_size hn, List.extract_eq_take_drop]
      · cases hv
    · rename_i ha
      obtain ⟨V, h1, h2⟩ := denL_get hL hv
      exact ⟨V, h2, by simp [part, run_agg hd, ha, h1]⟩
  · cases hv
def xload (P : Program) (h : T SObj) (t : TypeId) : SV → Option SV
  | .ptr id off => match P.underlying t with
    | some d => match aggD d with
      | true => match szOf P t with
        | some n => match readCells h id off n with
          | some vs => some (.agg vs)
          | none => none
        | none => none
      | false => match readCells h id off 1 with
        | some [v] => some v
        | _ => none
    | none => none
  | _ => none
theorem xload_ok (M : Mem E h w) {a v : SV} (hv : xload P h t a = some v) {A : Value} (hA : a.den E = some A) : ∃ V, v.den E = some V ∧ (Instr.loadAt t A).run P w = .ok V w := by
  unfold xload at hv
  split at hv
  · rename_i id off
    obtain ⟨b, base, m, hb, rfl⟩ := den_ptr hA
    split at hv
    · rename_i d hd
      split at hv
      · rename_i ha
        split at hv
        · rename_i n hn
          split at hv
          · rename_i vs hvs
            cases hv
            obtain ⟨L, h1, h2, h3⟩ := run_loadCells_at (P := P) M hvs hb
            exact ⟨.agg L.toArray, by simp [SV.den, h1], by simp [Instr.loadAt, Instr.sureAddr, loadVar, run_agg hd, ha, run_size hn, h3]⟩
          · cases hv
        · cases hv
      · rename_i ha
        split at hv
        · rename_i u hvs
          cases hv
          obtain ⟨L, h1, h2, h3⟩ := read_cell M hvs hb
          obtain ⟨V, Vs, rfl, h4, h5⟩ := denL_cons_inv h1
          have h6 := h3 0 V (by simp)
          have hadd : (⟨b, base + off, none⟩ : Addr).add 0 = ⟨b, base + off, none⟩ := by simp [Addr.add]
          rw [hadd] at h6
          exact ⟨V, h4, by simp [Instr.loadAt, Instr.sureAddr, loadVar, run_agg hd, ha, h6]⟩
        · cases hv
    · cases hv
  · cases hv

/-! ### places -/
def xfieldAddr (P : Program) (s : TypeId) (x : SV) (f : Nat) : Option SV :=
  match x with
  | .ptr id off => match P.underlying s with
    | some (.struct fields) => match fields[f]? with
      | some fd => match szOf P fd.type with
        | some (n + 1) => some (.ptr id (off + fd.offset))
        | _ => none
      | none => none
    | _ => none
  | _ => none
theorem xfieldAddr_ok {s : TypeId} {x v : SV} {f : Nat} (hv : xfieldAddr P s x f = some v) {X : Value} (hX : x.den E = some X) (w : World) : ∃ V, v.den E = some V ∧ (Instr.fieldAt s X f).run P w = .ok V w := by
  unfold xfieldAddr at hv
  split at hv
  · rename_i id off
    obtain ⟨b, base, m, hb, rfl⟩ := den_ptr hX
    split at hv
    · rename_i fields hu
      split at hv
      · rename_i fd hf
        split at hv
        · rename_i n hn
          cases hv
          refine ⟨.pointer (some ⟨b, base + (off + fd.offset), none⟩), by simp [SV.den, hb], ?_⟩
          have hadd : (⟨b, base + off, none⟩ : Addr).add fd.offset = ⟨b, base + (off + fd.offset), none⟩ := by
            unfold Addr.add
            split
            · rename_i e; simp [e]
            · simp; omega
          simp [Instr.fieldAt, run_underlying hu, hf, Instr.sureAddr, fieldPlace, run_size hn, hadd]
        · cases hv
      · cases hv
    · cases hv
  · cases hv
def xfield (P : Program) (t : TypeId) (x : SV) (f : Nat) : Option SV :=
  match x with
  | .agg cs => match P.underlying t with
    | some (.struct fields) => match fields[f]? with
      | some fd => xpart P fd.type cs fd.offset
      | none => none
    | _ => none
  | _ => none
theorem xfield_ok {s : TypeId} {x v : SV} {f : Nat} (hv : xfield P s x f = some v) {X : Value} (hX : x.den E = some X) (w : World) : ∃ V, v.den E = some V ∧ (Instr.field s X f).run P w = .ok V w := by
  unfold xfield at hv
  split at hv
  · rename_i cs
    obtain ⟨L, hL, rfl⟩ := den_agg hX
    split at hv
    · rename_i fields hu
      split at hv
      · rename_i fd hf
        obtain ⟨V, h1, h2⟩ := xpart_ok hv hL w
        exact ⟨V, h1, by simp [Instr.field, run_underlying hu, hf, asAgg, h2]⟩
      · cases hv
    · cases hv
  · cases hv
def natOf : IX → Option Nat
  | .lit (.ofNat n) => some n
  | _ => none
theorem natOf_ok {x : IX} {n : Nat} (h : natOf x = some n) : x.den E = some (n : Int) := by
  unfold natOf at h
  split at h
  · cases h; rfl
  · cases h
def xindexAddr (P : Program) (t : TypeId) (x ix : SV) : Option SV :=
  match ix with
  | .int k i => match natOf i with
    | some i => match P.underlying t with
      | some (.array len elem) => match x with
        | .ptr id off => match Nat.blt i len with
          | true => match szOf P elem with
            | some n => some (.ptr id (off + i * n))
            | none => none
          | false => none
        | _ => none
      | some (.slice elem) => match x with
        | .slc id off len cap es => match Nat.blt i len with
          | true => match szOf P elem with
            | some n => some (.ptr id (off + i * n))
            | none => none
          | false => none
        | _ => none
      | _ => none
    | none => none
  | _ => none
theorem add_at (b o n : Nat) : (⟨b, o, none⟩ : Addr).add n = ⟨b, o + n, none⟩ := by
  unfold Addr.add
  split
  · rename_i e; simp [e]
  · rfl
theorem xindexAddr_ok {x ix v : SV} (hv : xindexAddr P t x ix = some v) {X I : Value} (hX : x.den E = some X) (hI : ix.den E = some I) (w : World) : ∃ V, v.den E = some V ∧ (Instr.indexAt t X I).run P w = .ok V w := by
  unfold xindexAddr at hv
  split at hv
  · rename_i k i0
    split at hv
    · rename_i i hi
      obtain ⟨z, hz, rfl⟩ := den_int hI
      have := natOf_ok (E := E) hi
      rw [hz] at this
      cases this
      split at hv
      · rename_i len elem hu
        split at hv
        · rename_i id off
          obtain ⟨b, base, m, hb, rfl⟩ := den_ptr hX
          split at hv
          · rename_i hlt
            split at hv
            · rename_i n hn
              cases hv
              have hlt' : i < len := by simpa [Nat.blt_eq] using hlt
              refine ⟨.pointer (some ⟨b, base + (off + i * n), none⟩), by simp [SV.den, hb], ?_⟩
              simp [Instr.indexAt, asIntOf, run_underlying hu, Instr.sureAddr, run_size hn, hlt', add_at, Nat.add_assoc]
            · cases hv
          · cases hv
        · cases hv
      · rename_i elem hu
        split at hv
        · rename_i id off len cap es
          obtain ⟨b, base, m, hb, rfl⟩ := den_slc hX
          split at hv
          · rename_i hlt
            split at hv
            · rename_i n hn
              cases hv
              have hlt' : i < len := by simpa [Nat.blt_eq] using hlt
              refine ⟨.pointer (some ⟨b, base + (off + i * n), none⟩), by simp [SV.den, hb], ?_⟩
              simp [Instr.indexAt, asIntOf, run_underlying hu, run_size hn, hlt', add_at, Nat.add_assoc]
            · cases hv
          · cases hv
        · cases hv
      · cases hv
    · cases hv
  · cases hv
def xindex (P : Program) (t : TypeId) (x ix : SV) : Option SV :=
  match ix with
  | .int k i => match natOf i with
    | some i => match P.underlying t with
      | some (.array len elem) => match x with
        | .agg cs => match Nat.blt i len with
          | true => match szOf P elem with
            | some n => xpart P elem cs (i * n)
            | none => none
          | false => none
        | _ => none
      | some .string => match x with
        | .str (.lit n c) => match Nat.blt i n with
          | true => some (.int .u8 (.lit (.ofNat (c / 256 ^ i % 256))))
          | false => none
        | _ => none
      | _ => none
    | none => none
  | _ => none
theorem xindex_ok {x ix v : SV} (hv : xindex P t x ix = some v) {X I : Value} (hX : x.den E = some X) (hI : ix.den E = some I) (w : World) : ∃ V, v.den E = some V ∧ (Instr.index t X I).run P w = .ok V w := by
  unfold xindex at hv
  split at hv
  · rename_i k i0
    split at hv
    · rename_i i hi
      obtain ⟨z, hz, rfl⟩ := den_int hI
      have := natOf_ok (E := E) hi
      rw [hz] at this
      cases this
      split at hv
      · rename_i len elem hu
        split at hv
        · rename_i cs
          obtain ⟨L, hL, rfl⟩ := den_agg hX
          split at hv
          · rename_i hlt
            split at hv
            · rename_i n hn
              have hlt' : i < len := by simpa [Nat.blt_eq] using hlt
              obtain ⟨V, h1, h2⟩ := xpart_ok hv hL w
              exact ⟨V, h1, by simp [Instr.index, asIntOf, run_underlying hu, run_size hn, hlt', h2]⟩
            · cases hv
          · cases hv
        · cases hv
      · rename_i hu
        split at hv
        · rename_i n c
          obtain ⟨s, hs, rfl⟩ := den_str hX
          simp only [SX.den, Option.some.injEq] at hs
          subst hs
          split at hv
          · rename_i hlt
            cases hv
            have hlt' : i < n := by simpa [Nat.blt_eq] using hlt
            refine ⟨.int .u8 ((c / 256 ^ i % 256 : Nat) : Int), by simp [SV.den, IX.den], ?_⟩
            have hg : (txt n c)[i]? = some (UInt8.ofNat (c / 256 ^ i % 256)) := by
              have h1 := dec_get n c i hlt'
              have h2 : i < (txt n c).size := by simpa using hlt'
              rw [getElem?_pos (txt n c) i h2]
              congr 1
              have h3 : (dec n c)[i]'(by simpa using hlt') = UInt8.ofNat (c / 256 ^ i % 256) := by
                have := (List.getElem?_eq_some_iff.1 h1).2
                exact this
              rw [← h3]
              rfl
            have hm : (UInt8.ofNat (c / 256 ^ i % 256)).toNat = c / 256 ^ i % 256 := by simp
            simp [Instr.index, asIntOf, run_underlying hu, hg]
          · cases hv
        · cases hv
      · cases hv
    · cases hv
  · cases hv
end
end Go.Sx
/-
  A symbolic run of Go functions by computation (part 5): comparisons, sums, slices, maps that are read, interface values.
-/
namespace Go.Sx
set_option linter.unusedVariables false
set_option linter.unusedSimpArgs false

/-! ### == -/
def plainFs (fs : Array Field) : Bool := fs.toList.all fun f => f.name != "_"
def beqB : BX → BX → Option BX
  | .lit true, b => some b
  | .lit false, b => some (mkNot b)
  | a, .lit true => some a
  | a, .lit false => some (mkNot a)
  | a, b => match decide (a = b) with
    | true => some (.lit true)
    | false => some (.and (mkNot (.and a (mkNot b))) (mkNot (.and (mkNot a) b)))
theorem beqB_ok {E : Env} {a b c : BX} {x y : Bool} (h : beqB a b = some c) (ha : a.den E = some x) (hb : b.den E = some y) : c.den E = some (x == y) := by
  unfold beqB at h
  split at h
  · cases h; simp only [BX.den, Option.some.injEq] at ha; subst ha; rw [hb]; cases y <;> rfl
  · cases h; simp only [BX.den, Option.some.injEq] at ha; subst ha; rw [mkNot_ok hb]; cases y <;> rfl
  · cases h; simp only [BX.den, Option.some.injEq] at hb; subst hb; rw [ha]; cases x <;> rfl
  · cases h; simp only [BX.den, Option.some.injEq] at hb; subst hb; rw [mkNot_ok ha]; cases x <;> rfl
  · split at h
    · rename_i hd
      cases h
      have := of_decide_eq_true hd
      subst this
      rw [ha] at hb; cases hb
      simp [BX.den]
    · cases h
      have h1 : (BX.and a (mkNot b)).den E = some (x && !y) := by simp only [BX.den, ha, mkNot_ok hb]
      have h2 : (BX.and (mkNot a) b).den E = some (!x && y) := by simp only [BX.den, mkNot_ok ha, hb]
      have h3 := mkNot_ok h1
      have h4 := mkNot_ok h2
      simp only [BX.den, h3, h4]
      cases x <;> cases y <;> rfl
def eqFs (P : Program) (f : TypeId → SV → SV → Option BX) (xs ys : List SV) : List Field → Option BX
  | [] => some (.lit true)
  | fd :: rest =>
    match xpart P fd.type xs fd.offset, xpart P fd.type ys fd.offset with
    | some a, some b =>
      match f fd.type a b with
      | some (.lit false) => some (.lit false)
      | some c => match eqFs P f xs ys rest with
        | some e => some (mkAnd c e)
        | none => none
      | none => none
    | _, _ => none
def eqv (P : Program) : Nat → TypeId → SV → SV → Option BX
  | 0, _, _, _ => none
  | d + 1, t, x, y =>
    match P.underlying t with
    | some .bool => match x, y with
      | .bool a, .bool b => beqB a b
      | _, _ => none
    | some (.int _) => match x, y with
      | .int k a, .int k' b => match decide (k = k') with
        | true => some (mkIeq a b)
        | false => none
      | _, _ => none
    | some .string => match x, y with
      | .str a, .str b => some (mkSeq a b)
      | _, _ => none
    | some (.pointer elem) => match x, y with
      | .nilp, .nilp => some (.lit true)
      | .nilp, .ptr _ _ => some (.lit false)
      | .ptr _ _, .nilp => some (.lit false)
      | .ptr i o, .ptr j p => match Nat.beq i j, szOf P elem with
        | true, some (n + 1) => some (.lit (Nat.beq o p))
        | _, _ => none
      | _, _ => none
    | some (.interface _) => match x, y with
      | .nili, .nili => some (.lit true)
      | .nili, .iface _ _ => some (.lit false)
      | .iface _ _, .nili => some (.lit false)
      | _, _ => none
    | some (.slice _) => match x, y with
      | .nils, .nils => some (.lit true)
      | .nils, .slc _ _ _ _ _ => some (.lit false)
      | .slc _ _ _ _ _, .nils => some (.lit false)
      | _, _ => none
    | some (.map _ _) => match x, y with
      | .nilm, .nilm => some (.lit true)
      | .nilm, .map _ => some (.lit false)
      | .map _, .nilm => some (.lit false)
      | _, _ => none
    | some (.func _ _ _) => match x, y with
      | .nilf, .nilf => some (.lit true)
      | .nilf, .func _ _ _ => some (.lit false)
      | .func _ _ _, .nilf => some (.lit false)
      | _, _ => none
    | some (.struct fs) => match x, y with
      | .agg xs, .agg ys => match P.stoodInHeld t, plainFs fs with
        | false, true => eqFs P (eqv P d) xs ys fs.toList
        | _, _ => none
      | _, _ => none
    | _ => none
section
variable {P : Program} {E : Env}
theorem eqFs_ok {f : TypeId → SV → SV → Option BX} {D : Nat}
    (ih : ∀ t x y c X Y w, f t x y = some c → x.den E = some X → y.den E = some Y → ∃ b, c.den E = some b ∧ (Op.equalIn D t X Y).run P w = .ok b w) {xs ys : List SV} {L M : List Value} (hL : SV.denL E xs = some L) (hM : SV.denL E ys = some M) (w : World) :
    ∀ {l : List Field} {c : BX}, (l.all fun f => f.name != "_") = true → eqFs P f xs ys l = some c → ∃ b, c.den E = some b ∧ (Op.eqFields D L.toArray M.toArray l).run P w = .ok b w
  | [], c, _, h => by
    simp only [eqFs, Option.some.injEq] at h
    subst h
    exact ⟨true, rfl, by simp [Op.eqFields]⟩
  | fd :: rest, c, hp, h => by
    simp only [List.all_cons, Bool.and_eq_true] at hp
    have hn : fd.name ≠ "_" := by simpa using hp.1
    simp only [eqFs] at h
    split at h
    · rename_i a b ha hb
      obtain ⟨A, a1, a2⟩ := xpart_ok ha hL w
      obtain ⟨B, b1, b2⟩ := xpart_ok hb hM w
      split at h
      · rename_i hc
        cases h
        obtain ⟨r, r1, r2⟩ := ih _ _ _ _ A B w hc a1 b1
        simp only [BX.den, Option.some.injEq] at r1
        subst r1
        exact ⟨false, rfl, by simp [Op.eqFields, hn, a2, b2, r2]⟩
      · rename_i e _ hc
        obtain ⟨r, r1, r2⟩ := ih _ _ _ _ A B w hc a1 b1
        split at h
        · rename_i e' he
          cases h
          obtain ⟨q, q1, q2⟩ := eqFs_ok ih hL hM w hp.2 he
          refine ⟨r && q, mkAnd_ok r1 q1, ?_⟩
          cases r
          · simp [Op.eqFields, hn, a2, b2, r2]
          · simp [Op.eqFields, hn, a2, b2, r2, q2]
        · cases h
      · cases h
    · cases h
theorem eqv_ok : ∀ (d D : Nat), d ≤ D → ∀ t x y c X Y w, eqv P d t x y = some c → x.den E = some X → y.den E = some Y → ∃ b, c.den E = some b ∧ (Op.equalIn D t X Y).run P w = .ok b w
  | 0, D, _, t, x, y, c, X, Y, w, h, _, _ => by simp [eqv] at h
  | d + 1, 0, hd, _, _, _, _, _, _, _, _, _, _ => by omega
  | d + 1, D + 1, hd, t, x, y, c, X, Y, w, h, hX, hY => by
    simp only [eqv] at h
    split at h
    · rename_i hu
      split at h
      · obtain ⟨a, ha, rfl⟩ := den_bool hX
        obtain ⟨b, hb, rfl⟩ := den_bool hY
        exact ⟨_, beqB_ok h ha hb, by simp [Op.equalIn, run_underlying hu]⟩
      · cases h
    · rename_i k0 hu
      split at h
      · obtain ⟨a, ha, rfl⟩ := den_int hX
        obtain ⟨b, hb, rfl⟩ := den_int hY
        split at h
        · rename_i e
          cases h
          have e := of_decide_eq_true e
          subst e
          exact ⟨_, mkIeq_ok ha hb, by simp [Op.equalIn, run_underlying hu]⟩
        · cases h
      · cases h
    · rename_i hu
      split at h
      · obtain ⟨a, ha, rfl⟩ := den_str hX
        obtain ⟨b, hb, rfl⟩ := den_str hY
        cases h
        exact ⟨_, mkSeq_ok ha hb, by simp [Op.equalIn, run_underlying hu, beq_toListBytes]⟩
      · cases h
    · rename_i elem hu
      split at h
      · cases h; obtain rfl := den_nil0.1 hX; obtain rfl := den_nil0.1 hY
        exact ⟨_, rfl, by simp [Op.equalIn, run_underlying hu]⟩
      · cases h; obtain rfl := den_nil0.1 hX; obtain ⟨_, _, _, _, rfl⟩ := den_ptr hY
        exact ⟨_, rfl, by simp [Op.equalIn, run_underlying hu]⟩
      · cases h; obtain ⟨_, _, _, _, rfl⟩ := den_ptr hX; obtain rfl := den_nil0.1 hY
        exact ⟨_, rfl, by simp [Op.equalIn, run_underlying hu]⟩
      · obtain ⟨b1, base1, n1, e1, rfl⟩ := den_ptr hX; obtain ⟨b2, base2, n2, e2, rfl⟩ := den_ptr hY
        split at h
        · rename_i n hij hn
          cases h
          have hij := Nat.eq_of_beq_eq_true hij
          subst hij
          rw [e1] at e2; cases e2
          refine ⟨_, rfl, ?_⟩
          have e : ∀ o p : Nat, ((⟨b1, base1 + o, none⟩ : Addr) == ⟨b1, base1 + p, none⟩) = Nat.beq o p := by
            intro o p
            rw [Bool.eq_iff_iff]
            simp
          simp [Op.equalIn, run_underlying hu, run_size hn, sameAddr, e]
        · cases h
      · cases h
    · rename_i ms hu
      split at h
      · cases h; obtain rfl := den_nil0.2.2.2.2 hX; obtain rfl := den_nil0.2.2.2.2 hY
        exact ⟨_, rfl, by simp [Op.equalIn, run_underlying hu]⟩
      · cases h; obtain rfl := den_nil0.2.2.2.2 hX; obtain ⟨_, _, rfl⟩ := den_iface hY
        exact ⟨_, rfl, by simp [Op.equalIn, run_underlying hu]⟩
      · cases h; obtain ⟨_, _, rfl⟩ := den_iface hX; obtain rfl := den_nil0.2.2.2.2 hY
        exact ⟨_, rfl, by simp [Op.equalIn, run_underlying hu]⟩
      · cases h
    · rename_i elem hu
      split at h
      · cases h; obtain rfl := den_nil0.2.1 hX; obtain rfl := den_nil0.2.1 hY
        exact ⟨_, rfl, by simp [Op.equalIn, run_underlying hu]⟩
      · cases h; obtain rfl := den_nil0.2.1 hX; obtain ⟨_, _, _, _, rfl⟩ := den_slc hY
        exact ⟨_, rfl, by simp [Op.equalIn, run_underlying hu]⟩
      · cases h; obtain ⟨_, _, _, _, rfl⟩ := den_slc hX; obtain rfl := den_nil0.2.1 hY
        exact ⟨_, rfl, by simp [Op.equalIn, run_underlying hu]⟩
      · cases h
    · rename_i hu
      split at h
      · cases h; obtain rfl := den_nil0.2.2.1 hX; obtain rfl := den_nil0.2.2.1 hY
        exact ⟨_, rfl, by simp [Op.equalIn, run_underlying hu]⟩
      · cases h; obtain rfl := den_nil0.2.2.1 hX; obtain ⟨_, _, _, _, rfl⟩ := den_map hY
        exact ⟨_, rfl, by simp [Op.equalIn, run_underlying hu]⟩
      · cases h; obtain ⟨_, _, _, _, rfl⟩ := den_map hX; obtain rfl := den_nil0.2.2.1 hY
        exact ⟨_, rfl, by simp [Op.equalIn, run_underlying hu]⟩
      · cases h
    · rename_i hu
      split at h
      · cases h; obtain rfl := den_nil0.2.2.2.1 hX; obtain rfl := den_nil0.2.2.2.1 hY
        exact ⟨_, rfl, by simp [Op.equalIn, run_underlying hu]⟩
      · cases h; obtain rfl := den_nil0.2.2.2.1 hX; obtain ⟨_, _, _, _, rfl⟩ := den_func hY
        exact ⟨_, rfl, by simp [Op.equalIn, run_underlying hu]⟩
      · cases h; obtain ⟨_, _, _, _, rfl⟩ := den_func hX; obtain rfl := den_nil0.2.2.2.1 hY
        exact ⟨_, rfl, by simp [Op.equalIn, run_underlying hu]⟩
      · cases h
    · rename_i fs hu
      split at h
      · obtain ⟨L, hL, rfl⟩ := den_agg hX
        obtain ⟨M, hM, rfl⟩ := den_agg hY
        split at h
        · rename_i hs hp
          have hf : P.fieldsOf t = fs := by simp [Program.fieldsOf, hu]
          rw [run_equalIn_struct (P := P) w D t L.toArray M.toArray (by rw [hf]; exact hu) hs, hf]
          exact eqFs_ok (fun t x y c X Y w h1 h2 h3 => eqv_ok d D (by omega) t x y c X Y w h1 h2 h3) hL hM w hp h
        · cases h
      · cases h
    · cases h

/-! ### sums and tests -/
def mkBin (o : BinOp) (k : IntKind) (a b : IX) : Option IX :=
  match a, b with
  | .lit x, .lit y => match intBin o k x y with
    | some z => some (.lit z)
    | none => none
  | a, .lit y => match intBin o k 0 y with
    | some _ => some (.bin o k a (.lit y))
    | none => none
  | a, b => match o with
    | .add | .sub | .mul | .and | .or | .xor | .andNot => some (.bin o k a b)
    | _ => none
theorem mkBin_ok {o : BinOp} {k : IntKind} {a b c : IX} {x y : Int} (h : mkBin o k a b = some c) (ha : a.den E = some x) (hb : b.den E = some y) : ∃ z, intBin o k x y = some z ∧ c.den E = some z := by
  unfold mkBin at h
  split at h
  · simp only [IX.den, Option.some.injEq] at ha hb; subst ha hb
    split at h
    · rename_i z hz; cases h; exact ⟨z, hz, rfl⟩
    · cases h
  · rename_i y0 _
    simp only [IX.den, Option.some.injEq] at hb; subst hb
    split at h
    · rename_i z hz; cases h
      have : ∃ u, intBin o k x y0 = some u := by
        cases o <;> simp only [intBin] at hz ⊢ <;> first | exact ⟨_, rfl⟩ | (split at hz <;> first | (cases hz; done) | (rename_i e; rw [if_neg e]; exact ⟨_, rfl⟩)) | cases hz
      obtain ⟨u, hu⟩ := this
      exact ⟨u, hu, by simp [IX.den, ha, hu]⟩
    · cases h
  · split at h <;> first | (cases h; done) | (cases h; exact ⟨_, rfl, by simp [IX.den, ha, hb, intBin]⟩)
def cmpI (o : BinOp) (a b : IX) : Option BX :=
  match o with
  | .eql => some (mkIeq a b)
  | .neq => some (mkNot (mkIeq a b))
  | .lss => some (mkIlt a b)
  | .geq => some (mkNot (mkIlt a b))
  | .gtr => some (mkIlt b a)
  | .leq => some (mkNot (mkIlt b a))
  | _ => none
def isArith : BinOp → Bool
  | .add | .sub | .mul | .quo | .rem | .and | .or | .xor | .andNot => true
  | _ => false
def ltL : List UInt8 → List UInt8 → Bool
  | _, [] => false
  | [], _ :: _ => true
  | a :: x, b :: y => match Nat.blt a.toNat b.toNat with
    | true => true
    | false => match Nat.beq a.toNat b.toNat with
      | true => ltL x y
      | false => false
theorem ltL_eq : ∀ x y, ltL x y = Op.bytesLess x y
  | x, [] => by cases x <;> rfl
  | [], _ :: _ => rfl
  | a :: x, b :: y => by
    simp only [ltL, Op.bytesLess, ltL_eq x y]
    split
    · rename_i e
      have : a < b := by rw [UInt8.lt_iff_toNat_lt]; simpa [Nat.blt_eq] using e
      simp [this]
    · rename_i e
      have : ¬ a < b := by rw [UInt8.lt_iff_toNat_lt]; intro h; have : Nat.blt a.toNat b.toNat = true := by simpa [Nat.blt_eq] using h
                           rw [this] at e; cases e
      split
      · rename_i e2
        have : a = b := UInt8.toNat_inj.1 (Nat.eq_of_beq_eq_true e2)
        subst this
        simp
      · rename_i e2
        have : a ≠ b := fun h => by subst h; simp at e2
        simp [*]
def strOp (o : BinOp) (a b : SX) : Option SV :=
  match o with
  | .eql => some (.bool (mkSeq a b))
  | .neq => some (.bool (mkNot (mkSeq a b)))
  | .add => match a, b with
    | .lit n c, .lit m d => match Nat.ble (n + m) 9223372036854775807 with
      | true => some (.str (.lit (n + m) (c % 256 ^ n + d * 256 ^ n)))
      | false => none
    | _, _ => none
  | o => match a, b with
    | .lit n c, .lit m d =>
      match o with
      | .lss => some (.bool (.lit (ltL (dec n c) (dec m d))))
      | .geq => some (.bool (.lit (!ltL (dec n c) (dec m d))))
      | .leq => some (.bool (.lit (!ltL (dec m d) (dec n c))))
      | .gtr => some (.bool (.lit (ltL (dec m d) (dec n c))))
      | _ => none
    | _, _ => none
theorem bytesLess_total : ∀ x y : List UInt8, (Op.bytesLess x y || x == y) = !Op.bytesLess y x
  | [], [] => by simp [Op.bytesLess]
  | [], b :: y => by simp [Op.bytesLess]
  | a :: x, [] => by simp [Op.bytesLess]
  | a :: x, b :: y => by
    have ih := bytesLess_total x y
    simp only [Op.bytesLess]
    rcases Nat.lt_trichotomy a.toNat b.toNat with h | h | h
    · have h1 : a < b := UInt8.lt_iff_toNat_lt.2 h
      have h2 : ¬ b < a := fun e => by have := UInt8.lt_iff_toNat_lt.1 e; omega
      have h3 : b ≠ a := fun e => by subst e; omega
      simp [h1, h2, h3]
    · have h1 : a = b := UInt8.toNat_inj.1 h
      subst h1
      simp only [UInt8.lt_irrefl, decide_false, Bool.false_or, BEq.rfl, Bool.true_and]
      rw [← ih]
      congr 1
      rw [Bool.eq_iff_iff]; simp
    · have h1 : b < a := UInt8.lt_iff_toNat_lt.2 h
      have h2 : ¬ a < b := fun e => by have := UInt8.lt_iff_toNat_lt.1 e; omega
      have h3 : a ≠ b := fun e => by subst e; omega
      simp [h1, h2, h3]
theorem txt_append (n c m d : Nat) : txt n c ++ txt m d = txt (n + m) (c % 256 ^ n + d * 256 ^ n) := by
  unfold txt
  rw [dec_append]
  apply ByteArray.ext
  simp
theorem strOp_ok {o : BinOp} {a b : SX} {v : SV} {x y : ByteArray} (h : strOp o a b = some v) (ha : a.den E = some x) (hb : b.den E = some y) (w : World) : ∃ V, v.den E = some V ∧ (Op.stringOp o x y).run P w = .ok V w := by
  unfold strOp at h
  split at h
  · cases h; exact ⟨.bool (x.toList == y.toList), by simp [SV.den, mkSeq_ok ha hb], by simp [Op.stringOp]⟩
  · cases h; exact ⟨.bool (!(x.toList == y.toList)), by simp [SV.den, mkNot_ok (mkSeq_ok ha hb)], by simp [Op.stringOp]⟩
  · split at h
    · simp only [SX.den, Option.some.injEq] at ha hb; subst ha hb
      split at h
      · rename_i hle
        cases h
        have hle := Nat.le_of_ble_eq_true hle
        rename_i n c m d _ _
        refine ⟨.string (txt n c ++ txt m d), by simp [SV.den, SX.den, txt_append], ?_⟩
        have : ¬ (((txt n c).size + (txt m d).size : Nat) : Int) > IntKind.i64.max := by
          simp only [size_txt]
          have : IntKind.i64.max = 9223372036854775807 := by decide
          rw [this]; omega
        simp only [Op.stringOp, Sem.run_ite]
        rw [if_neg this]
        rfl
      · cases h
    · cases h
  · split at h
    · simp only [SX.den, Option.some.injEq] at ha hb; subst ha hb
      split at h
      · rename_i n c m d _ _ _ _; cases h; exact ⟨.bool (ltL (dec n c) (dec m d)), by simp [SV.den, BX.den], by simp only [Op.stringOp, toList_txt, ltL_eq, Sem.run_pure]⟩
      · rename_i n c m d _ _ _ _; cases h; exact ⟨.bool (!ltL (dec n c) (dec m d)), by simp [SV.den, BX.den], by simp only [Op.stringOp, toList_txt, ltL_eq, Sem.run_pure]⟩
      · rename_i n c m d _ _ _ _; cases h; exact ⟨.bool (!ltL (dec m d) (dec n c)), by simp [SV.den, BX.den], by simp only [Op.stringOp, toList_txt, ltL_eq, bytesLess_total, Sem.run_pure]⟩
      · rename_i n c m d _ _ _ _; cases h; exact ⟨.bool (ltL (dec m d) (dec n c)), by simp [SV.den, BX.den], by simp only [Op.stringOp, toList_txt, ltL_eq, bytesLess_total, Sem.run_pure, Bool.not_not]⟩
      · cases h
    · cases h
def isConstO : Operand → Bool
  | .const _ => true
  | _ => false
def xbin (P : Program) (op : BinOp) (t : TypeId) (cst : Bool) (x y : SV) : Option SV :=
  match x, y with
  | .int k a, .int k' b =>
    match op with
    | .shl => match mkBin .shl k a b with | some z => some (.int k z) | none => none
    | .shr => match mkBin .shr k a b with | some z => some (.int k z) | none => none
    | op => match decide (k = k') with
      | true => match isArith op with
        | true => match mkBin op k a b with | some z => some (.int k z) | none => none
        | false => match cmpI op a b with | some c => some (.bool c) | none => none
      | false => none
  | .str a, .str b => strOp op a b
  | x, y =>
    match (match x, y with
      | .nili, .nili => cst
      | .agg _, .agg _ => !P.eqGuardType P.depth t
      | .int _ _, _ => false
      | .str _, _ => false
      | _, _ => true) with
    | true => match op with
      | .eql => match eqv P 30 t x y with | some c => some (.bool c) | none => none
      | .neq => match eqv P 30 t x y with | some c => some (.bool (mkNot c)) | none => none
      | _ => none
    | false => none
def EqLike (X : Value) : Prop := ∀ t Y, binOp .eql t X Y = (do pure (.bool (← Op.equal t X Y))) ∧ binOp .neq t X Y = (do pure (.bool (!(← Op.equal t X Y))))
theorem eqLike {x : SV} {X : Value} (h : x.den E = some X) (h1 : ∀ k n, x ≠ .int k n) (h2 : ∀ s, x ≠ .str s) : EqLike X := by
  cases x with
  | bool b => obtain ⟨_, _, rfl⟩ := den_bool h; exact fun t Y => ⟨rfl, rfl⟩
  | int k n => exact (h1 _ _ rfl).elim
  | str s => exact (h2 _ rfl).elim
  | nilp => obtain rfl := den_nil0.1 h; exact fun t Y => ⟨rfl, rfl⟩
  | ptr i o => obtain ⟨_, _, _, _, rfl⟩ := den_ptr h; exact fun t Y => ⟨rfl, rfl⟩
  | nils => obtain rfl := den_nil0.2.1 h; exact fun t Y => ⟨rfl, rfl⟩
  | slc a b c d e => obtain ⟨_, _, _, _, rfl⟩ := den_slc h; exact fun t Y => ⟨rfl, rfl⟩
  | nilm => obtain rfl := den_nil0.2.2.1 h; exact fun t Y => ⟨rfl, rfl⟩
  | map i => obtain ⟨_, _, _, _, rfl⟩ := den_map h; exact fun t Y => ⟨rfl, rfl⟩
  | nilf => obtain rfl := den_nil0.2.2.2.1 h; exact fun t Y => ⟨rfl, rfl⟩
  | func f a b => obtain ⟨_, _, _, _, rfl⟩ := den_func h; exact fun t Y => ⟨rfl, rfl⟩
  | nili => obtain rfl := den_nil0.2.2.2.2 h; exact fun t Y => ⟨rfl, rfl⟩
  | iface t v => obtain ⟨_, _, rfl⟩ := den_iface h; exact fun t Y => ⟨rfl, rfl⟩
  | agg cs => obtain ⟨_, _, rfl⟩ := den_agg h; exact fun t Y => ⟨rfl, rfl⟩
  | tup cs => obtain ⟨_, _, rfl⟩ := den_tup h; exact fun t Y => ⟨rfl, rfl⟩
  | opq i =>
    simp only [SV.den] at h
    split at h
    · cases h; exact fun t Y => ⟨rfl, rfl⟩
    · cases h
  | opf i =>
    simp only [SV.den] at h
    split at h
    · split at h
      · cases h; exact fun t Y => ⟨rfl, rfl⟩
      · cases h
    · cases h
theorem run_guard_plain {op : BinOp} {t : TypeId} {xo yo : Operand} {X Y : Value} (h : (X = .nilIface → Y = .nilIface → isConstO xo = true ∨ isConstO yo = true)) (h2 : ∀ a b, X = .agg a → Y = .agg b → P.eqGuardType P.depth t = false) (w : World) :
    (eqGuard op t xo yo X Y).run P w = .ok () w := by
  unfold eqGuard
  cases op <;> first | exact rfl | skip
  all_goals
    simp only [Bool.not_true, Bool.false_eq_true, if_false]
    split
    · rcases h rfl rfl with h | h
      · cases xo <;> first | (cases h; done) | rfl
      · cases yo <;> first | (cases h; done) | (cases xo <;> rfl)
    · have := h2 _ _ rfl rfl
      simp [this]
    · rfl
theorem int_ops {k : IntKind} {a b z : Int} {op : BinOp} (h : intBin op k a b = some z) (w : World) (t : TypeId) : (binOp op t (.int k a) (.int k b)).run P w = .ok (.int k z) w := by
  cases op <;> simp only [intBin, Option.some.injEq] at h <;>
    first
      | (subst h; simp [binOp, Op.intArith, Op.intBits]; done)
      | (split at h
         · cases h
         · rename_i e; cases h; simp [binOp, Op.intDiv, Op.shift, e]; done)
      | (cases h; done)
theorem shift_ops {k k' : IntKind} {a b z : Int} {op : BinOp} (ho : op = .shl ∨ op = .shr) (h : intBin op k a b = some z) (w : World) (t : TypeId) : (binOp op t (.int k a) (.int k' b)).run P w = .ok (.int k z) w := by
  rcases ho with rfl | rfl <;> simp only [intBin, Option.some.injEq] at h <;> split at h <;> first | (cases h; done) | (rename_i e; cases h; simp [binOp, Op.shift, e])
theorem cmp_ops {k : IntKind} {a b : IX} {x y : Int} {op : BinOp} {c : BX} (h : cmpI op a b = some c) (ha : a.den E = some x) (hb : b.den E = some y) (w : World) (t : TypeId) : ∃ v, c.den E = some v ∧ (binOp op t (.int k x) (.int k y)).run P w = .ok (.bool v) w := by
  cases op <;> simp only [cmpI, Option.some.injEq] at h <;> first | (cases h; done) | subst h
  · exact ⟨_, mkIeq_ok ha hb, by simp [binOp, Op.intCmp]⟩
  · exact ⟨_, mkNot_ok (mkIeq_ok ha hb), by simp [binOp, Op.intCmp, bne]⟩
  · exact ⟨_, mkIlt_ok ha hb, by simp [binOp, Op.intCmp]⟩
  · exact ⟨_, mkNot_ok (mkIlt_ok hb ha), by simp [binOp, Op.intCmp, ← decide_not, Int.not_lt]⟩
  · exact ⟨_, mkIlt_ok hb ha, by simp [binOp, Op.intCmp]⟩
  · exact ⟨_, mkNot_ok (mkIlt_ok ha hb), by simp [binOp, Op.intCmp, ← decide_not, Int.not_lt]⟩
theorem xbin_ok {op : BinOp} {t : TypeId} {cst : Bool} {x y v : SV} (h : xbin P op t cst x y = some v) {X Y : Value} (hX : x.den E = some X) (hY : y.den E = some Y) {xo yo : Operand} (hc : cst = true → isConstO xo = true ∨ isConstO yo = true) (w : World) :
    ∃ V, v.den E = some V ∧ ((do eqGuard op t xo yo X Y; binOp op t X Y) : Sem Value).run P w = .ok V w := by
  unfold xbin at h
  split at h
  · rename_i k a0 k' b0
    obtain ⟨a, ha, rfl⟩ := den_int hX
    obtain ⟨b, hb, rfl⟩ := den_int hY
    have hg : (eqGuard op t xo yo (.int k a) (.int k' b)).run P w = .ok () w := run_guard_plain (fun e => by cases e) (fun _ _ e => by cases e) w
    split at h
    · split at h
      · rename_i z hz; cases h
        obtain ⟨u, h1, h2⟩ := mkBin_ok hz ha hb
        exact ⟨.int k u, by simp only [SV.den, h2], by simp only [Sem.run_bind, hg, Result.andThen_ok, shift_ops (.inl rfl) h1]⟩
      · cases h
    · split at h
      · rename_i z hz; cases h
        obtain ⟨u, h1, h2⟩ := mkBin_ok hz ha hb
        exact ⟨.int k u, by simp only [SV.den, h2], by simp only [Sem.run_bind, hg, Result.andThen_ok, shift_ops (.inr rfl) h1]⟩
      · cases h
    · split at h
      · rename_i e
        have e := of_decide_eq_true e
        subst e
        split at h
        · split at h
          · rename_i z hz; cases h
            obtain ⟨u, h1, h2⟩ := mkBin_ok hz ha hb
            exact ⟨.int k u, by simp only [SV.den, h2], by simp only [Sem.run_bind, hg, Result.andThen_ok, int_ops h1]⟩
          · cases h
        · split at h
          · rename_i z hz; cases h
            obtain ⟨u, h1, h2⟩ := cmp_ops (P := P) (k := k) hz ha hb w t
            exact ⟨.bool u, by simp only [SV.den, h1], by simp only [Sem.run_bind, hg, Result.andThen_ok, h2]⟩
          · cases h
      · cases h
  · obtain ⟨a, ha, rfl⟩ := den_str hX
    obtain ⟨b, hb, rfl⟩ := den_str hY
    have hg : (eqGuard op t xo yo (.string a) (.string b)).run P w = .ok () w := run_guard_plain (fun e => by cases e) (fun _ _ e => by cases e) w
    obtain ⟨V, h1, h2⟩ := strOp_ok (P := P) h ha hb w
    refine ⟨V, h1, ?_⟩
    have hb : binOp op t (.string a) (.string b) = Op.stringOp op a b := by cases op <;> rfl
    simp only [Sem.run_bind, hg, Result.andThen_ok, hb, h2]
  · rename_i x1 y1 hni hns
    split at h
    · rename_i hok
      have hx1 : ∀ k n, x ≠ .int k n := by
        rintro k n rfl
        simp only at hok
        cases hok
      have hx2 : ∀ s, x ≠ .str s := by
        rintro s rfl
        simp only at hok
        cases hok
      have hE := eqLike hX hx1 hx2
      have hg : (eqGuard op t xo yo X Y).run P w = .ok () w := by
        refine run_guard_plain (fun e1 e2 => ?_) (fun a b e1 e2 => ?_) w
        · subst e1 e2
          have hx : x = .nili := by
            cases x <;> first | rfl | (exfalso; simp only [SV.den] at hX; first | (cases hX; done) | (split at hX <;> first | (cases hX; done) | (split at hX <;> cases hX)))
          have hy : y = .nili := by
            cases y <;> first | rfl | (exfalso; simp only [SV.den] at hY; first | (cases hY; done) | (split at hY <;> first | (cases hY; done) | (split at hY <;> cases hY)))
          subst hx hy
          exact hc hok
        · subst e1 e2
          have hx : ∃ cs, x = .agg cs := by
            cases x <;> first | exact ⟨_, rfl⟩ | (exfalso; simp only [SV.den] at hX; first | (cases hX; done) | (split at hX <;> first | (cases hX; done) | (split at hX <;> cases hX)))
          have hy : ∃ cs, y = .agg cs := by
            cases y <;> first | exact ⟨_, rfl⟩ | (exfalso; simp only [SV.den] at hY; first | (cases hY; done) | (split at hY <;> first | (cases hY; done) | (split at hY <;> cases hY)))
          obtain ⟨cs, rfl⟩ := hx
          obtain ⟨cs', rfl⟩ := hy
          simpa using hok
      split at h
      · split at h
        · rename_i c hcc; cases h
          obtain ⟨b, h1, h2⟩ := eqv_ok (P := P) 30 10000 (by omega) _ _ _ _ _ _ w hcc hX hY
          refine ⟨.bool b, by simp only [SV.den, h1], ?_⟩
          simp only [Sem.run_bind, hg, Result.andThen_ok, (hE t Y).1, Op.equal, Op.maxDepth, h2, Sem.run_pure]
        · cases h
      · split at h
        · rename_i c hcc; cases h
          obtain ⟨b, h1, h2⟩ := eqv_ok (P := P) 30 10000 (by omega) _ _ _ _ _ _ w hcc hX hY
          refine ⟨.bool (!b), by simp only [SV.den, mkNot_ok h1], ?_⟩
          simp only [Sem.run_bind, hg, Result.andThen_ok, (hE t Y).2, Op.equal, Op.maxDepth, h2, Sem.run_pure]
        · cases h
      · cases h
    · cases h
end
end Go.Sx
/-
  A symbolic run of Go functions by computation (part 6): slices, maps that are read, interface values, composite values; all operations that leave memory alone.
-/
namespace Go.Sx
set_option linter.unusedVariables false
set_option linter.unusedSimpArgs false

/-! ### x[lo:hi:max] -/
def natSV : SV → Option Nat
  | .int _ i => natOf i
  | _ => none
theorem natSV_ok {E : Env} {v : SV} {n : Nat} (h : natSV v = some n) {V : Value} (hV : v.den E = some V) : ∃ k, V = .int k (n : Int) := by
  unfold natSV at h
  split at h
  · obtain ⟨z, hz, rfl⟩ := den_int hV
    rw [natOf_ok (E := E) h] at hz
    cases hz
    exact ⟨_, rfl⟩
  · cases h
/-- An operand that may be missing, as a number. -/
def natO (a : SAct) : Option Operand → Option (Option Nat)
  | none => some none
  | some x => match a.ev x with
    | some v => match natSV v with
      | some n => some (some n)
      | none => none
    | none => none
inductive IsNat : Option Value → Option Nat → Prop where
  | none : IsNat none none
  | some (k : IntKind) (n : Nat) : IsNat (some (.int k (n : Int))) (some n)
theorem natO_ok {E : Env} {a : SAct} {A : Act} (h : ActRel E a A) {x : Option Operand} {n : Option Nat} (hx : natO a x = some n) : IsNat (x.map A.eval) n := by
  unfold natO at hx
  split at hx
  · cases hx; exact .none
  · split at hx
    · rename_i v hv
      split at hx
      · rename_i m hm
        cases hx
        obtain ⟨k, hk⟩ := natSV_ok hm (ev_ok h hv)
        simp only [Option.map_some, hk]
        exact .some k m
      · cases hx
    · cases hx
def xbounds (len lb : Nat) (ex lo hi mx : Option Nat) : Option (Nat × Nat × Option Nat) :=
  match (match mx with | some v => Nat.ble v lb | none => true) with
  | false => none
  | true =>
    match (match hi with
      | some v => (match Nat.ble v (match mx with | some m => m | none => lb) with | true => some v | false => none)
      | none => (match mx with | some _ => none | none => some len)) with
    | none => none
    | some h =>
      match (match lo with | some v => Nat.ble v h | none => true) with
      | false => none
      | true => some ((match lo with | some v => v | none => 0), h, (match mx with | some v => some v | none => ex))
theorem run_sliceBound {P : Program} {k : IntKind} {v y : Nat} (h : v ≤ y) (code : BoundsCode) (w : World) : (Instr.sliceBound (.int k (v : Int)) y code).run P w = .ok v w := by
  simp [Instr.sliceBound, asIntOf, h]
theorem xbounds_ok {P : Program} {len lb C : Nat} {ex lo hi mx : Option Nat} {l h : Nat} {m : Option Nat} (hb : xbounds len lb ex lo hi mx = some (l, h, m)) (hlb : lb ≤ C) (hex : ∀ c, ex = some c → c = C)
    {lo' hi' mx' : Option Value} (hlo : IsNat lo' lo) (hhi : IsNat hi' hi) (hmx : IsNat mx' mx) (s : Bool) (w : World) :
    ∃ M, (Instr.sliceBounds s len C lo' hi' mx').run P w = .ok (l, h, M) w ∧ l ≤ h ∧ (mx = none → M = C) ∧ (∀ v, mx = some v → M = v ∧ h ≤ M) ∧ (m = none → mx = none ∧ ex = none) ∧ (∀ v, m = some v → v = M) ∧ (hi = none → h = len) ∧ (∀ v, hi = some v → h = v) := by
  unfold xbounds at hb
  split at hb
  · cases hb
  · rename_i h1
    split at hb
    · cases hb
    · rename_i h0 h2
      split at hb
      · cases hb
      · rename_i h3
        cases hb
        cases hmx with
        | none =>
          cases hhi with
          | none =>
            simp only at h2
            cases h2
            refine ⟨C, ?_, ?_, fun _ => rfl, fun v hv => (by cases hv), fun e => ⟨rfl, e⟩, fun v hv => hex v hv, fun _ => rfl, fun v hv => by cases hv⟩
            · cases hlo with
              | none => simp [Instr.sliceBounds]
              | some k n => simp [Instr.sliceBounds, run_sliceBound (Nat.le_of_ble_eq_true h3)]
            · cases hlo with
              | none => exact Nat.zero_le _
              | some k n => exact Nat.le_of_ble_eq_true h3
          | some k v =>
            simp only at h2
            split at h2
            · rename_i h4
              cases h2
              have h4 := Nat.le_trans (Nat.le_of_ble_eq_true h4) hlb
              refine ⟨C, ?_, ?_, fun _ => rfl, fun v hv => (by cases hv), fun e => ⟨rfl, e⟩, fun v hv => hex v hv, fun e => (by cases e), fun v hv => by cases hv; rfl⟩
              · cases hlo with
                | none => simp [Instr.sliceBounds, run_sliceBound h4]
                | some k n => simp [Instr.sliceBounds, run_sliceBound h4, run_sliceBound (Nat.le_of_ble_eq_true h3)]
              · cases hlo with
                | none => exact Nat.zero_le _
                | some k n => exact Nat.le_of_ble_eq_true h3
            · cases h2
        | some k' m =>
          have h1 := Nat.le_trans (Nat.le_of_ble_eq_true h1) hlb
          cases hhi with
          | none => simp only at h2; cases h2
          | some k v =>
            simp only at h2
            split at h2
            · rename_i h4
              cases h2
              have h4 := Nat.le_of_ble_eq_true h4
              refine ⟨m, ?_, ?_, fun e => (by cases e), fun v hv => (by cases hv; exact ⟨rfl, h4⟩), fun e => (by cases e), fun v hv => (by cases hv; rfl), fun e => (by cases e), fun v hv => by cases hv; rfl⟩
              · cases hlo with
                | none => simp [Instr.sliceBounds, run_sliceBound h1, run_sliceBound h4]
                | some k n => simp [Instr.sliceBounds, run_sliceBound h1, run_sliceBound h4, run_sliceBound (Nat.le_of_ble_eq_true h3)]
              · cases hlo with
                | none => exact Nat.zero_le _
                | some k n => exact Nat.le_of_ble_eq_true h3
            · cases h2
/-- At least so many elements has the slice's array from there on. -/
def capLB (h : T SObj) (id off : Nat) (cap : Option Nat) (es : Nat) : Nat :=
  match cap with
  | some c => c
  | none => match h.get id with
    | some (.cells rows nr es' ty opn ro) => (nr * es' - off) / es
    | _ => 0
theorem capLB_ok {E : Env} {h : T SObj} {w : World} (M : Mem E h w) {id off es b base n : Nat} {cap : Option Nat} (hb : E.blk id = some (b, base, n)) : capLB h id off cap es ≤ capOf cap n off es := by
  unfold capLB capOf
  cases cap with
  | some c => exact Nat.le_refl _
  | none =>
    simp only
    split
    · rename_i rows nr es' ty opn ro hid
      obtain ⟨b', base', m', hb', cs, fr, ty0, hcs, -, ⟨hsz, -⟩, hnr, -⟩ := M id _ hid rfl
      rw [hb] at hb'; cases hb'
      exact Nat.div_le_div_right (by omega)
    · exact Nat.zero_le _
def capSub (m : Option Nat) (l : Nat) : Option Nat :=
  match m with
  | some m => some (m - l)
  | none => none
/-- The place of an element: where it begins, if it is not the end of the array. -/
def shiftOff (off l es lb : Nat) : Option Nat → Option Nat
  | some m => match Nat.beq m l with
    | true => some off
    | false => some (off + l * es)
  | none => match l with
    | 0 => some off
    | _ => match Nat.blt l lb with
      | true => some (off + l * es)
      | false => none
def xslice (P : Program) (h : T SObj) (t : TypeId) (x : SV) (lo hi mx : Option Nat) : Option SV :=
  match P.underlying t with
  | some (.array n elem) => match x with
    | .ptr id off => match szOf P elem, xbounds n n (some n) lo hi mx with
      | some es, some (l, hh, m) => match shiftOff off l es n m with
        | some off' => some (.slc id off' (hh - l) (capSub m l) es)
        | none => none
      | _, _ => none
    | _ => none
  | some .string => match x with
    | .str (.lit n c) => match mx with
      | none => match xbounds n n (some n) lo hi none with
        | some (l, hh, _) => some (.str (.lit (hh - l) (c / 256 ^ l)))
        | none => none
      | some _ => none
    | _ => none
  | some (.slice elem) => match x with
    | .slc id off len cap es => match szOf P elem with
      | some sz => match Nat.beq sz es, Nat.blt 0 es with
        | true, true => match xbounds len (capLB h id off cap es) cap lo hi mx with
          | some (l, hh, m) => match shiftOff off l es (capLB h id off cap es) m with
            | some off' => some (.slc id off' (hh - l) (capSub m l) es)
            | none => none
          | none => none
        | _, _ => none
      | none => none
    | .nils => match xbounds 0 0 (some 0) lo hi mx, szOf P elem with
      | some _, some _ => some .nils
      | _, _ => none
    | _ => none
  | _ => none
/-- A part that begins where the slice ends, and maybe the array too: the one or the other. -/
def xslice2 (P : Program) (h : T SObj) (t : TypeId) (x : SV) (lo hi mx : Option Nat) : Option (SV × SV) :=
  match P.underlying t with
  | some (.slice elem) => match x with
    | .slc id off len none es => match szOf P elem with
      | some sz => match Nat.beq sz es, Nat.blt 0 es with
        | true, true => match xbounds len (capLB h id off none es) none lo hi mx with
          | some (l, hh, none) => some (.slc id (off + l * es) (hh - l) none es, .slc id off (hh - l) (some 0) es)
          | _ => none
        | _, _ => none
      | none => none
    | _ => none
  | _ => none
theorem shiftOff_ok {off l es lb C b base : Nat} {m : Option Nat} {off' M : Nat} (h : shiftOff off l es lb m = some off') (hlb : lb ≤ C) (hm : m = none → M = C) (hm2 : ∀ v, m = some v → v = M) :
    (if M = l then (⟨b, base + off, none⟩ : Addr) else (⟨b, base + off, none⟩ : Addr).add (l * es)) = ⟨b, base + off', none⟩ := by
  rw [add_at]
  unfold shiftOff at h
  split at h
  · rename_i v
    have e := hm2 v rfl
    subst e
    split at h
    · rename_i e
      cases h
      rw [if_pos (Nat.eq_of_beq_eq_true e)]
    · rename_i e
      cases h
      rw [if_neg (Nat.ne_of_beq_eq_false e)]
      simp [Nat.add_assoc]
  · have e := hm rfl
    subst e
    split at h
    · cases h; split <;> simp
    · split at h
      · rename_i e
        cases h
        have e : l < lb := by simpa [Nat.blt_eq] using e
        rw [if_neg (by omega)]
        simp [Nat.add_assoc]
      · cases h
theorem txt_extract {n c l h : Nat} (hn : h ≤ n) : (txt n c).extract l h = txt (h - l) (c / 256 ^ l) := by
  apply ByteArray.ext
  rw [ByteArray.data_extract]
  unfold txt
  apply Array.ext'
  simp only [Array.toList_extract, List.extract_eq_take_drop]
  rw [dec_drop, dec_take _ _ _ (by omega)]
section
variable {P : Program} {E : Env} {h : T SObj} {w : World} {t : TypeId}
theorem xslice_ok (M : Mem E h w) {x v : SV} {lo hi mx : Option Nat} (hv : xslice P h t x lo hi mx = some v) {X : Value} (hX : x.den E = some X) {lo' hi' mx' : Option Value} (hlo : IsNat lo' lo) (hhi : IsNat hi' hi) (hmx : IsNat mx' mx) :
    ∃ V, v.den E = some V ∧ (Instr.sliceAt t X lo' hi' mx').run P w = .ok V w := by
  unfold xslice at hv
  split at hv
  · rename_i n elem hu
    split at hv
    · rename_i id off
      obtain ⟨b, base, m0, hb, rfl⟩ := den_ptr hX
      split at hv
      · rename_i es l hh m hes hbd
        split at hv
        · rename_i off' hof
          cases hv
          obtain ⟨M', h1, h2, h3, h4, h5, h6, h7, h8⟩ := xbounds_ok (P := P) hbd (Nat.le_refl _) (fun c e => by cases e; rfl) hlo hhi hmx false w
          have hsh := shiftOff_ok (b := b) (base := base) hof (Nat.le_refl _) (fun e => by have := (h5 e).2; cases this) h6
          obtain ⟨mv, rfl⟩ : ∃ mv, m = some mv := by
            cases m with
            | none => have := (h5 rfl).2; cases this
            | some mv => exact ⟨mv, rfl⟩
          have := h6 mv rfl
          subst this
          refine ⟨_, den_slc_mk hb, ?_⟩
          simp only [Instr.sliceAt, Sem.run_bind, run_underlying hu, Result.andThen_ok, Instr.sureAddr, Sem.run_pure, h1, run_size hes, hsh]
          rfl
        · cases hv
      · cases hv
    · cases hv
  · rename_i hu
    split at hv
    · rename_i n c
      obtain ⟨s, hs, rfl⟩ := den_str hX
      simp only [SX.den, Option.some.injEq] at hs
      subst hs
      split at hv
      · split at hv
        · rename_i l hh _ hbd
          cases hv
          cases hmx
          obtain ⟨M', h1, h2, h3, h4, h5, h6, h7, h8⟩ := xbounds_ok (P := P) hbd (Nat.le_refl _) (fun c e => by cases e; rfl) hlo hhi .none false w
          refine ⟨.string (txt (hh - l) (c / 256 ^ l)), by simp [SV.den, SX.den], ?_⟩
          have hle : hh ≤ n := by
            unfold xbounds at hbd
            cases hi with
            | none => have := h7 rfl; omega
            | some v =>
              have := h8 v rfl
              subst this
              simp only at hbd
              split at hbd
              · cases hbd
              · rename_i h0 e
                split at e
                · rename_i e2; exact Nat.le_of_ble_eq_true e2
                · cases e
          simp only [Instr.sliceAt, Instr.slice, Sem.run_bind, run_underlying hu, Result.andThen_ok, Option.isSome_none, Bool.false_eq_true, if_false, size_txt, h1, Sem.run_pure, txt_extract hle]
        · cases hv
      · cases hv
    · cases hv
  · rename_i elem hu
    split at hv
    · rename_i id off len cap es
      obtain ⟨b, base, n, hb, rfl⟩ := den_slc hX
      split at hv
      · rename_i sz hsz
        split at hv
        · rename_i e1 e2
          have e1 := Nat.eq_of_beq_eq_true e1
          subst e1
          have e2 : 0 < sz := by simpa [Nat.blt_eq] using e2
          split at hv
          · rename_i l hh m hbd
            split at hv
            · rename_i off' hof
              cases hv
              have hlb := capLB_ok M (off := off) (es := sz) (cap := cap) hb
              obtain ⟨M', h1, h2, h3, h4, h5, h6, h7, h8⟩ := xbounds_ok (P := P) hbd hlb (fun c e => by subst e; rfl) hlo hhi hmx true w
              have hsh := shiftOff_ok (b := b) (base := base) hof hlb (fun e => h3 (h5 e).1) h6
              refine ⟨_, den_slc_mk hb, ?_⟩
              have hcap : capOf (capSub m l) n off' sz = M' - l := by
                cases m with
                | some v => have := h6 v rfl; subst this; rfl
                | none =>
                  have e3 := (h5 rfl).2
                  subst e3
                  have e4 := h3 (h5 rfl).1
                  simp only [capOf, capSub] at e4 ⊢
                  rw [e4]
                  unfold shiftOff at hof
                  simp only at hof
                  split at hof
                  · cases hof; simp
                  · split at hof
                    · cases hof
                      rw [Nat.sub_add_eq, Nat.mul_comm, Nat.sub_mul_div]
                    · cases hof
              simp only [Instr.sliceAt, Instr.slice, Sem.run_bind, run_underlying hu, Result.andThen_ok, h1, run_size hsz, Sem.run_pure, Option.map_some, hcap]
              split
              · rename_i e; rw [if_pos e] at hsh; rw [hsh]
              · rename_i e; rw [if_neg e] at hsh; rw [hsh]
            · cases hv
          · cases hv
        · cases hv
      · cases hv
    · obtain rfl := den_nil0.2.1 hX
      split at hv
      · rename_i q es hbd hes
        cases hv
        obtain ⟨l, hh, m⟩ := q
        obtain ⟨M', h1, h2, h3, h4, h5, h6, h7, h8⟩ := xbounds_ok (P := P) hbd (Nat.le_refl _) (fun c e => by cases e; rfl) hlo hhi hmx true w
        have hz : hh = 0 ∧ M' = 0 := by
          cases mx with
          | none =>
            refine ⟨?_, h3 rfl⟩
            cases hi with
            | none => exact h7 rfl
            | some v =>
              have := h8 v rfl
              subst this
              unfold xbounds at hbd
              simp only at hbd
              split at hbd
              · cases hbd
              · rename_i h0 e
                split at e
                · rename_i e2; exact Nat.le_zero.1 (Nat.le_of_ble_eq_true e2)
                · cases e
          | some v =>
            obtain ⟨e1, e2⟩ := h4 v rfl
            unfold xbounds at hbd
            simp only at hbd
            split at hbd
            · cases hbd
            · rename_i e3
              have := Nat.le_of_ble_eq_true e3
              omega
        obtain ⟨rfl, rfl⟩ := hz
        refine ⟨.slice none 0 0, by simp [SV.den], ?_⟩
        simp only [Instr.sliceAt, Instr.slice, Sem.run_bind, run_underlying hu, Result.andThen_ok, h1, run_size hes, Sem.run_pure, Option.map_none, ite_self, Nat.zero_sub]
      · cases hv
    · cases hv
  · cases hv

theorem xslice2_ok (M : Mem E h w) {x a c : SV} {lo hi mx : Option Nat} (hv : xslice2 P h t x lo hi mx = some (a, c)) {X : Value} (hX : x.den E = some X) {lo' hi' mx' : Option Value} (hlo : IsNat lo' lo) (hhi : IsNat hi' hi) (hmx : IsNat mx' mx) :
    ∃ v, (v = a ∨ v = c) ∧ ∃ V, v.den E = some V ∧ (Instr.sliceAt t X lo' hi' mx').run P w = .ok V w := by
  unfold xslice2 at hv
  split at hv
  · rename_i elem hu
    split at hv
    · rename_i id off len es
      obtain ⟨b, base, n, hb, rfl⟩ := den_slc hX
      split at hv
      · rename_i sz hsz
        split at hv
        · rename_i e1 e2
          have e1 := Nat.eq_of_beq_eq_true e1
          subst e1
          have e2 : 0 < sz := by simpa [Nat.blt_eq] using e2
          split at hv
          · rename_i l hh hbd
            cases hv
            have hlb := capLB_ok M (off := off) (es := sz) (cap := none) hb
            obtain ⟨M', h1, h2, h3, h4, h5, h6, h7, h8⟩ := xbounds_ok (P := P) hbd hlb (fun c e => by cases e) hlo hhi hmx true w
            have e4 := h3 (h5 rfl).1
            by_cases hM : M' = l
            · refine ⟨_, .inr rfl, _, den_slc_mk hb, ?_⟩
              simp only [Instr.sliceAt, Instr.slice, Sem.run_bind, run_underlying hu, Result.andThen_ok, h1, run_size hsz, Sem.run_pure, Option.map_some, hM]
              simp [capOf]
            · refine ⟨_, .inl rfl, _, den_slc_mk hb, ?_⟩
              have hcap : capOf none n (off + l * sz) sz = M' - l := by
                simp only [capOf] at e4 ⊢
                rw [e4, Nat.sub_add_eq, Nat.mul_comm, Nat.sub_mul_div]
              simp only [Instr.sliceAt, Instr.slice, Sem.run_bind, run_underlying hu, Result.andThen_ok, h1, run_size hsz, Sem.run_pure, Option.map_some, hcap]
              rw [if_neg hM, add_at, Nat.add_assoc]
          · cases hv
        · cases hv
      · cases hv
    · cases hv
  · cases hv
/-! ### maps that are read -/
def basicD : TypeDesc → Bool
  | .bool | .int _ | .string => true
  | _ => false
def keyOk (P : Program) : Nat → TypeId → SV → Bool
  | 0, _, _ => false
  | d + 1, t, v =>
    match P.underlying t with
    | some (.struct fs) => match v with
      | .agg cs => fs.toList.all fun f => match xpart P f.type cs f.offset with
        | some u => keyOk P d f.type u
        | none => false
      | _ => false
    | some dd => basicD dd
    | none => false
theorem keyOk_ok : ∀ (d D : Nat), d ≤ D → ∀ (e : Bool) (t : TypeId) (v : SV) (V : Value) (w : World), keyOk P d t v = true → v.den E = some V → (Instr.checkKey e D t V).run P w = .ok () w
  | 0, _, _, _, _, _, _, _, h, _ => by simp [keyOk] at h
  | d + 1, 0, hd, _, _, _, _, _, _, _ => by omega
  | d + 1, D + 1, hd, e, t, v, V, w, h, hV => by
    simp only [keyOk] at h
    split at h
    · rename_i fs hu
      split at h
      · rename_i cs
        obtain ⟨L, hL, rfl⟩ := den_agg hV
        simp only [Instr.checkKey, Sem.run_bind, run_underlying hu, Result.andThen_ok]
        rw [← Array.forIn_toList]
        revert h
        generalize fs.toList = l
        intro h
        induction l with
        | nil => simp
        | cons f l ih =>
          simp only [List.all_cons, Bool.and_eq_true] at h
          obtain ⟨h1, h2⟩ := h
          split at h1
          · rename_i u hu'
            obtain ⟨U, u1, u2⟩ := xpart_ok hu' hL w
            have := keyOk_ok d D (by omega) e f.type u U w h1 u1
            simp only [List.forIn_cons, Sem.run_bind, Sem.run_ite, u2, Result.andThen_ok, this, Sem.run_pure, ite_self]
            exact ih h2
          · cases h1
      · cases h
    · rename_i dd _ hu
      cases dd <;> simp [basicD] at h <;> simp [Instr.checkKey, run_underlying hu]
    · cases h
def sel {α β : Type} (b : Bool) (f g : α → β) (a : α) : β :=
  match b with
  | true => f a
  | false => g a
def xfind (eq : SV → SV → Option BX) (k : SV) : List (SV × SV × Nat) → Nat → Asm → Option (List (Option (Nat × SV × SV × Nat) × Asm))
  | [], _, asm => some [(none, asm)]
  | (k', v, n) :: l, i, asm =>
    match eq k k' with
    | none => none
    | some (.lit true) => some [(some (i, k', v, n), asm)]
    | some (.lit false) => xfind eq k l (i + 1) asm
    | some c => xwalk (ways asm c) (fun asm' => some [(some (i, k', v, n), asm')]) (fun asm' => xfind eq k l (i + 1) asm')
where
  xwalk : List (Bool × Asm) → (Asm → Option (List (Option (Nat × SV × SV × Nat) × Asm))) → (Asm → Option (List (Option (Nat × SV × SV × Nat) × Asm))) → Option (List (Option (Nat × SV × SV × Nat) × Asm))
    | [], _, _ => some []
    | (b, asm') :: l, f, g =>
      match sel b f g asm', xwalk l f g with
      | some x, some y => some (x ++ y)
      | _, _ => none
theorem xwalk_ok {f g : Asm → Option (List (Option (Nat × SV × SV × Nat) × Asm))} : ∀ {l : List (Bool × Asm)} {outs : List (Option (Nat × SV × SV × Nat) × Asm)} {b : Bool} {asm' : Asm}, xfind.xwalk l f g = some outs → (b, asm') ∈ l →
    ∃ x, sel b f g asm' = some x ∧ ∀ y ∈ x, y ∈ outs
  | [], outs, b, asm', h, hm => by cases hm
  | (b0, a0) :: l, outs, b, asm', h, hm => by
    simp only [xfind.xwalk] at h
    split at h
    · rename_i x y hx hy
      cases h
      rcases List.mem_cons.1 hm with e | e
      · cases e
        exact ⟨x, hx, fun z hz => List.mem_append.2 (.inl hz)⟩
      · obtain ⟨x', h1, h2⟩ := xwalk_ok hy e
        exact ⟨x', h1, fun z hz => List.mem_append.2 (.inr (h2 z hz))⟩
    · cases h
/-- What a find tells: nothing, or the entry at that place. -/
def FoundAt (E : Env) (ents : List (SV × SV × Nat)) (es : List MapEntry) (i0 : Nat) : Option (Nat × SV × SV × Nat) → Option (Nat × Value) → Prop
  | none, none => True
  | some (i, k', v, n), some (j, V) => i = j ∧ i0 ≤ i ∧ ents[i - i0]? = some (k', v, n) ∧ ∃ e, es[i - i0]? = some e ∧ k'.den E = some e.key ∧ v.den E = some e.val ∧ e.born = n ∧ V = e.val
  | _, _ => False
theorem FoundAt.up {ents : List (SV × SV × Nat)} {es : List MapEntry} {x : SV × SV × Nat} {e : MapEntry} {i0 : Nat} {r : Option (Nat × SV × SV × Nat)} {R : Option (Nat × Value)} (h : FoundAt E ents es (i0 + 1) r R) : FoundAt E (x :: ents) (e :: es) i0 r R := by
  cases r with
  | none => cases R <;> simp_all [FoundAt]
  | some r =>
    obtain ⟨i, k', v, n⟩ := r
    cases R with
    | none => simp [FoundAt] at h
    | some R =>
      obtain ⟨j, V⟩ := R
      obtain ⟨h1, h2, h3, e', h4, h5⟩ := h
      have e1 : i - i0 = (i - (i0 + 1)) + 1 := by omega
      exact ⟨h1, by omega, by rw [e1]; simpa using h3, e', by rw [e1]; simpa using h4, h5⟩
theorem xfind_ok {eq : SV → SV → Option BX} {k : SV} {F : List MapEntry → Nat → Option (Nat × Value) → Prop}
    (h0 : ∀ i, F [] i none)
    (hyes : ∀ (k' : SV) (e : MapEntry) (es : List MapEntry) (i : Nat) (c : BX), eq k k' = some c → k'.den E = some e.key → c.den E = some true → F (e :: es) i (some (i, e.val)))
    (hno : ∀ (k' : SV) (e : MapEntry) (es : List MapEntry) (i : Nat) (c : BX) (R : Option (Nat × Value)), eq k k' = some c → k'.den E = some e.key → c.den E = some false → F es (i + 1) R → F (e :: es) i R)
    (htot : ∀ (k' : SV) (c : BX) (V : Value), eq k k' = some c → k'.den E = some V → ∃ b, c.den E = some b) :
    ∀ {ents : List (SV × SV × Nat)} {es : List MapEntry} {i : Nat} {asm : Asm} {outs : List (Option (Nat × SV × SV × Nat) × Asm)}, entsOk E ents es → AsmOk E asm → xfind eq k ents i asm = some outs →
      ∃ r asm' R, (r, asm') ∈ outs ∧ AsmOk E asm' ∧ F es i R ∧ FoundAt E ents es i r R
  | [], [], i, asm, outs, _, ha, h => by
    simp only [xfind, Option.some.injEq] at h; subst h
    exact ⟨none, asm, none, by simp, ha, h0 i, trivial⟩
  | [], _ :: _, _, _, _, he, _, _ => he.elim
  | (_, _, _) :: _, [], _, _, _, he, _, _ => he.elim
  | (k', v, n) :: l, e :: es, i, asm, outs, he, ha, h => by
    obtain ⟨e1, e2, e3, e4⟩ := he
    have here : FoundAt E ((k', v, n) :: l) (e :: es) i (some (i, k', v, n)) (some (i, e.val)) := ⟨rfl, Nat.le_refl _, by simp, e, by simp, e1, e2, e3, rfl⟩
    simp only [xfind] at h
    split at h
    · cases h
    · rename_i hc
      cases h
      exact ⟨_, asm, _, by simp, ha, hyes k' e es i _ hc e1 rfl, here⟩
    · rename_i hc
      obtain ⟨r, asm', R, h1, h2, h3, h4⟩ := xfind_ok h0 hyes hno htot e4 ha h
      exact ⟨r, asm', R, h1, h2, hno k' e es i _ R hc e1 rfl h3, h4.up⟩
    · rename_i c _ _ hc
      obtain ⟨b, hb⟩ := htot k' c _ hc e1
      obtain ⟨asm1, w1, w2⟩ := ways_ok ha hb
      obtain ⟨x, x1, x2⟩ := xwalk_ok h w1
      cases b with
      | true =>
        simp only [sel, Option.some.injEq] at x1
        subst x1
        exact ⟨_, asm1, _, x2 _ (by simp), w2, hyes k' e es i _ hc e1 hb, here⟩
      | false =>
        simp only [sel] at x1
        obtain ⟨r, asm', R, h1, h2, h3, h4⟩ := xfind_ok h0 hyes hno htot e4 w2 x1
        exact ⟨r, asm', R, x2 _ h1, h2, hno k' e es i _ R hc e1 hb h3, h4.up⟩
/-- The entry of a key: its place, in every way in which the tests may come out. -/
def xkey (P : Program) (kt : TypeId) (k : SV) (ents : List (SV × SV × Nat)) (asm : Asm) : Option (List (Option (Nat × SV × SV × Nat) × Asm)) :=
  match keyOk P 5 kt k with
  | true => xfind (eqv P 30 kt) k ents 0 asm
  | false => none
theorem sameNow_of {kt : TypeId} {dd : TypeDesc} (hu : P.underlying kt = some dd) (hb : basicD dd = true) {d : Nat} {k k' : SV} {c : BX} {K K' : Value} (h : eqv P (d + 1) kt k k' = some c) (hK : k.den E = some K) (hK' : k'.den E = some K') : ∃ b, c.den E = some b ∧ Instr.sameNow dd K K' = some b := by
  obtain ⟨b, h1, h2⟩ := eqv_ok (P := P) (d + 1) (d + 1) (Nat.le_refl _) kt k k' c K K' default h hK hK'
  refine ⟨b, h1, ?_⟩
  simp only [eqv, hu] at h
  cases dd <;> simp [basicD] at hb <;> simp only at h
  · split at h
    · obtain ⟨x, hx, rfl⟩ := den_bool hK
      obtain ⟨y, hy, rfl⟩ := den_bool hK'
      simp [Op.equalIn, run_underlying hu] at h2
      simp [Instr.sameNow, h2]
    · cases h
  · split at h
    · obtain ⟨x, hx, rfl⟩ := den_int hK
      obtain ⟨y, hy, rfl⟩ := den_int hK'
      split at h
      · rename_i e
        have e := of_decide_eq_true e
        subst e
        simp [Op.equalIn, run_underlying hu] at h2
        simp [Instr.sameNow, h2]
      · cases h
    · cases h
  · split at h
    · obtain ⟨x, hx, rfl⟩ := den_str hK
      obtain ⟨y, hy, rfl⟩ := den_str hK'
      simp [Op.equalIn, run_underlying hu] at h2
      simp [Instr.sameNow, h2]
    · cases h
theorem xkey_ok {kt : TypeId} {k : SV} {K : Value} (hK : k.den E = some K) {ents : List (SV × SV × Nat)} {es : List MapEntry} (he : entsOk E ents es) {asm : Asm} (ha : AsmOk E asm) {outs : List (Option (Nat × SV × SV × Nat) × Asm)} (h : xkey P kt k ents asm = some outs) (w : World) :
    (∀ b, (Instr.checkKey b 10000 kt K).run P w = .ok () w) ∧ ∃ r asm' R, (r, asm') ∈ outs ∧ AsmOk E asm' ∧ (Instr.findKey kt K es).run P w = .ok R w ∧ FoundAt E ents es 0 r R := by
  unfold xkey at h
  split at h
  · rename_i hko
    refine ⟨fun b => keyOk_ok 5 10000 (by omega) b kt k K w hko hK, ?_⟩
    have tot : ∀ (k' : SV) (c : BX) (V : Value), eqv P 30 kt k k' = some c → k'.den E = some V → ∃ b, c.den E = some b := fun k' c V h1 h2 => by
      obtain ⟨b, h3, -⟩ := eqv_ok (P := P) 30 30 (Nat.le_refl _) kt k k' c K V w h1 hK h2
      exact ⟨b, h3⟩
    simp only [keyOk] at hko
    split at hko
    · rename_i fs hu
      -- a struct: the keys are asked one by one
      have hnow : ∀ (e : MapEntry) (l : List MapEntry) (i : Nat), Instr.findNow (.struct fs) K (e :: l) i = none := fun e l i => by simp [Instr.findNow, Instr.sameNow]
      have key := xfind_ok (E := E) (F := fun es i R => (Instr.findAsking kt K es i).run P w = .ok R w) (eq := eqv P 30 kt) (k := k)
        (fun i => by simp [Instr.findAsking])
        (fun k' e es i c h1 h2 h3 => by
          obtain ⟨b, h4, h5⟩ := eqv_ok (P := P) 30 10000 (by omega) kt k k' c K e.key w h1 hK h2
          rw [h3] at h4; cases h4
          simp [Instr.findAsking, Op.equal, Op.maxDepth, h5])
        (fun k' e es i c R h1 h2 h3 h6 => by
          obtain ⟨b, h4, h5⟩ := eqv_ok (P := P) 30 10000 (by omega) kt k k' c K e.key w h1 hK h2
          rw [h3] at h4; cases h4
          simp [Instr.findAsking, Op.equal, Op.maxDepth, h5, h6]) tot he ha h
      obtain ⟨r, asm', R, h1, h2, h3, h4⟩ := key
      refine ⟨r, asm', R, h1, h2, ?_, h4⟩
      cases es with
      | nil =>
        simp [Instr.findAsking] at h3
        subst h3
        simp [Instr.findKey, run_underlying hu, Instr.findNow]
      | cons e es => simp [Instr.findKey, run_underlying hu, hnow, h3]
    · rename_i dd _ hu
      have key := xfind_ok (E := E) (F := fun es i R => Instr.findNow dd K es i = some R) (eq := eqv P 30 kt) (k := k)
        (fun i => by simp [Instr.findNow])
        (fun k' e es i c h1 h2 h3 => by
          obtain ⟨b, h4, h5⟩ := sameNow_of (d := 29) hu hko h1 hK h2
          rw [h3] at h4; cases h4
          simp [Instr.findNow, h5])
        (fun k' e es i c R h1 h2 h3 h6 => by
          obtain ⟨b, h4, h5⟩ := sameNow_of (d := 29) hu hko h1 hK h2
          rw [h3] at h4; cases h4
          simp [Instr.findNow, h5, h6]) tot he ha h
      obtain ⟨r, asm', R, h1, h2, h3, h4⟩ := key
      exact ⟨r, asm', R, h1, h2, by simp [Instr.findKey, run_underlying hu, h3], h4⟩
    · cases hko
  · cases h
def xlookupM (P : Program) (h : T SObj) (t : TypeId) (x k : SV) (ok : Bool) (asm : Asm) : Option (List (SV × Asm)) :=
  match P.underlying t with
  | some (.map kt et) =>
    match xzero P et, (match x with | .nilm => some [] | .map id => (match h.get id with | some (.map es _) => some es | _ => none) | _ => none) with
    | some z, some es => match xkey P kt k es asm with
      | some outs => some (outs.map fun (r, asm') => match r with
        | some (_, _, v, _) => ((match ok with | true => .tup [v, .bool (.lit true)] | false => v), asm')
        | none => ((match ok with | true => .tup [z, .bool (.lit false)] | false => z), asm'))
      | none => none
    | _, _ => none
  | _ => none
theorem xlookupM_ok (M : Mem E h w) {x k : SV} {ok : Bool} {asm : Asm} (ha : AsmOk E asm) {outs : List (SV × Asm)} (hv : xlookupM P h t x k ok asm = some outs) {X K : Value} (hX : x.den E = some X) (hK : k.den E = some K) :
    ∃ v asm' V, (v, asm') ∈ outs ∧ AsmOk E asm' ∧ v.den E = some V ∧ (Instr.lookup t X K ok).run P w = .ok V w := by
  unfold xlookupM at hv
  split at hv
  · rename_i kt et hu
    split at hv
    · rename_i z es hz hes
      split at hv
      · rename_i o1 ho
        cases hv
        obtain ⟨Z, z1, z2⟩ := run_zero hz (P := P) (E := E)
        have hes' : ∃ es', entsOk E es es' ∧ ((X = .map none ∧ es' = []) ∨ ∃ b ents cl, X = .map (some b) ∧ w.heap[b]? = some (.map ents cl) ∧ es' = ents.toList) := by
          split at hes
          · cases hes
            obtain rfl := den_nil0.2.2.1 hX
            exact ⟨[], trivial, .inl ⟨rfl, rfl⟩⟩
          · rename_i id
            split at hes
            · rename_i es0 cl hid
              cases hes
              obtain ⟨b, base, n, hb, rfl⟩ := den_map hX
              obtain ⟨b', base', n', hb', ents, h1, h2⟩ := M id _ hid rfl
              rw [hb] at hb'; cases hb'
              exact ⟨ents.toList, h2, .inr ⟨b, ents, cl, rfl, h1, rfl⟩⟩
            · cases hes
          · cases hes
        obtain ⟨es', e1, e2⟩ := hes'
        obtain ⟨hck, r, asm', R, r1, r2, r3, r4⟩ := xkey_ok (P := P) hK e1 ha ho w
        have hrun : (Instr.lookup t X K ok).run P w = .ok (match R with | some (_, v) => (if ok then .tuple #[v, .bool true] else v) | none => (if ok then .tuple #[Z, .bool false] else Z)) w := by
          rcases e2 with ⟨rfl, rfl⟩ | ⟨b, ents, cl, rfl, h1, rfl⟩
          · simp only [Instr.lookup, Sem.run_bind, run_underlying hu, Result.andThen_ok, Sem.run_pure, hck, r3]
            cases R with
            | none => simp [z2]
            | some R => simp
          · have hg : (getObj b).run P w = .ok (.map ents cl) w := by simp [getObj, Sem.run, h1]
            simp only [Instr.lookup, Sem.run_bind, run_underlying hu, Result.andThen_ok, Sem.run_pure, hg, hck, r3]
            cases R with
            | none => simp [z2]
            | some R => simp
        rw [hrun]
        cases r with
        | none =>
          cases R with
          | some R => simp [FoundAt] at r4
          | none =>
            cases ok with
            | true => exact ⟨.tup [z, .bool (.lit false)], asm', _, List.mem_map.2 ⟨_, r1, rfl⟩, r2, by simp [SV.den, SV.denL, z1, BX.den], rfl⟩
            | false => exact ⟨z, asm', _, List.mem_map.2 ⟨_, r1, rfl⟩, r2, z1, rfl⟩
        | some r =>
          obtain ⟨i, k', v, n⟩ := r
          cases R with
          | none => simp [FoundAt] at r4
          | some R =>
            obtain ⟨j, V⟩ := R
            obtain ⟨-, -, -, e, -, -, h5, -, rfl⟩ := r4
            cases ok with
            | true => exact ⟨.tup [v, .bool (.lit true)], asm', _, List.mem_map.2 ⟨_, r1, rfl⟩, r2, by simp [SV.den, SV.denL, h5, BX.den], rfl⟩
            | false => exact ⟨v, asm', _, List.mem_map.2 ⟨_, r1, rfl⟩, r2, h5, rfl⟩
      · cases hv
    · cases hv
  · cases hv

/-! ### a map whose order is not known -/
def isLit : Option BX → Bool
  | some (.lit _) => true
  | _ => false
def isYes : Option BX → Bool
  | some (.lit b) => b
  | _ => false
/-- All tests come out, whatever is assumed. -/
def litAll (eq : SV → SV → Option BX) (k : SV) (l : List (SV × SV)) : Bool := l.all fun e => isLit (eq k e.1)
def hits (eq : SV → SV → Option BX) (k : SV) (l : List (SV × SV)) : List (SV × SV) := l.filter fun e => isYes (eq k e.1)
theorem xfind_lits {eq : SV → SV → Option BX} {k : SV} {asm : Asm} : ∀ {ents : List (SV × SV × Nat)} {i : Nat}, litAll eq k (ents.map pairOf) = true →
    (xfind eq k ents i asm = some [(none, asm)] ∧ hits eq k (ents.map pairOf) = []) ∨ ∃ j k' v n, xfind eq k ents i asm = some [(some (j, k', v, n), asm)] ∧ (k', v) ∈ hits eq k (ents.map pairOf)
  | [], i, _ => .inl ⟨rfl, rfl⟩
  | (k', v, n) :: l, i, h => by
    simp only [litAll, List.map_cons, List.all_cons, Bool.and_eq_true, pairOf] at h
    obtain ⟨h1, h2⟩ := h
    simp only [xfind, hits, List.map_cons, List.filter_cons, pairOf]
    cases hc : eq k k' with
    | none => rw [hc] at h1; cases h1
    | some c =>
      cases c with
      | lit b =>
        cases b with
        | true => exact .inr ⟨i, k', v, n, rfl, by simp [isYes]⟩
        | false =>
          rcases xfind_lits (i := i + 1) h2 with ⟨h3, h4⟩ | ⟨j, k2, v2, n2, h3, h4⟩
          · exact .inl ⟨h3, by simpa [isYes, hits] using h4⟩
          · exact .inr ⟨j, k2, v2, n2, h3, by simpa [isYes, hits] using h4⟩
      | _ => rw [hc] at h1; cases h1
/-- The one entry of a key. -/
def ukey (P : Program) (kt : TypeId) (k : SV) (l : List (SV × SV)) : Option (Option (SV × SV)) :=
  match keyOk P 5 kt k && litAll (eqv P 30 kt) k l with
  | true => match hits (eqv P 30 kt) k l with
    | [] => some none
    | [e] => some (some e)
    | _ => none
  | false => none
theorem ukey_ok {kt : TypeId} {k : SV} {K : Value} (hK : k.den E = some K) {l : List (SV × SV)} {ents : List (SV × SV × Nat)} (hp : (ents.map pairOf).Perm l) {es : List MapEntry} (he : entsOk E ents es) {r : Option (SV × SV)} (h : ukey P kt k l = some r) (w : World) :
    (∀ b, (Instr.checkKey b 10000 kt K).run P w = .ok () w) ∧ ∃ R, (Instr.findKey kt K es).run P w = .ok R w ∧ match r, R with
      | none, none => True
      | some e, some (_, V) => e.2.den E = some V
      | _, _ => False := by
  unfold ukey at h
  split at h
  · rename_i hc
    simp only [Bool.and_eq_true] at hc
    have hlit : litAll (eqv P 30 kt) k (ents.map pairOf) = true := by
      simp only [litAll, List.all_eq_true] at hc ⊢
      exact fun e he => hc.2 e (hp.mem_iff.1 he)
    have hhit : (hits (eqv P 30 kt) k (ents.map pairOf)).Perm (hits (eqv P 30 kt) k l) := hp.filter _
    have hx : ∀ x, xfind (eqv P 30 kt) k ents 0 ([] : Asm) = some x → xkey P kt k ents [] = some x := fun x hx => by simp only [xkey, hc.1]; exact hx
    rcases xfind_lits (asm := []) (i := 0) hlit with ⟨h3, h4⟩ | ⟨j, k2, v2, n2, h3, h4⟩
    · obtain ⟨hck, r', asm', R, r1, r2, r3, r4⟩ := xkey_ok (P := P) hK he (fun c v hm => by cases hm) (hx _ h3) w
      refine ⟨hck, R, r3, ?_⟩
      rw [h4] at hhit
      rw [hhit.nil_eq.symm] at h
      cases h
      simp only [List.mem_singleton, Prod.mk.injEq] at r1
      rw [r1.1] at r4
      cases R with
      | none => trivial
      | some R => simp [FoundAt] at r4
    · obtain ⟨hck, r', asm', R, r1, r2, r3, r4⟩ := xkey_ok (P := P) hK he (fun c v hm => by cases hm) (hx _ h3) w
      refine ⟨hck, R, r3, ?_⟩
      have h5 := hhit.mem_iff.1 h4
      simp only [List.mem_singleton, Prod.mk.injEq] at r1
      rw [r1.1] at r4
      cases R with
      | none => simp [FoundAt] at r4
      | some R =>
        obtain ⟨j', V⟩ := R
        obtain ⟨-, -, -, e, -, -, h6, -, rfl⟩ := r4
        split at h
        · rename_i hh; rw [hh] at h5; cases h5
        · rename_i e' hh
          cases h
          rw [hh] at h5
          simp only [List.mem_singleton] at h5
          subst h5
          exact h6
        · cases h
  · cases h
def xlookupU (P : Program) (t : TypeId) (l : List (SV × SV)) (k : SV) (ok : Bool) (asm : Asm) : Option (List (SV × Asm)) :=
  match P.underlying t with
  | some (.map kt et) => match xzero P et, ukey P kt k l with
    | some z, some r => some [((match r with
      | some e => (match ok with | true => .tup [e.2, .bool (.lit true)] | false => e.2)
      | none => (match ok with | true => .tup [z, .bool (.lit false)] | false => z)), asm)]
    | _, _ => none
  | _ => none
theorem xlookupU_ok {b : Nat} {ents : Array MapEntry} {cl : Nat} (h1 : w.heap[b]? = some (.map ents cl)) {l : List (SV × SV)} {el : List (SV × SV × Nat)} (hp : (el.map pairOf).Perm l) (he : entsOk E el ents.toList) {k : SV} {ok : Bool} {asm : Asm} (ha : AsmOk E asm) {outs : List (SV × Asm)} (hv : xlookupU P t l k ok asm = some outs) {K : Value} (hK : k.den E = some K) :
    ∃ v asm' V, (v, asm') ∈ outs ∧ AsmOk E asm' ∧ v.den E = some V ∧ (Instr.lookup t (.map (some b)) K ok).run P w = .ok V w := by
  unfold xlookupU at hv
  split at hv
  · rename_i kt et hu
    split at hv
    · rename_i z r hz hr
      cases hv
      obtain ⟨Z, z1, z2⟩ := run_zero hz (P := P) (E := E)
      obtain ⟨hck, R, r3, r4⟩ := ukey_ok (P := P) hK hp he hr w
      have hg : (getObj b).run P w = .ok (.map ents cl) w := by simp [getObj, Sem.run, h1]
      have hrun : (Instr.lookup t (.map (some b)) K ok).run P w = .ok (match R with | some (_, v) => (if ok then .tuple #[v, .bool true] else v) | none => (if ok then .tuple #[Z, .bool false] else Z)) w := by
        simp only [Instr.lookup, Sem.run_bind, run_underlying hu, Result.andThen_ok, Sem.run_pure, hg, hck, r3]
        cases R with
        | none => simp [z2]
        | some R => simp
      rw [hrun]
      cases r with
      | none =>
        cases R with
        | some R => simp at r4
        | none =>
          cases ok with
          | true => exact ⟨_, asm, _, List.mem_singleton.2 rfl, ha, by simp [SV.den, SV.denL, z1, BX.den], rfl⟩
          | false => exact ⟨_, asm, _, List.mem_singleton.2 rfl, ha, z1, rfl⟩
      | some e =>
        cases R with
        | none => simp at r4
        | some R =>
          obtain ⟨j, V⟩ := R
          simp only at r4
          cases ok with
          | true => exact ⟨_, asm, _, List.mem_singleton.2 rfl, ha, by simp [SV.den, SV.denL, r4, BX.den], rfl⟩
          | false => exact ⟨_, asm, _, List.mem_singleton.2 rfl, ha, r4, rfl⟩
    · cases hv
  · cases hv
def umapOf (h : T SObj) (x : SV) : Option (List (SV × SV)) :=
  match x with
  | .map id => match h.get id with
    | some (.umap l) => some l
    | _ => none
  | _ => none
def xlookup (P : Program) (h : T SObj) (t : TypeId) (x k : SV) (ok : Bool) (asm : Asm) : Option (List (SV × Asm)) :=
  match umapOf h x with
  | some l => xlookupU P t l k ok asm
  | none => xlookupM P h t x k ok asm
theorem xlookup_ok (M : Mem E h w) {x k : SV} {ok : Bool} {asm : Asm} (ha : AsmOk E asm) {outs : List (SV × Asm)} (hv : xlookup P h t x k ok asm = some outs) {X K : Value} (hX : x.den E = some X) (hK : k.den E = some K) :
    ∃ v asm' V, (v, asm') ∈ outs ∧ AsmOk E asm' ∧ v.den E = some V ∧ (Instr.lookup t X K ok).run P w = .ok V w := by
  unfold xlookup at hv
  split at hv
  · rename_i l hl
    unfold umapOf at hl
    split at hl
    · rename_i id
      split at hl
      · rename_i l' hid
        cases hl
        obtain ⟨b, base, n, hb, rfl⟩ := den_map hX
        obtain ⟨b', base', n', hb', es, cl, el, h1, h2, h3⟩ := M id _ hid rfl
        rw [hb] at hb'; cases hb'
        exact xlookupU_ok h1 h2 h3 ha hv hK
      · cases hl
    · cases hl
  · exact xlookupM_ok M ha hv hX hK

/-! ### interface values -/
def xassert (P : Program) (x : SV) (xt t : TypeId) (ok : Bool) : Option SV :=
  match P.underlying t, x with
  | some (.interface want), .iface d v => match P.info? d with
    | some i => match Instr.missingMethod want i.methods with
      | none => some (match ok with | true => .tup [.iface d v, .bool (.lit true)] | false => .iface d v)
      | some _ => match ok, xzero P t with
        | true, some z => some (.tup [z, .bool (.lit false)])
        | _, _ => none
    | none => none
  | some (.interface _), .nili => match ok, xzero P t with
    | true, some z => some (.tup [z, .bool (.lit false)])
    | _, _ => none
  | some _, .iface d v => match Nat.beq d t with
    | true => some (match ok with | true => .tup [v, .bool (.lit true)] | false => v)
    | false => match ok, xzero P t with
      | true, some z => some (.tup [z, .bool (.lit false)])
      | _, _ => none
  | some _, .nili => match ok, xzero P t with
    | true, some z => some (.tup [z, .bool (.lit false)])
    | _, _ => none
  | _, _ => none
theorem xassert_ok {x v : SV} {xt : TypeId} {ok : Bool} (hv : xassert P x xt t ok = some v) {X : Value} (hX : x.den E = some X) (w : World) : ∃ V, v.den E = some V ∧ (Instr.typeAssert X xt t ok).run P w = .ok V w := by
  unfold xassert at hv
  split at hv
  · rename_i want d u hu
    obtain ⟨U, u1, rfl⟩ := den_iface hX
    split at hv
    · rename_i i hi
      split at hv
      · rename_i hm
        cases hv
        cases ok with
        | true => exact ⟨.tuple #[.iface d U, .bool true], by simp [SV.den, SV.denL, u1, BX.den], by simp [Instr.typeAssert, run_underlying hu, run_info hi, hm]⟩
        | false => exact ⟨.iface d U, by simp [SV.den, u1], by simp [Instr.typeAssert, run_underlying hu, run_info hi, hm]⟩
      · rename_i hm
        split at hv
        · rename_i z hz
          cases hv
          obtain ⟨Z, z1, z2⟩ := run_zero hz (P := P) (E := E)
          exact ⟨.tuple #[Z, .bool false], by simp [SV.den, SV.denL, z1, BX.den], by simp [Instr.typeAssert, run_underlying hu, run_info hi, hm, z2]⟩
        · cases hv
    · cases hv
  · rename_i ms hu
    obtain rfl := den_nil0.2.2.2.2 hX
    split at hv
    · rename_i z hz
      cases hv
      obtain ⟨Z, z1, z2⟩ := run_zero hz (P := P) (E := E)
      exact ⟨.tuple #[Z, .bool false], by simp [SV.den, SV.denL, z1, BX.den], by simp [Instr.typeAssert, run_underlying hu, z2]⟩
    · cases hv
  · rename_i dd d u hni hu
    obtain ⟨U, u1, rfl⟩ := den_iface hX
    split at hv
    · rename_i e
      have e := Nat.eq_of_beq_eq_true e
      subst e
      cases hv
      cases ok with
      | true => exact ⟨.tuple #[U, .bool true], by simp [SV.den, SV.denL, u1, BX.den], by cases dd <;> first | (exfalso; exact hni _ rfl) | simp [Instr.typeAssert, run_underlying hu]⟩
      | false => exact ⟨U, u1, by cases dd <;> first | (exfalso; exact hni _ rfl) | simp [Instr.typeAssert, run_underlying hu]⟩
    · rename_i e
      have e := Nat.ne_of_beq_eq_false e
      split at hv
      · rename_i z hz
        cases hv
        obtain ⟨Z, z1, z2⟩ := run_zero hz (P := P) (E := E)
        exact ⟨.tuple #[Z, .bool false], by simp [SV.den, SV.denL, z1, BX.den], by cases dd <;> first | (exfalso; exact hni _ rfl) | simp [Instr.typeAssert, run_underlying hu, e, z2]⟩
      · cases hv
  · rename_i dd hni hu
    obtain rfl := den_nil0.2.2.2.2 hX
    split at hv
    · rename_i z hz
      cases hv
      obtain ⟨Z, z1, z2⟩ := run_zero hz (P := P) (E := E)
      exact ⟨.tuple #[Z, .bool false], by simp [SV.den, SV.denL, z1, BX.den], by cases dd <;> simp [Instr.typeAssert, run_underlying hu, z2]⟩
    · cases hv
  · cases hv
end
end Go.Sx
/-
  A symbolic run of Go functions by computation (part 7): composite values, len and its like; all operations that leave memory alone.
-/
namespace Go.Sx
set_option linter.unusedVariables false
set_option linter.unusedSimpArgs false

/-! ### composite values -/
def cellsOf : SV → List SV
  | .agg cs => cs
  | v => [v]
theorem cellsOf_ok {E : Env} {v : SV} {V : Value} (h : v.den E = some V) : ∃ L, SV.denL E (cellsOf v) = some L ∧ V.cells = L.toArray := by
  by_cases hv : ∃ cs, v = .agg cs
  · obtain ⟨cs, rfl⟩ := hv
    obtain ⟨L, hL, rfl⟩ := den_agg h
    exact ⟨L, hL, rfl⟩
  · have e : cellsOf v = [v] := by cases v <;> first | rfl | exact (hv ⟨_, rfl⟩).elim
    refine ⟨[V], by rw [e]; simp [SV.denL, h], ?_⟩
    cases v <;> simp only [SV.den] at h <;> first
      | exact (hv ⟨_, rfl⟩).elim
      | (cases h; rfl)
      | (split at h <;> first | (cases h; done) | (cases h; rfl) | (split at h <;> cases h <;> rfl))
def xfill (place : Nat → Option (Nat × Nat)) (cells : List SV) : List (Nat × SV) → Option (List SV)
  | [] => some cells
  | (i, v) :: rest =>
    match place i with
    | none => none
    | some (off, size) =>
      match Nat.beq (cellsOf v).length size, Nat.ble (off + (cellsOf v).length) cells.length with
      | true, true => xfill place (cells.take off ++ (cellsOf v ++ cells.drop (off + (cellsOf v).length))) rest
      | _, _ => none
theorem fold_splice : ∀ (l : List Value) (off k : Nat) (cs : Array Value), off + k + l.length ≤ cs.size →
    ((l.zipIdx k).foldl (fun cs (c, j) => cs.setIfInBounds (off + j) c) cs).toList = cs.toList.take (off + k) ++ (l ++ cs.toList.drop (off + k + l.length))
  | [], off, k, cs, h => by simp
  | v :: l, off, k, cs, h => by
    simp only [List.length_cons] at h
    simp only [List.zipIdx_cons, List.foldl_cons]
    rw [fold_splice l off (k + 1) _ (by simp; omega)]
    have hlt : off + k < cs.toList.length := by simp; omega
    simp only [Array.toList_setIfInBounds]
    apply List.ext_getElem?
    intro n
    have hl1 : (List.take (off + (k + 1)) (cs.toList.set (off + k) v)).length = off + k + 1 := by simp; omega
    have hl2 : (List.take (off + k) cs.toList).length = off + k := by simp; omega
    by_cases c1 : n < off + k
    · rw [List.getElem?_append_left (by omega), List.getElem?_append_left (by omega), List.getElem?_take, List.getElem?_take, if_pos (by omega), if_pos c1, List.getElem?_set_ne (by omega)]
    · by_cases c2 : n = off + k
      · subst c2
        rw [List.getElem?_append_left (by omega), List.getElem?_append_right (by omega), hl2, List.getElem?_take, if_pos (by omega), List.getElem?_set_self (by omega)]
        simp
      · obtain ⟨m, rfl⟩ : ∃ m, n = off + k + 1 + m := ⟨n - (off + k + 1), by omega⟩
        have e1 : off + k + 1 + m - (off + k + 1) = m := by omega
        have e2 : off + k + 1 + m - (off + k) = m + 1 := by omega
        conv => lhs; rw [List.getElem?_append_right (by omega), hl1, e1]
        conv => rhs; rw [List.getElem?_append_right (by omega), hl2, e2, List.cons_append, List.getElem?_cons_succ]
        by_cases c3 : m < l.length
        · rw [List.getElem?_append_left c3, List.getElem?_append_left c3]
        · conv => lhs; rw [List.getElem?_append_right (by omega), List.getElem?_drop, List.getElem?_set_ne (by omega)]
          conv => rhs; rw [List.getElem?_append_right (by omega), List.getElem?_drop]
          congr 1
          simp only [List.length_cons]
          omega
theorem xfill_ok {E : Env} {place : Nat → Option (Nat × Nat)} : ∀ {parts : List (Nat × SV)} {cells out : List SV} {L : List Value} {Ps : List (Nat × Value)}, xfill place cells parts = some out → SV.denL E cells = some L →
    Ps.length = parts.length → (∀ (j : Nat) (p : Nat × SV), parts[j]? = some p → ∃ V, p.2.den E = some V ∧ Ps[j]? = some (p.1, V)) → ∃ M, SV.denL E out = some M ∧ Instr.fill place L.toArray Ps = some M.toArray
  | [], cells, out, L, Ps, h, hL, hl, _ => by
    simp only [xfill, Option.some.injEq] at h
    subst h
    obtain rfl : Ps = [] := by simpa using hl
    exact ⟨L, hL, by simp [Instr.fill]⟩
  | (i, v) :: rest, cells, out, L, Ps, h, hL, hl, hp => by
    cases Ps with
    | nil => simp at hl
    | cons p Ps =>
      obtain ⟨V, hV, hp0⟩ := hp 0 (i, v) (by simp)
      replace hV : v.den E = some V := hV
      simp only [List.getElem?_cons_zero, Option.some.injEq] at hp0
      subst hp0
      simp only [xfill] at h
      split at h
      · cases h
      · rename_i off size hpl
        split at h
        · rename_i e1 e2
          have e1 := Nat.eq_of_beq_eq_true e1
          have e2 := Nat.le_of_ble_eq_true e2
          obtain ⟨C, hC, hVc⟩ := cellsOf_ok hV
          have hCl := denL_length hC
          have hLl := denL_length hL
          obtain ⟨M, m1, m2⟩ := xfill_ok h (denL_append (denL_take off hL) (denL_append hC (denL_drop _ hL))) (by simpa using hl) (fun j q hq => hp (j + 1) q (by simpa using hq)) (Ps := Ps)
          refine ⟨M, m1, ?_⟩
          rw [← m2]
          simp only [Instr.fill, hpl, hVc]
          rw [if_neg (by simp; omega)]
          congr 1
          apply Array.ext'
          rw [← Array.foldl_toList]
          have := fold_splice C off 0 L.toArray (by simp; omega)
          simp only [Nat.add_zero] at this
          simp only [Array.toList_zipIdx]
          rw [this]
          simp [hCl]
        · cases h
def xparts (a : SAct) : List (Nat × Operand) → Option (List (Nat × SV))
  | [] => some []
  | (i, x) :: l => match a.ev x, xparts a l with
    | some v, some m => some ((i, v) :: m)
    | _, _ => none
theorem xparts_ok {E : Env} {a : SAct} {A : Act} (hA : ActRel E a A) : ∀ {l : List (Nat × Operand)} {m : List (Nat × SV)}, xparts a l = some m →
    (l.map fun (i, x) => (i, A.eval x)).length = m.length ∧ ∀ (j : Nat) (p : Nat × SV), m[j]? = some p → ∃ V, p.2.den E = some V ∧ (l.map fun (i, x) => (i, A.eval x))[j]? = some (p.1, V)
  | [], m, h => by simp only [xparts, Option.some.injEq] at h; subst h; simp
  | (i, x) :: l, m, h => by
    simp only [xparts] at h
    split at h
    · rename_i v m' hv hm
      cases h
      obtain ⟨h1, h2⟩ := xparts_ok hA hm
      refine ⟨by simpa using h1, fun j p hj => ?_⟩
      cases j with
      | zero => simp at hj; subst hj; exact ⟨_, ev_ok hA hv, by simp⟩
      | succ j => simp at hj; obtain ⟨V, h3, h4⟩ := h2 j p hj; exact ⟨V, h3, by simpa using h4⟩
    · cases h
/-- Where each field of a struct lies. -/
def places (P : Program) : List Field → Option (List (Nat × Nat))
  | [] => some []
  | f :: fs => match szOf P f.type, places P fs with
    | some n, some l => some ((f.offset, n) :: l)
    | _, _ => none
theorem places_ok {P : Program} (w : World) : ∀ {fs : List Field} {l : List (Nat × Nat)}, places P fs = some l → ((fs.mapM fun f => do pure (f.offset, ← sizeOf f.type)) : Sem (List (Nat × Nat))).run P w = .ok l w
  | [], l, h => by simp only [places, Option.some.injEq] at h; subst h; simp
  | f :: fs, l, h => by
    simp only [places] at h
    split at h
    · rename_i n m hn hm
      cases h
      have ih := places_ok w hm
      simp only [List.mapM_cons, Sem.run_bind, run_size hn, Result.andThen_ok, Sem.run_pure]
      rw [ih]
      simp
    · cases h
def xbuild (P : Program) (a : SAct) (t : TypeId) (parts : Array (Nat × Operand)) : Option SV :=
  match xzero P t, xparts a parts.toList with
  | some z, some ps =>
    match P.underlying t with
    | some (.struct fields) => match places P fields.toList with
      | some pl => match xfill (fun i => pl[i]?) (cellsOf z) ps with
        | some cells => some (.agg cells)
        | none => none
      | none => none
    | some (.array _ elem) => match szOf P elem with
      | some size => match xfill (fun i => some (i * size, size)) (cellsOf z) ps with
        | some cells => some (.agg cells)
        | none => none
      | none => none
    | _ => none
  | _, _ => none
section
variable {P : Program} {E : Env} {h : T SObj} {w : World} {t : TypeId}
theorem xbuild_ok {a : SAct} {A : Act} (hA : ActRel E a A) {parts : Array (Nat × Operand)} {v : SV} (hv : xbuild P a t parts = some v) (w : World) :
    ∃ V, v.den E = some V ∧ (Instr.build t (parts.map fun (i, x) => (i, A.eval x))).run P w = .ok V w := by
  unfold xbuild at hv
  split at hv
  · rename_i z ps hz hps
    obtain ⟨Z, z1, z2⟩ := run_zero hz (P := P) (E := E)
    obtain ⟨L, l1, l2⟩ := cellsOf_ok z1
    obtain ⟨p1, p2⟩ := xparts_ok hA hps
    have hmap : (parts.map fun (i, x) => (i, A.eval x)).toList = parts.toList.map fun (i, x) => (i, A.eval x) := by simp
    split at hv
    · rename_i fields hu
      split at hv
      · rename_i pl hpl
        split at hv
        · rename_i cells hc
          cases hv
          obtain ⟨M, m1, m2⟩ := xfill_ok hc l1 p1 p2
          refine ⟨.agg M.toArray, by simp [SV.den, m1], ?_⟩
          have hmm : ((fields.mapM fun f => do pure (f.offset, ← sizeOf f.type)) : Sem (Array (Nat × Nat))).run P w = .ok pl.toArray w := by
            rw [Array.mapM_eq_mapM_toList]
            simp only [Sem.run_map, places_ok w hpl, Result.andThen_ok]
          have hpl' : (fun i : Nat => pl.toArray[i]?) = fun i : Nat => pl[i]? := by funext i; simp
          simp only [Instr.build, Sem.run_bind, z2, Result.andThen_ok, run_underlying hu, hmm, l2, hmap, hpl', m2]
          rfl
        · cases hv
      · cases hv
    · rename_i elem hu
      split at hv
      · rename_i size hs
        split at hv
        · rename_i cells hc
          cases hv
          obtain ⟨M, m1, m2⟩ := xfill_ok hc l1 p1 p2
          refine ⟨.agg M.toArray, by simp [SV.den, m1], ?_⟩
          simp only [Instr.build, Sem.run_bind, z2, Result.andThen_ok, run_underlying hu, run_size hs, l2, hmap, m2]
          rfl
        · cases hv
      · cases hv
    · cases hv
  · cases hv

/-! ### len and its like -/
def xlen (P : Program) (h : T SObj) (t : TypeId) (x : SV) : Option SV :=
  match P.underlying t, x with
  | some .string, .str (.lit n _) => some (.int .i64 (.lit (.ofNat n)))
  | some .string, .str s => some (.int .i64 (.slen s))
  | some (.array n _), _ => some (.int .i64 (.lit (.ofNat n)))
  | some (.slice _), .slc _ _ n _ _ => some (.int .i64 (.lit (.ofNat n)))
  | some (.slice _), .nils => some (.int .i64 (.lit 0))
  | some (.map _ _), .nilm => some (.int .i64 (.lit 0))
  | some (.map _ _), .map id => match h.get id with
    | some (.map es _) => some (.int .i64 (.lit (.ofNat es.length)))
    | _ => none
  | _, _ => none
theorem entsOk_length : ∀ {l : List (SV × SV × Nat)} {m : List MapEntry}, entsOk E l m → l.length = m.length
  | [], [], _ => rfl
  | [], _ :: _, h => h.elim
  | (_, _, _) :: _, [], h => h.elim
  | (_, _, _) :: l, _ :: m, h => by simp [entsOk_length h.2.2.2]
theorem xlen_ok (M : Mem E h w) {x v : SV} (hv : xlen P h t x = some v) {X : Value} (hX : x.den E = some X) (ty : TypeId) (tys : Array TypeId) (htys : tys[0]? = some t) : ∃ V, v.den E = some V ∧ (Builtin.len_ tys ty #[X]).run P w = .ok V w := by
  unfold xlen at hv
  split at hv
  · rename_i n c hu
    cases hv
    obtain ⟨s, hs, rfl⟩ := den_str hX
    simp only [SX.den, Option.some.injEq] at hs; subst hs
    exact ⟨.int .i64 n, by simp [SV.den, IX.den], by simp [Builtin.len_, htys, run_underlying hu, goInt]⟩
  · rename_i s _ hu
    cases hv
    obtain ⟨b, hb, rfl⟩ := den_str hX
    exact ⟨.int .i64 b.size, by simp [SV.den, IX.den, hb], by simp [Builtin.len_, htys, run_underlying hu, goInt]⟩
  · rename_i n elem hu
    cases hv
    exact ⟨.int .i64 n, by simp [SV.den, IX.den], by simp [Builtin.len_, htys, run_underlying hu, goInt]⟩
  · rename_i hu
    cases hv
    obtain ⟨_, _, _, _, rfl⟩ := den_slc hX
    rename_i n _ _ _ _ _ _
    exact ⟨.int .i64 n, by simp [SV.den, IX.den], by simp [Builtin.len_, htys, run_underlying hu, goInt]⟩
  · rename_i hu
    cases hv
    obtain rfl := den_nil0.2.1 hX
    exact ⟨.int .i64 0, by simp [SV.den, IX.den], by simp [Builtin.len_, htys, run_underlying hu, goInt]⟩
  · rename_i hu
    cases hv
    obtain rfl := den_nil0.2.2.1 hX
    exact ⟨.int .i64 0, by simp [SV.den, IX.den], by simp [Builtin.len_, htys, run_underlying hu, goInt]⟩
  · rename_i id hu
    split at hv
    · rename_i es cl hid
      cases hv
      obtain ⟨b, base, n, hb, rfl⟩ := den_map hX
      obtain ⟨b', base', n', hb', ents, h1, h2⟩ := M id _ hid rfl
      rw [hb] at hb'; cases hb'
      have hg : (getObj b).run P w = .ok (.map ents cl) w := by simp [getObj, Sem.run, h1]
      have hl := entsOk_length h2
      refine ⟨.int .i64 ents.size, by simp [SV.den, IX.den, hl], ?_⟩
      simp only [Builtin.len_, htys, Sem.run_bind, run_underlying hu, Result.andThen_ok, List.getElem?_toArray, List.getElem?_cons_zero, hg]
      rfl
    · cases hv
  · cases hv
def xcap (P : Program) (t : TypeId) (x : SV) : Option SV :=
  match P.underlying t, x with
  | some (.slice _), .slc _ _ _ (some n) _ => some (.int .i64 (.lit (.ofNat n)))
  | some (.slice _), .nils => some (.int .i64 (.lit 0))
  | _, _ => none
theorem xcap_ok {x v : SV} (hv : xcap P t x = some v) {X : Value} (hX : x.den E = some X) (ty : TypeId) (tys : Array TypeId) (htys : tys[0]? = some t) (w : World) : ∃ V, v.den E = some V ∧ (Builtin.cap_ tys ty #[X]).run P w = .ok V w := by
  unfold xcap at hv
  split at hv
  · rename_i n es hu
    cases hv
    obtain ⟨_, _, _, _, rfl⟩ := den_slc hX
    exact ⟨.int .i64 n, by simp [SV.den, IX.den], by simp [Builtin.cap_, htys, run_underlying hu, goInt, capOf]⟩
  · rename_i hu
    cases hv
    obtain rfl := den_nil0.2.1 hX
    exact ⟨.int .i64 0, by simp [SV.den, IX.den], by simp [Builtin.cap_, htys, run_underlying hu, goInt]⟩
  · cases hv
/-- The greatest of whole numbers that are known; the least. -/
def xmm (mx : Bool) : List SV → Option (IntKind × Int)
  | [.int k (.lit n)] => some (k, n)
  | [.int k (.lit n), .int k' (.lit m)] => some (k, match mx with | true => (if m > n then m else n) | false => (if m < n then m else n))
  | _ => none
theorem xmax_ok {l : List SV} {k : IntKind} {n : Int} {L : List Value} (h : xmm true l = some (k, n)) (hL : SV.denL E l = some L) (tys : Array TypeId) (ty : TypeId) (w : World) : (Builtin.max_ tys ty L.toArray).run P w = .ok (.int k n) w := by
  unfold xmm at h
  split at h
  · cases h
    obtain ⟨V, Vs, rfl, h1, h2⟩ := denL_cons_inv hL
    simp only [SV.denL, Option.some.injEq] at h2; subst h2
    have := den_lit h1
    subst this
    simp [Builtin.max_]
  · cases h
    obtain ⟨V, Vs, rfl, h1, h2⟩ := denL_cons_inv hL
    obtain ⟨U, Us, rfl, h3, h4⟩ := denL_cons_inv h2
    simp only [SV.denL, Option.some.injEq] at h4; subst h4
    have e1 := den_lit h1
    have e2 := den_lit h3
    subst e1 e2
    simp [Builtin.max_, Builtin.max2]
  · cases h
theorem xmin_ok {l : List SV} {k : IntKind} {n : Int} {L : List Value} (h : xmm false l = some (k, n)) (hL : SV.denL E l = some L) (tys : Array TypeId) (ty : TypeId) (w : World) : (Builtin.min_ tys ty L.toArray).run P w = .ok (.int k n) w := by
  unfold xmm at h
  split at h
  · cases h
    obtain ⟨V, Vs, rfl, h1, h2⟩ := denL_cons_inv hL
    simp only [SV.denL, Option.some.injEq] at h2; subst h2
    have := den_lit h1
    subst this
    simp [Builtin.min_]
  · cases h
    obtain ⟨V, Vs, rfl, h1, h2⟩ := denL_cons_inv hL
    obtain ⟨U, Us, rfl, h3, h4⟩ := denL_cons_inv h2
    simp only [SV.denL, Option.some.injEq] at h4; subst h4
    have e1 := den_lit h1
    have e2 := den_lit h3
    subst e1 e2
    simp [Builtin.min_, Builtin.min2]
  · cases h
/-- The same, whatever is known of them. -/
def xmmW (mx : Bool) (asm : Asm) (l : List SV) : Option (List (SV × Asm)) :=
  match xmm mx l with
  | some (k, n) => some [(.int k (.lit n), asm)]
  | none => match l with
    | [.int k a, .int _ b] => some ((ways asm (match mx with | true => mkIlt a b | false => mkIlt b a)).map fun p => (.int k (match p.1 with | true => b | false => a), p.2))
    | _ => none
theorem xmaxW_ok {asm : Asm} (ha : AsmOk E asm) {l : List SV} {outs : List (SV × Asm)} {L : List Value} (h : xmmW true asm l = some outs) (hL : SV.denL E l = some L) (tys : Array TypeId) (ty : TypeId) (w : World) :
    ∃ v asm' V, (v, asm') ∈ outs ∧ AsmOk E asm' ∧ v.den E = some V ∧ (Builtin.max_ tys ty L.toArray).run P w = .ok V w := by
  unfold xmmW at h
  split at h
  · rename_i k n hm
    cases h
    exact ⟨.int k (.lit n), asm, .int k n, List.mem_singleton.2 rfl, ha, by simp [SV.den, IX.den], xmax_ok hm hL tys ty w⟩
  · split at h
    · rename_i k a k' b _
      cases h
      obtain ⟨V, Vs, rfl, h1, h2⟩ := denL_cons_inv hL
      obtain ⟨U, Us, rfl, h3, h4⟩ := denL_cons_inv h2
      simp only [SV.denL, Option.some.injEq] at h4; subst h4
      obtain ⟨x, hx, rfl⟩ := den_int h1
      obtain ⟨y, hy, rfl⟩ := den_int h3
      obtain ⟨asm', q1, q2⟩ := ways_ok ha (mkIlt_ok hx hy)
      by_cases hxy : x < y
      · rw [decide_eq_true hxy] at q1
        exact ⟨.int k b, asm', .int k y, List.mem_map.2 ⟨_, q1, rfl⟩, q2, by simp [SV.den, hy], by simp [Builtin.max_, Builtin.max2, hxy]⟩
      · rw [decide_eq_false hxy] at q1
        exact ⟨.int k a, asm', .int k x, List.mem_map.2 ⟨_, q1, rfl⟩, q2, by simp [SV.den, hx], by simp [Builtin.max_, Builtin.max2, hxy]⟩
    · cases h
theorem xminW_ok {asm : Asm} (ha : AsmOk E asm) {l : List SV} {outs : List (SV × Asm)} {L : List Value} (h : xmmW false asm l = some outs) (hL : SV.denL E l = some L) (tys : Array TypeId) (ty : TypeId) (w : World) :
    ∃ v asm' V, (v, asm') ∈ outs ∧ AsmOk E asm' ∧ v.den E = some V ∧ (Builtin.min_ tys ty L.toArray).run P w = .ok V w := by
  unfold xmmW at h
  split at h
  · rename_i k n hm
    cases h
    exact ⟨.int k (.lit n), asm, .int k n, List.mem_singleton.2 rfl, ha, by simp [SV.den, IX.den], xmin_ok hm hL tys ty w⟩
  · split at h
    · rename_i k a k' b _
      cases h
      obtain ⟨V, Vs, rfl, h1, h2⟩ := denL_cons_inv hL
      obtain ⟨U, Us, rfl, h3, h4⟩ := denL_cons_inv h2
      simp only [SV.denL, Option.some.injEq] at h4; subst h4
      obtain ⟨x, hx, rfl⟩ := den_int h1
      obtain ⟨y, hy, rfl⟩ := den_int h3
      obtain ⟨asm', q1, q2⟩ := ways_ok ha (mkIlt_ok hy hx)
      by_cases hxy : y < x
      · rw [decide_eq_true hxy] at q1
        exact ⟨.int k b, asm', .int k y, List.mem_map.2 ⟨_, q1, rfl⟩, q2, by simp [SV.den, hy], by simp [Builtin.min_, Builtin.min2, hxy]⟩
      · rw [decide_eq_false hxy] at q1
        exact ⟨.int k a, asm', .int k x, List.mem_map.2 ⟨_, q1, rfl⟩, q2, by simp [SV.den, hx], by simp [Builtin.min_, Builtin.min2, hxy]⟩
    · cases h
def evL (a : SAct) : List Operand → Option (List SV)
  | [] => some []
  | x :: l => match a.ev x, evL a l with
    | some v, some m => some (v :: m)
    | _, _ => none
theorem evL_ok {a : SAct} {A : Act} (hA : ActRel E a A) : ∀ {l : List Operand} {m : List SV}, evL a l = some m → SV.denL E m = some (l.map A.eval)
  | [], m, h => by simp only [evL, Option.some.injEq] at h; subst h; simp [SV.denL]
  | x :: l, m, h => by
    simp only [evL] at h
    split at h
    · rename_i v m' hv hm
      cases h
      exact denL_cons (ev_ok hA hv) (evL_ok hA hm)
    · cases h
/-! ### one operand -/
def xun (op : UnOp) (x : SV) : Option SV :=
  match op, x with
  | .not, .bool b => some (.bool (mkNot b))
  | .neg, .int k n => match mkBin .sub k (.lit 0) n with
    | some z => some (.int k z)
    | none => none
  | _, _ => none
theorem xun_ok {op : UnOp} {x v : SV} (hv : xun op x = some v) {X : Value} (hX : x.den E = some X) (w : World) : ∃ V, v.den E = some V ∧ (Op.unary op X).run P w = .ok V w := by
  unfold xun at hv
  split at hv
  · cases hv
    obtain ⟨b, hb, rfl⟩ := den_bool hX
    exact ⟨.bool (!b), by simp [SV.den, mkNot_ok hb], by simp [Op.unary]⟩
  · split at hv
    · rename_i k n _ z hz
      cases hv
      obtain ⟨y, hy, rfl⟩ := den_int hX
      obtain ⟨u, h1, h2⟩ := mkBin_ok (E := E) hz rfl hy
      simp only [intBin, Option.some.injEq] at h1
      subst h1
      exact ⟨.int k (k.wrap (0 - y)), by simp [SV.den, h2], by simp [Op.unary, Op.intArith]⟩
    · cases hv
  · cases hv
def bytesOfCells : List SV → Option (List Nat)
  | [] => some []
  | .int .u8 (.lit (.ofNat n)) :: l => match Nat.blt n 256, bytesOfCells l with
    | true, some m => some (n :: m)
    | _, _ => none
  | _ => none
def encN : List Nat → Nat
  | [] => 0
  | b :: l => b + 256 * encN l
/-- So many cells, whatever rows they lie in. -/
def readOnes (h : T SObj) (id off : Nat) : Nat → Option (List SV)
  | 0 => some []
  | n + 1 => match readCells h id off 1, readOnes h id (off + 1) n with
    | some [v], some l => some (v :: l)
    | _, _ => none
theorem readOnes_ok (M : Mem E h w) {id b base m : Nat} (hb : E.blk id = some (b, base, m)) : ∀ {n off : Nat} {vs : List SV}, readOnes h id off n = some vs → ∃ L, SV.denL E vs = some L ∧ L.length = n ∧ ∀ (j : Nat) (V : Value), L[j]? = some V → w.cell? ((⟨b, base + off, none⟩ : Addr).add j) = some V
  | 0, off, vs, h => by simp only [readOnes, Option.some.injEq] at h; subst h; exact ⟨[], rfl, rfl, fun j V hj => by simp at hj⟩
  | n + 1, off, vs, h => by
    simp only [readOnes] at h
    split at h
    · rename_i v l h1 h2
      cases h
      obtain ⟨L1, a1, a2, a3⟩ := read_cell M h1 hb
      obtain ⟨V, Vs, rfl, a4, a5⟩ := denL_cons_inv a1
      obtain ⟨L2, b1, b2, b3⟩ := readOnes_ok M hb h2
      refine ⟨V :: L2, denL_cons a4 b1, by simp [b2], fun j U hj => ?_⟩
      cases j with
      | zero => exact a3 0 U (by simpa using hj)
      | succ j =>
        have := b3 j U (by simpa using hj)
        rw [add_at] at this ⊢
        rw [← this]
        congr 2
        omega
    · cases h
def xconvert (P : Program) (h : T SObj) (src dst : TypeId) (x : SV) : Option SV :=
  match P.underlying src, P.underlying dst, x with
  | some _, some (.int k), .int _ (.lit n) => some (.int k (.lit (k.wrap n)))
  | some _, some (.int k), .int _ n => some (.int k (.bin .add k n (.lit 0)))
  | some _, some .string, .str s => some (.str s)
  | some (.slice e), some .string, x => match P.underlying e with
    | some (.int .u8) => match x with
      | .nils => some (.str (.lit 0 0))
      | .slc id off len cap es => match readOnes h id off len with
        | some cs => match bytesOfCells cs with
          | some bs => some (.str (.lit bs.length (encN bs)))
          | none => none
        | none => none
      | _ => none
    | _ => none
  | _, _, _ => none
theorem encN_enc : ∀ {l : List Nat}, (∀ n ∈ l, n < 256) → encN l = enc (l.map UInt8.ofNat)
  | [], _ => rfl
  | b :: l, h => by
    have hb := h b (by simp)
    have ih := encN_enc (l := l) (fun n hn => h n (by simp [hn]))
    simp only [encN, List.map_cons, enc, ih]
    have : (UInt8.ofNat b).toNat = b := by simp; omega
    rw [this]
theorem bytesOfCells_ok : ∀ {cs : List SV} {bs : List Nat} {L : List Value}, bytesOfCells cs = some bs → SV.denL E cs = some L → L = bs.map (fun n : Nat => Value.int .u8 (n : Int)) ∧ ∀ n ∈ bs, n < 256
  | [], bs, L, h, hL => by simp only [bytesOfCells, Option.some.injEq] at h; subst h; simp [SV.denL] at hL; subst hL; simp
  | c :: cs, bs, L, h, hL => by
    unfold bytesOfCells at h
    split at h
    · rename_i e; cases e
    · rename_i n l e
      cases e
      split at h
      · rename_i m hlt hm
        cases h
        obtain ⟨V, Vs, rfl, h1, h2⟩ := denL_cons_inv hL
        obtain ⟨h3, h4⟩ := bytesOfCells_ok hm h2
        have := den_lit h1
        subst this
        have hlt : n < 256 := by simpa [Nat.blt_eq] using hlt
        refine ⟨by simp [h3], fun k hk => ?_⟩
        rcases List.mem_cons.1 hk with rfl | hk
        · exact hlt
        · exact h4 k hk
      · cases h
    · cases h
theorem run_bytes_loop {P : Program} {f : Value → ByteArray → Sem (ForInStep ByteArray)} (hf : ∀ (n : Int) s, f (.int .u8 n) s = pure (ForInStep.yield (s.push (UInt8.ofNat n.toNat)))) (w : World) : ∀ (bs : List Nat) (s : ByteArray),
    (forIn (bs.map (fun n : Nat => Value.int .u8 (n : Int))) s f : Sem ByteArray).run P w = .ok ⟨s.data ++ (bs.map UInt8.ofNat).toArray⟩ w
  | [], s => by simp
  | b :: bs, s => by
    simp only [List.map_cons, List.forIn_cons, hf, Sem.run_bind, Sem.run_pure, Result.andThen_ok, Int.toNat_natCast]
    rw [run_bytes_loop hf w bs]
    congr 1
    apply ByteArray.ext
    simp [ByteArray.push]
theorem xconvert_ok (M : Mem E h w) {src dst : TypeId} {x v : SV} (hv : xconvert P h src dst x = some v) {X : Value} (hX : x.den E = some X) : ∃ V, v.den E = some V ∧ (convert src dst X).run P w = .ok V w := by
  unfold xconvert at hv
  split at hv
  · rename_i d k k' n hu hu'
    cases hv
    have := den_lit hX
    subst this
    exact ⟨.int k (k.wrap n), by simp [SV.den, IX.den], by cases d <;> simp [convert, run_underlying hu, run_underlying hu', Conv.intToInt]⟩
  · rename_i d k k' n _ hu hu'
    cases hv
    obtain ⟨z, hz, rfl⟩ := den_int hX
    exact ⟨.int k (k.wrap z), by simp [SV.den, IX.den, hz, intBin], by cases d <;> simp [convert, run_underlying hu, run_underlying hu', Conv.intToInt]⟩
  · rename_i d s hu hu'
    cases hv
    obtain ⟨b, hb, rfl⟩ := den_str hX
    exact ⟨.string b, by simp [SV.den, hb], by cases d <;> simp [convert, run_underlying hu, run_underlying hu']⟩
  · rename_i e hu hu' _
    split at hv
    · rename_i he
      split at hv
      · cases hv
        obtain rfl := den_nil0.2.1 hX
        refine ⟨.string .empty, by simp [SV.den, SX.den]; rfl, by simp [convert, run_underlying hu, run_underlying hu', run_underlying he, Conv.bytesToString]⟩
      · rename_i id off len cap es _
        obtain ⟨b, base, m, hb, rfl⟩ := den_slc hX
        split at hv
        · rename_i cs hcs
          split at hv
          · rename_i bs hbs
            cases hv
            obtain ⟨L, l1, l2, l3⟩ := readOnes_ok M hb hcs
            obtain ⟨h1, h2⟩ := bytesOfCells_ok hbs l1
            have hlen : bs.length = len := by rw [← l2, h1]; simp
            refine ⟨.string ⟨(bs.map UInt8.ofNat).toArray⟩, ?_, ?_⟩
            · simp only [SV.den, SX.den, Option.some.injEq, Value.string.injEq]
              unfold txt
              rw [encN_enc h2]
              have := dec_enc (bs.map UInt8.ofNat)
              rw [List.length_map] at this
              rw [this]
            · have hload : (loadCells ⟨b, base + off, none⟩ len).run P w = .ok L.toArray w := by rw [← l2]; exact run_loadCells_list (P := P) w _ L l3
              simp only [convert, Sem.run_bind, run_underlying hu, run_underlying hu', Result.andThen_ok, run_underlying he, Conv.bytesToString, hload]
              rw [← Array.forIn_toList]
              simp only [h1]
              rw [run_bytes_loop (fun _ _ => rfl)]
              simp
          · cases hv
        · cases hv
      · cases hv
    · cases hv
  · cases hv
end
end Go.Sx
/-
  A symbolic run of Go functions by computation (part 8): an operation that leaves memory alone.
-/
namespace Go.Sx
set_option linter.unusedVariables false
set_option linter.unusedSimpArgs false

def one1 (asm : Asm) : Option SV → Option (List (SV × Asm))
  | some v => some [(v, asm)]
  | none => none
def notNil : SV → Bool
  | .ptr _ _ => true
  | .iface _ _ => true
  | .func (.func _) _ _ => true
  | _ => false
def xpick (a : SAct) (asm : Asm) (c x y : Operand) : Option (List (SV × Asm)) :=
  match a.ev c with
  | some (.bool (.lit true)) => one1 asm (a.ev x)
  | some (.bool (.lit false)) => one1 asm (a.ev y)
  | some (.bool b) => match a.ev x, a.ev y with
    | some u, some v => some ((ways asm b).map fun p => (sel p.1 (fun _ => u) (fun _ => v) (), p.2))
    | _, _ => none
  | _ => none
def slcW (P : Program) (h : T SObj) (asm : Asm) (t : TypeId) (v : SV) (l h' m : Option Nat) : Option (List (SV × Asm)) :=
  match xslice P h t v l h' m with
  | some u => some [(u, asm)]
  | none => match xslice2 P h t v l h' m with
    | some q => some [(q.1, asm), (q.2, asm)]
    | none => none
def kpMove (x : Operand) (P : Program) (h : T SObj) (asm : Asm) (a : SAct) : Option (List (SV × Asm)) := one1 asm (a.ev x)
def kpAssign (x : Operand) (P : Program) (h : T SObj) (asm : Asm) (a : SAct) : Option (List (SV × Asm)) := one1 asm (a.ev x)
def kpPick (c : Operand) (x : Operand) (y : Operand) (P : Program) (h : T SObj) (asm : Asm) (a : SAct) : Option (List (SV × Asm)) := xpick a asm c x y
def kpBuild (t : TypeId) (parts : Array (Nat × Operand)) (P : Program) (h : T SObj) (asm : Asm) (a : SAct) : Option (List (SV × Asm)) := one1 asm (xbuild P a t parts)
def kpLoad (t : TypeId) (x : Operand) (P : Program) (h : T SObj) (asm : Asm) (a : SAct) : Option (List (SV × Asm)) := match a.ev x with
  | some v => one1 asm (xload P h t v)
  | none => none
def kpNilCheck (x : Operand) (P : Program) (h : T SObj) (asm : Asm) (a : SAct) : Option (List (SV × Asm)) := match a.ev x with
  | some v => match notNil v with
    | true => some [(v, asm)]
    | false => none
  | none => none
def kpBinOp (op : BinOp) (t : TypeId) (x : Operand) (y : Operand) (P : Program) (h : T SObj) (asm : Asm) (a : SAct) : Option (List (SV × Asm)) := match a.ev x, a.ev y with
  | some u, some v => one1 asm (xbin P op t (isConstO x || isConstO y) u v)
  | _, _ => none
def kpUnOp (op : UnOp) (x : Operand) (P : Program) (h : T SObj) (asm : Asm) (a : SAct) : Option (List (SV × Asm)) := match a.ev x with
  | some v => one1 asm (xun op v)
  | none => none
def kpConvert (src : TypeId) (dst : TypeId) (x : Operand) (P : Program) (h : T SObj) (asm : Asm) (a : SAct) : Option (List (SV × Asm)) := match a.ev x with
  | some v => one1 asm (xconvert P h src dst v)
  | none => none
def kpMakeInterface (t : TypeId) (x : Operand) (P : Program) (h : T SObj) (asm : Asm) (a : SAct) : Option (List (SV × Asm)) := match a.ev x with
  | some v => match P.underlying t with
    | some (.interface _) => none
    | some _ => some [(.iface t v, asm)]
    | none => none
  | none => none
def kpMakeFunc (fn : Fn) (first : Array Operand) (captured : Array Operand) (P : Program) (h : T SObj) (asm : Asm) (a : SAct) : Option (List (SV × Asm)) := match evL a first.toList, evL a captured.toList with
  | some u, some v => some [(.func fn u v, asm)]
  | _, _ => none
def kpSlice (t : TypeId) (x : Operand) (lo : Option Operand) (hi : Option Operand) (mx : Option Operand) (P : Program) (h : T SObj) (asm : Asm) (a : SAct) : Option (List (SV × Asm)) := match a.ev x, natO a lo, natO a hi, natO a mx with
  | some v, some l, some h', some m => slcW P h asm t v l h' m
  | _, _, _, _ => none
def kpFieldAddr (s : TypeId) (x : Operand) (f : Nat) (P : Program) (h : T SObj) (asm : Asm) (a : SAct) : Option (List (SV × Asm)) := match a.ev x with
  | some v => one1 asm (xfieldAddr P s v f)
  | none => none
def kpField (t : TypeId) (x : Operand) (f : Nat) (P : Program) (h : T SObj) (asm : Asm) (a : SAct) : Option (List (SV × Asm)) := match a.ev x with
  | some v => one1 asm (xfield P t v f)
  | none => none
def kpIndexAddr (t : TypeId) (x : Operand) (i : Operand) (P : Program) (h : T SObj) (asm : Asm) (a : SAct) : Option (List (SV × Asm)) := match a.ev x, a.ev i with
  | some u, some v => one1 asm (xindexAddr P t u v)
  | _, _ => none
def kpIndex (t : TypeId) (x : Operand) (i : Operand) (P : Program) (h : T SObj) (asm : Asm) (a : SAct) : Option (List (SV × Asm)) := match a.ev x, a.ev i with
  | some u, some v => one1 asm (xindex P t u v)
  | _, _ => none
def kpLookup (t : TypeId) (x : Operand) (k : Operand) (ok : Bool) (P : Program) (h : T SObj) (asm : Asm) (a : SAct) : Option (List (SV × Asm)) := match a.ev x, a.ev k with
  | some u, some v => xlookup P h t u v ok asm
  | _, _ => none
def kpTypeAssert (x : Operand) (xt : TypeId) (t : TypeId) (ok : Bool) (P : Program) (h : T SObj) (asm : Asm) (a : SAct) : Option (List (SV × Asm)) := match a.ev x with
  | some v => one1 asm (xassert P v xt t ok)
  | none => none
def kpExtract (x : Operand) (i : Nat) (P : Program) (h : T SObj) (asm : Asm) (a : SAct) : Option (List (SV × Asm)) := match a.ev x with
  | some (.tup vs) => one1 asm (vs[i]?)
  | _ => none
def kpCall (b : Builtin) (args : Array Operand) (tys : Array TypeId) (P : Program) (h : T SObj) (asm : Asm) (a : SAct) : Option (List (SV × Asm)) :=
  match b with
  | .len => match args.toList, tys[0]? with
    | [x], some t => match a.ev x with
      | some v => one1 asm (xlen P h t v)
      | none => none
    | _, _ => none
  | .cap => match args.toList, tys[0]? with
    | [x], some t => match a.ev x with
      | some v => one1 asm (xcap P t v)
      | none => none
    | _, _ => none
  | .max => match evL a args.toList with
    | some l => xmmW true asm l
    | none => none
  | .min => match evL a args.toList with
    | some l => xmmW false asm l
    | none => none
  | _ => none
def kpNone (P : Program) (h : T SObj) (asm : Asm) (a : SAct) : Option (List (SV × Asm)) := none
def kpOf : Op → Program → T SObj → Asm → SAct → Option (List (SV × Asm))
  | .move x => kpMove x
  | .assign x => kpAssign x
  | .pick c x y => kpPick c x y
  | .build t parts => kpBuild t parts
  | .load t x => kpLoad t x
  | .nilCheck x => kpNilCheck x
  | .binOp op t x y _ => kpBinOp op t x y
  | .unOp op _ x => kpUnOp op x
  | .convert src dst x => kpConvert src dst x
  | .makeInterface t x => kpMakeInterface t x
  | .makeFunc fn first captured => kpMakeFunc fn first captured
  | .slice t x lo hi mx => kpSlice t x lo hi mx
  | .fieldAddr s x f => kpFieldAddr s x f
  | .field t x f => kpField t x f
  | .indexAddr t x i => kpIndexAddr t x i
  | .index t x i => kpIndex t x i
  | .lookup t x k ok => kpLookup t x k ok
  | .typeAssert x xt t ok => kpTypeAssert x xt t ok
  | .extract x i => kpExtract x i
  | .call { callee := .builtin b, args := args, argTypes := tys } => kpCall b args tys
  | _ => kpNone
def xPure (P : Program) (h : T SObj) (asm : Asm) (a : SAct) (o : Oper) : Option (List (SV × Asm)) :=
  kpOf o.op P h asm a
/-- The same in one piece. -/
def xPure0 (P : Program) (h : T SObj) (asm : Asm) (a : SAct) (o : Oper) : Option (List (SV × Asm)) :=
  match o.op with
  | .move x => one1 asm (a.ev x)
  | .assign x => one1 asm (a.ev x)
  | .pick c x y => xpick a asm c x y
  | .build t parts => one1 asm (xbuild P a t parts)
  | .load t x => match a.ev x with
    | some v => one1 asm (xload P h t v)
    | none => none
  | .nilCheck x => match a.ev x with
    | some v => match notNil v with
      | true => some [(v, asm)]
      | false => none
    | none => none
  | .binOp op t x y _ => match a.ev x, a.ev y with
    | some u, some v => one1 asm (xbin P op t (isConstO x || isConstO y) u v)
    | _, _ => none
  | .unOp op _ x => match a.ev x with
    | some v => one1 asm (xun op v)
    | none => none
  | .convert src dst x => match a.ev x with
    | some v => one1 asm (xconvert P h src dst v)
    | none => none
  | .makeInterface t x => match a.ev x with
    | some v => match P.underlying t with
      | some (.interface _) => none
      | some _ => some [(.iface t v, asm)]
      | none => none
    | none => none
  | .makeFunc fn first captured => match evL a first.toList, evL a captured.toList with
    | some u, some v => some [(.func fn u v, asm)]
    | _, _ => none
  | .slice t x lo hi mx => match a.ev x, natO a lo, natO a hi, natO a mx with
    | some v, some l, some h', some m => slcW P h asm t v l h' m
    | _, _, _, _ => none
  | .fieldAddr s x f => match a.ev x with
    | some v => one1 asm (xfieldAddr P s v f)
    | none => none
  | .field t x f => match a.ev x with
    | some v => one1 asm (xfield P t v f)
    | none => none
  | .indexAddr t x i => match a.ev x, a.ev i with
    | some u, some v => one1 asm (xindexAddr P t u v)
    | _, _ => none
  | .index t x i => match a.ev x, a.ev i with
    | some u, some v => one1 asm (xindex P t u v)
    | _, _ => none
  | .lookup t x k ok => match a.ev x, a.ev k with
    | some u, some v => xlookup P h t u v ok asm
    | _, _ => none
  | .typeAssert x xt t ok => match a.ev x with
    | some v => one1 asm (xassert P v xt t ok)
    | none => none
  | .extract x i => match a.ev x with
    | some (.tup vs) => one1 asm (vs[i]?)
    | _ => none
  | .call { callee := .builtin b, args := args, argTypes := tys } =>
    match b with
    | .len => match args.toList, tys[0]? with
      | [x], some t => match a.ev x with
        | some v => one1 asm (xlen P h t v)
        | none => none
      | _, _ => none
    | .cap => match args.toList, tys[0]? with
      | [x], some t => match a.ev x with
        | some v => one1 asm (xcap P t v)
        | none => none
      | _, _ => none
    | .max => match evL a args.toList with
      | some l => xmmW true asm l
      | none => none
    | .min => match evL a args.toList with
      | some l => xmmW false asm l
      | none => none
    | _ => none
  | _ => none
theorem xPure_eq (P : Program) (h : T SObj) (asm : Asm) (a : SAct) (o : Oper) : xPure P h asm a o = xPure0 P h asm a o := by
  unfold xPure xPure0
  cases o.op <;> first | rfl | (rename_i c; cases c with | mk callee args tys => cases callee <;> first | rfl | (rename_i b; cases b <;> rfl))
section
variable {P : Program} {E : Env} {h : T SObj} {w : World}
/-- What an operation's ways are good for: one of them is what happens. -/
def PureOk (P : Program) (E : Env) (A : Act) (o : Oper) (w : World) (outs : List (SV × Asm)) : Prop :=
  ∃ v asm' V, (v, asm') ∈ outs ∧ AsmOk E asm' ∧ v.den E = some V ∧ (execOp A.eval o).run P w = .ok (.value V) w
theorem pure_one {A : Act} {o : Oper} {asm : Asm} (ha : AsmOk E asm) {x : Option SV} {outs : List (SV × Asm)} (h : one1 asm x = some outs) {S : Sem Value} (hS : execOp A.eval o = (do pure (.value (← S)))) (hx : ∀ v, x = some v → ∃ V, v.den E = some V ∧ S.run P w = .ok V w) : PureOk P E A o w outs := by
  unfold one1 at h
  split at h
  · rename_i v
    cases h
    obtain ⟨V, h1, h2⟩ := hx v rfl
    exact ⟨v, asm, V, by simp, ha, h1, by rw [hS]; simp only [Sem.run_bind, h2, Result.andThen_ok, Sem.run_pure]⟩
  · cases h
theorem notNil_ok {v : SV} {V : Value} (h : notNil v = true) (hV : v.den E = some V) {x : Operand} {ρ : Operand → Value} (hρ : ρ x = V) {o : Oper} (ho : o.op = .nilCheck x) (w : World) : (execOp ρ o).run P w = .ok (.value V) w := by
  unfold notNil at h
  split at h
  · obtain ⟨_, _, _, _, rfl⟩ := den_ptr hV
    simp [execOp, ho, hρ]
  · obtain ⟨_, _, rfl⟩ := den_iface hV
    simp [execOp, ho, hρ]
  · obtain ⟨_, _, _, _, rfl⟩ := den_func hV
    simp [execOp, ho, hρ]
  · cases h
theorem xPure_ok (M : Mem E h w) {asm : Asm} (ha : AsmOk E asm) {a : SAct} {A : Act} (hA : ActRel E a A) {o : Oper} {outs : List (SV × Asm)} (e : xPure P h asm a o = some outs) : PureOk P E A o w outs := by
  rw [xPure_eq] at e
  unfold xPure0 at e
  split at e
  · -- move
    rename_i x ho
    exact pure_one ha e (S := pure (A.eval x)) (by simp [execOp, ho]) (fun v hv => ⟨_, ev_ok hA hv, rfl⟩)
  · -- assign
    rename_i x ho
    exact pure_one ha e (S := pure (A.eval x)) (by simp [execOp, ho]) (fun v hv => ⟨_, ev_ok hA hv, rfl⟩)
  · -- pick
    rename_i c x y ho
    unfold xpick at e
    split at e
    · rename_i hc
      obtain ⟨b, hb, hC⟩ := den_bool (ev_ok hA hc)
      simp only [BX.den, Option.some.injEq] at hb; subst hb
      exact pure_one ha e (S := pure (A.eval x)) (by simp [execOp, ho, hC, asBool]) (fun v hv => ⟨_, ev_ok hA hv, rfl⟩)
    · rename_i hc
      obtain ⟨b, hb, hC⟩ := den_bool (ev_ok hA hc)
      simp only [BX.den, Option.some.injEq] at hb; subst hb
      exact pure_one ha e (S := pure (A.eval y)) (by simp [execOp, ho, hC, asBool]) (fun v hv => ⟨_, ev_ok hA hv, rfl⟩)
    · rename_i b _ _ hc
      obtain ⟨z, hb, hC⟩ := den_bool (ev_ok hA hc)
      split at e
      · rename_i u v hu hv
        cases e
        obtain ⟨asm', w1, w2⟩ := ways_ok ha hb
        refine ⟨sel z (fun _ => u) (fun _ => v) (), asm', if z then A.eval x else A.eval y, List.mem_map.2 ⟨_, w1, rfl⟩, w2, ?_, ?_⟩
        · cases z
          · exact ev_ok hA hv
          · exact ev_ok hA hu
        · simp [execOp, ho, hC, asBool]
      · cases e
    · cases e
  · -- build
    rename_i t parts ho
    exact pure_one ha e (S := Instr.build t (parts.map fun (i, x) => (i, A.eval x))) (by simp [execOp, ho]) (fun v hv => xbuild_ok hA hv w)
  · -- load
    rename_i t x ho
    split at e
    · rename_i v hv
      exact pure_one ha e (S := Instr.loadAt t (A.eval x)) (by simp [execOp, ho]) (fun u hu => xload_ok M hu (ev_ok hA hv))
    · cases e
  · -- nilCheck
    rename_i x ho
    split at e
    · rename_i v hv
      split at e
      · rename_i hn
        cases e
        exact ⟨v, asm, _, by simp, ha, ev_ok hA hv, notNil_ok hn (ev_ok hA hv) rfl ho w⟩
      · cases e
    · cases e
  · -- binOp
    rename_i op t x y t' ho
    split at e
    · rename_i u v hu hv
      exact pure_one ha e (S := (do eqGuard op t x y (A.eval x) (A.eval y); binOp op t (A.eval x) (A.eval y))) (by simp [execOp, ho]) (fun z hz => xbin_ok hz (ev_ok hA hu) (ev_ok hA hv) (fun hc => by simpa using hc) w)
    · cases e
  · -- unOp
    rename_i op t x ho
    split at e
    · rename_i v hv
      exact pure_one ha e (S := Op.unary op (A.eval x)) (by simp [execOp, ho]) (fun u hu => xun_ok hu (ev_ok hA hv) w)
    · cases e
  · -- convert
    rename_i src dst x ho
    split at e
    · rename_i v hv
      exact pure_one ha e (S := convert src dst (A.eval x)) (by simp [execOp, ho]) (fun u hu => xconvert_ok M hu (ev_ok hA hv))
    · cases e
  · -- makeInterface
    rename_i t x ho
    split at e
    · rename_i v hv
      split at e
      · cases e
      · rename_i d hni hu
        cases e
        refine ⟨.iface t v, asm, .iface t (A.eval x), by simp, ha, by simp [SV.den, ev_ok hA hv], ?_⟩
        have : (Instr.makeInterface t (A.eval x)).run P w = .ok (.iface t (A.eval x)) w := by
          cases d <;> first | (exfalso; exact hni _ rfl) | simp [Instr.makeInterface, run_underlying hu]
        simp only [execOp, ho, Sem.run_bind, this, Result.andThen_ok, Sem.run_pure]
      · cases e
    · cases e
  · -- makeFunc
    rename_i fn first captured ho
    split at e
    · rename_i u v hu hv
      cases e
      refine ⟨.func fn u v, asm, .func fn (first.map A.eval) (captured.map A.eval), by simp, ha, ?_, by simp [execOp, ho, Instr.makeFunc]⟩
      have h1 := evL_ok hA hu
      have h2 := evL_ok hA hv
      simp only [SV.den, h1, h2, Option.some.injEq, Value.func.injEq, true_and]
      constructor <;> (apply Array.ext'; simp)
    · cases e
  · -- slice
    rename_i t x lo hi mx ho
    split at e
    · rename_i v l h' m hv hl hh hm
      unfold slcW at e
      split at e
      · rename_i u hu
        exact pure_one (x := some u) ha e (S := Instr.sliceAt t (A.eval x) (lo.map A.eval) (hi.map A.eval) (mx.map A.eval)) (by simp [execOp, ho]) (fun u' hu' => by cases hu'; exact xslice_ok M hu (ev_ok hA hv) (natO_ok hA hl) (natO_ok hA hh) (natO_ok hA hm))
      · split at e
        · rename_i q hq
          cases e
          obtain ⟨u, hor, V, h1, h2⟩ := xslice2_ok (a := q.1) (c := q.2) M hq (ev_ok hA hv) (natO_ok hA hl) (natO_ok hA hh) (natO_ok hA hm)
          refine ⟨u, asm, V, ?_, ha, h1, ?_⟩
          · rcases hor with rfl | rfl <;> simp
          · have h3 : (execOp A.eval o).run P w = (Instr.sliceAt t (A.eval x) (lo.map A.eval) (hi.map A.eval) (mx.map A.eval) >>= fun v => pure (.value v)).run P w := by simp [execOp, ho]
            rw [h3, Sem.run_bind, h2]
            rfl
        · cases e
    · cases e
  · -- fieldAddr
    rename_i s x f ho
    split at e
    · rename_i v hv
      exact pure_one ha e (S := Instr.fieldAt s (A.eval x) f) (by simp [execOp, ho]) (fun u hu => xfieldAddr_ok hu (ev_ok hA hv) w)
    · cases e
  · -- field
    rename_i s x f ho
    split at e
    · rename_i v hv
      exact pure_one ha e (S := Instr.field s (A.eval x) f) (by simp [execOp, ho]) (fun u hu => xfield_ok hu (ev_ok hA hv) w)
    · cases e
  · -- indexAddr
    rename_i t x i ho
    split at e
    · rename_i u v hu hv
      exact pure_one ha e (S := Instr.indexAt t (A.eval x) (A.eval i)) (by simp [execOp, ho]) (fun z hz => xindexAddr_ok hz (ev_ok hA hu) (ev_ok hA hv) w)
    · cases e
  · -- index
    rename_i t x i ho
    split at e
    · rename_i u v hu hv
      exact pure_one ha e (S := Instr.index t (A.eval x) (A.eval i)) (by simp [execOp, ho]) (fun z hz => xindex_ok hz (ev_ok hA hu) (ev_ok hA hv) w)
    · cases e
  · -- lookup
    rename_i t x k ok ho
    split at e
    · rename_i u v hu hv
      obtain ⟨r, asm', V, h1, h2, h3, h4⟩ := xlookup_ok (P := P) M ha e (ev_ok hA hu) (ev_ok hA hv)
      exact ⟨r, asm', V, h1, h2, h3, by simp only [execOp, ho, Sem.run_bind, h4, Result.andThen_ok, Sem.run_pure]⟩
    · cases e
  · -- typeAssert
    rename_i x xt t ok ho
    split at e
    · rename_i v hv
      exact pure_one ha e (S := Instr.typeAssert (A.eval x) xt t ok) (by simp [execOp, ho]) (fun u hu => xassert_ok hu (ev_ok hA hv) w)
    · cases e
  · -- extract
    rename_i x i ho
    split at e
    · rename_i vs hv
      obtain ⟨L, hL, hX⟩ := den_tup (ev_ok hA hv)
      refine pure_one ha e (S := Instr.extract (A.eval x) i) (by simp [execOp, ho]) (fun u hu => ?_)
      obtain ⟨V, h1, h2⟩ := denL_get hL hu
      exact ⟨V, h2, by simp [Instr.extract, hX, h1]⟩
    · cases e
  · -- a builtin
    rename_i b args tys ho
    have hcall : ∀ b', b = b' → execOp A.eval o = builtin b' tys o.type (args.map fun | .const _ => true | _ => false) (args.map A.eval) := by
      rintro b' rfl
      simp [execOp, ho, resolve, invoke]
      rfl
    split at e
    · split at e
      · rename_i x t hx ht
        split at e
        · rename_i v hv
          have hargs : args.map A.eval = #[A.eval x] := by apply Array.ext'; simp [hx]
          exact pure_one ha e (S := Builtin.len_ tys o.type #[A.eval x]) (by rw [hcall _ rfl, hargs]; rfl) (fun u hu => xlen_ok M hu (ev_ok hA hv) o.type tys ht)
        · cases e
      · cases e
    · split at e
      · rename_i x t hx ht
        split at e
        · rename_i v hv
          have hargs : args.map A.eval = #[A.eval x] := by apply Array.ext'; simp [hx]
          exact pure_one ha e (S := Builtin.cap_ tys o.type #[A.eval x]) (by rw [hcall _ rfl, hargs]; rfl) (fun u hu => xcap_ok hu (ev_ok hA hv) o.type tys ht w)
        · cases e
      · cases e
    · split at e
      · rename_i l hl
        have hargs : args.map A.eval = (args.toList.map A.eval).toArray := by apply Array.ext'; simp
        obtain ⟨v, asm', V, q1, q2, q3, q4⟩ := xmaxW_ok (P := P) ha e (evL_ok hA hl) tys o.type w
        refine ⟨v, asm', V, q1, q2, q3, ?_⟩
        rw [hcall _ rfl, hargs]
        simp only [builtin, Sem.run_bind, q4, Result.andThen_ok, Sem.run_pure]
      · cases e
    · split at e
      · rename_i l hl
        have hargs : args.map A.eval = (args.toList.map A.eval).toArray := by apply Array.ext'; simp
        obtain ⟨v, asm', V, q1, q2, q3, q4⟩ := xminW_ok (P := P) ha e (evL_ok hA hl) tys o.type w
        refine ⟨v, asm', V, q1, q2, q3, ?_⟩
        rw [hcall _ rfl, hargs]
        simp only [builtin, Sem.run_bind, q4, Result.andThen_ok, Sem.run_pure]
      · cases e
    · cases e
  · cases e
end
end Go.Sx
