/-
  A symbolic run of Go functions by computation (part 3): tests, and the operations that leave memory alone.
-/
import Derived.Test.YtkckgjjhnjcffaaSx2
import Derived.Laws.Entries
import Derived.Laws.Strings
namespace Go.Sx
set_option linter.unusedVariables false
set_option linter.unusedSimpArgs false

abbrev Asm := List (BX × Bool)
def AsmOk (E : Env) (asm : Asm) : Prop := ∀ c v, (c, v) ∈ asm → c.den E = some v
def mkNot : BX → BX
  | .lit b => .lit (!b)
  | .not b => b
  | b => .not b
theorem mkNot_ok {E : Env} {b : BX} {x : Bool} (h : b.den E = some x) : (mkNot b).den E = some (!x) := by
  cases b with
  | lit b => simp only [BX.den, Option.some.injEq] at h; subst h; rfl
  | not b =>
    simp only [BX.den] at h
    split at h
    · rename_i y hy; cases h; simp only [mkNot, hy, Bool.not_not]
    · cases h
  | _ => simp only [mkNot]; unfold BX.den; rw [h]
def mkAnd : BX → BX → BX
  | .lit true, b => b
  | .lit false, _ => .lit false
  | a, .lit true => a
  | a, b => .and a b
theorem mkAnd_ok {E : Env} {a b : BX} {x y : Bool} (h : a.den E = some x) (h' : b.den E = some y) : (mkAnd a b).den E = some (x && y) := by
  unfold mkAnd
  split
  · simp only [BX.den, Option.some.injEq] at h; subst h; simpa using h'
  · simp only [BX.den, Option.some.injEq] at h; subst h; simp [BX.den]
  · simp only [BX.den, Option.some.injEq] at h'; subst h'; simpa using h
  · simp [BX.den, h, h']
def mkIeq : IX → IX → BX
  | .lit a, .lit b => .lit (decide (a = b))
  | .lit a, b => .ieq b (.lit a)
  | .var i, .var j => match Nat.beq i j with
    | true => .lit true
    | false => match Nat.ble i j with
      | true => .ieq (.var i) (.var j)
      | false => .ieq (.var j) (.var i)
  | a, b => .ieq a b
theorem mkIeq_ok {E : Env} {a b : IX} {x y : Int} (h : a.den E = some x) (h' : b.den E = some y) : (mkIeq a b).den E = some (x == y) := by
  unfold mkIeq
  split
  · simp only [IX.den, Option.some.injEq] at h h'; subst h h'; simp only [BX.den, Option.some.injEq]; rw [Bool.eq_iff_iff]; simp
  · simp only [IX.den, Option.some.injEq] at h; subst h; simp [BX.den, h', IX.den, BEq.comm]
  · split
    · rename_i hb
      have := Nat.eq_of_beq_eq_true hb; subst this
      rw [h] at h'; cases h'
      simp [BX.den]
    · split
      · simp [BX.den, h, h']
      · simp [BX.den, h, h', BEq.comm]
  · simp [BX.den, h, h']
def mkIlt : IX → IX → BX
  | .lit a, .lit b => .lit (decide (a < b))
  | a, b => .ilt a b
theorem mkIlt_ok {E : Env} {a b : IX} {x y : Int} (h : a.den E = some x) (h' : b.den E = some y) : (mkIlt a b).den E = some (decide (x < y)) := by
  unfold mkIlt
  split
  · simp only [IX.den, Option.some.injEq] at h h'; subst h h'; simp [BX.den]
  · simp [BX.den, h, h']
def mkSeq : SX → SX → BX
  | .lit n c, .lit m d => .lit (match Nat.beq n m with | true => Nat.beq (c % 256 ^ n) (d % 256 ^ n) | false => false)
  | .lit n c, t => .seq t (.lit n c)
  | .var i, .var j => match Nat.beq i j with
    | true => .lit true
    | false => match Nat.ble i j with
      | true => .seq (.var i) (.var j)
      | false => .seq (.var j) (.var i)
  | s, t => .seq s t
theorem toList_txt (n c : Nat) : (txt n c).toList = dec n c := by rw [Go.ByteArray.toList_eq]; exact txt_data n c
theorem mkSeq_ok {E : Env} {a b : SX} {x y : ByteArray} (h : a.den E = some x) (h' : b.den E = some y) : (mkSeq a b).den E = some (x.toList == y.toList) := by
  unfold mkSeq
  split
  · rename_i n c m d
    simp only [SX.den, Option.some.injEq] at h h'; subst h h'
    simp only [BX.den, toList_txt, Option.some.injEq]
    split
    · rename_i e
      have e := Nat.eq_of_beq_eq_true e
      subst e
      rw [Bool.eq_iff_iff]
      simp only [Nat.beq_eq, beq_iff_eq, dec_eq_iff]
    · rename_i e
      have e := Nat.ne_of_beq_eq_false e
      symm
      rw [beq_eq_false_iff_ne]
      intro h
      have := congrArg List.length h
      simp at this
      exact e this
  · simp only [SX.den, Option.some.injEq] at h; subst h; simp [BX.den, h', SX.den, BEq.comm]
  · split
    · rename_i hb
      have := Nat.eq_of_beq_eq_true hb; subst this
      rw [h] at h'; cases h'
      simp [BX.den]
    · split
      · simp [BX.den, h, h']
      · simp [BX.den, h, h', BEq.comm]
  · simp [BX.den, h, h']

/-! ### what is known -/
/-- The bounds of a term that the assumptions tell. -/
def bnd (x : IX) : Asm → Option Int × Option Int
  | [] => (none, none)
  | (c, v) :: l =>
    let (lo, hi) := bnd x l
    let up (n : Int) : Option Int := match hi with | none => some n | some h => some (if n < h then n else h)
    let dn (n : Int) : Option Int := match lo with | none => some n | some h => some (if n < h then h else n)
    match c, v with
    | .ilt a (.lit n), true => if a = x then (lo, up (n - 1)) else (lo, hi)
    | .ilt a (.lit n), false => if a = x then (dn n, hi) else (lo, hi)
    | .ilt (.lit n) a, true => if a = x then (dn (n + 1), hi) else (lo, hi)
    | .ilt (.lit n) a, false => if a = x then (lo, up n) else (lo, hi)
    | .ieq a (.lit n), true => if a = x then (dn n, up n) else (lo, hi)
    | _, _ => (lo, hi)
theorem bnd_ok {E : Env} {x : IX} {z : Int} (hx : x.den E = some z) : ∀ {asm : Asm}, AsmOk E asm → (∀ n, (bnd x asm).1 = some n → n ≤ z) ∧ (∀ n, (bnd x asm).2 = some n → z ≤ n)
  | [], _ => ⟨fun n h => by simp [bnd] at h, fun n h => by simp [bnd] at h⟩
  | (c, v) :: l, ha => by
    obtain ⟨h1, h2⟩ := bnd_ok hx (asm := l) (fun c v h => ha c v (List.mem_cons_of_mem _ h))
    have hc : c.den E = some v := ha c v (List.mem_cons_self)
    have up : ∀ n m, z ≤ n → (match (bnd x l).2 with | none => some n | some h => some (if n < h then n else h)) = some m → z ≤ m := by
      intro n m hn hm
      cases e : (bnd x l).2 with
      | none => rw [e] at hm; cases hm; exact hn
      | some h =>
        rw [e] at hm
        have := h2 h e
        simp only [Option.some.injEq] at hm
        split at hm <;> omega
    have dn : ∀ n m, n ≤ z → (match (bnd x l).1 with | none => some n | some h => some (if n < h then h else n)) = some m → m ≤ z := by
      intro n m hn hm
      cases e : (bnd x l).1 with
      | none => rw [e] at hm; cases hm; exact hn
      | some h =>
        rw [e] at hm
        have := h1 h e
        simp only [Option.some.injEq] at hm
        split at hm <;> omega
    simp only [bnd]
    split
    · rename_i a n
      split
      · rename_i e; subst e
        simp only [BX.den, hx, IX.den, Option.some.injEq, decide_eq_true_eq] at hc
        exact ⟨h1, fun m hm => up _ m (by omega) hm⟩
      · exact ⟨h1, h2⟩
    · rename_i a n
      split
      · rename_i e; subst e
        simp only [BX.den, hx, IX.den, Option.some.injEq, decide_eq_false_iff_not] at hc
        exact ⟨fun m hm => dn _ m (by omega) hm, h2⟩
      · exact ⟨h1, h2⟩
    · rename_i a n _
      split
      · rename_i e; subst e
        simp only [BX.den, hx, IX.den, Option.some.injEq, decide_eq_true_eq] at hc
        exact ⟨fun m hm => dn _ m (by omega) hm, h2⟩
      · exact ⟨h1, h2⟩
    · rename_i a n _
      split
      · rename_i e; subst e
        simp only [BX.den, hx, IX.den, Option.some.injEq, decide_eq_false_iff_not] at hc
        exact ⟨h1, fun m hm => up _ m (by omega) hm⟩
      · exact ⟨h1, h2⟩
    · rename_i a n
      split
      · rename_i e; subst e
        simp only [BX.den, hx, IX.den, Option.some.injEq, beq_iff_eq] at hc
        exact ⟨fun m hm => dn _ m (by omega) hm, fun m hm => up _ m (by omega) hm⟩
      · exact ⟨h1, h2⟩
    · exact ⟨h1, h2⟩
def said (c : BX) : Asm → Option Bool
  | [] => none
  | (d, v) :: l => match decide (c = d) with
    | true => some v
    | false => said c l
theorem said_ok {E : Env} {c : BX} {v x : Bool} (hc : c.den E = some x) : ∀ {asm : Asm}, AsmOk E asm → said c asm = some v → x = v
  | [], _, h => by simp [said] at h
  | (d, u) :: l, ha, h => by
    simp only [said] at h
    split at h
    · rename_i e
      have e : c = d := by simpa using e
      subst e
      have := ha c u (List.mem_cons_self)
      rw [hc] at this
      simp at this h
      rw [this, h]
    · exact said_ok hc (fun c v h => ha c v (List.mem_cons_of_mem _ h)) h
def known (asm : Asm) (c : BX) : Option Bool :=
  match asm with
  | [] => none
  | _ =>
    match said c asm with
    | some v => some v
    | none =>
      match c with
      | .ilt a (.lit n) =>
        match bnd a asm with
        | (lo, hi) =>
          match (match hi with | some h => decide (h < n) | none => false) with
          | true => some true
          | false => match (match lo with | some l => decide (n ≤ l) | none => false) with
            | true => some false
            | false => none
      | .ilt (.lit n) a =>
        match bnd a asm with
        | (lo, hi) =>
          match (match lo with | some l => decide (n < l) | none => false) with
          | true => some true
          | false => match (match hi with | some h => decide (h ≤ n) | none => false) with
            | true => some false
            | false => none
      | .ieq a (.lit n) =>
        match bnd a asm with
        | (lo, hi) =>
          match (match lo with | some l => decide (n < l) | none => false) || (match hi with | some h => decide (h < n) | none => false) with
          | true => some false
          | false => match (match lo with | some l => decide (l = n) | none => false) && (match hi with | some h => decide (h = n) | none => false) with
            | true => some true
            | false => none
      | _ => none
theorem known_ok {E : Env} {c : BX} {v x : Bool} (hc : c.den E = some x) {asm : Asm} (ha : AsmOk E asm) (h : known asm c = some v) : x = v := by
  unfold known at h
  split at h
  · cases h
  split at h
  · rename_i hs; cases h; exact said_ok hc ha hs
  · split at h
    · rename_i a n
      simp only [BX.den, IX.den] at hc
      split at hc
      · rename_i z y hz hy
        cases hy
        obtain ⟨h1, h2⟩ := bnd_ok hz ha
        split at h
        rename_i lo hi e
        rw [e] at h1 h2
        split at h
        · rename_i e1
          cases h
          split at e1
          · have := h2 _ rfl
            simp only [decide_eq_true_eq] at e1
            simp only [Option.some.injEq] at hc
            rw [← hc, decide_eq_true_eq]; omega
          · cases e1
        · split at h
          · rename_i e1
            cases h
            split at e1
            · have := h1 _ rfl
              simp only [decide_eq_true_eq] at e1
              simp only [Option.some.injEq] at hc
              rw [← hc, decide_eq_false_iff_not]; omega
            · cases e1
          · cases h
      · cases hc
    · rename_i n a _
      simp only [BX.den, IX.den] at hc
      split at hc
      · rename_i y z hy hz
        cases hy
        obtain ⟨h1, h2⟩ := bnd_ok hz ha
        split at h
        rename_i lo hi e
        rw [e] at h1 h2
        split at h
        · rename_i e1
          cases h
          split at e1
          · have := h1 _ rfl
            simp only [decide_eq_true_eq] at e1
            simp only [Option.some.injEq] at hc
            rw [← hc, decide_eq_true_eq]; omega
          · cases e1
        · split at h
          · rename_i e1
            cases h
            split at e1
            · have := h2 _ rfl
              simp only [decide_eq_true_eq] at e1
              simp only [Option.some.injEq] at hc
              rw [← hc, decide_eq_false_iff_not]; omega
            · cases e1
          · cases h
      · cases hc
    · rename_i a n
      simp only [BX.den, IX.den] at hc
      split at hc
      · rename_i z y hz hy
        cases hy
        obtain ⟨h1, h2⟩ := bnd_ok hz ha
        split at h
        rename_i lo hi e
        rw [e] at h1 h2
        simp only [Option.some.injEq] at hc
        split at h
        · rename_i e1
          cases h
          rw [Bool.or_eq_true] at e1
          rw [← hc, beq_eq_false_iff_ne]
          rcases e1 with e1 | e1
          · split at e1
            · have := h1 _ rfl
              simp only [decide_eq_true_eq] at e1
              omega
            · cases e1
          · split at e1
            · have := h2 _ rfl
              simp only [decide_eq_true_eq] at e1
              omega
            · cases e1
        · split at h
          · rename_i e1
            cases h
            rw [Bool.and_eq_true] at e1
            obtain ⟨e1, e2⟩ := e1
            split at e1
            · split at e2
              · have := h1 _ rfl
                have := h2 _ rfl
                simp only [decide_eq_true_eq] at e1 e2
                rw [← hc, beq_iff_eq]; omega
              · cases e2
            · cases e1
          · cases h
      · cases hc
    · cases h
/-- The ways in which a test may come out. -/
def ways (asm : Asm) : BX → List (Bool × Asm)
  | .lit b => [(b, asm)]
  | .not b => (ways asm b).map fun p => (!p.1, p.2)
  | .and a b => (ways asm a).flatMap fun p => match p.1 with
    | true => ways p.2 b
    | false => [(false, p.2)]
  | c => match known asm c with
    | some v => [(v, asm)]
    | none => [(true, (c, true) :: asm), (false, (c, false) :: asm)]
theorem ways_atom {E : Env} {asm : Asm} (ha : AsmOk E asm) {c : BX} {v : Bool} (hc : c.den E = some v) :
    ∃ asm', (v, asm') ∈ (match known asm c with | some v => [(v, asm)] | none => [(true, (c, true) :: asm), (false, (c, false) :: asm)]) ∧ AsmOk E asm' := by
  cases hk : known asm c with
  | some u =>
    have := known_ok hc ha hk
    subst this
    exact ⟨asm, by simp, ha⟩
  | none =>
    refine ⟨(c, v) :: asm, by cases v <;> simp, fun d u h => ?_⟩
    rcases List.mem_cons.1 h with h | h
    · cases h; exact hc
    · exact ha d u h
theorem ways_ok {E : Env} : ∀ {c : BX} {asm : Asm} (ha : AsmOk E asm) {v : Bool} (hc : c.den E = some v), ∃ asm', (v, asm') ∈ ways asm c ∧ AsmOk E asm'
  | .lit b, asm, ha, v, hc => by simp only [BX.den, Option.some.injEq] at hc; subst hc; exact ⟨asm, by simp [ways], ha⟩
  | .not b, asm, ha, v, hc => by
    simp only [BX.den] at hc
    split at hc
    · rename_i y hy
      cases hc
      obtain ⟨asm', h1, h2⟩ := ways_ok ha hy
      exact ⟨asm', by simp only [ways, List.mem_map]; exact ⟨_, h1, rfl⟩, h2⟩
    · cases hc
  | .and a b, asm, ha, v, hc => by
    simp only [BX.den] at hc
    split at hc
    · rename_i x y hx hy
      cases hc
      obtain ⟨asm', h1, h2⟩ := ways_ok ha hx
      cases x with
      | false => exact ⟨asm', by simp only [ways, List.mem_flatMap]; exact ⟨_, h1, by simp⟩, h2⟩
      | true =>
        obtain ⟨asm2, h3, h4⟩ := ways_ok h2 hy
        exact ⟨asm2, by simp only [ways, List.mem_flatMap]; exact ⟨_, h1, by simpa using h3⟩, h4⟩
    · cases hc
  | .var i, asm, ha, v, hc => ways_atom ha hc
  | .ieq a b, asm, ha, v, hc => ways_atom ha hc
  | .ilt a b, asm, ha, v, hc => ways_atom ha hc
  | .seq a b, asm, ha, v, hc => ways_atom ha hc
end Go.Sx
