/-
  A fast symbolic run (part 2): the values of single operations, by recursors.
-/
import Derived.Test.YtkckgjjhnjcffaaSyA
namespace Go.Sx
set_option linter.unusedVariables false
set_option linter.unusedSimpArgs false
/-! ### numbers -/
inductive IV where
  | no
  | nat (tag n : Nat)
noncomputable def tagOf (k : IntKind) : Nat := @IntKind.rec (fun _ => Nat) 0 1 2 3 4 5 6 7 k
theorem tagOf_inj {k l : IntKind} (h : Nat.beq (tagOf k) (tagOf l) = true) : k = l := by
  cases k <;> cases l <;> first | rfl | (cases h; done)
noncomputable def asIntX (k : IntKind) (x : IX) : IV := @IX.rec (fun _ => IV) (fun z => @Int.rec (fun _ => IV) (fun n => .nat (tagOf k) n) (fun _ => .no) z) (fun _ => .no) (fun _ _ _ _ _ _ => .no) (fun _ => .no) x
noncomputable def asInt (v : SV) : IV := @SV.rec (fun _ => IV) (fun _ => Unit) (fun _ => .no) asIntX (fun _ => .no) .no (fun _ _ => .no) .no (fun _ _ _ _ _ => .no) .no (fun _ => .no) .no (fun _ _ _ _ _ => .no) .no (fun _ _ _ => .no) (fun _ _ => .no) (fun _ _ => .no) () (fun _ _ _ _ => ()) v
theorem asInt_nat {v : SV} {t n : Nat} (h : asInt v = .nat t n) : ∃ k, v = .int k (.lit (.ofNat n)) ∧ t = tagOf k := by
  cases v with
  | int k x =>
    cases x with
    | lit z => cases z with
      | ofNat m => cases h; exact ⟨k, rfl, rfl⟩
      | negSucc m => cases h
    | _ => cases h
  | _ => cases h
/-- What a comparison of two numbers comes to. -/
structure NCmp where
  c : Nat → Nat → Bool
noncomputable def notF (b : Bool) : Bool := @Bool.rec (fun _ => Bool) true false b
def ncmp : BinOp → Option NCmp
  | .eql => some ⟨fun a b => Nat.beq a b⟩
  | .neq => some ⟨fun a b => not (Nat.beq a b)⟩
  | .lss => some ⟨fun a b => Nat.ble (Nat.add a 1) b⟩
  | .leq => some ⟨fun a b => Nat.ble a b⟩
  | .gtr => some ⟨fun a b => Nat.ble (Nat.add b 1) a⟩
  | .geq => some ⟨fun a b => Nat.ble b a⟩
  | _ => none
theorem decide_beq (a b : Nat) : decide ((Int.ofNat a) = Int.ofNat b) = Nat.beq a b := by
  rw [Bool.eq_iff_iff, decide_eq_true_eq, Nat.beq_eq]
  exact ⟨Int.ofNat.inj, congrArg _⟩
theorem decide_blt (a b : Nat) : decide ((Int.ofNat a) < Int.ofNat b) = Nat.ble (Nat.add a 1) b := by
  rw [Bool.eq_iff_iff, decide_eq_true_eq, Nat.ble_eq]
  show ((a : Int) < (b : Int)) ↔ a + 1 ≤ b
  omega
theorem decide_ble (a b : Nat) : (!(Nat.ble (Nat.add b 1) a)) = Nat.ble a b := by
  rw [Bool.eq_iff_iff, Bool.not_eq_true', ← Bool.not_eq_true, Nat.ble_eq, Nat.ble_eq]
  show ¬ (b + 1 ≤ a) ↔ a ≤ b
  omega
theorem ncmp_ok {op : BinOp} {c : NCmp} (h : ncmp op = some c) (P : Program) (t : TypeId) (cst : Bool) (k : IntKind) (a b : Nat) :
    xbin P op t cst (.int k (.lit (.ofNat a))) (.int k (.lit (.ofNat b))) = some (.bool (.lit (c.c a b))) := by
  cases op <;> cases h <;> simp only [xbin, decide_true, isArith, cmpI, mkIeq, mkIlt, mkNot, decide_beq, decide_blt, decide_ble]
/-- Sums, differences and products that are small enough. -/
noncomputable def narith : BinOp → Option (Nat → Nat → Nat)
  | .add => some fun a b => Nat.add a b
  | .mul => some fun a b => Nat.mul a b
  | _ => none
theorem wrap_small {n : Nat} (h : n ≤ 9223372036854775807) : IntKind.i64.wrap (n : Int) = n := wrap_nat h
theorem narith_ok {op : BinOp} {f : Nat → Nat → Nat} (h : narith op = some f) (P : Program) (t : TypeId) (cst : Bool) (a b : Nat) (hb : Nat.ble (f a b) 9223372036854775807 = true) :
    xbin P op t cst (.int .i64 (.lit (.ofNat a))) (.int .i64 (.lit (.ofNat b))) = some (.int .i64 (.lit (.ofNat (f a b)))) := by
  cases op <;> cases h
  · have hb : a + b ≤ 9223372036854775807 := Nat.le_of_ble_eq_true hb
    have : intBin .add .i64 (Int.ofNat a) (Int.ofNat b) = some (Int.ofNat (a + b)) := by
      simp only [intBin]
      have e : (Int.ofNat a + Int.ofNat b : Int) = ((a + b : Nat) : Int) := rfl
      rw [e, wrap_small hb]; rfl
    simp only [xbin, isArith, mkBin, this]
    rfl
  · have hb : a * b ≤ 9223372036854775807 := Nat.le_of_ble_eq_true hb
    have : intBin .mul .i64 (Int.ofNat a) (Int.ofNat b) = some (Int.ofNat (a * b)) := by
      simp only [intBin]
      have e : (Int.ofNat a * Int.ofNat b : Int) = ((a * b : Nat) : Int) := rfl
      rw [e, wrap_small hb]; rfl
    simp only [xbin, isArith, mkBin, this]
    rfl
theorem nsub_ok (P : Program) (t : TypeId) (cst : Bool) (a b : Nat) (hab : Nat.ble b a = true) (hb : Nat.ble a 9223372036854775807 = true) :
    xbin P .sub t cst (.int .i64 (.lit (.ofNat a))) (.int .i64 (.lit (.ofNat b))) = some (.int .i64 (.lit (.ofNat (a - b)))) := by
  have hab := Nat.le_of_ble_eq_true hab
  have hb := Nat.le_of_ble_eq_true hb
  have : intBin .sub .i64 (Int.ofNat a) (Int.ofNat b) = some (Int.ofNat (a - b)) := by
    simp only [intBin]
    have e : (Int.ofNat a - Int.ofNat b : Int) = ((a - b : Nat) : Int) := by simp; omega
    rw [e, wrap_small (by omega)]; rfl
  simp only [xbin, isArith, mkBin, this]
  rfl
/-! ### texts -/
inductive TV where
  | no
  | lit (n c : Nat)
noncomputable def asTxtX (s : SX) : TV := @SX.rec (fun _ => TV) (fun n c => .lit n c) (fun _ => .no) (fun _ _ _ _ => .no) s
noncomputable def asTxt (v : SV) : TV := @SV.rec (fun _ => TV) (fun _ => Unit) (fun _ => .no) (fun _ _ => .no) asTxtX .no (fun _ _ => .no) .no (fun _ _ _ _ _ => .no) .no (fun _ => .no) .no (fun _ _ _ _ _ => .no) .no (fun _ _ _ => .no) (fun _ _ => .no) (fun _ _ => .no) () (fun _ _ _ _ => ()) v
theorem asTxt_lit {v : SV} {n c : Nat} (h : asTxt v = .lit n c) : v = .str (.lit n c) := by
  cases v with
  | str s => cases s <;> cases h; rfl
  | _ => cases h
noncomputable def txtEq (n c m d : Nat) : Bool := @Bool.rec (fun _ => Bool) false (Nat.beq (Nat.mod c (Nat.pow 256 n)) (Nat.mod d (Nat.pow 256 n))) (Nat.beq n m)
theorem txtEq_eq (n c m d : Nat) : mkSeq (.lit n c) (.lit m d) = .lit (txtEq n c m d) := by
  simp only [mkSeq, txtEq]
  cases Nat.beq n m <;> rfl
/-! ### two operands -/
noncomputable def bin0 (P : Program) (op : BinOp) (t : TypeId) (cst : Bool) (u v : SV) : Option SV := xbin P op t cst u v
structure Q2W where
  q : SV → SV → Option SV
noncomputable def kbin (P : Program) (op : BinOp) (t : TypeId) (cst : Bool) : Q2W :=
  match ncmp op with
  | some c => @NCmp.rec (fun _ => Q2W) (fun c => match op with
    | .eql => ⟨fun u v => @IV.rec (fun _ => Option SV) (@TV.rec (fun _ => Option SV) (xbin P op t cst u v) (fun n c => @TV.rec (fun _ => Option SV) (xbin P op t cst u v) (fun m d => some (.bool (.lit (txtEq n c m d)))) (asTxt v)) (asTxt u)) (fun g a => @IV.rec (fun _ => Option SV) (xbin P op t cst u v) (fun g' b => @Bool.rec (fun _ => Option SV) (xbin P op t cst u v) (some (.bool (.lit (c a b)))) (Nat.beq g g')) (asInt v)) (asInt u)⟩
    | .neq => ⟨fun u v => @IV.rec (fun _ => Option SV) (@TV.rec (fun _ => Option SV) (xbin P op t cst u v) (fun n c => @TV.rec (fun _ => Option SV) (xbin P op t cst u v) (fun m d => some (.bool (.lit (not (txtEq n c m d))))) (asTxt v)) (asTxt u)) (fun g a => @IV.rec (fun _ => Option SV) (xbin P op t cst u v) (fun g' b => @Bool.rec (fun _ => Option SV) (xbin P op t cst u v) (some (.bool (.lit (c a b)))) (Nat.beq g g')) (asInt v)) (asInt u)⟩
    | _ => ⟨fun u v => @IV.rec (fun _ => Option SV) (xbin P op t cst u v) (fun g a => @IV.rec (fun _ => Option SV) (xbin P op t cst u v) (fun g' b => @Bool.rec (fun _ => Option SV) (xbin P op t cst u v) (some (.bool (.lit (c a b)))) (Nat.beq g g')) (asInt v)) (asInt u)⟩) c
  | none => match op with
    | .add => ⟨fun u v => @IV.rec (fun _ => Option SV) (xbin P op t cst u v) (fun g a => @IV.rec (fun _ => Option SV) (xbin P op t cst u v) (fun g' b => @Bool.rec (fun _ => Option SV) (xbin P op t cst u v) (@Bool.rec (fun _ => Option SV) (xbin P op t cst u v) (natL (Nat.add a b) fun r => @Bool.rec (fun _ => Option SV) (xbin P op t cst u v) (some (.int .i64 (.lit (.ofNat r)))) (Nat.ble r 9223372036854775807)) (Nat.beq g' 3)) (Nat.beq g 3)) (asInt v)) (asInt u)⟩
    | .mul => ⟨fun u v => @IV.rec (fun _ => Option SV) (xbin P op t cst u v) (fun g a => @IV.rec (fun _ => Option SV) (xbin P op t cst u v) (fun g' b => @Bool.rec (fun _ => Option SV) (xbin P op t cst u v) (@Bool.rec (fun _ => Option SV) (xbin P op t cst u v) (natL (Nat.mul a b) fun r => @Bool.rec (fun _ => Option SV) (xbin P op t cst u v) (some (.int .i64 (.lit (.ofNat r)))) (Nat.ble r 9223372036854775807)) (Nat.beq g' 3)) (Nat.beq g 3)) (asInt v)) (asInt u)⟩
    | .sub => ⟨fun u v => @IV.rec (fun _ => Option SV) (xbin P op t cst u v) (fun g a => @IV.rec (fun _ => Option SV) (xbin P op t cst u v) (fun g' b => @Bool.rec (fun _ => Option SV) (xbin P op t cst u v) (@Bool.rec (fun _ => Option SV) (xbin P op t cst u v) (@Bool.rec (fun _ => Option SV) (xbin P op t cst u v) (natL (Nat.sub a b) fun r => @Bool.rec (fun _ => Option SV) (xbin P op t cst u v) (some (.int .i64 (.lit (.ofNat r)))) (Nat.ble a 9223372036854775807)) (Nat.ble b a)) (Nat.beq g' 3)) (Nat.beq g 3)) (asInt v)) (asInt u)⟩
    | _ => ⟨fun u v => xbin P op t cst u v⟩
theorem tag3 {k : IntKind} (h : Nat.beq (tagOf k) 3 = true) : k = .i64 := by cases k <;> first | rfl | (cases h; done)
theorem kbin_eq (P : Program) (op : BinOp) (t : TypeId) (cst : Bool) (u v : SV) : (kbin P op t cst).q u v = xbin P op t cst u v := by
  -- a comparison of numbers
  have cmp : ∀ {c : NCmp}, ncmp op = some c → ∀ {g a : Nat}, asInt u = .nat g a → (@IV.rec (fun _ => Option SV) (xbin P op t cst u v) (fun g' b => @Bool.rec (fun _ => Option SV) (xbin P op t cst u v) (some (.bool (.lit (c.c a b)))) (Nat.beq g g')) (asInt v)) = xbin P op t cst u v := fun {c} hc {g a} hu => by
    cases hv : asInt v with
    | no => rfl
    | nat g' b =>
      show @Bool.rec (fun _ => Option SV) (xbin P op t cst u v) (some (.bool (.lit (c.c a b)))) (Nat.beq g g') = _
      obtain ⟨k, rfl, rfl⟩ := asInt_nat hu
      obtain ⟨k', rfl, rfl⟩ := asInt_nat hv
      cases hb : Nat.beq (tagOf k) (tagOf k') with
      | false => rfl
      | true =>
        have := tagOf_inj hb
        subst this
        exact (ncmp_ok hc P t cst k a b).symm
  unfold kbin
  cases hc : ncmp op with
  | some c =>
    obtain ⟨cf⟩ := c
    dsimp only
    split
    · show @IV.rec (fun _ => Option SV) _ _ (asInt u) = _
      cases hu : asInt u with
      | nat g a => exact cmp hc hu
      | no =>
        show @TV.rec (fun _ => Option SV) _ _ (asTxt u) = _
        cases h1 : asTxt u with
        | no => rfl
        | lit n c =>
          show @TV.rec (fun _ => Option SV) _ _ (asTxt v) = _
          cases h2 : asTxt v with
          | no => rfl
          | lit m d =>
            have := asTxt_lit h1
            subst this
            have := asTxt_lit h2
            subst this
            simp only [xbin, strOp, txtEq_eq]
    · show @IV.rec (fun _ => Option SV) _ _ (asInt u) = _
      cases hu : asInt u with
      | nat g a => exact cmp hc hu
      | no =>
        show @TV.rec (fun _ => Option SV) _ _ (asTxt u) = _
        cases h1 : asTxt u with
        | no => rfl
        | lit n c =>
          show @TV.rec (fun _ => Option SV) _ _ (asTxt v) = _
          cases h2 : asTxt v with
          | no => rfl
          | lit m d =>
            have := asTxt_lit h1
            subst this
            have := asTxt_lit h2
            subst this
            simp only [xbin, strOp, txtEq_eq, mkNot]
    · show @IV.rec (fun _ => Option SV) _ _ (asInt u) = _
      cases hu : asInt u with
      | nat g a => exact cmp hc hu
      | no => rfl
  | none =>
    dsimp only
    have ar : ∀ {f : Nat → Nat → Nat}, narith op = some f → (@IV.rec (fun _ => Option SV) (xbin P op t cst u v) (fun g a => @IV.rec (fun _ => Option SV) (xbin P op t cst u v) (fun g' b => @Bool.rec (fun _ => Option SV) (xbin P op t cst u v) (@Bool.rec (fun _ => Option SV) (xbin P op t cst u v) (natL (f a b) fun r => @Bool.rec (fun _ => Option SV) (xbin P op t cst u v) (some (.int .i64 (.lit (.ofNat r)))) (Nat.ble r 9223372036854775807)) (Nat.beq g' 3)) (Nat.beq g 3)) (asInt v)) (asInt u)) = xbin P op t cst u v := fun {f} hf => by
      cases hu : asInt u with
      | no => rfl
      | nat g a =>
        cases hv : asInt v with
        | no => rfl
        | nat g' b =>
          obtain ⟨k, rfl, rfl⟩ := asInt_nat hu
          obtain ⟨k', rfl, rfl⟩ := asInt_nat hv
          dsimp only
          cases h1 : Nat.beq (tagOf k) 3 with
          | false => rfl
          | true =>
            cases h2 : Nat.beq (tagOf k') 3 with
            | false => rfl
            | true =>
              have := tag3 h1
              subst this
              have := tag3 h2
              subst this
              rw [natL_eq]
              cases h3 : Nat.ble (f a b) 9223372036854775807 with
              | false => rfl
              | true => exact (narith_ok hf P t cst a b h3).symm
    split
    · exact ar (f := fun a b => Nat.add a b) rfl
    · exact ar (f := fun a b => Nat.mul a b) rfl
    · dsimp only
      cases hu : asInt u with
      | no => rfl
      | nat g a =>
        cases hv : asInt v with
        | no => rfl
        | nat g' b =>
          obtain ⟨k, rfl, rfl⟩ := asInt_nat hu
          obtain ⟨k', rfl, rfl⟩ := asInt_nat hv
          dsimp only
          cases h1 : Nat.beq (tagOf k) 3 with
          | false => rfl
          | true =>
            cases h2 : Nat.beq (tagOf k') 3 with
            | false => rfl
            | true =>
              have := tag3 h1
              subst this
              have := tag3 h2
              subst this
              cases h3 : Nat.ble b a with
              | false => rfl
              | true =>
                rw [natL_eq]
                cases h4 : Nat.ble a 9223372036854775807 with
                | false => rfl
                | true => exact (nsub_ok P t cst a b h3 h4).symm
    · rfl
/-! ### parts of structs, addresses -/
structure Q1W where
  q : SV → Option SV
noncomputable def kfaddr (P : Program) (t : TypeId) (f : Nat) : Q1W :=
  match P.underlying t with
  | some (.struct fields) => match fields[f]? with
    | some fd => match szOf P fd.type with
      | some (n + 1) => ⟨fun v => @PtrV.rec (fun _ => Option SV) none (fun id off => some (.ptr id (Nat.add off fd.offset))) (asPtr v)⟩
      | _ => ⟨fun _ => none⟩
    | none => ⟨fun _ => none⟩
  | _ => ⟨fun _ => none⟩
theorem kfaddr_eq (P : Program) (t : TypeId) (f : Nat) (v : SV) : (kfaddr P t f).q v = xfieldAddr P t v f := by
  rcases asPtr_cases v with ⟨i, o, rfl, e⟩ | ⟨e, hn⟩
  · unfold kfaddr
    simp only [xfieldAddr]
    cases P.underlying t with
    | none => rfl
    | some d => cases d with
      | struct fields =>
        dsimp only
        cases fields[f]? with
        | none => rfl
        | some fd =>
          dsimp only
          cases szOf P fd.type with
          | none => rfl
          | some n => cases n <;> rfl
      | _ => rfl
  · have e2 : xfieldAddr P t v f = none := by
      cases v <;> first | rfl | (rename_i i o; exact (hn i o rfl).elim)
    rw [e2]
    unfold kfaddr
    cases P.underlying t with
    | none => rfl
    | some d => cases d with
      | struct fields =>
        dsimp only
        cases fields[f]? with
        | none => rfl
        | some fd =>
          dsimp only
          cases szOf P fd.type with
          | none => rfl
          | some n => cases n with
            | zero => rfl
            | succ n => show @PtrV.rec (fun _ => Option SV) none _ (asPtr v) = none; rw [e]
      | _ => rfl
noncomputable def kpart (P : Program) (t : TypeId) (off : Nat) : Option (List SV → Option SV) :=
  match P.underlying t with
  | some d => match aggD d with
    | true => match szOf P t with
      | some n => some fun cs => some (.agg (ltake n (ldrop off cs)))
      | none => none
    | false => some fun cs => lnth cs off
  | none => none
theorem kpart_eq {P : Program} {t : TypeId} {off : Nat} {f : List SV → Option SV} (h : kpart P t off = some f) (cs : List SV) : f cs = xpart P t cs off := by
  unfold kpart at h
  unfold xpart
  split at h
  · rename_i d hd
    rw [hd]
    dsimp only
    split at h
    · rename_i ha
      split at h
      · rename_i n hn
        cases h
        simp only [ha, hn, ltake_eq, ldrop_eq]
      · cases h
    · rename_i ha
      cases h
      simp only [ha, lnth_eq]
  · cases h
noncomputable def kfield (P : Program) (t : TypeId) (f : Nat) : Q1W :=
  match P.underlying t with
  | some (.struct fields) => match fields[f]? with
    | some fd => match kpart P fd.type fd.offset with
      | some q => ⟨fun v => @AggV.rec (fun _ => Option SV) none (fun cs => q cs) (asAgg v)⟩
      | none => ⟨fun v => xfield P t v f⟩
    | none => ⟨fun _ => none⟩
  | _ => ⟨fun _ => none⟩
theorem asAgg_cases (v : SV) : (∃ cs, v = .agg cs ∧ asAgg v = .yes cs) ∨ asAgg v = .no ∧ ∀ cs, v ≠ .agg cs := by
  cases v with
  | agg cs => exact .inl ⟨cs, rfl, rfl⟩
  | _ => exact .inr ⟨rfl, fun cs e => by cases e⟩
theorem kfield_eq (P : Program) (t : TypeId) (f : Nat) (v : SV) : (kfield P t f).q v = xfield P t v f := by
  unfold kfield
  rcases asAgg_cases v with ⟨cs, rfl, e⟩ | ⟨e, hn⟩
  · cases hu : P.underlying t with
    | none => simp only [xfield, hu]
    | some d => cases d with
      | struct fields =>
        dsimp only
        cases hf : fields[f]? with
        | none => simp only [xfield, hu, hf]
        | some fd =>
          dsimp only
          cases hk : kpart P fd.type fd.offset with
          | none => rfl
          | some q => simp only [xfield, hu, hf]; exact kpart_eq hk cs
      | _ => simp only [xfield, hu]
  · have e2 : xfield P t v f = none := by
      cases v <;> first | rfl | (rename_i cs; exact (hn cs rfl).elim)
    cases hu : P.underlying t with
    | none => rw [e2]
    | some d => cases d with
      | struct fields =>
        dsimp only
        cases hf : fields[f]? with
        | none => rw [e2]
        | some fd =>
          dsimp only
          cases hk : kpart P fd.type fd.offset with
          | none => rfl
          | some q => show @AggV.rec (fun _ => Option SV) none _ (asAgg v) = _; rw [e, e2]
      | _ => rw [e2]
inductive SlV where
  | no
  | yes (id off len : Nat)
noncomputable def asSlc (v : SV) : SlV := @SV.rec (fun _ => SlV) (fun _ => Unit) (fun _ => .no) (fun _ _ => .no) (fun _ => .no) .no (fun _ _ => .no) .no (fun i o l _ _ => .yes i o l) .no (fun _ => .no) .no (fun _ _ _ _ _ => .no) .no (fun _ _ _ => .no) (fun _ _ => .no) (fun _ _ => .no) () (fun _ _ _ _ => ()) v
theorem asSlc_cases (v : SV) : (∃ i o l c es, v = .slc i o l c es ∧ asSlc v = .yes i o l) ∨ asSlc v = .no ∧ ∀ i o l c es, v ≠ .slc i o l c es := by
  cases v with
  | slc i o l c es => exact .inl ⟨i, o, l, c, es, rfl, rfl⟩
  | _ => exact .inr ⟨rfl, fun _ _ _ _ _ e => by cases e⟩
noncomputable def kiaddr (P : Program) (t : TypeId) : Q2W :=
  match P.underlying t with
  | some (.slice elem) => match szOf P elem with
    | some n => ⟨fun x ix => @IV.rec (fun _ => Option SV) none (fun _ i => @SlV.rec (fun _ => Option SV) none (fun id off len => @Bool.rec (fun _ => Option SV) none (natL (Nat.add off (Nat.mul i n)) fun o => some (.ptr id o)) (Nat.ble (Nat.add i 1) len)) (asSlc x)) (asInt ix)⟩
    | none => ⟨fun x ix => xindexAddr P t x ix⟩
  | _ => ⟨fun x ix => xindexAddr P t x ix⟩
theorem kiaddr_eq (P : Program) (t : TypeId) (x ix : SV) : (kiaddr P t).q x ix = xindexAddr P t x ix := by
  unfold kiaddr
  split
  · rename_i elem hu
    split
    · rename_i n hn
      show @IV.rec (fun _ => Option SV) none _ (asInt ix) = _
      cases hi : asInt ix with
      | nat g i =>
        obtain ⟨k, rfl, rfl⟩ := asInt_nat hi
        show @SlV.rec (fun _ => Option SV) none _ (asSlc x) = _
        rcases asSlc_cases x with ⟨id, off, len, c, es, rfl, e⟩ | ⟨e, hx⟩
        · rw [e]
          simp only [xindexAddr, natOf, hu, hn, natL_eq]
          have : Nat.ble (Nat.add i 1) len = Nat.blt i len := rfl
          rw [this]
          cases Nat.blt i len <;> rfl
        · rw [e]
          simp only [xindexAddr, natOf, hu]
      | no =>
        cases ix with
        | int k z =>
          cases z with
          | lit z => cases z with
            | ofNat m => cases hi
            | negSucc m => rfl
          | _ => rfl
        | _ => rfl
    · rfl
  · rfl
noncomputable def klen (P : Program) (t : TypeId) : QW :=
  match P.underlying t with
  | some (.slice _) => ⟨fun h v => @SlV.rec (fun _ => Option SV) (xlen P h t v) (fun _ _ n => some (.int .i64 (.lit (.ofNat n)))) (asSlc v)⟩
  | some .string => ⟨fun h v => @TV.rec (fun _ => Option SV) (xlen P h t v) (fun n _ => some (.int .i64 (.lit (.ofNat n)))) (asTxt v)⟩
  | _ => ⟨fun h v => xlen P h t v⟩
theorem klen_eq (P : Program) (t : TypeId) (h : T SObj) (v : SV) : (klen P t).q h v = xlen P h t v := by
  unfold klen
  split
  · rename_i e hu
    show @SlV.rec (fun _ => Option SV) _ _ (asSlc v) = _
    rcases asSlc_cases v with ⟨id, off, len, c, es, rfl, e⟩ | ⟨e, hx⟩
    · rw [e]; simp only [xlen, hu]
    · rw [e]
  · rename_i hu
    show @TV.rec (fun _ => Option SV) _ _ (asTxt v) = _
    cases ht : asTxt v with
    | no => rfl
    | lit n c =>
      have := asTxt_lit ht
      subst this
      simp only [xlen, hu]
  · rfl
/-! ### structs that are compared -/
inductive TB where
  | yes
  | no
  | dunno
noncomputable def tbOf (b : Bool) : TB := @Bool.rec (fun _ => TB) .no .yes b
structure EW where
  e : SV → SV → TB
noncomputable def eqBoolF (x y : SV) : TB := @BV.rec (fun _ => TB) .dunno (fun a => @BV.rec (fun _ => TB) .dunno (fun b => @Bool.rec (fun _ => TB) (@Bool.rec (fun _ => TB) .yes .no b) (@Bool.rec (fun _ => TB) .no .yes b) a) (fun _ => .dunno) (asBool y)) (fun _ => .dunno) (asBool x)
noncomputable def eqIntF (x y : SV) : TB := @IV.rec (fun _ => TB) .dunno (fun g a => @IV.rec (fun _ => TB) .dunno (fun g' b => @Bool.rec (fun _ => TB) .dunno (tbOf (Nat.beq a b)) (Nat.beq g g')) (asInt y)) (asInt x)
noncomputable def eqTxtF (x y : SV) : TB := @TV.rec (fun _ => TB) .dunno (fun n c => @TV.rec (fun _ => TB) .dunno (fun m d => tbOf (txtEq n c m d)) (asTxt y)) (asTxt x)
structure EFW where
  e : List SV → List SV → TB
noncomputable def keqFs (P : Program) (f : TypeId → EW) : List Field → EFW
  | [] => ⟨fun _ _ => .yes⟩
  | fd :: rest => match kpart P fd.type fd.offset with
    | some q => @EW.rec (fun _ => EFW) (fun e => @EFW.rec (fun _ => EFW) (fun er => ⟨fun xs ys => @Option.rec SV (fun _ => TB) .dunno (fun a => @Option.rec SV (fun _ => TB) .dunno (fun b => @TB.rec (fun _ => TB) (er xs ys) .no .dunno (e a b)) (q ys)) (q xs)⟩) (keqFs P f rest)) (f fd.type)
    | none => ⟨fun _ _ => .dunno⟩
noncomputable def keq (P : Program) : Nat → TypeId → EW
  | 0, _ => ⟨fun _ _ => .dunno⟩
  | d + 1, t => match P.underlying t with
    | some .bool => ⟨eqBoolF⟩
    | some (.int _) => ⟨eqIntF⟩
    | some .string => ⟨eqTxtF⟩
    | some (.struct fs) => match P.stoodInHeld t, plainFs fs with
      | false, true => @EFW.rec (fun _ => EW) (fun e => ⟨fun x y => @AggV.rec (fun _ => TB) .dunno (fun xs => @AggV.rec (fun _ => TB) .dunno (fun ys => e xs ys) (asAgg y)) (asAgg x)⟩) (keqFs P (keq P d) fs.toList)
      | _, _ => ⟨fun _ _ => .dunno⟩
    | _ => ⟨fun _ _ => .dunno⟩
def tbSaid : TB → Option BX → Prop
  | .yes, o => o = some (.lit true)
  | .no, o => o = some (.lit false)
  | .dunno, _ => True
theorem tbOf_said (b : Bool) : tbSaid (tbOf b) (some (.lit b)) := by cases b <;> rfl
theorem keqFs_ok {P : Program} {f : TypeId → EW} {g : TypeId → SV → SV → Option BX} (hf : ∀ t x y, tbSaid ((f t).e x y) (g t x y)) (xs ys : List SV) : ∀ (fs : List Field), tbSaid ((keqFs P f fs).e xs ys) (eqFs P g xs ys fs)
  | [] => rfl
  | fd :: rest => by
    have ih := keqFs_ok (P := P) hf xs ys rest
    unfold keqFs
    cases hk : kpart P fd.type fd.offset with
    | none => trivial
    | some q =>
      show tbSaid (@Option.rec SV (fun _ => TB) .dunno (fun a => @Option.rec SV (fun _ => TB) .dunno (fun b => @TB.rec (fun _ => TB) ((keqFs P f rest).e xs ys) .no .dunno ((f fd.type).e a b)) (q ys)) (q xs)) _
      simp only [eqFs, ← kpart_eq hk]
      cases hx : q xs with
      | none => trivial
      | some a =>
        cases hy : q ys with
        | none => trivial
        | some b =>
          have h := hf fd.type a b
          dsimp only
          cases he : (f fd.type).e a b with
          | dunno => trivial
          | no =>
            rw [he] at h
            have h : g fd.type a b = some (.lit false) := h
            rw [h]
            exact rfl
          | yes =>
            rw [he] at h
            have h : g fd.type a b = some (.lit true) := h
            rw [h]
            show tbSaid ((keqFs P f rest).e xs ys) _
            cases hr : (keqFs P f rest).e xs ys with
            | dunno => trivial
            | yes =>
              rw [hr] at ih
              have ih : eqFs P g xs ys rest = some (.lit true) := ih
              rw [ih]; rfl
            | no =>
              rw [hr] at ih
              have ih : eqFs P g xs ys rest = some (.lit false) := ih
              rw [ih]; rfl
theorem keq_ok (P : Program) : ∀ (d : Nat) (t : TypeId) (x y : SV), tbSaid ((keq P d t).e x y) (eqv P d t x y)
  | 0, _, _, _ => trivial
  | d + 1, t, x, y => by
    unfold keq eqv
    cases hu : P.underlying t with
    | none => trivial
    | some ds => cases ds with
      | bool =>
        show tbSaid (@BV.rec (fun _ => TB) .dunno (fun a => @BV.rec (fun _ => TB) .dunno (fun b => @Bool.rec (fun _ => TB) (@Bool.rec (fun _ => TB) .yes .no b) (@Bool.rec (fun _ => TB) .no .yes b) a) (fun _ => .dunno) (asBool y)) (fun _ => .dunno) (asBool x)) _
        cases h1 : asBool x with
        | no => trivial
        | sym z => trivial
        | lit a => cases h2 : asBool y with
          | no => trivial
          | sym z => trivial
          | lit b =>
            have := asBool_lit h1
            subst this
            have := asBool_lit h2
            subst this
            cases a <;> cases b <;> rfl
      | int k =>
        show tbSaid (@IV.rec (fun _ => TB) .dunno (fun g a => @IV.rec (fun _ => TB) .dunno (fun g' b => @Bool.rec (fun _ => TB) .dunno (tbOf (Nat.beq a b)) (Nat.beq g g')) (asInt y)) (asInt x)) _
        cases h1 : asInt x with
        | no => trivial
        | nat g a => cases h2 : asInt y with
          | no => trivial
          | nat g' b =>
            obtain ⟨k1, rfl, rfl⟩ := asInt_nat h1
            obtain ⟨k2, rfl, rfl⟩ := asInt_nat h2
            show tbSaid (@Bool.rec (fun _ => TB) .dunno (tbOf (Nat.beq a b)) (Nat.beq (tagOf k1) (tagOf k2))) _
            cases h3 : Nat.beq (tagOf k1) (tagOf k2) with
            | false => trivial
            | true =>
              have := tagOf_inj h3
              subst this
              have hk : decide (k1 = k1) = true := by simp
              simp only [hk, mkIeq, decide_beq]
              exact tbOf_said _
      | string =>
        show tbSaid (@TV.rec (fun _ => TB) .dunno (fun n c => @TV.rec (fun _ => TB) .dunno (fun m d => tbOf (txtEq n c m d)) (asTxt y)) (asTxt x)) _
        cases h1 : asTxt x with
        | no => trivial
        | lit n c => cases h2 : asTxt y with
          | no => trivial
          | lit m e =>
            have := asTxt_lit h1
            subst this
            have := asTxt_lit h2
            subst this
            simp only [txtEq_eq]
            exact tbOf_said _
      | struct fs =>
        dsimp only
        cases h1 : P.stoodInHeld t with
        | true => trivial
        | false => cases h2 : plainFs fs with
          | false => trivial
          | true =>
            show tbSaid (@AggV.rec (fun _ => TB) .dunno (fun xs => @AggV.rec (fun _ => TB) .dunno (fun ys => (keqFs P (keq P d) fs.toList).e xs ys) (asAgg y)) (asAgg x)) _
            rcases asAgg_cases x with ⟨xs, rfl, e⟩ | ⟨e, -⟩
            · rcases asAgg_cases y with ⟨ys, rfl, e'⟩ | ⟨e', -⟩
              · rw [e, e']
                exact keqFs_ok (fun t x y => keq_ok P d t x y) xs ys fs.toList
              · rw [e, e']; trivial
            · rw [e]; trivial
      | _ => trivial
/-- Comparing structs. -/
noncomputable def kbinS (P : Program) (op : BinOp) (t : TypeId) (cst : Bool) : Q2W :=
  match P.underlying t, P.eqGuardType P.depth t with
  | some (.struct _), false => match op with
    | .eql => @EW.rec (fun _ => Q2W) (fun e => ⟨fun u v => @AggV.rec (fun _ => Option SV) (xbin P .eql t cst u v) (fun _ => @AggV.rec (fun _ => Option SV) (xbin P .eql t cst u v) (fun _ => @TB.rec (fun _ => Option SV) (some (.bool (.lit true))) (some (.bool (.lit false))) (xbin P .eql t cst u v) (e u v)) (asAgg v)) (asAgg u)⟩) (keq P 30 t)
    | .neq => @EW.rec (fun _ => Q2W) (fun e => ⟨fun u v => @AggV.rec (fun _ => Option SV) (xbin P .neq t cst u v) (fun _ => @AggV.rec (fun _ => Option SV) (xbin P .neq t cst u v) (fun _ => @TB.rec (fun _ => Option SV) (some (.bool (.lit false))) (some (.bool (.lit true))) (xbin P .neq t cst u v) (e u v)) (asAgg v)) (asAgg u)⟩) (keq P 30 t)
    | op => ⟨fun u v => xbin P op t cst u v⟩
  | _, _ => kbin P op t cst
theorem kbinS_eq (P : Program) (op : BinOp) (t : TypeId) (cst : Bool) (u v : SV) : (kbinS P op t cst).q u v = xbin P op t cst u v := by
  unfold kbinS
  split
  · rename_i fs hu hg
    have hq := keq_ok P 30 t u v
    split
    · show @AggV.rec (fun _ => Option SV) (xbin P .eql t cst u v) (fun _ => @AggV.rec (fun _ => Option SV) (xbin P .eql t cst u v) (fun _ => @TB.rec (fun _ => Option SV) (some (.bool (.lit true))) (some (.bool (.lit false))) (xbin P .eql t cst u v) ((keq P 30 t).e u v)) (asAgg v)) (asAgg u) = _
      rcases asAgg_cases u with ⟨xs, rfl, e⟩ | ⟨e, -⟩
      · rcases asAgg_cases v with ⟨ys, rfl, e'⟩ | ⟨e', -⟩
        · rw [e, e']
          show @TB.rec (fun _ => Option SV) (some (.bool (.lit true))) (some (.bool (.lit false))) (xbin P .eql t cst (.agg xs) (.agg ys)) ((keq P 30 t).e (.agg xs) (.agg ys)) = _
          cases hb : (keq P 30 t).e (.agg xs) (.agg ys) with
          | dunno => rfl
          | yes =>
            rw [hb] at hq
            have hq : eqv P 30 t (.agg xs) (.agg ys) = some (.lit true) := hq
            simp only [xbin, hg, Bool.not_false, hq]
          | no =>
            rw [hb] at hq
            have hq : eqv P 30 t (.agg xs) (.agg ys) = some (.lit false) := hq
            simp only [xbin, hg, Bool.not_false, hq]
        · rw [e, e']
      · rw [e]
    · show @AggV.rec (fun _ => Option SV) (xbin P .neq t cst u v) (fun _ => @AggV.rec (fun _ => Option SV) (xbin P .neq t cst u v) (fun _ => @TB.rec (fun _ => Option SV) (some (.bool (.lit false))) (some (.bool (.lit true))) (xbin P .neq t cst u v) ((keq P 30 t).e u v)) (asAgg v)) (asAgg u) = _
      rcases asAgg_cases u with ⟨xs, rfl, e⟩ | ⟨e, -⟩
      · rcases asAgg_cases v with ⟨ys, rfl, e'⟩ | ⟨e', -⟩
        · rw [e, e']
          show @TB.rec (fun _ => Option SV) (some (.bool (.lit false))) (some (.bool (.lit true))) (xbin P .neq t cst (.agg xs) (.agg ys)) ((keq P 30 t).e (.agg xs) (.agg ys)) = _
          cases hb : (keq P 30 t).e (.agg xs) (.agg ys) with
          | dunno => rfl
          | yes =>
            rw [hb] at hq
            have hq : eqv P 30 t (.agg xs) (.agg ys) = some (.lit true) := hq
            simp only [xbin, hg, Bool.not_false, hq, mkNot]
            rfl
          | no =>
            rw [hb] at hq
            have hq : eqv P 30 t (.agg xs) (.agg ys) = some (.lit false) := hq
            simp only [xbin, hg, Bool.not_false, hq, mkNot]
        · rw [e, e']
      · rw [e]
    · rfl
  · exact kbin_eq P op t cst u v
/-! ### structs that are built -/
structure BW (β : Type) where
  b : Frame → List SV → (List SV → β) → β
def fillE (ev : Operand → Option SV) (place : Nat → Option (Nat × Nat)) : List (Nat × Operand) → List SV → Option (List SV)
  | [], cells => some cells
  | (i, x) :: l, cells => match place i, ev x with
    | some (off, size), some v => match Nat.beq (cellsOf v).length size with
      | true => fillE ev place l (cells.take off ++ (cellsOf v ++ cells.drop (off + (cellsOf v).length)))
      | false => none
    | _, _ => none
def fits (place : Nat → Option (Nat × Nat)) (N : Nat) : List (Nat × Operand) → Bool
  | [] => true
  | (i, _) :: l => (match place i with | some (off, size) => Nat.ble (off + size) N | none => false) && fits place N l
theorem fillE_ok {a : SAct} {place : Nat → Option (Nat × Nat)} {N : Nat} : ∀ {l : List (Nat × Operand)} {cells c : List SV}, fits place N l = true → cells.length = N → fillE a.ev place l cells = some c → ∃ ps, xparts a l = some ps ∧ xfill place cells ps = some c
  | [], cells, c, _, _, h => ⟨[], rfl, h⟩
  | (i, x) :: l, cells, c, hf, hl, h => by
    simp only [fits, Bool.and_eq_true] at hf
    simp only [fillE] at h
    split at h
    · rename_i off size v hp hv
      split at h
      · rename_i hb
        rw [hp] at hf
        have h1 := Nat.le_of_ble_eq_true hf.1
        have hs := Nat.eq_of_beq_eq_true hb
        have hle : Nat.ble (off + (cellsOf v).length) cells.length = true := Nat.ble_eq_true_of_le (by omega)
        obtain ⟨ps, p1, p2⟩ := fillE_ok hf.2 (by simp; omega) h
        refine ⟨(i, v) :: ps, by simp only [xparts, hv, p1], ?_⟩
        simp only [xfill, hp, hb, hle]
        exact p2
      · cases h
    · cases h
noncomputable def kfill (β : Type) (fail : β) (place : Nat → Option (Nat × Nat)) : List (Nat × Operand) → BW β
  | [] => ⟨fun _ cells k => k cells⟩
  | (i, x) :: l => match place i with
    | some (off, size) => @GW.rec (fun _ => BW β) (fun g => @BW.rec β (fun _ => BW β) (fun b => ⟨fun tm cells k => @Option.rec SV (fun _ => β) fail (fun v => @Bool.rec (fun _ => β) fail (lapp (cellsF v) (ldrop (Nat.add off (llen (cellsF v))) cells) fun m => lapp (ltake off cells) m fun cells' => b tm cells' k) (Nat.beq (llen (cellsF v)) size)) (g tm)⟩) (kfill β fail place l)) (gop x)
    | none => ⟨fun _ _ _ => fail⟩
theorem kfill_eq {β : Type} {fail : β} {place : Nat → Option (Nat × Nat)} (n : Nat) : ∀ (l : List (Nat × Operand)) (tm : Frame) (cells : List SV) (k : List SV → β), (kfill β fail place l).b tm cells k = match fillE (SAct.ev ⟨tm, n⟩) place l cells with | some c => k c | none => fail
  | [], tm, cells, k => rfl
  | (i, x) :: l, tm, cells, k => by
    simp only [kfill, fillE]
    cases hp : place i with
    | none => rfl
    | some os =>
      obtain ⟨off, size⟩ := os
      show @Option.rec SV (fun _ => β) fail (fun v => @Bool.rec (fun _ => β) fail (lapp (cellsF v) (ldrop (Nat.add off (llen (cellsF v))) cells) fun m => lapp (ltake off cells) m fun cells' => (kfill β fail place l).b tm cells' k) (Nat.beq (llen (cellsF v)) size)) ((gop x).g tm) = _
      rw [gop_ok x tm n]
      cases hv : SAct.ev ⟨tm, n⟩ x with
      | none => rfl
      | some v =>
        show @Bool.rec (fun _ => β) fail (lapp (cellsF v) (ldrop (Nat.add off (llen (cellsF v))) cells) fun m => lapp (ltake off cells) m fun cells' => (kfill β fail place l).b tm cells' k) (Nat.beq (llen (cellsF v)) size) = _
        rw [cellsF_eq, llen_eq, lapp_eq, lapp_eq, ltake_eq, ldrop_eq]
        dsimp only
        cases Nat.beq (cellsOf v).length size with
        | false => rfl
        | true => exact kfill_eq n l tm _ k
noncomputable def kbuildW (β : Type) (fail : β) (P : Program) (t : TypeId) (parts : List (Nat × Operand)) : Option (BW β × List SV) :=
  match xzero P t, P.underlying t with
  | some z, some (.struct fields) => match places P fields.toList with
    | some pl => match fits (fun i => pl[i]?) (cellsOf z).length parts with
      | true => some (kfill β fail (fun i => pl[i]?) parts, cellsOf z)
      | false => none
    | none => none
  | _, _ => none
theorem kbuildW_ok {β : Type} {fail : β} {P : Program} {t : TypeId} {parts : Array (Nat × Operand)} {b : BW β} {z : List SV} (h : kbuildW β fail P t parts.toList = some (b, z)) (n : Nat) (tm : Frame) (k : List SV → β) :
    b.b tm z k = fail ∨ ∃ c, xbuild P ⟨tm, n⟩ t parts = some (.agg c) ∧ b.b tm z k = k c := by
  unfold kbuildW at h
  split at h
  · rename_i z0 fields hz hu
    split at h
    · rename_i pl hpl
      split at h
      · rename_i hf
        cases h
        rw [kfill_eq n]
        cases he : fillE (SAct.ev ⟨tm, n⟩) (fun i => pl[i]?) parts.toList (cellsOf z0) with
        | none => exact .inl rfl
        | some c =>
          obtain ⟨ps, p1, p2⟩ := fillE_ok hf rfl he
          exact .inr ⟨c, by simp only [xbuild, hz, p1, hu, hpl, p2], rfl⟩
      · cases h
    · cases h
  · cases h
end Go.Sx
