/-
  A fast symbolic run (part 1): what a piece of code comes to, code as functions that are put together once.
-/
import Derived.Test.YthpgbehpchjohaaGreatDoorUfE
import Derived.Recover
namespace Go.Sx
set_option linter.unusedVariables false
set_option linter.unusedSimpArgs false
theorem rowAtF_eq (h : T SObj) (id off n : Nat) (k : List SV → Option SV) : rowAtF h id off n k = match h.get id with
    | some (.cells rows nr es ty opn ro) => match rows.get (off / es) with
      | some row => match Nat.ble (off % es + n) es with
        | true => k (row.drop (off % es))
        | false => none
      | none => none
    | _ => none := by
  unfold rowAtF
  rw [tget_eq]
  cases h.get id with
  | none => rfl
  | some ob => cases ob with
    | cells rows nr es ty opn ro =>
      have e1 : ∀ i, tget rows i = rows.get i := tget_eq rows
      have e2 : ∀ (i : Nat) (l : List SV), ldrop i l = l.drop i := ldrop_eq
      dsimp only
      rw [e1]
      have e3 : rows.get (Nat.div off es) = rows.get (off / es) := rfl
      rw [e3]
      cases rows.get (off / es) with
      | none => rfl
      | some row =>
        dsimp only
        rw [e2]
        have e4 : Nat.ble (Nat.add (Nat.mod off es) n) es = Nat.ble (off % es + n) es := rfl
        rw [e4]
        cases Nat.ble (off % es + n) es <;> rfl
    | _ => rfl
noncomputable def loadOne (h : T SObj) (v : SV) : Option SV :=
  @PtrV.rec (fun _ => Option SV) none (fun id off => rowAtF h id off 1 fun row => @List.rec SV (fun _ => Option SV) none (fun a _ _ => some a) row) (asPtr v)
noncomputable def loadAgg (n : Nat) (h : T SObj) (v : SV) : Option SV :=
  @PtrV.rec (fun _ => Option SV) none (fun id off => rowAtF h id off n fun row => some (.agg (ltake n row))) (asPtr v)
structure QW where
  q : T SObj → SV → Option SV
noncomputable def kload (P : Program) (t : TypeId) : QW :=
  match P.underlying t with
  | some d => match aggD d with
    | true => match szOf P t with
      | some n => ⟨fun h v => loadAgg n h v⟩
      | none => ⟨fun _ _ => none⟩
    | false => ⟨loadOne⟩
  | none => ⟨fun _ _ => none⟩
theorem kload_eq (P : Program) (t : TypeId) (h : T SObj) (v : SV) : (kload P t).q h v = xload P h t v := by
  unfold kload
  cases hu : P.underlying t with
  | none =>
    cases v <;> simp only [xload, hu]
  | some d =>
    cases ha : aggD d with
    | false =>
      simp only [ha]
      unfold loadOne
      rcases asPtr_cases v with ⟨i, o, rfl, e⟩ | ⟨e, hn⟩
      · rw [e]
        simp only [xload, hu, ha, readCells]
        rw [rowAtF_eq]
        cases h.get i with
        | none => rfl
        | some ob => cases ob with
          | cells rows nr es ty opn ro =>
            dsimp only
            cases rows.get (o / es) with
            | none => rfl
            | some row =>
              dsimp only
              cases Nat.ble (o % es + 1) es with
              | false => rfl
              | true =>
                dsimp only
                cases List.drop (o % es) row with
                | nil => rfl
                | cons a l => rfl
          | _ => rfl
      · rw [e]
        cases v <;> first | rfl | (rename_i i o; exact (hn i o rfl).elim)
    | true =>
      simp only [ha]
      cases hs : szOf P t with
      | none => cases v <;> simp only [xload, hu, ha, hs]
      | some n =>
        simp only
        unfold loadAgg
        rcases asPtr_cases v with ⟨i, o, rfl, e⟩ | ⟨e, hn⟩
        · rw [e]
          simp only [xload, hu, ha, hs, readCells]
          rw [rowAtF_eq]
          cases h.get i with
          | none => rfl
          | some ob => cases ob with
            | cells rows nr es ty opn ro =>
              dsimp only
              cases rows.get (o / es) with
              | none => rfl
              | some row =>
                dsimp only
                cases Nat.ble (o % es + n) es with
                | false => rfl
                | true =>
                  dsimp only
                  rw [ltake_eq]
            | _ => rfl
        · rw [e]
          cases v <;> first | rfl | (rename_i i o; exact (hn i o rfl).elim)
/-! ### stores -/
/-- A number, worked out. -/
noncomputable def natL {β : Type} (x : Nat) (k : Nat → β) : β := @Nat.rec (fun _ => β) (k 0) (fun m _ => k m) (Nat.add x 1)
theorem natL_eq {β : Type} (x : Nat) (k : Nat → β) : natL x k = k x := rfl
inductive AggV where
  | no
  | yes (cs : List SV)
noncomputable def asAgg (v : SV) : AggV := @SV.rec (fun _ => AggV) (fun _ => Unit) (fun _ => .no) (fun _ _ => .no) (fun _ => .no) .no (fun _ _ => .no) .no (fun _ _ _ _ _ => .no) .no (fun _ => .no) .no (fun _ _ _ _ _ => .no) .no (fun _ _ _ => .no) (fun cs _ => .yes cs) (fun _ _ => .no) (fun _ => .no) (fun _ => .no) () (fun _ _ _ _ => ()) v
noncomputable def cellsF (v : SV) : List SV := @AggV.rec (fun _ => List SV) [v] (fun cs => cs) (asAgg v)
theorem cellsF_eq (v : SV) : cellsF v = cellsOf v := by cases v <;> rfl
noncomputable def oneF (v : SV) : Bool := @SV.rec (fun _ => Bool) (fun _ => Unit) (fun _ => true) (fun _ _ => true) (fun _ => true) true (fun _ _ => true) true (fun _ _ _ _ _ => true) true (fun _ => true) true (fun _ _ _ _ _ => true) true (fun _ _ _ => true) (fun _ _ => false) (fun _ _ => false) (fun _ => true) (fun _ => true) () (fun _ _ _ _ => ()) v
theorem oneF_eq (v : SV) : oneF v = v.one := by cases v <;> rfl
noncomputable def onesF (l : List SV) : Bool := @List.rec SV (fun _ => Bool) true (fun a _ ih => @Bool.rec (fun _ => Bool) false ih (oneF a)) l
theorem onesF_eq : ∀ (l : List SV), onesF l = l.all SV.one
  | [] => rfl
  | a :: l => by
    show @Bool.rec (fun _ => Bool) false (onesF l) (oneF a) = _
    rw [List.all_cons, oneF_eq, onesF_eq l]
    cases a.one <;> rfl
noncomputable def storeF (s : St) (id off : Nat) (vs : List SV) (k : St → Res) : Res :=
  @St.rec (fun _ => Res) (fun h next asm resv => @Option.rec SObj (fun _ => Res) .fail (fun ob => @SObj.rec (fun _ => Res) .fail (fun rows nr es ty opn ro => @Bool.rec (fun _ => Res)
    (@Option.rec (List SV) (fun _ => Res) .fail (fun row => @Bool.rec (fun _ => Res) .fail (lapp vs (ldrop (Nat.add (Nat.mod off es) (llen vs)) row) fun m => lapp (ltake (Nat.mod off es) row) m fun row' => tput rows (Nat.div off es) row' fun rows' => tput h id (.cells rows' nr es ty opn false) fun h' => k ⟨h', next, asm, resv⟩) (Nat.ble (Nat.add (Nat.mod off es) (llen vs)) es)) (tget rows (Nat.div off es)))
    .fail ro) (fun _ _ => .fail) (fun _ _ _ _ => .fail) (fun _ _ => .fail) (fun _ => .fail) .fail ob) (tget h id)) s
theorem storeF_ok {s : St} {id off : Nat} {vs : List SV} {k : St → Res} {outs : List (SExit × Frame × St)} (hh : (storeF s id off vs k).outs = some outs) : ∃ h', writeCells s.h id off vs = some h' ∧ (k { s with h := h' }).outs = some outs := by
  obtain ⟨h, next, asm, resv⟩ := s
  have hh : (@Option.rec SObj (fun _ => Res) .fail (fun ob => @SObj.rec (fun _ => Res) .fail (fun rows nr es ty opn ro => @Bool.rec (fun _ => Res)
    (@Option.rec (List SV) (fun _ => Res) .fail (fun row => @Bool.rec (fun _ => Res) .fail (lapp vs (ldrop (Nat.add (Nat.mod off es) (llen vs)) row) fun m => lapp (ltake (Nat.mod off es) row) m fun row' => tput rows (Nat.div off es) row' fun rows' => tput h id (.cells rows' nr es ty opn false) fun h' => k ⟨h', next, asm, resv⟩) (Nat.ble (Nat.add (Nat.mod off es) (llen vs)) es)) (tget rows (Nat.div off es)))
    .fail ro) (fun _ _ => .fail) (fun _ _ _ _ => .fail) (fun _ _ => .fail) (fun _ => .fail) .fail ob) (tget h id)).outs = some outs := hh
  rw [tget_eq] at hh
  simp only [writeCells]
  cases hg : h.get id with
  | none => rw [hg] at hh; cases hh
  | some ob => cases ob with
    | cells rows nr es ty opn ro =>
      rw [hg] at hh
      cases ro with
      | true => cases hh
      | false =>
        have hh : (@Option.rec (List SV) (fun _ => Res) .fail (fun row => @Bool.rec (fun _ => Res) .fail (lapp vs (ldrop (Nat.add (Nat.mod off es) (llen vs)) row) fun m => lapp (ltake (Nat.mod off es) row) m fun row' => tput rows (Nat.div off es) row' fun rows' => tput h id (.cells rows' nr es ty opn false) fun h' => k ⟨h', next, asm, resv⟩) (Nat.ble (Nat.add (Nat.mod off es) (llen vs)) es)) (tget rows (Nat.div off es))).outs = some outs := hh
        rw [tget_eq] at hh
        dsimp only
        have e0 : rows.get (Nat.div off es) = rows.get (off / es) := rfl
        rw [e0] at hh
        cases hr : rows.get (off / es) with
        | none => rw [hr] at hh; cases hh
        | some row =>
          rw [hr] at hh
          have hh : (@Bool.rec (fun _ => Res) .fail (lapp vs (ldrop (Nat.add (Nat.mod off es) (llen vs)) row) fun m => lapp (ltake (Nat.mod off es) row) m fun row' => tput rows (Nat.div off es) row' fun rows' => tput h id (.cells rows' nr es ty opn false) fun h' => k ⟨h', next, asm, resv⟩) (Nat.ble (Nat.add (Nat.mod off es) (llen vs)) es)).outs = some outs := hh
          rw [llen_eq] at hh
          have e1 : Nat.ble (Nat.add (Nat.mod off es) vs.length) es = Nat.ble (off % es + vs.length) es := rfl
          rw [e1] at hh
          dsimp only
          cases hb : Nat.ble (off % es + vs.length) es with
          | false => rw [hb] at hh; cases hh
          | true =>
            rw [hb] at hh
            have hh : (lapp vs (ldrop (Nat.add (Nat.mod off es) vs.length) row) fun m => lapp (ltake (Nat.mod off es) row) m fun row' => tput rows (Nat.div off es) row' fun rows' => tput h id (.cells rows' nr es ty opn false) fun h' => k ⟨h', next, asm, resv⟩).outs = some outs := hh
            rw [lapp_eq, lapp_eq, tput_eq, tput_eq, ltake_eq, ldrop_eq] at hh
            exact ⟨_, rfl, hh⟩
    | _ => rw [hg] at hh; cases hh
noncomputable def boxF (s : St) (cs : List SV) (t : TypeId) (k : SV → St → Res) : Res :=
  @St.rec (fun _ => Res) (fun h next asm resv => natL (llen cs) fun len => natL (Nat.add next 1) fun next' => tput h next (.cells (.node .nil (some cs) .nil) 1 len t false false) fun h' => k (.ptr next 0) ⟨h', next', asm, resv⟩) s
theorem boxF_eq (s : St) (cs : List SV) (t : TypeId) (k : SV → St → Res) : boxF s cs t k = k (newVar s cs t).1 (newVar s cs t).2 := by
  obtain ⟨h, next, asm, resv⟩ := s
  show (natL (llen cs) fun len => natL (Nat.add next 1) fun next' => tput h next (.cells (.node .nil (some cs) .nil) 1 len t false false) fun h' => k (.ptr next 0) ⟨h', next', asm, resv⟩) = _
  rw [natL_eq, natL_eq, tput_eq, llen_eq]
  rfl
/-! ### ways -/
noncomputable def stA (s : St) (asm : Asm) (k : St → Res) : Res := @St.rec (fun _ => Res) (fun h next _ resv => @List.rec (BX × Bool) (fun _ => Res) (k ⟨h, next, [], resv⟩) (fun a l _ => k ⟨h, next, a :: l, resv⟩) asm) s
theorem stA_eq (s : St) (asm : Asm) (k : St → Res) : stA s asm k = k ⟨s.h, s.next, asm, s.resv⟩ := by
  obtain ⟨h, next, a, resv⟩ := s
  cases asm <;> rfl
noncomputable def oneWay (s : St) (f q : St → Res) (p : Bool × Asm) : Res := @Prod.rec Bool Asm (fun _ => Res) (fun b asm => @Bool.rec (fun _ => Res) (stA s asm q) (stA s asm f) b) p
theorem oneWay_eq (s : St) (f q : St → Res) (p : Bool × Asm) : oneWay s f q p = match p.1 with | true => f ⟨s.h, s.next, p.2, s.resv⟩ | false => q ⟨s.h, s.next, p.2, s.resv⟩ := by
  obtain ⟨b, asm⟩ := p
  cases b
  · exact stA_eq s asm q
  · exact stA_eq s asm f
noncomputable def splitWays (l : List (Bool × Asm)) (s : St) (f q : St → Res) : Res :=
  match l with
  | [p] => oneWay s f q p
  | l => ofMany (bindL l fun p => (oneWay s f q p).outs)
theorem splitWays_outs {l : List (Bool × Asm)} {s : St} {f q : St → Res} {outs : List (SExit × Frame × St)} (h : (splitWays l s f q).outs = some outs) : ∀ p ∈ l, ∃ ys, (match p.1 with | true => f ⟨s.h, s.next, p.2, s.resv⟩ | false => q ⟨s.h, s.next, p.2, s.resv⟩).outs = some ys ∧ ∀ y ∈ ys, y ∈ outs := by
  unfold splitWays at h
  intro p hp
  split at h
  · rename_i p0
    rw [oneWay_eq] at h
    rw [List.mem_singleton.1 hp]
    exact ⟨outs, h, fun y hy => hy⟩
  · rw [ofMany_outs] at h
    obtain ⟨ys, h1, h2⟩ := bindL_mem h hp
    rw [oneWay_eq] at h1
    exact ⟨ys, h1, h2⟩
/-- Values and states, one or many. -/
noncomputable def eachOut (l : List (SV × St)) (k : SV → St → Res) : Res :=
  match l with
  | [q] => forceS q.2 fun s' => k q.1 s'
  | l => ofMany (bindL l fun q => (k q.1 q.2).outs)
theorem eachOut_outs {l : List (SV × St)} {k : SV → St → Res} {outs : List (SExit × Frame × St)} (h : (eachOut l k).outs = some outs) : ∀ q ∈ l, ∃ ys, (k q.1 q.2).outs = some ys ∧ ∀ y ∈ ys, y ∈ outs := by
  unfold eachOut at h
  intro p hp
  split at h
  · rename_i q
    rw [forceS_eq] at h
    rw [List.mem_singleton.1 hp]
    exact ⟨outs, h, fun y hy => hy⟩
  · rw [ofMany_outs] at h
    obtain ⟨ys, h1, h2⟩ := bindL_mem h hp
    exact ⟨ys, h1, h2⟩
end Go.Sx
/-
  A fast symbolic run (part 2): the values of single operations, by recursors.
-/
namespace Go.Sx
set_option linter.unusedVariables false
set_option linter.unusedSimpArgs false
/-! ### numbers -/
inductive IV where
  | no
  | nat (tag n : Nat)
noncomputable def tagOf (k : IntKind) : Nat := @IntKind.rec (fun _ => Nat) 0 1 2 3 4 5 6 7 k
theorem tagOf_inj {k l : IntKind} (h : Nat.beq (tagOf k) (tagOf l) = true) : k = l := by
  cases k <;> cases l <;> first | rfl | (cases h; done)
noncomputable def asIntX (k : IntKind) (x : IX) : IV := @IX.rec (fun _ => IV) (fun z => @Int.rec (fun _ => IV) (fun n => .nat (tagOf k) n) (fun _ => .no) z) (fun _ => .no) (fun _ _ _ _ _ _ => .no) (fun _ => .no) x
noncomputable def asInt (v : SV) : IV := @SV.rec (fun _ => IV) (fun _ => Unit) (fun _ => .no) asIntX (fun _ => .no) .no (fun _ _ => .no) .no (fun _ _ _ _ _ => .no) .no (fun _ => .no) .no (fun _ _ _ _ _ => .no) .no (fun _ _ _ => .no) (fun _ _ => .no) (fun _ _ => .no) (fun _ => .no) (fun _ => .no) () (fun _ _ _ _ => ()) v
theorem asInt_nat {v : SV} {t n : Nat} (h : asInt v = .nat t n) : ∃ k, v = .int k (.lit (.ofNat n)) ∧ t = tagOf k := by
  cases v with
  | int k x =>
    cases x with
    | lit z => cases z with
      | ofNat m => cases h; exact ⟨k, rfl, rfl⟩
      | negSucc m => cases h
    | _ => cases h
  | _ => cases h
/-- What a comparison of two numbers comes to. -/
structure NCmp where
  c : Nat → Nat → Bool
noncomputable def notF (b : Bool) : Bool := @Bool.rec (fun _ => Bool) true false b
def ncmp : BinOp → Option NCmp
  | .eql => some ⟨fun a b => Nat.beq a b⟩
  | .neq => some ⟨fun a b => not (Nat.beq a b)⟩
  | .lss => some ⟨fun a b => Nat.ble (Nat.add a 1) b⟩
  | .leq => some ⟨fun a b => Nat.ble a b⟩
  | .gtr => some ⟨fun a b => Nat.ble (Nat.add b 1) a⟩
  | .geq => some ⟨fun a b => Nat.ble b a⟩
  | _ => none
theorem decide_beq (a b : Nat) : decide ((Int.ofNat a) = Int.ofNat b) = Nat.beq a b := by
  rw [Bool.eq_iff_iff, decide_eq_true_eq, Nat.beq_eq]
  exact ⟨Int.ofNat.inj, congrArg _⟩
theorem decide_blt (a b : Nat) : decide ((Int.ofNat a) < Int.ofNat b) = Nat.ble (Nat.add a 1) b := by
  rw [Bool.eq_iff_iff, decide_eq_true_eq, Nat.ble_eq]
  show ((a : Int) < (b : Int)) ↔ a + 1 ≤ b
  omega
theorem decide_ble (a b : Nat) : (!(Nat.ble (Nat.add b 1) a)) = Nat.ble a b := by
  rw [Bool.eq_iff_iff, Bool.not_eq_true', ← Bool.not_eq_true, Nat.ble_eq, Nat.ble_eq]
  show ¬ (b + 1 ≤ a) ↔ a ≤ b
  omega
theorem ncmp_ok {op : BinOp} {c : NCmp} (h : ncmp op = some c) (P : Program) (t : TypeId) (cst : Bool) (k : IntKind) (a b : Nat) :
    xbin P op t cst (.int k (.lit (.ofNat a))) (.int k (.lit (.ofNat b))) = some (.bool (.lit (c.c a b))) := by
  cases op <;> cases h <;> simp only [xbin, decide_true, isArith, cmpI, mkIeq, mkIlt, mkNot, decide_beq, decide_blt, decide_ble]
/-- Sums, differences and products that are small enough. -/
noncomputable def narith : BinOp → Option (Nat → Nat → Nat)
  | .add => some fun a b => Nat.add a b
  | .mul => some fun a b => Nat.mul a b
  | _ => none
theorem wrap_small {n : Nat} (h : n ≤ 9223372036854775807) : IntKind.i64.wrap (n : Int) = n := wrap_nat h
theorem narith_ok {op : BinOp} {f : Nat → Nat → Nat} (h : narith op = some f) (P : Program) (t : TypeId) (cst : Bool) (a b : Nat) (hb : Nat.ble (f a b) 9223372036854775807 = true) :
    xbin P op t cst (.int .i64 (.lit (.ofNat a))) (.int .i64 (.lit (.ofNat b))) = some (.int .i64 (.lit (.ofNat (f a b)))) := by
  cases op <;> cases h
  · have hb : a + b ≤ 9223372036854775807 := Nat.le_of_ble_eq_true hb
    have : intBin .add .i64 (Int.ofNat a) (Int.ofNat b) = some (Int.ofNat (a + b)) := by
      simp only [intBin]
      have e : (Int.ofNat a + Int.ofNat b : Int) = ((a + b : Nat) : Int) := rfl
      rw [e, wrap_small hb]; rfl
    simp only [xbin, isArith, mkBin, this]
    rfl
  · have hb : a * b ≤ 9223372036854775807 := Nat.le_of_ble_eq_true hb
    have : intBin .mul .i64 (Int.ofNat a) (Int.ofNat b) = some (Int.ofNat (a * b)) := by
      simp only [intBin]
      have e : (Int.ofNat a * Int.ofNat b : Int) = ((a * b : Nat) : Int) := rfl
      rw [e, wrap_small hb]; rfl
    simp only [xbin, isArith, mkBin, this]
    rfl
theorem nsub_ok (P : Program) (t : TypeId) (cst : Bool) (a b : Nat) (hab : Nat.ble b a = true) (hb : Nat.ble a 9223372036854775807 = true) :
    xbin P .sub t cst (.int .i64 (.lit (.ofNat a))) (.int .i64 (.lit (.ofNat b))) = some (.int .i64 (.lit (.ofNat (a - b)))) := by
  have hab := Nat.le_of_ble_eq_true hab
  have hb := Nat.le_of_ble_eq_true hb
  have : intBin .sub .i64 (Int.ofNat a) (Int.ofNat b) = some (Int.ofNat (a - b)) := by
    simp only [intBin]
    have e : (Int.ofNat a - Int.ofNat b : Int) = ((a - b : Nat) : Int) := by simp; omega
    rw [e, wrap_small (by omega)]; rfl
  simp only [xbin, isArith, mkBin, this]
  rfl
/-! ### texts -/
inductive TV where
  | no
  | lit (n c : Nat)
noncomputable def asTxtX (s : SX) : TV := @SX.rec (fun _ => TV) (fun n c => .lit n c) (fun _ => .no) (fun _ _ _ _ => .no) s
noncomputable def asTxt (v : SV) : TV := @SV.rec (fun _ => TV) (fun _ => Unit) (fun _ => .no) (fun _ _ => .no) asTxtX .no (fun _ _ => .no) .no (fun _ _ _ _ _ => .no) .no (fun _ => .no) .no (fun _ _ _ _ _ => .no) .no (fun _ _ _ => .no) (fun _ _ => .no) (fun _ _ => .no) (fun _ => .no) (fun _ => .no) () (fun _ _ _ _ => ()) v
theorem asTxt_lit {v : SV} {n c : Nat} (h : asTxt v = .lit n c) : v = .str (.lit n c) := by
  cases v with
  | str s => cases s <;> cases h; rfl
  | _ => cases h
noncomputable def txtEq (n c m d : Nat) : Bool := @Bool.rec (fun _ => Bool) false (Nat.beq (Nat.mod c (Nat.pow 256 n)) (Nat.mod d (Nat.pow 256 n))) (Nat.beq n m)
theorem txtEq_eq (n c m d : Nat) : mkSeq (.lit n c) (.lit m d) = .lit (txtEq n c m d) := by
  simp only [mkSeq, txtEq]
  cases Nat.beq n m <;> rfl
/-! ### two operands -/
noncomputable def bin0 (P : Program) (op : BinOp) (t : TypeId) (cst : Bool) (u v : SV) : Option SV := xbin P op t cst u v
structure Q2W where
  q : SV → SV → Option SV
noncomputable def kbin (P : Program) (op : BinOp) (t : TypeId) (cst : Bool) : Q2W :=
  match ncmp op with
  | some c => @NCmp.rec (fun _ => Q2W) (fun c => match op with
    | .eql => ⟨fun u v => @IV.rec (fun _ => Option SV) (@TV.rec (fun _ => Option SV) (xbin P op t cst u v) (fun n c => @TV.rec (fun _ => Option SV) (xbin P op t cst u v) (fun m d => some (.bool (.lit (txtEq n c m d)))) (asTxt v)) (asTxt u)) (fun g a => @IV.rec (fun _ => Option SV) (xbin P op t cst u v) (fun g' b => @Bool.rec (fun _ => Option SV) (xbin P op t cst u v) (some (.bool (.lit (c a b)))) (Nat.beq g g')) (asInt v)) (asInt u)⟩
    | .neq => ⟨fun u v => @IV.rec (fun _ => Option SV) (@TV.rec (fun _ => Option SV) (xbin P op t cst u v) (fun n c => @TV.rec (fun _ => Option SV) (xbin P op t cst u v) (fun m d => some (.bool (.lit (not (txtEq n c m d))))) (asTxt v)) (asTxt u)) (fun g a => @IV.rec (fun _ => Option SV) (xbin P op t cst u v) (fun g' b => @Bool.rec (fun _ => Option SV) (xbin P op t cst u v) (some (.bool (.lit (c a b)))) (Nat.beq g g')) (asInt v)) (asInt u)⟩
    | _ => ⟨fun u v => @IV.rec (fun _ => Option SV) (xbin P op t cst u v) (fun g a => @IV.rec (fun _ => Option SV) (xbin P op t cst u v) (fun g' b => @Bool.rec (fun _ => Option SV) (xbin P op t cst u v) (some (.bool (.lit (c a b)))) (Nat.beq g g')) (asInt v)) (asInt u)⟩) c
  | none => match op with
    | .add => ⟨fun u v => @IV.rec (fun _ => Option SV) (xbin P op t cst u v) (fun g a => @IV.rec (fun _ => Option SV) (xbin P op t cst u v) (fun g' b => @Bool.rec (fun _ => Option SV) (xbin P op t cst u v) (@Bool.rec (fun _ => Option SV) (xbin P op t cst u v) (natL (Nat.add a b) fun r => @Bool.rec (fun _ => Option SV) (xbin P op t cst u v) (some (.int .i64 (.lit (.ofNat r)))) (Nat.ble r 9223372036854775807)) (Nat.beq g' 3)) (Nat.beq g 3)) (asInt v)) (asInt u)⟩
    | .mul => ⟨fun u v => @IV.rec (fun _ => Option SV) (xbin P op t cst u v) (fun g a => @IV.rec (fun _ => Option SV) (xbin P op t cst u v) (fun g' b => @Bool.rec (fun _ => Option SV) (xbin P op t cst u v) (@Bool.rec (fun _ => Option SV) (xbin P op t cst u v) (natL (Nat.mul a b) fun r => @Bool.rec (fun _ => Option SV) (xbin P op t cst u v) (some (.int .i64 (.lit (.ofNat r)))) (Nat.ble r 9223372036854775807)) (Nat.beq g' 3)) (Nat.beq g 3)) (asInt v)) (asInt u)⟩
    | .sub => ⟨fun u v => @IV.rec (fun _ => Option SV) (xbin P op t cst u v) (fun g a => @IV.rec (fun _ => Option SV) (xbin P op t cst u v) (fun g' b => @Bool.rec (fun _ => Option SV) (xbin P op t cst u v) (@Bool.rec (fun _ => Option SV) (xbin P op t cst u v) (@Bool.rec (fun _ => Option SV) (xbin P op t cst u v) (natL (Nat.sub a b) fun r => @Bool.rec (fun _ => Option SV) (xbin P op t cst u v) (some (.int .i64 (.lit (.ofNat r)))) (Nat.ble a 9223372036854775807)) (Nat.ble b a)) (Nat.beq g' 3)) (Nat.beq g 3)) (asInt v)) (asInt u)⟩
    | _ => ⟨fun u v => xbin P op t cst u v⟩
theorem tag3 {k : IntKind} (h : Nat.beq (tagOf k) 3 = true) : k = .i64 := by cases k <;> first | rfl | (cases h; done)
theorem kbin_eq (P : Program) (op : BinOp) (t : TypeId) (cst : Bool) (u v : SV) : (kbin P op t cst).q u v = xbin P op t cst u v := by
  -- a comparison of numbers
  have cmp : ∀ {c : NCmp}, ncmp op = some c → ∀ {g a : Nat}, asInt u = .nat g a → (@IV.rec (fun _ => Option SV) (xbin P op t cst u v) (fun g' b => @Bool.rec (fun _ => Option SV) (xbin P op t cst u v) (some (.bool (.lit (c.c a b)))) (Nat.beq g g')) (asInt v)) = xbin P op t cst u v := fun {c} hc {g a} hu => by
    cases hv : asInt v with
    | no => rfl
    | nat g' b =>
      show @Bool.rec (fun _ => Option SV) (xbin P op t cst u v) (some (.bool (.lit (c.c a b)))) (Nat.beq g g') = _
      obtain ⟨k, rfl, rfl⟩ := asInt_nat hu
      obtain ⟨k', rfl, rfl⟩ := asInt_nat hv
      cases hb : Nat.beq (tagOf k) (tagOf k') with
      | false => rfl
      | true =>
        have := tagOf_inj hb
        subst this
        exact (ncmp_ok hc P t cst k a b).symm
  unfold kbin
  cases hc : ncmp op with
  | some c =>
    obtain ⟨cf⟩ := c
    dsimp only
    split
    · show @IV.rec (fun _ => Option SV) _ _ (asInt u) = _
      cases hu : asInt u with
      | nat g a => exact cmp hc hu
      | no =>
        show @TV.rec (fun _ => Option SV) _ _ (asTxt u) = _
        cases h1 : asTxt u with
        | no => rfl
        | lit n c =>
          show @TV.rec (fun _ => Option SV) _ _ (asTxt v) = _
          cases h2 : asTxt v with
          | no => rfl
          | lit m d =>
            have := asTxt_lit h1
            subst this
            have := asTxt_lit h2
            subst this
            simp only [xbin, strOp, txtEq_eq]
    · show @IV.rec (fun _ => Option SV) _ _ (asInt u) = _
      cases hu : asInt u with
      | nat g a => exact cmp hc hu
      | no =>
        show @TV.rec (fun _ => Option SV) _ _ (asTxt u) = _
        cases h1 : asTxt u with
        | no => rfl
        | lit n c =>
          show @TV.rec (fun _ => Option SV) _ _ (asTxt v) = _
          cases h2 : asTxt v with
          | no => rfl
          | lit m d =>
            have := asTxt_lit h1
            subst this
            have := asTxt_lit h2
            subst this
            simp only [xbin, strOp, txtEq_eq, mkNot]
    · show @IV.rec (fun _ => Option SV) _ _ (asInt u) = _
      cases hu : asInt u with
      | nat g a => exact cmp hc hu
      | no => rfl
  | none =>
    dsimp only
    have ar : ∀ {f : Nat → Nat → Nat}, narith op = some f → (@IV.rec (fun _ => Option SV) (xbin P op t cst u v) (fun g a => @IV.rec (fun _ => Option SV) (xbin P op t cst u v) (fun g' b => @Bool.rec (fun _ => Option SV) (xbin P op t cst u v) (@Bool.rec (fun _ => Option SV) (xbin P op t cst u v) (natL (f a b) fun r => @Bool.rec (fun _ => Option SV) (xbin P op t cst u v) (some (.int .i64 (.lit (.ofNat r)))) (Nat.ble r 9223372036854775807)) (Nat.beq g' 3)) (Nat.beq g 3)) (asInt v)) (asInt u)) = xbin P op t cst u v := fun {f} hf => by
      cases hu : asInt u with
      | no => rfl
      | nat g a =>
        cases hv : asInt v with
        | no => rfl
        | nat g' b =>
          obtain ⟨k, rfl, rfl⟩ := asInt_nat hu
          obtain ⟨k', rfl, rfl⟩ := asInt_nat hv
          dsimp only
          cases h1 : Nat.beq (tagOf k) 3 with
          | false => rfl
          | true =>
            cases h2 : Nat.beq (tagOf k') 3 with
            | false => rfl
            | true =>
              have := tag3 h1
              subst this
              have := tag3 h2
              subst this
              rw [natL_eq]
              cases h3 : Nat.ble (f a b) 9223372036854775807 with
              | false => rfl
              | true => exact (narith_ok hf P t cst a b h3).symm
    split
    · exact ar (f := fun a b => Nat.add a b) rfl
    · exact ar (f := fun a b => Nat.mul a b) rfl
    · dsimp only
      cases hu : asInt u with
      | no => rfl
      | nat g a =>
        cases hv : asInt v with
        | no => rfl
        | nat g' b =>
          obtain ⟨k, rfl, rfl⟩ := asInt_nat hu
          obtain ⟨k', rfl, rfl⟩ := asInt_nat hv
          dsimp only
          cases h1 : Nat.beq (tagOf k) 3 with
          | false => rfl
          | true =>
            cases h2 : Nat.beq (tagOf k') 3 with
            | false => rfl
            | true =>
              have := tag3 h1
              subst this
              have := tag3 h2
              subst this
              cases h3 : Nat.ble b a with
              | false => rfl
              | true =>
                rw [natL_eq]
                cases h4 : Nat.ble a 9223372036854775807 with
                | false => rfl
                | true => exact (nsub_ok P t cst a b h3 h4).symm
    · rfl
/-! ### parts of structs, addresses -/
structure Q1W where
  q : SV → Option SV
noncomputable def kfaddr (P : Program) (t : TypeId) (f : Nat) : Q1W :=
  match P.underlying t with
  | some (.struct fields) => match fields[f]? with
    | some fd => match szOf P fd.type with
      | some (n + 1) => ⟨fun v => @PtrV.rec (fun _ => Option SV) none (fun id off => some (.ptr id (Nat.add off fd.offset))) (asPtr v)⟩
      | _ => ⟨fun _ => none⟩
    | none => ⟨fun _ => none⟩
  | _ => ⟨fun _ => none⟩
theorem kfaddr_eq (P : Program) (t : TypeId) (f : Nat) (v : SV) : (kfaddr P t f).q v = xfieldAddr P t v f := by
  rcases asPtr_cases v with ⟨i, o, rfl, e⟩ | ⟨e, hn⟩
  · unfold kfaddr
    simp only [xfieldAddr]
    cases P.underlying t with
    | none => rfl
    | some d => cases d with
      | struct fields =>
        dsimp only
        cases fields[f]? with
        | none => rfl
        | some fd =>
          dsimp only
          cases szOf P fd.type with
          | none => rfl
          | some n => cases n <;> rfl
      | _ => rfl
  · have e2 : xfieldAddr P t v f = none := by
      cases v <;> first | rfl | (rename_i i o; exact (hn i o rfl).elim)
    rw [e2]
    unfold kfaddr
    cases P.underlying t with
    | none => rfl
    | some d => cases d with
      | struct fields =>
        dsimp only
        cases fields[f]? with
        | none => rfl
        | some fd =>
          dsimp only
          cases szOf P fd.type with
          | none => rfl
          | some n => cases n with
            | zero => rfl
            | succ n => show @PtrV.rec (fun _ => Option SV) none _ (asPtr v) = none; rw [e]
      | _ => rfl
noncomputable def kpart (P : Program) (t : TypeId) (off : Nat) : Option (List SV → Option SV) :=
  match P.underlying t with
  | some d => match aggD d with
    | true => match szOf P t with
      | some n => some fun cs => some (.agg (ltake n (ldrop off cs)))
      | none => none
    | false => some fun cs => lnth cs off
  | none => none
theorem kpart_eq {P : Program} {t : TypeId} {off : Nat} {f : List SV → Option SV} (h : kpart P t off = some f) (cs : List SV) : f cs = xpart P t cs off := by
  unfold kpart at h
  unfold xpart
  split at h
  · rename_i d hd
    rw [hd]
    dsimp only
    split at h
    · rename_i ha
      split at h
      · rename_i n hn
        cases h
        simp only [ha, hn, ltake_eq, ldrop_eq]
      · cases h
    · rename_i ha
      cases h
      simp only [ha, lnth_eq]
  · cases h
noncomputable def kfield (P : Program) (t : TypeId) (f : Nat) : Q1W :=
  match P.underlying t with
  | some (.struct fields) => match fields[f]? with
    | some fd => match kpart P fd.type fd.offset with
      | some q => ⟨fun v => @AggV.rec (fun _ => Option SV) none (fun cs => q cs) (asAgg v)⟩
      | none => ⟨fun v => xfield P t v f⟩
    | none => ⟨fun _ => none⟩
  | _ => ⟨fun _ => none⟩
theorem asAgg_cases (v : SV) : (∃ cs, v = .agg cs ∧ asAgg v = .yes cs) ∨ asAgg v = .no ∧ ∀ cs, v ≠ .agg cs := by
  cases v with
  | agg cs => exact .inl ⟨cs, rfl, rfl⟩
  | _ => exact .inr ⟨rfl, fun cs e => by cases e⟩
theorem kfield_eq (P : Program) (t : TypeId) (f : Nat) (v : SV) : (kfield P t f).q v = xfield P t v f := by
  unfold kfield
  rcases asAgg_cases v with ⟨cs, rfl, e⟩ | ⟨e, hn⟩
  · cases hu : P.underlying t with
    | none => simp only [xfield, hu]
    | some d => cases d with
      | struct fields =>
        dsimp only
        cases hf : fields[f]? with
        | none => simp only [xfield, hu, hf]
        | some fd =>
          dsimp only
          cases hk : kpart P fd.type fd.offset with
          | none => rfl
          | some q => simp only [xfield, hu, hf]; exact kpart_eq hk cs
      | _ => simp only [xfield, hu]
  · have e2 : xfield P t v f = none := by
      cases v <;> first | rfl | (rename_i cs; exact (hn cs rfl).elim)
    cases hu : P.underlying t with
    | none => rw [e2]
    | some d => cases d with
      | struct fields =>
        dsimp only
        cases hf : fields[f]? with
        | none => rw [e2]
        | some fd =>
          dsimp only
          cases hk : kpart P fd.type fd.offset with
          | none => rfl
          | some q => show @AggV.rec (fun _ => Option SV) none _ (asAgg v) = _; rw [e, e2]
      | _ => rw [e2]
inductive SlV where
  | no
  | yes (id off len : Nat)
noncomputable def asSlc (v : SV) : SlV := @SV.rec (fun _ => SlV) (fun _ => Unit) (fun _ => .no) (fun _ _ => .no) (fun _ => .no) .no (fun _ _ => .no) .no (fun i o l _ _ => .yes i o l) .no (fun _ => .no) .no (fun _ _ _ _ _ => .no) .no (fun _ _ _ => .no) (fun _ _ => .no) (fun _ _ => .no) (fun _ => .no) (fun _ => .no) () (fun _ _ _ _ => ()) v
theorem asSlc_cases (v : SV) : (∃ i o l c es, v = .slc i o l c es ∧ asSlc v = .yes i o l) ∨ asSlc v = .no ∧ ∀ i o l c es, v ≠ .slc i o l c es := by
  cases v with
  | slc i o l c es => exact .inl ⟨i, o, l, c, es, rfl, rfl⟩
  | _ => exact .inr ⟨rfl, fun _ _ _ _ _ e => by cases e⟩
noncomputable def kiaddr (P : Program) (t : TypeId) : Q2W :=
  match P.underlying t with
  | some (.slice elem) => match szOf P elem with
    | some n => ⟨fun x ix => @IV.rec (fun _ => Option SV) none (fun _ i => @SlV.rec (fun _ => Option SV) none (fun id off len => @Bool.rec (fun _ => Option SV) none (natL (Nat.add off (Nat.mul i n)) fun o => some (.ptr id o)) (Nat.ble (Nat.add i 1) len)) (asSlc x)) (asInt ix)⟩
    | none => ⟨fun x ix => xindexAddr P t x ix⟩
  | _ => ⟨fun x ix => xindexAddr P t x ix⟩
theorem kiaddr_eq (P : Program) (t : TypeId) (x ix : SV) : (kiaddr P t).q x ix = xindexAddr P t x ix := by
  unfold kiaddr
  split
  · rename_i elem hu
    split
    · rename_i n hn
      show @IV.rec (fun _ => Option SV) none _ (asInt ix) = _
      cases hi : asInt ix with
      | nat g i =>
        obtain ⟨k, rfl, rfl⟩ := asInt_nat hi
        show @SlV.rec (fun _ => Option SV) none _ (asSlc x) = _
        rcases asSlc_cases x with ⟨id, off, len, c, es, rfl, e⟩ | ⟨e, hx⟩
        · rw [e]
          simp only [xindexAddr, natOf, hu, hn, natL_eq]
          have : Nat.ble (Nat.add i 1) len = Nat.blt i len := rfl
          rw [this]
          cases Nat.blt i len <;> rfl
        · rw [e]
          simp only [xindexAddr, natOf, hu]
      | no =>
        cases ix with
        | int k z =>
          cases z with
          | lit z => cases z with
            | ofNat m => cases hi
            | negSucc m => rfl
          | _ => rfl
        | _ => rfl
    · rfl
  · rfl
noncomputable def klen (P : Program) (t : TypeId) : QW :=
  match P.underlying t with
  | some (.slice _) => ⟨fun h v => @SlV.rec (fun _ => Option SV) (xlen P h t v) (fun _ _ n => some (.int .i64 (.lit (.ofNat n)))) (asSlc v)⟩
  | some .string => ⟨fun h v => @TV.rec (fun _ => Option SV) (xlen P h t v) (fun n _ => some (.int .i64 (.lit (.ofNat n)))) (asTxt v)⟩
  | _ => ⟨fun h v => xlen P h t v⟩
theorem klen_eq (P : Program) (t : TypeId) (h : T SObj) (v : SV) : (klen P t).q h v = xlen P h t v := by
  unfold klen
  split
  · rename_i e hu
    show @SlV.rec (fun _ => Option SV) _ _ (asSlc v) = _
    rcases asSlc_cases v with ⟨id, off, len, c, es, rfl, e⟩ | ⟨e, hx⟩
    · rw [e]; simp only [xlen, hu]
    · rw [e]
  · rename_i hu
    show @TV.rec (fun _ => Option SV) _ _ (asTxt v) = _
    cases ht : asTxt v with
    | no => rfl
    | lit n c =>
      have := asTxt_lit ht
      subst this
      simp only [xlen, hu]
  · rfl
/-! ### structs that are compared -/
inductive TB where
  | yes
  | no
  | dunno
noncomputable def tbOf (b : Bool) : TB := @Bool.rec (fun _ => TB) .no .yes b
structure EW where
  e : SV → SV → TB
noncomputable def eqBoolF (x y : SV) : TB := @BV.rec (fun _ => TB) .dunno (fun a => @BV.rec (fun _ => TB) .dunno (fun b => @Bool.rec (fun _ => TB) (@Bool.rec (fun _ => TB) .yes .no b) (@Bool.rec (fun _ => TB) .no .yes b) a) (fun _ => .dunno) (asBool y)) (fun _ => .dunno) (asBool x)
noncomputable def eqIntF (x y : SV) : TB := @IV.rec (fun _ => TB) .dunno (fun g a => @IV.rec (fun _ => TB) .dunno (fun g' b => @Bool.rec (fun _ => TB) .dunno (tbOf (Nat.beq a b)) (Nat.beq g g')) (asInt y)) (asInt x)
noncomputable def eqTxtF (x y : SV) : TB := @TV.rec (fun _ => TB) .dunno (fun n c => @TV.rec (fun _ => TB) .dunno (fun m d => tbOf (txtEq n c m d)) (asTxt y)) (asTxt x)
structure EFW where
  e : List SV → List SV → TB
noncomputable def keqFs (P : Program) (f : TypeId → EW) : List Field → EFW
  | [] => ⟨fun _ _ => .yes⟩
  | fd :: rest => match kpart P fd.type fd.offset with
    | some q => @EW.rec (fun _ => EFW) (fun e => @EFW.rec (fun _ => EFW) (fun er => ⟨fun xs ys => @Option.rec SV (fun _ => TB) .dunno (fun a => @Option.rec SV (fun _ => TB) .dunno (fun b => @TB.rec (fun _ => TB) (er xs ys) .no .dunno (e a b)) (q ys)) (q xs)⟩) (keqFs P f rest)) (f fd.type)
    | none => ⟨fun _ _ => .dunno⟩
noncomputable def keq (P : Program) : Nat → TypeId → EW
  | 0, _ => ⟨fun _ _ => .dunno⟩
  | d + 1, t => match P.underlying t with
    | some .bool => ⟨eqBoolF⟩
    | some (.int _) => ⟨eqIntF⟩
    | some .string => ⟨eqTxtF⟩
    | some (.struct fs) => match P.stoodInHeld t, plainFs fs with
      | false, true => @EFW.rec (fun _ => EW) (fun e => ⟨fun x y => @AggV.rec (fun _ => TB) .dunno (fun xs => @AggV.rec (fun _ => TB) .dunno (fun ys => e xs ys) (asAgg y)) (asAgg x)⟩) (keqFs P (keq P d) fs.toList)
      | _, _ => ⟨fun _ _ => .dunno⟩
    | _ => ⟨fun _ _ => .dunno⟩
def tbSaid : TB → Option BX → Prop
  | .yes, o => o = some (.lit true)
  | .no, o => o = some (.lit false)
  | .dunno, _ => True
theorem tbOf_said (b : Bool) : tbSaid (tbOf b) (some (.lit b)) := by cases b <;> rfl
theorem keqFs_ok {P : Program} {f : TypeId → EW} {g : TypeId → SV → SV → Option BX} (hf : ∀ t x y, tbSaid ((f t).e x y) (g t x y)) (xs ys : List SV) : ∀ (fs : List Field), tbSaid ((keqFs P f fs).e xs ys) (eqFs P g xs ys fs)
  | [] => rfl
  | fd :: rest => by
    have ih := keqFs_ok (P := P) hf xs ys rest
    unfold keqFs
    cases hk : kpart P fd.type fd.offset with
    | none => trivial
    | some q =>
      show tbSaid (@Option.rec SV (fun _ => TB) .dunno (fun a => @Option.rec SV (fun _ => TB) .dunno (fun b => @TB.rec (fun _ => TB) ((keqFs P f rest).e xs ys) .no .dunno ((f fd.type).e a b)) (q ys)) (q xs)) _
      simp only [eqFs, ← kpart_eq hk]
      cases hx : q xs with
      | none => trivial
      | some a =>
        cases hy : q ys with
        | none => trivial
        | some b =>
          have h := hf fd.type a b
          dsimp only
          cases he : (f fd.type).e a b with
          | dunno => trivial
          | no =>
            rw [he] at h
            have h : g fd.type a b = some (.lit false) := h
            rw [h]
            exact rfl
          | yes =>
            rw [he] at h
            have h : g fd.type a b = some (.lit true) := h
            rw [h]
            show tbSaid ((keqFs P f rest).e xs ys) _
            cases hr : (keqFs P f rest).e xs ys with
            | dunno => trivial
            | yes =>
              rw [hr] at ih
              have ih : eqFs P g xs ys rest = some (.lit true) := ih
              rw [ih]; rfl
            | no =>
              rw [hr] at ih
              have ih : eqFs P g xs ys rest = some (.lit false) := ih
              rw [ih]; rfl
theorem keq_ok (P : Program) : ∀ (d : Nat) (t : TypeId) (x y : SV), tbSaid ((keq P d t).e x y) (eqv P d t x y)
  | 0, _, _, _ => trivial
  | d + 1, t, x, y => by
    unfold keq eqv
    cases hu : P.underlying t with
    | none => trivial
    | some ds => cases ds with
      | bool =>
        show tbSaid (@BV.rec (fun _ => TB) .dunno (fun a => @BV.rec (fun _ => TB) .dunno (fun b => @Bool.rec (fun _ => TB) (@Bool.rec (fun _ => TB) .yes .no b) (@Bool.rec (fun _ => TB) .no .yes b) a) (fun _ => .dunno) (asBool y)) (fun _ => .dunno) (asBool x)) _
        cases h1 : asBool x with
        | no => trivial
        | sym z => trivial
        | lit a => cases h2 : asBool y with
          | no => trivial
          | sym z => trivial
          | lit b =>
            have := asBool_lit h1
            subst this
            have := asBool_lit h2
            subst this
            cases a <;> cases b <;> rfl
      | int k =>
        show tbSaid (@IV.rec (fun _ => TB) .dunno (fun g a => @IV.rec (fun _ => TB) .dunno (fun g' b => @Bool.rec (fun _ => TB) .dunno (tbOf (Nat.beq a b)) (Nat.beq g g')) (asInt y)) (asInt x)) _
        cases h1 : asInt x with
        | no => trivial
        | nat g a => cases h2 : asInt y with
          | no => trivial
          | nat g' b =>
            obtain ⟨k1, rfl, rfl⟩ := asInt_nat h1
            obtain ⟨k2, rfl, rfl⟩ := asInt_nat h2
            show tbSaid (@Bool.rec (fun _ => TB) .dunno (tbOf (Nat.beq a b)) (Nat.beq (tagOf k1) (tagOf k2))) _
            cases h3 : Nat.beq (tagOf k1) (tagOf k2) with
            | false => trivial
            | true =>
              have := tagOf_inj h3
              subst this
              have hk : decide (k1 = k1) = true := by simp
              simp only [hk, mkIeq, decide_beq]
              exact tbOf_said _
      | string =>
        show tbSaid (@TV.rec (fun _ => TB) .dunno (fun n c => @TV.rec (fun _ => TB) .dunno (fun m d => tbOf (txtEq n c m d)) (asTxt y)) (asTxt x)) _
        cases h1 : asTxt x with
        | no => trivial
        | lit n c => cases h2 : asTxt y with
          | no => trivial
          | lit m e =>
            have := asTxt_lit h1
            subst this
            have := asTxt_lit h2
            subst this
            simp only [txtEq_eq]
            exact tbOf_said _
      | struct fs =>
        dsimp only
        cases h1 : P.stoodInHeld t with
        | true => trivial
        | false => cases h2 : plainFs fs with
          | false => trivial
          | true =>
            show tbSaid (@AggV.rec (fun _ => TB) .dunno (fun xs => @AggV.rec (fun _ => TB) .dunno (fun ys => (keqFs P (keq P d) fs.toList).e xs ys) (asAgg y)) (asAgg x)) _
            rcases asAgg_cases x with ⟨xs, rfl, e⟩ | ⟨e, -⟩
            · rcases asAgg_cases y with ⟨ys, rfl, e'⟩ | ⟨e', -⟩
              · rw [e, e']
                exact keqFs_ok (fun t x y => keq_ok P d t x y) xs ys fs.toList
              · rw [e, e']; trivial
            · rw [e]; trivial
      | _ => trivial
/-- Comparing structs. -/
noncomputable def kbinS (P : Program) (op : BinOp) (t : TypeId) (cst : Bool) : Q2W :=
  match P.underlying t, P.eqGuardType P.depth t with
  | some (.struct _), false => match op with
    | .eql => @EW.rec (fun _ => Q2W) (fun e => ⟨fun u v => @AggV.rec (fun _ => Option SV) (xbin P .eql t cst u v) (fun _ => @AggV.rec (fun _ => Option SV) (xbin P .eql t cst u v) (fun _ => @TB.rec (fun _ => Option SV) (some (.bool (.lit true))) (some (.bool (.lit false))) (xbin P .eql t cst u v) (e u v)) (asAgg v)) (asAgg u)⟩) (keq P 30 t)
    | .neq => @EW.rec (fun _ => Q2W) (fun e => ⟨fun u v => @AggV.rec (fun _ => Option SV) (xbin P .neq t cst u v) (fun _ => @AggV.rec (fun _ => Option SV) (xbin P .neq t cst u v) (fun _ => @TB.rec (fun _ => Option SV) (some (.bool (.lit false))) (some (.bool (.lit true))) (xbin P .neq t cst u v) (e u v)) (asAgg v)) (asAgg u)⟩) (keq P 30 t)
    | op => ⟨fun u v => xbin P op t cst u v⟩
  | _, _ => kbin P op t cst
theorem kbinS_eq (P : Program) (op : BinOp) (t : TypeId) (cst : Bool) (u v : SV) : (kbinS P op t cst).q u v = xbin P op t cst u v := by
  unfold kbinS
  split
  · rename_i fs hu hg
    have hq := keq_ok P 30 t u v
    split
    · show @AggV.rec (fun _ => Option SV) (xbin P .eql t cst u v) (fun _ => @AggV.rec (fun _ => Option SV) (xbin P .eql t cst u v) (fun _ => @TB.rec (fun _ => Option SV) (some (.bool (.lit true))) (some (.bool (.lit false))) (xbin P .eql t cst u v) ((keq P 30 t).e u v)) (asAgg v)) (asAgg u) = _
      rcases asAgg_cases u with ⟨xs, rfl, e⟩ | ⟨e, -⟩
      · rcases asAgg_cases v with ⟨ys, rfl, e'⟩ | ⟨e', -⟩
        · rw [e, e']
          show @TB.rec (fun _ => Option SV) (some (.bool (.lit true))) (some (.bool (.lit false))) (xbin P .eql t cst (.agg xs) (.agg ys)) ((keq P 30 t).e (.agg xs) (.agg ys)) = _
          cases hb : (keq P 30 t).e (.agg xs) (.agg ys) with
          | dunno => rfl
          | yes =>
            rw [hb] at hq
            have hq : eqv P 30 t (.agg xs) (.agg ys) = some (.lit true) := hq
            simp only [xbin, hg, Bool.not_false, hq]
          | no =>
            rw [hb] at hq
            have hq : eqv P 30 t (.agg xs) (.agg ys) = some (.lit false) := hq
            simp only [xbin, hg, Bool.not_false, hq]
        · rw [e, e']
      · rw [e]
    · show @AggV.rec (fun _ => Option SV) (xbin P .neq t cst u v) (fun _ => @AggV.rec (fun _ => Option SV) (xbin P .neq t cst u v) (fun _ => @TB.rec (fun _ => Option SV) (some (.bool (.lit false))) (some (.bool (.lit true))) (xbin P .neq t cst u v) ((keq P 30 t).e u v)) (asAgg v)) (asAgg u) = _
      rcases asAgg_cases u with ⟨xs, rfl, e⟩ | ⟨e, -⟩
      · rcases asAgg_cases v with ⟨ys, rfl, e'⟩ | ⟨e', -⟩
        · rw [e, e']
          show @TB.rec (fun _ => Option SV) (some (.bool (.lit false))) (some (.bool (.lit true))) (xbin P .neq t cst (.agg xs) (.agg ys)) ((keq P 30 t).e (.agg xs) (.agg ys)) = _
          cases hb : (keq P 30 t).e (.agg xs) (.agg ys) with
          | dunno => rfl
          | yes =>
            rw [hb] at hq
            have hq : eqv P 30 t (.agg xs) (.agg ys) = some (.lit true) := hq
            simp only [xbin, hg, Bool.not_false, hq, mkNot]
            rfl
          | no =>
            rw [hb] at hq
            have hq : eqv P 30 t (.agg xs) (.agg ys) = some (.lit false) := hq
            simp only [xbin, hg, Bool.not_false, hq, mkNot]
        · rw [e, e']
      · rw [e]
    · rfl
  · exact kbin_eq P op t cst u v
/-! ### structs that are built -/
structure BW (β : Type) where
  b : Frame → List SV → (List SV → β) → β
def fillE (ev : Operand → Option SV) (place : Nat → Option (Nat × Nat)) : List (Nat × Operand) → List SV → Option (List SV)
  | [], cells => some cells
  | (i, x) :: l, cells => match place i, ev x with
    | some (off, size), some v => match Nat.beq (cellsOf v).length size with
      | true => fillE ev place l (cells.take off ++ (cellsOf v ++ cells.drop (off + (cellsOf v).length)))
      | false => none
    | _, _ => none
def fits (place : Nat → Option (Nat × Nat)) (N : Nat) : List (Nat × Operand) → Bool
  | [] => true
  | (i, _) :: l => (match place i with | some (off, size) => Nat.ble (off + size) N | none => false) && fits place N l
theorem fillE_ok {a : SAct} {place : Nat → Option (Nat × Nat)} {N : Nat} : ∀ {l : List (Nat × Operand)} {cells c : List SV}, fits place N l = true → cells.length = N → fillE a.ev place l cells = some c → ∃ ps, xparts a l = some ps ∧ xfill place cells ps = some c
  | [], cells, c, _, _, h => ⟨[], rfl, h⟩
  | (i, x) :: l, cells, c, hf, hl, h => by
    simp only [fits, Bool.and_eq_true] at hf
    simp only [fillE] at h
    split at h
    · rename_i off size v hp hv
      split at h
      · rename_i hb
        rw [hp] at hf
        have h1 := Nat.le_of_ble_eq_true hf.1
        have hs := Nat.eq_of_beq_eq_true hb
        have hle : Nat.ble (off + (cellsOf v).length) cells.length = true := Nat.ble_eq_true_of_le (by omega)
        obtain ⟨ps, p1, p2⟩ := fillE_ok hf.2 (by simp; omega) h
        refine ⟨(i, v) :: ps, by simp only [xparts, hv, p1], ?_⟩
        simp only [xfill, hp, hb, hle]
        exact p2
      · cases h
    · cases h
noncomputable def kfill (β : Type) (fail : β) (place : Nat → Option (Nat × Nat)) : List (Nat × Operand) → BW β
  | [] => ⟨fun _ cells k => k cells⟩
  | (i, x) :: l => match place i with
    | some (off, size) => @GW.rec (fun _ => BW β) (fun g => @BW.rec β (fun _ => BW β) (fun b => ⟨fun tm cells k => @Option.rec SV (fun _ => β) fail (fun v => @Bool.rec (fun _ => β) fail (lapp (cellsF v) (ldrop (Nat.add off (llen (cellsF v))) cells) fun m => lapp (ltake off cells) m fun cells' => b tm cells' k) (Nat.beq (llen (cellsF v)) size)) (g tm)⟩) (kfill β fail place l)) (gop x)
    | none => ⟨fun _ _ _ => fail⟩
theorem kfill_eq {β : Type} {fail : β} {place : Nat → Option (Nat × Nat)} (n : Nat) : ∀ (l : List (Nat × Operand)) (tm : Frame) (cells : List SV) (k : List SV → β), (kfill β fail place l).b tm cells k = match fillE (SAct.ev ⟨tm, n⟩) place l cells with | some c => k c | none => fail
  | [], tm, cells, k => rfl
  | (i, x) :: l, tm, cells, k => by
    simp only [kfill, fillE]
    cases hp : place i with
    | none => rfl
    | some os =>
      obtain ⟨off, size⟩ := os
      show @Option.rec SV (fun _ => β) fail (fun v => @Bool.rec (fun _ => β) fail (lapp (cellsF v) (ldrop (Nat.add off (llen (cellsF v))) cells) fun m => lapp (ltake off cells) m fun cells' => (kfill β fail place l).b tm cells' k) (Nat.beq (llen (cellsF v)) size)) ((gop x).g tm) = _
      rw [gop_ok x tm n]
      cases hv : SAct.ev ⟨tm, n⟩ x with
      | none => rfl
      | some v =>
        show @Bool.rec (fun _ => β) fail (lapp (cellsF v) (ldrop (Nat.add off (llen (cellsF v))) cells) fun m => lapp (ltake off cells) m fun cells' => (kfill β fail place l).b tm cells' k) (Nat.beq (llen (cellsF v)) size) = _
        rw [cellsF_eq, llen_eq, lapp_eq, lapp_eq, ltake_eq, ldrop_eq]
        dsimp only
        cases Nat.beq (cellsOf v).length size with
        | false => rfl
        | true => exact kfill_eq n l tm _ k
noncomputable def kbuildW (β : Type) (fail : β) (P : Program) (t : TypeId) (parts : List (Nat × Operand)) : Option (BW β × List SV) :=
  match xzero P t, P.underlying t with
  | some z, some (.struct fields) => match places P fields.toList with
    | some pl => match fits (fun i => pl[i]?) (cellsOf z).length parts with
      | true => some (kfill β fail (fun i => pl[i]?) parts, cellsOf z)
      | false => none
    | none => none
  | _, _ => none
theorem kbuildW_ok {β : Type} {fail : β} {P : Program} {t : TypeId} {parts : Array (Nat × Operand)} {b : BW β} {z : List SV} (h : kbuildW β fail P t parts.toList = some (b, z)) (n : Nat) (tm : Frame) (k : List SV → β) :
    b.b tm z k = fail ∨ ∃ c, xbuild P ⟨tm, n⟩ t parts = some (.agg c) ∧ b.b tm z k = k c := by
  unfold kbuildW at h
  split at h
  · rename_i z0 fields hz hu
    split at h
    · rename_i pl hpl
      split at h
      · rename_i hf
        cases h
        rw [kfill_eq n]
        cases he : fillE (SAct.ev ⟨tm, n⟩) (fun i => pl[i]?) parts.toList (cellsOf z0) with
        | none => exact .inl rfl
        | some c =>
          obtain ⟨ps, p1, p2⟩ := fillE_ok hf rfl he
          exact .inr ⟨c, by simp only [xbuild, hz, p1, hu, hpl, p2], rfl⟩
      · cases h
    · cases h
  · cases h
end Go.Sx
/-
  A fast symbolic run (part 3): operations.
-/
namespace Go.Sx
set_option linter.unusedVariables false
set_option linter.unusedSimpArgs false
section
variable {P : Program} {n : Nat} {o : Oper}
theorem optV {q : SV → Res} {x : Option SV} {outs : List (SExit × Frame × St)} (h : (@Option.rec SV (fun _ => Res) .fail q x).outs = some outs) : ∃ v, x = some v ∧ (q v).outs = some outs := by
  cases x with
  | none => cases h
  | some v => exact ⟨v, rfl, h⟩
/-- An operation that gives one value and leaves all as it is. -/
theorem kr_of_pure {F : FK} {tm : Frame} {s : St} {k : Frame → St → Res} {outs : List (SExit × Frame × St)} {v : SV} (h1 : xPure P s.h s.asm ⟨tm, n⟩ o = some [(v, s.asm)]) (h2 : ((pdst n o.dst).p tm v fun tm' => k tm' s).outs = some outs) :
    ∃ l, runOp P (toFs F) ⟨tm, n⟩ s o = some l ∧ ∀ p ∈ l, p.1.n = n ∧ ∃ ys, (k p.1.tm p.2).outs = some ys ∧ ∀ y ∈ ys, y ∈ outs := by
  obtain ⟨a, p1, p2, p3⟩ := pdst_ok h2
  refine ⟨[(a, s)], ?_, fun p hp => ?_⟩
  · simp only [runOp, h1, withAsm, List.map_cons, List.map_nil, putAll, p1]
  · rw [List.mem_singleton.1 hp]
    exact ⟨p2, outs, p3, fun y hy => hy⟩
/-- An operation that changes memory. -/
theorem kr_of_eff {F : FK} {tm : Frame} {s s' : St} {k : Frame → St → Res} {outs : List (SExit × Frame × St)} {v : SV} (h0 : xPure P s.h s.asm ⟨tm, n⟩ o = none) (h1 : callOf P ⟨tm, n⟩ o = none) (h2 : xEff P s ⟨tm, n⟩ o = some [(v, s')]) (h3 : ((pdst n o.dst).p tm v fun tm' => k tm' s').outs = some outs) :
    ∃ l, runOp P (toFs F) ⟨tm, n⟩ s o = some l ∧ ∀ p ∈ l, p.1.n = n ∧ ∃ ys, (k p.1.tm p.2).outs = some ys ∧ ∀ y ∈ ys, y ∈ outs := by
  obtain ⟨a, p1, p2, p3⟩ := pdst_ok h3
  refine ⟨[(a, s')], ?_, fun p hp => ?_⟩
  · simp only [runOp, h0, h1, h2, putAll, p1]
  · rw [List.mem_singleton.1 hp]
    exact ⟨p2, outs, p3, fun y hy => hy⟩
/-- Many ways: each with its value and state. -/
theorem kr_of_many {F : FK} {tm : Frame} {s : St} {k : Frame → St → Res} {outs : List (SExit × Frame × St)} {l : List (SV × St)} (hr : runOp P (toFs F) ⟨tm, n⟩ s o = putAll ⟨tm, n⟩ o.dst l) (h : ∀ q ∈ l, ∃ ys, ((pdst n o.dst).p tm q.1 fun tm' => k tm' q.2).outs = some ys ∧ ∀ y ∈ ys, y ∈ outs) :
    ∃ l, runOp P (toFs F) ⟨tm, n⟩ s o = some l ∧ ∀ p ∈ l, p.1.n = n ∧ ∃ ys, (k p.1.tm p.2).outs = some ys ∧ ∀ y ∈ ys, y ∈ outs := by
  rw [hr]
  clear hr
  have key : ∀ (l : List (SV × St)), (∀ q ∈ l, ∃ ys, ((pdst n o.dst).p tm q.1 fun tm' => k tm' q.2).outs = some ys ∧ ∀ y ∈ ys, y ∈ outs) → ∃ m, putAll ⟨tm, n⟩ o.dst l = some m ∧ ∀ p ∈ m, p.1.n = n ∧ ∃ ys, (k p.1.tm p.2).outs = some ys ∧ ∀ y ∈ ys, y ∈ outs := by
    intro l
    induction l with
    | nil => exact fun _ => ⟨[], rfl, fun p hp => by cases hp⟩
    | cons q l ih =>
      intro hl
      obtain ⟨m, m1, m2⟩ := ih fun q hq => hl q (List.mem_cons_of_mem _ hq)
      obtain ⟨ys, y1, y2⟩ := hl q List.mem_cons_self
      obtain ⟨a, p1, p2, p3⟩ := pdst_ok y1
      obtain ⟨v, s'⟩ := q
      refine ⟨(a, s') :: m, by simp only [putAll, p1, m1], fun p hp => ?_⟩
      rcases List.mem_cons.1 hp with e | hp
      · rw [e]; exact ⟨p2, ys, p3, y2⟩
      · exact m2 p hp
  exact key l h
end
/-! ### pieces -/
noncomputable def k1 (n : Nat) (d : Option Tmp) (x : Operand) (q : T SObj → SV → Option SV) : KW :=
  @GW.rec (fun _ => KW) (fun g => @PW.rec Res (fun _ => KW) (fun p => ⟨fun _ tm s k => @Option.rec SV (fun _ => Res) .fail (fun u => @Option.rec SV (fun _ => Res) .fail (fun v => p tm v fun tm' => k tm' s) (q s.h u)) (g tm)⟩) (pdst n d)) (gop x)
noncomputable def k2 (n : Nat) (d : Option Tmp) (x y : Operand) (q : T SObj → SV → SV → Option SV) : KW :=
  @GW.rec (fun _ => KW) (fun g => @GW.rec (fun _ => KW) (fun g' => @PW.rec Res (fun _ => KW) (fun p => ⟨fun _ tm s k => @Option.rec SV (fun _ => Res) .fail (fun u => @Option.rec SV (fun _ => Res) .fail (fun u' => @Option.rec SV (fun _ => Res) .fail (fun v => p tm v fun tm' => k tm' s) (q s.h u u')) (g' tm)) (g tm)⟩) (pdst n d)) (gop y)) (gop x)
noncomputable def kmove (n : Nat) (d : Option Tmp) (x : Operand) : KW :=
  @GW.rec (fun _ => KW) (fun g => @PW.rec Res (fun _ => KW) (fun p => ⟨fun _ tm s k => @Option.rec SV (fun _ => Res) .fail (fun u => p tm u fun tm' => k tm' s) (g tm)⟩) (pdst n d)) (gop x)
/-- An operation that calls nothing, whatever it is. -/
noncomputable def kmid (P : Program) (n : Nat) (o : Oper) : KW :=
  @PW.rec Res (fun _ => KW) (fun p => ⟨fun _ tm s k => match xPure P s.h s.asm ⟨tm, n⟩ o with
    | some l => eachOut (withAsm s l) fun v s' => p tm v fun tm' => k tm' s'
    | none => match xEff P s ⟨tm, n⟩ o with
      | some l => eachOut l fun v s' => p tm v fun tm' => k tm' s'
      | none => .fail⟩) (pdst n o.dst)
section
variable {P : Program} {n : Nat} {o : Oper}
theorem k1_ok {x : Operand} {q : T SObj → SV → Option SV} (H : ∀ h asm a v, a.ev x = some v → xPure P h asm a o = one1 asm (q h v)) : KrOk P n o (k1 n o.dst x q).f := by
  intro F tm s k outs h
  have h : (@Option.rec SV (fun _ => Res) .fail (fun u => @Option.rec SV (fun _ => Res) .fail (fun v => (pdst n o.dst).p tm v fun tm' => k tm' s) (q s.h u)) ((gop x).g tm)).outs = some outs := h
  obtain ⟨u, h1, h⟩ := optV h
  obtain ⟨v, h2, h⟩ := optV h
  rw [gop_ok x tm n] at h1
  exact kr_of_pure (by rw [H s.h s.asm _ u h1, h2]; rfl) h
theorem k2_ok {x y : Operand} {q : T SObj → SV → SV → Option SV} (H : ∀ h asm a u v, a.ev x = some u → a.ev y = some v → xPure P h asm a o = one1 asm (q h u v)) : KrOk P n o (k2 n o.dst x y q).f := by
  intro F tm s k outs h
  have h : (@Option.rec SV (fun _ => Res) .fail (fun u => @Option.rec SV (fun _ => Res) .fail (fun u' => @Option.rec SV (fun _ => Res) .fail (fun v => (pdst n o.dst).p tm v fun tm' => k tm' s) (q s.h u u')) ((gop y).g tm)) ((gop x).g tm)).outs = some outs := h
  obtain ⟨u, h1, h⟩ := optV h
  obtain ⟨u', h1', h⟩ := optV h
  obtain ⟨v, h2, h⟩ := optV h
  rw [gop_ok x tm n] at h1
  rw [gop_ok y tm n] at h1'
  exact kr_of_pure (by rw [H s.h s.asm _ u u' h1 h1', h2]; rfl) h
theorem kmove_ok {x : Operand} (H : ∀ h asm a, xPure P h asm a o = one1 asm (a.ev x)) : KrOk P n o (kmove n o.dst x).f := by
  intro F tm s k outs h
  have h : (@Option.rec SV (fun _ => Res) .fail (fun u => (pdst n o.dst).p tm u fun tm' => k tm' s) ((gop x).g tm)).outs = some outs := h
  obtain ⟨u, h1, h⟩ := optV h
  rw [gop_ok x tm n] at h1
  exact kr_of_pure (by rw [H, h1]; rfl) h
theorem kmid_ok (hc : ∀ a, callOf P a o = none) : KrOk P n o (kmid P n o).f := by
  intro F tm s k outs h
  have h : (match xPure P s.h s.asm ⟨tm, n⟩ o with
    | some l => eachOut (withAsm s l) fun v s' => (pdst n o.dst).p tm v fun tm' => k tm' s'
    | none => match xEff P s ⟨tm, n⟩ o with
      | some l => eachOut l fun v s' => (pdst n o.dst).p tm v fun tm' => k tm' s'
      | none => .fail).outs = some outs := h
  split at h
  · rename_i l hl
    exact kr_of_many (l := withAsm s l) (by simp only [runOp, hl]) (eachOut_outs h)
  · rename_i h0
    split at h
    · rename_i l hl
      exact kr_of_many (l := l) (by simp only [runOp, h0, hc, hl]) (eachOut_outs h)
    · cases h
end
/-! ### a choice -/
noncomputable def kpick (P : Program) (n : Nat) (o : Oper) (c x y : Operand) : KW :=
  @GW.rec (fun _ => KW) (fun gc => @GW.rec (fun _ => KW) (fun g => @GW.rec (fun _ => KW) (fun g' => @PW.rec Res (fun _ => KW) (fun p => @KW.rec (fun _ => KW) (fun m => ⟨fun F tm s k =>
    @Option.rec SV (fun _ => Res) .fail (fun b => @BV.rec (fun _ => Res) .fail (fun b => @Bool.rec (fun _ => Res) (@Option.rec SV (fun _ => Res) .fail (fun u => p tm u fun tm' => k tm' s) (g' tm)) (@Option.rec SV (fun _ => Res) .fail (fun u => p tm u fun tm' => k tm' s) (g tm)) b) (fun _ => m F tm s k) (asBool b)) (gc tm)⟩) (kmid P n o)) (pdst n o.dst)) (gop y)) (gop x)) (gop c)
theorem kpick_ok {P : Program} {n : Nat} {o : Oper} {c x y : Operand} (ho : o.op = .pick c x y) : KrOk P n o (kpick P n o c x y).f := by
  intro F tm s k outs h
  have hm : KrOk P n o (kmid P n o).f := kmid_ok fun a => by simp only [callOf, ho]
  have h : (@Option.rec SV (fun _ => Res) .fail (fun b => @BV.rec (fun _ => Res) .fail (fun b => @Bool.rec (fun _ => Res) (@Option.rec SV (fun _ => Res) .fail (fun u => (pdst n o.dst).p tm u fun tm' => k tm' s) ((gop y).g tm)) (@Option.rec SV (fun _ => Res) .fail (fun u => (pdst n o.dst).p tm u fun tm' => k tm' s) ((gop x).g tm)) b) (fun _ => (kmid P n o).f F tm s k) (asBool b)) ((gop c).g tm)).outs = some outs := h
  obtain ⟨b, h1, h⟩ := optV h
  rw [gop_ok c tm n] at h1
  cases hb : asBool b with
  | no => rw [hb] at h; cases h
  | lit z =>
    rw [hb] at h
    have := asBool_lit hb
    subst this
    cases z with
    | true =>
      obtain ⟨u, h2, h⟩ := optV h
      rw [gop_ok x tm n] at h2
      exact kr_of_pure (by simp only [xPure, kpOf, ho, kpPick, xpick, h1, h2, one1]) h
    | false =>
      obtain ⟨u, h2, h⟩ := optV h
      rw [gop_ok y tm n] at h2
      exact kr_of_pure (by simp only [xPure, kpOf, ho, kpPick, xpick, h1, h2, one1]) h
  | sym z =>
    rw [hb] at h
    exact hm F tm s k outs h
/-! ### a nil check, a part of a tuple -/
noncomputable def notNilF (v : SV) : Bool := @SV.rec (fun _ => Bool) (fun _ => Unit) (fun _ => false) (fun _ _ => false) (fun _ => false) false (fun _ _ => true) false (fun _ _ _ _ _ => false) false (fun _ => false) false (fun f _ _ _ _ => match f with | .func _ => true | _ => false) false (fun _ _ _ => true) (fun _ _ => false) (fun _ _ => false) (fun _ => false) (fun _ => false) () (fun _ _ _ _ => ()) v
theorem notNilF_eq (v : SV) : notNilF v = notNil v := by
  cases v with
  | func f a b => cases f <;> rfl
  | _ => rfl
noncomputable def nilCheckF (v : SV) : Option SV := @Bool.rec (fun _ => Option SV) none (some v) (notNilF v)
theorem nilCheckF_ok {P : Program} {o : Oper} {x : Operand} (ho : o.op = .nilCheck x) (h : T SObj) (asm : Asm) (a : SAct) (v : SV) (hv : a.ev x = some v) : xPure P h asm a o = one1 asm (nilCheckF v) := by
  simp only [xPure, kpOf, ho, kpNilCheck, hv, nilCheckF, notNilF_eq]
  cases notNil v <;> rfl
def extractF (i : Nat) (v : SV) : Option SV := match v with | .tup vs => vs[i]? | _ => none
theorem extractF_ok {P : Program} {o : Oper} {x : Operand} {i : Nat} (ho : o.op = .extract x i) (h : T SObj) (asm : Asm) (a : SAct) (v : SV) (hv : a.ev x = some v) : xPure P h asm a o = one1 asm (extractF i v) := by
  simp only [xPure, kpOf, ho, kpExtract, hv, extractF]
  cases v <;> rfl
/-! ### a call of a function by its name -/
structure LGW where
  g : Frame → (List SV → Res) → Res
noncomputable def gops : List Operand → LGW
  | [] => ⟨fun _ k => k []⟩
  | x :: l => @GW.rec (fun _ => LGW) (fun g => @LGW.rec (fun _ => LGW) (fun gl => ⟨fun tm k => @Option.rec SV (fun _ => Res) .fail (fun v => gl tm fun vs => k (v :: vs)) (g tm)⟩) (gops l)) (gop x)
theorem gops_ok {n : Nat} : ∀ {l : List Operand} {tm : Frame} {k : List SV → Res} {outs : List (SExit × Frame × St)}, ((gops l).g tm k).outs = some outs → ∃ vs, evL ⟨tm, n⟩ l = some vs ∧ (k vs).outs = some outs
  | [], tm, k, outs, h => ⟨[], rfl, h⟩
  | x :: l, tm, k, outs, h => by
    have h : (@Option.rec SV (fun _ => Res) .fail (fun v => (gops l).g tm fun vs => k (v :: vs)) ((gop x).g tm)).outs = some outs := h
    obtain ⟨v, h1, h⟩ := optV h
    obtain ⟨vs, h2, h⟩ := gops_ok (n := n) h
    rw [gop_ok x tm n] at h1
    exact ⟨v :: vs, by simp only [evL, h1, h2], h⟩
noncomputable def manyRes (p : Frame → SV → (Frame → Res) → Res) (tm : Frame) (k : Frame → St → Res) (l ps : List (SV × St)) : Res :=
  match ps with
  | [] => eachOut l fun v s' => p tm v fun tm' => k tm' s'
  | ps => ofMany (match bindL l fun q => (p tm q.1 fun tm' => k tm' q.2).outs with
    | some m => some ((ps.map fun q => (SExit.panic q.1, tm, q.2)) ++ m)
    | none => none)
theorem manyRes_outs {p : Frame → SV → (Frame → Res) → Res} {tm : Frame} {k : Frame → St → Res} {l ps : List (SV × St)} {outs : List (SExit × Frame × St)} (h : (manyRes p tm k l ps).outs = some outs) :
    (∀ q ∈ l, ∃ ys, (p tm q.1 fun tm' => k tm' q.2).outs = some ys ∧ ∀ y ∈ ys, y ∈ outs) ∧ ∀ q ∈ ps, (SExit.panic q.1, tm, q.2) ∈ outs := by
  unfold manyRes at h
  split at h
  · exact ⟨eachOut_outs (k := fun v s' => p tm v fun tm' => k tm' s') h, fun q hq => by cases hq⟩
  · rw [ofMany_outs] at h
    split at h
    · rename_i m hm
      cases h
      refine ⟨fun q hq => ?_, fun q hq => List.mem_append.2 (.inl (List.mem_map.2 ⟨q, hq, rfl⟩))⟩
      obtain ⟨ys, h1, h2⟩ := bindL_mem hm hq
      exact ⟨ys, h1, fun y hy => List.mem_append.2 (.inr (h2 y hy))⟩
    · cases h
noncomputable def callRes (p : Frame → SV → (Frame → Res) → Res) (tm : Frame) (k : Frame → St → Res) (r : CRes) : Res :=
  @CRes.rec (fun _ => Res) (fun v s' => p tm v fun tm' => k tm' s') (fun l ps => manyRes p tm k l ps) .fail (fun v s' => .pan v tm s') r
noncomputable def kcallf (n : Nat) (d : Option Tmp) (f : FuncId) (args : List Operand) : KW :=
  @LGW.rec (fun _ => KW) (fun gl => @PW.rec Res (fun _ => KW) (fun p => ⟨fun F tm s k => gl tm fun vs => callRes p tm k (F.call f vs s)⟩) (pdst n d)) (gops args)
theorem evL_nil_append (l : List SV) : ([] : List SV) ++ (l ++ []) = l := by simp
theorem put_n {E : Env} {n : Nat} {a : SAct} {A : Act} (h : ActRel E a A) (hn : a.n = n) : ActRel E ⟨a.tm, n⟩ A := by
  obtain ⟨t, m⟩ := a
  dsimp only at hn
  subst hn
  exact h
theorem call_sem {P : Program} {n : Nat} {o : Oper} {F : FK} (hF : FKOk P F) {tm : Frame} {s : St} {k : Frame → St → Res} {outs : List (SExit × Frame × St)} {f : FuncId} {vs : List SV} (hc : callOf P ⟨tm, n⟩ o = some (f, vs)) (h : (callRes (pdst n o.dst).p tm k (F.call f vs s)).outs = some outs)
    {w0 : World} {E : Env} {A : Act} {w : World} (hA : ActRel E ⟨tm, n⟩ A) (R : Rel w0 E s w) {K : Act → World → Prop} {Q : Exit → Act → World → Prop} (hK : Goes w0 E n k outs K) (hP : Pans w0 E n outs Q) : o.wp P A w K Q := by
  obtain ⟨ARGS, h1, h2⟩ := callOf_ok (P := P) hA hc w
  unfold Oper.wp
  rw [h2, Oper.upon_enter]
  have ret : ∀ {v : SV} {s' : St} {ys : List (SExit × Frame × St)}, ((pdst n o.dst).p tm v fun tm' => k tm' s').outs = some ys → (∀ y ∈ ys, y ∈ outs) → ∀ {E' : Env} {V : Value} {w' : World}, E.Le E' → v.den E' = some V → Rel w0 E' s' w' → K (A.put o.dst V) w' := fun {v s' ys} hv hs {E' V w'} le hd R' => by
    obtain ⟨a, p1, p2, p3⟩ := pdst_ok hv
    exact hK a.tm s' E' _ w' ys p3 hs le (put_n (put_ok (hA.mono le) p1 hd) p2) R'
  cases hr : F.call f vs s with
  | one v s' =>
    have hcall := hF.call f vs s (by rw [hr]; exact nofun) w0 E w ARGS h1 R
    rw [hr] at hcall h
    refine hcall.mono fun e w' he => ?_
    obtain ⟨v1, s1, E', V, q1, q2, q3, rfl, q5⟩ := he
    cases List.mem_singleton.1 q1
    exact ret h (fun y hy => hy) q2 q3 q5
  | many l ps =>
    have hcall := hF.call f vs s (by rw [hr]; exact nofun) w0 E w ARGS h1 R
    rw [hr] at hcall h
    obtain ⟨m1, m2⟩ := manyRes_outs h
    refine hcall.mono fun e w' he => ?_
    rcases he with ⟨v1, s1, E', V, q1, q2, q3, rfl, q5⟩ | ⟨v1, s1, E', V, q1, q2, q3, rfl, q5⟩
    · obtain ⟨ys, y1, y2⟩ := m1 _ q1
      exact ret y1 y2 q2 q3 q5
    · exact hP v1 V tm s1 E' A w' (m2 _ q1) q2 q3 (hA.mono q2) q5
  | fail => rw [hr] at h; cases h
  | pan v s' =>
    have hcall := hF.call f vs s (by rw [hr]; exact nofun) w0 E w ARGS h1 R
    rw [hr] at hcall h
    have h : some [(SExit.panic v, tm, s')] = some outs := h
    cases h
    refine hcall.mono fun e w' he => ?_
    obtain ⟨E', V, q1, q2, rfl, q4⟩ := he
    exact hP v V tm s' E' A w' (List.mem_singleton.2 rfl) q1 q2 (hA.mono q1) q4
theorem kcallf_ok {P : Program} {n : Nat} {o : Oper} {f : FuncId} {args : Array Operand} {ty : Array TypeId} (ho : o.op = .call { callee := .value (.func f), args := args, argTypes := ty }) (hp : plainFunc P f = true) : KrS P n o (kcallf n o.dst f args.toList).f := by
  intro F hF tm s k outs h w0 E A w hA R K Q hK hP
  have h : ((gops args.toList).g tm fun vs => callRes (pdst n o.dst).p tm k (F.call f vs s)).outs = some outs := h
  obtain ⟨vs, h1, h⟩ := gops_ok (n := n) h
  have hc : callOf P ⟨tm, n⟩ o = some (f, vs) := by
    simp only [callOf, ho, SAct.ev, h1, hp]
    rw [evL_nil_append]
  exact call_sem hF hc h hA R hK hP
/-- A call of a function that is a value, or of a method of an interface. -/
noncomputable def kcallg (P : Program) (n : Nat) (o : Oper) : KW :=
  @PW.rec Res (fun _ => KW) (fun p => ⟨fun F tm s k => match callOf P ⟨tm, n⟩ o with
    | some q => callRes p tm k (F.call q.1 q.2 s)
    | none => .fail⟩) (pdst n o.dst)
theorem kcallg_ok {P : Program} {n : Nat} {o : Oper} : KrS P n o (kcallg P n o).f := by
  intro F hF tm s k outs h w0 E A w hA R K Q hK hP
  have h : (match callOf P ⟨tm, n⟩ o with
    | some q => callRes (pdst n o.dst).p tm k (F.call q.1 q.2 s)
    | none => .fail).outs = some outs := h
  split at h
  · rename_i q hq
    exact call_sem hF (f := q.1) (vs := q.2) hq h hA R hK hP
  · cases h
/-! ### a call that is put off, a panic -/
def defOf (P : Program) (a : SAct) (o : Oper) : Option (FuncId × List SV) :=
  match o.op with
  | .defer { callee := .value x, args := xs, argTypes := _ } => match a.ev x, evL a xs.toList with
    | some (.func (.func f) first cap), some l => match plainFunc P f with
      | true => some (f, first ++ (l ++ cap))
      | false => none
    | _, _ => none
  | _ => none
def Frame.pushD (tm : Frame) (q : FuncId × List SV) : Frame := { tm with ds := q :: tm.ds }
theorem Frame.get_pushD (tm : Frame) (q : FuncId × List SV) (i : Nat) : (tm.pushD q).get i = tm.get i := rfl
noncomputable def kdefer (P : Program) (n : Nat) (o : Oper) : KW :=
  @PW.rec Res (fun _ => KW) (fun p => ⟨fun F tm s k => match defOf P ⟨tm, n⟩ o with
    | some q => p (tm.pushD q) skipV fun tm' => k tm' s
    | none => .fail⟩) (pdst n o.dst)
theorem kdefer_ok {P : Program} {n : Nat} {o : Oper} : KrS P n o (kdefer P n o).f := by
  intro F hF tm s k outs h w0 E A w hA R K Q hK hP
  have h : (match defOf P ⟨tm, n⟩ o with
    | some q => (pdst n o.dst).p (tm.pushD q) skipV fun tm' => k tm' s
    | none => .fail).outs = some outs := h
  split at h
  · rename_i q hq
    obtain ⟨f, xs⟩ := q
    have key : ∃ d, (execOp A.eval o).run P w = .ok (.defer d) w ∧ ∃ cap L, d.target = .fn (.func f) cap ∧ SV.denL E xs = some L ∧ d.args ++ cap = L.toArray := by
      unfold defOf at hq
      split at hq
      · rename_i x ys tys ho
        split at hq
        · rename_i f' first cap l hx hl
          split at hq
          · rename_i hp
            cases hq
            obtain ⟨L, M, h1, h2, hX⟩ := den_func (ev_ok hA hx)
            have h3 := evL_ok hA hl
            refine ⟨⟨.fn (.func f) M.toArray, L.toArray ++ ys.map A.eval⟩, ?_, M.toArray, L ++ (ys.toList.map A.eval ++ M), rfl, denL_append h1 (denL_append h3 h2), ?_⟩
            · simp only [execOp, ho, resolve, hX, Deferred.ofValue, Sem.run_bind, Sem.run_pure, Result.andThen_ok]
            · apply Array.ext'; simp
          · cases hq
        · cases hq
      · cases hq
    obtain ⟨d, k1, cap, L, k2, k3, k4⟩ := key
    unfold Oper.wp
    rw [k1, Oper.upon_defer]
    obtain ⟨a, p1, p2, p3⟩ := pdst_ok h
    have hA1 : ActRel E ⟨tm.pushD (f, xs), n⟩ { A with defers := d :: A.defers } := ⟨hA.size, fun i v hv => hA.tm i v hv, ⟨⟨cap, L, k2, k3, k4⟩, hA.defers⟩⟩
    exact hK a.tm s E _ w outs p3 (fun y hy => hy) (.refl E) (put_n (put_ok hA1 p1 (skipV_den E)) p2) R
  · cases h
noncomputable def kpanic (P : Program) (n : Nat) (x : Operand) : KW :=
  @GW.rec (fun _ => KW) (fun g => ⟨fun F tm s k => match g tm with
    | some (.iface t v) => .pan (.iface t v) tm s
    | _ => .fail⟩) (gop x)
theorem kpanic_ok {P : Program} {n : Nat} {o : Oper} {x : Operand} (ho : o.op = .panic x) : KrS P n o (kpanic P n x).f := by
  intro F hF tm s k outs h w0 E A w hA R K Q hK hP
  have h : (match (gop x).g tm with
    | some (.iface t v) => Res.pan (.iface t v) tm s
    | _ => .fail).outs = some outs := h
  rw [gop_ok x tm n] at h
  split at h
  · rename_i t v hx
    have h : some [(SExit.panic (.iface t v), tm, s)] = some outs := h
    cases h
    have hd := ev_ok hA hx
    obtain ⟨V, h1, hX⟩ := den_iface hd
    have hr : (execOp A.eval o).run P w = .halt (.panic (.iface t V)) w := by
      simp only [execOp, ho, hX, Instr.panic]
      rfl
    unfold Oper.wp
    rw [hr, Oper.upon_panic]
    rw [hX] at hd
    exact hP (.iface t v) (.iface t V) tm s E A w (List.mem_singleton.2 rfl) (.refl E) hd hA R
  · cases h
/-! ### memory -/
noncomputable def kstore (P : Program) (n : Nat) (d : Option Tmp) (t : TypeId) (x y : Operand) : KW :=
  match szOf P t with
  | some z => @GW.rec (fun _ => KW) (fun g => @GW.rec (fun _ => KW) (fun g' => @PW.rec Res (fun _ => KW) (fun p => ⟨fun _ tm s k => @Option.rec SV (fun _ => Res) .fail (fun u => @Option.rec SV (fun _ => Res) .fail (fun u' => @PtrV.rec (fun _ => Res) .fail (fun id off =>
      @Bool.rec (fun _ => Res) .fail (@Bool.rec (fun _ => Res) .fail (storeF s id off (cellsF u') fun s' => p tm skipV fun tm' => k tm' s') (onesF (cellsF u'))) (Nat.beq (llen (cellsF u')) z)) (asPtr u)) (g' tm)) (g tm)⟩) (pdst n d)) (gop y)) (gop x)
  | none => ⟨fun _ _ _ _ => .fail⟩
theorem kstore_ok {P : Program} {n : Nat} {o : Oper} {t : TypeId} {x y : Operand} (ho : o.op = .store t x y) : KrOk P n o (kstore P n o.dst t x y).f := by
  intro F tm s k outs h
  unfold kstore at h
  split at h
  · rename_i z hz
    have h : (@Option.rec SV (fun _ => Res) .fail (fun u => @Option.rec SV (fun _ => Res) .fail (fun u' => @PtrV.rec (fun _ => Res) .fail (fun id off =>
      @Bool.rec (fun _ => Res) .fail (@Bool.rec (fun _ => Res) .fail (storeF s id off (cellsF u') fun s' => (pdst n o.dst).p tm skipV fun tm' => k tm' s') (onesF (cellsF u'))) (Nat.beq (llen (cellsF u')) z)) (asPtr u)) ((gop y).g tm)) ((gop x).g tm)).outs = some outs := h
    obtain ⟨u, h1, h⟩ := optV h
    obtain ⟨u', h2, h⟩ := optV h
    rw [gop_ok x tm n] at h1
    rw [gop_ok y tm n] at h2
    rw [cellsF_eq, llen_eq, onesF_eq] at h
    rcases asPtr_cases u with ⟨id, off, rfl, e⟩ | ⟨e, -⟩
    · rw [e] at h
      cases hb : Nat.beq (cellsOf u').length z with
      | false => rw [hb] at h; cases h
      | true =>
        rw [hb] at h
        have h : (@Bool.rec (fun _ => Res) .fail (storeF s id off (cellsOf u') fun s' => (pdst n o.dst).p tm skipV fun tm' => k tm' s') ((cellsOf u').all SV.one)).outs = some outs := h
        cases hc : (cellsOf u').all SV.one with
        | false => rw [hc] at h; cases h
        | true =>
          rw [hc] at h
          obtain ⟨h', w1, w2⟩ := storeF_ok h
          refine kr_of_eff (s' := { s with h := h' }) (v := skipV) (by simp only [xPure, kpOf, ho, kpNone]) (by simp only [callOf, ho]) ?_ w2
          simp only [xEff, keOf, ho, keStore, h1, h2, xstore, hz, hb, hc, w1]
    · rw [e] at h; cases h
  · cases h
noncomputable def kbox (n : Nat) (d : Option Tmp) (t : TypeId) (x : Operand) : KW :=
  @GW.rec (fun _ => KW) (fun g => @PW.rec Res (fun _ => KW) (fun p => ⟨fun _ tm s k => @Option.rec SV (fun _ => Res) .fail (fun u => boxF s (cellsF u) t fun v s' => p tm v fun tm' => k tm' s') (g tm)⟩) (pdst n d)) (gop x)
theorem kbox_ok {P : Program} {n : Nat} {o : Oper} {t : TypeId} {x : Operand} (ho : o.op = .box t x) : KrOk P n o (kbox n o.dst t x).f := by
  intro F tm s k outs h
  have h : (@Option.rec SV (fun _ => Res) .fail (fun u => boxF s (cellsF u) t fun v s' => (pdst n o.dst).p tm v fun tm' => k tm' s') ((gop x).g tm)).outs = some outs := h
  obtain ⟨u, h1, h⟩ := optV h
  rw [boxF_eq, cellsF_eq] at h
  rw [gop_ok x tm n] at h1
  exact kr_of_eff (by simp only [xPure, kpOf, ho, kpNone]) (by simp only [callOf, ho]) (by simp only [xEff, keOf, ho, keBox, h1, xbox]) h
noncomputable def kalloc (P : Program) (n : Nat) (d : Option Tmp) (t : TypeId) : KW :=
  match xzero P t with
  | some z => @PW.rec Res (fun _ => KW) (fun p => ⟨fun _ tm s k => boxF s (cellsF z) t fun v s' => p tm v fun tm' => k tm' s'⟩) (pdst n d)
  | none => ⟨fun _ _ _ _ => .fail⟩
theorem kalloc_ok {P : Program} {n : Nat} {o : Oper} {t : TypeId} (ho : o.op = .alloc t) : KrOk P n o (kalloc P n o.dst t).f := by
  intro F tm s k outs h
  unfold kalloc at h
  split at h
  · rename_i z hz
    have h : (boxF s (cellsF z) t fun v s' => (pdst n o.dst).p tm v fun tm' => k tm' s').outs = some outs := h
    rw [boxF_eq, cellsF_eq] at h
    exact kr_of_eff (by simp only [xPure, kpOf, ho, kpNone]) (by simp only [callOf, ho]) (by simp only [xEff, keOf, ho, keAlloc, xalloc, hz]) h
  · cases h
/-! ### guards -/
inductive GV where
  | no
  | skip
  | lit (b : Bool)
  | sym (b : BX)
noncomputable def asGuard (v : SV) : GV := @SV.rec (fun _ => GV) (fun _ => Unit) (fun b => @BX.rec (fun _ => GV) (fun b => .lit b) (fun i => .sym (.var i)) (fun b _ => .sym (.not b)) (fun a b => .sym (.ieq a b)) (fun a b => .sym (.ilt a b)) (fun a b => .sym (.seq a b)) (fun a b _ _ => .sym (.and a b)) b)
  (fun _ _ => .no) (fun _ => .no) .no (fun _ _ => .no) .no (fun _ _ _ _ _ => .no) .no (fun _ => .no) .no (fun _ _ _ _ _ => .no) .no (fun _ _ _ => .no) (fun _ _ => .no) (fun _ _ => .skip) (fun _ => .no) (fun _ => .no) () (fun _ _ _ _ => ()) v
theorem asGuard_lit {v : SV} {b : Bool} (h : asGuard v = .lit b) : v = .bool (.lit b) := by
  cases v with
  | bool x => cases x <;> cases h; rfl
  | _ => cases h
theorem asGuard_sym {v : SV} {b : BX} (h : asGuard v = .sym b) : v = .bool b := by
  cases v with
  | bool x => cases x <;> cases h <;> rfl
  | _ => cases h
theorem asGuard_skip {v : SV} (h : asGuard v = .skip) : ∃ l, v = .tup l := by
  cases v with
  | bool x => cases x <;> cases h
  | tup l => exact ⟨l, rfl⟩
  | _ => cases h
noncomputable def guardMany (g : BX) (s : St) (f : St → Res) (q : St → Res) : Res := splitWays (ways s.asm g) s f q
noncomputable def kguard (n : Nat) (ops : Array Oper) (o : Oper) (j : Nat) (want : Bool) (inner : KW) : KW :=
  match (ops[j]?).bind (·.dst) with
  | none => @PW.rec Res (fun _ => KW) (fun p => ⟨fun _ tm s k => p tm skipV fun tm' => k tm' s⟩) (pdst n o.dst)
  | some t => @GW.rec (fun _ => KW) (fun g => @PW.rec Res (fun _ => KW) (fun p => @KW.rec (fun _ => KW) (fun f => match want with
    | true => ⟨fun F tm s k => @Option.rec SV (fun _ => Res) .fail (fun v => @GV.rec (fun _ => Res) .fail (p tm skipV fun tm' => k tm' s) (fun b => @Bool.rec (fun _ => Res) (p tm skipV fun tm' => k tm' s) (f F tm s k) b) (fun b => guardMany b s (fun s => f F tm s k) (fun s => p tm skipV fun tm' => k tm' s)) (asGuard v)) (g tm)⟩
    | false => ⟨fun F tm s k => @Option.rec SV (fun _ => Res) .fail (fun v => @GV.rec (fun _ => Res) .fail (p tm skipV fun tm' => k tm' s) (fun b => @Bool.rec (fun _ => Res) (f F tm s k) (p tm skipV fun tm' => k tm' s) b) (fun b => guardMany (mkNot b) s (fun s => f F tm s k) (fun s => p tm skipV fun tm' => k tm' s)) (asGuard v)) (g tm)⟩) inner) (pdst n o.dst)) (gtmp t)
section
variable {P : Program} {n : Nat} {ops : Array Oper} {o : Oper}
theorem guard_skip {tm : Frame} {s : St} {k : Frame → St → Res} {outs : List (SExit × Frame × St)} (hv : guardOn ops ⟨tm, n⟩ o = some (.lit false)) (h : ((pdst n o.dst).p tm skipV fun tm' => k tm' s).outs = some outs)
    {w0 : World} {E : Env} {A : Act} {w : World} (hA : ActRel E ⟨tm, n⟩ A) (R : Rel w0 E s w) {K : Act → World → Prop} {Q : Exit → Act → World → Prop} (hK : Goes w0 E n k outs K) :
    if Region.wanted o (yielded ops A.tmps) then o.wp P A w K Q else K (A.put o.dst undef) w := by
  obtain ⟨z, h1, h2⟩ := guardOn_ok hA hv
  simp only [BX.den, Option.some.injEq] at h1
  subst h1
  rw [h2, if_neg (by simp)]
  obtain ⟨a, p1, p2, p3⟩ := pdst_ok h
  exact hK a.tm s E _ w outs p3 (fun y hy => hy) (.refl E) (put_n (put_ok hA p1 (skipV_den E)) p2) R
theorem bindL_one {α β : Type} (x : α) (f : α → Option (List β)) : bindL [x] f = f x := by
  simp only [bindL]
theorem guard_run {f : KO} (hf : KrS P n o f) {F : FK} (hF : FKOk P F) {tm : Frame} {s : St} {k : Frame → St → Res} {outs : List (SExit × Frame × St)} (hv : guardOn ops ⟨tm, n⟩ o = some (.lit true)) (h : (f F tm s k).outs = some outs)
    {w0 : World} {E : Env} {A : Act} {w : World} (hA : ActRel E ⟨tm, n⟩ A) (R : Rel w0 E s w) {K : Act → World → Prop} {Q : Exit → Act → World → Prop} (hK : Goes w0 E n k outs K) (hP : Pans w0 E n outs Q) :
    if Region.wanted o (yielded ops A.tmps) then o.wp P A w K Q else K (A.put o.dst undef) w := by
  obtain ⟨z, h1, h2⟩ := guardOn_ok hA hv
  simp only [BX.den, Option.some.injEq] at h1
  subst h1
  rw [h2, if_pos rfl]
  exact hf F hF tm s k outs h w0 E A w hA R K Q hK hP
theorem guard_many {f : KO} (hf : KrS P n o f) {F : FK} (hF : FKOk P F) {tm : Frame} {s : St} {k : Frame → St → Res} {outs : List (SExit × Frame × St)} {g : BX} (hv : guardOn ops ⟨tm, n⟩ o = some g) (h : (guardMany g s (fun s => f F tm s k) (fun s => (pdst n o.dst).p tm skipV fun tm' => k tm' s)).outs = some outs)
    {w0 : World} {E : Env} {A : Act} {w : World} (hA : ActRel E ⟨tm, n⟩ A) (R : Rel w0 E s w) {K : Act → World → Prop} {Q : Exit → Act → World → Prop} (hK : Goes w0 E n k outs K) (hP : Pans w0 E n outs Q) :
    if Region.wanted o (yielded ops A.tmps) then o.wp P A w K Q else K (A.put o.dst undef) w := by
  have h := splitWays_outs h
  obtain ⟨z, h1, h2⟩ := guardOn_ok hA hv
  obtain ⟨asm', h3, h4⟩ := ways_ok R.asm h1
  obtain ⟨ys, y1, y2⟩ := h _ h3
  rw [h2]
  cases z with
  | true =>
    rw [if_pos rfl]
    exact hf F hF tm _ k ys y1 w0 E A w hA (R.setAsm h4) K Q (hK.sub (.refl E) y2) (hP.sub (.refl E) y2)
  | false =>
    rw [if_neg (by simp)]
    obtain ⟨a, p1, p2, p3⟩ := pdst_ok y1
    exact hK a.tm _ E _ w ys p3 y2 (.refl E) (put_n (put_ok hA p1 (skipV_den E)) p2) (R.setAsm h4)
def wantB : Bool → BX → BX
  | true, b => b
  | false, b => mkNot b
def gval (want : Bool) : SV → Option BX
  | .bool b => some (wantB want b)
  | .tup _ => some (.lit false)
  | _ => none
theorem guard_val (n : Nat) {j : Nat} {want : Bool} {t : Tmp} {tm : Frame} {v : SV} (hg : o.guard = some (j, want)) (hj : (ops[j]?).bind (·.dst) = some t) (hv : tm.get t = some v) : guardOn ops ⟨tm, n⟩ o = gval want v := by
  simp only [guardOn, hg, hj, hv]
  cases v <;> cases want <;> rfl
theorem kguard_ok {j : Nat} {want : Bool} {inner : KW} (hg : o.guard = some (j, want)) (hf : KrS P n o inner.f) : KoS P n ops o (kguard n ops o j want inner).f := by
  intro F hF tm s k outs h w0 E A w hA R K Q hK hP
  unfold kguard at h
  split at h
  · rename_i hj
    have hv : guardOn ops ⟨tm, n⟩ o = some (.lit false) := by simp only [guardOn, hg, hj]
    exact guard_skip hv h hA R hK
  · rename_i t hj
    cases want with
    | true =>
      have h : (@Option.rec SV (fun _ => Res) .fail (fun v => @GV.rec (fun _ => Res) .fail ((pdst n o.dst).p tm skipV fun tm' => k tm' s) (fun b => @Bool.rec (fun _ => Res) ((pdst n o.dst).p tm skipV fun tm' => k tm' s) (inner.f F tm s k) b) (fun b => guardMany b s (fun s => inner.f F tm s k) (fun s => (pdst n o.dst).p tm skipV fun tm' => k tm' s)) (asGuard v)) ((gtmp t).g tm)).outs = some outs := h
      obtain ⟨v, h1, h⟩ := optV h
      rw [gtmp_ok] at h1
      have hv := guard_val n hg hj h1
      cases hb : asGuard v with
      | no => rw [hb] at h; cases h
      | skip =>
        rw [hb] at h
        obtain ⟨l, rfl⟩ := asGuard_skip hb
        exact guard_skip hv h hA R hK
      | lit b =>
        rw [hb] at h
        have := asGuard_lit hb
        subst this
        cases b with
        | true => exact guard_run hf hF hv h hA R hK hP
        | false => exact guard_skip hv h hA R hK
      | sym b =>
        rw [hb] at h
        have := asGuard_sym hb
        subst this
        exact guard_many hf hF hv h hA R hK hP
    | false =>
      have h : (@Option.rec SV (fun _ => Res) .fail (fun v => @GV.rec (fun _ => Res) .fail ((pdst n o.dst).p tm skipV fun tm' => k tm' s) (fun b => @Bool.rec (fun _ => Res) (inner.f F tm s k) ((pdst n o.dst).p tm skipV fun tm' => k tm' s) b) (fun b => guardMany (mkNot b) s (fun s => inner.f F tm s k) (fun s => (pdst n o.dst).p tm skipV fun tm' => k tm' s)) (asGuard v)) ((gtmp t).g tm)).outs = some outs := h
      obtain ⟨v, h1, h⟩ := optV h
      rw [gtmp_ok] at h1
      have hv := guard_val n hg hj h1
      cases hb : asGuard v with
      | no => rw [hb] at h; cases h
      | skip =>
        rw [hb] at h
        obtain ⟨l, rfl⟩ := asGuard_skip hb
        exact guard_skip hv h hA R hK
      | lit b =>
        rw [hb] at h
        have := asGuard_lit hb
        subst this
        cases b with
        | true => exact guard_skip hv h hA R hK
        | false => exact guard_run hf hF hv h hA R hK hP
      | sym b =>
        rw [hb] at h
        have := asGuard_sym hb
        subst this
        exact guard_many hf hF hv h hA R hK hP
end
/-! ### a struct that is built -/
noncomputable def kbuild (P : Program) (n : Nat) (o : Oper) (t : TypeId) (parts : Array (Nat × Operand)) : KW :=
  match kbuildW Res .fail P t parts.toList with
  | some (b, z) => @BW.rec Res (fun _ => KW) (fun b => @PW.rec Res (fun _ => KW) (fun p => ⟨fun _ tm s k => b tm z fun c => p tm (.agg c) fun tm' => k tm' s⟩) (pdst n o.dst)) b
  | none => kmid P n o
theorem kbuild_ok {P : Program} {n : Nat} {o : Oper} {t : TypeId} {parts : Array (Nat × Operand)} (ho : o.op = .build t parts) : KrOk P n o (kbuild P n o t parts).f := by
  unfold kbuild
  split
  · rename_i b z hb
    intro F tm s k outs h
    have h : (b.b tm z fun c => (pdst n o.dst).p tm (.agg c) fun tm' => k tm' s).outs = some outs := h
    rcases kbuildW_ok hb n tm (fun c => (pdst n o.dst).p tm (.agg c) fun tm' => k tm' s) with e | ⟨c, h1, h2⟩
    · rw [e] at h; cases h
    · rw [h2] at h
      exact kr_of_pure (by simp only [xPure, kpOf, ho, kpBuild, h1, one1]) h
  · exact kmid_ok fun a => by simp only [callOf, ho]
/-! ### which piece for which operation -/
def toSlice (P : Program) (t : TypeId) : Bool := match P.underlying t with
  | some (.slice _) => true
  | _ => false
noncomputable def kop0 (P : Program) (n : Nat) (o : Oper) : KW :=
  match o.op with
  | .move x => kmove n o.dst x
  | .assign x => kmove n o.dst x
  | .load t x => @QW.rec (fun _ => KW) (fun q => k1 n o.dst x q) (kload P t)
  | .nilCheck x => k1 n o.dst x fun _ v => nilCheckF v
  | .extract x i => k1 n o.dst x fun _ v => extractF i v
  | .fieldAddr t x f => @Q1W.rec (fun _ => KW) (fun q => k1 n o.dst x fun _ v => q v) (kfaddr P t f)
  | .field t x f => @Q1W.rec (fun _ => KW) (fun q => k1 n o.dst x fun _ v => q v) (kfield P t f)
  | .unOp op _ x => k1 n o.dst x fun _ v => xun op v
  | .convert src dst x => match toSlice P dst with
    | true => kmid P n o
    | false => k1 n o.dst x fun h v => xconvert P h src dst v
  | .binOp op t x y _ => @Q2W.rec (fun _ => KW) (fun q => k2 n o.dst x y fun _ u v => q u v) (kbinS P op t (isConstO x || isConstO y))
  | .indexAddr t x i => @Q2W.rec (fun _ => KW) (fun q => k2 n o.dst x i fun _ u v => q u v) (kiaddr P t)
  | .index t x i => k2 n o.dst x i fun _ u v => xindex P t u v
  | .pick c x y => kpick P n o c x y
  | .store t x y => kstore P n o.dst t x y
  | .box t x => kbox n o.dst t x
  | .alloc t => kalloc P n o.dst t
  | .call { callee := .value (.func f), args := args, argTypes := _ } => match plainFunc P f with
    | true => kcallf n o.dst f args.toList
    | false => kgen P n o
  | .build t parts => kbuild P n o t parts
  | .call { callee := .builtin .len, args := args, argTypes := tys } => match args.toList, tys[0]? with
    | [x], some t => @QW.rec (fun _ => KW) (fun q => k1 n o.dst x q) (klen P t)
    | _, _ => kmid P n o
  | .call { callee := .builtin _, .. } => kmid P n o
  | .defer _ => kdefer P n o
  | .panic x => kpanic P n x
  | .call _ => kcallg P n o
  | _ => kmid P n o
theorem kop0_ok (P : Program) (n : Nat) (o : Oper) : KrS P n o (kop0 P n o).f := by
  unfold kop0
  split
  · rename_i x ho
    exact KrOk.toS (kmove_ok fun h asm a => by simp only [xPure, kpOf, ho, kpMove])
  · rename_i x ho
    exact KrOk.toS (kmove_ok fun h asm a => by simp only [xPure, kpOf, ho, kpAssign])
  · rename_i t x ho
    exact KrOk.toS (k1_ok (q := (kload P t).q) fun h asm a v hv => by rw [kload_eq]; simp only [xPure, kpOf, ho, kpLoad, hv])
  · rename_i x ho
    exact KrOk.toS (k1_ok (nilCheckF_ok ho))
  · rename_i x i ho
    exact KrOk.toS (k1_ok (extractF_ok ho))
  · rename_i t x f ho
    exact KrOk.toS (k1_ok (q := fun _ v => (kfaddr P t f).q v) fun h asm a v hv => by rw [kfaddr_eq]; simp only [xPure, kpOf, ho, kpFieldAddr, hv])
  · rename_i t x f ho
    exact KrOk.toS (k1_ok (q := fun _ v => (kfield P t f).q v) fun h asm a v hv => by rw [kfield_eq]; simp only [xPure, kpOf, ho, kpField, hv])
  · rename_i op _ x ho
    exact KrOk.toS (k1_ok fun h asm a v hv => by simp only [xPure, kpOf, ho, kpUnOp, hv])
  · rename_i src dst x ho
    split
    · exact KrOk.toS (kmid_ok fun a => by simp only [callOf, ho])
    · exact KrOk.toS (k1_ok fun h asm a v hv => by simp only [xPure, kpOf, ho, kpConvert, hv])
  · rename_i op t x y _ ho
    exact KrOk.toS (k2_ok (q := fun _ u v => (kbinS P op t (isConstO x || isConstO y)).q u v) fun h asm a u v hu hv => by rw [kbinS_eq]; simp only [xPure, kpOf, ho, kpBinOp, hu, hv])
  · rename_i t x i ho
    exact KrOk.toS (k2_ok (q := fun _ u v => (kiaddr P t).q u v) fun h asm a u v hu hv => by rw [kiaddr_eq]; simp only [xPure, kpOf, ho, kpIndexAddr, hu, hv])
  · rename_i t x i ho
    exact KrOk.toS (k2_ok fun h asm a u v hu hv => by simp only [xPure, kpOf, ho, kpIndex, hu, hv])
  · rename_i c x y ho
    exact KrOk.toS (kpick_ok ho)
  · rename_i t x y ho
    exact KrOk.toS (kstore_ok ho)
  · rename_i t x ho
    exact KrOk.toS (kbox_ok ho)
  · rename_i t ho
    exact KrOk.toS (kalloc_ok ho)
  · rename_i f args ty ho
    split
    · rename_i hp
      exact kcallf_ok ho hp
    · exact KrOk.toS (kgen_ok P n o)
  · rename_i t parts ho
    exact KrOk.toS (kbuild_ok ho)
  · rename_i args tys ho
    split
    · rename_i x t h1 h2
      exact KrOk.toS (k1_ok (q := (klen P t).q) fun h asm a v hv => by rw [klen_eq]; simp only [xPure, kpOf, ho, kpCall, h1, h2, hv])
    · exact KrOk.toS (kmid_ok fun a => by simp only [callOf, ho])
  · rename_i b args ty _ ho
    exact KrOk.toS (kmid_ok fun a => by simp only [callOf, ho])
  · rename_i ho
    exact kdefer_ok
  · rename_i x ho
    exact kpanic_ok ho
  · exact kcallg_ok
  · rename_i ho
    refine KrOk.toS (kmid_ok fun a => ?_)
    unfold callOf
    split
    · rename_i e; exact (ho _ e).elim
    · rename_i e; exact (ho _ e).elim
    · rfl
noncomputable def kop (P : Program) (n : Nat) (ops : Array Oper) (o : Oper) : KW :=
  match o.guard with
  | none => kop0 P n o
  | some (j, want) => kguard n ops o j want (kop0 P n o)
theorem kop_ok (P : Program) (n : Nat) (ops : Array Oper) (o : Oper) : KoS P n ops o (kop P n ops o).f := by
  unfold kop
  split
  · rename_i hg
    intro F hF tm s k outs h w0 E A w hA R K Q hK hP
    rw [if_pos (by simp [Region.wanted, hg])]
    exact kop0_ok P n o F hF tm s k outs h w0 E A w hA R K Q hK hP
  · rename_i j want hg
    exact kguard_ok hg (kop0_ok P n o)
end Go.Sx
/-
  A fast symbolic run (part 4): regions that draw their order, where one order is as good as all.
-/
namespace Go.Sx
set_option linter.unusedVariables false
set_option linter.unusedSimpArgs false
/-! ### what a load saw, or a lookup -/
inductive LookQ where
  | cell (r : Nat) (row : List SV) (nr es : Nat) (ty : TypeId) (opn ro : Bool)
  | ents (l : List (SV × SV))
structure Look where
  k : Nat
  id : Nat
  q : LookQ
def LookQ.obj : LookQ → SObj
  | .cell r row nr es ty opn ro => .cells (T.put .nil r row) nr es ty opn ro
  | .ents l => .umap l
def Look.heap (x : Look) : T SObj := T.put .nil x.id x.q.obj
def lookHeap : List Look → Nat → T SObj
  | [], _ => .nil
  | x :: l, k => match Nat.beq x.k k with
    | true => x.heap
    | false => lookHeap l k
def LookQ.In : LookQ → SObj → Prop
  | .cell r row nr es ty opn ro, o => ∃ rows, o = .cells rows nr es ty opn ro ∧ rows.get r = some row
  | .ents l, o => (∃ m c, o = .map m c ∧ m.map pairOf = l) ∨ o = .umap l
def Holds (h : T SObj) (x : Look) : Prop := ∃ o, h.get x.id = some o ∧ x.q.In o
noncomputable def LookQ.inB : LookQ → SObj → Bool
  | .cell r row nr es ty opn ro, .cells rows nr' es' ty' opn' ro' => Nat.beq nr' nr && (Nat.beq es' es && (Nat.beq ty' ty && ((opn' == opn) && ((ro' == ro) && match tget rows r with | some row' => SV.beqL row' row | none => false))))
  | .ents l, .map m _ => pairsBeq (m.map pairOf) l
  | .ents l, .umap m => pairsBeq m l
  | _, _ => false
noncomputable def holds (h : T SObj) (x : Look) : Bool :=
  match tget h x.id with
  | some o => x.q.inB o
  | none => false
theorem LookQ.inB_ok {q : LookQ} {o : SObj} (hh : q.inB o = true) : q.In o := by
  unfold LookQ.inB at hh
  split at hh
  · simp only [Bool.and_eq_true, beq_iff_eq] at hh
    obtain ⟨h1, h2, h3, h4, h5, h6⟩ := hh
    have h1 := Nat.eq_of_beq_eq_true h1
    have h2 := Nat.eq_of_beq_eq_true h2
    have h3 := Nat.eq_of_beq_eq_true h3
    rw [tget_eq] at h6
    split at h6
    · rename_i row' hr
      have h6 := SV.beqL_eq _ _ h6
      subst h1 h2 h3 h4 h5 h6
      exact ⟨_, rfl, hr⟩
    · cases h6
  · exact .inl ⟨_, _, rfl, pairsBeq_eq _ _ hh⟩
  · exact .inr (by rw [pairsBeq_eq _ _ hh])
  · cases hh
theorem holds_ok {h : T SObj} {x : Look} (hh : holds h x = true) : Holds h x := by
  unfold holds at hh
  rw [tget_eq] at hh
  split at hh
  · rename_i o hg
    exact ⟨o, hg, LookQ.inB_ok hh⟩
  · cases hh
theorem look_mem {E : Env} {h : T SObj} {w : World} {x : Look} (M : Mem E h w) (hx : Holds h x) : Mem E x.heap w := by
  obtain ⟨o', h1, h2⟩ := hx
  intro id o hid hl
  simp only [Look.heap, T.get_put, T.get_nil] at hid
  split at hid
  · rename_i e
    subst e
    cases hid
    obtain ⟨k, idx, q⟩ := x
    dsimp only at *
    cases q with
    | cell r row nr es ty opn ro =>
      obtain ⟨rows, rfl, hr⟩ := h2
      obtain ⟨b, base, n, k1, k2⟩ := M _ _ h1 rfl
      refine ⟨b, base, n, k1, ?_⟩
      obtain ⟨cs, fr, ty', a1, a2, a3, a4, a5, a6⟩ := k2
      refine ⟨cs, fr, ty', a1, a2, a3, a4, a5, fun r' row' hr' => ?_⟩
      rw [T.get_put, T.get_nil] at hr'
      split at hr'
      · rename_i e
        subst e
        cases hr'
        exact a6 _ _ hr
      · cases hr'
    | ents l =>
      rcases h2 with ⟨m, c, rfl, hm⟩ | rfl
      · obtain ⟨b, base, n, k1, es, k2, k3⟩ := M _ _ h1 rfl
        exact ⟨b, base, n, k1, es, c, m, k2, by rw [hm], k3⟩
      · exact M _ _ h1 rfl
  · cases hid
theorem mem_nil {E : Env} {w : World} : Mem E .nil w := fun id o hid _ => by cases hid
theorem lookHeap_mem {E : Env} {w : World} : ∀ {L : List Look} {k : Nat}, (∀ x ∈ L, x.k = k → Mem E x.heap w) → Mem E (lookHeap L k) w
  | [], k, _ => mem_nil
  | x :: l, k, h => by
    simp only [lookHeap]
    split
    · rename_i e
      exact h x List.mem_cons_self (Nat.eq_of_beq_eq_true e)
    · exact lookHeap_mem fun y hy => h y (List.mem_cons_of_mem _ hy)
theorem lookHeap_of {L : List Look} {x : Look} (hx : x ∈ L) (hn : (L.map (·.k)).Nodup) : lookHeap L x.k = x.heap := by
  induction L with
  | nil => cases hx
  | cons y l ih =>
    simp only [List.map_cons, List.nodup_cons] at hn
    simp only [lookHeap]
    rcases List.mem_cons.1 hx with e | hx
    · subst e
      rw [Nat.beq_refl]
    · split
      · rename_i e
        exact (hn.1 (List.mem_map.2 ⟨x, hx, (Nat.eq_of_beq_eq_true e).symm⟩)).elim
      · exact ih hx hn.2
noncomputable def mkLook (h : T SObj) (k : Nat) (v : SV) : Option Look :=
  match v with
  | .ptr id off => match tget h id with
    | some (.cells rows nr es ty opn ro) => match tget rows (Nat.div off es) with
      | some row => some ⟨k, id, .cell (Nat.div off es) row nr es ty opn ro⟩
      | none => none
    | _ => none
  | .map id => match tget h id with
    | some (.map m _) => some ⟨k, id, .ents (m.map pairOf)⟩
    | some (.umap l) => some ⟨k, id, .ents l⟩
    | _ => none
  | _ => none
noncomputable def entsAt (h : T SObj) (v : SV) : Option (List (SV × SV)) :=
  match v with
  | .map id => match tget h id with
    | some (.map m _) => some (m.map pairOf)
    | some (.umap l) => some l
    | _ => none
  | _ => none
noncomputable def lookL (P : Program) (t : TypeId) (h : T SObj) (x k : SV) (ok : Bool) : Option SV :=
  match entsAt h x with
  | some l => match xlookupU P t l k ok [] with
    | some [q] => some q.1
    | _ => none
  | none => none
theorem mkLook_ok {h : T SObj} {k : Nat} {v : SV} {x : Look} (hx : mkLook h k v = some x) : x.k = k ∧ Holds h x ∧ (∀ P t u, xload P h t v = some u → xload P x.heap t v = some u) ∧ ∀ P t y ok asm u, lookL P t h v y ok = some u → xlookup P x.heap t v y ok asm = some [(u, asm)] := by
  unfold mkLook at hx
  split at hx
  · rename_i id off
    rw [tget_eq] at hx
    split at hx
    · rename_i rows nr es ty opn ro hg
      rw [tget_eq] at hx
      split at hx
      · rename_i row hr
        cases hx
        refine ⟨rfl, ⟨_, hg, rows, rfl, hr⟩, fun P t u hu => ?_, fun P t y ok asm u hu => ?_⟩
        · have e : ∀ n, readCells (Look.heap ⟨k, id, .cell (Nat.div off es) row nr es ty opn ro⟩) id off n = readCells h id off n := fun n => by
            simp only [readCells, Look.heap, LookQ.obj, T.get_put_self, hg]
            have e1 : (T.put .nil (Nat.div off es) row).get (off / es) = some row := T.get_put_self _ _ _
            have e2 : rows.get (off / es) = some row := hr
            rw [e1, e2]
          simp only [xload, e] at hu ⊢
          exact hu
        · cases hu
      · cases hx
    · cases hx
  · rename_i id
    rw [tget_eq] at hx
    have key : ∀ {l : List (SV × SV)}, entsAt h (.map id) = some l → ∀ P t y ok asm u, lookL P t h (.map id) y ok = some u → xlookup P (Look.heap ⟨k, id, .ents l⟩) t (.map id) y ok asm = some [(u, asm)] := fun {l} hl P t y ok asm u hu => by
      simp only [lookL, hl] at hu
      have e1 : umapOf (Look.heap ⟨k, id, .ents l⟩) (.map id) = some l := by
        simp only [umapOf, Look.heap, LookQ.obj, T.get_put_self]
      simp only [xlookup, e1]
      split at hu
      · rename_i q hq
        cases hu
        unfold xlookupU at hq ⊢
        split at hq
        · rename_i kt et hut
          split at hq
          · rename_i z r hz hr
            cases hq
            rfl
          · cases hq
        · cases hq
      · cases hu
    split at hx
    · rename_i m c hg
      cases hx
      refine ⟨rfl, ⟨_, hg, .inl ⟨m, c, rfl, rfl⟩⟩, fun P t u hu => (by cases hu), key (by simp only [entsAt, tget_eq, hg])⟩
    · rename_i l hg
      cases hx
      refine ⟨rfl, ⟨_, hg, .inr rfl⟩, fun P t u hu => (by cases hu), key (by simp only [entsAt, tget_eq, hg])⟩
    · cases hx
  · cases hx
/-! ### values of operations that leave all as it is -/
structure PV where
  v : Frame → T SObj → Asm → Option SV
noncomputable def pv1 (x : Operand) (q : T SObj → SV → Option SV) : PV := @GW.rec (fun _ => PV) (fun g => ⟨fun tm h _ => @Option.rec SV (fun _ => Option SV) none (fun u => q h u) (g tm)⟩) (gop x)
noncomputable def pv2 (x y : Operand) (q : T SObj → SV → SV → Option SV) : PV := @GW.rec (fun _ => PV) (fun g => @GW.rec (fun _ => PV) (fun g' => ⟨fun tm h _ => @Option.rec SV (fun _ => Option SV) none (fun u => @Option.rec SV (fun _ => Option SV) none (fun u' => q h u u') (g' tm)) (g tm)⟩) (gop y)) (gop x)
noncomputable def pv0 (P : Program) (n : Nat) (o : Oper) : PV :=
  match o.op with
  | .move x => @GW.rec (fun _ => PV) (fun g => ⟨fun tm _ _ => g tm⟩) (gop x)
  | .assign x => @GW.rec (fun _ => PV) (fun g => ⟨fun tm _ _ => g tm⟩) (gop x)
  | .load t x => @QW.rec (fun _ => PV) (fun q => pv1 x q) (kload P t)
  | .nilCheck x => pv1 x fun _ v => nilCheckF v
  | .extract x i => pv1 x fun _ v => extractF i v
  | .fieldAddr t x f => @Q1W.rec (fun _ => PV) (fun q => pv1 x fun _ v => q v) (kfaddr P t f)
  | .field t x f => @Q1W.rec (fun _ => PV) (fun q => pv1 x fun _ v => q v) (kfield P t f)
  | .unOp op _ x => pv1 x fun _ v => xun op v
  | .binOp op t x y _ => @Q2W.rec (fun _ => PV) (fun q => pv2 x y fun _ u v => q u v) (kbinS P op t (isConstO x || isConstO y))
  | .indexAddr t x i => @Q2W.rec (fun _ => PV) (fun q => pv2 x i fun _ u v => q u v) (kiaddr P t)
  | .index t x i => pv2 x i fun _ u v => xindex P t u v
  | .pick c x y => @GW.rec (fun _ => PV) (fun gc => @GW.rec (fun _ => PV) (fun g => @GW.rec (fun _ => PV) (fun g' => ⟨fun tm _ _ => @Option.rec SV (fun _ => Option SV) none (fun b => @BV.rec (fun _ => Option SV) none (fun b => @Bool.rec (fun _ => Option SV) (g' tm) (g tm) b) (fun _ => none) (asBool b)) (gc tm)⟩) (gop y)) (gop x)) (gop c)
  | .build t parts => match kbuildW (Option SV) none P t parts.toList with
    | some (b, z) => @BW.rec (Option SV) (fun _ => PV) (fun b => ⟨fun tm _ _ => b tm z fun c => some (.agg c)⟩) b
    | none => ⟨fun tm _ _ => xbuild P ⟨tm, n⟩ t parts⟩
  | .makeInterface t x => ⟨fun tm h asm => match kpMakeInterface t x P h asm ⟨tm, n⟩ with | some [q] => some q.1 | _ => none⟩
  | .typeAssert x xt t ok => pv1 x fun _ v => xassert P v xt t ok
  | .convert src dst x => pv1 x fun h v => xconvert P h src dst v
  | .call { callee := .builtin .len, args := args, argTypes := tys } => match args.toList, tys[0]? with
    | [x], some t => @QW.rec (fun _ => PV) (fun q => pv1 x q) (klen P t)
    | _, _ => ⟨fun _ _ _ => none⟩
  | _ => ⟨fun _ _ _ => none⟩
def PvOk (P : Program) (n : Nat) (o : Oper) (f : PV) : Prop := ∀ tm h asm v, f.v tm h asm = some v → xPure P h asm ⟨tm, n⟩ o = some [(v, asm)]
section
variable {P : Program} {n : Nat} {o : Oper}
theorem optO {q : SV → Option SV} {x : Option SV} {v : SV} (h : (@Option.rec SV (fun _ => Option SV) none q x) = some v) : ∃ u, x = some u ∧ q u = some v := by
  cases x with
  | none => cases h
  | some u => exact ⟨u, rfl, h⟩
theorem pv1_ok {x : Operand} {q : T SObj → SV → Option SV} (H : ∀ h asm a v, a.ev x = some v → xPure P h asm a o = one1 asm (q h v)) : PvOk P n o (pv1 x q) := by
  intro tm h asm v hv
  have hv : @Option.rec SV (fun _ => Option SV) none (fun u => q h u) ((gop x).g tm) = some v := hv
  obtain ⟨u, h1, h2⟩ := optO hv
  rw [gop_ok x tm n] at h1
  rw [H h asm _ u h1, h2]; rfl
theorem pv2_ok {x y : Operand} {q : T SObj → SV → SV → Option SV} (H : ∀ h asm a u v, a.ev x = some u → a.ev y = some v → xPure P h asm a o = one1 asm (q h u v)) : PvOk P n o (pv2 x y q) := by
  intro tm h asm v hv
  have hv : @Option.rec SV (fun _ => Option SV) none (fun u => @Option.rec SV (fun _ => Option SV) none (fun u' => q h u u') ((gop y).g tm)) ((gop x).g tm) = some v := hv
  obtain ⟨u, h1, hv⟩ := optO hv
  obtain ⟨u', h2, h3⟩ := optO hv
  rw [gop_ok x tm n] at h1
  rw [gop_ok y tm n] at h2
  rw [H h asm _ u u' h1 h2, h3]; rfl
theorem pv0_ok (P : Program) (n : Nat) (o : Oper) : PvOk P n o (pv0 P n o) := by
  unfold pv0
  split
  · rename_i x ho
    intro tm h asm v hv
    have hv : (gop x).g tm = some v := hv
    rw [gop_ok x tm n] at hv
    simp only [xPure, kpOf, ho, kpMove, hv, one1]
  · rename_i x ho
    intro tm h asm v hv
    have hv : (gop x).g tm = some v := hv
    rw [gop_ok x tm n] at hv
    simp only [xPure, kpOf, ho, kpAssign, hv, one1]
  · rename_i t x ho
    exact pv1_ok (q := (kload P t).q) fun h asm a v hv => by rw [kload_eq]; simp only [xPure, kpOf, ho, kpLoad, hv]
  · rename_i x ho
    exact pv1_ok (nilCheckF_ok ho)
  · rename_i x i ho
    exact pv1_ok (extractF_ok ho)
  · rename_i t x f ho
    exact pv1_ok (q := fun _ v => (kfaddr P t f).q v) fun h asm a v hv => by rw [kfaddr_eq]; simp only [xPure, kpOf, ho, kpFieldAddr, hv]
  · rename_i t x f ho
    exact pv1_ok (q := fun _ v => (kfield P t f).q v) fun h asm a v hv => by rw [kfield_eq]; simp only [xPure, kpOf, ho, kpField, hv]
  · rename_i op _ x ho
    exact pv1_ok fun h asm a v hv => by simp only [xPure, kpOf, ho, kpUnOp, hv]
  · rename_i op t x y _ ho
    exact pv2_ok (q := fun _ u v => (kbinS P op t (isConstO x || isConstO y)).q u v) fun h asm a u v hu hv => by rw [kbinS_eq]; simp only [xPure, kpOf, ho, kpBinOp, hu, hv]
  · rename_i t x i ho
    exact pv2_ok (q := fun _ u v => (kiaddr P t).q u v) fun h asm a u v hu hv => by rw [kiaddr_eq]; simp only [xPure, kpOf, ho, kpIndexAddr, hu, hv]
  · rename_i t x i ho
    exact pv2_ok fun h asm a u v hu hv => by simp only [xPure, kpOf, ho, kpIndex, hu, hv]
  · rename_i c x y ho
    intro tm h asm v hv
    have hv : @Option.rec SV (fun _ => Option SV) none (fun b => @BV.rec (fun _ => Option SV) none (fun b => @Bool.rec (fun _ => Option SV) ((gop y).g tm) ((gop x).g tm) b) (fun _ => none) (asBool b)) ((gop c).g tm) = some v := hv
    obtain ⟨b, h1, h2⟩ := optO hv
    rw [gop_ok c tm n] at h1
    cases hb : asBool b with
    | no => rw [hb] at h2; cases h2
    | sym z => rw [hb] at h2; cases h2
    | lit z =>
      rw [hb] at h2
      have := asBool_lit hb
      subst this
      cases z with
      | true =>
        have h2 : (gop x).g tm = some v := h2
        rw [gop_ok x tm n] at h2
        simp only [xPure, kpOf, ho, kpPick, xpick, h1, h2, one1]
      | false =>
        have h2 : (gop y).g tm = some v := h2
        rw [gop_ok y tm n] at h2
        simp only [xPure, kpOf, ho, kpPick, xpick, h1, h2, one1]
  · rename_i t parts ho
    intro tm h asm v hv
    split at hv
    · rename_i b z hb
      have hv : (b.b tm z fun c => some (.agg c)) = some v := hv
      rcases kbuildW_ok hb n tm (fun c => some (.agg c)) with e | ⟨c, h1, h2⟩
      · rw [e] at hv; cases hv
      · rw [h2] at hv
        cases hv
        simp only [xPure, kpOf, ho, kpBuild, h1, one1]
    · have hv : xbuild P ⟨tm, n⟩ t parts = some v := hv
      simp only [xPure, kpOf, ho, kpBuild, hv, one1]
  · rename_i t x ho
    intro tm h asm v hv
    have hv : (match kpMakeInterface t x P h asm ⟨tm, n⟩ with | some [q] => some q.1 | _ => none) = some v := hv
    simp only [xPure, kpOf, ho]
    split at hv
    · rename_i q hq
      cases hv
      unfold kpMakeInterface at hq ⊢
      split at hq
      · split at hq
        · cases hq
        · cases hq; rfl
        · cases hq
      · cases hq
    · cases hv
  · rename_i x xt t ok ho
    exact pv1_ok fun h asm a v hv => by simp only [xPure, kpOf, ho, kpTypeAssert, hv]
  · rename_i src dst x ho
    exact pv1_ok fun h asm a v hv => by simp only [xPure, kpOf, ho, kpConvert, hv]
  · rename_i args tys ho
    split
    · rename_i x t h1 h2
      exact pv1_ok (q := (klen P t).q) fun h asm a v hv => by rw [klen_eq]; simp only [xPure, kpOf, ho, kpCall, h1, h2, hv]
    · exact fun tm h asm v hv => by cases hv
  · exact fun tm h asm v hv => by cases hv
end
/-- What a load or a lookup sees, else the value. -/
noncomputable def pvT (P : Program) (n : Nat) (o : Oper) : PV := match o.op with
  | .lookup t x k ok => pv2 x k fun h u v => lookL P t h u v ok
  | _ => pv0 P n o
/-- The same with its guard: it runs, or it is skipped. -/
structure GPV where
  p : Frame → T SObj → Asm → (SV → Res) → Res → Res → Res
/-- run: with its value; skip; no -/
noncomputable def pvgF (ops : Array Oper) (o : Oper) (pv : PV) : GPV :=
  match o.guard with
  | none => @PV.rec (fun _ => GPV) (fun f => ⟨fun tm h asm k _ no => @Option.rec SV (fun _ => Res) no k (f tm h asm)⟩) pv
  | some (j, want) => match (ops[j]?).bind (·.dst) with
    | none => ⟨fun _ _ _ _ sk _ => sk⟩
    | some t => @GW.rec (fun _ => GPV) (fun g => @PV.rec (fun _ => GPV) (fun f => match want with
      | true => ⟨fun tm h asm k sk no => @Option.rec SV (fun _ => Res) no (fun u => @GV.rec (fun _ => Res) no sk (fun b => @Bool.rec (fun _ => Res) sk (@Option.rec SV (fun _ => Res) no k (f tm h asm)) b) (fun _ => no) (asGuard u)) (g tm)⟩
      | false => ⟨fun tm h asm k sk no => @Option.rec SV (fun _ => Res) no (fun u => @GV.rec (fun _ => Res) no sk (fun b => @Bool.rec (fun _ => Res) (@Option.rec SV (fun _ => Res) no k (f tm h asm)) sk b) (fun _ => no) (asGuard u)) (g tm)⟩) pv) (gtmp t)
theorem pvgF_ok {n : Nat} {ops : Array Oper} {o : Oper} {pv : PV} {tm : Frame} {h : T SObj} {asm : Asm} {k : SV → Res} {sk no : Res} {outs : List (SExit × Frame × St)} (hh : ((pvgF ops o pv).p tm h asm k sk no).outs = some outs) :
    no.outs = some outs ∨ (guardOn ops ⟨tm, n⟩ o = some (.lit false) ∧ sk.outs = some outs) ∨ (guardOn ops ⟨tm, n⟩ o = some (.lit true) ∧ ∃ v, pv.v tm h asm = some v ∧ (k v).outs = some outs) := by
  have run : ∀ {g : Option BX}, guardOn ops ⟨tm, n⟩ o = g → g = some (.lit true) → (@Option.rec SV (fun _ => Res) no k (pv.v tm h asm)).outs = some outs → no.outs = some outs ∨ (guardOn ops ⟨tm, n⟩ o = some (.lit false) ∧ sk.outs = some outs) ∨ (guardOn ops ⟨tm, n⟩ o = some (.lit true) ∧ ∃ v, pv.v tm h asm = some v ∧ (k v).outs = some outs) := fun hg e h1 => by
    cases hv : pv.v tm h asm with
    | none => rw [hv] at h1; exact .inl h1
    | some v => rw [hv] at h1; exact .inr (.inr ⟨hg.trans e, v, rfl, h1⟩)
  unfold pvgF at hh
  split at hh
  · rename_i hg
    exact run (by simp only [guardOn, hg]) rfl hh
  · rename_i j want hg
    split at hh
    · rename_i hj
      exact .inr (.inl ⟨by simp only [guardOn, hg, hj], hh⟩)
    · rename_i t hj
      have cs : ∀ {f : SV → Res}, (@Option.rec SV (fun _ => Res) no f ((gtmp t).g tm)).outs = some outs → no.outs = some outs ∨ ∃ u, tm.get t = some u ∧ (f u).outs = some outs := fun {f} h1 => by
        rw [gtmp_ok] at h1
        cases hu : tm.get t with
        | none => rw [hu] at h1; exact .inl h1
        | some u => rw [hu] at h1; exact .inr ⟨u, rfl, h1⟩
      cases want with
      | true =>
        rcases cs (f := fun u => @GV.rec (fun _ => Res) no sk (fun b => @Bool.rec (fun _ => Res) sk (@Option.rec SV (fun _ => Res) no k (pv.v tm h asm)) b) (fun _ => no) (asGuard u)) hh with h1 | ⟨u, hu, h1⟩
        · exact .inl h1
        · have hv := guard_val n hg hj hu
          cases hb : asGuard u with
          | no => rw [hb] at h1; exact .inl h1
          | sym b => rw [hb] at h1; exact .inl h1
          | skip =>
            rw [hb] at h1
            obtain ⟨l, rfl⟩ := asGuard_skip hb
            exact .inr (.inl ⟨hv, h1⟩)
          | lit b =>
            rw [hb] at h1
            have := asGuard_lit hb
            subst this
            cases b with
            | true => exact run hv rfl h1
            | false => exact .inr (.inl ⟨hv, h1⟩)
      | false =>
        rcases cs (f := fun u => @GV.rec (fun _ => Res) no sk (fun b => @Bool.rec (fun _ => Res) (@Option.rec SV (fun _ => Res) no k (pv.v tm h asm)) sk b) (fun _ => no) (asGuard u)) hh with h1 | ⟨u, hu, h1⟩
        · exact .inl h1
        · have hv := guard_val n hg hj hu
          cases hb : asGuard u with
          | no => rw [hb] at h1; exact .inl h1
          | sym b => rw [hb] at h1; exact .inl h1
          | skip =>
            rw [hb] at h1
            obtain ⟨l, rfl⟩ := asGuard_skip hb
            exact .inr (.inl ⟨hv, h1⟩)
          | lit b =>
            rw [hb] at h1
            have := asGuard_lit hb
            subst this
            cases b with
            | true => exact .inr (.inl ⟨hv, h1⟩)
            | false => exact run hv rfl h1
noncomputable def pvg (P : Program) (n : Nat) (ops : Array Oper) (o : Oper) : GPV := pvgF ops o (pv0 P n o)
theorem pvg_ok {P : Program} {n : Nat} {ops : Array Oper} {o : Oper} {tm : Frame} {h : T SObj} {asm : Asm} {k : SV → Res} {sk no : Res} {outs : List (SExit × Frame × St)} (hh : ((pvg P n ops o).p tm h asm k sk no).outs = some outs) :
    no.outs = some outs ∨ (guardOn ops ⟨tm, n⟩ o = some (.lit false) ∧ sk.outs = some outs) ∨ (guardOn ops ⟨tm, n⟩ o = some (.lit true) ∧ ∃ v, xPure P h asm ⟨tm, n⟩ o = some [(v, asm)] ∧ (k v).outs = some outs) := by
  rcases pvgF_ok (n := n) hh with h1 | h1 | ⟨hg, v, h1, h2⟩
  · exact .inl h1
  · exact .inr (.inl h1)
  · exact .inr (.inr ⟨hg, v, pv0_ok P n o tm h asm v h1, h2⟩)
/-! ### the schedule -/
def isLoad (o : Oper) : Bool := match o.op with
  | .load .. => true
  | .lookup .. => true
  | _ => false
def plainK (o : Oper) : Bool := match o.op with
  | .move _ | .assign _ | .pick .. | .build .. | .nilCheck _ | .binOp .. | .unOp .. | .makeInterface .. | .fieldAddr .. | .field .. | .indexAddr .. | .index .. | .typeAssert .. | .extract .. | .convert .. => true
  | .call { callee := .builtin .len, .. } => true
  | _ => false
/-- The same lists and tests in few steps. -/
noncomputable def readyK (m : Nat) (rows : List RowM) : List RowM := @List.rec RowM (fun _ => List RowM) [] (fun r _ ih => @RowM.rec (fun _ => List RowM) (fun _ b nd _ _ _ => @Bool.rec (fun _ => List RowM) ih (@Bool.rec (fun _ => List RowM) ih (r :: ih) (Nat.beq (Nat.land m nd) nd)) (Nat.beq (Nat.land m b) 0)) r) rows
theorem readyK_eq (m : Nat) (rows : List RowM) : readyK m rows = readyM m rows := by
  induction rows with
  | nil => rfl
  | cons r l ih =>
    obtain ⟨i, b, nd, pu, se, o⟩ := r
    show (@Bool.rec (fun _ => List RowM) (readyK m l) (@Bool.rec (fun _ => List RowM) (readyK m l) (⟨i, b, nd, pu, se, o⟩ :: readyK m l) (Nat.beq (Nat.land m nd) nd)) (Nat.beq (Nat.land m b) 0)) = _
    rw [ih]
    simp only [readyM, meets, within]
    cases Nat.beq (Nat.land m b) 0 with
    | false => rfl
    | true => cases Nat.beq (Nat.land m nd) nd <;> rfl
noncomputable def freeK (rows : List RowM) (x : RowM) (m : Nat) : Bool := @RowM.rec (fun _ => Bool) (fun xi xb _ xp xs _ => @List.rec RowM (fun _ => Bool) true (fun y _ ih => @RowM.rec (fun _ => Bool) (fun i b nd pu se _ =>
  @Bool.rec (fun _ => Bool) ih (@Bool.rec (fun _ => Bool) (@Bool.rec (fun _ => Bool) ih (@Bool.rec (fun _ => Bool) false (@Bool.rec (fun _ => Bool) false (@Bool.rec (fun _ => Bool) false ih (Nat.beq (Nat.land pu xs) 0)) (Nat.beq (Nat.land xp pu) 0)) (Nat.beq (Nat.land xp se) 0)) (Nat.beq (Nat.land nd xb) 0)) ih (Nat.beq xi i)) (Nat.beq (Nat.land m b) 0)) y) rows) x
theorem within_pow (m i : Nat) : within (Nat.pow 2 i) m = meets m (Nat.pow 2 i) := by
  have e : Nat.land m (Nat.pow 2 i) = if m.testBit i then 2 ^ i else 0 := by
    show m &&& 2 ^ i = _
    apply Nat.eq_of_testBit_eq
    intro j
    rw [Nat.testBit_and, Nat.testBit_two_pow]
    by_cases h : i = j
    · subst h
      cases hb : m.testBit i <;> simp [hb]
    · have h' : decide (i = j) = false := decide_eq_false h
      rw [h', Bool.and_false]
      split
      · rw [Nat.testBit_two_pow, h']
      · rw [Nat.zero_testBit]
  unfold within meets
  rw [e]
  have h2 : (2 : Nat) ^ i ≠ 0 := by have := Nat.two_pow_pos i; omega
  split
  · have a : Nat.beq (2 ^ i) (Nat.pow 2 i) = true := Nat.beq_refl _
    have b : Nat.beq (2 ^ i) 0 = false := by
      cases hb : Nat.beq (2 ^ i) 0 with
      | false => rfl
      | true => exact (h2 (Nat.eq_of_beq_eq_true hb)).elim
    rw [a, b]
  · have a : Nat.beq 0 (Nat.pow 2 i) = false := by
      cases hb : Nat.beq 0 (Nat.pow 2 i) with
      | false => rfl
      | true => exact (h2 (Nat.eq_of_beq_eq_true hb).symm).elim
    rw [a]
theorem within_or {a b m : Nat} (ha : within a m = true) (hb : within b m = true) : within (Nat.lor a b) m = true := by
  rw [within_iff] at *
  intro j hj
  have hj : (a ||| b).testBit j = true := hj
  rw [Nat.testBit_or, Bool.or_eq_true] at hj
  exact hj.elim (ha j) (hb j)
theorem freeK_ok {x : RowM} {m : Nat} : ∀ {rows : List RowM}, (∀ y ∈ rows, y.bit = Nat.pow 2 y.i) → freeK rows x m = true → freeM rows x m = true
  | [], _, _ => by
    unfold freeM blockM within
    show Nat.beq (m &&& 0) 0 = true
    rw [Nat.and_zero]; rfl
  | y :: l, hb, h => by
    have ih := freeK_ok (x := x) (m := m) (rows := l) fun z hz => hb z (List.mem_cons_of_mem _ hz)
    have hy := hb y List.mem_cons_self
    obtain ⟨xi, xb, xn, xp, xs, xo⟩ := x
    obtain ⟨i, b, nd, pu, se, o⟩ := y
    dsimp only at hy
    unfold freeM at ih ⊢
    unfold blockM
    dsimp only [Bool.or_eq_true]
    have h : (@Bool.rec (fun _ => Bool) (freeK l ⟨xi, xb, xn, xp, xs, xo⟩ m) (@Bool.rec (fun _ => Bool) (@Bool.rec (fun _ => Bool) (freeK l ⟨xi, xb, xn, xp, xs, xo⟩ m) (@Bool.rec (fun _ => Bool) false (@Bool.rec (fun _ => Bool) false (@Bool.rec (fun _ => Bool) false (freeK l ⟨xi, xb, xn, xp, xs, xo⟩ m) (Nat.beq (Nat.land pu xs) 0)) (Nat.beq (Nat.land xp pu) 0)) (Nat.beq (Nat.land xp se) 0)) (Nat.beq (Nat.land nd xb) 0)) (freeK l ⟨xi, xb, xn, xp, xs, xo⟩ m) (Nat.beq xi i)) (Nat.beq (Nat.land m b) 0)) = true := h
    have tail : freeK l ⟨xi, xb, xn, xp, xs, xo⟩ m = true := by
      revert h
      cases Nat.beq (Nat.land m b) 0 <;> cases Nat.beq xi i <;> cases Nat.beq (Nat.land nd xb) 0 <;> cases Nat.beq (Nat.land xp se) 0 <;> cases Nat.beq (Nat.land xp pu) 0 <;> cases Nat.beq (Nat.land pu xs) 0 <;> first | exact id | exact fun h => (Bool.noConfusion h)
    have t := ih tail
    split
    · exact t
    · rename_i hc
      refine within_or ?_ t
      subst hy
      rw [within_pow]
      unfold meets
      simp only [meets] at hc
      revert h hc
      cases Nat.beq (Nat.land m (Nat.pow 2 i)) 0 <;> cases Nat.beq xi i <;> cases Nat.beq (Nat.land nd xb) 0 <;> cases Nat.beq (Nat.land xp se) 0 <;> cases Nat.beq (Nat.land xp pu) 0 <;> cases Nat.beq (Nat.land pu xs) 0 <;> simp
noncomputable def findK (p : RowM → Bool) (l : List RowM) : Option RowM := @List.rec RowM (fun _ => Option RowM) none (fun r _ ih => @Bool.rec (fun _ => Option RowM) ih (some r) (p r)) l
theorem findK_eq (p : RowM → Bool) (l : List RowM) : findK p l = l.find? p := by
  induction l with
  | nil => rfl
  | cons r l ih =>
    show (@Bool.rec (fun _ => Option RowM) (findK p l) (some r) (p r)) = _
    rw [List.find?_cons, ih]
    cases p r <;> rfl
noncomputable def andK (a b : Bool) : Bool := @Bool.rec (fun _ => Bool) false b a
theorem andK_eq (a b : Bool) : andK a b = (a && b) := by cases a <;> rfl
noncomputable def take1 (rows : List RowM) (m : Nat) : Option RowM := findK (fun r => andK (isLoad r.o || plainK r.o) (freeK rows r m)) (readyK m rows)
noncomputable def take2 (rows : List RowM) (m : Nat) : Option RowM := findK (fun r => andK (plainK r.o) (freeK rows r m)) (readyK m rows)
theorem take1_ok {rows : List RowM} {m : Nat} {r : RowM} (h : take1 rows m = some r) : r ∈ readyM m rows ∧ (isLoad r.o || plainK r.o) = true ∧ freeK rows r m = true := by
  unfold take1 at h
  rw [findK_eq, readyK_eq] at h
  have h2 := List.find?_some h
  rw [andK_eq, Bool.and_eq_true] at h2
  exact ⟨List.mem_of_find?_eq_some h, h2⟩
theorem take2_ok {rows : List RowM} {m : Nat} {r : RowM} (h : take2 rows m = some r) : r ∈ readyM m rows ∧ plainK r.o = true ∧ freeK rows r m = true := by
  unfold take2 at h
  rw [findK_eq, readyK_eq] at h
  have h2 := List.find?_some h
  rw [andK_eq, Bool.and_eq_true] at h2
  exact ⟨List.mem_of_find?_eq_some h, h2⟩
/-- a look that comes up beside other operations -/
noncomputable def take3 (rows : List RowM) (m : Nat) (ks : List Nat) : Option RowM := findK (fun r => andK (isLoad r.o) (andK (freeK rows r m) (!ks.any (Nat.beq r.i)))) (readyK m rows)
theorem take3_ok {rows : List RowM} {m : Nat} {ks : List Nat} {r : RowM} (h : take3 rows m ks = some r) : r ∈ readyM m rows ∧ isLoad r.o = true ∧ freeK rows r m = true ∧ ks.any (Nat.beq r.i) = false := by
  unfold take3 at h
  rw [findK_eq, readyK_eq] at h
  have h2 := List.find?_some h
  rw [andK_eq, andK_eq, Bool.and_eq_true, Bool.and_eq_true, Bool.not_eq_true'] at h2
  exact ⟨List.mem_of_find?_eq_some h, h2⟩
noncomputable def list1 (rows : List RowM) : Nat → Nat → List RowM
  | 0, _ => []
  | f + 1, m => match take1 rows m with
    | some r => r :: list1 rows f (Nat.lor m r.bit)
    | none => []
def maskAfter (m : Nat) : List RowM → Nat
  | [] => m
  | r :: l => maskAfter (Nat.lor m r.bit) l
def TakesOk (rows : List RowM) : Nat → List RowM → Prop
  | _, [] => True
  | m, r :: l => r ∈ readyM m rows ∧ freeM rows r m = true ∧ TakesOk rows (Nat.lor m r.bit) l
theorem list1_ok {rows : List RowM} (hb : ∀ y ∈ rows, y.bit = Nat.pow 2 y.i) : ∀ (f m : Nat), TakesOk rows m (list1 rows f m)
  | 0, m => trivial
  | f + 1, m => by
    unfold list1
    split
    · rename_i r hr
      obtain ⟨h1, -, h2⟩ := take1_ok hr
      exact ⟨h1, freeK_ok hb h2, list1_ok hb f _⟩
    · trivial
noncomputable def loadAddr (o : Oper) : GW := match o.op with
  | .load _ x => gop x
  | .lookup _ x _ _ => gop x
  | _ => ⟨fun _ => none⟩
theorem pvT_ok {P : Program} {n : Nat} {o : Oper} (hl : isLoad o = true) {tm : Frame} {h : T SObj} {asm : Asm} {v u : SV} {k : Nat} {x : Look} (hv : (pvT P n o).v tm h asm = some v) (ha : (loadAddr o).g tm = some u) (hk : mkLook h k u = some x) : xPure P x.heap asm ⟨tm, n⟩ o = some [(v, asm)] := by
  obtain ⟨-, -, m3, m4⟩ := mkLook_ok hk
  unfold isLoad at hl
  split at hl
  · rename_i ty y ho
    have hx := pv0_ok P n o tm h asm v (by simpa only [pvT, ho] using hv)
    simp only [loadAddr, ho] at ha
    rw [gop_ok y tm n] at ha
    simp only [xPure, kpOf, ho, kpLoad, ha] at hx ⊢
    cases hv : xload P h ty u with
    | none => rw [hv] at hx; cases hx
    | some v' =>
      rw [hv] at hx
      cases hx
      rw [m3 P ty v hv]; rfl
  · rename_i t y z ok ho
    simp only [pvT, ho] at hv
    have hv : @Option.rec SV (fun _ => Option SV) none (fun u => @Option.rec SV (fun _ => Option SV) none (fun u' => lookL P t h u u' ok) ((gop z).g tm)) ((gop y).g tm) = some v := hv
    simp only [loadAddr, ho] at ha
    rw [ha] at hv
    obtain ⟨u', h2, h3⟩ := optO hv
    rw [gop_ok y tm n] at ha
    rw [gop_ok z tm n] at h2
    simp only [xPure, kpOf, ho, kpLookup, ha, h2]
    exact m4 P t u' ok asm v h3
  · cases hl
structure P1W where
  p : Frame → T SObj → Asm → (Frame → List Look → Res) → Res → Res
noncomputable def p1 (P : Program) (n : Nat) (ops : Array Oper) : List RowM → P1W
  | [] => ⟨fun tm _ _ k _ => k tm []⟩
  | r :: l => match isLoad r.o with
    | true => @GPV.rec (fun _ => P1W) (fun f => @GW.rec (fun _ => P1W) (fun g => @PW.rec Res (fun _ => P1W) (fun p => @P1W.rec (fun _ => P1W) (fun q => ⟨fun tm h asm k no =>
        f tm h asm (fun v => @Option.rec SV (fun _ => Res) no (fun a => @Option.rec Look (fun _ => Res) no (fun x => p tm v fun tm' => q tm' h asm (fun t L => k t (x :: L)) no) (mkLook h r.i a)) (g tm)) (p tm skipV fun tm' => q tm' h asm k no) no⟩) (p1 P n ops l)) (pdst n r.o.dst)) (loadAddr r.o)) (pvgF ops r.o (pvT P n r.o))
    | false => @GPV.rec (fun _ => P1W) (fun f => @PW.rec Res (fun _ => P1W) (fun p => @P1W.rec (fun _ => P1W) (fun q => ⟨fun tm h asm k no =>
        f tm .nil asm (fun v => p tm v fun tm' => q tm' h asm k no) (p tm skipV fun tm' => q tm' h asm k no) no⟩) (p1 P n ops l)) (pdst n r.o.dst)) (pvg P n ops r.o)
inductive Pass (P : Program) (n : Nat) (ops : Array Oper) (h : T SObj) (asm : Asm) : List RowM → Frame → Frame → List Look → Prop
  | nil (tm : Frame) : Pass P n ops h asm [] tm tm []
  | skip {r : RowM} {l : List RowM} {tm t : Frame} {a : SAct} {L : List Look} : guardOn ops ⟨tm, n⟩ r.o = some (.lit false) → SAct.put ⟨tm, n⟩ r.o.dst skipV = some a → a.n = n → Pass P n ops h asm l a.tm t L → Pass P n ops h asm (r :: l) tm t L
  | plain {r : RowM} {l : List RowM} {tm t : Frame} {a : SAct} {v : SV} {L : List Look} : guardOn ops ⟨tm, n⟩ r.o = some (.lit true) → xPure P .nil asm ⟨tm, n⟩ r.o = some [(v, asm)] → SAct.put ⟨tm, n⟩ r.o.dst v = some a → a.n = n → Pass P n ops h asm l a.tm t L → Pass P n ops h asm (r :: l) tm t L
  | load {r : RowM} {l : List RowM} {tm t : Frame} {a : SAct} {v : SV} {L : List Look} {x : Look} : guardOn ops ⟨tm, n⟩ r.o = some (.lit true) → xPure P x.heap asm ⟨tm, n⟩ r.o = some [(v, asm)] → isLoad r.o = true → x.k = r.i → Holds h x → SAct.put ⟨tm, n⟩ r.o.dst v = some a → a.n = n → Pass P n ops h asm l a.tm t L → Pass P n ops h asm (r :: l) tm t (x :: L)
section
variable {P : Program} {n : Nat} {ops : Array Oper}
theorem p1_ok {h : T SObj} {asm : Asm} {no : Res} {outs : List (SExit × Frame × St)} : ∀ {l : List RowM} {tm : Frame} {k : Frame → List Look → Res}, ((p1 P n ops l).p tm h asm k no).outs = some outs → no.outs = some outs ∨ ∃ t L, Pass P n ops h asm l tm t L ∧ (k t L).outs = some outs := by
  intro l
  induction l with
  | nil => exact fun {tm k} hh => .inr ⟨tm, [], .nil tm, hh⟩
  | cons r l ih =>
    intro tm k hh
    unfold p1 at hh
    split at hh
    · rename_i hl
      have hh : ((pvgF ops r.o (pvT P n r.o)).p tm h asm (fun v => @Option.rec SV (fun _ => Res) no (fun a => @Option.rec Look (fun _ => Res) no (fun x => (pdst n r.o.dst).p tm v fun tm' => (p1 P n ops l).p tm' h asm (fun t L => k t (x :: L)) no) (mkLook h r.i a)) ((loadAddr r.o).g tm)) ((pdst n r.o.dst).p tm skipV fun tm' => (p1 P n ops l).p tm' h asm k no) no).outs = some outs := hh
      rcases pvgF_ok (n := n) hh with h1 | ⟨hg, h1⟩ | ⟨hg, v, hx, h1⟩
      · exact .inl h1
      · obtain ⟨a, p1, p2, p3⟩ := pdst_ok h1
        rcases ih p3 with e | ⟨t, L, q1, q2⟩
        · exact .inl e
        · exact .inr ⟨t, L, .skip hg p1 p2 q1, q2⟩
      · cases ha : (loadAddr r.o).g tm with
        | none => rw [ha] at h1; exact .inl h1
        | some u =>
          rw [ha] at h1
          have h1 : (@Option.rec Look (fun _ => Res) no (fun x => (pdst n r.o.dst).p tm v fun tm' => (p1 P n ops l).p tm' h asm (fun t L => k t (x :: L)) no) (mkLook h r.i u)).outs = some outs := h1
          cases hk : mkLook h r.i u with
          | none => rw [hk] at h1; exact .inl h1
          | some x =>
            rw [hk] at h1
            obtain ⟨a, p1, p2, p3⟩ := pdst_ok h1
            rcases ih p3 with e | ⟨t, L, q1, q2⟩
            · exact .inl e
            · obtain ⟨m1, m2, -⟩ := mkLook_ok hk
              exact .inr ⟨t, x :: L, .load hg (pvT_ok hl hx ha hk) hl m1 m2 p1 p2 q1, q2⟩
    · have hh : ((pvg P n ops r.o).p tm .nil asm (fun v => (pdst n r.o.dst).p tm v fun tm' => (p1 P n ops l).p tm' h asm k no) ((pdst n r.o.dst).p tm skipV fun tm' => (p1 P n ops l).p tm' h asm k no) no).outs = some outs := hh
      rcases pvg_ok hh with h1 | ⟨hg, h1⟩ | ⟨hg, v, hx, h1⟩
      · exact .inl h1
      · obtain ⟨a, p1, p2, p3⟩ := pdst_ok h1
        rcases ih p3 with e | ⟨t, L, q1, q2⟩
        · exact .inl e
        · exact .inr ⟨t, L, .skip hg p1 p2 q1, q2⟩
      · obtain ⟨a, p1, p2, p3⟩ := pdst_ok h1
        rcases ih p3 with e | ⟨t, L, q1, q2⟩
        · exact .inl e
        · exact .inr ⟨t, L, .plain hg hx p1 p2 q1, q2⟩
theorem yields_run {E : Env} {tm : Frame} {asm : Asm} {A : Act} {o : Oper} {hp : T SObj} {v : SV} {S : World → Prop} (hS : ∀ w, S w → Mem E hp w) {w : World} (hw : S w) (hA : ActRel E ⟨tm, n⟩ A) (ha : AsmOk E asm) (hg : guardOn ops ⟨tm, n⟩ o = some (.lit true)) (hx : xPure P hp asm ⟨tm, n⟩ o = some [(v, asm)]) :
    ∃ V, v.den E = some V ∧ YieldsIf P ops S o V A := by
  obtain ⟨z, h1, h2⟩ := guardOn_ok hA hg
  simp only [BX.den, Option.some.injEq] at h1
  subst h1
  obtain ⟨v1, asm1, V, k1, k2, k3, k4⟩ := xPure_ok (hS w hw) ha hA hx
  cases List.mem_singleton.1 k1
  refine ⟨V, k3, .inl ⟨h2, fun w' hw' => ?_⟩⟩
  obtain ⟨v2, asm2, V2, j1, j2, j3, j4⟩ := xPure_ok (hS w' hw') ha hA hx
  cases List.mem_singleton.1 j1
  rw [k3] at j3
  cases j3
  exact j4
theorem yields_skip {E : Env} {tm : Frame} {A : Act} {o : Oper} {S : World → Prop} (hA : ActRel E ⟨tm, n⟩ A) (hg : guardOn ops ⟨tm, n⟩ o = some (.lit false)) : YieldsIf P ops S o undef A := by
  obtain ⟨z, h1, h2⟩ := guardOn_ok hA hg
  simp only [BX.den, Option.some.injEq] at h1
  subst h1
  exact .inr ⟨h2, rfl⟩
theorem rows_bit : ∀ y ∈ rowsM ops 0 ops.toList, y.bit = Nat.pow 2 y.i := fun y hy => by
  obtain ⟨o, h1, h2⟩ := mem_rows.1 hy
  rw [h2]; rfl
theorem ready_facts {listed : Array Bool} {m : Nat} (hrep : RepM ops listed m) {r : RowM} (hr : r ∈ readyM m (rowsM ops 0 ops.toList)) :
    ops[r.i]? = some r.o ∧ r.i ∈ Region.ready .any ops listed ∧ r.i ∈ unlisted ops listed ∧ condAt ops listed r.i = true ∧ RepM ops (listed.setIfInBounds r.i true) (Nat.lor m r.bit) ∧ r ∈ rowsM ops 0 ops.toList := by
  have hrow := readyM_sub hr
  obtain ⟨o, h1, h2⟩ := mem_rows.1 hrow
  have e1 : r.o = o := by rw [h2]; rfl
  have e2 : r.bit = Nat.pow 2 r.i := by rw [h2]; rfl
  have hready : r.i ∈ Region.ready .any ops listed := by rw [ready_eq hrep]; exact List.mem_map.2 ⟨r, hr, rfl⟩
  have hu := mem_ready.1 hready
  refine ⟨by rw [e1]; exact h1, hready, hu.1, hu.2, ?_, hrow⟩
  rw [e2]
  exact hrep.set (Array.getElem?_eq_some_iff.1 h1).1
theorem take_one (hsel : Region.noSelect ops = true) {Q : Exit → Act → World → Prop} (hQp : ∀ o ∈ ops.toList, ∀ v c a w, Q (.panic c) (Act.put a o.dst v) w → Q (.panic c) a w) {M : Nat → World → Prop} {listed : Array Bool} {m g : Nat} (hrep : RepM ops listed m) (hgl : (unlisted ops listed).length ≤ g) (hcl : Closed ops listed) {r : RowM} (hr : r ∈ readyM m (rowsM ops 0 ops.toList)) (hf : freeM (rowsM ops 0 ops.toList) r m = true)
    {alive : Nat → Prop} {A : Act} {w : World} {V : Value} (hy : YieldsIf P ops (M r.i) r.o V A) (hal : alive r.i) (hM : ∀ k, alive k → M k w)
    (H : ∀ g', (unlisted ops (listed.setIfInBounds r.i true)).length ≤ g' → Closed ops (listed.setIfInBounds r.i true) → wpAnyG P ops Q M g' (listed.setIfInBounds r.i true) alive (A.put r.o.dst V) w) : wpAnyG P ops Q M g listed alive A w := by
  obtain ⟨f1, f2, f3, f4, f5, f6⟩ := ready_facts hrep hr
  obtain ⟨g, rfl⟩ : ∃ g', g = g' + 1 := by
    have := List.length_pos_of_mem f3
    exact ⟨g - 1, by omega⟩
  refine wpAnyG_take f1 hsel (fun c a w => hQp r.o (List.mem_of_getElem? (i := r.i) (by rw [Array.getElem?_toList]; exact f1)) V c a w) (freeM_ok hrep f6 hf) f2 hcl hy hal hM (H g ?_ (hcl.set f4))
  have := unlisted_length f3
  omega
theorem pass_ok (hsel : Region.noSelect ops = true) {Q : Exit → Act → World → Prop} (hQp : ∀ o ∈ ops.toList, ∀ v c a w, Q (.panic c) (Act.put a o.dst v) w → Q (.panic c) a w) {L0 : List Look} (hn : (L0.map (·.k)).Nodup) {E : Env} {w : World} (hM : ∀ k, Mem E (lookHeap L0 k) w) {h : T SObj} {asm : Asm} (ha : AsmOk E asm) :
    ∀ {l : List RowM} {tm t : Frame} {L : List Look}, Pass P n ops h asm l tm t L → (∀ x ∈ L, x ∈ L0) → ∀ {g m : Nat} {listed : Array Bool} {A : Act}, TakesOk (rowsM ops 0 ops.toList) m l → RepM ops listed m → (unlisted ops listed).length ≤ g → Closed ops listed → ActRel E ⟨tm, n⟩ A →
      (∀ g' listed' A', RepM ops listed' (maskAfter m l) → (unlisted ops listed').length ≤ g' → Closed ops listed' → ActRel E ⟨t, n⟩ A' → wpAnyG P ops Q (fun k w => Mem E (lookHeap L0 k) w) g' listed' (fun _ => True) A' w) →
      wpAnyG P ops Q (fun k w => Mem E (lookHeap L0 k) w) g listed (fun _ => True) A w := by
  intro l tm t L hp
  induction hp with
  | nil tm => exact fun _ {g m listed A} _ hrep hgl hcl hA H => H g listed A hrep hgl hcl hA
  | skip hg hput han hrest ih =>
    intro hL g m listed A ht hrep hgl hcl hA H
    obtain ⟨t1, t2, t3⟩ := ht
    have hA' := put_ok hA hput (skipV_den E)
    refine take_one hsel hQp hrep hgl hcl t1 t2 (yields_skip hA hg) trivial (fun k _ => hM k) fun g' hg' hc' => ?_
    refine ih hL t3 (ready_facts hrep t1).2.2.2.2.1 hg' hc' ?_ H
    rename_i a _
    obtain ⟨ta, na⟩ := a
    dsimp only at han
    subst han
    exact hA'
  | plain hg hx hput han hrest ih =>
    intro hL g m listed A ht hrep hgl hcl hA H
    obtain ⟨t1, t2, t3⟩ := ht
    obtain ⟨V, hV, hy⟩ := yields_run (P := P) (ops := ops) (S := fun w => Mem E (lookHeap L0 _) w) (fun w _ => mem_nil) (hM _) hA ha hg hx
    have hA' := put_ok hA hput hV
    refine take_one hsel hQp hrep hgl hcl t1 t2 hy trivial (fun k _ => hM k) fun g' hg' hc' => ?_
    refine ih hL t3 (ready_facts hrep t1).2.2.2.2.1 hg' hc' ?_ H
    rename_i a _ _
    obtain ⟨ta, na⟩ := a
    dsimp only at han
    subst han
    exact hA'
  | load hg hx hld hk hholds hput han hrest ih =>
    intro hL g m listed A ht hrep hgl hcl hA H
    obtain ⟨t1, t2, t3⟩ := ht
    have hxm := hL _ List.mem_cons_self
    have hlh := lookHeap_of hxm hn
    rw [hk] at hlh
    obtain ⟨V, hV, hy⟩ := yields_run (P := P) (ops := ops) (S := fun w => Mem E (lookHeap L0 _) w) (fun w hw => by rw [hlh] at hw; exact hw) (hM _) hA ha hg hx
    have hA' := put_ok hA hput hV
    refine take_one hsel hQp hrep hgl hcl t1 t2 hy trivial (fun k _ => hM k) fun g' hg' hc' => ?_
    refine ih (fun y hy => hL y (List.mem_cons_of_mem _ hy)) t3 (ready_facts hrep t1).2.2.2.2.1 hg' hc' ?_ H
    rename_i a _ _ _
    obtain ⟨ta, na⟩ := a
    dsimp only at han
    subst han
    exact hA'
end
/-! ### blocks that have no name and are kept -/
theorem SX.den_kp (E : Env) (f : Nat → Option Obj) : ∀ s : SX, s.den { E with kp := f } = s.den E
  | .lit _ _ => rfl
  | .var _ => rfl
  | .cat x y => by simp only [SX.den, SX.den_kp E f x, SX.den_kp E f y]
theorem IX.den_kp (E : Env) (f : Nat → Option Obj) : ∀ s : IX, s.den { E with kp := f } = s.den E
  | .lit _ => rfl
  | .var _ => rfl
  | .slen s => by simp only [IX.den, SX.den_kp E f s]
  | .bin _ _ x y => by simp only [IX.den, IX.den_kp E f x, IX.den_kp E f y]
theorem BX.den_kp (E : Env) (f : Nat → Option Obj) : ∀ s : BX, s.den { E with kp := f } = s.den E
  | .lit _ => rfl
  | .var _ => rfl
  | .not x => by simp only [BX.den, BX.den_kp E f x]
  | .ieq x y => by simp only [BX.den, IX.den_kp E f x, IX.den_kp E f y]
  | .ilt x y => by simp only [BX.den, IX.den_kp E f x, IX.den_kp E f y]
  | .seq x y => by simp only [BX.den, SX.den_kp E f x, SX.den_kp E f y]
  | .and x y => by simp only [BX.den, BX.den_kp E f x, BX.den_kp E f y]
mutual
theorem SV.den_kp (E : Env) (f : Nat → Option Obj) : ∀ v : SV, v.den { E with kp := f } = v.den E
  | .bool x => by simp only [SV.den, BX.den_kp E f x]
  | .int k x => by simp only [SV.den, IX.den_kp E f x]
  | .str x => by simp only [SV.den, SX.den_kp E f x]
  | .nilp => by simp only [SV.den]
  | .ptr _ _ => by simp only [SV.den]
  | .nils => by simp only [SV.den]
  | .slc _ _ _ _ _ => by simp only [SV.den]
  | .nilm => by simp only [SV.den]
  | .map _ => by simp only [SV.den]
  | .nilf => by simp only [SV.den]
  | .func fn a b => by simp only [SV.den, SV.denL_kp E f a, SV.denL_kp E f b]
  | .nili => by simp only [SV.den]
  | .iface t v => by simp only [SV.den, SV.den_kp E f v]
  | .agg l => by simp only [SV.den, SV.denL_kp E f l]
  | .tup l => by simp only [SV.den, SV.denL_kp E f l]
  | .opq _ => by simp only [SV.den]
  | .opf _ => by simp only [SV.den]
theorem SV.denL_kp (E : Env) (f : Nat → Option Obj) : ∀ l : List SV, SV.denL { E with kp := f } l = SV.denL E l
  | [] => by simp only [SV.denL]
  | v :: l => by simp only [SV.denL, SV.den_kp E f v, SV.denL_kp E f l]
end
theorem DefsRel.kp {E : Env} (f : Nat → Option Obj) : ∀ {l : List (FuncId × List SV)} {m : List Deferred}, DefsRel E l m → DefsRel { E with kp := f } l m
  | [], [], h => h
  | [], _ :: _, h => h.elim
  | (_, _) :: _, [], h => h.elim
  | (g, xs) :: l, d :: m, h => by
    obtain ⟨⟨cap, L, h1, h2, h3⟩, h4⟩ := h
    exact ⟨⟨cap, L, h1, (SV.denL_kp E f xs).trans h2, h3⟩, DefsRel.kp f h4⟩
theorem ActRel.kp {E : Env} (f : Nat → Option Obj) {a : SAct} {A : Act} (h : ActRel E a A) : ActRel { E with kp := f } a A :=
  ⟨h.size, fun i v hv => by obtain ⟨V, h1, h2⟩ := h.tm i v hv; exact ⟨V, (SV.den_kp E f v).trans h1, h2⟩, h.defers.kp f⟩
theorem rowsOk.kp {E : Env} (f : Nat → Option Obj) {rows : T (List SV)} {nr es base : Nat} {cs : Array Value} (h : rowsOk E rows nr es base cs) : rowsOk { E with kp := f } rows nr es base cs := by
  intro r row hr
  obtain ⟨h1, h2, L, h3, h4⟩ := h r row hr
  exact ⟨h1, h2, L, (SV.denL_kp E f row).trans h3, h4⟩
theorem entsOk.kp {E : Env} (f : Nat → Option Obj) : ∀ {l : List (SV × SV × Nat)} {m : List MapEntry}, entsOk E l m → entsOk { E with kp := f } l m
  | [], [], _ => trivial
  | [], _ :: _, h => h.elim
  | (_, _, _) :: _, [], h => h.elim
  | (k, v, n) :: l, e :: m, h => ⟨(SV.den_kp E f k).trans h.1, (SV.den_kp E f v).trans h.2.1, h.2.2.1, entsOk.kp f h.2.2.2⟩
theorem ObjOk.kp {E : Env} (f : Nat → Option Obj) {base n : Nat} {o : SObj} {O : Option Obj} (h : ObjOk E base n o O) : ObjOk { E with kp := f } base n o O := by
  cases o with
  | dead => trivial
  | cells rows nr es ty opn ro => obtain ⟨cs, fr, ty', h1, h2, h3, h4, h5, h6⟩ := h; exact ⟨cs, fr, ty', h1, h2, h3, h4, h5, h6.kp f⟩
  | map ents clock => obtain ⟨es, h1, h2⟩ := h; exact ⟨es, h1, h2.kp f⟩
  | miter m since seen stepped => exact h
  | siter s pos => obtain ⟨h0, bs, h1, h2⟩ := h; exact ⟨h0, bs, (SX.den_kp E f s).trans h1, h2⟩
  | umap l => obtain ⟨es, c, ents, h1, h2, h3⟩ := h; exact ⟨es, c, ents, h1, h2, h3.kp f⟩
  | raw => exact h
theorem QQ.kp {E : Env} (f : Nat → Option Obj) {w : World} (h : QQ E w) : QQ { E with kp := f } w :=
  QQ.mono (E := { E with blk := fun _ => none, fv := fun _ => none, kp := f }) (F := { E with kp := f }) ⟨fun _ _ h => (by cases h), fun _ _ h => h, fun _ _ h => h, fun _ _ h => h, fun _ _ h => h, fun _ _ h => (by cases h), rfl⟩ (QQ.noBlk h)
theorem Rel.setKp {w0 w : World} {E : Env} {s : St} (R : Rel w0 E s w) (f : Nat → Option Obj) (h1 : ∀ k O, f k = some O → w0.heap.size ≤ k ∧ w.heap[k]? = some O) (h2 : ∀ id o x, s.h.get id = some o → o.live = true → E.blk id = some x → f x.1 = none) : Rel w0 { E with kp := f } s w where
  os := R.os
  tape := R.tape
  output := R.output
  size := R.size
  frame := R.frame
  mem := fun id o h hl => by obtain ⟨b, base, n, e1, e2⟩ := R.mem id o h hl; exact ⟨b, base, n, e1, e2.kp f⟩
  fresh := R.fresh
  new := R.new
  inj := R.inj
  asm := fun c v h => (BX.den_kp E f c).trans (R.asm c v h)
  rsv := R.rsv
  qq := R.qq.kp f
  vfr := R.vfr
  keep := h1
  apart := h2
/-! ### a temporary is forgotten -/
def Frame.clr (f : Frame) (i : Nat) : Frame := f.setPart (Nat.div i 16) ((f.part (Nat.div i 16)).set (Nat.div i 4) (((f.part (Nat.div i 16)).get (Nat.div i 4)).set i none))
theorem Frame.ds_clr (f : Frame) (i : Nat) : (f.clr i).ds = f.ds := Frame.ds_setPart _ _ _
theorem Frame.get_clr (f : Frame) {i : Nat} (hi : i < 64) (j : Nat) : (f.clr i).get j = if i = j then none else f.get j := by
  have hb : ∀ n, Nat.blt n 64 = decide (n < 64) := fun n => by rw [Bool.eq_iff_iff, Nat.blt_eq, decide_eq_true_eq]
  by_cases hj : j < 64
  · have e2 : Nat.blt j 64 = true := by rw [hb]; simpa using hj
    simp only [Frame.get, Frame.clr, e2]
    have ed : ∀ a b : Nat, Nat.div a b = a / b := fun _ _ => rfl
    simp only [ed]
    rw [Frame.part_setPart]
    by_cases h1 : i / 16 % 4 = j / 16 % 4
    · rw [if_pos h1, F4.get_set]
      have e3 : f.part (i / 16) = f.part (j / 16) := by
        have := (@bits_iff (i / 16) (j / 16)).2 h1
        simp only [Frame.part, F4.get, this.1, this.2]
      by_cases h2 : i / 4 % 4 = j / 4 % 4
      · have e4 : ∀ t : F16, t.get (i / 4) = t.get (j / 4) := fun t => by
          have := (@bits_iff (i / 4) (j / 4)).2 h2
          simp only [F4.get, this.1, this.2]
        rw [if_pos h2, F4.get_set]
        by_cases h3 : i % 4 = j % 4
        · have : i = j := by omega
          rw [if_pos h3, if_pos this]
        · have : ¬ i = j := fun e => h3 (by rw [e])
          rw [if_neg h3, if_neg this]
          show ((f.part (i / 16)).get (i / 4)).get j = ((f.part (j / 16)).get (j / 4)).get j
          rw [e3, e4]
      · have : ¬ i = j := fun e => h2 (by rw [e])
        rw [if_neg h2, if_neg this]
        show ((f.part (i / 16)).get (j / 4)).get j = ((f.part (j / 16)).get (j / 4)).get j
        rw [e3]
    · have : ¬ i = j := fun e => h1 (by rw [e])
      rw [if_neg h1, if_neg this]
  · have e2 : Nat.blt j 64 = false := by rw [hb]; simpa using hj
    have : ¬ i = j := fun e => hj (by omega)
    simp only [Frame.get, Frame.clr, e2, if_neg this]
    show (Frame.setPart _ _ _).rest.get _ = _
    rw [Frame.rest_setPart]
structure LC (α : Type) where
  p : α → (α → Res) → Res
noncomputable def cleaf (t : Nat) : LC (F4 (Option SV)) := F4.get
  ⟨⟨fun q k => @F4.rec (Option SV) (fun _ => Res) (fun a b c d => k ⟨none, b, c, d⟩) q⟩, ⟨fun q k => @F4.rec (Option SV) (fun _ => Res) (fun a b c d => k ⟨a, none, c, d⟩) q⟩,
   ⟨fun q k => @F4.rec (Option SV) (fun _ => Res) (fun a b c d => k ⟨a, b, none, d⟩) q⟩, ⟨fun q k => @F4.rec (Option SV) (fun _ => Res) (fun a b c d => k ⟨a, b, c, none⟩) q⟩⟩ t
noncomputable def cmid (t : Nat) : LC F16 := @LC.rec (F4 (Option SV)) (fun _ => LC F16) (fun r => F4.get
  ⟨⟨fun q k => @F4.rec (F4 (Option SV)) (fun _ => Res) (fun a b c d => r a fun x => k ⟨x, b, c, d⟩) q⟩, ⟨fun q k => @F4.rec (F4 (Option SV)) (fun _ => Res) (fun a b c d => r b fun x => k ⟨a, x, c, d⟩) q⟩,
   ⟨fun q k => @F4.rec (F4 (Option SV)) (fun _ => Res) (fun a b c d => r c fun x => k ⟨a, b, x, d⟩) q⟩, ⟨fun q k => @F4.rec (F4 (Option SV)) (fun _ => Res) (fun a b c d => r d fun x => k ⟨a, b, c, x⟩) q⟩⟩ (Nat.div t 4)) (cleaf t)
noncomputable def cnear (t : Nat) : LC Frame := @LC.rec F16 (fun _ => LC Frame) (fun r => F4.get
  ⟨⟨fun f k => @Frame.rec (fun _ => Res) (fun a b c d e g => r a fun x => k ⟨x, b, c, d, e, g⟩) f⟩, ⟨fun f k => @Frame.rec (fun _ => Res) (fun a b c d e g => r b fun x => k ⟨a, x, c, d, e, g⟩) f⟩,
   ⟨fun f k => @Frame.rec (fun _ => Res) (fun a b c d e g => r c fun x => k ⟨a, b, x, d, e, g⟩) f⟩, ⟨fun f k => @Frame.rec (fun _ => Res) (fun a b c d e g => r d fun x => k ⟨a, b, c, x, e, g⟩) f⟩⟩ (Nat.div t 16)) (cmid t)
theorem cleaf_ok (t : Nat) (q : F4 (Option SV)) (k : F4 (Option SV) → Res) : (cleaf t).p q k = k (q.set t none) := by
  unfold cleaf
  rcases F4.four t with h | h | h | h <;> rw [(h _ _).1, (h _ _).2]
theorem cmid_ok (t : Nat) (q : F16) (k : F16 → Res) : (cmid t).p q k = k (q.set (Nat.div t 4) ((q.get (Nat.div t 4)).set t none)) := by
  have hr := cleaf_ok t
  unfold cmid
  revert hr
  generalize cleaf t = L
  intro hr
  cases L with
  | mk r =>
    dsimp only at hr ⊢
    rcases F4.four (Nat.div t 4) with h | h | h | h <;> rw [(h _ _).1, (h _ _).2, (h _ _).1] <;> exact hr _ _
theorem cnear_ok (t : Nat) (f : Frame) (k : Frame → Res) : (cnear t).p f k = k (f.clr t) := by
  have hr := cmid_ok t
  unfold cnear Frame.clr
  revert hr
  generalize cmid t = L
  intro hr
  cases L with
  | mk r =>
    dsimp only at hr ⊢
    simp only [Frame.setPart, Frame.part]
    rw [F4.get]
    generalize ht : Nat.div t 16 = u
    have e : ∀ x : F4 F16, x.get u = @Bool.casesOn (fun _ => F16) (bitB u) (@Bool.casesOn (fun _ => F16) (bitA u) x.d x.c) (@Bool.casesOn (fun _ => F16) (bitA u) x.b x.a) := fun x => by rw [F4.get]
    rw [e]
    cases bitA u <;> cases bitB u <;> exact hr _ _
theorem ActRel.clr {E : Env} {tm : Frame} {n : Nat} {A : Act} (h : ActRel E ⟨tm, n⟩ A) {d : Nat} (hd : d < 64) : ActRel E ⟨tm.clr d, n⟩ A := by
  refine ⟨h.size, fun i v hv => ?_, ?_⟩
  · have hv : (tm.clr d).get i = some v := hv
    rw [Frame.get_clr _ hd] at hv
    split at hv
    · cases hv
    · exact h.tm i v hv
  · show DefsRel E (tm.clr d).ds A.defers
    rw [Frame.ds_clr]
    exact h.defers
theorem put_keep {A : Act} {d : Option Tmp} {v : Value} {j : Nat} (h : d ≠ some j) : (A.put d v).tmps[j]? = A.tmps[j]? := by
  unfold Act.put
  cases d with
  | none => rfl
  | some d =>
    have : d ≠ j := fun e => h (by rw [e])
    simp [Array.getElem?_setIfInBounds, this]
theorem ActRel.clrPut {E : Env} {tm : Frame} {n : Nat} {A : Act} (h : ActRel E ⟨tm, n⟩ A) {d : Nat} (hd : d < 64) (V : Value) : ActRel E ⟨tm.clr d, n⟩ (A.put (some d) V) := by
  refine ⟨by simpa [Act.put] using h.size, fun i v hv => ?_, ?_⟩
  · have hv : (tm.clr d).get i = some v := hv
    rw [Frame.get_clr _ hd] at hv
    split at hv
    · cases hv
    · rename_i e
      obtain ⟨V', h1, h2⟩ := h.tm i v hv
      exact ⟨V', h1, by rw [put_keep (fun e' => e (by injection e'))]; exact h2⟩
  · show DefsRel E (tm.clr d).ds (A.put (some d) V).defers
    rw [Frame.ds_clr]
    exact h.defers
theorem put_size {A : Act} {d : Option Tmp} {v : Value} : (A.put d v).tmps.size = A.tmps.size := by
  cases d <;> simp [Act.put]
theorem wp_keep {P : Program} {o : Oper} {A : Act} {w : World} {K : Act → World → Prop} {Q : Exit → Act → World → Prop} (hh : o.wp P A w K Q) : o.wp P A w (fun a' w' => (∀ j, o.dst ≠ some j → a'.tmps[j]? = A.tmps[j]?) ∧ K a' w') Q := by
  unfold Oper.wp at *
  generalize (execOp A.eval o).run P w = r at *
  cases r with
  | ok n w' =>
    cases n <;> simp only [Oper.upon] at hh ⊢ <;>
      first
        | exact ⟨fun j hj => put_keep hj, hh⟩
        | exact Calls.mono hh (fun e w'' he => by cases e <;> first | exact ⟨fun j hj => put_keep hj, he⟩ | exact he)
        | exact Rows.mono hh (fun _ _ he => ⟨fun j hj => put_keep hj, he⟩)
  | halt x w' => cases x <;> simp only [Oper.upon] at hh ⊢ <;> exact hh
/-! ### the second half -/
noncomputable def holdAll (al : List Nat) (h : T SObj) (L : List Look) : Bool := @List.rec Look (fun _ => Bool) true (fun x _ ih => @Bool.rec (fun _ => Bool) ih (@Bool.rec (fun _ => Bool) false ih (holds h x)) (al.any (Nat.beq x.k))) L
theorem holdAll_ok {al : List Nat} {h : T SObj} : ∀ {L : List Look}, holdAll al h L = true → ∀ x ∈ L, x.k ∈ al → Holds h x
  | [], _, x, hx, _ => by cases hx
  | y :: L, hh, x, hx, hk => by
    have hh : @Bool.rec (fun _ => Bool) (holdAll al h L) (@Bool.rec (fun _ => Bool) false (holdAll al h L) (holds h y)) (al.any (Nat.beq y.k)) = true := hh
    rcases List.mem_cons.1 hx with e | hx
    · subst e
      have : al.any (Nat.beq x.k) = true := List.any_eq_true.2 ⟨x.k, hk, Nat.beq_refl _⟩
      rw [this] at hh
      have hh : @Bool.rec (fun _ => Bool) false (holdAll al h L) (holds h x) = true := hh
      cases hb : holds h x with
      | true => exact holds_ok hb
      | false => rw [hb] at hh; cases hh
    · refine holdAll_ok (L := L) ?_ x hx hk
      cases hb : al.any (Nat.beq y.k) with
      | false => rw [hb] at hh; exact hh
      | true =>
        rw [hb] at hh
        have hh : @Bool.rec (fun _ => Bool) false (holdAll al h L) (holds h y) = true := hh
        cases hc : holds h y with
        | true => rw [hc] at hh; exact hh
        | false => rw [hc] at hh; cases hh
structure R2W where
  f : List Look → Res → FK → Frame → St → (Frame → St → Res) → Res
def later (ops : Array Oper) (i : Nat) (al : List Nat) : List Nat := al.filter fun k => !anc ops 4 i k
noncomputable def r2take (P : Program) (n : Nat) (ops : Array Oper) (x : RowM) (nx : R2W) : R2W :=
  @GPV.rec (fun _ => R2W) (fun f => @PW.rec Res (fun _ => R2W) (fun p => @R2W.rec (fun _ => R2W) (fun q => ⟨fun L no F tm s k => f tm .nil s.asm (fun v => p tm v fun tm' => q L no F tm' s k) (p tm skipV fun tm' => q L no F tm' s k) no⟩) nx) (pdst n x.o.dst)) (pvg P n ops x.o)
noncomputable def r2look (P : Program) (n : Nat) (ops : Array Oper) (x : RowM) (nx : R2W) : R2W :=
  @GPV.rec (fun _ => R2W) (fun f => @GW.rec (fun _ => R2W) (fun g => @PW.rec Res (fun _ => R2W) (fun p => @R2W.rec (fun _ => R2W) (fun q => ⟨fun L no F tm s k =>
    f tm s.h s.asm (fun v => @Option.rec SV (fun _ => Res) no (fun a => @Option.rec Look (fun _ => Res) no (fun y => p tm v fun tm' => q (y :: L) no F tm' s k) (mkLook s.h x.i a)) (g tm)) (p tm skipV fun tm' => q L no F tm' s k) no⟩) nx) (pdst n x.o.dst)) (loadAddr x.o)) (pvgF ops x.o (pvT P n x.o))
noncomputable def r2step (P : Program) (n : Nat) (ops : Array Oper) (x : RowM) (al : List Nat) (nx : R2W) : R2W :=
  @KW.rec (fun _ => R2W) (fun f => @R2W.rec (fun _ => R2W) (fun q => match al with
    | [] => ⟨fun L no F tm s k => f F tm s fun tm' s' => q L no F tm' s' k⟩
    | al => ⟨fun L no F tm s k => f F tm s fun tm' s' => @Bool.rec (fun _ => Res) no (q L no F tm' s' k) (holdAll al s'.h L)⟩) nx) (kop P n ops x.o)
/-! ### a new variable that comes up ahead of a call, or behind it -/
/-- What an operation makes that makes a new block and does nothing else. -/
def mkOf (P : Program) (a : SAct) (s : St) (o : Oper) : Option (SV × St) := match o.op with
  | .alloc t => match xzero P t with
    | some z => some (newVar s (cellsOf z) t)
    | none => none
  | .buildSlice t len parts => match xbuildSlice P s a t len parts with
    | some [q] => some q
    | _ => none
  | _ => none
def partTmps (o : Oper) : List Nat := match o.op with
  | .buildSlice _ _ parts => parts.toList.filterMap fun p => match p.2 with
    | .tmp j => some j
    | _ => none
  | _ => []
def lateV (P : Program) (o : Oper) : Option Nat := match o.guard, o.dst with
  | none, some d => match Nat.blt d 64 && !(partTmps o).any (Nat.beq d) with
    | true => match o.op with
      | .alloc t => match xzero P t with
        | some _ => some d
        | none => none
      | .buildSlice .. => some d
      | _ => none
    | false => none
  | _, _ => none
/-- It can be made now. -/
structure DryW where
  d : Frame → St → Bool
def dryOf (P : Program) (n : Nat) (o : Oper) : DryW := match o.op with
  | .alloc _ => ⟨fun _ _ => true⟩
  | _ => ⟨fun tm s => (mkOf P ⟨tm, n⟩ s o).isSome⟩
/-- Neither where it goes nor what it reads. -/
def dstOk (v : RowM) (d : Nat) (x : RowM) : Bool := !decide (x.o.dst = some d) && !(partTmps v.o).any fun j => decide (x.o.dst = some j)
def sameI : List RowM → List RowM → Bool
  | [], [] => true
  | x :: l, y :: l' => Nat.beq x.i y.i && sameI l l'
  | _, _ => false
def dropI (i : Nat) : List RowM → List RowM
  | [] => []
  | x :: l => match Nat.beq x.i i with
    | true => dropI i l
    | false => x :: dropI i l
noncomputable def takeP2 (rows : List RowM) (m : Nat) (v : RowM) (d : Nat) : Option RowM := findK (fun r => andK (plainK r.o) (andK (dstOk v d r) (andK (freeK rows r m) (freeK rows r (Nat.lor m v.bit))))) (readyK (Nat.lor m v.bit) rows)
noncomputable def takeP4 (rows : List RowM) (m : Nat) (v : RowM) (d : Nat) : Option RowM := findK (fun r => andK (plainK r.o) (andK (dstOk v d r) (andK (freeK rows r m) (andK (freeK rows r (Nat.lor m v.bit)) ((readyK m rows).any fun y => Nat.beq y.i r.i))))) (readyK (Nat.lor m v.bit) rows)
noncomputable def takeP3 (rows : List RowM) (m : Nat) (v : RowM) (d : Nat) (an : Nat → Bool) (ks : List Nat) : Option RowM := findK (fun r => andK (isLoad r.o) (andK (dstOk v d r) (andK (!ks.any (Nat.beq r.i)) (andK (!an r.i) (andK (freeK rows r m) (freeK rows r (Nat.lor m v.bit))))))) (readyK (Nat.lor m v.bit) rows)
noncomputable def r2pstep (P : Program) (n : Nat) (ops : Array Oper) (x v : RowM) (d : Nat) (al : List Nat) (nx : R2W) : R2W :=
  @LC.rec Frame (fun _ => R2W) (fun c => @R2W.rec (fun _ => R2W) (fun q => @DryW.rec (fun _ => R2W) (fun e => ⟨fun L no F tm s k => c tm fun tm0 => @Bool.rec (fun _ => Res) no (q L no F tm0 s k) (e tm0 s)⟩) (dryOf P n v.o)) (r2step P n ops x al nx)) (cnear d)
noncomputable def pendV (P : Program) (rows : List RowM) (m : Nat) : Option (RowM × Nat) := match findK (fun r => (lateV P r.o).isSome) (readyK m rows) with
  | some v => match lateV P v.o with
    | some d => some (v, d)
    | none => none
  | none => none
noncomputable def pendOk (rows : List RowM) (m : Nat) (v : RowM) : Bool := andK (Nat.beq (Nat.land m v.bit) 0) (andK ((readyK m rows).any fun r => Nat.beq r.i v.i) (sameI (readyK (Nat.lor m v.bit) rows) (dropI v.i (readyK m rows))))
noncomputable def aloneOk (rows : List RowM) (m : Nat) (v : RowM) : Bool := match dropI v.i (readyK m rows) with
  | [] => (readyK m rows).any fun r => Nat.beq r.i v.i
  | _ :: _ => false
noncomputable def r2 (P : Program) (n : Nat) (ops : Array Oper) (rows : List RowM) : Nat → Nat → Option (RowM × Nat) → List Nat → List Nat → Option R2W
  | 0, m, none, _, _ => match readyK m rows with
    | [] => some ⟨fun _ _ _ tm s k => k tm s⟩
    | _ => none
  | 0, _, some _, _, _ => none
  | f + 1, m, none, al, ks => match readyK m rows with
    | [] => some ⟨fun _ _ _ tm s k => k tm s⟩
    | r :: rs => match take2 rows m with
      | some x => match r2 P n ops rows f (Nat.lor m x.bit) none al ks with
        | some nx => some (r2take P n ops x nx)
        | none => none
      | none => match rs with
        | [] => match r2 P n ops rows f (Nat.lor m r.bit) none (later ops r.i al) ks with
          | some nx => some (r2step P n ops r (later ops r.i al) nx)
          | none => none
        | _ :: _ => match take3 rows m ks with
          | some x => match r2 P n ops rows f (Nat.lor m x.bit) none (x.i :: al) (x.i :: ks) with
            | some nx => some (r2look P n ops x nx)
            | none => none
          | none => match pendV P rows m with
            | some q => r2 P n ops rows f m (some q) al ks
            | none => none
  | f + 1, m, some q, al, ks => match aloneOk rows m q.1 with
    | true => match r2 P n ops rows f (Nat.lor m q.1.bit) none (later ops q.1.i al) ks with
      | some nx => some (r2step P n ops q.1 (later ops q.1.i al) nx)
      | none => none
    | false => match takeP4 rows m q.1 q.2 with
    | some x => match r2 P n ops rows f (Nat.lor m x.bit) (some q) al ks with
      | some nx => some (r2take P n ops x nx)
      | none => none
    | none => match pendOk rows m q.1 with
    | false => none
    | true => match readyK (Nat.lor m q.1.bit) rows with
      | [] => match r2 P n ops rows f (Nat.lor m q.1.bit) none (later ops q.1.i al) ks with
        | some nx => some (r2step P n ops q.1 (later ops q.1.i al) nx)
        | none => none
      | r :: rs => match takeP2 rows m q.1 q.2 with
        | some x => match r2 P n ops rows f (Nat.lor m x.bit) (some q) al ks with
          | some nx => some (r2take P n ops x nx)
          | none => none
        | none => match rs with
          | [] => match dstOk q.1 q.2 r with
            | true => match r2 P n ops rows f (Nat.lor m r.bit) (some q) (later ops r.i al) ks with
              | some nx => some (r2pstep P n ops r q.1 q.2 (later ops r.i al) nx)
              | none => none
            | false => none
          | _ :: _ => match takeP3 rows m q.1 q.2 (anc ops 4 q.1.i) ks with
            | some x => match r2 P n ops rows f (Nat.lor m x.bit) (some q) (x.i :: al) (x.i :: ks) with
              | some nx => some (r2look P n ops x nx)
              | none => none
            | none => none
section
variable {P : Program} {n : Nat} {ops : Array Oper}
theorem r2step_run {x : RowM} {al : List Nat} {nx : R2W} {L : List Look} {no : Res} {F : FK} {tm : Frame} {s : St} {k : Frame → St → Res} {outs : List (SExit × Frame × St)} (h : ((r2step P n ops x al nx).f L no F tm s k).outs = some outs) :
    ∃ k', ((kop P n ops x.o).f F tm s k').outs = some outs ∧ ∀ tm' s' ys, (k' tm' s').outs = some ys → no.outs = some ys ∨ ((∀ y ∈ L, y.k ∈ al → Holds s'.h y) ∧ (nx.f L no F tm' s' k).outs = some ys) := by
  unfold r2step at h
  cases al with
  | nil => exact ⟨_, h, fun tm' s' ys h2 => .inr ⟨fun y _ hy => (by cases hy), h2⟩⟩
  | cons b al =>
    refine ⟨fun tm' s' => @Bool.rec (fun _ => Res) no (nx.f L no F tm' s' k) (holdAll (b :: al) s'.h L), h, fun tm' s' ys h2 => ?_⟩
    dsimp only at h2
    cases hb : holdAll (b :: al) s'.h L with
    | false => rw [hb] at h2; exact .inl h2
    | true => rw [hb] at h2; exact .inr ⟨holdAll_ok hb, h2⟩
theorem lookHeap_nil {L : List Look} {k : Nat} (h : ∀ y ∈ L, y.k ≠ k) : lookHeap L k = .nil := by
  induction L with
  | nil => rfl
  | cons x l ih =>
    simp only [lookHeap]
    split
    · rename_i e
      exact (h x List.mem_cons_self (Nat.eq_of_beq_eq_true e)).elim
    · exact ih fun y hy => h y (List.mem_cons_of_mem _ hy)
theorem plain_load {o : Oper} (h : plainK o = true) : isLoad o = false := by
  unfold plainK at h
  unfold isLoad
  split at h <;> first | (cases h; done) | (rename_i e; rw [e])
theorem r2step_wp {F : FK} (hF : FKOk P F) {w0 : World} {Q : Exit → Act → World → Prop} {L : List Look} {no : Res} {k : Frame → St → Res} {o0 : List (SExit × Frame × St)} (hno : ¬ ∃ ys, no.outs = some ys ∧ ∀ y ∈ ys, y ∈ o0) {x : RowM} {al : List Nat} {nx : R2W} (f1 : ops[x.i]? = some x.o)
    {E : Env} {A : Act} {w : World} {tm : Frame} {s : St} {outs : List (SExit × Frame × St)} (hA : ActRel E ⟨tm, n⟩ A) (R : Rel w0 E s w) (hsub : ∀ y ∈ outs, y ∈ o0) (hpan : Pans w0 E n outs Q) (h : ((r2step P n ops x al nx).f L no F tm s k).outs = some outs) {K : Act → World → Prop}
    (HK : ∀ tm' s' E' A' w' ys, E.Le E' → ActRel E' ⟨tm', n⟩ A' → Rel w0 E' s' w' → (∀ y ∈ ys, y ∈ outs) → (∀ y ∈ L, y.k ∈ al → Holds s'.h y) → (nx.f L no F tm' s' k).outs = some ys → (∀ j, x.o.dst ≠ some j → A'.tmps[j]? = A.tmps[j]?) → K A' w') : wpOp P ops Q x.i K A w := by
  obtain ⟨k', hk1, hk2⟩ := r2step_run h
  unfold wpOp
  simp only [f1]
  have key := kop_ok P n ops x.o F hF tm s k' outs hk1 w0 E A w hA R (fun A' w' => (∀ j, x.o.dst ≠ some j → A'.tmps[j]? = A.tmps[j]?) → K A' w') Q (fun tm' s' E' A' w' ys p2 p3 le hA' R' hkeep => by
    rcases hk2 _ _ _ p2 with e | ⟨hh, hrun⟩
    · exact (hno ⟨ys, e, fun y hy => hsub _ (p3 y hy)⟩).elim
    · exact HK tm' s' E' A' w' ys le hA' R' p3 hh hrun hkeep) hpan
  split
  · rename_i hw; rw [if_pos hw] at key; exact .inl (Oper.wp_mono (fun a w h => h.2 h.1) (wp_keep key))
  · rename_i hw; rw [if_neg hw] at key; exact key fun j hj => put_keep hj
theorem row_eq {x y : RowM} (hx : x ∈ rowsM ops 0 ops.toList) (hy : y ∈ rowsM ops 0 ops.toList) (h : y.i = x.i) : y = x := by
  obtain ⟨o1, h1, h2⟩ := mem_rows.1 hx
  obtain ⟨o2, h3, h4⟩ := mem_rows.1 hy
  rw [h] at h3 h4
  rw [h1] at h3
  cases h3
  rw [h2, h4]
theorem looks_after {w0 : World} {L : List Look} (hn : (L.map (·.k)).Nodup) {E0 E : Env} {w : World} (M0 : ∀ k, ∃ wS, Mem E0 (lookHeap L k) wS) (le : E0.Le E) {s : St} (R : Rel w0 E s w) {al : List Nat} (hh : ∀ y ∈ L, y.k ∈ al → Holds s.h y) {k : Nat} (hk : lookHeap L k = .nil ∨ k ∈ al) : Mem E0 (lookHeap L k) w := by
  rcases hk with e | e
  · rw [e]; exact mem_nil
  · by_cases hx : ∃ y ∈ L, y.k = k
    · obtain ⟨y, y1, y2⟩ := hx
      subst y2
      have e1 := lookHeap_of y1 hn
      obtain ⟨wS, m0⟩ := M0 y.k
      rw [e1] at m0 ⊢
      exact Mem.down le m0 (look_mem R.mem (hh y y1 e)) fun id o h => h
    · rw [lookHeap_nil fun y hy e => hx ⟨y, hy, e⟩]; exact mem_nil
theorem later_mem {i k : Nat} {al : List Nat} (h : k ∈ al) (ha : anc ops 4 i k = false) : k ∈ later ops i al := List.mem_filter.2 ⟨h, by rw [ha]; rfl⟩
theorem Mem.alloc {E : Env} {h : T SObj} {w : World} (M : Mem E h w) (O : Obj) : Mem E h (w.alloc O) := fun id o hid hl => by
  obtain ⟨b, base, n, e1, e2⟩ := M id o hid hl
  exact ⟨b, base, n, e1, by rw [heap_alloc_old _ _ _ (e2.lt hl)]; exact e2⟩
theorem lateV_ok {o : Oper} {d : Nat} (h : lateV P o = some d) : ((∃ t z, o.op = .alloc t ∧ xzero P t = some z) ∨ ∃ t len parts, o.op = .buildSlice t len parts) ∧ o.guard = none ∧ o.dst = some d ∧ d < 64 ∧ d ∉ partTmps o := by
  unfold lateV at h
  split at h
  · rename_i d' h2 h3
    split at h
    · rename_i hb
      simp only [Bool.and_eq_true, Bool.not_eq_true'] at hb
      have hd : d' < 64 := by simpa using hb.1
      have hp : d' ∉ partTmps o := fun hm => by
        have := List.any_eq_false.1 hb.2 d' hm
        simp at this
      split at h
      · rename_i t h1
        split at h
        · rename_i z hz
          cases h
          exact ⟨.inl ⟨t, z, h1, hz⟩, h2, h3, hd, hp⟩
        · cases h
      · rename_i t len parts h1
        cases h
        exact ⟨.inr ⟨t, len, parts, h1⟩, h2, h3, hd, hp⟩
      · cases h
    · cases h
  · cases h
/-- It makes a block of these cells, wherever it is done. -/
structure Makes (P : Program) (E : Env) (A : Act) (o : Oper) (s : St) (u : SV) (s2 : St) (L : List Value) (ty : TypeId) (V : Nat → Value) (rows : T (List SV)) (nr es : Nat) : Prop where
  st : s2 = { s with h := s.h.put s.next (.cells rows nr es ty false false), next := s.next + 1 }
  len : L.length = nr * es
  rok : rowsOk E rows nr es 0 L.toArray
  val : ∀ (E' : Env) (b : Nat), E'.blk s.next = some (b, 0, nr * es) → u.den E' = some (V b)
  run : ∀ w, (execOp A.eval o).run P w = .ok (.value (V w.heap.size)) (w.alloc (.cells L.toArray ty (0, 0)))
theorem mkOf_makes {E : Env} {tm : Frame} {A : Act} (hA : ActRel E ⟨tm, n⟩ A) {s : St} {o : Oper} {u : SV} {s2 : St} (h : mkOf P ⟨tm, n⟩ s o = some (u, s2)) : ∃ L ty V rows nr es, Makes P E A o s u s2 L ty V rows nr es := by
  unfold mkOf at h
  split at h
  · rename_i t ho
    split at h
    · rename_i z hz
      cases h
      obtain ⟨Z, z1, z2⟩ := run_zero hz (P := P) (E := E)
      obtain ⟨L, l1, l2⟩ := cellsOf_ok z1
      have hlen := denL_length l1
      refine ⟨L, t, fun b => .pointer (some ⟨b, 0, none⟩), .node .nil (some (cellsOf z)) .nil, 1, (cellsOf z).length, rfl, by omega, ?_, fun E' b hb => by simp [SV.den, hb], fun w => ?_⟩
      · intro r row hr
        rw [T.get_single] at hr
        split at hr
        · rename_i e
          subst e
          cases hr
          exact ⟨by omega, rfl, L, l1, fun j V hj => by simpa using hj⟩
        · cases hr
      · simp only [execOp, ho, Instr.alloc, Sem.run_bind, z2, Result.andThen_ok, Go.newVar, newRow, run_newObj, Sem.run_pure, l2]
        rfl
    · cases h
  · rename_i t len parts ho
    split at h
    · rename_i q hq
      cases h
      unfold xbuildSlice at hq
      split at hq
      · rename_i elem hu
        split at hq
        · rename_i es z ps hes hz hps
          split at hq
          · rename_i cs hc hfill
            simp only [Bool.and_eq_true] at hc
            obtain ⟨q1, q2, q3⟩ := hc
            have q1 : 0 < es := by simpa [Nat.blt_eq] using q1
            have q2 := Nat.eq_of_beq_eq_true q2
            have q3 := Nat.le_of_ble_eq_true q3
            split at hq
            · rename_i hl
              have hl := Nat.eq_of_beq_eq_true hl
              cases hq
              obtain ⟨Z, z1, z2⟩ := run_zero hz (P := P) (E := E)
              obtain ⟨Zc, zc1, zc2⟩ := cellsOf_ok z1
              obtain ⟨p1, p2⟩ := xparts_ok hA hps
              obtain ⟨M, m1, m2⟩ := xfill_ok hfill (zerosL_ok zc1 (.inr (by omega))) p1 p2
              obtain ⟨c1, c2, c3⟩ := chunks_ok hl
              have hfl := flat_length c2
              have hml := denL_length m1
              have hr0 := rowsOk_extend (E := E) (es := es) (R0 := .nil) (len := 0) (base0 := 0) (base1 := 0) (cs := #[]) (cs' := M.toArray) rowsOk_nil c2 (by rw [c1]; exact m1) (fun k hk => by omega) (fun j V hj => by simpa using hj)
              refine ⟨M, elem, fun b => .slice (some ⟨b, 0, none⟩) len len, mkRows (chunks es len cs) 0 .nil, (chunks es len cs).length, es, rfl, by rw [c1] at hfl; omega, by simpa using hr0, fun E' b hb => by simp [SV.den, hb], fun w => ?_⟩
              have hq : ¬ len * es > 2 ^ 24 := by omega
              have hrange : ∀ zero : Array Value, (len * es = 0 ∨ zero = Zc.toArray) → ((Array.range (len * es)).map fun i => zero[i % zero.size]!) = ((List.range (len * es)).map fun i => Zc.toArray[i % Zc.toArray.size]!).toArray := by
                rintro zero (e | rfl)
                · rw [e]; simp
                · apply Array.ext'
                  simp [Array.toList_range]
              have hmap2 : (Array.map (fun x : Nat × Operand => (x.fst, A.eval x.snd)) parts).toList = parts.toList.map fun (i, x) => (i, A.eval x) := by simp
              by_cases e : len * es = 0
              · simp only [execOp, ho, Instr.buildSlice, Sem.run_bind, run_underlying hu, Result.andThen_ok, run_size hes, if_neg hq, if_pos e, Sem.run_pure]
                rw [hrange #[] (.inl e), hmap2, m2]
                simp only [newRow, run_newObj, Sem.run_bind, Sem.run_pure, Result.andThen_ok]
                rfl
              · simp only [execOp, ho, Instr.buildSlice, Sem.run_bind, run_underlying hu, Result.andThen_ok, run_size hes, if_neg hq, if_neg e, z2, zc2, Sem.run_pure]
                rw [hrange Zc.toArray (.inr rfl), hmap2, m2]
                simp only [newRow, run_newObj, Sem.run_bind, Sem.run_pure, Result.andThen_ok]
                rfl
            · cases hq
          · cases hq
        · cases hq
      · cases hq
    · cases h
  · cases h
theorem eval_agree {A A' : Act} {x : Operand} (h : ∀ j, x = .tmp j → A'.tmps[j]? = A.tmps[j]?) : A'.eval x = A.eval x := by
  cases x with
  | tmp j =>
    have := h j rfl
    simp only [Act.eval, Array.getD_eq_getD_getElem?, this]
  | _ => rfl
theorem exec_agree {A A' : Act} {o : Oper} (hk : (∃ t z, o.op = .alloc t ∧ xzero P t = some z) ∨ ∃ t len parts, o.op = .buildSlice t len parts) (h : ∀ j ∈ partTmps o, A'.tmps[j]? = A.tmps[j]?) : execOp A'.eval o = execOp A.eval o := by
  rcases hk with ⟨t, z, ho, -⟩ | ⟨t, len, parts, ho⟩
  · simp only [execOp, ho]
  · have e : (parts.map fun x : Nat × Operand => (x.1, A'.eval x.2)) = parts.map fun x => (x.1, A.eval x.2) := by
      apply Array.ext'
      simp only [Array.toList_map]
      refine List.map_congr_left fun x hx => ?_
      rw [eval_agree (A := A) (A' := A') (x := x.2) fun j hj => h j (by
        unfold partTmps
        rw [ho]
        exact List.mem_filterMap.2 ⟨x, hx, by rw [hj]⟩)]
    simp only [execOp, ho]
    rw [e]
theorem kop_mk {F : FK} {v : Oper} (hk : (∃ t z, v.op = .alloc t ∧ xzero P t = some z) ∨ ∃ t len parts, v.op = .buildSlice t len parts) (hg : v.guard = none) {tm : Frame} {s : St} {k : Frame → St → Res} {outs : List (SExit × Frame × St)} (h : ((kop P n ops v).f F tm s k).outs = some outs) :
    ∃ u s2 a, mkOf P ⟨tm, n⟩ s v = some (u, s2) ∧ SAct.put ⟨tm, n⟩ v.dst u = some a ∧ a.n = n ∧ ∃ ys, (k a.tm s2).outs = some ys ∧ ∀ y ∈ ys, y ∈ outs := by
  have hkop : kop P n ops v = kop0 P n v := by simp only [kop, hg]
  rw [hkop] at h
  rcases hk with ⟨t, z, ho, hz⟩ | ⟨t, len, parts, ho⟩
  · have hkr : KrOk P n v (kop0 P n v).f := by
      have : kop0 P n v = kalloc P n v.dst t := by simp only [kop0, ho]
      rw [this]
      exact kalloc_ok ho
    obtain ⟨l, h1, h2⟩ := hkr F tm s k outs h
    have e1 : xPure P s.h s.asm ⟨tm, n⟩ v = none := by simp only [xPure, kpOf, ho, kpNone]
    have e2 : callOf P ⟨tm, n⟩ v = none := by simp only [callOf, ho]
    have e3 : xEff P s ⟨tm, n⟩ v = some [newVar s (cellsOf z) t] := by simp only [xEff, keOf, ho, keAlloc, xalloc, hz]
    simp only [runOp, e1, e2, e3, putAll] at h1
    split at h1
    · rename_i a' m ha hm
      cases h1
      obtain ⟨p1, p2⟩ := h2 _ List.mem_cons_self
      exact ⟨_, _, a', by simp only [mkOf, ho, hz], ha, p1, p2⟩
    · cases h1
  · have hkr : KrOk P n v (kop0 P n v).f := by
      have : kop0 P n v = kmid P n v := by simp only [kop0, ho]
      rw [this]
      exact kmid_ok fun a => by simp only [callOf, ho]
    obtain ⟨l, h1, h2⟩ := hkr F tm s k outs h
    have e1 : xPure P s.h s.asm ⟨tm, n⟩ v = none := by simp only [xPure, kpOf, ho, kpNone]
    have e2 : callOf P ⟨tm, n⟩ v = none := by simp only [callOf, ho]
    have e3 : xEff P s ⟨tm, n⟩ v = xbuildSlice P s ⟨tm, n⟩ t len parts := by simp only [xEff, keOf, ho, keBuildSlice]
    simp only [runOp, e1, e2, e3] at h1
    split at h1
    · rename_i o1 ho1
      have hone : ∃ q, o1 = [q] := by
        unfold xbuildSlice at ho1
        repeat' split at ho1
        all_goals first | (cases ho1; exact ⟨_, rfl⟩) | cases ho1
      obtain ⟨q, rfl⟩ := hone
      obtain ⟨u, s2⟩ := q
      simp only [putAll] at h1
      split at h1
      · rename_i a' m ha hm
        cases h1
        obtain ⟨p1, p2⟩ := h2 _ List.mem_cons_self
        exact ⟨u, s2, a', by simp only [mkOf, ho, ho1], ha, p1, p2⟩
      · cases h1
    · cases h1
theorem dry_ok {v : Oper} (hk : (∃ t z, v.op = .alloc t ∧ xzero P t = some z) ∨ ∃ t len parts, v.op = .buildSlice t len parts) {tm : Frame} {s : St} (h : (dryOf P n v).d tm s = true) : ∃ u s2, mkOf P ⟨tm, n⟩ s v = some (u, s2) := by
  rcases hk with ⟨t, z, ho, hz⟩ | ⟨t, len, parts, ho⟩
  · exact ⟨(newVar s (cellsOf z) t).1, (newVar s (cellsOf z) t).2, by simp only [mkOf, ho, hz]⟩
  · simp only [dryOf, ho] at h
    obtain ⟨q, hq⟩ := Option.isSome_iff_exists.1 h
    exact ⟨q.1, q.2, hq⟩
/-! ### a block that was made while the run holds it to be still to come -/
theorem Mem.setKp {E : Env} (f : Nat → Option Obj) {h : T SObj} {w : World} (M : Mem E h w) : Mem { E with kp := f } h w := fun id o hid hl => by
  obtain ⟨b, base, n, e1, e2⟩ := M id o hid hl
  exact ⟨b, base, n, e1, e2.kp f⟩
def Eb (E : Env) (b : Nat) (O : Obj) : Env := { E with kp := fun j => if j = b then some O else E.kp j }
structure Made (P : Program) (v : Oper) (d : Nat) (w0 : World) (E : Env) (b : Nat) (O : Obj) (A : Act) : Prop where
  low : w0.heap.size ≤ b
  kp : E.kp b = none
  run : ∃ (wb : World) (Vb : Value), wb.heap.size = b ∧ (execOp A.eval v).run P wb = .ok (.value Vb) (wb.alloc O) ∧ (d < A.tmps.size → A.tmps[d]? = some Vb)
theorem Made.keep {v : Oper} (hk : (∃ t z, v.op = .alloc t ∧ xzero P t = some z) ∨ ∃ t len parts, v.op = .buildSlice t len parts) {d : Nat} {w0 : World} {E E' : Env} {b : Nat} {O : Obj} {A A' : Act} (h : Made P v d w0 E b O A) (he : E'.kp = E.kp) (hs : A'.tmps.size = A.tmps.size) (hd : A'.tmps[d]? = A.tmps[d]?) (hp : ∀ j ∈ partTmps v, A'.tmps[j]? = A.tmps[j]?) : Made P v d w0 E' b O A' := by
  obtain ⟨h1, h2, wb, Vb, r1, r2, r3⟩ := h
  exact ⟨h1, by rw [he]; exact h2, wb, Vb, r1, by rw [exec_agree hk hp]; exact r2, fun h => by rw [hd]; exact r3 (by rw [← hs]; exact h)⟩
theorem Eb_le {E E' : Env} {b : Nat} {O : Obj} (le : (Eb E b O).Le E') : E.Le { E' with kp := E.kp } ∧ E' = Eb { E' with kp := E.kp } b O := by
  refine ⟨⟨le.blk, le.ints, le.bools, le.strs, le.vals, le.fv, rfl⟩, ?_⟩
  have := le.kp
  obtain ⟨b1, i1, b2, s1, v1, f1, k1⟩ := E'
  dsimp only at this
  subst this
  rfl
theorem Rel.unEb {w0 w : World} {E : Env} {b : Nat} {O : Obj} {s : St} (hk0 : E.kp b = none) (R : Rel w0 (Eb E b O) s w) : Rel w0 E s w := by
  have R2 : Rel w0 { Eb E b O with kp := E.kp } s w := by
    refine R.setKp _ (fun j O' hj => R.keep j O' ?_) (fun id o y h1 h2 h3 => ?_)
    · show (if j = b then _ else E.kp j) = _
      rw [if_neg (fun e => by subst e; rw [hk0] at hj; cases hj)]
      exact hj
    · have := R.apart id o y h1 h2 h3
      have this : (if y.1 = b then some _ else E.kp y.1) = none := this
      split at this
      · cases this
      · exact this
  exact R2
theorem Pans.eb {w0 : World} {E : Env} {b : Nat} {O : Obj} (hk0 : E.kp b = none) {n : Nat} {outs : List (SExit × Frame × St)} {Q : Exit → Act → World → Prop} (h : Pans w0 E n outs Q) : Pans w0 (Eb E b O) n outs Q := fun u V tm' s' E' A' w' hm le hV hA' R' => by
  obtain ⟨l1, l2⟩ := Eb_le le
  have R2 : Rel w0 { E' with kp := E.kp } s' w' := Rel.unEb (E := { E' with kp := E.kp }) (b := b) (O := O) hk0 (by rw [← l2]; exact R')
  exact h u V tm' s' { E' with kp := E.kp } A' w' hm l1 ((SV.den_kp E' E.kp u).trans hV) (hA'.kp E.kp) R2
/-- It is made now. -/
theorem make_now {w0 w : World} {E : Env} {s : St} {tm : Frame} {A : Act} (hA : ActRel E ⟨tm, n⟩ A) (R : Rel w0 E s w) {v : Oper} {d : Nat} (hd64 : d < 64) (hdst : v.dst = some d) (hdp : d ∉ partTmps v) (hk : (∃ t z, v.op = .alloc t ∧ xzero P t = some z) ∨ ∃ t len parts, v.op = .buildSlice t len parts) {u0 : SV} {s0 : St} (hmk0 : mkOf P ⟨tm.clr d, n⟩ s v = some (u0, s0)) :
    ∃ O V, (execOp A.eval v).run P w = .ok (.value V) (w.alloc O) ∧ Made P v d w0 E w.heap.size O (A.put (some d) V) ∧ ActRel (Eb E w.heap.size O) ⟨tm.clr d, n⟩ (A.put (some d) V) ∧ Rel w0 (Eb E w.heap.size O) s (w.alloc O) := by
  obtain ⟨Lc, t, V, rows0, nr0, es0, mk⟩ := mkOf_makes (hA.clr hd64) hmk0
  have hrun := mk.run w
  have hk0 : E.kp w.heap.size = none := R.kpNew (Nat.le_refl _)
  refine ⟨.cells Lc.toArray t (0, 0), V w.heap.size, hrun, ⟨R.size, hk0, w, V w.heap.size, rfl, ?_, fun h => ?_⟩, ?_, ?_⟩
  · rw [exec_agree hk (A := A) fun j hj => put_keep fun e => hdp (by cases e; exact hj)]
    exact hrun
  · have : d < A.tmps.size := by simpa [Act.put] using h
    simp [Act.put, this]
  · exact (hA.clrPut hd64 _).kp _
  · refine (R.alloc0 _).setKp _ (fun j O' hj => ?_) (fun id o y h1 h2 h3 => ?_)
    · by_cases e : j = w.heap.size
      · subst e
        rw [if_pos rfl] at hj
        exact ⟨R.size, by rw [heap_alloc_new]; exact hj⟩
      · rw [if_neg e] at hj
        exact (R.alloc0 _).keep j O' hj
    · obtain ⟨b, base, m', e1, e2⟩ := R.mem id o h1 h2
      rw [h3] at e1; cases e1
      have := e2.lt h2
      show (if b = w.heap.size then _ else E.kp b) = none
      rw [if_neg (by omega)]
      exact R.apart id o _ h1 h2 h3
/-- It has been made, and gets its name now. -/
theorem make_named {w0 w : World} {E : Env} {s s2 : St} {tm : Frame} {A : Act} {b : Nat} {O : Obj} (hA' : ActRel (Eb E b O) ⟨tm, n⟩ A) (R' : Rel w0 (Eb E b O) s w) {v : Oper} {d : Nat} (md : Made P v d w0 E b O A) {u1 : SV} (hmk1 : mkOf P ⟨tm, n⟩ s v = some (u1, s2)) {a : SAct} (p1 : SAct.put ⟨tm, n⟩ (some d) u1 = some a) :
    ∃ E3, E.Le E3 ∧ Rel w0 E3 s2 w ∧ ActRel E3 a A := by
  obtain ⟨hlow, hk0, wb, Vb, hwb, hrun, hval⟩ := md
  obtain ⟨L1, t1, V1, rows1, nr1, es1, mk1⟩ := mkOf_makes hA' hmk1
  have hsame := mk1.run wb
  rw [hrun] at hsame
  injection hsame with hs1 hs2
  injection hs1 with hs1
  have hs3 : some O = some (Obj.cells L1.toArray t1 (0, 0)) := by
    have := congrArg (fun w' : World => w'.heap[wb.heap.size]?) hs2
    simpa only [heap_alloc_new] using this
  injection hs3 with hs3
  rw [hwb] at hs1
  have R2 := Rel.unEb hk0 R'
  have hkb : (Eb E b O).kp b = some O := by
    show (if b = b then _ else _) = _
    rw [if_pos rfl]
  have hb := (R'.keep _ _ hkb).2
  have hnb : E.blk s.next = none := R2.fresh _ (Nat.le_refl _)
  have le3 : E.Le (Env.add E s.next b 0 (nr1 * es1)) := R2.le_new _ _ _
  refine ⟨_, le3, ?_, ?_⟩
  · rw [mk1.st]
    refine R2.name (b := b) (base := 0) (n := nr1 * es1) hlow (fun id o y h1 h2 h3 e => ?_) ?_ hk0
    · have := R'.apart id o y h1 h2 h3
      rw [e, hkb] at this
      cases this
    · rw [hb, hs3]
      exact ⟨L1.toArray, (0, 0), _, rfl, fun _ => ⟨rfl, rfl⟩, szOk (by simpa using mk1.len), Nat.le_refl _, fun _ => ⟨rfl, rfl⟩, (mk1.rok.kp E.kp).mono (R2.le_new _ _ _)⟩
  · have hsz : A.tmps.size = n := hA'.size
    have hdn : d < n ∧ a = ⟨tm.put d u1, n⟩ := by
      simp only [SAct.put] at p1
      split at p1
      · rename_i hlt
        cases p1
        exact ⟨by simpa using hlt, rfl⟩
      · cases p1
    obtain ⟨hdn, rfl⟩ := hdn
    refine ⟨hsz, fun j u hu => ?_, ?_⟩
    · replace hu : (tm.put d u1).get j = some u := hu
      rw [Frame.get_put] at hu
      split at hu
      · rename_i e
        subst e
        have hu := Option.some.inj hu
        subst hu
        refine ⟨V1 b, mk1.val _ _ (Env.add_new _ _ _ _ _), ?_⟩
        rw [hval (by rw [hsz]; exact hdn), hs1]
      · obtain ⟨V', j1, j2⟩ := hA'.tm j u hu
        exact ⟨V', SV.mono (R2.le_new _ _ _) ((SV.den_kp (Eb E b O) E.kp u).trans j1), j2⟩
    · show DefsRel _ (tm.put d u1).ds A.defers
      rw [Frame.ds_put]
      exact (hA'.defers.kp E.kp).mono (R2.le_new _ _ _)
theorem wpAnyG_weak {Q : Exit → Act → World → Prop} {M M' : Nat → World → Prop} (hm : ∀ k w, M' k w → M k w) : ∀ (g : Nat) (listed : Array Bool) {alive alive' : Nat → Prop} {a : Act} {w : World}, (∀ k, alive k → alive' k) → wpAnyG P ops Q M' g listed alive' a w → wpAnyG P ops Q M g listed alive a w
  | 0, _, _, _, _, _, _, h => h
  | g + 1, _, _, _, _, _, hal, h => ⟨h.1, fun i hi => wpOp_mono (fun a' w' ⟨l, h1, h2, h3⟩ => ⟨l, fun k hk ha => h1 k (hal k hk) ha, fun k hk => hm k w' (h2 k hk), wpAnyG_weak hm g _ (fun k h => h) h3⟩) (h.2 i hi)⟩
theorem dstOk_ok {v : RowM} {d : Nat} {x : RowM} (h : dstOk v d x = true) : x.o.dst ≠ some d ∧ ∀ j ∈ partTmps v.o, x.o.dst ≠ some j := by
  unfold dstOk at h
  simp only [Bool.and_eq_true, Bool.not_eq_true', decide_eq_false_iff_not] at h
  refine ⟨h.1, fun j hj => ?_⟩
  have := List.any_eq_false.1 h.2 j hj
  simpa using this
theorem takeP2_ok {rows : List RowM} {m : Nat} {v : RowM} {d : Nat} {x : RowM} (h : takeP2 rows m v d = some x) : x ∈ readyM (Nat.lor m v.bit) rows ∧ plainK x.o = true ∧ dstOk v d x = true ∧ freeK rows x m = true ∧ freeK rows x (Nat.lor m v.bit) = true := by
  unfold takeP2 at h
  rw [findK_eq, readyK_eq] at h
  have h2 := List.find?_some h
  simp only [andK_eq, Bool.and_eq_true] at h2
  exact ⟨List.mem_of_find?_eq_some h, h2⟩
theorem takeP4_ok {m : Nat} {v : RowM} {d : Nat} {x : RowM} (h : takeP4 (rowsM ops 0 ops.toList) m v d = some x) : x ∈ readyM (Nat.lor m v.bit) (rowsM ops 0 ops.toList) ∧ plainK x.o = true ∧ dstOk v d x = true ∧ freeK (rowsM ops 0 ops.toList) x m = true ∧ freeK (rowsM ops 0 ops.toList) x (Nat.lor m v.bit) = true ∧ x ∈ readyM m (rowsM ops 0 ops.toList) := by
  unfold takeP4 at h
  rw [findK_eq, readyK_eq] at h
  have h2 := List.find?_some h
  simp only [andK_eq, Bool.and_eq_true, readyK_eq] at h2
  have hx := List.mem_of_find?_eq_some h
  rw [readyK_eq] at hx
  obtain ⟨h3, h4, h5, h6, h7⟩ := h2
  refine ⟨hx, h3, h4, h5, h6, ?_⟩
  obtain ⟨y, y1, y2⟩ := List.any_eq_true.1 h7
  have := row_eq (readyM_sub hx) (readyM_sub y1) (Nat.eq_of_beq_eq_true y2)
  rw [this] at y1
  exact y1
theorem takeP3_ok {rows : List RowM} {m : Nat} {v : RowM} {d : Nat} {an : Nat → Bool} {ks : List Nat} {x : RowM} (h : takeP3 rows m v d an ks = some x) : x ∈ readyM (Nat.lor m v.bit) rows ∧ isLoad x.o = true ∧ dstOk v d x = true ∧ ks.any (Nat.beq x.i) = false ∧ an x.i = false ∧ freeK rows x m = true ∧ freeK rows x (Nat.lor m v.bit) = true := by
  unfold takeP3 at h
  rw [findK_eq, readyK_eq] at h
  have h2 := List.find?_some h
  simp only [andK_eq, Bool.and_eq_true, Bool.not_eq_true'] at h2
  exact ⟨List.mem_of_find?_eq_some h, h2⟩
theorem mem_dropI {i : Nat} {x : RowM} : ∀ {l : List RowM}, x ∈ dropI i l ↔ x ∈ l ∧ x.i ≠ i
  | [] => by simp [dropI]
  | y :: l => by
    have ih := mem_dropI (i := i) (x := x) (l := l)
    unfold dropI
    split
    · rename_i h
      have h := Nat.eq_of_beq_eq_true h
      rw [ih, List.mem_cons]
      refine ⟨fun ⟨a, b⟩ => ⟨.inr a, b⟩, fun ⟨a, b⟩ => ⟨a.elim (fun e => by subst e; exact (b h).elim) id, b⟩⟩
    · rename_i h
      have h : y.i ≠ i := fun e => by rw [e, Nat.beq_refl] at h; cases h
      rw [List.mem_cons, ih, List.mem_cons]
      refine ⟨fun a => a.elim (fun e => by subst e; exact ⟨.inl rfl, h⟩) fun ⟨a, b⟩ => ⟨.inr a, b⟩, fun ⟨a, b⟩ => a.elim .inl fun a => .inr ⟨a, b⟩⟩
theorem sameI_ok : ∀ {l l' : List RowM}, sameI l l' = true → l.map (·.i) = l'.map (·.i)
  | [], [], _ => rfl
  | [], _ :: _, h => by cases h
  | _ :: _, [], h => by cases h
  | x :: l, y :: l', h => by
    simp only [sameI, Bool.and_eq_true] at h
    rw [List.map_cons, List.map_cons, Nat.eq_of_beq_eq_true h.1, sameI_ok h.2]
theorem pendOk_ok {m : Nat} {v : RowM} (hv : v ∈ rowsM ops 0 ops.toList) (h : pendOk (rowsM ops 0 ops.toList) m v = true) : v ∈ readyM m (rowsM ops 0 ops.toList) ∧ (∀ r, r ∈ readyM (Nat.lor m v.bit) (rowsM ops 0 ops.toList) → r ∈ readyM m (rowsM ops 0 ops.toList)) ∧ ∀ r, r ∈ readyM m (rowsM ops 0 ops.toList) → r = v ∨ r ∈ readyM (Nat.lor m v.bit) (rowsM ops 0 ops.toList) := by
  unfold pendOk at h
  simp only [andK_eq, readyK_eq, Bool.and_eq_true] at h
  obtain ⟨-, h1, h2⟩ := h
  have h2 := sameI_ok h2
  refine ⟨?_, fun r hr => ?_, fun r hr => ?_⟩
  · obtain ⟨r, r1, r2⟩ := List.any_eq_true.1 h1
    have := row_eq hv (readyM_sub r1) (Nat.eq_of_beq_eq_true r2)
    rw [this] at r1
    exact r1
  · have : r.i ∈ (dropI v.i (readyM m (rowsM ops 0 ops.toList))).map (·.i) := by rw [← h2]; exact List.mem_map.2 ⟨r, hr, rfl⟩
    obtain ⟨y, y1, y2⟩ := List.mem_map.1 this
    have y1 := (mem_dropI.1 y1).1
    have := row_eq (readyM_sub hr) (readyM_sub y1) y2
    rw [this] at y1
    exact y1
  · by_cases e : r.i = v.i
    · exact .inl (row_eq hv (readyM_sub hr) e)
    · have : r.i ∈ (readyM (Nat.lor m v.bit) (rowsM ops 0 ops.toList)).map (·.i) := by rw [h2]; exact List.mem_map.2 ⟨r, mem_dropI.2 ⟨hr, e⟩, rfl⟩
      obtain ⟨y, y1, y2⟩ := List.mem_map.1 this
      have := row_eq (readyM_sub hr) (readyM_sub y1) y2
      rw [this] at y1
      exact .inr y1
theorem aloneOk_ok {m : Nat} {v : RowM} (hv : v ∈ rowsM ops 0 ops.toList) (h : aloneOk (rowsM ops 0 ops.toList) m v = true) : v ∈ readyM m (rowsM ops 0 ops.toList) ∧ ∀ r, r ∈ readyM m (rowsM ops 0 ops.toList) → r = v := by
  unfold aloneOk at h
  rw [readyK_eq] at h
  split at h
  · rename_i hd
    refine ⟨?_, fun r hr => ?_⟩
    · obtain ⟨r, r1, r2⟩ := List.any_eq_true.1 h
      have := row_eq hv (readyM_sub r1) (Nat.eq_of_beq_eq_true r2)
      rw [this] at r1
      exact r1
    · by_cases e : r.i = v.i
      · exact row_eq hv (readyM_sub hr) e
      · have : r ∈ dropI v.i (readyM m (rowsM ops 0 ops.toList)) := mem_dropI.2 ⟨hr, e⟩
        rw [hd] at this
        cases this
  · cases h
theorem take2_case (hsel : Region.noSelect ops = true) {Q : Exit → Act → World → Prop} (hQp : ∀ o ∈ ops.toList, ∀ v c a w, Q (.panic c) (Act.put a o.dst v) w → Q (.panic c) a w) {L : List Look} {E0 : Env} {no : Res} {k : Frame → St → Res} {o0 : List (SExit × Frame × St)} (hno : ¬ ∃ ys, no.outs = some ys ∧ ∀ y ∈ ys, y ∈ o0) {m : Nat} {x : RowM} {nx : R2W} {F : FK} {g : Nat} {listed : Array Bool} {alive : Nat → Prop} {tm : Frame} {s : St} {Ex : Env} {A : Act} {w : World} {outs : List (SExit × Frame × St)}
    (hrep : RepM ops listed m) (hgl : (unlisted ops listed).length ≤ g) (hcl : Closed ops listed) (t1 : x ∈ readyM m (rowsM ops 0 ops.toList)) (tf : freeM (rowsM ops 0 ops.toList) x m = true) (hxn : lookHeap L x.i = .nil) (hA : ActRel Ex ⟨tm, n⟩ A) (ha : AsmOk Ex s.asm) (hM : ∀ k, alive k → Mem E0 (lookHeap L k) w) (hnil : ∀ k, lookHeap L k = .nil → alive k) (hsub : ∀ y ∈ outs, y ∈ o0)
    (h : ((r2take P n ops x nx).f L no F tm s k).outs = some outs)
    (IH : ∀ g' tm' V, (unlisted ops (listed.setIfInBounds x.i true)).length ≤ g' → Closed ops (listed.setIfInBounds x.i true) → RepM ops (listed.setIfInBounds x.i true) (Nat.lor m x.bit) → ActRel Ex ⟨tm', n⟩ (A.put x.o.dst V) → (nx.f L no F tm' s k).outs = some outs → wpAnyG P ops Q (fun k w => Mem E0 (lookHeap L k) w) g' (listed.setIfInBounds x.i true) alive (A.put x.o.dst V) w) :
    wpAnyG P ops Q (fun k w => Mem E0 (lookHeap L k) w) g listed alive A w := by
  have f5 := (ready_facts hrep t1).2.2.2.2.1
  have h : ((pvg P n ops x.o).p tm .nil s.asm (fun v => (pdst n x.o.dst).p tm v fun tm' => nx.f L no F tm' s k) ((pdst n x.o.dst).p tm skipV fun tm' => nx.f L no F tm' s k) no).outs = some outs := h
  rcases pvg_ok h with h1 | ⟨hg, h1⟩ | ⟨hg, v, hxp, h1⟩
  · exact (hno ⟨outs, h1, hsub⟩).elim
  · obtain ⟨a, p1, p2, p3⟩ := pdst_ok h1
    have hA' := put_ok hA p1 (skipV_den Ex)
    refine take_one hsel hQp hrep hgl hcl t1 tf (yields_skip hA hg) (hnil _ hxn) hM fun g' hg' hc' => IH g' a.tm _ hg' hc' f5 ?_ p3
    obtain ⟨ta, na⟩ := a
    dsimp only at p2
    subst p2
    exact hA'
  · obtain ⟨a, p1, p2, p3⟩ := pdst_ok h1
    obtain ⟨V, hV, hy⟩ := yields_run (P := P) (ops := ops) (S := fun w => Mem E0 (lookHeap L x.i) w) (fun w _ => mem_nil) (hM _ (hnil _ hxn)) hA ha hg hxp
    have hA' := put_ok hA p1 hV
    refine take_one hsel hQp hrep hgl hcl t1 tf hy (hnil _ hxn) hM fun g' hg' hc' => IH g' a.tm _ hg' hc' f5 ?_ p3
    obtain ⟨ta, na⟩ := a
    dsimp only at p2
    subst p2
    exact hA'
theorem look_case (hsel : Region.noSelect ops = true) {Q : Exit → Act → World → Prop} (hQp : ∀ o ∈ ops.toList, ∀ v c a w, Q (.panic c) (Act.put a o.dst v) w → Q (.panic c) a w) {L : List Look} (hn : (L.map (·.k)).Nodup) {ks : List Nat} (hLd : ∀ y ∈ L, y.k ∈ ks ∧ ∃ o, ops[y.k]? = some o ∧ isLoad o = true) {E0 E : Env} (M0 : ∀ k, ∃ wS, Mem E0 (lookHeap L k) wS) (le0 : E0.Le E) {no : Res} {k : Frame → St → Res} {o0 : List (SExit × Frame × St)} (hno : ¬ ∃ ys, no.outs = some ys ∧ ∀ y ∈ ys, y ∈ o0) {m : Nat} {x : RowM} {nx : R2W} {F : FK} {g : Nat} {listed : Array Bool} {alive : Nat → Prop} {tm : Frame} {s : St} {Ex : Env} (hEx : ∀ h w, Mem E h w → Mem Ex h w) {A : Act} {w : World} {outs : List (SExit × Frame × St)}
    (hrep : RepM ops listed m) (hgl : (unlisted ops listed).length ≤ g) (hcl : Closed ops listed) (t1 : x ∈ readyM m (rowsM ops 0 ops.toList)) (tl : isLoad x.o = true) (tf : freeM (rowsM ops 0 ops.toList) x m = true) (tk : ks.any (Nat.beq x.i) = false) (hA : ActRel Ex ⟨tm, n⟩ A) (ha : AsmOk Ex s.asm) (hms : Mem E s.h w) (hM : ∀ k, alive k → Mem E0 (lookHeap L k) w) (hnil : ∀ k, lookHeap L k = .nil → alive k) (hsub : ∀ y ∈ outs, y ∈ o0)
    (h : ((r2look P n ops x nx).f L no F tm s k).outs = some outs)
    (IH0 : ∀ g' tm' V, (∀ y ∈ L, y.k ∈ x.i :: ks ∧ ∃ o, ops[y.k]? = some o ∧ isLoad o = true) → (unlisted ops (listed.setIfInBounds x.i true)).length ≤ g' → Closed ops (listed.setIfInBounds x.i true) → RepM ops (listed.setIfInBounds x.i true) (Nat.lor m x.bit) → ActRel Ex ⟨tm', n⟩ (A.put x.o.dst V) → (nx.f L no F tm' s k).outs = some outs → wpAnyG P ops Q (fun k w => Mem E0 (lookHeap L k) w) g' (listed.setIfInBounds x.i true) alive (A.put x.o.dst V) w)
    (IH1 : ∀ y g' tm' V, ((y :: L).map (·.k)).Nodup → (∀ z ∈ y :: L, z.k ∈ x.i :: ks ∧ ∃ o, ops[z.k]? = some o ∧ isLoad o = true) → (∀ k, ∃ wS, Mem E (lookHeap (y :: L) k) wS) → (∀ k, alive k → Mem E (lookHeap (y :: L) k) w) → (∀ k, lookHeap (y :: L) k = .nil → alive k) → (∀ k, k ≠ x.i → lookHeap (y :: L) k = lookHeap L k) →
      (unlisted ops (listed.setIfInBounds x.i true)).length ≤ g' → Closed ops (listed.setIfInBounds x.i true) → RepM ops (listed.setIfInBounds x.i true) (Nat.lor m x.bit) → ActRel Ex ⟨tm', n⟩ (A.put x.o.dst V) → (nx.f (y :: L) no F tm' s k).outs = some outs → wpAnyG P ops Q (fun k w => Mem E (lookHeap (y :: L) k) w) g' (listed.setIfInBounds x.i true) alive (A.put x.o.dst V) w) :
    wpAnyG P ops Q (fun k w => Mem E0 (lookHeap L k) w) g listed alive A w := by
  obtain ⟨f1, f2, f3, f4, f5, f6⟩ := ready_facts hrep t1
  have hks : ∀ y ∈ L, y.k ≠ x.i := fun y hy e => by
    have := List.any_eq_false.1 tk y.k (hLd y hy).1
    rw [e, Nat.beq_refl] at this
    exact this rfl
  have hxn : lookHeap L x.i = .nil := lookHeap_nil hks
  have hLd' : ∀ y ∈ L, y.k ∈ x.i :: ks ∧ ∃ o, ops[y.k]? = some o ∧ isLoad o = true := fun y hy => ⟨List.mem_cons_of_mem _ (hLd y hy).1, (hLd y hy).2⟩
  have h : ((pvgF ops x.o (pvT P n x.o)).p tm s.h s.asm (fun v => @Option.rec SV (fun _ => Res) no (fun a => @Option.rec Look (fun _ => Res) no (fun y => (pdst n x.o.dst).p tm v fun tm' => nx.f (y :: L) no F tm' s k) (mkLook s.h x.i a)) ((loadAddr x.o).g tm)) ((pdst n x.o.dst).p tm skipV fun tm' => nx.f L no F tm' s k) no).outs = some outs := h
  rcases pvgF_ok (n := n) h with h1 | ⟨hg, h1⟩ | ⟨hg, v, hxp, h1⟩
  · exact (hno ⟨outs, h1, hsub⟩).elim
  · obtain ⟨a, p1, p2, p3⟩ := pdst_ok h1
    have hA' := put_ok hA p1 (skipV_den Ex)
    refine take_one hsel hQp hrep hgl hcl t1 tf (yields_skip hA hg) (hnil _ hxn) hM fun g' hg' hc' => IH0 g' a.tm _ hLd' hg' hc' f5 ?_ p3
    obtain ⟨ta, na⟩ := a
    dsimp only at p2
    subst p2
    exact hA'
  · cases ha' : (loadAddr x.o).g tm with
    | none => rw [ha'] at h1; exact (hno ⟨outs, h1, hsub⟩).elim
    | some u =>
      rw [ha'] at h1
      have h1 : (@Option.rec Look (fun _ => Res) no (fun y => (pdst n x.o.dst).p tm v fun tm' => nx.f (y :: L) no F tm' s k) (mkLook s.h x.i u)).outs = some outs := h1
      cases hkk : mkLook s.h x.i u with
      | none => rw [hkk] at h1; exact (hno ⟨outs, h1, hsub⟩).elim
      | some y =>
        rw [hkk] at h1
        obtain ⟨a, p1, p2, p3⟩ := pdst_ok h1
        obtain ⟨m1, m2, -⟩ := mkLook_ok hkk
        have hyh : lookHeap (y :: L) x.i = y.heap := by
          simp only [lookHeap, m1, Nat.beq_refl]
        have hyo : ∀ k, k ≠ x.i → lookHeap (y :: L) k = lookHeap L k := fun k hk => by
          have : Nat.beq x.i k = false := by
            cases hb : Nat.beq x.i k with
            | false => rfl
            | true => exact (hk (Nat.eq_of_beq_eq_true hb).symm).elim
          simp only [lookHeap, m1, this]
        have hn' : ((y :: L).map (·.k)).Nodup := by
          simp only [List.map_cons, List.nodup_cons]
          refine ⟨fun hm => ?_, hn⟩
          obtain ⟨z, z1, z2⟩ := List.mem_map.1 hm
          exact hks z z1 (by rw [z2, m1])
        have hLd2 : ∀ z ∈ y :: L, z.k ∈ x.i :: ks ∧ ∃ o, ops[z.k]? = some o ∧ isLoad o = true := fun z hz => by
          rcases List.mem_cons.1 hz with e | hz
          · subst e
            rw [m1]
            exact ⟨List.mem_cons_self, x.o, f1, tl⟩
          · exact hLd' z hz
        have hMx : Mem E y.heap w := look_mem hms m2
        have hM0 : ∀ k, Mem E (lookHeap L k) (Classical.choose (M0 k)) := fun k => (Classical.choose_spec (M0 k)).mono le0
        -- what is asked now, of the names that are there now
        have weak : wpAnyG P ops Q (fun k w => Mem E (lookHeap (y :: L) k) w) g listed alive A w → wpAnyG P ops Q (fun k w => Mem E0 (lookHeap L k) w) g listed alive A w := fun hh => by
          refine wpAnyG_weak (fun k w hw => ?_) _ _ (fun k h => h) hh
          by_cases e : k = x.i
          · rw [e, hxn]; exact mem_nil
          · rw [hyo k e] at hw
            obtain ⟨wS, m0⟩ := M0 k
            exact Mem.down le0 m0 hw fun id o h => h
        have hM' : ∀ k, alive k → Mem E (lookHeap (y :: L) k) w := fun k hk => by
          by_cases e : k = x.i
          · rw [e, hyh]; exact hMx
          · rw [hyo k e]; exact (hM k hk).mono le0
        refine weak ?_
        obtain ⟨V, hV, hy⟩ := yields_run (P := P) (ops := ops) (S := fun w => Mem E (lookHeap (y :: L) x.i) w) (fun w hw => by rw [hyh] at hw; exact hEx _ _ hw) (by rw [hyh]; exact hMx) hA ha hg (pvT_ok tl hxp ha' hkk)
        have hA' := put_ok hA p1 hV
        refine take_one hsel hQp hrep hgl hcl t1 tf hy (hnil _ hxn) hM' fun g' hg' hc' => ?_
        refine IH1 y g' a.tm _ hn' hLd2 (fun k => ?_) hM' (fun k hk => ?_) hyo hg' hc' f5 ?_ p3
        · by_cases e : k = x.i
          · exact ⟨w, by rw [e, hyh]; exact hMx⟩
          · exact ⟨_, by rw [hyo k e]; exact hM0 k⟩
        · by_cases e : k = x.i
          · rw [e]; exact hnil _ hxn
          · rw [hyo k e] at hk; exact hnil k hk
        · obtain ⟨ta, na⟩ := a
          dsimp only at p2
          subst p2
          exact hA'
def R2A (P : Program) (n : Nat) (ops : Array Oper) (F : FK) (w0 : World) (Q : Exit → Act → World → Prop) (L : List Look) (E0 : Env) (no : Res) (k : Frame → St → Res) (o0 : List (SExit × Frame × St)) (m : Nat) (al : List Nat) (W : R2W) : Prop :=
  ∀ (g : Nat) (listed : Array Bool) (alive : Nat → Prop) (tm : Frame) (s : St) (E : Env) (A : Act) (w : World) (outs : List (SExit × Frame × St)),
    RepM ops listed m → (unlisted ops listed).length ≤ g → Closed ops listed → E0.Le E → ActRel E ⟨tm, n⟩ A → Rel w0 E s w → (∀ k, alive k → Mem E0 (lookHeap L k) w) → (∀ k, lookHeap L k = .nil → alive k) → (∀ k, alive k → lookHeap L k = .nil ∨ k ∈ al) →
      (∀ y ∈ outs, y ∈ o0) → (W.f L no F tm s k).outs = some outs → wpAnyG P ops Q (fun k w => Mem E0 (lookHeap L k) w) g listed alive A w
def R2B (P : Program) (n : Nat) (ops : Array Oper) (F : FK) (w0 : World) (Q : Exit → Act → World → Prop) (L : List Look) (E0 : Env) (no : Res) (k : Frame → St → Res) (o0 : List (SExit × Frame × St)) (m : Nat) (al : List Nat) (W : R2W) (v : RowM) (d : Nat) : Prop :=
  ∀ (g : Nat) (listed : Array Bool) (alive : Nat → Prop) (tm : Frame) (s : St) (E : Env) (b : Nat) (O : Obj) (A : Act) (w : World) (outs : List (SExit × Frame × St)),
    RepM ops listed (Nat.lor m v.bit) → (unlisted ops listed).length ≤ g → Closed ops listed → E0.Le E → Made P v.o d w0 E b O A → ActRel (Eb E b O) ⟨tm, n⟩ A → Rel w0 (Eb E b O) s w → (∀ k, alive k → Mem E0 (lookHeap L k) w) → (∀ k, lookHeap L k = .nil → alive k) → (∀ k, alive k → lookHeap L k = .nil ∨ (k ∈ al ∧ anc ops 4 v.i k = false)) →
      (∀ y ∈ outs, y ∈ o0) → (W.f L no F tm s k).outs = some outs → wpAnyG P ops Q (fun k w => Mem E0 (lookHeap L k) w) g listed alive A w
theorem lor_swap (a b c : Nat) : Nat.lor (Nat.lor a b) c = Nat.lor (Nat.lor a c) b := by
  show (a ||| b) ||| c = (a ||| c) ||| b
  rw [Nat.or_assoc, Nat.or_assoc, Nat.or_comm b]
/-- One step that is alone, in the world as it is. -/
theorem step_case {F : FK} (hF : FKOk P F) {w0 : World} {Q : Exit → Act → World → Prop} {L : List Look} (hn : (L.map (·.k)).Nodup) {E0 : Env} (M0 : ∀ k, ∃ wS, Mem E0 (lookHeap L k) wS) {no : Res} {k : Frame → St → Res} {o0 : List (SExit × Frame × St)} (hpan : Pans w0 E0 n o0 Q) (hno : ¬ ∃ ys, no.outs = some ys ∧ ∀ y ∈ ys, y ∈ o0) {m : Nat} {x : RowM} {al : List Nat} {nx : R2W} (IH : R2A P n ops F w0 Q L E0 no k o0 (Nat.lor m x.bit) (later ops x.i al) nx)
    {g : Nat} {listed : Array Bool} {alive : Nat → Prop} {tm : Frame} {s : St} {E : Env} {A : Act} {w : World} {outs : List (SExit × Frame × St)} (hrep : RepM ops listed m) (hgl : (unlisted ops listed).length ≤ g + 1) (hcl : Closed ops listed) (t1 : x ∈ readyM m (rowsM ops 0 ops.toList)) (le0 : E0.Le E) (hA : ActRel E ⟨tm, n⟩ A) (R : Rel w0 E s w)
    (hnil : ∀ k, lookHeap L k = .nil → alive k) (hal : ∀ k, alive k → lookHeap L k = .nil ∨ k ∈ al) (hsub : ∀ y ∈ outs, y ∈ o0) (h : ((r2step P n ops x (later ops x.i al) nx).f L no F tm s k).outs = some outs) :
    wpOp P ops Q x.i (fun a' w' => ∃ alive' : Nat → Prop, (∀ k, alive k → anc ops 4 x.i k = false → alive' k) ∧ (∀ k, alive' k → Mem E0 (lookHeap L k) w') ∧ wpAnyG P ops Q (fun k w => Mem E0 (lookHeap L k) w) g (listed.setIfInBounds x.i true) alive' a' w') A w := by
  obtain ⟨x1, x2, x3, x4, x5, x6⟩ := ready_facts hrep t1
  have lx := unlisted_length x3
  refine r2step_wp hF hno x1 hA R hsub (hpan.sub le0 hsub) h fun tm' s' E' A' w' ys le hA' R' hs hh hrun _ => ?_
  have al1 : ∀ j, (alive j ∧ anc ops 4 x.i j = false) ∨ lookHeap L j = .nil → lookHeap L j = .nil ∨ j ∈ later ops x.i al := fun j hj => by
    rcases hj with ⟨j1, j2⟩ | j1
    · exact (hal j j1).imp id fun e => later_mem e j2
    · exact .inl j1
  have hM1 : ∀ j, (alive j ∧ anc ops 4 x.i j = false) ∨ lookHeap L j = .nil → Mem E0 (lookHeap L j) w' := fun j hj => looks_after hn M0 (le0.trans le) R' hh (al1 j hj)
  exact ⟨fun j => (alive j ∧ anc ops 4 x.i j = false) ∨ lookHeap L j = .nil, fun j h1 h2 => .inl ⟨h1, h2⟩, hM1, IH _ _ _ _ _ _ _ _ _ x5 (by omega) (hcl.set x4) (le0.trans le) hA' R' hM1 (fun j hj => .inr hj) al1 (fun y hy => hsub _ (hs y hy)) hrun⟩
theorem r2_ok {F : FK} (hF : FKOk P F) (hsel : Region.noSelect ops = true) {w0 : World} {Q : Exit → Act → World → Prop} (hQp : ∀ o ∈ ops.toList, ∀ v c a w, Q (.panic c) (Act.put a o.dst v) w → Q (.panic c) a w) {no : Res} {k : Frame → St → Res} {o0 : List (SExit × Frame × St)} (hno : ¬ ∃ ys, no.outs = some ys ∧ ∀ y ∈ ys, y ∈ o0) :
    ∀ {f m : Nat} {pm : Option (RowM × Nat)} {al ks : List Nat} {W : R2W}, r2 P n ops (rowsM ops 0 ops.toList) f m pm al ks = some W → (∀ q, pm = some q → q.1 ∈ rowsM ops 0 ops.toList ∧ lateV P q.1.o = some q.2) → ∀ {L : List Look} (hn : (L.map (·.k)).Nodup) (hLd : ∀ y ∈ L, y.k ∈ ks ∧ ∃ o, ops[y.k]? = some o ∧ isLoad o = true) {E0 : Env} (M0 : ∀ k, ∃ wS, Mem E0 (lookHeap L k) wS) (hpan : Pans w0 E0 n o0 Q)
    (hk : ∀ tm' s' E' A' w' ys, (k tm' s').outs = some ys → (∀ y ∈ ys, y ∈ o0) → E0.Le E' → ActRel E' ⟨tm', n⟩ A' → Rel w0 E' s' w' → Q .normal A' w'), R2A P n ops F w0 Q L E0 no k o0 m al W ∧ ∀ q, pm = some q → R2B P n ops F w0 Q L E0 no k o0 m al W q.1 q.2 := by
  have done : ∀ {L : List Look} {E0 : Env} (hk : ∀ tm' s' E' A' w' ys, (k tm' s').outs = some ys → (∀ y ∈ ys, y ∈ o0) → E0.Le E' → ActRel E' ⟨tm', n⟩ A' → Rel w0 E' s' w' → Q .normal A' w') {m : Nat} {al : List Nat}, readyM m (rowsM ops 0 ops.toList) = [] → R2A P n ops F w0 Q L E0 no k o0 m al ⟨fun _ _ _ tm s k => k tm s⟩ :=
    fun {L E0} hk {m al} hr g listed alive tm s E A w outs hrep hgl hcl le0 hA R hM hnil hal hsub h => wpAnyG_done (by rw [ready_eq hrep, hr]; rfl) (hk tm s E A w outs h hsub le0 hA R) _
  have hload : ∀ {L : List Look} {ks : List Nat} (hLd : ∀ y ∈ L, y.k ∈ ks ∧ ∃ o, ops[y.k]? = some o ∧ isLoad o = true) {x : RowM}, ops[x.i]? = some x.o → plainK x.o = true → lookHeap L x.i = .nil := fun {L ks} hLd {x} f1 t2 => lookHeap_nil fun y hy e => by
    obtain ⟨-, o, h1, h2⟩ := hLd y hy
    rw [e, f1] at h1
    cases h1
    rw [plain_load t2] at h2
    cases h2
  intro f
  induction f with
  | zero =>
    intro m pm al ks W hW hpm L hn hLd E0 M0 hpan hk
    cases pm with
    | some q => unfold r2 at hW; cases hW
    | none =>
      refine ⟨?_, fun q hq => by cases hq⟩
      unfold r2 at hW
      rw [readyK_eq] at hW
      split at hW
      · rename_i hr
        cases hW
        exact done hk hr
      · cases hW
  | succ f ih =>
    intro m pm al ks W hW hpm L hn hLd E0 M0 hpan hk
    cases pm with
    | none =>
      refine ⟨?_, fun q hq => by cases hq⟩
      unfold r2 at hW
      rw [readyK_eq] at hW
      split at hW
      · rename_i hr
        cases hW
        exact done hk hr
      · rename_i r rs hr
        split at hW
        · rename_i x hx
          split at hW
          · rename_i nx hnx
            cases hW
            obtain ⟨t1, t2, t3⟩ := take2_ok hx
            intro g listed alive tm s E A w outs hrep hgl hcl le0 hA R hM hnil hal hsub h
            refine take2_case hsel hQp hno hrep hgl hcl t1 (freeK_ok rows_bit t3) (hload hLd (ready_facts hrep t1).1 t2) hA R.asm hM hnil hsub h fun g' tm' V i1 i2 i3 i4 i5 => ?_
            exact (ih hnx (fun q hq => by cases hq) hn hLd M0 hpan hk).1 _ _ _ _ _ _ _ _ _ i3 i1 i2 le0 i4 R hM hnil hal hsub i5
          · cases hW
        · split at hW
          · split at hW
            · rename_i nx hnx
              cases hW
              intro g listed alive tm s E A w outs hrep hgl hcl le0 hA R hM hnil hal hsub h
              have t1 : r ∈ readyM m (rowsM ops 0 ops.toList) := by rw [hr]; exact List.mem_singleton.2 rfl
              obtain ⟨g, rfl⟩ : ∃ g', g = g' + 1 := by
                have := List.length_pos_of_mem (ready_facts hrep t1).2.2.1
                exact ⟨g - 1, by omega⟩
              refine wpAnyG_all (rs := [r.i]) (by rw [ready_eq hrep, hr]; rfl) (by simp) fun i hi => ?_
              obtain rfl := List.mem_singleton.1 hi
              exact step_case hF hn M0 hpan hno (ih hnx (fun q hq => by cases hq) hn hLd M0 hpan hk).1 hrep hgl hcl t1 le0 hA R hnil hal hsub h
            · cases hW
          · split at hW
            · rename_i x hx
              split at hW
              · rename_i nx hnx
                cases hW
                obtain ⟨t1, t2, t3, t4⟩ := take3_ok hx
                intro g listed alive tm s E A w outs hrep hgl hcl le0 hA R hM hnil hal hsub h
                have hal' : ∀ k, alive k → lookHeap L k = .nil ∨ k ∈ x.i :: al := fun k hk => (hal k hk).imp id fun e => List.mem_cons_of_mem _ e
                refine look_case hsel hQp hn hLd M0 le0 hno (fun _ _ h => h) hrep hgl hcl t1 t2 (freeK_ok rows_bit t3) t4 hA R.asm R.mem hM hnil hsub h (fun g' tm' V i0 i1 i2 i3 i4 i5 => ?_) fun y g' tm' V j1 j2 j3 j4 j5 j6 i1 i2 i3 i4 i5 => ?_
                · exact (ih hnx (fun q hq => by cases hq) hn i0 M0 hpan hk).1 _ _ _ _ _ _ _ _ _ i3 i1 i2 le0 i4 R hM hnil hal' hsub i5
                · refine (ih hnx (fun q hq => by cases hq) j1 j2 j3 (hpan.sub le0 fun y hy => hy) (fun tm' s' E' A' w' ys z1 z2 z3 => hk tm' s' E' A' w' ys z1 z2 (le0.trans z3))).1 _ _ _ _ _ _ _ _ _ i3 i1 i2 (.refl E) i4 R j4 j5 (fun k hk => ?_) hsub i5
                  by_cases e : k = x.i
                  · exact .inr (by rw [e]; exact List.mem_cons_self)
                  · rw [j6 k e]; exact hal' k hk
              · cases hW
            · split at hW
              · rename_i q hq
                have hq' : q.1 ∈ rowsM ops 0 ops.toList ∧ lateV P q.1.o = some q.2 := by
                  unfold pendV at hq
                  rw [findK_eq, readyK_eq] at hq
                  split at hq
                  · rename_i v hv
                    split at hq
                    · rename_i d hd
                      cases hq
                      exact ⟨readyM_sub (List.mem_of_find?_eq_some hv), hd⟩
                    · cases hq
                  · cases hq
                exact (ih hW (fun q' hq'' => by cases hq''; exact hq') hn hLd M0 hpan hk).1
              · cases hW
    | some q =>
      obtain ⟨v, d⟩ := q
      obtain ⟨hvr, hlv⟩ := hpm _ rfl
      dsimp only at hvr hlv
      obtain ⟨hkind, hg, hdst, hd64, hdp⟩ := lateV_ok hlv
      have hpm' : ∀ q', some (v, d) = some q' → q'.1 ∈ rowsM ops 0 ops.toList ∧ lateV P q'.1.o = some q'.2 := fun q' e => by cases e; exact ⟨hvr, hlv⟩
      unfold r2 at hW
      dsimp only at hW
      split at hW
      · -- nothing else can come up
        rename_i hao
        obtain ⟨hv, hone⟩ := aloneOk_ok hvr hao
        split at hW
        · rename_i nx hnx
          cases hW
          have IH := (ih hnx (fun q hq => by cases hq) hn hLd M0 hpan hk).1
          refine ⟨?_, fun q' e => ?_⟩
          · intro g listed alive tm s E A w outs hrep hgl hcl le0 hA R hM hnil hal hsub h
            obtain ⟨g, rfl⟩ : ∃ g', g = g' + 1 := by
              have := List.length_pos_of_mem (ready_facts hrep hv).2.2.1
              exact ⟨g - 1, by omega⟩
            refine wpAnyG_all rfl (List.ne_nil_of_mem (ready_facts hrep hv).2.1) fun i hi => ?_
            rw [ready_eq hrep] at hi
            obtain ⟨y, y1, rfl⟩ := List.mem_map.1 hi
            have e := hone y y1
            subst e
            exact step_case hF hn M0 hpan hno IH hrep hgl hcl hv le0 hA R hnil hal hsub h
          · cases e
            dsimp only
            intro g listed alive tm s E b O A w outs hrep hgl hcl le0 md hA R hM hnil hal hsub h
            obtain ⟨k'', q1, q2⟩ := r2step_run h
            obtain ⟨u1, s2, a, hmk1, p1, p2, zs, p3, p4⟩ := kop_mk hkind hg q1
            rcases q2 _ _ _ p3 with e | ⟨hh2, hrun3⟩
            · exact (hno ⟨zs, e, fun y hy => hsub _ (p4 y hy)⟩).elim
            rw [hdst] at p1
            obtain ⟨E3, le3, R3, hA3⟩ := make_named hA R md hmk1 p1
            obtain ⟨ta, na⟩ := a
            dsimp only at p2
            subst p2
            refine IH _ _ _ _ _ _ _ _ _ hrep hgl hcl (le0.trans le3) hA3 R3 hM hnil (fun j hj => (hal j hj).imp id fun e => later_mem e.1 e.2) (fun y hy => hsub _ (p4 y hy)) hrun3
        · cases hW
      split at hW
      · rename_i x hx
        split at hW
        · rename_i nx hnx
          cases hW
          obtain ⟨t1, t2, t3, t4, t5, t6⟩ := takeP4_ok hx
          obtain ⟨hxd, hxp⟩ := dstOk_ok t3
          have up : ∀ {listed : Array Bool} {x : RowM}, RepM ops listed (Nat.lor (Nat.lor m v.bit) x.bit) → RepM ops listed (Nat.lor (Nat.lor m x.bit) v.bit) := fun h => by rw [lor_swap]; exact h
          have IH := ih hnx hpm' hn hLd M0 hpan hk
          refine ⟨?_, fun q' e => ?_⟩
          · intro g listed alive tm s E A w outs hrep hgl hcl le0 hA R hM hnil hal hsub h
            refine take2_case hsel hQp hno hrep hgl hcl t6 (freeK_ok rows_bit t4) (hload hLd (ready_facts hrep t6).1 t2) hA R.asm hM hnil hsub h fun g' tm' V i1 i2 i3 i4 i5 => ?_
            exact IH.1 _ _ _ _ _ _ _ _ _ i3 i1 i2 le0 i4 R hM hnil hal hsub i5
          · cases e
            dsimp only
            intro g listed alive tm s E b O A w outs hrep hgl hcl le0 md hA R hM hnil hal hsub h
            refine take2_case hsel hQp hno hrep hgl hcl t1 (freeK_ok rows_bit t5) (hload hLd (ready_facts hrep t1).1 t2) hA R.asm hM hnil hsub h fun g' tm' V i1 i2 i3 i4 i5 => ?_
            exact IH.2 _ rfl _ _ _ _ _ _ _ _ _ _ _ (up i3) i1 i2 le0 (md.keep hkind rfl put_size (put_keep hxd) fun j hj => put_keep (hxp j hj)) i4 R hM hnil hal hsub i5
        · cases hW
      split at hW
      · cases hW
      · rename_i hpo
        obtain ⟨hv, hdown, hup⟩ := pendOk_ok hvr hpo
        have up : ∀ {listed : Array Bool} {x : RowM}, RepM ops listed (Nat.lor (Nat.lor m v.bit) x.bit) → RepM ops listed (Nat.lor (Nat.lor m x.bit) v.bit) := fun h => by rw [lor_swap]; exact h
        rw [readyK_eq] at hW
        split at hW
        · -- it is made now
          rename_i hr
          split at hW
          · rename_i nx hnx
            cases hW
            have IH := (ih hnx (fun q hq => by cases hq) hn hLd M0 hpan hk).1
            refine ⟨?_, fun q' e => ?_⟩
            · intro g listed alive tm s E A w outs hrep hgl hcl le0 hA R hM hnil hal hsub h
              obtain ⟨g, rfl⟩ : ∃ g', g = g' + 1 := by
                have := List.length_pos_of_mem (ready_facts hrep hv).2.2.1
                exact ⟨g - 1, by omega⟩
              refine wpAnyG_all rfl (List.ne_nil_of_mem (ready_facts hrep hv).2.1) fun i hi => ?_
              rw [ready_eq hrep] at hi
              obtain ⟨y, y1, rfl⟩ := List.mem_map.1 hi
              rcases hup y y1 with e | e
              · subst e
                exact step_case hF hn M0 hpan hno IH hrep hgl hcl hv le0 hA R hnil hal hsub h
              · rw [hr] at e; cases e
            · cases e
              dsimp only
              intro g listed alive tm s E b O A w outs hrep hgl hcl le0 md hA R hM hnil hal hsub h
              obtain ⟨k'', q1, q2⟩ := r2step_run h
              obtain ⟨u1, s2, a, hmk1, p1, p2, zs, p3, p4⟩ := kop_mk hkind hg q1
              rcases q2 _ _ _ p3 with e | ⟨hh2, hrun3⟩
              · exact (hno ⟨zs, e, fun y hy => hsub _ (p4 y hy)⟩).elim
              rw [hdst] at p1
              obtain ⟨E3, le3, R3, hA3⟩ := make_named hA R md hmk1 p1
              obtain ⟨ta, na⟩ := a
              dsimp only at p2
              subst p2
              refine IH _ _ _ _ _ _ _ _ _ hrep hgl hcl (le0.trans le3) hA3 R3 hM hnil (fun j hj => (hal j hj).imp id fun e => later_mem e.1 e.2) (fun y hy => hsub _ (p4 y hy)) hrun3
          · cases hW
        · rename_i r rs hr
          split at hW
          · rename_i x hx
            split at hW
            · rename_i nx hnx
              cases hW
              obtain ⟨t1, t2, t3, t4, t5⟩ := takeP2_ok hx
              obtain ⟨hxd, hxp⟩ := dstOk_ok t3
              have IH := ih hnx hpm' hn hLd M0 hpan hk
              refine ⟨?_, fun q' e => ?_⟩
              · intro g listed alive tm s E A w outs hrep hgl hcl le0 hA R hM hnil hal hsub h
                refine take2_case hsel hQp hno hrep hgl hcl (hdown _ t1) (freeK_ok rows_bit t4) (hload hLd (ready_facts hrep (hdown _ t1)).1 t2) hA R.asm hM hnil hsub h fun g' tm' V i1 i2 i3 i4 i5 => ?_
                exact IH.1 _ _ _ _ _ _ _ _ _ i3 i1 i2 le0 i4 R hM hnil hal hsub i5
              · cases e
                dsimp only
                intro g listed alive tm s E b O A w outs hrep hgl hcl le0 md hA R hM hnil hal hsub h
                refine take2_case hsel hQp hno hrep hgl hcl t1 (freeK_ok rows_bit t5) (hload hLd (ready_facts hrep t1).1 t2) hA R.asm hM hnil hsub h fun g' tm' V i1 i2 i3 i4 i5 => ?_
                exact IH.2 _ rfl _ _ _ _ _ _ _ _ _ _ _ (up i3) i1 i2 le0 (md.keep hkind rfl put_size (put_keep hxd) fun j hj => put_keep (hxp j hj)) i4 R hM hnil hal hsub i5
            · cases hW
          · split at hW
            · split at hW
              · rename_i hdo
                split at hW
                · rename_i nx hnx
                  cases hW
                  obtain ⟨hxd, hxp⟩ := dstOk_ok hdo
                  have IH := ih hnx hpm' hn hLd M0 hpan hk
                  have t1 : r ∈ readyM (Nat.lor m v.bit) (rowsM ops 0 ops.toList) := by rw [hr]; exact List.mem_singleton.2 rfl
                  have run0 : ∀ {tm : Frame} {s : St} {outs : List (SExit × Frame × St)}, (∀ y ∈ outs, y ∈ o0) → ((r2pstep P n ops r v d (later ops r.i al) nx).f L no F tm s k).outs = some outs → (∃ u s2, mkOf P ⟨tm.clr d, n⟩ s v.o = some (u, s2)) ∧ ((r2step P n ops r (later ops r.i al) nx).f L no F (tm.clr d) s k).outs = some outs := fun {tm s outs} hsub h => by
                    have h : ((cnear d).p tm fun tm0 => @Bool.rec (fun _ => Res) no ((r2step P n ops r (later ops r.i al) nx).f L no F tm0 s k) ((dryOf P n v.o).d tm0 s)).outs = some outs := h
                    rw [cnear_ok] at h
                    cases hdry : (dryOf P n v.o).d (tm.clr d) s with
                    | false =>
                      rw [hdry] at h
                      exact (hno ⟨outs, h, hsub⟩).elim
                    | true =>
                      rw [hdry] at h
                      exact ⟨dry_ok hkind hdry, h⟩
                  have two : R2B P n ops F w0 Q L E0 no k o0 m al (r2step P n ops r (later ops r.i al) nx) v d := by
                    intro g listed alive tm s E b O A w outs hrep hgl hcl le0 md hA R hM hnil hal hsub h
                    obtain ⟨x1, x2, x3, x4, x5, x6⟩ := ready_facts hrep t1
                    have lx := unlisted_length x3
                    obtain ⟨g, rfl⟩ : ∃ g', g = g' + 1 := ⟨g - 1, by omega⟩
                    refine wpAnyG_all (rs := [r.i]) (by rw [ready_eq hrep, hr]; rfl) (by simp) fun i hi => ?_
                    obtain rfl := List.mem_singleton.1 hi
                    refine r2step_wp hF hno x1 hA R hsub ((hpan.sub le0 hsub).eb md.kp) h fun tm' s' E' A' w' ys le hA' R' hs hh hrun hkeep => ?_
                    obtain ⟨l1, l2⟩ := Eb_le le
                    rw [l2] at hA' R'
                    have md' : Made P v.o d w0 { E' with kp := E.kp } b O A' := md.keep hkind rfl (by rw [show A'.tmps.size = n from hA'.size, show A.tmps.size = n from hA.size]) (hkeep d hxd) fun j hj => hkeep j (hxp j hj)
                    have al1 : ∀ j, (alive j ∧ anc ops 4 r.i j = false) ∨ lookHeap L j = .nil → lookHeap L j = .nil ∨ (j ∈ later ops r.i al ∧ anc ops 4 v.i j = false) := fun j hj => by
                      rcases hj with ⟨j1, j2⟩ | j1
                      · exact (hal j j1).imp id fun e => ⟨later_mem e.1 j2, e.2⟩
                      · exact .inl j1
                    have hM1 : ∀ j, (alive j ∧ anc ops 4 r.i j = false) ∨ lookHeap L j = .nil → Mem E0 (lookHeap L j) w' := fun j hj => looks_after hn M0 (le0.trans l1) (Rel.unEb (b := b) (O := O) md.kp R') hh ((al1 j hj).imp id fun e => e.1)
                    exact ⟨fun j => (alive j ∧ anc ops 4 r.i j = false) ∨ lookHeap L j = .nil, fun j h1 h2 => .inl ⟨h1, h2⟩, hM1, IH.2 _ rfl _ _ _ _ _ _ _ _ _ _ _ (up x5) (by omega) (hcl.set x4) (le0.trans l1) md' hA' R' hM1 (fun j hj => .inr hj) al1 (fun y hy => hsub _ (hs y hy)) hrun⟩
                  refine ⟨?_, fun q' e => by
                    cases e
                    intro g listed alive tm s E b O A w outs hrep hgl hcl le0 md hA R hM hnil hal hsub h
                    exact two _ _ _ _ _ _ _ _ _ _ _ hrep hgl hcl le0 md (hA.clr hd64) R hM hnil hal hsub (run0 hsub h).2⟩
                  intro g listed alive tm s E A w outs hrep hgl hcl le0 hA R hM hnil hal hsub h
                  obtain ⟨⟨u0, s0, hmk0⟩, hb⟩ := run0 hsub h
                  obtain ⟨v1, v2, v3, v4, v5, v6⟩ := ready_facts hrep hv
                  have lv := unlisted_length v3
                  obtain ⟨g, rfl⟩ : ∃ g', g = g' + 1 := ⟨g - 1, by omega⟩
                  refine wpAnyG_all rfl (List.ne_nil_of_mem v2) fun i hi => ?_
                  rw [ready_eq hrep] at hi
                  obtain ⟨y, y1, rfl⟩ := List.mem_map.1 hi
                  rcases hup y y1 with e | e
                  · -- it comes up now
                    subst e
                    obtain ⟨O, V, hrun, md, hA1, R1⟩ := make_now hA R hd64 hdst hdp hkind hmk0
                    unfold wpOp
                    simp only [v1]
                    rw [if_pos (by simp [Region.wanted, hg])]
                    refine .inl ?_
                    unfold Oper.wp
                    rw [hrun, Oper.upon_value, hdst]
                    have alv : ∀ j, (alive j ∧ anc ops 4 y.i j = false) ∨ lookHeap L j = .nil → Mem E0 (lookHeap L j) (w.alloc O) := fun j hj => by
                      rcases hj with ⟨j1, -⟩ | j1
                      · exact (hM j j1).alloc _
                      · rw [j1]; exact mem_nil
                    refine ⟨fun j => (alive j ∧ anc ops 4 y.i j = false) ∨ lookHeap L j = .nil, fun j h1 h2 => .inl ⟨h1, h2⟩, alv, ?_⟩
                    refine two _ _ _ (tm.clr d) s E w.heap.size O _ _ outs v5 (by omega) (hcl.set v4) le0 md hA1 R1 alv (fun j hj => .inr hj) (fun j hj => ?_) hsub hb
                    rcases hj with ⟨j1, j2⟩ | j1
                    · exact (hal j j1).imp id fun e => ⟨e, j2⟩
                    · exact .inl j1
                  · rw [hr] at e
                    obtain rfl := List.mem_singleton.1 e
                    exact step_case hF hn M0 hpan hno IH.1 hrep hgl hcl (hdown _ t1) le0 (hA.clr hd64) R hnil hal hsub hb
                · cases hW
              · cases hW
            · split at hW
              · rename_i x hx
                split at hW
                · rename_i nx hnx
                  cases hW
                  obtain ⟨t1, t2, t3, t4, t5, t6, t7⟩ := takeP3_ok hx
                  obtain ⟨hxd, hxp⟩ := dstOk_ok t3
                  refine ⟨?_, fun q' e => ?_⟩
                  · intro g listed alive tm s E A w outs hrep hgl hcl le0 hA R hM hnil hal hsub h
                    have hal' : ∀ k, alive k → lookHeap L k = .nil ∨ k ∈ x.i :: al := fun k hk => (hal k hk).imp id fun e => List.mem_cons_of_mem _ e
                    refine look_case hsel hQp hn hLd M0 le0 hno (fun _ _ h => h) hrep hgl hcl (hdown _ t1) t2 (freeK_ok rows_bit t6) t4 hA R.asm R.mem hM hnil hsub h (fun g' tm' V i0 i1 i2 i3 i4 i5 => ?_) fun y g' tm' V j1 j2 j3 j4 j5 j6 i1 i2 i3 i4 i5 => ?_
                    · exact (ih hnx hpm' hn i0 M0 hpan hk).1 _ _ _ _ _ _ _ _ _ i3 i1 i2 le0 i4 R hM hnil hal' hsub i5
                    · refine (ih hnx hpm' j1 j2 j3 (hpan.sub le0 fun y hy => hy) (fun tm' s' E' A' w' ys z1 z2 z3 => hk tm' s' E' A' w' ys z1 z2 (le0.trans z3))).1 _ _ _ _ _ _ _ _ _ i3 i1 i2 (.refl E) i4 R j4 j5 (fun k hk => ?_) hsub i5
                      by_cases e : k = x.i
                      · exact .inr (by rw [e]; exact List.mem_cons_self)
                      · rw [j6 k e]; exact hal' k hk
                  · cases e
                    dsimp only
                    intro g listed alive tm s E b O A w outs hrep hgl hcl le0 md hA R hM hnil hal hsub h
                    have hal' : ∀ k, alive k → lookHeap L k = .nil ∨ (k ∈ x.i :: al ∧ anc ops 4 v.i k = false) := fun k hk => (hal k hk).imp id fun e => ⟨List.mem_cons_of_mem _ e.1, e.2⟩
                    have mdk : ∀ V, Made P v.o d w0 E b O (A.put x.o.dst V) := fun V => md.keep hkind rfl put_size (put_keep hxd) fun j hj => put_keep (hxp j hj)
                    refine look_case hsel hQp hn hLd M0 le0 hno (Ex := Eb E b O) (fun _ _ h => h.setKp _) hrep hgl hcl t1 t2 (freeK_ok rows_bit t7) t4 hA R.asm (Rel.unEb md.kp R).mem hM hnil hsub h (fun g' tm' V i0 i1 i2 i3 i4 i5 => ?_) fun y g' tm' V j1 j2 j3 j4 j5 j6 i1 i2 i3 i4 i5 => ?_
                    · exact (ih hnx hpm' hn i0 M0 hpan hk).2 _ rfl _ _ _ _ _ _ _ _ _ _ _ (up i3) i1 i2 le0 (mdk V) i4 R hM hnil hal' hsub i5
                    · refine (ih hnx hpm' j1 j2 j3 (hpan.sub le0 fun y hy => hy) (fun tm' s' E' A' w' ys z1 z2 z3 => hk tm' s' E' A' w' ys z1 z2 (le0.trans z3))).2 _ rfl _ _ _ _ _ _ _ _ _ _ _ (up i3) i1 i2 (.refl E) (mdk V) i4 R j4 j5 (fun k hk => ?_) hsub i5
                      by_cases e : k = x.i
                      · exact .inr ⟨by rw [e]; exact List.mem_cons_self, by rw [e]; exact t5⟩
                      · rw [j6 k e]; exact hal' k hk
                · cases hW
              · cases hW
end
/-! ### the region -/
def nodupN : List Nat → Bool
  | [] => true
  | x :: l => !l.any (Nat.beq x) && nodupN l
theorem nodupN_ok : ∀ {l : List Nat}, nodupN l = true → l.Nodup
  | [], _ => List.nodup_nil
  | x :: l, h => by
    simp only [nodupN, Bool.and_eq_true, Bool.not_eq_true'] at h
    refine List.nodup_cons.2 ⟨fun hx => ?_, nodupN_ok h.2⟩
    have : l.any (Nat.beq x) = true := List.any_eq_true.2 ⟨x, hx, Nat.beq_refl _⟩
    rw [this] at h
    cases h.1
def loadsOf : List RowM → List Nat
  | [] => []
  | r :: l => match isLoad r.o with
    | true => r.i :: loadsOf l
    | false => loadsOf l
theorem mem_loadsOf {r : RowM} : ∀ {l : List RowM}, r ∈ l → isLoad r.o = true → r.i ∈ loadsOf l
  | x :: l, hm, h => by
    unfold loadsOf
    rcases List.mem_cons.1 hm with e | hm
    · subst e; rw [h]; exact List.mem_cons_self
    · split
      · exact List.mem_cons_of_mem _ (mem_loadsOf hm h)
      · exact mem_loadsOf hm h
theorem loadsOf_sub : ∀ {l : List RowM}, (loadsOf l).Sublist (l.map (·.i))
  | [] => .slnil
  | r :: l => by
    unfold loadsOf
    split
    · exact loadsOf_sub.cons_cons _
    · exact loadsOf_sub.cons _
theorem pass_looks {P : Program} {n : Nat} {ops : Array Oper} {h : T SObj} {asm : Asm} {l : List RowM} {tm t : Frame} {L : List Look} (hp : Pass P n ops h asm l tm t L) : (L.map (·.k)).Sublist (loadsOf l) ∧ (∀ x ∈ L, Holds h x) ∧ ∀ x ∈ L, ∃ r ∈ l, r.i = x.k ∧ isLoad r.o = true := by
  induction hp with
  | nil => exact ⟨.slnil, fun x hx => (by cases hx), fun x hx => (by cases hx)⟩
  | @skip r l tm t a L hg hput han hrest ih =>
    refine ⟨?_, ih.2.1, fun x hx => ?_⟩
    · unfold loadsOf
      split
      · exact ih.1.cons _
      · exact ih.1
    · obtain ⟨r, h1, h2⟩ := ih.2.2 x hx
      exact ⟨r, List.mem_cons_of_mem _ h1, h2⟩
  | @plain r l tm t a v L hg hx hput han hrest ih =>
    refine ⟨?_, ih.2.1, fun x hx => ?_⟩
    · unfold loadsOf
      split
      · exact ih.1.cons _
      · exact ih.1
    · obtain ⟨r, h1, h2⟩ := ih.2.2 x hx
      exact ⟨r, List.mem_cons_of_mem _ h1, h2⟩
  | @load r l tm t a v L x hg hx hld hk hholds hput han hrest ih =>
    refine ⟨?_, fun y hy => ?_, fun y hy => ?_⟩
    · unfold loadsOf
      rw [hld]
      simp only [List.map_cons, hk]
      exact ih.1.cons_cons _
    · rcases List.mem_cons.1 hy with e | hy
      · rw [e]; exact hholds
      · exact ih.2.1 y hy
    · rcases List.mem_cons.1 hy with e | hy
      · exact ⟨r, List.mem_cons_self, by rw [e, hk], hld⟩
      · obtain ⟨r, h1, h2⟩ := ih.2.2 y hy
        exact ⟨r, List.mem_cons_of_mem _ h1, h2⟩
theorem takes_rows {rows : List RowM} : ∀ (l : List RowM) (m : Nat), TakesOk rows m l → ∀ r ∈ l, r ∈ rows := by
  intro l
  induction l with
  | nil => intro m _ r hr; cases hr
  | cons x l ih =>
    intro m h r hr
    rcases List.mem_cons.1 hr with e | hr
    · rw [e]; exact readyM_sub h.1
    · exact ih _ h.2.2 r hr
def kdrawGen (P : Program) (n : Nat) (ops : Array Oper) (F : FK) (tm : Frame) (s : St) (k : Frame → St → Res) : Res := manyOps n (execDraw P (toFs F) ops ⟨tm, n⟩ s) k
def dstFree (pp : List Nat) (ops : Array Oper) : Bool := ops.toList.all fun o => match o.dst with
  | some d => !pp.any fun p => Nat.beq p d
  | none => true
noncomputable def kdraw (P : Program) (n : Nat) (pp : List Nat) (ops : Array Oper) : KW :=
  match dstFree pp ops && (noSelectM (rowsM ops 0 ops.toList) && (P.follows .mixedOrders && nodupN ((list1 (rowsM ops 0 ops.toList) ops.size 0).map (·.i)))), r2 P n ops (rowsM ops 0 ops.toList) (Nat.add ops.size ops.size) (maskAfter 0 (list1 (rowsM ops 0 ops.toList) ops.size 0)) none (loadsOf (list1 (rowsM ops 0 ops.toList) ops.size 0)) (loadsOf (list1 (rowsM ops 0 ops.toList) ops.size 0)) with
  | true, some W => @P1W.rec (fun _ => KW) (fun p => @R2W.rec (fun _ => KW) (fun q => ⟨fun F tm s k => p tm s.h s.asm (fun t L => q L (kdrawGen P n ops F tm s k) F t s k) (kdrawGen P n ops F tm s k)⟩) W) (p1 P n ops (list1 (rowsM ops 0 ops.toList) ops.size 0))
  | _, _ => ⟨fun F tm s k => kdrawGen P n ops F tm s k⟩
theorem kdrawGen_ok {P : Program} {n : Nat} {ops : Array Oper} {F : FK} (hF : FKOk P F) {tm : Frame} {s : St} {k : Frame → St → Res} {outs : List (SExit × Frame × St)} (h : (kdrawGen P n ops F tm s k).outs = some outs) {w0 : World} {E : Env} {A : Act} {w : World} (hA : ActRel E ⟨tm, n⟩ A) (R : Rel w0 E s w) {Q : Exit → Act → World → Prop}
    (hQ : ∀ tm' s' E' A' w' ys, (k tm' s').outs = some ys → (∀ y ∈ ys, y ∈ outs) → E.Le E' → ActRel E' ⟨tm', n⟩ A' → Rel w0 E' s' w' → Q .normal A' w') (id : Nat) : (Code.region id ops true).wp P Q A w := by
  obtain ⟨l, h1, h2⟩ := manyOps_outs h
  refine wp_mono (execDraw_ok hF.fs hA R h1 (Q := fun e a w => (∀ c, e ≠ .panic c) ∧ Q e a w) (fun v d c a w hp => (hp.1 c rfl).elim) (fun a' s' E' A' w' hm le hA' R' => ⟨nofun, ?_⟩) id) fun e a w h => h.2
  obtain ⟨p1, ys, p2, p3⟩ := h2 _ hm
  obtain ⟨t', m'⟩ := a'
  dsimp only at p1
  subst p1
  exact hQ t' s' E' A' w' ys p2 p3 le hA' R'
theorem kdraw_ok {P : Program} {n : Nat} {pp : List Nat} {ops : Array Oper} {F : FK} (hF : FKOk P F) {tm : Frame} {s : St} {k : Frame → St → Res} {outs : List (SExit × Frame × St)} (h : ((kdraw P n pp ops).f F tm s k).outs = some outs) {w0 : World} {E : Env} {A : Act} {w : World} (hA : ActRel E ⟨tm, n⟩ A) (R : Rel w0 E s w) {Q : Exit → Act → World → Prop} (hQp : dstFree pp ops = true → ∀ o ∈ ops.toList, ∀ v c a w, Q (.panic c) (Act.put a o.dst v) w → Q (.panic c) a w) (hpan : Pans w0 E n outs Q)
    (hQ : ∀ tm' s' E' A' w' ys, (k tm' s').outs = some ys → (∀ y ∈ ys, y ∈ outs) → E.Le E' → ActRel E' ⟨tm', n⟩ A' → Rel w0 E' s' w' → Q .normal A' w') (id : Nat) : (Code.region id ops true).wp P Q A w := by
  by_cases hno : ∃ ys, (kdrawGen P n ops F tm s k).outs = some ys ∧ ∀ y ∈ ys, y ∈ outs
  · obtain ⟨ys, h1, h2⟩ := hno
    exact kdrawGen_ok hF h1 hA R (fun tm' s' E' A' w' zs z1 z2 => hQ tm' s' E' A' w' zs z1 fun y hy => h2 _ (z2 y hy)) id
  · unfold kdraw at h
    split at h
    · rename_i W hc hW
      simp only [Bool.and_eq_true] at hc
      replace hQp := hQp hc.1
      replace hc := hc.2
      have h : ((p1 P n ops (list1 (rowsM ops 0 ops.toList) ops.size 0)).p tm s.h s.asm (fun t L => W.f L (kdrawGen P n ops F tm s k) F t s k) (kdrawGen P n ops F tm s k)).outs = some outs := h
      rcases p1_ok h with h1 | ⟨t, L, hp, h1⟩
      · exact (hno ⟨outs, h1, fun y hy => hy⟩).elim
      · obtain ⟨a1, a2, a3⟩ := pass_looks hp
        have hto : TakesOk (rowsM ops 0 ops.toList) 0 (list1 (rowsM ops 0 ops.toList) ops.size 0) := list1_ok rows_bit _ _
        have hn : (L.map (·.k)).Nodup := (a1.trans loadsOf_sub).nodup (nodupN_ok hc.2.2)
        have hsel : Region.noSelect ops = true := by
          unfold Region.noSelect
          rw [← Array.all_toList, List.all_eq_true]
          exact noSelectM_ok hc.1
        have hrep : RepM ops (Array.replicate ops.size false) 0 := ⟨by simp, fun k => by
          simp only [Nat.zero_testBit, Array.getD_eq_getD_getElem?, Array.getElem?_replicate]
          split <;> rfl⟩
        have hcount : (unlisted ops (Array.replicate ops.size false)).length ≤ ops.size := by
          have := List.length_filter_le (fun i => !(Array.replicate ops.size false).getD i true) (List.range ops.size)
          rw [List.length_range] at this
          exact this
        have hclosed : Closed ops (Array.replicate ops.size false) := fun j hj => by
          simp only [Array.getD_eq_getD_getElem?, Array.getElem?_replicate] at hj
          split at hj <;> simp at hj
        have Rd : Rel w0 E s { w with drawn := w.drawn + 1 } := R.same rfl rfl rfl rfl
        have hM : ∀ k, Mem E (lookHeap L k) { w with drawn := w.drawn + 1 } := fun k => lookHeap_mem fun x hx _ => look_mem Rd.mem (a2 x hx)
        refine wp_region_any hc.2.1 (wpAny_of_G (M := fun k w => Mem E (lookHeap L k) w) _ _ (fun _ => True) _ _ ?_)
        refine pass_ok hsel hQp hn hM R.asm hp (fun x hx => hx) hto hrep hcount hclosed hA fun g' listed' A' r1 r2' r3 r4 => ?_
        refine (r2_ok hF hsel hQp hno hW (fun q hq => by cases hq) hn (fun y hy => ?_) (fun k => ⟨_, hM k⟩) hpan hQ).1 _ _ _ _ _ _ _ _ _ r1 r2' r3 (.refl E) r4 Rd (fun k _ => hM k) (fun _ _ => trivial) (fun k _ => ?_) (fun y hy => hy) h1
        · obtain ⟨r, q1, q2, q3⟩ := a3 y hy
          obtain ⟨o, o1, o2⟩ := mem_rows.1 (takes_rows _ _ hto r q1)
          have : r.o = o := by rw [o2]; rfl
          exact ⟨by rw [← q2]; exact mem_loadsOf q1 q3, o, by rw [← q2]; exact o1, by rw [← this]; exact q3⟩
        · by_cases hx : ∃ y ∈ L, y.k = k
          · obtain ⟨y, y1, y2⟩ := hx
            obtain ⟨r, q1, q2, q3⟩ := a3 y y1
            right
            rw [← y2, ← q2]
            exact mem_loadsOf q1 q3
          · exact .inl (lookHeap_nil fun y hy e => hx ⟨y, hy, e⟩)
    · exact (hno ⟨outs, h, fun y hy => hy⟩).elim
end Go.Sx
/-
  A fast symbolic run (part 5): code, functions, and the theorem.
-/
namespace Go.Sx
set_option linter.unusedVariables false
set_option linter.unusedSimpArgs false
section
variable {P : Program} {w0 w : World} {E : Env} {s : St} {n : Nat} {pp : List Nat}
theorem PostK.noPanic {k : Frame → St → Res} {outs : List (SExit × Frame × St)} {c : List PanicEntry} {A : Act} {w : World} (h : PostK w0 E n k outs (.panic c) A w) : False := by
  obtain ⟨tm, s, E', h1, h2, h3, ⟨e, -⟩ | ⟨se, h4, -⟩⟩ := h
  · cases e
  · cases se <;> exact h4.elim
theorem PostK.weaken {E E' : Env} {k : Frame → St → Res} {outs outs' : List (SExit × Frame × St)} (le : E.Le E') (h : ∀ p ∈ outs', p ∈ outs) {e : Exit} {A : Act} {w : World} (hp : PostK w0 E' n k outs' e A w) : PostK w0 E n k outs e A w := by
  obtain ⟨tm, s, E2, h1, h2, h3, h4⟩ := hp
  refine ⟨tm, s, E2, le.trans h1, h2, h3, ?_⟩
  rcases h4 with ⟨e, ys, h5, h6⟩ | ⟨se, h5, h6, h7⟩
  · exact .inl ⟨e, ys, h5, fun y hy => h _ (h6 y hy)⟩
  · exact .inr ⟨se, h5, h6, h _ h7⟩
theorem PostP.weaken {E E' : Env} {outs outs' : List (SExit × Frame × St)} (le : E.Le E') (h : ∀ p ∈ outs', p ∈ outs) {e : Exit} {A : Act} {w : World} (hp : PostP w0 E' n pp outs' e A w) : PostP w0 E n pp outs e A w := by
  obtain ⟨v, V, tm, s, E2, h1, h2, h3, h4⟩ := hp
  exact ⟨v, V, tm, s, E2, h1, h _ h2, le.trans h3, h4⟩
theorem PostKP.weaken {E E' : Env} {k : Frame → St → Res} {outs outs' : List (SExit × Frame × St)} (le : E.Le E') (h : ∀ p ∈ outs', p ∈ outs) {e : Exit} {A : Act} {w : World} (hp : PostKP w0 E' n pp k outs' e A w) : PostKP w0 E n pp k outs e A w :=
  hp.imp (PostK.weaken le h) (PostP.weaken le h)
theorem pans_ok {k : Frame → St → Res} {outs : List (SExit × Frame × St)} : Pans w0 E n outs (PostKP w0 E n pp k outs) :=
  fun v V tm' s' E' A' w' hm le hv hA' R' => .inr ⟨v, V, tm', s', E', rfl, hm, le, hv, hA'.pan pp, R'⟩
theorem PostK.toPost {outs : List (SExit × Frame × St)} {e : Exit} {A : Act} {w : World} (hp : PostK w0 E n Res.norm outs e A w) : Post w0 E (withN n outs) e A w := by
  obtain ⟨tm, s, E2, h1, h2, h3, ⟨rfl, ys, h5, h6⟩ | ⟨se, h5, h6, h7⟩⟩ := hp
  · cases h5
    exact ⟨.normal, ⟨tm, n⟩, s, E2, mem_withN.2 ⟨rfl, h6 _ (List.mem_singleton.2 rfl)⟩, trivial, h1, h2, h3⟩
  · exact ⟨se, ⟨tm, n⟩, s, E2, mem_withN.2 ⟨rfl, h7⟩, h5, h1, h2, h3⟩
theorem toPostK {k : Frame → St → Res} {r : Res} {outs : List (SExit × Frame × St)} (h : (r.bind k).outs = some outs) : ∃ o1, r.outs = some o1 ∧ (∀ {e : Exit} {A : Act} {w : World}, Post w0 E (withN n o1) e A w → PostK w0 E n k outs e A w) ∧ ∀ {e : Exit} {A : Act} {w : World}, PostP w0 E n pp o1 e A w → PostP w0 E n pp outs e A w := by
  obtain ⟨o1, h1, h2⟩ := bind_outs h
  refine ⟨o1, h1, fun {e A w} hp => ?_, fun {e A w} hp => ?_⟩
  rotate_left
  · obtain ⟨v, V, tm, s, E2, p1, p2, p3⟩ := hp
    exact ⟨v, V, tm, s, E2, p1, (h2 _ p2).2 nofun, p3⟩
  obtain ⟨se, ⟨tm, m⟩, s, E2, p1, p2, p3, p4, p5⟩ := hp
  obtain ⟨e1, hm⟩ := mem_withN.1 p1
  dsimp only at e1 hm
  subst e1
  obtain ⟨q1, q2⟩ := h2 _ hm
  refine ⟨tm, s, E2, p3, p4, p5, ?_⟩
  cases se with
  | normal =>
    cases e <;> simp only [ExOk] at p2
    exact .inl ⟨rfl, q1 rfl⟩
  | exit i => cases e <;> simp only [ExOk] at p2 <;> exact .inr ⟨.exit i, p2, nofun, q2 nofun⟩
  | ret => cases e <;> simp only [ExOk] at p2 <;> exact .inr ⟨.ret, trivial, nofun, q2 nofun⟩
  | panic v => cases e <;> exact p2.elim
def KcOk (P : Program) (n : Nat) (pp : List Nat) (c : Code) (f : KO) : Prop :=
  ∀ F, FKOk P F → ∀ tm s k outs, (f F tm s k).outs = some outs → ∀ w0 E A w, ActRel E ⟨tm, n⟩ A → Rel w0 E s w → c.wp P (PostKP w0 E n pp k outs) A w
/-! ### lists of operations -/
noncomputable def kthen (f g : KW) : KW := @KW.rec (fun _ => KW) (fun f => @KW.rec (fun _ => KW) (fun g => ⟨fun F tm s k => f F tm s fun tm s => g F tm s k⟩) g) f
theorem kthen_f (f g : KW) (F : FK) (tm : Frame) (s : St) (k : Frame → St → Res) : (kthen f g).f F tm s k = f.f F tm s fun tm s => g.f F tm s k := rfl
noncomputable def kops (P : Program) (n : Nat) (ops : Array Oper) : List Oper → KW
  | [] => ⟨fun _ tm s k => k tm s⟩
  | [o] => kop P n ops o
  | o :: l => kthen (kop P n ops o) (kops P n ops l)
theorem kops_ok {F : FK} (hF : FKOk P F) {ops : Array Oper} : ∀ {l : List Oper} {tm : Frame} {s : St} {E : Env} {A : Act} {w : World} {k : Frame → St → Res} {outs : List (SExit × Frame × St)}, ActRel E ⟨tm, n⟩ A → Rel w0 E s w → ((kops P n ops l).f F tm s k).outs = some outs → ∀ {Q : Exit → Act → World → Prop},
    Goes w0 E n k outs (Q .normal) → Pans w0 E n outs Q → wpList P ops Q l A w := by
  intro l
  induction l with
  | nil =>
    intro tm s E A w k outs hA R h Q hQ hP
    exact wpList_nil (hQ tm s E A w outs h (fun y hy => hy) (.refl E) hA R)
  | cons o l ih =>
    intro tm s E A w k outs hA R h Q hQ hP
    have one : ∀ {k' : Frame → St → Res}, ((kop P n ops o).f F tm s k').outs = some outs → Goes w0 E n k' outs (wpList P ops Q l) → wpList P ops Q (o :: l) A w := fun h' hk =>
      wpList_step fun K hK => kop_ok P n ops o F hF tm s _ _ h' w0 E A w hA R K Q (fun tm' s' E' A' w' ys q1 q2 le hA' R' => hK _ _ (hk tm' s' E' A' w' ys q1 q2 le hA' R')) hP
    cases l with
    | nil => exact one h fun tm' s' E' A' w' ys q1 q2 le hA' R' => wpList_nil (hQ tm' s' E' A' w' ys q1 q2 le hA' R')
    | cons o' l' =>
      refine one (k' := fun tm s => (kops P n ops (o' :: l')).f F tm s k) h fun tm' s' E' A' w' ys q1 q2 le hA' R' => ?_
      exact ih hA' R' q1 (hQ.sub le q2) (hP.sub le q2)
/-! ### code -/
noncomputable def condMany (x : BX) (s : St) (k : Frame → St → Res) (f g : St → (Frame → St → Res) → Res) : Res := splitWays (ways s.asm x) s (fun s => f s k) (fun s => g s k)
noncomputable def kcond (o : Option SV) (s : St) (k : Frame → St → Res) (f g : St → (Frame → St → Res) → Res) : Res :=
  @Option.rec SV (fun _ => Res) .fail (fun v => @BV.rec (fun _ => Res) .fail (fun b => @Bool.rec (fun _ => Res) (g s k) (f s k) b) (fun x => condMany x s k f g) (asBool v)) o
def leaveF (id : Nat) (p : SExit × Frame × St) : SExit × Frame × St :=
  match p.1 with
  | .exit i => match Nat.beq i id with
    | true => (.normal, p.2.1, p.2.2)
    | false => p
  | _ => p
noncomputable def Res.leave (id : Nat) (r : Res) (k : Frame → St → Res) : Res :=
  @Res.rec (fun _ => Res) k (fun i tm s => @Bool.rec (fun _ => Res) (.exit i tm s) (k tm s) (Nat.beq i id)) Res.ret (fun l => Res.bindMany (l.map (leaveF id)) k) .fail Res.pan r
theorem leave_outs {id : Nat} {r : Res} {k : Frame → St → Res} {outs : List (SExit × Frame × St)} (h : (r.leave id k).outs = some outs) :
    ∃ o1, r.outs = some o1 ∧ ((Res.many (o1.map (leaveF id))).bind k).outs = some outs := by
  cases r with
  | norm tm s =>
    refine ⟨_, rfl, ?_⟩
    show (ofMany (bindL [((SExit.normal, tm, s) : SExit × Frame × St)] _)).outs = _
    rw [ofMany_outs]
    have h : (k tm s).outs = some outs := h
    simp [bindL, h]
  | exit i tm s =>
    refine ⟨_, rfl, ?_⟩
    have h : (@Bool.rec (fun _ => Res) (.exit i tm s) (k tm s) (Nat.beq i id)).outs = some outs := h
    show (ofMany (bindL [leaveF id (.exit i, tm, s)] _)).outs = _
    rw [ofMany_outs]
    cases hb : Nat.beq i id with
    | true =>
      rw [hb] at h
      have h : (k tm s).outs = some outs := h
      simp only [leaveF, hb]
      simp [bindL, h]
    | false =>
      rw [hb] at h
      have h : some [(SExit.exit i, tm, s)] = some outs := h
      simp only [leaveF, hb]
      simpa [bindL] using h
  | ret tm s =>
    have h : some [(SExit.ret, tm, s)] = some outs := h
    refine ⟨_, rfl, ?_⟩
    have e : (Res.many (List.map (leaveF id) [(SExit.ret, tm, s)])).bind k = Res.bindMany [(SExit.ret, tm, s)] k := rfl
    rw [e]
    simp only [Res.bindMany, ofMany_outs]
    simpa [bindL] using h
  | many l => exact ⟨l, rfl, h⟩
  | fail => cases h
  | pan v tm s =>
    have h : some [(SExit.panic v, tm, s)] = some outs := h
    refine ⟨_, rfl, ?_⟩
    have e : (Res.many (List.map (leaveF id) [(SExit.panic v, tm, s)])).bind k = Res.bindMany [(SExit.panic v, tm, s)] k := rfl
    rw [e]
    simp only [Res.bindMany, ofMany_outs]
    simpa [bindL] using h
noncomputable def kcode (P : Program) (n : Nat) (pp : List Nat) : Code → KW
  | .skip => ⟨fun _ tm s k => k tm s⟩
  | .label _ => ⟨fun _ tm s k => k tm s⟩
  | .ret => ⟨fun _ tm s k => .ret tm s⟩
  | .exit id => ⟨fun _ tm s k => .exit id tm s⟩
  | .region _ ops draw => match draw with
    | false => kops P n ops ops.toList
    | true => kdraw P n pp ops
  | .seq x y => kthen (kcode P n pp x) (kcode P n pp y)
  | .cond c x y => @GW.rec (fun _ => KW) (fun g => @KW.rec (fun _ => KW) (fun f1 => @KW.rec (fun _ => KW) (fun f2 => ⟨fun F tm s k => kcond (g tm) s k (f1 F tm) (f2 F tm)⟩) (kcode P n pp y)) (kcode P n pp x)) (gop c)
  | .block id x => @KW.rec (fun _ => KW) (fun f => ⟨fun F tm s k => Res.leave id (f F tm s Res.norm) k⟩) (kcode P n pp x)
  | .loop x => @KW.rec (fun _ => KW) (fun f => ⟨fun F tm s k => f F tm s fun tm s => F.exec n pp (.loop x) tm s⟩) (kcode P n pp x)
  | .scope x => kcode P n pp x
  | _ => ⟨fun _ _ _ _ => .fail⟩
theorem rounds_strict {c : Code} {Q : Exit → Act → World → Prop} : ∀ {N : Nat} {a : Act} {w : World}, Code.rounds P c Q N a w → Code.rounds P c (fun e a w => e ≠ .normal ∧ Q e a w) N a w
  | 0, a, w, hr => hr.elim
  | N + 1, a, w, hr => by
    rw [rounds_succ] at hr ⊢
    refine wp_mono hr fun e a w hq => ?_
    cases e with
    | normal => exact rounds_strict hq
    | _ => exact ⟨nofun, hq⟩
theorem kcond_ok {c : Operand} {x y : Code} {g : Frame → Option SV} {f1 f2 : KO} (hg : ∀ tm, g tm = SAct.ev ⟨tm, n⟩ c) (h1 : KcOk P n pp x f1) (h2 : KcOk P n pp y f2) : KcOk P n pp (.cond c x y) (fun F tm s k => kcond (g tm) s k (f1 F tm) (f2 F tm)) := by
  intro F hF tm s k outs h w0 E A w hA R
  have hv := hg tm
  have h : (kcond (g tm) s k (f1 F tm) (f2 F tm)).outs = some outs := h
  revert h hv
  cases g tm with
  | none => intro _ h; cases h
  | some v =>
    intro hv h
    have h2' : (@BV.rec (fun _ => Res) .fail (fun b => @Bool.rec (fun _ => Res) (f2 F tm s k) (f1 F tm s k) b) (fun x => condMany x s k (f1 F tm) (f2 F tm)) (asBool v)).outs = some outs := h
    clear h
    cases hb : asBool v with
    | no => rw [hb] at h2'; cases h2'
    | lit b =>
      rw [hb] at h2'
      have := asBool_lit hb
      subst this
      have hC := ev_ok hA hv.symm
      have hC : A.eval c = .bool b := by simp only [SV.den, BX.den, Option.some.injEq] at hC; exact hC.symm
      refine wp_cond hC ?_
      cases b with
      | true => exact h1 F hF tm s k outs h2' w0 E A w hA R
      | false => exact h2 F hF tm s k outs h2' w0 E A w hA R
    | sym b =>
      rw [hb] at h2'
      have := asBool_sym hb
      subst this
      have hC := ev_ok hA hv.symm
      obtain ⟨z, z1, hC⟩ := den_bool hC
      have h := splitWays_outs (f := fun s => f1 F tm s k) (q := fun s => f2 F tm s k) h2'
      obtain ⟨asm', h3, h4⟩ := ways_ok R.asm z1
      obtain ⟨ys, q1, q2⟩ := h _ h3
      refine wp_cond hC ?_
      cases z with
      | true => exact wp_mono (h1 F hF tm _ k ys q1 w0 E A w hA (R.setAsm h4)) fun e A2 w2 hp2 => hp2.weaken (.refl E) q2
      | false => exact wp_mono (h2 F hF tm _ k ys q1 w0 E A w hA (R.setAsm h4)) fun e A2 w2 hp2 => hp2.weaken (.refl E) q2
theorem act_put_defers (a : Act) (d : Option Tmp) (v : Value) : (a.put d v).defers = a.defers ∧ (a.put d v).tmps.size = a.tmps.size ∧ ∀ p, (∀ t, d = some t → t ≠ p) → (a.put d v).tmps[p]? = a.tmps[p]? := by
  cases d with
  | none => exact ⟨rfl, rfl, fun _ _ => rfl⟩
  | some t => exact ⟨rfl, by simp [Act.put], fun p hp => by simp only [Act.put]; exact Array.getElem?_setIfInBounds_ne (hp t rfl)⟩
theorem kcode_ok (P : Program) (n : Nat) (pp : List Nat) : ∀ c : Code, KcOk P n pp c (kcode P n pp c).f := by
  intro c
  induction c with
  | skip => exact fun F hF tm s k outs h w0 E A w hA R => wp_skip (.inl ⟨tm, s, E, .refl E, hA, R, .inl ⟨rfl, outs, h, fun y hy => hy⟩⟩)
  | label l => exact fun F hF tm s k outs h w0 E A w hA R => wp_label (.inl ⟨tm, s, E, .refl E, hA, R, .inl ⟨rfl, outs, h, fun y hy => hy⟩⟩)
  | ret =>
    intro F hF tm s k outs h w0 E A w hA R
    cases h
    exact wp_ret (.inl ⟨tm, s, E, .refl E, hA, R, .inr ⟨.ret, trivial, nofun, List.mem_singleton.2 rfl⟩⟩)
  | exit id =>
    intro F hF tm s k outs h w0 E A w hA R
    cases h
    exact wp_exit (.inl ⟨tm, s, E, .refl E, hA, R, .inr ⟨.exit id, rfl, nofun, List.mem_singleton.2 rfl⟩⟩)
  | region id ops draw =>
    intro F hF tm s k outs h w0 E A w hA R
    cases draw with
    | false =>
      exact wp_region_list (kops_ok hF hA R h (Q := PostKP w0 E n pp k outs) (fun tm' s' E' A' w' ys q1 q2 le hA' R' => .inl ⟨tm', s', E', le, hA', R', .inl ⟨rfl, ys, q1, q2⟩⟩) pans_ok)
    | true =>
      refine kdraw_ok hF h hA R (Q := PostKP w0 E n pp k outs) (fun hfree o ho v c a w hp => ?_) pans_ok (fun tm' s' E' A' w' ys q1 q2 le hA' R' => .inl ⟨tm', s', E', le, hA', R', .inl ⟨rfl, ys, q1, q2⟩⟩) id
      rcases hp with hp | ⟨v', V, tm', s', E', h1, h2, h3, h4, ⟨p1, p2, p3⟩, h6⟩
      · exact (hp.noPanic).elim
      · obtain ⟨d1, d2, d3⟩ := act_put_defers a o.dst v
        rw [d1] at p2
        rw [d2] at p1
        refine .inr ⟨v', V, tm', s', E', h1, h2, h3, h4, ⟨p1, p2, fun p hp u hu => ?_⟩, h6⟩
        have := p3 p hp u hu
        rwa [d3 p fun t ht e => ?_] at this
        subst e
        have := List.all_eq_true.1 hfree o ho
        rw [ht] at this
        simp only [Bool.not_eq_true'] at this
        have h7 : pp.any (fun p => Nat.beq p t) = true := List.any_eq_true.2 ⟨t, hp, Nat.beq_refl t⟩
        rw [h7] at this
        cases this
  | seq x y ihx ihy =>
    intro F hF tm s k outs h w0 E A w hA R
    have h : ((kcode P n pp x).f F tm s fun tm s => (kcode P n pp y).f F tm s k).outs = some outs := h
    refine wp_seq (wp_mono (ihx F hF tm s _ outs h w0 E A w hA R) fun e A' w' hp => ?_)
    rcases hp with hp | hp
    · obtain ⟨tm', s', E', le, hA', R', ⟨rfl, ys, q1, q2⟩ | ⟨se, q1, q2, q3⟩⟩ := hp
      · exact wp_mono (ihy F hF tm' s' k ys q1 w0 E' A' w' hA' R') fun e A2 w2 hp2 => hp2.weaken le q2
      · have := (⟨tm', s', E', le, hA', R', .inr ⟨se, q1, q2, q3⟩⟩ : PostK w0 E n k outs e A' w')
        cases e with
        | normal => exact (q2 rfl).elim
        | _ => exact .inl this
    · obtain ⟨v, V, tm', s', E', rfl, q⟩ := hp
      exact .inr ⟨v, V, tm', s', E', rfl, q⟩
  | cond c x y ihx ihy =>
    have := kcond_ok (c := c) (g := (gop c).g) (fun tm => gop_ok c tm n) ihx ihy
    exact this
  | block id x ih =>
    intro F hF tm s k outs h w0 E A w hA R
    have h : (Res.leave id ((kcode P n pp x).f F tm s Res.norm) k).outs = some outs := h
    obtain ⟨o1, h1, h2⟩ := leave_outs h
    obtain ⟨o2, g1, g2, g3⟩ := toPostK (w0 := w0) (E := E) (n := n) (pp := pp) h2
    cases g1
    refine wp_block (wp_mono (ih F hF tm s Res.norm o1 h1 w0 E A w hA R) fun e A' w' hp => ?_)
    rcases hp with hp | hp
    rotate_left
    · obtain ⟨v, V, tm', s', E', rfl, q1, q⟩ := hp
      exact .inr (g3 ⟨v, V, tm', s', E', rfl, List.mem_map.2 ⟨_, q1, rfl⟩, q⟩)
    obtain ⟨se, a', s', E2, p1, p2, p3, p4, p5⟩ := hp.toPost
    obtain ⟨t', m'⟩ := a'
    obtain ⟨e1, hm⟩ := mem_withN.1 p1
    dsimp only at e1 hm
    subst e1
    have hm' : leaveF id (se, t', s') ∈ o1.map (leaveF id) := List.mem_map.2 ⟨_, hm, rfl⟩
    cases se with
    | normal =>
      cases e <;> simp only [ExOk] at p2
      exact .inl (g2 ⟨.normal, ⟨t', _⟩, s', E2, mem_withN.2 ⟨rfl, hm'⟩, trivial, p3, p4, p5⟩)
    | ret =>
      cases e <;> simp only [ExOk] at p2
      exact .inl (g2 ⟨.ret, ⟨t', _⟩, s', E2, mem_withN.2 ⟨rfl, hm'⟩, trivial, p3, p4, p5⟩)
    | panic v => cases e <;> exact p2.elim
    | exit i =>
      cases e <;> simp only [ExOk] at p2
      subst p2
      simp only [leaveF] at hm'
      simp only [Exit.inBlock]
      split
      · rename_i e; subst e
        rw [Nat.beq_refl] at hm'
        exact .inl (g2 ⟨.normal, ⟨t', _⟩, s', E2, mem_withN.2 ⟨rfl, hm'⟩, trivial, p3, p4, p5⟩)
      · rename_i e
        have : Nat.beq i id = false := by
          cases hb : Nat.beq i id with
          | false => rfl
          | true => exact (e (Nat.eq_of_beq_eq_true hb)).elim
        rw [this] at hm'
        exact .inl (g2 ⟨.exit i, ⟨t', _⟩, s', E2, mem_withN.2 ⟨rfl, hm'⟩, rfl, p3, p4, p5⟩)
  | loop x ih =>
    intro F hF tm s k outs h w0 E A w hA R
    have h : ((kcode P n pp x).f F tm s fun tm s => F.exec n pp (.loop x) tm s).outs = some outs := h
    obtain ⟨N, hN⟩ := hF.loops
    have hr : Code.rounds P x (PostKP w0 E n pp Res.norm outs) (N + 1) A w := by
      rw [rounds_succ]
      refine wp_mono (ih F hF tm s _ outs h w0 E A w hA R) fun e A' w' hp => ?_
      rcases hp with hp | hp
      · obtain ⟨tm', s', E', le, hA', R', ⟨rfl, ys, q1, q2⟩ | ⟨se, q1, q2, q3⟩⟩ := hp
        · exact rounds_mono (fun e A3 w3 hp3 => hp3.weaken le q2) (hN n pp x tm' s' ys q1 w0 E' A' w' hA' R')
        · have : PostKP w0 E n pp Res.norm outs e A' w' := .inl ⟨tm', s', E', le, hA', R', .inr ⟨se, q1, q2, q3⟩⟩
          cases e with
          | normal => exact (q2 rfl).elim
          | _ => exact this
      · obtain ⟨v, V, tm', s', E', rfl, q⟩ := hp
        exact .inr ⟨v, V, tm', s', E', rfl, q⟩
    refine wp_mono (wp_loop_rounds (N + 1) (rounds_strict hr)) fun e A' w' hp => ?_
    obtain ⟨hne, hp | hp⟩ := hp
    · obtain ⟨tm', s', E', le, hA', R', ⟨rfl, -⟩ | h5⟩ := hp
      · exact (hne rfl).elim
      · exact .inl ⟨tm', s', E', le, hA', R', .inr h5⟩
    · exact .inr hp
  | scope x ih =>
    intro F hF tm s k outs h w0 E A w hA R
    refine wp_scope_straight (wp_mono (ih F hF tm s k outs h w0 E A w hA R) fun e A' w' hp => ?_)
    cases e with
    | goto l =>
      rcases hp with hp | hp
      · obtain ⟨tm', s', E', le, hA', R', ⟨e, -⟩ | ⟨se, q1, -⟩⟩ := hp
        · cases e
        · cases se <;> exact q1.elim
      · obtain ⟨v, V, tm', s', E', e, -⟩ := hp
        cases e
    | _ => exact hp
  | _ => exact fun F hF tm s k outs h => by cases h
/-! ### functions -/
structure CW where
  g : FK → List SV → St → CRes
structure IW where
  i : List SV → Frame → (Frame → CRes) → CRes
structure RW where
  r : Frame → St → (SV → CRes) → CRes
/-- The first temporaries, m at most. -/
noncomputable def kargs : Nat → Nat → IW
  | 0, _ => ⟨fun l tm k => match l with | [] => k tm | _ :: _ => .fail⟩
  | m + 1, i => @PW.rec CRes (fun _ => IW) (fun p => @IW.rec (fun _ => IW) (fun f => ⟨fun l tm k => @List.rec SV (fun _ => CRes) (k tm) (fun v l' _ => p tm v fun tm' => f l' tm' k) l⟩) (kargs m (i + 1))) (ptmp CRes i)
theorem kargs_ok : ∀ {m i : Nat} {l : List SV} {tm : Frame} {k : Frame → CRes} {outs : List (SV × St)}, ((kargs m i).i l tm k).outs = some outs → l.length ≤ m ∧ (k (initT l i tm)).outs = some outs
  | 0, i, [], tm, k, outs, h => ⟨by simp, h⟩
  | 0, i, _ :: _, tm, k, outs, h => by cases h
  | m + 1, i, [], tm, k, outs, h => ⟨by simp, h⟩
  | m + 1, i, v :: l, tm, k, outs, h => by
    have h : ((ptmp CRes i).p tm v fun tm' => (kargs m (i + 1)).i l tm' k).outs = some outs := h
    rw [ptmp_ok] at h
    obtain ⟨h1, h2⟩ := kargs_ok h
    exact ⟨by simp; omega, h2⟩
noncomputable def kres1 (P : Program) : ResultVar → RW
  | .tmp t => @GW.rec (fun _ => RW) (fun g => ⟨fun tm s k => @Option.rec SV (fun _ => CRes) .fail (fun v => k v) (g tm)⟩) (gtmp t)
  | .cell p t => @GW.rec (fun _ => RW) (fun g => ⟨fun tm s k => @Option.rec SV (fun _ => CRes) .fail (fun v => @Option.rec SV (fun _ => CRes) .fail (fun u => k u) (xload P s.h t v)) (g tm)⟩) (gtmp p)
noncomputable def kresL (P : Program) (fn : Func) : List ResultVar → RW
  | [r] => kres1 P r
  | l => ⟨fun tm s k => match optL (xres1 P ⟨tm, 0⟩ s) l with
    | some vs => k (.tup vs)
    | none => .fail⟩
theorem kres1_ok {r : ResultVar} {tm : Frame} {s : St} {k : SV → CRes} {outs : List (SV × St)} (h : ((kres1 P r).r tm s k).outs = some outs) : ∃ v, xres1 P ⟨tm, n⟩ s r = some v ∧ (k v).outs = some outs := by
  cases r with
  | tmp t =>
    have h : (@Option.rec SV (fun _ => CRes) .fail (fun v => k v) ((gtmp t).g tm)).outs = some outs := h
    rw [gtmp_ok] at h
    simp only [xres1]
    cases hv : tm.get t with
    | none => rw [hv] at h; cases h
    | some v => rw [hv] at h; exact ⟨v, rfl, h⟩
  | cell p t =>
    have h : (@Option.rec SV (fun _ => CRes) .fail (fun v => @Option.rec SV (fun _ => CRes) .fail (fun u => k u) (xload P s.h t v)) ((gtmp p).g tm)).outs = some outs := h
    rw [gtmp_ok] at h
    simp only [xres1]
    cases hv : tm.get p with
    | none => rw [hv] at h; cases h
    | some v =>
      rw [hv] at h
      have h : (@Option.rec SV (fun _ => CRes) .fail (fun u => k u) (xload P s.h t v)).outs = some outs := h
      cases hu : xload P s.h t v with
      | none => rw [hu] at h; cases h
      | some u => rw [hu] at h; exact ⟨u, hu, h⟩
theorem optL_congr {α β : Type} {f g : α → Option β} (h : ∀ a, f a = g a) : ∀ l, optL f l = optL g l
  | [] => rfl
  | a :: l => by simp only [optL, h, optL_congr h l]
theorem kresL_ok {fn : Func} {tm : Frame} {s : St} {k : SV → CRes} {outs : List (SV × St)} (h : ((kresL P fn fn.results.toList).r tm s k).outs = some outs) : ∃ v, xresult P fn ⟨tm, n⟩ s = some v ∧ (k v).outs = some outs := by
  have hc : ∀ r, xres1 P ⟨tm, 0⟩ s r = xres1 P ⟨tm, n⟩ s r := fun r => by cases r <;> rfl
  unfold kresL at h
  unfold xresult
  split at h
  · rename_i r e
    rw [e]
    exact kres1_ok h
  · rename_i l hne
    dsimp only at h
    rw [optL_congr hc] at h
    split
    · rename_i r e
      exact (hne r e).elim
    · split at h
      · rename_i vs hvs
        rw [hvs]
        exact ⟨_, rfl, h⟩
      · cases h
def xresL (P : Program) (a : SAct) (s : St) : List ResultVar → Option SV
  | [r] => xres1 P a s r
  | l => match optL (xres1 P a s) l with
    | some vs => some (.tup vs)
    | none => none
theorem xresult_eq (fn : Func) (a : SAct) (s : St) : xresult P fn a s = xresL P a s fn.results.toList := by
  unfold xresult xresL
  rfl
/-- What a function gives back, or no. -/
theorem kres_or {fn : Func} {tm : Frame} {s : St} {k : SV → CRes} : ((kresL P fn fn.results.toList).r tm s k) = .fail ∨ ∃ v, xresult P fn ⟨tm, n⟩ s = some v ∧ ((kresL P fn fn.results.toList).r tm s k) = k v := by
  have hc : ∀ r, xres1 P ⟨tm, 0⟩ s r = xres1 P ⟨tm, n⟩ s r := fun r => by cases r <;> rfl
  have h1 : ∀ r, ((kres1 P r).r tm s k) = .fail ∨ ∃ v, xres1 P ⟨tm, n⟩ s r = some v ∧ ((kres1 P r).r tm s k) = k v := fun r => by
    cases r with
    | tmp t =>
      show (@Option.rec SV (fun _ => CRes) .fail (fun v => k v) ((gtmp t).g tm)) = .fail ∨ ∃ v, xres1 P ⟨tm, n⟩ s (.tmp t) = some v ∧ (@Option.rec SV (fun _ => CRes) .fail (fun v => k v) ((gtmp t).g tm)) = k v
      rw [gtmp_ok]
      simp only [xres1]
      cases tm.get t with
      | none => exact .inl rfl
      | some v => exact .inr ⟨v, rfl, rfl⟩
    | cell p t =>
      show (@Option.rec SV (fun _ => CRes) .fail (fun v => @Option.rec SV (fun _ => CRes) .fail (fun u => k u) (xload P s.h t v)) ((gtmp p).g tm)) = .fail ∨ ∃ v, xres1 P ⟨tm, n⟩ s (.cell p t) = some v ∧ (@Option.rec SV (fun _ => CRes) .fail (fun v => @Option.rec SV (fun _ => CRes) .fail (fun u => k u) (xload P s.h t v)) ((gtmp p).g tm)) = k v
      rw [gtmp_ok]
      simp only [xres1]
      cases tm.get p with
      | none => exact .inl rfl
      | some v =>
        dsimp only
        cases xload P s.h t v with
        | none => exact .inl rfl
        | some u => exact .inr ⟨u, rfl, rfl⟩
  have main : ∀ L : List ResultVar, ((kresL P fn L).r tm s k) = .fail ∨ ∃ v, xresL P ⟨tm, n⟩ s L = some v ∧ ((kresL P fn L).r tm s k) = k v := by
    intro L
    match L with
    | [r] => exact h1 r
    | [] => exact .inr ⟨.tup [], rfl, rfl⟩
    | r :: r' :: l =>
      have e : (kresL P fn (r :: r' :: l)).r tm s k = (match optL (xres1 P ⟨tm, n⟩ s) (r :: r' :: l) with
        | some vs => k (.tup vs)
        | none => .fail) := by rw [← optL_congr hc]; rfl
      rw [e]
      simp only [xresL]
      cases optL (xres1 P ⟨tm, n⟩ s) (r :: r' :: l) with
      | none => exact .inl rfl
      | some vs => exact .inr ⟨.tup vs, rfl, rfl⟩
  rw [xresult_eq]
  exact main fn.results.toList
def ofManyC : Option (List (SV × St)) → CRes
  | some l => .many l []
  | none => .fail
def CRes.parts : CRes → Option (List (SV × St) × List (SV × St))
  | .one v s => some ([(v, s)], [])
  | .many l ps => some (l, ps)
  | .fail => none
  | .pan v s => some ([], [(v, s)])
def collectL : List CRes → Option (List (SV × St) × List (SV × St))
  | [] => some ([], [])
  | r :: rs => match r.parts, collectL rs with
    | some (a, b), some (c, d) => some (a ++ c, b ++ d)
    | _, _ => none
def collectC (l : List CRes) : CRes := match collectL l with
  | some (a, b) => .many a b
  | none => .fail
theorem parts_ok {r : CRes} {a b : List (SV × St)} (h : r.parts = some (a, b)) {A B : List (SV × St)} (ha : ∀ x ∈ a, x ∈ A) (hb : ∀ x ∈ b, x ∈ B) {E : Env} {e : Ending} (hr : CResOk w0 E r e w) : CResOk w0 E (.many A B) e w := by
  cases r with
  | one v s =>
    cases h
    obtain ⟨v1, s1, E', V, q1, q⟩ := hr
    exact .inl ⟨v1, s1, E', V, ha _ q1, q⟩
  | many l ps =>
    cases h
    rcases hr with ⟨v1, s1, E', V, q1, q⟩ | ⟨v1, s1, E', V, q1, q⟩
    · exact .inl ⟨v1, s1, E', V, ha _ q1, q⟩
    · exact .inr ⟨v1, s1, E', V, hb _ q1, q⟩
  | fail => cases h
  | pan v s =>
    cases h
    obtain ⟨E', V, q⟩ := hr
    exact .inr ⟨v, s, E', V, hb _ (List.mem_singleton.2 rfl), q⟩
theorem collectL_ok : ∀ {l : List CRes} {a b : List (SV × St)}, collectL l = some (a, b) → ∀ r ∈ l, ∃ c d, r.parts = some (c, d) ∧ (∀ x ∈ c, x ∈ a) ∧ ∀ x ∈ d, x ∈ b
  | r0 :: rs, a, b, h, r, hm => by
    simp only [collectL] at h
    split at h
    · rename_i p q c d h1 h2
      cases h
      rcases List.mem_cons.1 hm with e | hm
      · subst e
        exact ⟨p, q, h1, fun x hx => List.mem_append.2 (.inl hx), fun x hx => List.mem_append.2 (.inl hx)⟩
      · obtain ⟨c', d', k1, k2, k3⟩ := collectL_ok h2 r hm
        exact ⟨c', d', k1, fun x hx => List.mem_append.2 (.inr (k2 x hx)), fun x hx => List.mem_append.2 (.inr (k3 x hx))⟩
    · cases h
theorem collectC_ok {l : List CRes} (h : collectC l ≠ .fail) {r : CRes} (hm : r ∈ l) : r ≠ .fail ∧ ∀ {E : Env} {e : Ending} {w0 w : World}, CResOk w0 E r e w → CResOk w0 E (collectC l) e w := by
  unfold collectC at h ⊢
  cases hl : collectL l with
  | none => rw [hl] at h; exact (h rfl).elim
  | some p =>
    obtain ⟨a, b⟩ := p
    obtain ⟨c, d, k1, k2, k3⟩ := collectL_ok hl r hm
    refine ⟨fun e => (by rw [e] at k1; cases k1), fun hr => parts_ok k1 k2 k3 hr⟩
theorem leaves_mono {fn : Func} {tmps : Array Value} {R R' : Ending → World → Prop} (hR : ∀ e w, R e w → R' e w) : ∀ {ds : List Deferred} {u : FrameMode} {w : World}, Leaves P fn tmps R ds u w → Leaves P fn tmps R' ds u w
  | [], .returning, w, h => by
    obtain ⟨v, h1, h2⟩ := h
    exact ⟨v, h1, hR _ _ h2⟩
  | [], .panicking chain, w, h => hR _ _ h
  | [], .run, w, h => h.elim
  | d :: ds, u, w, h => by
    obtain ⟨h1, fv, cap, f, args, h2, h3, h4⟩ := h
    refine ⟨h1, fv, cap, f, args, h2, h3, h4.mono fun e u' w' he => ?_⟩
    cases e with
    | returned v => exact leaves_mono hR he
    | panicked chain => exact leaves_mono hR he
    | outgrown => exact hR _ _ he
/-! ### calls that were put off -/
def runDefs (F : FK) (res : Frame → St → (SV → CRes) → CRes) (tm : Frame) : List (FuncId × List SV) → Option SV → St → CRes
  | [], none, s => res tm s fun v => .one v s
  | [], some v, s => .pan v s
  | (f, xs) :: l, m, s => match F.calld f xs s m with
    | .done s' true => runDefs F res tm l none s'
    | .done s' false => runDefs F res tm l m s'
    | .fail => .fail
def noDs (tm : Frame) : Frame := ⟨tm.f0, tm.f1, tm.f2, tm.f3, tm.rest, []⟩
def onlyPP (tm : Frame) : List Nat → Frame
  | [] => .empty
  | p :: l => match tm.get p with
    | some v => (onlyPP tm l).put p v
    | none => onlyPP tm l
theorem onlyPP_ds (tm : Frame) : ∀ pp, (onlyPP tm pp).ds = []
  | [] => rfl
  | p :: l => by
    simp only [onlyPP]
    split
    · rw [Frame.ds_put, onlyPP_ds tm l]
    · exact onlyPP_ds tm l
theorem onlyPP_get (tm : Frame) : ∀ (pp : List Nat) {i : Nat} {v : SV}, (onlyPP tm pp).get i = some v → i ∈ pp ∧ tm.get i = some v
  | [], i, v, h => by rw [onlyPP, Frame.get_empty] at h; cases h
  | p :: l, i, v, h => by
    simp only [onlyPP] at h
    split at h
    · rename_i u hu
      rw [Frame.get_put] at h
      split at h
      · rename_i e
        subst e
        cases h
        exact ⟨List.mem_cons_self, hu⟩
      · obtain ⟨h1, h2⟩ := onlyPP_get tm l h
        exact ⟨List.mem_cons_of_mem _ h1, h2⟩
    · obtain ⟨h1, h2⟩ := onlyPP_get tm l h
      exact ⟨List.mem_cons_of_mem _ h1, h2⟩
theorem runDefs_ok {F : FK} (hF : FKOk P F) {E0 : Env} {fn : Func} {tm : Frame} {tmps : Array Value} : ∀ {ds : List (FuncId × List SV)} {m : Option SV} {s : St} {r : CRes}, runDefs F (kresL P fn fn.results.toList).r tm ds m s = r → r ≠ .fail → ∀ {E : Env} {defs : List Deferred} {u : FrameMode} {w : World}, ActRel E ⟨tm, n⟩ { tmps := tmps, defers := [] } → DefsRel E ds defs → ModeRel E m u → Rel w0 E s w → E0.Le E →
    Leaves P fn tmps (CResOk w0 E0 r) defs u w := by
  intro ds
  induction ds with
  | nil =>
    intro m s r h hr E defs u w hA hD hM R le
    rw [hD.nil]
    cases m with
    | none =>
      have hu : u = .returning := hM
      subst hu
      have h : (kresL P fn fn.results.toList).r tm s (fun v => CRes.one v s) = r := h
      rcases kres_or (P := P) (n := n) (fn := fn) (tm := tm) (s := s) (k := fun v => CRes.one v s) with e | ⟨v, h1, h2⟩
      · rw [e] at h; exact (hr h.symm).elim
      · obtain ⟨V, r1, r2⟩ := results_ok hA R h1
        rw [h2] at h
        subst h
        exact ⟨V, r2, v, s, E, V, List.mem_singleton.2 rfl, le, r1, rfl, R⟩
    | some v =>
      obtain ⟨V, h1, rfl⟩ := hM
      have h : CRes.pan v s = r := h
      subst h
      exact ⟨E, V, le, h1, rfl, R⟩
  | cons q ds ih =>
    intro m s r h hr E defs u w hA hD hM R le
    obtain ⟨f, xs⟩ := q
    cases defs with
    | nil => exact hD.elim
    | cons d defs =>
      obtain ⟨⟨cap, L, k1, k2, k3⟩, hD⟩ := hD
      obtain ⟨tgt, dargs⟩ := d
      dsimp only at k1 k3
      subst k1
      have h : (match F.calld f xs s m with
        | .done s' true => runDefs F (kresL P fn fn.results.toList).r tm ds none s'
        | .done s' false => runDefs F (kresL P fn fn.results.toList).r tm ds m s'
        | .fail => .fail) = r := h
      cases hd : F.calld f xs s m with
      | fail => rw [hd] at h; exact (hr h.symm).elim
      | done s' b =>
        rw [hd] at h
        obtain ⟨c1, c2, c3⟩ := hF.calld f xs s m s' b hd
        have hu : u ≠ .run := by
          cases m with
          | none => have hu : u = .returning := hM; rw [hu]; exact nofun
          | some v => obtain ⟨V, -, rfl⟩ := hM; exact nofun
        refine leaves_cons (args := L.toArray) (f := f) hu ?_ ((c3 w0 E w L u k2 R hM).mono fun e u' w' he => ?_)
        · show (callFunc f (dargs ++ cap)).run P w = _
          rw [run_plain c2, k3]
        · obtain ⟨V, E', rfl, le', R', rfl⟩ := he
          cases b with
          | false =>
            have hs : settle u = u := by
              cases m with
              | none => have hu : u = .returning := hM; rw [hu]; rfl
              | some v => obtain ⟨V, -, rfl⟩ := hM; rfl
            show Leaves P fn tmps _ defs (settle u) w'
            rw [hs]
            refine ih h hr (hA.mono le') (hD.mono le') ?_ R' (le.trans le')
            cases m with
            | none => exact hM
            | some v => obtain ⟨V, h1, rfl⟩ := hM; exact ⟨V, SV.mono le' h1, rfl⟩
          | true =>
            cases m with
            | none => exact (c1 rfl rfl).elim
            | some v =>
              obtain ⟨V, h1, rfl⟩ := hM
              show Leaves P fn tmps _ defs (settle (tookMode _)) w'
              exact ih (m := none) h hr (hA.mono le') (hD.mono le') rfl R' (le.trans le')
noncomputable def finD (F : FK) (res : Frame → St → (SV → CRes) → CRes) (tm : Frame) (s : St) : CRes :=
  match tm.ds with
  | [] => res tm s fun v => .one v s
  | l => runDefs F res (noDs tm) l none s
def finP (F : FK) (pp : List Nat) (res : Frame → St → (SV → CRes) → CRes) (v : SV) (tm : Frame) (s : St) : CRes :=
  match tm.ds with
  | [] => .pan v s
  | l => runDefs F res (onlyPP tm pp) l (some v) s
theorem finD_ok {F : FK} (hF : FKOk P F) {E0 : Env} {fn : Func} {tm : Frame} {s : St} (hr : finD F (kresL P fn fn.results.toList).r tm s ≠ .fail) {A : Act} (hA : ActRel E ⟨tm, n⟩ A) (R : Rel w0 E s w) (le : E0.Le E) :
    Leaves P fn A.tmps (CResOk w0 E0 (finD F (kresL P fn fn.results.toList).r tm s)) A.defers .returning w := by
  unfold finD at hr ⊢
  split at hr
  · rename_i hd
    have hdf := hA.defers
    rw [show (SAct.mk tm n).tm.ds = [] from hd] at hdf
    rw [hdf.nil]
    rcases kres_or (P := P) (n := n) (fn := fn) (tm := tm) (s := s) (k := fun v => CRes.one v s) with e | ⟨v, h1, h2⟩
    · exact (hr e).elim
    · obtain ⟨V, r1, r2⟩ := results_ok hA R h1
      rw [h2]
      exact ⟨V, r2, v, s, E, V, List.mem_singleton.2 rfl, le, r1, rfl, R⟩
  · rename_i l hne
    exact runDefs_ok hF rfl hr (m := none) (tm := noDs tm) (tmps := A.tmps) (n := n) ⟨hA.size, fun i v hv => hA.tm i v hv, trivial⟩ hA.defers rfl R le
theorem finP_ok {F : FK} (hF : FKOk P F) {E0 : Env} {fn : Func} {v : SV} {V : Value} {tm : Frame} {s : St} (hr : finP F pp (kresL P fn fn.results.toList).r v tm s ≠ .fail) {A : Act} (hA : PanRel E n pp tm A) (hv : v.den E = some V) (R : Rel w0 E s w) (le : E0.Le E) :
    Leaves P fn A.tmps (CResOk w0 E0 (finP F pp (kresL P fn fn.results.toList).r v tm s)) A.defers (.panicking [{ v := V, recovered := false }]) w := by
  obtain ⟨p1, p2, p3⟩ := hA
  unfold finP at hr ⊢
  split at hr
  · rename_i hd
    rw [hd] at p2
    rw [p2.nil]
    exact ⟨E, V, le, hv, rfl, R⟩
  · rename_i l hne
    refine runDefs_ok hF rfl hr (m := some v) (tm := onlyPP tm pp) (tmps := A.tmps) (n := n) ⟨p1, fun i u hu => ?_, ?_⟩ p2 ⟨V, hv, rfl⟩ R le
    · obtain ⟨h1, h2⟩ := onlyPP_get tm pp hu
      exact p3 i h1 u h2
    · show DefsRel E (onlyPP tm pp).ds []
      rw [onlyPP_ds]
      trivial
noncomputable def finE (F : FK) (pp : List Nat) (res : Frame → St → (SV → CRes) → CRes) (p : SExit × Frame × St) : CRes := match p.1 with
  | .normal => finD F res p.2.1 p.2.2
  | .ret => finD F res p.2.1 p.2.2
  | .panic v => finP F pp res v p.2.1 p.2.2
  | .exit _ => .fail
noncomputable def Res.fin (P : Program) (fn : Func) (n : Nat) (pp : List Nat) (F : FK) (res : Frame → St → (SV → CRes) → CRes) (r : Res) : CRes :=
  @Res.rec (fun _ => CRes) (fun tm s => finD F res tm s) (fun _ _ _ => .fail) (fun tm s => finD F res tm s) (fun l => collectC (l.map (finE F pp res))) .fail (fun v tm s => finP F pp res v tm s) r
theorem fin_ok {F : FK} (hF : FKOk P F) {E : Env} {fn : Func} {r : Res} (hr : r.fin P fn n pp F (kresL P fn fn.results.toList).r ≠ .fail) :
    ∃ o1, r.outs = some o1 ∧ ∀ e A w, PostKP w0 E n pp Res.norm o1 e A w → bodyPostD P fn (CResOk w0 E (r.fin P fn n pp F (kresL P fn fn.results.toList).r)) e A w := by
  cases r with
  | norm tm s =>
    refine ⟨_, rfl, fun e A w hp => ?_⟩
    rcases hp with ⟨tm', s', E', le, hA', R', ⟨rfl, ys, q1, q2⟩ | ⟨se, q1, q2, q3⟩⟩ | ⟨v, V, tm', s', E', rfl, q1, -⟩
    · cases q1
      cases List.mem_singleton.1 (q2 _ (List.mem_singleton.2 rfl))
      exact finD_ok hF hr hA' R' le
    · cases List.mem_singleton.1 q3
      cases e <;> first | exact q1.elim | exact (q2 rfl).elim
    · cases List.mem_singleton.1 q1
  | ret tm s =>
    refine ⟨_, rfl, fun e A w hp => ?_⟩
    rcases hp with ⟨tm', s', E', le, hA', R', ⟨rfl, ys, q1, q2⟩ | ⟨se, q1, q2, q3⟩⟩ | ⟨v, V, tm', s', E', rfl, q1, -⟩
    · cases q1
      cases List.mem_singleton.1 (q2 _ (List.mem_singleton.2 rfl))
    · cases List.mem_singleton.1 q3
      cases e <;> first | exact q1.elim | exact finD_ok hF hr hA' R' le
    · cases List.mem_singleton.1 q1
  | exit i tm s => exact (hr rfl).elim
  | many l =>
    have hr : collectC (l.map (finE F pp (kresL P fn fn.results.toList).r)) ≠ .fail := hr
    have e0 : (Res.many l).fin P fn n pp F (kresL P fn fn.results.toList).r = collectC (l.map (finE F pp (kresL P fn fn.results.toList).r)) := rfl
    rw [e0]
    refine ⟨l, rfl, fun e A w hp => ?_⟩
    have one : ∀ {p : SExit × Frame × St}, p ∈ l → finE F pp (kresL P fn fn.results.toList).r p ≠ .fail ∧ ∀ {E : Env} {e : Ending} {w0 w : World}, CResOk w0 E (finE F pp (kresL P fn fn.results.toList).r p) e w → CResOk w0 E (collectC (l.map (finE F pp (kresL P fn fn.results.toList).r))) e w := fun hm => collectC_ok hr (List.mem_map.2 ⟨_, hm, rfl⟩)
    rcases hp with ⟨tm', s', E', le, hA', R', ⟨rfl, ys, q1, q2⟩ | ⟨se, q1, q2, q3⟩⟩ | ⟨v', V, tm', s', E', rfl, q1, q2, q3, q4, q5⟩
    · cases q1
      obtain ⟨o1, o2⟩ := one (q2 _ (List.mem_singleton.2 rfl))
      exact leaves_mono (fun e w h => o2 h) (finD_ok hF o1 hA' R' le)
    · obtain ⟨o1, o2⟩ := one q3
      cases se with
      | normal => cases e <;> first | exact q1.elim | exact (q2 rfl).elim
      | exit i => exact (o1 rfl).elim
      | ret => cases e <;> first | exact q1.elim | exact leaves_mono (fun e w h => o2 h) (finD_ok hF o1 hA' R' le)
      | panic v => cases e <;> exact q1.elim
    · obtain ⟨o1, o2⟩ := one q1
      exact leaves_mono (fun e w h => o2 h) (finP_ok hF o1 q4 q3 q5 q2)
  | fail => exact (hr rfl).elim
  | pan v tm s =>
    refine ⟨_, rfl, fun e A w hp => ?_⟩
    rcases hp with ⟨tm', s', E', le, hA', R', ⟨rfl, ys, q1, q2⟩ | ⟨se, q1, q2, q3⟩⟩ | ⟨v', V, tm', s', E', rfl, q1, q2, q3, q4, q5⟩
    · cases q1
      cases List.mem_singleton.1 (q2 _ (List.mem_singleton.2 rfl))
    · cases List.mem_singleton.1 q3
      cases e <;> exact q1.elim
    · cases List.mem_singleton.1 q1
      exact finP_ok hF hr q4 q3 q5 q2
def hasOp (q : Oper → Bool) : Code → Bool
  | .region _ ops _ => ops.toList.any q
  | .seq x y => hasOp q x || hasOp q y
  | .cond _ x y => hasOp q x || hasOp q y
  | .block _ x => hasOp q x
  | .loop x => hasOp q x
  | .scope x => hasOp q x
  | _ => false
def isDefer (o : Oper) : Bool := match o.op with
  | .defer _ => true
  | _ => false
def isRec (o : Oper) : Bool := match o.op with
  | .call { callee := .builtin .recover, args := _, argTypes := _ } => o.guard.isNone
  | _ => false
def ppOf (fn : Func) (c : Code) : List Nat :=
  match hasOp isDefer c with
  | true => fn.results.toList.filterMap fun r => match r with
    | .cell p _ => some p
    | .tmp t => some t
  | false => []
noncomputable def kfun (P : Program) (C : Contracts) (f : FuncId) : CW :=
  match C f with
  | some g => ⟨fun _ args s => ofManyC (g args s)⟩
  | none => match P.funcs[f]? with
    | some fn => match fn.body with
      | some c => @KW.rec (fun _ => CW) (fun b => @IW.rec (fun _ => CW) (fun i => @RW.rec (fun _ => CW) (fun r => ⟨fun F args s => i args .empty fun tm => Res.fin P fn fn.ntmps (ppOf fn c) F r (b F tm s Res.norm)⟩) (kresL P fn fn.results.toList)) (kargs (min fn.ntmps 24) 0)) (kcode P fn.ntmps (ppOf fn c) c)
      | none => ⟨fun _ _ _ => .fail⟩
    | none => ⟨fun _ _ _ => .fail⟩
/-! ### functions that were put off, and that may take a panic away -/
structure SW where
  f : FK → Frame → St → SV → (Frame → St → Res) → Res
noncomputable def kopsS (P : Program) (n : Nat) (ops : Array Oper) : List Oper → SW
  | [] => ⟨fun _ _ _ _ _ => .fail⟩
  | o :: l => match isRec o with
    | true => @PW.rec Res (fun _ => SW) (fun p => @KW.rec (fun _ => SW) (fun g => ⟨fun F tm s rv k => p tm rv fun tm' => g F tm' s k⟩) (kops P n ops l)) (pdst n o.dst)
    | false => ⟨fun _ _ _ _ _ => .fail⟩
noncomputable def kS (P : Program) (n : Nat) (pp : List Nat) : Code → SW
  | .region _ ops false => kopsS P n ops ops.toList
  | .seq x y => @SW.rec (fun _ => SW) (fun f => @KW.rec (fun _ => SW) (fun g => ⟨fun F tm s rv k => f F tm s rv fun tm' s' => g F tm' s' k⟩) (kcode P n pp y)) (kS P n pp x)
  | _ => ⟨fun _ _ _ _ _ => .fail⟩
def RecRel (E : Env) (rv : SV) (cs cs2 : List Go.Frame) : Prop := (rv = .nili ∧ recoverD cs = none ∧ cs2 = cs) ∨ ∃ V, rv.den E = some V ∧ recoverD cs = some (V, cs2)
theorem kops_okS {F : FK} (hF : FKOk P F) {ops : Array Oper} {cs : List Go.Frame} {Q : Exit → Act → List Go.Frame → World → Prop} : ∀ {l : List Oper} {k0 : Nat} {tm : Frame} {s : St} {E : Env} {A : Act} {w : World} {k : Frame → St → Res} {outs : List (SExit × Frame × St)}, (∀ j, l[j]? = ops[k0 + j]?) → ActRel E ⟨tm, n⟩ A → Rel w0 E s w → ((kops P n ops l).f F tm s k).outs = some outs →
    Goes w0 E n k outs (fun A w => Q .normal A cs w) → Pans w0 E n outs (fun e A w => Q e A cs w) → wpOpsS P ops Q (List.range' k0 l.length) A cs w := by
  intro l
  induction l with
  | nil =>
    intro k0 tm s E A w k outs hl hA R h hQ hP
    exact hQ tm s E A w outs h (fun y hy => hy) (.refl E) hA R
  | cons o l ih =>
    intro k0 tm s E A w k outs hl hA R h hQ hP
    have h0 : ops[k0]? = some o := by simpa using (hl 0).symm
    have hl' : ∀ j, l[j]? = ops[k0 + 1 + j]? := fun j => by have := hl (j + 1); simpa [Nat.add_assoc, Nat.add_comm 1 j] using this
    have hr : List.range' k0 (o :: l).length = k0 :: List.range' (k0 + 1) l.length := by simp [List.range'_succ]
    rw [hr]
    have one : ∀ {k' : Frame → St → Res}, ((kop P n ops o).f F tm s k').outs = some outs → Goes w0 E n k' outs (fun A w => wpOpsS P ops Q (List.range' (k0 + 1) l.length) A cs w) → wpOpsS P ops Q (k0 :: List.range' (k0 + 1) l.length) A cs w := fun h' hk => by
      have key := kop_ok P n ops o F hF tm s _ _ h' w0 E A w hA R (fun A w => wpOpsS P ops Q (List.range' (k0 + 1) l.length) A cs w) (fun e A w => Q e A cs w) hk hP
      simp only [wpOpsS, h0]
      split
      · rename_i hw
        rw [if_pos hw] at key
        unfold Oper.wp at key
        split
        · rename_i w' hrun
          rw [hrun] at key
          exact key.elim
        · exact key
      · rename_i hw
        rw [if_neg hw] at key
        exact key
    cases l with
    | nil => exact one h fun tm' s' E' A' w' ys q1 q2 le hA' R' => hQ tm' s' E' A' w' ys q1 q2 le hA' R'
    | cons o' l' =>
      refine one (k' := fun tm s => (kops P n ops (o' :: l')).f F tm s k) h fun tm' s' E' A' w' ys q1 q2 le hA' R' => ?_
      exact ih hl' hA' R' q1 (hQ.sub le q2) (hP.sub le q2)
theorem kS_ok (P : Program) (n : Nat) (pp : List Nat) : ∀ c : Code, ∀ F, FKOk P F → ∀ tm s rv k outs, ((kS P n pp c).f F tm s rv k).outs = some outs → ∀ w0 E A w cs cs2, ActRel E ⟨tm, n⟩ A → Rel w0 E s w → RecRel E rv cs cs2 →
    c.wpS P (fun e A' cs' w' => cs' = cs2 ∧ PostKP w0 E n pp k outs e A' w') A cs w := by
  intro c
  induction c with
  | region id ops draw =>
    intro F hF tm s rv k outs h w0 E A w cs cs2 hA R hrec
    cases draw with
    | true => cases h
    | false =>
      have h : ((kopsS P n ops ops.toList).f F tm s rv k).outs = some outs := h
      refine wpS_region ?_
      unfold kopsS at h
      split at h
      · cases h
      · rename_i o l hl
        split at h
        · rename_i hrc
          have h : ((pdst n o.dst).p tm rv fun tm' => (kops P n ops l).f F tm' s k).outs = some outs := h
          obtain ⟨a, p1, p2, p3⟩ := pdst_ok h
          have h0 : ops[0]? = some o := by rw [← Array.getElem?_toList, hl]; rfl
          have hsz : List.range ops.size = 0 :: List.range' 1 l.length := by
            have : ops.size = l.length + 1 := by rw [← Array.length_toList, hl]; rfl
            rw [this, List.range_eq_range', List.range'_succ]
          rw [hsz]
          have hg : o.guard = none ∧ ∀ w, (execOp A.eval o).run P w = .ok .recover w := by
            unfold isRec at hrc
            split at hrc
            · rename_i ho
              refine ⟨by simpa using hrc, fun w => ?_⟩
              simp only [execOp, ho, resolve, Sem.run_bind, Sem.run_pure, Result.andThen_ok, invoke]
              rfl
            · cases hrc
          have rest : ∀ V, rv.den E = some V → wpOpsS P ops (fun e A' cs' w' => cs' = cs2 ∧ PostKP w0 E n pp k outs e A' w') (List.range' 1 l.length) (A.put o.dst V) cs2 w := fun V hV =>
            kops_okS hF (fun j => by rw [← Array.getElem?_toList, hl, Nat.add_comm 1 j]; rfl) (put_n (put_ok hA p1 hV) p2) R p3 (fun tm' s' E' A' w' ys q1 q2 le hA' R' => ⟨rfl, .inl ⟨tm', s', E', le, hA', R', .inl ⟨rfl, ys, q1, q2⟩⟩⟩) (fun v V tm' s' E' A' w' hm le hv hA' R' => ⟨rfl, pans_ok v V tm' s' E' A' w' hm le hv hA' R'⟩)
          simp only [wpOpsS, h0]
          rw [if_pos (by simp [Region.wanted, hg.1]), hg.2 w]
          rcases hrec with ⟨rfl, e1, rfl⟩ | ⟨V, e1, e2⟩
          · simp only [e1]
            exact rest .nilIface rfl
          · simp only [e2]
            exact rest V e1
        · cases h
  | seq x y ihx ihy =>
    intro F hF tm s rv k outs h w0 E A w cs cs2 hA R hrec
    have h : ((kS P n pp x).f F tm s rv fun tm' s' => (kcode P n pp y).f F tm' s' k).outs = some outs := h
    refine wpS_seq ?_
    have := ihx F hF tm s rv _ outs h w0 E A w cs cs2 hA R hrec
    intro b k' hb hr
    obtain ⟨e, a', cs', w', ⟨rfl, hp⟩, harr⟩ := this b k' hb hr
    refine ⟨e, a', cs', w', ?_, harr⟩
    rcases hp with hp | hp
    · obtain ⟨tm', s', E', le, hA', R', ⟨rfl, ys, q1, q2⟩ | ⟨se, q1, q2, q3⟩⟩ := hp
      · exact wpS_of_wp (wp_mono (kcode_ok P n pp y F hF tm' s' k ys q1 w0 E' _ _ hA' R') fun e A2 w2 hp2 => ⟨rfl, hp2.weaken le q2⟩)
      · have := (⟨tm', s', E', le, hA', R', .inr ⟨se, q1, q2, q3⟩⟩ : PostK w0 E n k outs e a' w')
        cases e with
        | normal => exact (q2 rfl).elim
        | _ => exact ⟨rfl, .inl this⟩
    · obtain ⟨v, V, tm', s', E', rfl, q⟩ := hp
      exact ⟨rfl, .inr ⟨v, V, tm', s', E', rfl, q⟩⟩
  | _ => exact fun F hF tm s rv k outs h => by cases h
structure DW where
  d : FK → List SV → St → Option SV → DRes
def CRes.toD (took : Bool) : CRes → DRes
  | .one _ s => .done s took
  | _ => .fail
/-- What a body that puts nothing off gives back. -/
noncomputable def Res.fin0 (res : Frame → St → (SV → CRes) → CRes) (r : Res) : CRes :=
  match r with
  | .norm tm s => (match nilDs tm.ds with | true => res tm s fun v => .one v s | false => .fail)
  | .ret tm s => (match nilDs tm.ds with | true => res tm s fun v => .one v s | false => .fail)
  | _ => .fail
theorem fin0_ok {fn : Func} {r : Res} {v : SV} {s : St} (h : r.fin0 (kresL P fn fn.results.toList).r = .one v s) :
    ∃ o1, r.outs = some o1 ∧ ∀ {E : Env} {e : Exit} {A : Act} {w : World}, PostKP w0 E n pp Res.norm o1 e A w → (e = .normal ∨ e = .ret) ∧ A.defers = [] ∧ ∃ V E', (results fn A.tmps).run P w = .ok V w ∧ E.Le E' ∧ Rel w0 E' s w := by
  have go : ∀ {tm : Frame} {s0 : St}, (match nilDs tm.ds with | true => (kresL P fn fn.results.toList).r tm s0 (fun v => .one v s0) | false => .fail) = CRes.one v s → s0 = s ∧ tm.ds = [] ∧ ∃ u, xresult P fn ⟨tm, n⟩ s0 = some u := fun {tm s0} h => by
    split at h
    · rename_i hd
      rcases kres_or (P := P) (n := n) (fn := fn) (tm := tm) (s := s0) (k := fun v => CRes.one v s0) with e | ⟨u, h1, h2⟩
      · rw [e] at h; cases h
      · rw [h2] at h
        cases h
        exact ⟨rfl, nilDs_eq hd, _, h1⟩
    · cases h
  have fin : ∀ {tm : Frame} {s0 : St} {E E' : Env} {A : Act} {w : World}, s0 = s ∧ tm.ds = [] ∧ (∃ u, xresult P fn ⟨tm, n⟩ s0 = some u) → E.Le E' → ActRel E' ⟨tm, n⟩ A → Rel w0 E' s0 w → A.defers = [] ∧ ∃ V E', (results fn A.tmps).run P w = .ok V w ∧ E.Le E' ∧ Rel w0 E' s w := fun {tm s0 E E' A w} hh le hA R => by
    obtain ⟨rfl, hd, u, hu⟩ := hh
    have hdf := hA.defers
    rw [show (SAct.mk tm n).tm.ds = [] from hd] at hdf
    obtain ⟨V, r1, r2⟩ := results_ok hA R hu
    exact ⟨hdf.nil, V, E', r2, le, R⟩
  cases r with
  | norm tm s0 =>
    have hg := go (tm := tm) (s0 := s0) h
    refine ⟨_, rfl, fun {E e A w} hp => ?_⟩
    rcases hp with ⟨tm', s', E', le, hA', R', ⟨rfl, ys, q1, q2⟩ | ⟨se, q1, q2, q3⟩⟩ | ⟨v, V, tm', s', E', rfl, q1, -⟩
    · cases q1
      cases List.mem_singleton.1 (q2 _ (List.mem_singleton.2 rfl))
      exact ⟨.inl rfl, fin hg le hA' R'⟩
    · cases List.mem_singleton.1 q3
      cases e <;> first | exact q1.elim | exact (q2 rfl).elim
    · cases List.mem_singleton.1 q1
  | ret tm s0 =>
    have hg := go (tm := tm) (s0 := s0) h
    refine ⟨_, rfl, fun {E e A w} hp => ?_⟩
    rcases hp with ⟨tm', s', E', le, hA', R', ⟨rfl, ys, q1, q2⟩ | ⟨se, q1, q2, q3⟩⟩ | ⟨v, V, tm', s', E', rfl, q1, -⟩
    · cases q1
      cases List.mem_singleton.1 (q2 _ (List.mem_singleton.2 rfl))
    · cases List.mem_singleton.1 q3
      cases e <;> first | exact q1.elim | exact ⟨.inr rfl, fin hg le hA' R'⟩
    · cases List.mem_singleton.1 q1
  | _ => cases h
noncomputable def kdef (P : Program) (f : FuncId) : DW :=
  match plainFunc P f, P.funcs[f]? with
  | true, some fn => match fn.body with
    | some c => match hasOp isRec c with
      | false => @KW.rec (fun _ => DW) (fun b => @IW.rec (fun _ => DW) (fun i => @RW.rec (fun _ => DW) (fun r => ⟨fun F args s _ => CRes.toD false (i args .empty fun tm => Res.fin0 r (b F tm s Res.norm))⟩) (kresL P fn fn.results.toList)) (kargs (min fn.ntmps 24) 0)) (kcode P fn.ntmps [] c)
      | true => @SW.rec (fun _ => DW) (fun b => @IW.rec (fun _ => DW) (fun i => @RW.rec (fun _ => DW) (fun r => ⟨fun F args s m => match m with
          | none => CRes.toD false (i args .empty fun tm => Res.fin0 r (b F tm s .nili Res.norm))
          | some v => CRes.toD true (i args .empty fun tm => Res.fin0 r (b F tm s v Res.norm))⟩) (kresL P fn fn.results.toList)) (kargs (min fn.ntmps 24) 0)) (kS P fn.ntmps [] c)
    | none => ⟨fun _ _ _ _ => .fail⟩
  | _, _ => ⟨fun _ _ _ _ => .fail⟩
noncomputable def fk (P : Program) (C : Contracts) (n : Nat) : FK := @Nat.rec (fun _ => FK) ⟨fun _ _ _ _ _ => .fail, fun _ _ _ => .fail, fun _ _ _ _ => .fail⟩
  (fun _ ih => ⟨fun n pp c tm s => @KW.rec (fun _ => Res) (fun f => f ih tm s Res.norm) (kcode P n pp c), fun f args s => @CW.rec (fun _ => CRes) (fun g => g ih args s) (kfun P C f), fun f args s m => @DW.rec (fun _ => DRes) (fun g => g ih args s m) (kdef P f)⟩) n
theorem fk_exec (C : Contracts) (N n : Nat) (pp : List Nat) (c : Code) (tm : Frame) (s : St) : (fk P C (N + 1)).exec n pp c tm s = (kcode P n pp c).f (fk P C N) tm s Res.norm := rfl
theorem fk_call (C : Contracts) (N : Nat) (f : FuncId) (args : List SV) (s : St) : (fk P C (N + 1)).call f args s = (kfun P C f).g (fk P C N) args s := rfl
theorem fk_calld (C : Contracts) (N : Nat) (f : FuncId) (args : List SV) (s : St) (m : Option SV) : (fk P C (N + 1)).calld f args s m = (kdef P f).d (fk P C N) args s m := rfl
/-- The arguments are put, or it fails. -/
theorem kargs_or : ∀ {m i : Nat} {l : List SV} {tm : Frame} {k : Frame → CRes}, ((kargs m i).i l tm k) = .fail ∨ (l.length ≤ m ∧ ((kargs m i).i l tm k) = k (initT l i tm))
  | 0, i, [], tm, k => .inr ⟨by simp, rfl⟩
  | 0, i, _ :: _, tm, k => .inl rfl
  | m + 1, i, [], tm, k => .inr ⟨by simp, rfl⟩
  | m + 1, i, v :: l, tm, k => by
    have e : ((kargs (m + 1) i).i (v :: l) tm k) = ((ptmp CRes i).p tm v fun tm' => (kargs m (i + 1)).i l tm' k) := rfl
    rw [e, ptmp_ok]
    rcases kargs_or (m := m) (i := i + 1) (l := l) (tm := tm.put i v) (k := k) with h | ⟨h1, h2⟩
    · exact .inl h
    · exact .inr ⟨by simp; omega, h2⟩
theorem init_n {args : List SV} {ARGS : List Value} (hA : SV.denL E args = some ARGS) {fn : Func} (hl : args.length ≤ min fn.ntmps 24) : ActRel E ⟨initT args 0 .empty, fn.ntmps⟩ { tmps := ARGS.toArray ++ Array.replicate (fn.ntmps - ARGS.toArray.size) undef, defers := [] } := by
  have hmax : max args.length fn.ntmps = fn.ntmps := by omega
  have hi := init_rel hA fn.ntmps
  rwa [hmax] at hi
theorem kfun_ok {C : Contracts} (hC : ContractsOk P C) {F : FK} (hF : FKOk P F) {f : FuncId} {args : List SV} {s : St} (h : (kfun P C f).g F args s ≠ .fail) {ARGS : List Value} (hA : SV.denL E args = some ARGS) (R : Rel w0 E s w) : Calls P f ARGS.toArray w (CResOk w0 E ((kfun P C f).g F args s)) := by
  unfold kfun at h ⊢
  split at h
  · rename_i g hg
    dsimp only at h ⊢
    cases ho : g args s with
    | none => rw [ho] at h; exact (h rfl).elim
    | some outs => exact (hC f g hg args s outs ho w0 E w ARGS hA R).mono fun e w' he => .inl he
  · split at h
    · rename_i fn hfn
      split at h
      · rename_i c hc
        have h : ((kargs (min fn.ntmps 24) 0).i args .empty fun tm => Res.fin P fn fn.ntmps (ppOf fn c) F (kresL P fn fn.results.toList).r ((kcode P fn.ntmps (ppOf fn c) c).f F tm s Res.norm)) ≠ .fail := h
        show Calls P f ARGS.toArray w (CResOk w0 E ((kargs (min fn.ntmps 24) 0).i args .empty fun tm => Res.fin P fn fn.ntmps (ppOf fn c) F (kresL P fn fn.results.toList).r ((kcode P fn.ntmps (ppOf fn c) c).f F tm s Res.norm)))
        rcases kargs_or (m := min fn.ntmps 24) (i := 0) (l := args) (tm := .empty) (k := fun tm => Res.fin P fn fn.ntmps (ppOf fn c) F (kresL P fn fn.results.toList).r ((kcode P fn.ntmps (ppOf fn c) c).f F tm s Res.norm)) with e | ⟨hl, e⟩
        · exact (h e).elim
        · rw [e] at h ⊢
          obtain ⟨o1, ho1, h2⟩ := fin_ok (w0 := w0) (E := E) hF h
          refine calls_of_wp_defers hfn hc ?_
          exact wp_mono (kcode_ok P fn.ntmps (ppOf fn c) c F hF _ s Res.norm o1 ho1 w0 E _ w (init_n hA hl) R) h2
      · exact (h rfl).elim
    · exact (h rfl).elim
theorem toD_ok {b took : Bool} {r : CRes} {s : St} (h : CRes.toD took r = .done s b) : b = took ∧ ∃ v, r = .one v s := by
  cases r with
  | one v s0 =>
    have h : DRes.done s0 took = .done s b := h
    cases h
    exact ⟨rfl, v, rfl⟩
  | _ => cases h
theorem kdef_ok {F : FK} (hF : FKOk P F) {f : FuncId} {args : List SV} {s s' : St} {m : Option SV} {b : Bool} (h : (kdef P f).d F args s m = .done s' b) :
    (b = true → m ≠ none) ∧ plainFunc P f = true ∧ ∀ w0 E w ARGS u, SV.denL E args = some ARGS → Rel w0 E s w → ModeRel E m u → CallsD P f ARGS.toArray u w (DResOk w0 E u s' b) := by
  unfold kdef at h
  split at h
  · rename_i fn hp hfn
    split at h
    · rename_i c hc
      split at h
      · have h : CRes.toD false ((kargs (min fn.ntmps 24) 0).i args .empty fun tm => Res.fin0 (kresL P fn fn.results.toList).r ((kcode P fn.ntmps [] c).f F tm s Res.norm)) = .done s' b := h
        obtain ⟨rfl, v, h⟩ := toD_ok h
        refine ⟨nofun, hp, fun w0 E w ARGS u hA R hM => ?_⟩
        rcases kargs_or (m := min fn.ntmps 24) (i := 0) (l := args) (tm := .empty) (k := fun tm => Res.fin0 (kresL P fn fn.results.toList).r ((kcode P fn.ntmps [] c).f F tm s Res.norm)) with e | ⟨hl, e⟩
        · rw [e] at h; cases h
        · rw [e] at h
          obtain ⟨o1, ho1, h2⟩ := fin0_ok (w0 := w0) (n := fn.ntmps) (pp := []) h
          refine (callsD_of_wp hfn hc (R := fun e w' => ∃ V E', e = .returned V ∧ E.Le E' ∧ Rel w0 E' s' w') ?_).mono fun e u' w' ⟨e1, V, E', e2, e3, e4⟩ => ⟨V, E', e2, e3, e4, e1⟩
          refine wp_mono (kcode_ok P fn.ntmps [] c F hF _ s Res.norm o1 ho1 w0 E _ w (init_n hA hl) R) fun e A' w' hp' => ?_
          obtain ⟨he, hd, V, E', r1, r2, r3⟩ := h2 hp'
          rcases he with rfl | rfl
          · exact ⟨hd, V, r1, V, E', rfl, r2, r3⟩
          · exact ⟨hd, V, r1, V, E', rfl, r2, r3⟩
      · have go : ∀ (rv : SV) (took : Bool), CRes.toD took ((kargs (min fn.ntmps 24) 0).i args .empty fun tm => Res.fin0 (kresL P fn fn.results.toList).r ((kS P fn.ntmps [] c).f F tm s rv Res.norm)) = .done s' b → b = took ∧ ∀ w0 E w ARGS u u2, SV.denL E args = some ARGS → Rel w0 E s w →
            (∀ (c₀ : Go.Frame) (cs : List Go.Frame), c₀.mode = u → RecRel E rv (c₀ :: cs) ({ c₀ with mode := u2 } :: cs)) → CallsD P f ARGS.toArray u w fun e u' w' => ∃ V E', e = .returned V ∧ E.Le E' ∧ Rel w0 E' s' w' ∧ u' = u2 := fun rv took h => by
          obtain ⟨rfl, v, h⟩ := toD_ok h
          refine ⟨rfl, fun w0 E w ARGS u u2 hA R hrec => ?_⟩
          rcases kargs_or (m := min fn.ntmps 24) (i := 0) (l := args) (tm := .empty) (k := fun tm => Res.fin0 (kresL P fn fn.results.toList).r ((kS P fn.ntmps [] c).f F tm s rv Res.norm)) with e | ⟨hl, e⟩
          · rw [e] at h; cases h
          · rw [e] at h
            obtain ⟨o1, ho1, h2⟩ := fin0_ok (w0 := w0) (n := fn.ntmps) (pp := []) h
            refine callsD_of_wpS hfn hc fun c₀ cs hu => ?_
            intro bb kk hb hr
            obtain ⟨e, a', cs', w', ⟨rfl, hp'⟩, harr⟩ := kS_ok P fn.ntmps [] c F hF _ s rv Res.norm o1 ho1 w0 E _ w (c₀ :: cs) _ (init_n hA hl) R (hrec c₀ cs hu) bb kk hb hr
            refine ⟨e, a', _, w', ?_, harr⟩
            obtain ⟨he, hd, V, E', r1, r2, r3⟩ := h2 hp'
            rcases he with rfl | rfl
            · exact ⟨hd, u2, rfl, V, r1, V, E', rfl, r2, r3, rfl⟩
            · exact ⟨hd, u2, rfl, V, r1, V, E', rfl, r2, r3, rfl⟩
        cases m with
        | none =>
          obtain ⟨rfl, hh⟩ := go .nili false h
          refine ⟨nofun, hp, fun w0 E w ARGS u hA R hM => ?_⟩
          have hu : u = .returning := hM
          subst hu
          refine hh w0 E w ARGS .returning .returning hA R fun c₀ cs hm => .inl ⟨rfl, ?_, ?_⟩
          · simp only [recoverD, hm]
          · cases c₀
            dsimp only at hm
            subst hm
            rfl
        | some v =>
          obtain ⟨rfl, hh⟩ := go v true h
          refine ⟨fun _ => nofun, hp, fun w0 E w ARGS u hA R hM => ?_⟩
          obtain ⟨V, h1, rfl⟩ := hM
          refine hh w0 E w ARGS _ (.panicking [{ v := V, recovered := true }]) hA R fun c₀ cs hm => .inr ⟨V, h1, ?_⟩
          simp only [recoverD, hm]
    · cases h
  · cases h
theorem fk_ok {C : Contracts} (hC : ContractsOk P C) : ∀ N, FKOk P (fk P C N)
  | 0 => ⟨fun f args s h => (h rfl).elim, (fun f args s m s' b h => by cases h), ⟨0, fun n pp c tm s outs h => by cases h⟩⟩
  | N + 1 => by
    have hF := fk_ok hC N
    refine ⟨fun f args s h w0 E w ARGS hA R => kfun_ok hC hF h hA R, fun f args s m s' b h => kdef_ok hF h, ?_⟩
    obtain ⟨M, hM⟩ := hF.loops
    refine ⟨M + 1, fun n pp c tm s outs h w0 E A w hA R => ?_⟩
    have h : ((kcode P n pp c).f (fk P C N) tm s fun tm s => (fk P C N).exec n pp (.loop c) tm s).outs = some outs := h
    rw [rounds_succ]
    refine wp_mono (kcode_ok P n pp c _ hF tm s _ outs h w0 E A w hA R) fun e A' w' hp => ?_
    rcases hp with hp | hp
    · obtain ⟨tm', s', E', le, hA', R', ⟨rfl, ys, q1, q2⟩ | ⟨se, q1, q2, q3⟩⟩ := hp
      · exact rounds_mono (fun e A3 w3 hp3 => hp3.weaken le q2) (hM n pp c tm' s' ys q1 w0 E' A' w' hA' R')
      · have : PostKP w0 E n pp Res.norm outs e A' w' := .inl ⟨tm', s', E', le, hA', R', .inr ⟨se, q1, q2, q3⟩⟩
        cases e with
        | normal => exact (q2 rfl).elim
        | _ => exact this
    · obtain ⟨v, V, tm', s', E', rfl, q⟩ := hp
      exact .inr ⟨v, V, tm', s', E', rfl, q⟩
end
/-- A run that finds 'true' on every way. -/
theorem true_of_fast {P : Program} {C : Contracts} (hC : ContractsOk P C) {n : Nat} {f : FuncId} {args : List SV} {asm : Asm} (h : allTrue ((fk P C n).call f args { asm := asm }).outs = true) {E : Env} (hE : ∀ id, E.blk id = none) (ha : AsmOk E asm) {ARGS : List Value} (hA : SV.denL E args = some ARGS) (w : World) (hq : QQ E w := by first | exact trivial | assumption) (hv : ∀ id, E.fv id = none := by intro; rfl) (hk : ∀ k, E.kp k = none := by intro; rfl) :
    Calls P f ARGS.toArray w fun e w' => e = .returned (.bool true) ∧ RowKit.Below w.heap.size w w' := by
  cases ho : ((fk P C n).call f args { asm := asm }).outs with
  | none => rw [ho] at h; cases h
  | some outs =>
    rw [ho] at h
    exact true_of_outs ((fk_ok hC n).fs.call f args _ outs ho) h hE ha hA w hq hv hk
end Go.Sx
/-
  A fast symbolic run (part 6): a function without parameters that was run and said yes says yes wherever it is called.
-/
namespace Go.Sx
theorem Rel.grownY {w0 w w' : World} {E : Env} {s : St} (R : Rel w0 E s w) (B : RowKit.Below w.heap.size w w') : Rel w0 E s w' := by
  obtain ⟨b1, b2, b3, b4, b5⟩ := B
  refine ⟨b1.trans R.os, b2.trans R.tape, b3.trans R.output, Nat.le_trans R.size b4, fun k hk => ?_, fun id o h hl => ?_, R.fresh, R.new, R.inj, R.asm, R.rsv, R.qq, R.vfr, fun k O hk => ⟨(R.keep k O hk).1, (by have h1 := (R.keep k O hk).2; rw [b5 k (Array.getElem?_eq_some_iff.1 h1).1]; exact h1)⟩, R.apart⟩
  · rw [b5 k (Nat.lt_of_lt_of_le hk R.size)]; exact R.frame k hk
  · obtain ⟨b, base, n, h1, h2⟩ := R.mem id o h hl
    exact ⟨b, base, n, h1, by rw [b5 b (h2.lt hl)]; exact h2⟩
/-- A start with memory that is only read. -/
theorem Rel.startOld {E : Env} {w : World} {s : St} (hro : ∀ id o, s.h.get id = some o → o.own = false) (hm : Mem E s.h w) (hf : ∀ id, s.next ≤ id → E.blk id = none) (ha : ∀ c v, (c, v) ∈ s.asm → c.den E = some v) (hr : s.resv = []) (hq : QQ E w := by first | exact trivial | assumption) (hv : ∀ id, s.next ≤ id → E.fv id = none := by intro _ _; rfl) (hk : ∀ k, E.kp k = none := by intro; rfl) : Rel w E s w where
  os := rfl
  tape := rfl
  output := rfl
  size := Nat.le_refl _
  frame := fun _ _ => rfl
  mem := hm
  fresh := hf
  new := fun id o b base n h ho => by rw [hro id o h] at ho; cases ho
  inj := fun id id' o o' x x' h _ ho => by rw [hro id o h] at ho; cases ho
  asm := ha
  rsv := fun id h => by rw [hr] at h; cases h
  qq := hq
  vfr := hv
  keep := fun k O h => by rw [hk] at h; cases h
  apart := fun id o x _ _ _ => hk x.1
/-- A run that finds 'true' on every way, from a state that is so. -/
theorem true_from {P : Program} {C : Contracts} (hC : ContractsOk P C) {n : Nat} {f : FuncId} {args : List SV} {s : St} (h : allTrue ((fk P C n).call f args s).outs = true) {w0 w : World} {E : Env} (R : Rel w0 E s w) {ARGS : List Value} (hA : SV.denL E args = some ARGS) :
    Calls P f ARGS.toArray w fun e w' => e = .returned (.bool true) ∧ RowKit.Below w0.heap.size w0 w' := by
  cases ho : ((fk P C n).call f args s).outs with
  | none => rw [ho] at h; cases h
  | some outs =>
    rw [ho] at h
    refine ((fk_ok hC n).fs.call f args s outs ho w0 E w ARGS hA R).mono fun e w' he => ?_
    obtain ⟨v, s', E', V, h1, h2, h3, rfl, h5⟩ := he
    have := List.all_eq_true.1 h _ h1
    split at this
    · rename_i b e
      simp only at e
      subst e
      subst this
      simp only [SV.den, BX.den, Option.some.injEq] at h3
      subst h3
      exact ⟨rfl, h5.below⟩
    · rename_i c _ e
      simp only at e
      subst e
      obtain ⟨b, hb, rfl⟩ := den_bool h3
      split at this
      · rename_i u hu
        have := known_ok hb h5.asm hu
        subst this
        simp_all
        exact h5.below
      · cases this
    · cases this
/-- Whatever way it goes, it returns a bool. -/
def allBool : Option (List (SV × St)) → Bool
  | some l => l.all fun p => match p.1 with
    | .bool _ => true
    | _ => false
  | none => false
theorem bool_of_fast {P : Program} {C : Contracts} (hC : ContractsOk P C) {n : Nat} {f : FuncId} {args : List SV} {asm : Asm} (h : allBool ((fk P C n).call f args { asm := asm }).outs = true) {E : Env} (hE : ∀ id, E.blk id = none) (ha : AsmOk E asm) {ARGS : List Value} (hA : SV.denL E args = some ARGS) (w : World) (hq : QQ E w := by first | exact trivial | assumption) (hv : ∀ id, E.fv id = none := by intro; rfl) (hk : ∀ k, E.kp k = none := by intro; rfl) :
    Calls P f ARGS.toArray w fun e w' => (∃ r : Bool, e = .returned (.bool r)) ∧ RowKit.Below w.heap.size w w' := by
  cases ho : ((fk P C n).call f args { asm := asm }).outs with
  | none => rw [ho] at h; cases h
  | some outs =>
    rw [ho] at h
    refine ((fk_ok hC n).fs.call f args _ outs ho w E w ARGS hA (Rel.start E w asm hE ha hq hv hk)).mono fun e w' he => ?_
    obtain ⟨v, s', E', V, h1, h2, h3, rfl, h5⟩ := he
    have := List.all_eq_true.1 h _ h1
    split at this
    · rename_i c e
      simp only at e
      subst e
      obtain ⟨b, hb, rfl⟩ := den_bool h3
      exact ⟨⟨b, rfl⟩, h5.below⟩
    · cases this
theorem bool_from {P : Program} {C : Contracts} (hC : ContractsOk P C) {n : Nat} {f : FuncId} {args : List SV} {s : St} (h : allBool ((fk P C n).call f args s).outs = true) {w0 w : World} {E : Env} (R : Rel w0 E s w) {ARGS : List Value} (hA : SV.denL E args = some ARGS) :
    Calls P f ARGS.toArray w fun e w' => (∃ r : Bool, e = .returned (.bool r)) ∧ RowKit.Below w0.heap.size w0 w' := by
  cases ho : ((fk P C n).call f args s).outs with
  | none => rw [ho] at h; cases h
  | some outs =>
    rw [ho] at h
    refine ((fk_ok hC n).fs.call f args s outs ho w0 E w ARGS hA R).mono fun e w' he => ?_
    obtain ⟨v, s', E', V, h1, h2, h3, rfl, h5⟩ := he
    have := List.all_eq_true.1 h _ h1
    split at this
    · rename_i c e
      simp only at e
      subst e
      obtain ⟨b, hb, rfl⟩ := den_bool h3
      exact ⟨⟨b, rfl⟩, h5.below⟩
    · cases this
def yesG : List SV → St → Option (List (SV × St))
  | [], s => some [(.bool (.lit true), s)]
  | _, _ => none
def yesC (f0 : Nat) (C : Contracts) : Contracts := fun f => match Nat.beq f f0 with
  | true => some yesG
  | false => C f
/-- The run of a function without parameters. -/
noncomputable def saysYes (P : Program) (f0 : Nat) : Bool := allTrue ((fk P noC 3000).call f0 [] {}).outs
/-- The same, run with contracts. -/
noncomputable def saysYesW (P : Program) (C1 : Contracts) (f0 : Nat) : Bool := allTrue ((fk P C1 3000).call f0 [] {}).outs
theorem yesCW_ok {P : Program} {C C1 : Contracts} (hC : ContractsOk P C) (hC1 : ContractsOk P C1) {f0 : Nat} (hr : saysYesW P C1 f0 = true) : ContractsOk P (yesC f0 C) := by
  intro f g hg args s outs h
  unfold yesC at hg
  split at hg
  · rename_i hf
    cases hg
    have := Nat.eq_of_beq_eq_true hf
    subst this
    intro w0 E w ARGS hA R
    unfold yesG at h
    split at h
    · cases h
      simp only [SV.denL, Option.some.injEq] at hA
      subst hA
      refine (true_of_fast hC1 hr (E := { E with blk := fun _ => none, fv := fun _ => none, kp := fun _ => none }) (fun _ => rfl) (fun c v hm => by cases hm) (ARGS := []) rfl w (QQ.noBlk (QQ.below R.below R.qq))).mono fun e w' he => ?_
      obtain ⟨rfl, hB⟩ := he
      exact ⟨.bool (.lit true), s, E, .bool true, List.mem_singleton.2 rfl, .refl E, by simp [SV.den, BX.den], rfl, R.grownY hB⟩
    · cases h
  · exact hC f g hg args s outs h
theorem yesC_ok {P : Program} {C : Contracts} (hC : ContractsOk P C) {f0 : Nat} (hr : saysYes P f0 = true) : ContractsOk P (yesC f0 C) := yesCW_ok hC (noC_ok _) hr
end Go.Sx
