/-
  A symbolic run of Go functions by computation (part 5): comparisons, sums, slices, maps that are read, interface values.
-/
import Derived.Test.YtkckgjjhnjcffaaSx4
namespace Go.Sx
set_option linter.unusedVariables false
set_option linter.unusedSimpArgs false

/-! ### == -/
def plainFs (fs : Array Field) : Bool := fs.toList.all fun f => f.name != "_"
def beqB : BX → BX → Option BX
  | .lit true, b => some b
  | .lit false, b => some (mkNot b)
  | a, .lit true => some a
  | a, .lit false => some (mkNot a)
  | a, b => match decide (a = b) with
    | true => some (.lit true)
    | false => some (.and (mkNot (.and a (mkNot b))) (mkNot (.and (mkNot a) b)))
theorem beqB_ok {E : Env} {a b c : BX} {x y : Bool} (h : beqB a b = some c) (ha : a.den E = some x) (hb : b.den E = some y) : c.den E = some (x == y) := by
  unfold beqB at h
  split at h
  · cases h; simp only [BX.den, Option.some.injEq] at ha; subst ha; rw [hb]; cases y <;> rfl
  · cases h; simp only [BX.den, Option.some.injEq] at ha; subst ha; rw [mkNot_ok hb]; cases y <;> rfl
  · cases h; simp only [BX.den, Option.some.injEq] at hb; subst hb; rw [ha]; cases x <;> rfl
  · cases h; simp only [BX.den, Option.some.injEq] at hb; subst hb; rw [mkNot_ok ha]; cases x <;> rfl
  · split at h
    · rename_i hd
      cases h
      have := of_decide_eq_true hd
      subst this
      rw [ha] at hb; cases hb
      simp [BX.den]
    · cases h
      have h1 : (BX.and a (mkNot b)).den E = some (x && !y) := by simp only [BX.den, ha, mkNot_ok hb]
      have h2 : (BX.and (mkNot a) b).den E = some (!x && y) := by simp only [BX.den, mkNot_ok ha, hb]
      have h3 := mkNot_ok h1
      have h4 := mkNot_ok h2
      simp only [BX.den, h3, h4]
      cases x <;> cases y <;> rfl
def eqFs (P : Program) (f : TypeId → SV → SV → Option BX) (xs ys : List SV) : List Field → Option BX
  | [] => some (.lit true)
  | fd :: rest =>
    match xpart P fd.type xs fd.offset, xpart P fd.type ys fd.offset with
    | some a, some b =>
      match f fd.type a b with
      | some (.lit false) => some (.lit false)
      | some c => match eqFs P f xs ys rest with
        | some e => some (mkAnd c e)
        | none => none
      | none => none
    | _, _ => none
def eqv (P : Program) : Nat → TypeId → SV → SV → Option BX
  | 0, _, _, _ => none
  | d + 1, t, x, y =>
    match P.underlying t with
    | some .bool => match x, y with
      | .bool a, .bool b => beqB a b
      | _, _ => none
    | some (.int _) => match x, y with
      | .int k a, .int k' b => match decide (k = k') with
        | true => some (mkIeq a b)
        | false => none
      | _, _ => none
    | some .string => match x, y with
      | .str a, .str b => some (mkSeq a b)
      | _, _ => none
    | some (.pointer elem) => match x, y with
      | .nilp, .nilp => some (.lit true)
      | .nilp, .ptr _ _ => some (.lit false)
      | .ptr _ _, .nilp => some (.lit false)
      | .ptr i o, .ptr j p => match Nat.beq i j, szOf P elem with
        | true, some (n + 1) => some (.lit (Nat.beq o p))
        | _, _ => none
      | _, _ => none
    | some (.interface _) => match x, y with
      | .nili, .nili => some (.lit true)
      | .nili, .iface _ _ => some (.lit false)
      | .iface _ _, .nili => some (.lit false)
      | _, _ => none
    | some (.slice _) => match x, y with
      | .nils, .nils => some (.lit true)
      | .nils, .slc _ _ _ _ _ => some (.lit false)
      | .slc _ _ _ _ _, .nils => some (.lit false)
      | _, _ => none
    | some (.map _ _) => match x, y with
      | .nilm, .nilm => some (.lit true)
      | .nilm, .map _ => some (.lit false)
      | .map _, .nilm => some (.lit false)
      | _, _ => none
    | some (.func _ _ _) => match x, y with
      | .nilf, .nilf => some (.lit true)
      | .nilf, .func _ _ _ => some (.lit false)
      | .func _ _ _, .nilf => some (.lit false)
      | _, _ => none
    | some (.struct fs) => match x, y with
      | .agg xs, .agg ys => match P.stoodInHeld t, plainFs fs with
        | false, true => eqFs P (eqv P d) xs ys fs.toList
        | _, _ => none
      | _, _ => none
    | _ => none
section
variable {P : Program} {E : Env}
theorem eqFs_ok {f : TypeId → SV → SV → Option BX} {D : Nat}
    (ih : ∀ t x y c X Y w, f t x y = some c → x.den E = some X → y.den E = some Y → ∃ b, c.den E = some b ∧ (Op.equalIn D t X Y).run P w = .ok b w) {xs ys : List SV} {L M : List Value} (hL : SV.denL E xs = some L) (hM : SV.denL E ys = some M) (w : World) :
    ∀ {l : List Field} {c : BX}, (l.all fun f => f.name != "_") = true → eqFs P f xs ys l = some c → ∃ b, c.den E = some b ∧ (Op.eqFields D L.toArray M.toArray l).run P w = .ok b w
  | [], c, _, h => by
    simp only [eqFs, Option.some.injEq] at h
    subst h
    exact ⟨true, rfl, by simp [Op.eqFields]⟩
  | fd :: rest, c, hp, h => by
    simp only [List.all_cons, Bool.and_eq_true] at hp
    have hn : fd.name ≠ "_" := by simpa using hp.1
    simp only [eqFs] at h
    split at h
    · rename_i a b ha hb
      obtain ⟨A, a1, a2⟩ := xpart_ok ha hL w
      obtain ⟨B, b1, b2⟩ := xpart_ok hb hM w
      split at h
      · rename_i hc
        cases h
        obtain ⟨r, r1, r2⟩ := ih _ _ _ _ A B w hc a1 b1
        simp only [BX.den, Option.some.injEq] at r1
        subst r1
        exact ⟨false, rfl, by simp [Op.eqFields, hn, a2, b2, r2]⟩
      · rename_i e _ hc
        obtain ⟨r, r1, r2⟩ := ih _ _ _ _ A B w hc a1 b1
        split at h
        · rename_i e' he
          cases h
          obtain ⟨q, q1, q2⟩ := eqFs_ok ih hL hM w hp.2 he
          refine ⟨r && q, mkAnd_ok r1 q1, ?_⟩
          cases r
          · simp [Op.eqFields, hn, a2, b2, r2]
          · simp [Op.eqFields, hn, a2, b2, r2, q2]
        · cases h
      · cases h
    · cases h
theorem eqv_ok : ∀ (d D : Nat), d ≤ D → ∀ t x y c X Y w, eqv P d t x y = some c → x.den E = some X → y.den E = some Y → ∃ b, c.den E = some b ∧ (Op.equalIn D t X Y).run P w = .ok b w
  | 0, D, _, t, x, y, c, X, Y, w, h, _, _ => by simp [eqv] at h
  | d + 1, 0, hd, _, _, _, _, _, _, _, _, _, _ => by omega
  | d + 1, D + 1, hd, t, x, y, c, X, Y, w, h, hX, hY => by
    simp only [eqv] at h
    split at h
    · rename_i hu
      split at h
      · obtain ⟨a, ha, rfl⟩ := den_bool hX
        obtain ⟨b, hb, rfl⟩ := den_bool hY
        exact ⟨_, beqB_ok h ha hb, by simp [Op.equalIn, run_underlying hu]⟩
      · cases h
    · rename_i k0 hu
      split at h
      · obtain ⟨a, ha, rfl⟩ := den_int hX
        obtain ⟨b, hb, rfl⟩ := den_int hY
        split at h
        · rename_i e
          cases h
          have e := of_decide_eq_true e
          subst e
          exact ⟨_, mkIeq_ok ha hb, by simp [Op.equalIn, run_underlying hu]⟩
        · cases h
      · cases h
    · rename_i hu
      split at h
      · obtain ⟨a, ha, rfl⟩ := den_str hX
        obtain ⟨b, hb, rfl⟩ := den_str hY
        cases h
        exact ⟨_, mkSeq_ok ha hb, by simp [Op.equalIn, run_underlying hu, beq_toListBytes]⟩
      · cases h
    · rename_i elem hu
      split at h
      · cases h; obtain rfl := den_nil0.1 hX; obtain rfl := den_nil0.1 hY
        exact ⟨_, rfl, by simp [Op.equalIn, run_underlying hu]⟩
      · cases h; obtain rfl := den_nil0.1 hX; obtain ⟨_, _, _, _, rfl⟩ := den_ptr hY
        exact ⟨_, rfl, by simp [Op.equalIn, run_underlying hu]⟩
      · cases h; obtain ⟨_, _, _, _, rfl⟩ := den_ptr hX; obtain rfl := den_nil0.1 hY
        exact ⟨_, rfl, by simp [Op.equalIn, run_underlying hu]⟩
      · obtain ⟨b1, base1, n1, e1, rfl⟩ := den_ptr hX; obtain ⟨b2, base2, n2, e2, rfl⟩ := den_ptr hY
        split at h
        · rename_i n hij hn
          cases h
          have hij := Nat.eq_of_beq_eq_true hij
          subst hij
          rw [e1] at e2; cases e2
          refine ⟨_, rfl, ?_⟩
          have e : ∀ o p : Nat, ((⟨b1, base1 + o, none⟩ : Addr) == ⟨b1, base1 + p, none⟩) = Nat.beq o p := by
            intro o p
            rw [Bool.eq_iff_iff]
            simp
          simp [Op.equalIn, run_underlying hu, run_size hn, sameAddr, e]
        · cases h
      · cases h
    · rename_i ms hu
      split at h
      · cases h; obtain rfl := den_nil0.2.2.2.2 hX; obtain rfl := den_nil0.2.2.2.2 hY
        exact ⟨_, rfl, by simp [Op.equalIn, run_underlying hu]⟩
      · cases h; obtain rfl := den_nil0.2.2.2.2 hX; obtain ⟨_, _, rfl⟩ := den_iface hY
        exact ⟨_, rfl, by simp [Op.equalIn, run_underlying hu]⟩
      · cases h; obtain ⟨_, _, rfl⟩ := den_iface hX; obtain rfl := den_nil0.2.2.2.2 hY
        exact ⟨_, rfl, by simp [Op.equalIn, run_underlying hu]⟩
      · cases h
    · rename_i elem hu
      split at h
      · cases h; obtain rfl := den_nil0.2.1 hX; obtain rfl := den_nil0.2.1 hY
        exact ⟨_, rfl, by simp [Op.equalIn, run_underlying hu]⟩
      · cases h; obtain rfl := den_nil0.2.1 hX; obtain ⟨_, _, _, _, rfl⟩ := den_slc hY
        exact ⟨_, rfl, by simp [Op.equalIn, run_underlying hu]⟩
      · cases h; obtain ⟨_, _, _, _, rfl⟩ := den_slc hX; obtain rfl := den_nil0.2.1 hY
        exact ⟨_, rfl, by simp [Op.equalIn, run_underlying hu]⟩
      · cases h
    · rename_i hu
      split at h
      · cases h; obtain rfl := den_nil0.2.2.1 hX; obtain rfl := den_nil0.2.2.1 hY
        exact ⟨_, rfl, by simp [Op.equalIn, run_underlying hu]⟩
      · cases h; obtain rfl := den_nil0.2.2.1 hX; obtain ⟨_, _, _, _, rfl⟩ := den_map hY
        exact ⟨_, rfl, by simp [Op.equalIn, run_underlying hu]⟩
      · cases h; obtain ⟨_, _, _, _, rfl⟩ := den_map hX; obtain rfl := den_nil0.2.2.1 hY
        exact ⟨_, rfl, by simp [Op.equalIn, run_underlying hu]⟩
      · cases h
    · rename_i hu
      split at h
      · cases h; obtain rfl := den_nil0.2.2.2.1 hX; obtain rfl := den_nil0.2.2.2.1 hY
        exact ⟨_, rfl, by simp [Op.equalIn, run_underlying hu]⟩
      · cases h; obtain rfl := den_nil0.2.2.2.1 hX; obtain ⟨_, _, _, _, rfl⟩ := den_func hY
        exact ⟨_, rfl, by simp [Op.equalIn, run_underlying hu]⟩
      · cases h; obtain ⟨_, _, _, _, rfl⟩ := den_func hX; obtain rfl := den_nil0.2.2.2.1 hY
        exact ⟨_, rfl, by simp [Op.equalIn, run_underlying hu]⟩
      · cases h
    · rename_i fs hu
      split at h
      · obtain ⟨L, hL, rfl⟩ := den_agg hX
        obtain ⟨M, hM, rfl⟩ := den_agg hY
        split at h
        · rename_i hs hp
          have hf : P.fieldsOf t = fs := by simp [Program.fieldsOf, hu]
          rw [run_equalIn_struct (P := P) w D t L.toArray M.toArray (by rw [hf]; exact hu) hs, hf]
          exact eqFs_ok (fun t x y c X Y w h1 h2 h3 => eqv_ok d D (by omega) t x y c X Y w h1 h2 h3) hL hM w hp h
        · cases h
      · cases h
    · cases h

/-! ### sums and tests -/
def mkBin (o : BinOp) (k : IntKind) (a b : IX) : Option IX :=
  match a, b with
  | .lit x, .lit y => match intBin o k x y with
    | some z => some (.lit z)
    | none => none
  | a, .lit y => match intBin o k 0 y with
    | some _ => some (.bin o k a (.lit y))
    | none => none
  | a, b => match o with
    | .add | .sub | .mul | .and | .or | .xor | .andNot => some (.bin o k a b)
    | _ => none
theorem mkBin_ok {o : BinOp} {k : IntKind} {a b c : IX} {x y : Int} (h : mkBin o k a b = some c) (ha : a.den E = some x) (hb : b.den E = some y) : ∃ z, intBin o k x y = some z ∧ c.den E = some z := by
  unfold mkBin at h
  split at h
  · simp only [IX.den, Option.some.injEq] at ha hb; subst ha hb
    split at h
    · rename_i z hz; cases h; exact ⟨z, hz, rfl⟩
    · cases h
  · rename_i y0 _
    simp only [IX.den, Option.some.injEq] at hb; subst hb
    split at h
    · rename_i z hz; cases h
      have : ∃ u, intBin o k x y0 = some u := by
        cases o <;> simp only [intBin] at hz ⊢ <;> first | exact ⟨_, rfl⟩ | (split at hz <;> first | (cases hz; done) | (rename_i e; rw [if_neg e]; exact ⟨_, rfl⟩)) | cases hz
      obtain ⟨u, hu⟩ := this
      exact ⟨u, hu, by simp [IX.den, ha, hu]⟩
    · cases h
  · split at h <;> first | (cases h; done) | (cases h; exact ⟨_, rfl, by simp [IX.den, ha, hb, intBin]⟩)
def cmpI (o : BinOp) (a b : IX) : Option BX :=
  match o with
  | .eql => some (mkIeq a b)
  | .neq => some (mkNot (mkIeq a b))
  | .lss => some (mkIlt a b)
  | .geq => some (mkNot (mkIlt a b))
  | .gtr => some (mkIlt b a)
  | .leq => some (mkNot (mkIlt b a))
  | _ => none
def isArith : BinOp → Bool
  | .add | .sub | .mul | .quo | .rem | .and | .or | .xor | .andNot => true
  | _ => false
def ltL : List UInt8 → List UInt8 → Bool
  | _, [] => false
  | [], _ :: _ => true
  | a :: x, b :: y => match Nat.blt a.toNat b.toNat with
    | true => true
    | false => match Nat.beq a.toNat b.toNat with
      | true => ltL x y
      | false => false
theorem ltL_eq : ∀ x y, ltL x y = Op.bytesLess x y
  | x, [] => by cases x <;> rfl
  | [], _ :: _ => rfl
  | a :: x, b :: y => by
    simp only [ltL, Op.bytesLess, ltL_eq x y]
    split
    · rename_i e
      have : a < b := by rw [UInt8.lt_iff_toNat_lt]; simpa [Nat.blt_eq] using e
      simp [this]
    · rename_i e
      have : ¬ a < b := by rw [UInt8.lt_iff_toNat_lt]; intro h; have : Nat.blt a.toNat b.toNat = true := by simpa [Nat.blt_eq] using h
                           rw [this] at e; cases e
      split
      · rename_i e2
        have : a = b := UInt8.toNat_inj.1 (Nat.eq_of_beq_eq_true e2)
        subst this
        simp
      · rename_i e2
        have : a ≠ b := fun h => by subst h; simp at e2
        simp [*]
def strOp (o : BinOp) (a b : SX) : Option SV :=
  match o with
  | .eql => some (.bool (mkSeq a b))
  | .neq => some (.bool (mkNot (mkSeq a b)))
  | .add => match a, b with
    | .lit n c, .lit m d => match Nat.ble (n + m) 9223372036854775807 with
      | true => some (.str (.lit (n + m) (c % 256 ^ n + d * 256 ^ n)))
      | false => none
    | _, _ => none
  | o => match a, b with
    | .lit n c, .lit m d =>
      match o with
      | .lss => some (.bool (.lit (ltL (dec n c) (dec m d))))
      | .geq => some (.bool (.lit (!ltL (dec n c) (dec m d))))
      | .leq => some (.bool (.lit (!ltL (dec m d) (dec n c))))
      | .gtr => some (.bool (.lit (ltL (dec m d) (dec n c))))
      | _ => none
    | _, _ => none
theorem bytesLess_total : ∀ x y : List UInt8, (Op.bytesLess x y || x == y) = !Op.bytesLess y x
  | [], [] => by simp [Op.bytesLess]
  | [], b :: y => by simp [Op.bytesLess]
  | a :: x, [] => by simp [Op.bytesLess]
  | a :: x, b :: y => by
    have ih := bytesLess_total x y
    simp only [Op.bytesLess]
    rcases Nat.lt_trichotomy a.toNat b.toNat with h | h | h
    · have h1 : a < b := UInt8.lt_iff_toNat_lt.2 h
      have h2 : ¬ b < a := fun e => by have := UInt8.lt_iff_toNat_lt.1 e; omega
      have h3 : b ≠ a := fun e => by subst e; omega
      simp [h1, h2, h3]
    · have h1 : a = b := UInt8.toNat_inj.1 h
      subst h1
      simp only [UInt8.lt_irrefl, decide_false, Bool.false_or, BEq.rfl, Bool.true_and]
      rw [← ih]
      congr 1
      rw [Bool.eq_iff_iff]; simp
    · have h1 : b < a := UInt8.lt_iff_toNat_lt.2 h
      have h2 : ¬ a < b := fun e => by have := UInt8.lt_iff_toNat_lt.1 e; omega
      have h3 : a ≠ b := fun e => by subst e; omega
      simp [h1, h2, h3]
theorem txt_append (n c m d : Nat) : txt n c ++ txt m d = txt (n + m) (c % 256 ^ n + d * 256 ^ n) := by
  unfold txt
  rw [dec_append]
  apply ByteArray.ext
  simp
theorem strOp_ok {o : BinOp} {a b : SX} {v : SV} {x y : ByteArray} (h : strOp o a b = some v) (ha : a.den E = some x) (hb : b.den E = some y) (w : World) : ∃ V, v.den E = some V ∧ (Op.stringOp o x y).run P w = .ok V w := by
  unfold strOp at h
  split at h
  · cases h; exact ⟨.bool (x.toList == y.toList), by simp [SV.den, mkSeq_ok ha hb], by simp [Op.stringOp]⟩
  · cases h; exact ⟨.bool (!(x.toList == y.toList)), by simp [SV.den, mkNot_ok (mkSeq_ok ha hb)], by simp [Op.stringOp]⟩
  · split at h
    · simp only [SX.den, Option.some.injEq] at ha hb; subst ha hb
      split at h
      · rename_i hle
        cases h
        have hle := Nat.le_of_ble_eq_true hle
        rename_i n c m d _ _
        refine ⟨.string (txt n c ++ txt m d), by simp [SV.den, SX.den, txt_append], ?_⟩
        have : ¬ (((txt n c).size + (txt m d).size : Nat) : Int) > IntKind.i64.max := by
          simp only [size_txt]
          have : IntKind.i64.max = 9223372036854775807 := by decide
          rw [this]; omega
        simp only [Op.stringOp, Sem.run_ite]
        rw [if_neg this]
        rfl
      · cases h
    · cases h
  · split at h
    · simp only [SX.den, Option.some.injEq] at ha hb; subst ha hb
      split at h
      · rename_i n c m d _ _ _ _; cases h; exact ⟨.bool (ltL (dec n c) (dec m d)), by simp [SV.den, BX.den], by simp only [Op.stringOp, toList_txt, ltL_eq, Sem.run_pure]⟩
      · rename_i n c m d _ _ _ _; cases h; exact ⟨.bool (!ltL (dec n c) (dec m d)), by simp [SV.den, BX.den], by simp only [Op.stringOp, toList_txt, ltL_eq, Sem.run_pure]⟩
      · rename_i n c m d _ _ _ _; cases h; exact ⟨.bool (!ltL (dec m d) (dec n c)), by simp [SV.den, BX.den], by simp only [Op.stringOp, toList_txt, ltL_eq, bytesLess_total, Sem.run_pure]⟩
      · rename_i n c m d _ _ _ _; cases h; exact ⟨.bool (ltL (dec m d) (dec n c)), by simp [SV.den, BX.den], by simp only [Op.stringOp, toList_txt, ltL_eq, bytesLess_total, Sem.run_pure, Bool.not_not]⟩
      · cases h
    · cases h
def isConstO : Operand → Bool
  | .const _ => true
  | _ => false
def xbin (P : Program) (op : BinOp) (t : TypeId) (cst : Bool) (x y : SV) : Option SV :=
  match x, y with
  | .int k a, .int k' b =>
    match op with
    | .shl => match mkBin .shl k a b with | some z => some (.int k z) | none => none
    | .shr => match mkBin .shr k a b with | some z => some (.int k z) | none => none
    | op => match decide (k = k') with
      | true => match isArith op with
        | true => match mkBin op k a b with | some z => some (.int k z) | none => none
        | false => match cmpI op a b with | some c => some (.bool c) | none => none
      | false => none
  | .str a, .str b => strOp op a b
  | x, y =>
    match (match x, y with
      | .nili, .nili => cst
      | .agg _, .agg _ => !P.eqGuardType P.depth t
      | .int _ _, _ => false
      | .str _, _ => false
      | _, _ => true) with
    | true => match op with
      | .eql => match eqv P 30 t x y with | some c => some (.bool c) | none => none
      | .neq => match eqv P 30 t x y with | some c => some (.bool (mkNot c)) | none => none
      | _ => none
    | false => none
def EqLike (X : Value) : Prop := ∀ t Y, binOp .eql t X Y = (do pure (.bool (← Op.equal t X Y))) ∧ binOp .neq t X Y = (do pure (.bool (!(← Op.equal t X Y))))
theorem eqLike {x : SV} {X : Value} (h : x.den E = some X) (h1 : ∀ k n, x ≠ .int k n) (h2 : ∀ s, x ≠ .str s) : EqLike X := by
  cases x with
  | bool b => obtain ⟨_, _, rfl⟩ := den_bool h; exact fun t Y => ⟨rfl, rfl⟩
  | int k n => exact (h1 _ _ rfl).elim
  | str s => exact (h2 _ rfl).elim
  | nilp => obtain rfl := den_nil0.1 h; exact fun t Y => ⟨rfl, rfl⟩
  | ptr i o => obtain ⟨_, _, _, _, rfl⟩ := den_ptr h; exact fun t Y => ⟨rfl, rfl⟩
  | nils => obtain rfl := den_nil0.2.1 h; exact fun t Y => ⟨rfl, rfl⟩
  | slc a b c d e => obtain ⟨_, _, _, _, rfl⟩ := den_slc h; exact fun t Y => ⟨rfl, rfl⟩
  | nilm => obtain rfl := den_nil0.2.2.1 h; exact fun t Y => ⟨rfl, rfl⟩
  | map i => obtain ⟨_, _, _, _, rfl⟩ := den_map h; exact fun t Y => ⟨rfl, rfl⟩
  | nilf => obtain rfl := den_nil0.2.2.2.1 h; exact fun t Y => ⟨rfl, rfl⟩
  | func f a b => obtain ⟨_, _, _, _, rfl⟩ := den_func h; exact fun t Y => ⟨rfl, rfl⟩
  | nili => obtain rfl := den_nil0.2.2.2.2 h; exact fun t Y => ⟨rfl, rfl⟩
  | iface t v => obtain ⟨_, _, rfl⟩ := den_iface h; exact fun t Y => ⟨rfl, rfl⟩
  | agg cs => obtain ⟨_, _, rfl⟩ := den_agg h; exact fun t Y => ⟨rfl, rfl⟩
  | tup cs => obtain ⟨_, _, rfl⟩ := den_tup h; exact fun t Y => ⟨rfl, rfl⟩
theorem run_guard_plain {op : BinOp} {t : TypeId} {xo yo : Operand} {X Y : Value} (h : (X = .nilIface → Y = .nilIface → isConstO xo = true ∨ isConstO yo = true)) (h2 : ∀ a b, X = .agg a → Y = .agg b → P.eqGuardType P.depth t = false) (w : World) :
    (eqGuard op t xo yo X Y).run P w = .ok () w := by
  unfold eqGuard
  cases op <;> first | exact rfl | skip
  all_goals
    simp only [Bool.not_true, Bool.false_eq_true, if_false]
    split
    · rcases h rfl rfl with h | h
      · cases xo <;> first | (cases h; done) | rfl
      · cases yo <;> first | (cases h; done) | (cases xo <;> rfl)
    · have := h2 _ _ rfl rfl
      simp [this]
    · rfl
theorem int_ops {k : IntKind} {a b z : Int} {op : BinOp} (h : intBin op k a b = some z) (w : World) (t : TypeId) : (binOp op t (.int k a) (.int k b)).run P w = .ok (.int k z) w := by
  cases op <;> simp only [intBin, Option.some.injEq] at h <;>
    first
      | (subst h; simp [binOp, Op.intArith, Op.intBits]; done)
      | (split at h
         · cases h
         · rename_i e; cases h; simp [binOp, Op.intDiv, Op.shift, e]; done)
      | (cases h; done)
theorem shift_ops {k k' : IntKind} {a b z : Int} {op : BinOp} (ho : op = .shl ∨ op = .shr) (h : intBin op k a b = some z) (w : World) (t : TypeId) : (binOp op t (.int k a) (.int k' b)).run P w = .ok (.int k z) w := by
  rcases ho with rfl | rfl <;> simp only [intBin, Option.some.injEq] at h <;> split at h <;> first | (cases h; done) | (rename_i e; cases h; simp [binOp, Op.shift, e])
theorem cmp_ops {k : IntKind} {a b : IX} {x y : Int} {op : BinOp} {c : BX} (h : cmpI op a b = some c) (ha : a.den E = some x) (hb : b.den E = some y) (w : World) (t : TypeId) : ∃ v, c.den E = some v ∧ (binOp op t (.int k x) (.int k y)).run P w = .ok (.bool v) w := by
  cases op <;> simp only [cmpI, Option.some.injEq] at h <;> first | (cases h; done) | subst h
  · exact ⟨_, mkIeq_ok ha hb, by simp [binOp, Op.intCmp]⟩
  · exact ⟨_, mkNot_ok (mkIeq_ok ha hb), by simp [binOp, Op.intCmp, bne]⟩
  · exact ⟨_, mkIlt_ok ha hb, by simp [binOp, Op.intCmp]⟩
  · exact ⟨_, mkNot_ok (mkIlt_ok hb ha), by simp [binOp, Op.intCmp, ← decide_not, Int.not_lt]⟩
  · exact ⟨_, mkIlt_ok hb ha, by simp [binOp, Op.intCmp]⟩
  · exact ⟨_, mkNot_ok (mkIlt_ok ha hb), by simp [binOp, Op.intCmp, ← decide_not, Int.not_lt]⟩
theorem xbin_ok {op : BinOp} {t : TypeId} {cst : Bool} {x y v : SV} (h : xbin P op t cst x y = some v) {X Y : Value} (hX : x.den E = some X) (hY : y.den E = some Y) {xo yo : Operand} (hc : cst = true → isConstO xo = true ∨ isConstO yo = true) (w : World) :
    ∃ V, v.den E = some V ∧ ((do eqGuard op t xo yo X Y; binOp op t X Y) : Sem Value).run P w = .ok V w := by
  unfold xbin at h
  split at h
  · rename_i k a0 k' b0
    obtain ⟨a, ha, rfl⟩ := den_int hX
    obtain ⟨b, hb, rfl⟩ := den_int hY
    have hg : (eqGuard op t xo yo (.int k a) (.int k' b)).run P w = .ok () w := run_guard_plain (fun e => by cases e) (fun _ _ e => by cases e) w
    split at h
    · split at h
      · rename_i z hz; cases h
        obtain ⟨u, h1, h2⟩ := mkBin_ok hz ha hb
        exact ⟨.int k u, by simp only [SV.den, h2], by simp only [Sem.run_bind, hg, Result.andThen_ok, shift_ops (.inl rfl) h1]⟩
      · cases h
    · split at h
      · rename_i z hz; cases h
        obtain ⟨u, h1, h2⟩ := mkBin_ok hz ha hb
        exact ⟨.int k u, by simp only [SV.den, h2], by simp only [Sem.run_bind, hg, Result.andThen_ok, shift_ops (.inr rfl) h1]⟩
      · cases h
    · split at h
      · rename_i e
        have e := of_decide_eq_true e
        subst e
        split at h
        · split at h
          · rename_i z hz; cases h
            obtain ⟨u, h1, h2⟩ := mkBin_ok hz ha hb
            exact ⟨.int k u, by simp only [SV.den, h2], by simp only [Sem.run_bind, hg, Result.andThen_ok, int_ops h1]⟩
          · cases h
        · split at h
          · rename_i z hz; cases h
            obtain ⟨u, h1, h2⟩ := cmp_ops (P := P) (k := k) hz ha hb w t
            exact ⟨.bool u, by simp only [SV.den, h1], by simp only [Sem.run_bind, hg, Result.andThen_ok, h2]⟩
          · cases h
      · cases h
  · obtain ⟨a, ha, rfl⟩ := den_str hX
    obtain ⟨b, hb, rfl⟩ := den_str hY
    have hg : (eqGuard op t xo yo (.string a) (.string b)).run P w = .ok () w := run_guard_plain (fun e => by cases e) (fun _ _ e => by cases e) w
    obtain ⟨V, h1, h2⟩ := strOp_ok (P := P) h ha hb w
    refine ⟨V, h1, ?_⟩
    have hb : binOp op t (.string a) (.string b) = Op.stringOp op a b := by cases op <;> rfl
    simp only [Sem.run_bind, hg, Result.andThen_ok, hb, h2]
  · rename_i x1 y1 hni hns
    split at h
    · rename_i hok
      have hx1 : ∀ k n, x ≠ .int k n := by
        rintro k n rfl
        simp only at hok
        cases hok
      have hx2 : ∀ s, x ≠ .str s := by
        rintro s rfl
        simp only at hok
        cases hok
      have hE := eqLike hX hx1 hx2
      have hg : (eqGuard op t xo yo X Y).run P w = .ok () w := by
        refine run_guard_plain (fun e1 e2 => ?_) (fun a b e1 e2 => ?_) w
        · subst e1 e2
          have hx : x = .nili := by
            cases x <;> first | rfl | (exfalso; simp only [SV.den] at hX; first | (cases hX; done) | (split at hX <;> first | (cases hX; done) | (split at hX <;> cases hX)))
          have hy : y = .nili := by
            cases y <;> first | rfl | (exfalso; simp only [SV.den] at hY; first | (cases hY; done) | (split at hY <;> first | (cases hY; done) | (split at hY <;> cases hY)))
          subst hx hy
          exact hc hok
        · subst e1 e2
          have hx : ∃ cs, x = .agg cs := by
            cases x <;> first | exact ⟨_, rfl⟩ | (exfalso; simp only [SV.den] at hX; first | (cases hX; done) | (split at hX <;> first | (cases hX; done) | (split at hX <;> cases hX)))
          have hy : ∃ cs, y = .agg cs := by
            cases y <;> first | exact ⟨_, rfl⟩ | (exfalso; simp only [SV.den] at hY; first | (cases hY; done) | (split at hY <;> first | (cases hY; done) | (split at hY <;> cases hY)))
          obtain ⟨cs, rfl⟩ := hx
          obtain ⟨cs', rfl⟩ := hy
          simpa using hok
      split at h
      · split at h
        · rename_i c hcc; cases h
          obtain ⟨b, h1, h2⟩ := eqv_ok (P := P) 30 10000 (by omega) _ _ _ _ _ _ w hcc hX hY
          refine ⟨.bool b, by simp only [SV.den, h1], ?_⟩
          simp only [Sem.run_bind, hg, Result.andThen_ok, (hE t Y).1, Op.equal, Op.maxDepth, h2, Sem.run_pure]
        · cases h
      · split at h
        · rename_i c hcc; cases h
          obtain ⟨b, h1, h2⟩ := eqv_ok (P := P) 30 10000 (by omega) _ _ _ _ _ _ w hcc hX hY
          refine ⟨.bool (!b), by simp only [SV.den, mkNot_ok h1], ?_⟩
          simp only [Sem.run_bind, hg, Result.andThen_ok, (hE t Y).2, Op.equal, Op.maxDepth, h2, Sem.run_pure]
        · cases h
      · cases h
    · cases h
end
end Go.Sx
