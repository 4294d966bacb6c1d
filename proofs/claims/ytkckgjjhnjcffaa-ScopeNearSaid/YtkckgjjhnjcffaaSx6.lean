/-
  A symbolic run of Go functions by computation (part 6): slices, maps that are read, interface values, composite values; all operations that leave memory alone.
-/
import Derived.Test.YtkckgjjhnjcffaaSx5
namespace Go.Sx
set_option linter.unusedVariables false
set_option linter.unusedSimpArgs false

/-! ### x[lo:hi:max] -/
def natSV : SV → Option Nat
  | .int _ i => natOf i
  | _ => none
theorem natSV_ok {E : Env} {v : SV} {n : Nat} (h : natSV v = some n) {V : Value} (hV : v.den E = some V) : ∃ k, V = .int k (n : Int) := by
  unfold natSV at h
  split at h
  · obtain ⟨z, hz, rfl⟩ := den_int hV
    rw [natOf_ok (E := E) h] at hz
    cases hz
    exact ⟨_, rfl⟩
  · cases h
/-- An operand that may be missing, as a number. -/
def natO (a : SAct) : Option Operand → Option (Option Nat)
  | none => some none
  | some x => match a.ev x with
    | some v => match natSV v with
      | some n => some (some n)
      | none => none
    | none => none
inductive IsNat : Option Value → Option Nat → Prop where
  | none : IsNat none none
  | some (k : IntKind) (n : Nat) : IsNat (some (.int k (n : Int))) (some n)
theorem natO_ok {E : Env} {a : SAct} {A : Act} (h : ActRel E a A) {x : Option Operand} {n : Option Nat} (hx : natO a x = some n) : IsNat (x.map A.eval) n := by
  unfold natO at hx
  split at hx
  · cases hx; exact .none
  · split at hx
    · rename_i v hv
      split at hx
      · rename_i m hm
        cases hx
        obtain ⟨k, hk⟩ := natSV_ok hm (ev_ok h hv)
        simp only [Option.map_some, hk]
        exact .some k m
      · cases hx
    · cases hx
def xbounds (len lb : Nat) (ex lo hi mx : Option Nat) : Option (Nat × Nat × Option Nat) :=
  match (match mx with | some v => Nat.ble v lb | none => true) with
  | false => none
  | true =>
    match (match hi with
      | some v => (match Nat.ble v (match mx with | some m => m | none => lb) with | true => some v | false => none)
      | none => (match mx with | some _ => none | none => some len)) with
    | none => none
    | some h =>
      match (match lo with | some v => Nat.ble v h | none => true) with
      | false => none
      | true => some ((match lo with | some v => v | none => 0), h, (match mx with | some v => some v | none => ex))
theorem run_sliceBound {P : Program} {k : IntKind} {v y : Nat} (h : v ≤ y) (code : BoundsCode) (w : World) : (Instr.sliceBound (.int k (v : Int)) y code).run P w = .ok v w := by
  simp [Instr.sliceBound, asIntOf, h]
theorem xbounds_ok {P : Program} {len lb C : Nat} {ex lo hi mx : Option Nat} {l h : Nat} {m : Option Nat} (hb : xbounds len lb ex lo hi mx = some (l, h, m)) (hlb : lb ≤ C) (hex : ∀ c, ex = some c → c = C)
    {lo' hi' mx' : Option Value} (hlo : IsNat lo' lo) (hhi : IsNat hi' hi) (hmx : IsNat mx' mx) (s : Bool) (w : World) :
    ∃ M, (Instr.sliceBounds s len C lo' hi' mx').run P w = .ok (l, h, M) w ∧ l ≤ h ∧ (mx = none → M = C) ∧ (∀ v, mx = some v → M = v ∧ h ≤ M) ∧ (m = none → mx = none ∧ ex = none) ∧ (∀ v, m = some v → v = M) ∧ (hi = none → h = len) ∧ (∀ v, hi = some v → h = v) := by
  unfold xbounds at hb
  split at hb
  · cases hb
  · rename_i h1
    split at hb
    · cases hb
    · rename_i h0 h2
      split at hb
      · cases hb
      · rename_i h3
        cases hb
        cases hmx with
        | none =>
          cases hhi with
          | none =>
            simp only at h2
            cases h2
            refine ⟨C, ?_, ?_, fun _ => rfl, fun v hv => (by cases hv), fun e => ⟨rfl, e⟩, fun v hv => hex v hv, fun _ => rfl, fun v hv => by cases hv⟩
            · cases hlo with
              | none => simp [Instr.sliceBounds]
              | some k n => simp [Instr.sliceBounds, run_sliceBound (Nat.le_of_ble_eq_true h3)]
            · cases hlo with
              | none => exact Nat.zero_le _
              | some k n => exact Nat.le_of_ble_eq_true h3
          | some k v =>
            simp only at h2
            split at h2
            · rename_i h4
              cases h2
              have h4 := Nat.le_trans (Nat.le_of_ble_eq_true h4) hlb
              refine ⟨C, ?_, ?_, fun _ => rfl, fun v hv => (by cases hv), fun e => ⟨rfl, e⟩, fun v hv => hex v hv, fun e => (by cases e), fun v hv => by cases hv; rfl⟩
              · cases hlo with
                | none => simp [Instr.sliceBounds, run_sliceBound h4]
                | some k n => simp [Instr.sliceBounds, run_sliceBound h4, run_sliceBound (Nat.le_of_ble_eq_true h3)]
              · cases hlo with
                | none => exact Nat.zero_le _
                | some k n => exact Nat.le_of_ble_eq_true h3
            · cases h2
        | some k' m =>
          have h1 := Nat.le_trans (Nat.le_of_ble_eq_true h1) hlb
          cases hhi with
          | none => simp only at h2; cases h2
          | some k v =>
            simp only at h2
            split at h2
            · rename_i h4
              cases h2
              have h4 := Nat.le_of_ble_eq_true h4
              refine ⟨m, ?_, ?_, fun e => (by cases e), fun v hv => (by cases hv; exact ⟨rfl, h4⟩), fun e => (by cases e), fun v hv => (by cases hv; rfl), fun e => (by cases e), fun v hv => by cases hv; rfl⟩
              · cases hlo with
                | none => simp [Instr.sliceBounds, run_sliceBound h1, run_sliceBound h4]
                | some k n => simp [Instr.sliceBounds, run_sliceBound h1, run_sliceBound h4, run_sliceBound (Nat.le_of_ble_eq_true h3)]
              · cases hlo with
                | none => exact Nat.zero_le _
                | some k n => exact Nat.le_of_ble_eq_true h3
            · cases h2
/-- At least so many elements has the slice's array from there on. -/
def capLB (h : T SObj) (id off : Nat) (cap : Option Nat) (es : Nat) : Nat :=
  match cap with
  | some c => c
  | none => match h.get id with
    | some (.cells rows nr es' ty opn ro) => (nr * es' - off) / es
    | _ => 0
theorem capLB_ok {E : Env} {h : T SObj} {w : World} (M : Mem E h w) {id off es b base n : Nat} {cap : Option Nat} (hb : E.blk id = some (b, base, n)) : capLB h id off cap es ≤ capOf cap n off es := by
  unfold capLB capOf
  cases cap with
  | some c => exact Nat.le_refl _
  | none =>
    simp only
    split
    · rename_i rows nr es' ty opn ro hid
      obtain ⟨b', base', m', hb', cs, fr, hcs, -, hsz, hnr, -⟩ := M id _ hid rfl
      rw [hb] at hb'; cases hb'
      exact Nat.div_le_div_right (by omega)
    · exact Nat.zero_le _
def capSub (m : Option Nat) (l : Nat) : Option Nat :=
  match m with
  | some m => some (m - l)
  | none => none
/-- The place of an element: where it begins, if it is not the end of the array. -/
def shiftOff (off l es lb : Nat) : Option Nat → Option Nat
  | some m => match Nat.beq m l with
    | true => some off
    | false => some (off + l * es)
  | none => match l with
    | 0 => some off
    | _ => match Nat.blt l lb with
      | true => some (off + l * es)
      | false => none
def xslice (P : Program) (h : T SObj) (t : TypeId) (x : SV) (lo hi mx : Option Nat) : Option SV :=
  match P.underlying t with
  | some (.array n elem) => match x with
    | .ptr id off => match szOf P elem, xbounds n n (some n) lo hi mx with
      | some es, some (l, hh, m) => match shiftOff off l es n m with
        | some off' => some (.slc id off' (hh - l) (capSub m l) es)
        | none => none
      | _, _ => none
    | _ => none
  | some .string => match x with
    | .str (.lit n c) => match mx with
      | none => match xbounds n n (some n) lo hi none with
        | some (l, hh, _) => some (.str (.lit (hh - l) (c / 256 ^ l)))
        | none => none
      | some _ => none
    | _ => none
  | some (.slice elem) => match x with
    | .slc id off len cap es => match szOf P elem with
      | some sz => match Nat.beq sz es, Nat.blt 0 es with
        | true, true => match xbounds len (capLB h id off cap es) cap lo hi mx with
          | some (l, hh, m) => match shiftOff off l es (capLB h id off cap es) m with
            | some off' => some (.slc id off' (hh - l) (capSub m l) es)
            | none => none
          | none => none
        | _, _ => none
      | none => none
    | .nils => match xbounds 0 0 (some 0) lo hi mx, szOf P elem with
      | some _, some _ => some .nils
      | _, _ => none
    | _ => none
  | _ => none
theorem shiftOff_ok {off l es lb C b base : Nat} {m : Option Nat} {off' M : Nat} (h : shiftOff off l es lb m = some off') (hlb : lb ≤ C) (hm : m = none → M = C) (hm2 : ∀ v, m = some v → v = M) :
    (if M = l then (⟨b, base + off, none⟩ : Addr) else (⟨b, base + off, none⟩ : Addr).add (l * es)) = ⟨b, base + off', none⟩ := by
  rw [add_at]
  unfold shiftOff at h
  split at h
  · rename_i v
    have e := hm2 v rfl
    subst e
    split at h
    · rename_i e
      cases h
      rw [if_pos (Nat.eq_of_beq_eq_true e)]
    · rename_i e
      cases h
      rw [if_neg (Nat.ne_of_beq_eq_false e)]
      simp [Nat.add_assoc]
  · have e := hm rfl
    subst e
    split at h
    · cases h; split <;> simp
    · split at h
      · rename_i e
        cases h
        have e : l < lb := by simpa [Nat.blt_eq] using e
        rw [if_neg (by omega)]
        simp [Nat.add_assoc]
      · cases h
theorem txt_extract {n c l h : Nat} (hn : h ≤ n) : (txt n c).extract l h = txt (h - l) (c / 256 ^ l) := by
  apply ByteArray.ext
  rw [ByteArray.data_extract]
  unfold txt
  apply Array.ext'
  simp only [Array.toList_extract, List.extract_eq_take_drop]
  rw [dec_drop, dec_take _ _ _ (by omega)]
section
variable {P : Program} {E : Env} {h : T SObj} {w : World} {t : TypeId}
theorem xslice_ok (M : Mem E h w) {x v : SV} {lo hi mx : Option Nat} (hv : xslice P h t x lo hi mx = some v) {X : Value} (hX : x.den E = some X) {lo' hi' mx' : Option Value} (hlo : IsNat lo' lo) (hhi : IsNat hi' hi) (hmx : IsNat mx' mx) :
    ∃ V, v.den E = some V ∧ (Instr.sliceAt t X lo' hi' mx').run P w = .ok V w := by
  unfold xslice at hv
  split at hv
  · rename_i n elem hu
    split at hv
    · rename_i id off
      obtain ⟨b, base, m0, hb, rfl⟩ := den_ptr hX
      split at hv
      · rename_i es l hh m hes hbd
        split at hv
        · rename_i off' hof
          cases hv
          obtain ⟨M', h1, h2, h3, h4, h5, h6, h7, h8⟩ := xbounds_ok (P := P) hbd (Nat.le_refl _) (fun c e => by cases e; rfl) hlo hhi hmx false w
          have hsh := shiftOff_ok (b := b) (base := base) hof (Nat.le_refl _) (fun e => by have := (h5 e).2; cases this) h6
          obtain ⟨mv, rfl⟩ : ∃ mv, m = some mv := by
            cases m with
            | none => have := (h5 rfl).2; cases this
            | some mv => exact ⟨mv, rfl⟩
          have := h6 mv rfl
          subst this
          refine ⟨_, den_slc_mk hb, ?_⟩
          simp only [Instr.sliceAt, Sem.run_bind, run_underlying hu, Result.andThen_ok, Instr.sureAddr, Sem.run_pure, h1, run_size hes, hsh]
          rfl
        · cases hv
      · cases hv
    · cases hv
  · rename_i hu
    split at hv
    · rename_i n c
      obtain ⟨s, hs, rfl⟩ := den_str hX
      simp only [SX.den, Option.some.injEq] at hs
      subst hs
      split at hv
      · split at hv
        · rename_i l hh _ hbd
          cases hv
          cases hmx
          obtain ⟨M', h1, h2, h3, h4, h5, h6, h7, h8⟩ := xbounds_ok (P := P) hbd (Nat.le_refl _) (fun c e => by cases e; rfl) hlo hhi .none false w
          refine ⟨.string (txt (hh - l) (c / 256 ^ l)), by simp [SV.den, SX.den], ?_⟩
          have hle : hh ≤ n := by
            unfold xbounds at hbd
            cases hi with
            | none => have := h7 rfl; omega
            | some v =>
              have := h8 v rfl
              subst this
              simp only at hbd
              split at hbd
              · cases hbd
              · rename_i h0 e
                split at e
                · rename_i e2; exact Nat.le_of_ble_eq_true e2
                · cases e
          simp only [Instr.sliceAt, Instr.slice, Sem.run_bind, run_underlying hu, Result.andThen_ok, Option.isSome_none, Bool.false_eq_true, if_false, size_txt, h1, Sem.run_pure, txt_extract hle]
        · cases hv
      · cases hv
    · cases hv
  · rename_i elem hu
    split at hv
    · rename_i id off len cap es
      obtain ⟨b, base, n, hb, rfl⟩ := den_slc hX
      split at hv
      · rename_i sz hsz
        split at hv
        · rename_i e1 e2
          have e1 := Nat.eq_of_beq_eq_true e1
          subst e1
          have e2 : 0 < sz := by simpa [Nat.blt_eq] using e2
          split at hv
          · rename_i l hh m hbd
            split at hv
            · rename_i off' hof
              cases hv
              have hlb := capLB_ok M (off := off) (es := sz) (cap := cap) hb
              obtain ⟨M', h1, h2, h3, h4, h5, h6, h7, h8⟩ := xbounds_ok (P := P) hbd hlb (fun c e => by subst e; rfl) hlo hhi hmx true w
              have hsh := shiftOff_ok (b := b) (base := base) hof hlb (fun e => h3 (h5 e).1) h6
              refine ⟨_, den_slc_mk hb, ?_⟩
              have hcap : capOf (capSub m l) n off' sz = M' - l := by
                cases m with
                | some v => have := h6 v rfl; subst this; rfl
                | none =>
                  have e3 := (h5 rfl).2
                  subst e3
                  have e4 := h3 (h5 rfl).1
                  simp only [capOf, capSub] at e4 ⊢
                  rw [e4]
                  unfold shiftOff at hof
                  simp only at hof
                  split at hof
                  · cases hof; simp
                  · split at hof
                    · cases hof
                      rw [Nat.sub_add_eq, Nat.mul_comm, Nat.sub_mul_div]
                    · cases hof
              simp only [Instr.sliceAt, Instr.slice, Sem.run_bind, run_underlying hu, Result.andThen_ok, h1, run_size hsz, Sem.run_pure, Option.map_some, hcap]
              split
              · rename_i e; rw [if_pos e] at hsh; rw [hsh]
              · rename_i e; rw [if_neg e] at hsh; rw [hsh]
            · cases hv
          · cases hv
        · cases hv
      · cases hv
    · obtain rfl := den_nil0.2.1 hX
      split at hv
      · rename_i q es hbd hes
        cases hv
        obtain ⟨l, hh, m⟩ := q
        obtain ⟨M', h1, h2, h3, h4, h5, h6, h7, h8⟩ := xbounds_ok (P := P) hbd (Nat.le_refl _) (fun c e => by cases e; rfl) hlo hhi hmx true w
        have hz : hh = 0 ∧ M' = 0 := by
          cases mx with
          | none =>
            refine ⟨?_, h3 rfl⟩
            cases hi with
            | none => exact h7 rfl
            | some v =>
              have := h8 v rfl
              subst this
              unfold xbounds at hbd
              simp only at hbd
              split at hbd
              · cases hbd
              · rename_i h0 e
                split at e
                · rename_i e2; exact Nat.le_zero.1 (Nat.le_of_ble_eq_true e2)
                · cases e
          | some v =>
            obtain ⟨e1, e2⟩ := h4 v rfl
            unfold xbounds at hbd
            simp only at hbd
            split at hbd
            · cases hbd
            · rename_i e3
              have := Nat.le_of_ble_eq_true e3
              omega
        obtain ⟨rfl, rfl⟩ := hz
        refine ⟨.slice none 0 0, by simp [SV.den], ?_⟩
        simp only [Instr.sliceAt, Instr.slice, Sem.run_bind, run_underlying hu, Result.andThen_ok, h1, run_size hes, Sem.run_pure, Option.map_none, ite_self, Nat.zero_sub]
      · cases hv
    · cases hv
  · cases hv

/-! ### maps that are read -/
def basicD : TypeDesc → Bool
  | .bool | .int _ | .string => true
  | _ => false
def keyOk (P : Program) : Nat → TypeId → SV → Bool
  | 0, _, _ => false
  | d + 1, t, v =>
    match P.underlying t with
    | some (.struct fs) => match v with
      | .agg cs => fs.toList.all fun f => match xpart P f.type cs f.offset with
        | some u => keyOk P d f.type u
        | none => false
      | _ => false
    | some dd => basicD dd
    | none => false
theorem keyOk_ok : ∀ (d D : Nat), d ≤ D → ∀ (e : Bool) (t : TypeId) (v : SV) (V : Value) (w : World), keyOk P d t v = true → v.den E = some V → (Instr.checkKey e D t V).run P w = .ok () w
  | 0, _, _, _, _, _, _, _, h, _ => by simp [keyOk] at h
  | d + 1, 0, hd, _, _, _, _, _, _, _ => by omega
  | d + 1, D + 1, hd, e, t, v, V, w, h, hV => by
    simp only [keyOk] at h
    split at h
    · rename_i fs hu
      split at h
      · rename_i cs
        obtain ⟨L, hL, rfl⟩ := den_agg hV
        simp only [Instr.checkKey, Sem.run_bind, run_underlying hu, Result.andThen_ok]
        rw [← Array.forIn_toList]
        revert h
        generalize fs.toList = l
        intro h
        induction l with
        | nil => simp
        | cons f l ih =>
          simp only [List.all_cons, Bool.and_eq_true] at h
          obtain ⟨h1, h2⟩ := h
          split at h1
          · rename_i u hu'
            obtain ⟨U, u1, u2⟩ := xpart_ok hu' hL w
            have := keyOk_ok d D (by omega) e f.type u U w h1 u1
            simp only [List.forIn_cons, Sem.run_bind, Sem.run_ite, u2, Result.andThen_ok, this, Sem.run_pure, ite_self]
            exact ih h2
          · cases h1
      · cases h
    · rename_i dd _ hu
      cases dd <;> simp [basicD] at h <;> simp [Instr.checkKey, run_underlying hu]
    · cases h
def sel {α β : Type} (b : Bool) (f g : α → β) (a : α) : β :=
  match b with
  | true => f a
  | false => g a
def xfind (eq : SV → SV → Option BX) (k : SV) : List (SV × SV × Nat) → Nat → Asm → Option (List (Option (Nat × SV × SV × Nat) × Asm))
  | [], _, asm => some [(none, asm)]
  | (k', v, n) :: l, i, asm =>
    match eq k k' with
    | none => none
    | some (.lit true) => some [(some (i, k', v, n), asm)]
    | some (.lit false) => xfind eq k l (i + 1) asm
    | some c => xwalk (ways asm c) (fun asm' => some [(some (i, k', v, n), asm')]) (fun asm' => xfind eq k l (i + 1) asm')
where
  xwalk : List (Bool × Asm) → (Asm → Option (List (Option (Nat × SV × SV × Nat) × Asm))) → (Asm → Option (List (Option (Nat × SV × SV × Nat) × Asm))) → Option (List (Option (Nat × SV × SV × Nat) × Asm))
    | [], _, _ => some []
    | (b, asm') :: l, f, g =>
      match sel b f g asm', xwalk l f g with
      | some x, some y => some (x ++ y)
      | _, _ => none
theorem xwalk_ok {f g : Asm → Option (List (Option (Nat × SV × SV × Nat) × Asm))} : ∀ {l : List (Bool × Asm)} {outs : List (Option (Nat × SV × SV × Nat) × Asm)} {b : Bool} {asm' : Asm}, xfind.xwalk l f g = some outs → (b, asm') ∈ l →
    ∃ x, sel b f g asm' = some x ∧ ∀ y ∈ x, y ∈ outs
  | [], outs, b, asm', h, hm => by cases hm
  | (b0, a0) :: l, outs, b, asm', h, hm => by
    simp only [xfind.xwalk] at h
    split at h
    · rename_i x y hx hy
      cases h
      rcases List.mem_cons.1 hm with e | e
      · cases e
        exact ⟨x, hx, fun z hz => List.mem_append.2 (.inl hz)⟩
      · obtain ⟨x', h1, h2⟩ := xwalk_ok hy e
        exact ⟨x', h1, fun z hz => List.mem_append.2 (.inr (h2 z hz))⟩
    · cases h
/-- What a find tells: nothing, or the entry at that place. -/
def FoundAt (E : Env) (ents : List (SV × SV × Nat)) (es : List MapEntry) (i0 : Nat) : Option (Nat × SV × SV × Nat) → Option (Nat × Value) → Prop
  | none, none => True
  | some (i, k', v, n), some (j, V) => i = j ∧ i0 ≤ i ∧ ents[i - i0]? = some (k', v, n) ∧ ∃ e, es[i - i0]? = some e ∧ k'.den E = some e.key ∧ v.den E = some e.val ∧ e.born = n ∧ V = e.val
  | _, _ => False
theorem FoundAt.up {ents : List (SV × SV × Nat)} {es : List MapEntry} {x : SV × SV × Nat} {e : MapEntry} {i0 : Nat} {r : Option (Nat × SV × SV × Nat)} {R : Option (Nat × Value)} (h : FoundAt E ents es (i0 + 1) r R) : FoundAt E (x :: ents) (e :: es) i0 r R := by
  cases r with
  | none => cases R <;> simp_all [FoundAt]
  | some r =>
    obtain ⟨i, k', v, n⟩ := r
    cases R with
    | none => simp [FoundAt] at h
    | some R =>
      obtain ⟨j, V⟩ := R
      obtain ⟨h1, h2, h3, e', h4, h5⟩ := h
      have e1 : i - i0 = (i - (i0 + 1)) + 1 := by omega
      exact ⟨h1, by omega, by rw [e1]; simpa using h3, e', by rw [e1]; simpa using h4, h5⟩
theorem xfind_ok {eq : SV → SV → Option BX} {k : SV} {F : List MapEntry → Nat → Option (Nat × Value) → Prop}
    (h0 : ∀ i, F [] i none)
    (hyes : ∀ (k' : SV) (e : MapEntry) (es : List MapEntry) (i : Nat) (c : BX), eq k k' = some c → k'.den E = some e.key → c.den E = some true → F (e :: es) i (some (i, e.val)))
    (hno : ∀ (k' : SV) (e : MapEntry) (es : List MapEntry) (i : Nat) (c : BX) (R : Option (Nat × Value)), eq k k' = some c → k'.den E = some e.key → c.den E = some false → F es (i + 1) R → F (e :: es) i R)
    (htot : ∀ (k' : SV) (c : BX) (V : Value), eq k k' = some c → k'.den E = some V → ∃ b, c.den E = some b) :
    ∀ {ents : List (SV × SV × Nat)} {es : List MapEntry} {i : Nat} {asm : Asm} {outs : List (Option (Nat × SV × SV × Nat) × Asm)}, entsOk E ents es → AsmOk E asm → xfind eq k ents i asm = some outs →
      ∃ r asm' R, (r, asm') ∈ outs ∧ AsmOk E asm' ∧ F es i R ∧ FoundAt E ents es i r R
  | [], [], i, asm, outs, _, ha, h => by
    simp only [xfind, Option.some.injEq] at h; subst h
    exact ⟨none, asm, none, by simp, ha, h0 i, trivial⟩
  | [], _ :: _, _, _, _, he, _, _ => he.elim
  | (_, _, _) :: _, [], _, _, _, he, _, _ => he.elim
  | (k', v, n) :: l, e :: es, i, asm, outs, he, ha, h => by
    obtain ⟨e1, e2, e3, e4⟩ := he
    have here : FoundAt E ((k', v, n) :: l) (e :: es) i (some (i, k', v, n)) (some (i, e.val)) := ⟨rfl, Nat.le_refl _, by simp, e, by simp, e1, e2, e3, rfl⟩
    simp only [xfind] at h
    split at h
    · cases h
    · rename_i hc
      cases h
      exact ⟨_, asm, _, by simp, ha, hyes k' e es i _ hc e1 rfl, here⟩
    · rename_i hc
      obtain ⟨r, asm', R, h1, h2, h3, h4⟩ := xfind_ok h0 hyes hno htot e4 ha h
      exact ⟨r, asm', R, h1, h2, hno k' e es i _ R hc e1 rfl h3, h4.up⟩
    · rename_i c _ _ hc
      obtain ⟨b, hb⟩ := htot k' c _ hc e1
      obtain ⟨asm1, w1, w2⟩ := ways_ok ha hb
      obtain ⟨x, x1, x2⟩ := xwalk_ok h w1
      cases b with
      | true =>
        simp only [sel, Option.some.injEq] at x1
        subst x1
        exact ⟨_, asm1, _, x2 _ (by simp), w2, hyes k' e es i _ hc e1 hb, here⟩
      | false =>
        simp only [sel] at x1
        obtain ⟨r, asm', R, h1, h2, h3, h4⟩ := xfind_ok h0 hyes hno htot e4 w2 x1
        exact ⟨r, asm', R, x2 _ h1, h2, hno k' e es i _ R hc e1 hb h3, h4.up⟩
/-- The entry of a key: its place, in every way in which the tests may come out. -/
def xkey (P : Program) (kt : TypeId) (k : SV) (ents : List (SV × SV × Nat)) (asm : Asm) : Option (List (Option (Nat × SV × SV × Nat) × Asm)) :=
  match keyOk P 5 kt k with
  | true => xfind (eqv P 30 kt) k ents 0 asm
  | false => none
theorem sameNow_of {kt : TypeId} {dd : TypeDesc} (hu : P.underlying kt = some dd) (hb : basicD dd = true) {d : Nat} {k k' : SV} {c : BX} {K K' : Value} (h : eqv P (d + 1) kt k k' = some c) (hK : k.den E = some K) (hK' : k'.den E = some K') : ∃ b, c.den E = some b ∧ Instr.sameNow dd K K' = some b := by
  obtain ⟨b, h1, h2⟩ := eqv_ok (P := P) (d + 1) (d + 1) (Nat.le_refl _) kt k k' c K K' default h hK hK'
  refine ⟨b, h1, ?_⟩
  simp only [eqv, hu] at h
  cases dd <;> simp [basicD] at hb <;> simp only at h
  · split at h
    · obtain ⟨x, hx, rfl⟩ := den_bool hK
      obtain ⟨y, hy, rfl⟩ := den_bool hK'
      simp [Op.equalIn, run_underlying hu] at h2
      simp [Instr.sameNow, h2]
    · cases h
  · split at h
    · obtain ⟨x, hx, rfl⟩ := den_int hK
      obtain ⟨y, hy, rfl⟩ := den_int hK'
      split at h
      · rename_i e
        have e := of_decide_eq_true e
        subst e
        simp [Op.equalIn, run_underlying hu] at h2
        simp [Instr.sameNow, h2]
      · cases h
    · cases h
  · split at h
    · obtain ⟨x, hx, rfl⟩ := den_str hK
      obtain ⟨y, hy, rfl⟩ := den_str hK'
      simp [Op.equalIn, run_underlying hu] at h2
      simp [Instr.sameNow, h2]
    · cases h
theorem xkey_ok {kt : TypeId} {k : SV} {K : Value} (hK : k.den E = some K) {ents : List (SV × SV × Nat)} {es : List MapEntry} (he : entsOk E ents es) {asm : Asm} (ha : AsmOk E asm) {outs : List (Option (Nat × SV × SV × Nat) × Asm)} (h : xkey P kt k ents asm = some outs) (w : World) :
    (∀ b, (Instr.checkKey b 10000 kt K).run P w = .ok () w) ∧ ∃ r asm' R, (r, asm') ∈ outs ∧ AsmOk E asm' ∧ (Instr.findKey kt K es).run P w = .ok R w ∧ FoundAt E ents es 0 r R := by
  unfold xkey at h
  split at h
  · rename_i hko
    refine ⟨fun b => keyOk_ok 5 10000 (by omega) b kt k K w hko hK, ?_⟩
    have tot : ∀ (k' : SV) (c : BX) (V : Value), eqv P 30 kt k k' = some c → k'.den E = some V → ∃ b, c.den E = some b := fun k' c V h1 h2 => by
      obtain ⟨b, h3, -⟩ := eqv_ok (P := P) 30 30 (Nat.le_refl _) kt k k' c K V w h1 hK h2
      exact ⟨b, h3⟩
    simp only [keyOk] at hko
    split at hko
    · rename_i fs hu
      -- a struct: the keys are asked one by one
      have hnow : ∀ (e : MapEntry) (l : List MapEntry) (i : Nat), Instr.findNow (.struct fs) K (e :: l) i = none := fun e l i => by simp [Instr.findNow, Instr.sameNow]
      have key := xfind_ok (E := E) (F := fun es i R => (Instr.findAsking kt K es i).run P w = .ok R w) (eq := eqv P 30 kt) (k := k)
        (fun i => by simp [Instr.findAsking])
        (fun k' e es i c h1 h2 h3 => by
          obtain ⟨b, h4, h5⟩ := eqv_ok (P := P) 30 10000 (by omega) kt k k' c K e.key w h1 hK h2
          rw [h3] at h4; cases h4
          simp [Instr.findAsking, Op.equal, Op.maxDepth, h5])
        (fun k' e es i c R h1 h2 h3 h6 => by
          obtain ⟨b, h4, h5⟩ := eqv_ok (P := P) 30 10000 (by omega) kt k k' c K e.key w h1 hK h2
          rw [h3] at h4; cases h4
          simp [Instr.findAsking, Op.equal, Op.maxDepth, h5, h6]) tot he ha h
      obtain ⟨r, asm', R, h1, h2, h3, h4⟩ := key
      refine ⟨r, asm', R, h1, h2, ?_, h4⟩
      cases es with
      | nil =>
        simp [Instr.findAsking] at h3
        subst h3
        simp [Instr.findKey, run_underlying hu, Instr.findNow]
      | cons e es => simp [Instr.findKey, run_underlying hu, hnow, h3]
    · rename_i dd _ hu
      have key := xfind_ok (E := E) (F := fun es i R => Instr.findNow dd K es i = some R) (eq := eqv P 30 kt) (k := k)
        (fun i => by simp [Instr.findNow])
        (fun k' e es i c h1 h2 h3 => by
          obtain ⟨b, h4, h5⟩ := sameNow_of (d := 29) hu hko h1 hK h2
          rw [h3] at h4; cases h4
          simp [Instr.findNow, h5])
        (fun k' e es i c R h1 h2 h3 h6 => by
          obtain ⟨b, h4, h5⟩ := sameNow_of (d := 29) hu hko h1 hK h2
          rw [h3] at h4; cases h4
          simp [Instr.findNow, h5, h6]) tot he ha h
      obtain ⟨r, asm', R, h1, h2, h3, h4⟩ := key
      exact ⟨r, asm', R, h1, h2, by simp [Instr.findKey, run_underlying hu, h3], h4⟩
    · cases hko
  · cases h
def xlookupM (P : Program) (h : T SObj) (t : TypeId) (x k : SV) (ok : Bool) (asm : Asm) : Option (List (SV × Asm)) :=
  match P.underlying t with
  | some (.map kt et) =>
    match xzero P et, (match x with | .nilm => some [] | .map id => (match h.get id with | some (.map es _) => some es | _ => none) | _ => none) with
    | some z, some es => match xkey P kt k es asm with
      | some outs => some (outs.map fun (r, asm') => match r with
        | some (_, _, v, _) => ((match ok with | true => .tup [v, .bool (.lit true)] | false => v), asm')
        | none => ((match ok with | true => .tup [z, .bool (.lit false)] | false => z), asm'))
      | none => none
    | _, _ => none
  | _ => none
theorem xlookupM_ok (M : Mem E h w) {x k : SV} {ok : Bool} {asm : Asm} (ha : AsmOk E asm) {outs : List (SV × Asm)} (hv : xlookupM P h t x k ok asm = some outs) {X K : Value} (hX : x.den E = some X) (hK : k.den E = some K) :
    ∃ v asm' V, (v, asm') ∈ outs ∧ AsmOk E asm' ∧ v.den E = some V ∧ (Instr.lookup t X K ok).run P w = .ok V w := by
  unfold xlookupM at hv
  split at hv
  · rename_i kt et hu
    split at hv
    · rename_i z es hz hes
      split at hv
      · rename_i o1 ho
        cases hv
        obtain ⟨Z, z1, z2⟩ := run_zero hz (P := P) (E := E)
        have hes' : ∃ es', entsOk E es es' ∧ ((X = .map none ∧ es' = []) ∨ ∃ b ents cl, X = .map (some b) ∧ w.heap[b]? = some (.map ents cl) ∧ es' = ents.toList) := by
          split at hes
          · cases hes
            obtain rfl := den_nil0.2.2.1 hX
            exact ⟨[], trivial, .inl ⟨rfl, rfl⟩⟩
          · rename_i id
            split at hes
            · rename_i es0 cl hid
              cases hes
              obtain ⟨b, base, n, hb, rfl⟩ := den_map hX
              obtain ⟨b', base', n', hb', ents, h1, h2⟩ := M id _ hid rfl
              rw [hb] at hb'; cases hb'
              exact ⟨ents.toList, h2, .inr ⟨b, ents, cl, rfl, h1, rfl⟩⟩
            · cases hes
          · cases hes
        obtain ⟨es', e1, e2⟩ := hes'
        obtain ⟨hck, r, asm', R, r1, r2, r3, r4⟩ := xkey_ok (P := P) hK e1 ha ho w
        have hrun : (Instr.lookup t X K ok).run P w = .ok (match R with | some (_, v) => (if ok then .tuple #[v, .bool true] else v) | none => (if ok then .tuple #[Z, .bool false] else Z)) w := by
          rcases e2 with ⟨rfl, rfl⟩ | ⟨b, ents, cl, rfl, h1, rfl⟩
          · simp only [Instr.lookup, Sem.run_bind, run_underlying hu, Result.andThen_ok, Sem.run_pure, hck, r3]
            cases R with
            | none => simp [z2]
            | some R => simp
          · have hg : (getObj b).run P w = .ok (.map ents cl) w := by simp [getObj, Sem.run, h1]
            simp only [Instr.lookup, Sem.run_bind, run_underlying hu, Result.andThen_ok, Sem.run_pure, hg, hck, r3]
            cases R with
            | none => simp [z2]
            | some R => simp
        rw [hrun]
        cases r with
        | none =>
          cases R with
          | some R => simp [FoundAt] at r4
          | none =>
            cases ok with
            | true => exact ⟨.tup [z, .bool (.lit false)], asm', _, List.mem_map.2 ⟨_, r1, rfl⟩, r2, by simp [SV.den, SV.denL, z1, BX.den], rfl⟩
            | false => exact ⟨z, asm', _, List.mem_map.2 ⟨_, r1, rfl⟩, r2, z1, rfl⟩
        | some r =>
          obtain ⟨i, k', v, n⟩ := r
          cases R with
          | none => simp [FoundAt] at r4
          | some R =>
            obtain ⟨j, V⟩ := R
            obtain ⟨-, -, -, e, -, -, h5, -, rfl⟩ := r4
            cases ok with
            | true => exact ⟨.tup [v, .bool (.lit true)], asm', _, List.mem_map.2 ⟨_, r1, rfl⟩, r2, by simp [SV.den, SV.denL, h5, BX.den], rfl⟩
            | false => exact ⟨v, asm', _, List.mem_map.2 ⟨_, r1, rfl⟩, r2, h5, rfl⟩
      · cases hv
    · cases hv
  · cases hv

/-! ### a map whose order is not known -/
def isLit : Option BX → Bool
  | some (.lit _) => true
  | _ => false
def isYes : Option BX → Bool
  | some (.lit b) => b
  | _ => false
/-- All tests come out, whatever is assumed. -/
def litAll (eq : SV → SV → Option BX) (k : SV) (l : List (SV × SV)) : Bool := l.all fun e => isLit (eq k e.1)
def hits (eq : SV → SV → Option BX) (k : SV) (l : List (SV × SV)) : List (SV × SV) := l.filter fun e => isYes (eq k e.1)
theorem xfind_lits {eq : SV → SV → Option BX} {k : SV} {asm : Asm} : ∀ {ents : List (SV × SV × Nat)} {i : Nat}, litAll eq k (ents.map pairOf) = true →
    (xfind eq k ents i asm = some [(none, asm)] ∧ hits eq k (ents.map pairOf) = []) ∨ ∃ j k' v n, xfind eq k ents i asm = some [(some (j, k', v, n), asm)] ∧ (k', v) ∈ hits eq k (ents.map pairOf)
  | [], i, _ => .inl ⟨rfl, rfl⟩
  | (k', v, n) :: l, i, h => by
    simp only [litAll, List.map_cons, List.all_cons, Bool.and_eq_true, pairOf] at h
    obtain ⟨h1, h2⟩ := h
    simp only [xfind, hits, List.map_cons, List.filter_cons, pairOf]
    cases hc : eq k k' with
    | none => rw [hc] at h1; cases h1
    | some c =>
      cases c with
      | lit b =>
        cases b with
        | true => exact .inr ⟨i, k', v, n, rfl, by simp [isYes]⟩
        | false =>
          rcases xfind_lits (i := i + 1) h2 with ⟨h3, h4⟩ | ⟨j, k2, v2, n2, h3, h4⟩
          · exact .inl ⟨h3, by simpa [isYes, hits] using h4⟩
          · exact .inr ⟨j, k2, v2, n2, h3, by simpa [isYes, hits] using h4⟩
      | _ => rw [hc] at h1; cases h1
/-- The one entry of a key. -/
def ukey (P : Program) (kt : TypeId) (k : SV) (l : List (SV × SV)) : Option (Option (SV × SV)) :=
  match keyOk P 5 kt k && litAll (eqv P 30 kt) k l with
  | true => match hits (eqv P 30 kt) k l with
    | [] => some none
    | [e] => some (some e)
    | _ => none
  | false => none
theorem ukey_ok {kt : TypeId} {k : SV} {K : Value} (hK : k.den E = some K) {l : List (SV × SV)} {ents : List (SV × SV × Nat)} (hp : (ents.map pairOf).Perm l) {es : List MapEntry} (he : entsOk E ents es) {r : Option (SV × SV)} (h : ukey P kt k l = some r) (w : World) :
    (∀ b, (Instr.checkKey b 10000 kt K).run P w = .ok () w) ∧ ∃ R, (Instr.findKey kt K es).run P w = .ok R w ∧ match r, R with
      | none, none => True
      | some e, some (_, V) => e.2.den E = some V
      | _, _ => False := by
  unfold ukey at h
  split at h
  · rename_i hc
    simp only [Bool.and_eq_true] at hc
    have hlit : litAll (eqv P 30 kt) k (ents.map pairOf) = true := by
      simp only [litAll, List.all_eq_true] at hc ⊢
      exact fun e he => hc.2 e (hp.mem_iff.1 he)
    have hhit : (hits (eqv P 30 kt) k (ents.map pairOf)).Perm (hits (eqv P 30 kt) k l) := hp.filter _
    have hx : ∀ x, xfind (eqv P 30 kt) k ents 0 ([] : Asm) = some x → xkey P kt k ents [] = some x := fun x hx => by simp only [xkey, hc.1]; exact hx
    rcases xfind_lits (asm := []) (i := 0) hlit with ⟨h3, h4⟩ | ⟨j, k2, v2, n2, h3, h4⟩
    · obtain ⟨hck, r', asm', R, r1, r2, r3, r4⟩ := xkey_ok (P := P) hK he (fun c v hm => by cases hm) (hx _ h3) w
      refine ⟨hck, R, r3, ?_⟩
      rw [h4] at hhit
      rw [hhit.nil_eq.symm] at h
      cases h
      simp only [List.mem_singleton, Prod.mk.injEq] at r1
      rw [r1.1] at r4
      cases R with
      | none => trivial
      | some R => simp [FoundAt] at r4
    · obtain ⟨hck, r', asm', R, r1, r2, r3, r4⟩ := xkey_ok (P := P) hK he (fun c v hm => by cases hm) (hx _ h3) w
      refine ⟨hck, R, r3, ?_⟩
      have h5 := hhit.mem_iff.1 h4
      simp only [List.mem_singleton, Prod.mk.injEq] at r1
      rw [r1.1] at r4
      cases R with
      | none => simp [FoundAt] at r4
      | some R =>
        obtain ⟨j', V⟩ := R
        obtain ⟨-, -, -, e, -, -, h6, -, rfl⟩ := r4
        split at h
        · rename_i hh; rw [hh] at h5; cases h5
        · rename_i e' hh
          cases h
          rw [hh] at h5
          simp only [List.mem_singleton] at h5
          subst h5
          exact h6
        · cases h
  · cases h
def xlookupU (P : Program) (t : TypeId) (l : List (SV × SV)) (k : SV) (ok : Bool) (asm : Asm) : Option (List (SV × Asm)) :=
  match P.underlying t with
  | some (.map kt et) => match xzero P et, ukey P kt k l with
    | some z, some r => some [((match r with
      | some e => (match ok with | true => .tup [e.2, .bool (.lit true)] | false => e.2)
      | none => (match ok with | true => .tup [z, .bool (.lit false)] | false => z)), asm)]
    | _, _ => none
  | _ => none
theorem xlookupU_ok {b : Nat} {ents : Array MapEntry} {cl : Nat} (h1 : w.heap[b]? = some (.map ents cl)) {l : List (SV × SV)} {el : List (SV × SV × Nat)} (hp : (el.map pairOf).Perm l) (he : entsOk E el ents.toList) {k : SV} {ok : Bool} {asm : Asm} (ha : AsmOk E asm) {outs : List (SV × Asm)} (hv : xlookupU P t l k ok asm = some outs) {K : Value} (hK : k.den E = some K) :
    ∃ v asm' V, (v, asm') ∈ outs ∧ AsmOk E asm' ∧ v.den E = some V ∧ (Instr.lookup t (.map (some b)) K ok).run P w = .ok V w := by
  unfold xlookupU at hv
  split at hv
  · rename_i kt et hu
    split at hv
    · rename_i z r hz hr
      cases hv
      obtain ⟨Z, z1, z2⟩ := run_zero hz (P := P) (E := E)
      obtain ⟨hck, R, r3, r4⟩ := ukey_ok (P := P) hK hp he hr w
      have hg : (getObj b).run P w = .ok (.map ents cl) w := by simp [getObj, Sem.run, h1]
      have hrun : (Instr.lookup t (.map (some b)) K ok).run P w = .ok (match R with | some (_, v) => (if ok then .tuple #[v, .bool true] else v) | none => (if ok then .tuple #[Z, .bool false] else Z)) w := by
        simp only [Instr.lookup, Sem.run_bind, run_underlying hu, Result.andThen_ok, Sem.run_pure, hg, hck, r3]
        cases R with
        | none => simp [z2]
        | some R => simp
      rw [hrun]
      cases r with
      | none =>
        cases R with
        | some R => simp at r4
        | none =>
          cases ok with
          | true => exact ⟨_, asm, _, List.mem_singleton.2 rfl, ha, by simp [SV.den, SV.denL, z1, BX.den], rfl⟩
          | false => exact ⟨_, asm, _, List.mem_singleton.2 rfl, ha, z1, rfl⟩
      | some e =>
        cases R with
        | none => simp at r4
        | some R =>
          obtain ⟨j, V⟩ := R
          simp only at r4
          cases ok with
          | true => exact ⟨_, asm, _, List.mem_singleton.2 rfl, ha, by simp [SV.den, SV.denL, r4, BX.den], rfl⟩
          | false => exact ⟨_, asm, _, List.mem_singleton.2 rfl, ha, r4, rfl⟩
    · cases hv
  · cases hv
def umapOf (h : T SObj) (x : SV) : Option (List (SV × SV)) :=
  match x with
  | .map id => match h.get id with
    | some (.umap l) => some l
    | _ => none
  | _ => none
def xlookup (P : Program) (h : T SObj) (t : TypeId) (x k : SV) (ok : Bool) (asm : Asm) : Option (List (SV × Asm)) :=
  match umapOf h x with
  | some l => xlookupU P t l k ok asm
  | none => xlookupM P h t x k ok asm
theorem xlookup_ok (M : Mem E h w) {x k : SV} {ok : Bool} {asm : Asm} (ha : AsmOk E asm) {outs : List (SV × Asm)} (hv : xlookup P h t x k ok asm = some outs) {X K : Value} (hX : x.den E = some X) (hK : k.den E = some K) :
    ∃ v asm' V, (v, asm') ∈ outs ∧ AsmOk E asm' ∧ v.den E = some V ∧ (Instr.lookup t X K ok).run P w = .ok V w := by
  unfold xlookup at hv
  split at hv
  · rename_i l hl
    unfold umapOf at hl
    split at hl
    · rename_i id
      split at hl
      · rename_i l' hid
        cases hl
        obtain ⟨b, base, n, hb, rfl⟩ := den_map hX
        obtain ⟨b', base', n', hb', es, cl, el, h1, h2, h3⟩ := M id _ hid rfl
        rw [hb] at hb'; cases hb'
        exact xlookupU_ok h1 h2 h3 ha hv hK
      · cases hl
    · cases hl
  · exact xlookupM_ok M ha hv hX hK

/-! ### interface values -/
def xassert (P : Program) (x : SV) (xt t : TypeId) (ok : Bool) : Option SV :=
  match P.underlying t, x with
  | some (.interface want), .iface d v => match P.info? d with
    | some i => match Instr.missingMethod want i.methods with
      | none => some (match ok with | true => .tup [.iface d v, .bool (.lit true)] | false => .iface d v)
      | some _ => match ok, xzero P t with
        | true, some z => some (.tup [z, .bool (.lit false)])
        | _, _ => none
    | none => none
  | some (.interface _), .nili => match ok, xzero P t with
    | true, some z => some (.tup [z, .bool (.lit false)])
    | _, _ => none
  | some _, .iface d v => match Nat.beq d t with
    | true => some (match ok with | true => .tup [v, .bool (.lit true)] | false => v)
    | false => match ok, xzero P t with
      | true, some z => some (.tup [z, .bool (.lit false)])
      | _, _ => none
  | some _, .nili => match ok, xzero P t with
    | true, some z => some (.tup [z, .bool (.lit false)])
    | _, _ => none
  | _, _ => none
theorem xassert_ok {x v : SV} {xt : TypeId} {ok : Bool} (hv : xassert P x xt t ok = some v) {X : Value} (hX : x.den E = some X) (w : World) : ∃ V, v.den E = some V ∧ (Instr.typeAssert X xt t ok).run P w = .ok V w := by
  unfold xassert at hv
  split at hv
  · rename_i want d u hu
    obtain ⟨U, u1, rfl⟩ := den_iface hX
    split at hv
    · rename_i i hi
      split at hv
      · rename_i hm
        cases hv
        cases ok with
        | true => exact ⟨.tuple #[.iface d U, .bool true], by simp [SV.den, SV.denL, u1, BX.den], by simp [Instr.typeAssert, run_underlying hu, run_info hi, hm]⟩
        | false => exact ⟨.iface d U, by simp [SV.den, u1], by simp [Instr.typeAssert, run_underlying hu, run_info hi, hm]⟩
      · rename_i hm
        split at hv
        · rename_i z hz
          cases hv
          obtain ⟨Z, z1, z2⟩ := run_zero hz (P := P) (E := E)
          exact ⟨.tuple #[Z, .bool false], by simp [SV.den, SV.denL, z1, BX.den], by simp [Instr.typeAssert, run_underlying hu, run_info hi, hm, z2]⟩
        · cases hv
    · cases hv
  · rename_i ms hu
    obtain rfl := den_nil0.2.2.2.2 hX
    split at hv
    · rename_i z hz
      cases hv
      obtain ⟨Z, z1, z2⟩ := run_zero hz (P := P) (E := E)
      exact ⟨.tuple #[Z, .bool false], by simp [SV.den, SV.denL, z1, BX.den], by simp [Instr.typeAssert, run_underlying hu, z2]⟩
    · cases hv
  · rename_i dd d u hni hu
    obtain ⟨U, u1, rfl⟩ := den_iface hX
    split at hv
    · rename_i e
      have e := Nat.eq_of_beq_eq_true e
      subst e
      cases hv
      cases ok with
      | true => exact ⟨.tuple #[U, .bool true], by simp [SV.den, SV.denL, u1, BX.den], by cases dd <;> first | (exfalso; exact hni _ rfl) | simp [Instr.typeAssert, run_underlying hu]⟩
      | false => exact ⟨U, u1, by cases dd <;> first | (exfalso; exact hni _ rfl) | simp [Instr.typeAssert, run_underlying hu]⟩
    · rename_i e
      have e := Nat.ne_of_beq_eq_false e
      split at hv
      · rename_i z hz
        cases hv
        obtain ⟨Z, z1, z2⟩ := run_zero hz (P := P) (E := E)
        exact ⟨.tuple #[Z, .bool false], by simp [SV.den, SV.denL, z1, BX.den], by cases dd <;> first | (exfalso; exact hni _ rfl) | simp [Instr.typeAssert, run_underlying hu, e, z2]⟩
      · cases hv
  · rename_i dd hni hu
    obtain rfl := den_nil0.2.2.2.2 hX
    split at hv
    · rename_i z hz
      cases hv
      obtain ⟨Z, z1, z2⟩ := run_zero hz (P := P) (E := E)
      exact ⟨.tuple #[Z, .bool false], by simp [SV.den, SV.denL, z1, BX.den], by cases dd <;> simp [Instr.typeAssert, run_underlying hu, z2]⟩
    · cases hv
  · cases hv
end
end Go.Sx
