/-
  A symbolic run of Go functions by computation (part 10): slices and maps that are made and written, ranges.
-/
import Derived.Test.YtkckgjjhnjcffaaSx9
namespace Go.Sx
set_option linter.unusedVariables false
set_option linter.unusedSimpArgs false

section
variable {P : Program} {w0 w : World} {E : Env} {s : St}
/-! ### slices that are made -/
def chunks (es : Nat) : Nat → List SV → List (List SV)
  | 0, _ => []
  | n + 1, l => l.take es :: chunks es n (l.drop es)
theorem chunks_ok {es : Nat} : ∀ {n : Nat} {l : List SV}, l.length = n * es → (chunks es n l).flatten = l ∧ rowsLen es (chunks es n l) = true ∧ (chunks es n l).length = n
  | 0, l, h => by
    have : l = [] := by simpa using h
    subst this
    exact ⟨rfl, rfl, rfl⟩
  | n + 1, l, h => by
    rw [Nat.succ_mul] at h
    obtain ⟨h1, h2, h3⟩ := chunks_ok (es := es) (n := n) (l := l.drop es) (by simp; omega)
    refine ⟨by simp [chunks, h1], ?_, by simp [chunks, h3]⟩
    simp only [chunks, rowsLen, List.all_cons, Bool.and_eq_true]
    exact ⟨by rw [Nat.beq_eq]; simp; omega, h2⟩
theorem denL_map {ι : Type} {f : ι → SV} {g : ι → Value} : ∀ {l : List ι}, (∀ i ∈ l, (f i).den E = some (g i)) → SV.denL E (l.map f) = some (l.map g)
  | [], _ => rfl
  | i :: l, h => denL_cons (h i (by simp)) (denL_map fun j hj => h j (by simp [hj]))
/-- So many zero elements, cell by cell. -/
def zerosL (zc : List SV) (n : Nat) : List SV := (List.range n).map fun i => (zc[i % zc.length]?).getD default
theorem zerosL_ok {zc : List SV} {Z : List Value} (hZ : SV.denL E zc = some Z) {n : Nat} (h0 : n = 0 ∨ 0 < zc.length) : SV.denL E (zerosL zc n) = some ((List.range n).map fun i => Z.toArray[i % Z.toArray.size]!) := by
  unfold zerosL
  refine denL_map fun i hi => ?_
  have hl := denL_length hZ
  have hn : 0 < zc.length := by
    rcases h0 with h0 | h0
    · subst h0; simp at hi
    · exact h0
  have hlt : i % zc.length < zc.length := Nat.mod_lt _ hn
  have hlt2 : i % zc.length < Z.length := by omega
  obtain ⟨V, h1, h2⟩ := denL_get hZ (List.getElem?_eq_getElem hlt)
  rw [List.getElem?_eq_getElem hlt]
  simp only [Option.getD_some]
  rw [h2]
  congr 1
  rw [List.getElem?_eq_getElem hlt2] at h1
  simp only [List.size_toArray, hl]
  rw [getElem!_pos _ _ (by simpa using hlt2)]
  simpa using h1.symm
/-- A new array of rows. -/
def newRows (s : St) (rows : List (List SV)) (es : Nat) (ty : TypeId) : St :=
  { s with h := s.h.put s.next (.cells (mkRows rows 0 .nil) rows.length es ty false false), next := s.next + 1 }
theorem newRows_ok (R : Rel w0 E s w) {rows : List (List SV)} {es : Nat} (hr : rowsLen es rows = true) {L : List Value} (hL : SV.denL E rows.flatten = some L) (ty : TypeId) :
    ∃ E', E.Le E' ∧ Rel w0 E' (newRows s rows es ty) (w.alloc (.cells L.toArray ty (0, 0))) ∧ E'.blk s.next = some (w.heap.size, 0, rows.length * es) := by
  have le := R.le_new w.heap.size 0 (rows.length * es)
  have hl := denL_length hL
  rw [flat_length hr] at hl
  refine ⟨_, le, R.alloc _ _ ⟨L.toArray, (0, 0), rfl, fun _ => rfl, by simp [hl], Nat.le_refl _, fun _ => ⟨rfl, rfl⟩, ?_⟩, E.add_new _ _ _ _⟩
  have := rowsOk_extend (E := E.add s.next w.heap.size 0 (rows.length * es)) (es := es) (R0 := .nil) (len := 0) (base0 := 0) (base1 := 0) (cs := #[]) (cs' := L.toArray) rowsOk_nil hr (SV.monoL le hL) (fun k hk => by omega) (fun j V hj => by simpa using hj)
  simpa using this
def xbuildSlice (P : Program) (s : St) (a : SAct) (t : TypeId) (len : Nat) (parts : Array (Nat × Operand)) : Option (List (SV × St)) :=
  match P.underlying t with
  | some (.slice elem) =>
    match szOf P elem, xzero P elem, xparts a parts.toList with
    | some es, some z, some ps =>
      match Nat.blt 0 es && (Nat.beq (cellsOf z).length es && Nat.ble (len * es) (2 ^ 24)), xfill (fun i => some (i * es, es)) (zerosL (cellsOf z) (len * es)) ps with
      | true, some cs => match Nat.beq cs.length (len * es) with
        | true => some [(.slc s.next 0 len (some len) es, newRows s (chunks es len cs) es elem)]
        | false => none
      | _, _ => none
    | _, _, _ => none
  | _ => none
theorem xbuildSlice_ok (R : Rel w0 E s w) {a : SAct} {A : Act} (hA : ActRel E a A) {t : TypeId} {len : Nat} {parts : Array (Nat × Operand)} {outs : List (SV × St)} (h : xbuildSlice P s a t len parts = some outs) {o : Oper} (ho : o.op = .buildSlice t len parts) : EffOk P w0 E A o w outs := by
  unfold xbuildSlice at h
  split at h
  · rename_i elem hu
    split at h
    · rename_i es z ps hes hz hps
      split at h
      · rename_i cs hc hfill
        simp only [Bool.and_eq_true] at hc
        obtain ⟨q1, q2, q3⟩ := hc
        have q1 : 0 < es := by simpa [Nat.blt_eq] using q1
        have q2 := Nat.eq_of_beq_eq_true q2
        have q3 := Nat.le_of_ble_eq_true q3
        split at h
        · rename_i hl
          have hl := Nat.eq_of_beq_eq_true hl
          cases h
          obtain ⟨Z, z1, z2⟩ := run_zero hz (P := P) (E := E)
          obtain ⟨Zc, zc1, zc2⟩ := cellsOf_ok z1
          obtain ⟨p1, p2⟩ := xparts_ok hA hps
          obtain ⟨M, m1, m2⟩ := xfill_ok hfill (zerosL_ok zc1 (.inr (by omega))) p1 p2
          obtain ⟨c1, c2, c3⟩ := chunks_ok hl
          obtain ⟨E', e1, e2, e3⟩ := newRows_ok R c2 (by rw [c1]; exact m1) elem
          refine ⟨_, _, E', _, _, List.mem_singleton.2 rfl, e1, e2, den_slc_mk e3, .inl ?_⟩
          have hmap : (parts.map fun (i, x) => (i, A.eval x)).toList = parts.toList.map fun (i, x) => (i, A.eval x) := by simp
          have hq : ¬ len * es > 2 ^ 24 := by omega
          have hrange : ∀ zero : Array Value, (len * es = 0 ∨ zero = Zc.toArray) → ((Array.range (len * es)).map fun i => zero[i % zero.size]!) = ((List.range (len * es)).map fun i => Zc.toArray[i % Zc.toArray.size]!).toArray := by
            rintro zero (e | rfl)
            · rw [e]; simp
            · apply Array.ext'
              simp [Array.toList_range]
          have hmap2 : (Array.map (fun x : Nat × Operand => (x.fst, A.eval x.snd)) parts).toList = parts.toList.map fun (i, x) => (i, A.eval x) := by simp
          by_cases e : len * es = 0
          · simp only [execOp, ho, Instr.buildSlice, Sem.run_bind, run_underlying hu, Result.andThen_ok, run_size hes, if_neg hq, if_pos e, Sem.run_pure]
            rw [hrange #[] (.inl e), hmap2, m2]
            simp only [newRow, run_newObj, Sem.run_bind, Sem.run_pure, Result.andThen_ok, Nat.zero_add, capOf]
            rfl
          · simp only [execOp, ho, Instr.buildSlice, Sem.run_bind, run_underlying hu, Result.andThen_ok, run_size hes, if_neg hq, if_neg e, z2, zc2, Sem.run_pure]
            rw [hrange Zc.toArray (.inr rfl), hmap2, m2]
            simp only [newRow, run_newObj, Sem.run_bind, Sem.run_pure, Result.andThen_ok, Nat.zero_add, capOf]
            rfl
        · cases h
      · cases h
    · cases h
  · cases h
def xmakeSlice (P : Program) (s : St) (t : TypeId) (l c : SV) : Option (List (SV × St)) :=
  match P.underlying t, natSV l, natSV c with
  | some (.slice elem), some len, some cap =>
    match szOf P elem, bytesOf P elem, xzero P elem with
    | some es, some bytes, some z =>
      match Nat.blt 0 es && (Nat.beq (cellsOf z).length es && (Nat.ble (bytes * cap) 281474976710656 && (Nat.ble len cap && Nat.ble cap 9223372036854775807))) with
      | true => some [(.slc s.next 0 len (some cap) es, newRows s (chunks es cap (zerosL (cellsOf z) (cap * es))) es elem)]
      | false => none
    | _, _, _ => none
  | _, _, _ => none
theorem wrap_nat {n : Nat} (h : n ≤ 9223372036854775807) : IntKind.i64.wrap (n : Int) = n := by
  unfold IntKind.wrap
  have e1 : (IntKind.i64.bits) = 64 := rfl
  have e2 : IntKind.i64.signed = true := rfl
  simp only [e1, e2, Bool.true_and]
  have : (n : Int) % (2 ^ 64 : Int) = n := by omega
  rw [this]
  split
  · rename_i h2
    simp at h2
    omega
  · rfl
theorem xmakeSlice_ok (R : Rel w0 E s w) {t : TypeId} {l c : SV} {outs : List (SV × St)} (h : xmakeSlice P s t l c = some outs) {A : Act} {o : Oper} {x y : Operand} (hl : l.den E = some (A.eval x)) (hc : c.den E = some (A.eval y)) (ho : o.op = .makeSlice t x y) : EffOk P w0 E A o w outs := by
  unfold xmakeSlice at h
  split at h
  · rename_i elem len cap hu hlen hcap
    split at h
    · rename_i es bytes z hes hby hz
      split at h
      · rename_i hq
        simp only [Bool.and_eq_true] at hq
        obtain ⟨q1, q2, q3, q4, q5⟩ := hq
        have q1 : 0 < es := by simpa [Nat.blt_eq] using q1
        have q2 := Nat.eq_of_beq_eq_true q2
        have q3 := Nat.le_of_ble_eq_true q3
        have q4 := Nat.le_of_ble_eq_true q4
        have q5 := Nat.le_of_ble_eq_true q5
        cases h
        obtain ⟨k1, hX⟩ := natSV_ok hlen hl
        obtain ⟨k2, hY⟩ := natSV_ok hcap hc
        have hb : ∃ inf, P.info? elem = some inf ∧ inf.bytes = bytes := by
          unfold bytesOf at hby
          split at hby
          · rename_i i hi; cases hby; exact ⟨i, hi, rfl⟩
          · cases hby
        obtain ⟨inf, hi, hbytes⟩ := hb
        obtain ⟨Z, z1, z2⟩ := run_zero hz (P := P) (E := E)
        obtain ⟨Zc, zc1, zc2⟩ := cellsOf_ok z1
        have hzl := zerosL_ok zc1 (n := cap * es) (.inr (by omega))
        have hlz : (zerosL (cellsOf z) (cap * es)).length = cap * es := by simp [zerosL]
        obtain ⟨c1, c2, c3⟩ := chunks_ok hlz
        obtain ⟨E', e1, e2, e3⟩ := newRows_ok R c2 (by rw [c1]; exact hzl) elem
        refine ⟨_, _, E', _, _, List.mem_singleton.2 rfl, e1, e2, den_slc_mk e3, .inl ?_⟩
        have w1 := wrap_nat (n := len) (by omega)
        have w2 := wrap_nat (n := cap) q5
        have t1 : ¬ ((cap : Int) < 0) := by omega
        have t2 : ¬ ((inf.bytes : Int) * (cap : Int) > 2 ^ 48) := by
          rw [hbytes]
          have h5 : ((bytes * cap : Nat) : Int) ≤ 281474976710656 := Int.ofNat_le.2 q3
          rw [Int.natCast_mul] at h5
          have h6 : (2 : Int) ^ 48 = 281474976710656 := by decide
          rw [h6]
          omega
        have t3 : ¬ ((len : Int) < 0) := by omega
        have t4 : ¬ ((len : Int) > (cap : Int)) := by omega
        have hrange : ∀ zero : Array Value, (cap * es = 0 ∨ zero = Zc.toArray) → ((Array.range (cap * es)).map fun i => zero[i % zero.size]!) = ((List.range (cap * es)).map fun i => Zc.toArray[i % Zc.toArray.size]!).toArray := by
          rintro zero (e | rfl)
          · rw [e]; simp
          · apply Array.ext'
            simp [Array.toList_range]
        by_cases e : cap * es = 0
        · simp only [execOp, ho, hX, hY, Instr.makeSlice, Sem.run_bind, run_underlying hu, Result.andThen_ok, asInt, asIntOf, Sem.run_pure, run_info hi, w1, w2, t1, t2, t3, t4, decide_false, Bool.or_false, Bool.false_eq_true, if_false, run_askRoom, Int.toNat_natCast, run_size hes, or_self, if_pos e]
          rw [hrange #[] (.inl e)]
          simp only [newRow, run_newObj, Sem.run_bind, Sem.run_pure, Result.andThen_ok, Nat.zero_add, capOf]
          rfl
        · simp only [execOp, ho, hX, hY, Instr.makeSlice, Sem.run_bind, run_underlying hu, Result.andThen_ok, asInt, asIntOf, Sem.run_pure, run_info hi, w1, w2, t1, t2, t3, t4, decide_false, Bool.or_false, Bool.false_eq_true, if_false, run_askRoom, Int.toNat_natCast, run_size hes, or_self, if_neg e, z2, zc2]
          rw [hrange Zc.toArray (.inr rfl)]
          simp only [newRow, run_newObj, Sem.run_bind, Sem.run_pure, Result.andThen_ok, Nat.zero_add, capOf]
          rfl
      · cases h
    · cases h
  · cases h

/-! ### maps that are made and written -/
def xmakeMap (P : Program) (s : St) (t : TypeId) (r : Option Nat) (had : Bool) : Option (List (SV × St)) :=
  match P.underlying t with
  | some (.map _ _) => some [(.map s.next, { s with h := s.h.put s.next (.map [] 0), next := s.next + 1 })]
  | _ => none
theorem xmakeMap_ok (R : Rel w0 E s w) {t : TypeId} {rs : Option Nat} {had : Bool} {outs : List (SV × St)} (h : xmakeMap P s t rs had = some outs) {A : Act} {o : Oper} {r : Option Operand} (hr : IsNat (r.map A.eval) rs) (ho : o.op = .makeMap t r) : EffOk P w0 E A o w outs := by
  unfold xmakeMap at h
  split at h
  · rename_i kt et hu
    cases h
    have le := R.le_new w.heap.size 0 0
    refine ⟨.map s.next, _, _, .map (some w.heap.size), _, List.mem_singleton.2 rfl, le, R.alloc (.map #[] 0) 0 (so := .map [] 0) ⟨#[], rfl, trivial⟩, by simp [SV.den, Env.add_new], .inl ?_⟩
    cases r with
    | none => simp only [execOp, ho, Instr.makeMap, Option.map_none, Sem.run_bind, Sem.run_pure, Result.andThen_ok, run_newObj]; rfl
    | some x =>
      simp only [Option.map_some] at hr
      generalize hX : A.eval x = X at hr
      cases hr with
      | some k n => simp only [execOp, ho, Instr.makeMap, Option.map_some, hX, Sem.run_bind, run_underlying hu, asInt, asIntOf, Sem.run_pure, Result.andThen_ok, run_newObj]; rfl
  · cases h
theorem Rel.setAsm (R : Rel w0 E s w) {asm : Asm} (h : AsmOk E asm) : Rel w0 E { s with asm := asm } w :=
  ⟨R.os, R.tape, R.output, R.size, R.frame, R.mem, R.fresh, R.new, R.inj, h, R.rsv⟩
theorem entsOk_get : ∀ {l : List (SV × SV × Nat)} {m : List MapEntry} {i : Nat} {k v : SV} {n : Nat}, entsOk E l m → l[i]? = some (k, v, n) → ∃ e, m[i]? = some e ∧ k.den E = some e.key ∧ v.den E = some e.val ∧ e.born = n
  | [], [], i, k, v, n, _, h => by simp at h
  | [], _ :: _, _, _, _, _, h, _ => h.elim
  | (_, _, _) :: _, [], _, _, _, _, h, _ => h.elim
  | (k0, v0, n0) :: l, e :: m, 0, k, v, n, h, hi => by simp at hi; obtain ⟨rfl, rfl, rfl⟩ := hi; exact ⟨e, by simp, h.1, h.2.1, h.2.2.1⟩
  | (k0, v0, n0) :: l, e :: m, i + 1, k, v, n, h, hi => by
    simp at hi
    obtain ⟨e', h1, h2⟩ := entsOk_get h.2.2.2 hi
    exact ⟨e', by simpa using h1, h2⟩
theorem entsOk_set : ∀ {l : List (SV × SV × Nat)} {m : List MapEntry} {i : Nat} {k v k' v' : SV} {n : Nat} {f : MapEntry → MapEntry}, entsOk E l m → l[i]? = some (k, v, n) → (∀ e, m[i]? = some e → k'.den E = some (f e).key ∧ v'.den E = some (f e).val ∧ (f e).born = n) → entsOk E (l.set i (k', v', n)) (m.modify i f)
  | [], [], i, k, v, k', v', n, f, _, h, _ => by simp at h
  | [], _ :: _, _, _, _, _, _, _, _, h, _, _ => h.elim
  | (_, _, _) :: _, [], _, _, _, _, _, _, _, h, _, _ => h.elim
  | (k0, v0, n0) :: l, e :: m, 0, k, v, k', v', n, f, h, hi, hf => by
    obtain ⟨h1, h2, h3⟩ := hf e (by simp)
    exact ⟨h1, h2, h3, h.2.2.2⟩
  | (k0, v0, n0) :: l, e :: m, i + 1, k, v, k', v', n, f, h, hi, hf => by
    refine ⟨h.1, h.2.1, h.2.2.1, ?_⟩
    exact entsOk_set h.2.2.2 (by simpa using hi) (fun e he => hf e (by simpa using he))
theorem entsOk_push : ∀ {l : List (SV × SV × Nat)} {m : List MapEntry} {k v : SV} {K V : Value} {n : Nat}, entsOk E l m → k.den E = some K → v.den E = some V → entsOk E (l ++ [(k, v, n)]) (m ++ [{ key := K, val := V, born := n }])
  | [], [], _, _, _, _, _, _, h1, h2 => ⟨h1, h2, rfl, trivial⟩
  | [], _ :: _, _, _, _, _, _, h, _, _ => h.elim
  | (_, _, _) :: _, [], _, _, _, _, _, h, _, _ => h.elim
  | (_, _, _) :: l, _ :: m, _, _, _, _, _, h, h1, h2 => ⟨h.1, h.2.1, h.2.2.1, entsOk_push h.2.2.2 h1 h2⟩
def bitsOk : Nat → SV → Bool
  | _, .bool _ => true
  | _, .int _ _ => true
  | _, .str _ => true
  | n + 1, .agg cs => cs.all (bitsOk n)
  | _, _ => false
theorem sameBits_list {f : Value → Value → Bool} : ∀ {L : List Value}, (∀ V ∈ L, f V V = true) → ((L.zip L).all fun (x, y) => f x y) = true
  | [], _ => rfl
  | V :: L, h => by simp only [List.zip_cons_cons, List.all_cons, Bool.and_eq_true]; exact ⟨h V (by simp), sameBits_list fun U hU => h U (by simp [hU])⟩
theorem sameBits_self : ∀ (d D : Nat), d ≤ D → ∀ (v : SV) (V : Value), bitsOk d v = true → v.den E = some V → Instr.sameBits D V V = true := by
  intro d
  induction d with
  | zero =>
    intro D _ v V h hV
    cases v <;> simp [bitsOk] at h
    · obtain ⟨_, _, rfl⟩ := den_bool hV; cases D <;> simp [Instr.sameBits]
    · obtain ⟨_, _, rfl⟩ := den_int hV; cases D <;> simp [Instr.sameBits]
    · obtain ⟨_, _, rfl⟩ := den_str hV; cases D <;> simp [Instr.sameBits, beq_toListBytes]
  | succ d ih =>
    intro D hD v V h hV
    obtain ⟨D, rfl⟩ : ∃ D', D = D' + 1 := ⟨D - 1, by omega⟩
    cases v <;> simp [bitsOk] at h
    · obtain ⟨_, _, rfl⟩ := den_bool hV; simp [Instr.sameBits]
    · obtain ⟨_, _, rfl⟩ := den_int hV; simp [Instr.sameBits]
    · obtain ⟨_, _, rfl⟩ := den_str hV; simp [Instr.sameBits, beq_toListBytes]
    · rename_i cs
      obtain ⟨L, hL, rfl⟩ := den_agg hV
      simp only [Instr.sameBits, BEq.rfl, Bool.true_and]
      refine sameBits_list fun V hV => ?_
      obtain ⟨i, hi⟩ := List.getElem?_of_mem hV
      have hil : i < cs.length := by
        have := (List.getElem?_eq_some_iff.1 hi).1
        rw [denL_length hL] at this
        exact this
      obtain ⟨U, h1, h2⟩ := denL_get hL (List.getElem?_eq_getElem hil)
      rw [hi] at h1; cases h1
      exact ih D (by omega) _ _ (h _ (List.getElem_mem hil)) h2
/-- The map with the key's new element, in each way; what is told of it. -/
def putWays (s : St) (id : Nat) (es : List (SV × SV × Nat)) (clock : Nat) (k : SV) (x : Option SV) (z : SV) (tell : SV → Nat → SV) : List (Option (Nat × SV × SV × Nat) × Asm) → Option (List (SV × St))
  | [] => some []
  | (r, asm') :: l =>
    match putWays s id es clock k x z tell l with
    | some outs =>
      match r with
      | some (i, k', v, n) => match SV.beq k' k && bitsOk 6 k with
        | true => some ((tell v n, { s with h := s.h.put id (.map (es.set i (k, (match x with | some x => x | none => v), n)) clock), asm := asm' }) :: outs)
        | false => none
      | none => some ((tell z clock, { s with h := s.h.put id (.map (es ++ [(k, (match x with | some x => x | none => z), clock)]) (clock + 1)), asm := asm' }) :: outs)
    | none => none
theorem putWays_mem {id : Nat} {es : List (SV × SV × Nat)} {clock : Nat} {k z : SV} {x : Option SV} {tell : SV → Nat → SV} : ∀ {l : List (Option (Nat × SV × SV × Nat) × Asm)} {outs : List (SV × St)} {r : Option (Nat × SV × SV × Nat)} {asm' : Asm}, putWays s id es clock k x z tell l = some outs → (r, asm') ∈ l →
    match r with
    | some (i, k', v, n) => k' = k ∧ bitsOk 6 k = true ∧ (tell v n, { s with h := s.h.put id (.map (es.set i (k, x.getD v, n)) clock), asm := asm' }) ∈ outs
    | none => (tell z clock, { s with h := s.h.put id (.map (es ++ [(k, x.getD z, clock)]) (clock + 1)), asm := asm' }) ∈ outs
  | [], outs, r, asm', h, hm => by cases hm
  | (r0, a0) :: l, outs, r, asm', h, hm => by
    simp only [putWays] at h
    split at h
    · rename_i o1 ho1
      rcases List.mem_cons.1 hm with e | e
      · cases e
        cases r0 with
        | none => simp only at h; cases h; cases x <;> exact List.mem_cons_self
        | some r =>
          obtain ⟨i, k', v, n⟩ := r
          simp only at h
          split at h
          · rename_i hb
            cases h
            simp only [Bool.and_eq_true] at hb
            exact ⟨SV.beq_eq _ _ hb.1, hb.2, by cases x <;> exact List.mem_cons_self⟩
          · cases h
      · have ih := putWays_mem ho1 e
        have up : ∀ p ∈ o1, p ∈ outs := by
          intro p hp
          cases r0 with
          | none => simp only at h; cases h; exact List.mem_cons_of_mem _ hp
          | some r0 =>
            obtain ⟨i, k', v, n⟩ := r0
            simp only at h
            split at h
            · cases h; exact List.mem_cons_of_mem _ hp
            · cases h
        cases r with
        | none => exact up _ ih
        | some r =>
          obtain ⟨i, k', v, n⟩ := r
          exact ⟨ih.1, ih.2.1, up _ ih.2.2⟩
    · cases h
def xmapUpdateM (P : Program) (s : St) (t : TypeId) (m k x : SV) : Option (List (SV × St)) :=
  match P.underlying t, m with
  | some (.map kt et), .map id => match s.h.get id with
    | some (.map es clock) => match xkey P kt k es s.asm with
      | some ws => putWays s id es clock k (some x) skipV (fun _ _ => skipV) ws
      | none => none
    | _ => none
  | _, _ => none
theorem xmapUpdateM_ok (R : Rel w0 E s w) {t : TypeId} {m k x : SV} {outs : List (SV × St)} (h : xmapUpdateM P s t m k x = some outs) {M K X : Value} (hM : m.den E = some M) (hK : k.den E = some K) (hX : x.den E = some X) :
    ∃ s' w', (skipV, s') ∈ outs ∧ Rel w0 E s' w' ∧ (Instr.mapUpdate t M K X).run P w = .ok () w' := by
  unfold xmapUpdateM at h
  split at h
  · rename_i kt et id hu
    split at h
    · rename_i es clock hid
      split at h
      · rename_i ws hws
        obtain ⟨b, base, n, hb, rfl⟩ := den_map hM
        obtain ⟨b', base', n', hb', ents, h1, h2⟩ := R.mem id _ hid rfl
        rw [hb] at hb'; cases hb'
        obtain ⟨hck, r, asm', Rf, r1, r2, r3, r4⟩ := xkey_ok (P := P) hK h2 R.asm hws w
        have hlt : b < w.heap.size := (Array.getElem?_eq_some_iff.1 h1).1
        have hg : (getObj b).run P w = .ok (.map ents clock) w := by simp [getObj, Sem.run, h1]
        have hset : ∀ O, (setObj b O).run P w = .ok () { w with heap := w.heap.setIfInBounds b O } := fun O => by simp [setObj, Sem.run, h1]
        have hm := putWays_mem h r1
        cases r with
        | none =>
          cases Rf with
          | some Rf => simp [FoundAt] at r4
          | none =>
            refine ⟨_, _, hm, (R.upd hid rfl hb (Upd.setObj hlt (.map (ents.push { key := K, val := X, born := clock }) (clock + 1))) (so := .map (es ++ [(k, x, clock)]) (clock + 1)) ⟨_, rfl, by simpa using entsOk_push h2 hK hX⟩).setAsm r2, ?_⟩
            simp only [Instr.mapUpdate, Sem.run_bind, run_underlying hu, Result.andThen_ok, hg, hck, r3, hset]
        | some r =>
          obtain ⟨i, k', v, n⟩ := r
          cases Rf with
          | none => simp [FoundAt] at r4
          | some Rf =>
            obtain ⟨j, V⟩ := Rf
            obtain ⟨rfl, -, q3, e, q4, q5, q6, q7, -⟩ := r4
            simp only [Nat.sub_zero] at q3 q4
            obtain ⟨rfl, hbits, hm⟩ := hm
            rw [hK] at q5; cases q5
            have q4' : ents[i]? = some e := by simpa using q4
            have hsame := sameBits_self (E := E) 6 10000 (by omega) _ _ hbits hK
            refine ⟨_, _, hm, (R.upd hid rfl hb (Upd.setObj hlt (.map (ents.modify i fun e' => { e' with key := e.key, val := X }) clock)) (so := .map (es.set i (k', x, n)) clock) ⟨_, rfl, ?_⟩).setAsm r2, ?_⟩
            · rw [Array.toList_modify]
              exact entsOk_set h2 q3 (fun e' he' => by rw [q4] at he'; cases he'; exact ⟨hK, hX, q7⟩)
            · simp only [Instr.mapUpdate, Sem.run_bind, run_underlying hu, Result.andThen_ok, hg, hck, r3, q4', Option.map_some, Option.getD_some, Instr.keyThatStays, hsame, if_true, Sem.run_pure, hset]
      · cases h
    · cases h
  · cases h
/-- A new key for a map whose order is not known. -/
def newKey (P : Program) (t : TypeId) (k : SV) (l : List (SV × SV)) : Bool :=
  match P.underlying t with
  | some (.map kt _) => match ukey P kt k l with
    | some none => true
    | _ => false
  | _ => false
theorem newKey_run {t : TypeId} {k x : SV} {l : List (SV × SV)} (h : newKey P t k l = true) {b : Nat} {ents : Array MapEntry} {cl : Nat} (h1 : w.heap[b]? = some (.map ents cl)) {el : List (SV × SV × Nat)} (hp : (el.map pairOf).Perm l) (he : entsOk E el ents.toList) {K X : Value} (hK : k.den E = some K) (hX : x.den E = some X) :
    (Instr.mapUpdate t (.map (some b)) K X).run P w = .ok () { w with heap := w.heap.setIfInBounds b (.map (ents.push { key := K, val := X, born := cl }) (cl + 1)) } ∧
      ((el ++ [(k, x, cl)]).map pairOf).Perm (l ++ [(k, x)]) ∧ entsOk E (el ++ [(k, x, cl)]) (ents.push { key := K, val := X, born := cl }).toList := by
  unfold newKey at h
  split at h
  · rename_i kt et hu
    split at h
    · rename_i hk
      obtain ⟨hck, R, r3, r4⟩ := ukey_ok (P := P) hK hp he hk w
      cases R with
      | some R => simp at r4
      | none =>
        have hg : (getObj b).run P w = .ok (.map ents cl) w := by simp [getObj, Sem.run, h1]
        have hset : ∀ O, (setObj b O).run P w = .ok () { w with heap := w.heap.setIfInBounds b O } := fun O => by simp [setObj, Sem.run, h1]
        refine ⟨?_, ?_, by simpa using entsOk_push he hK hX⟩
        · simp only [Instr.mapUpdate, Sem.run_bind, run_underlying hu, Result.andThen_ok, hg, hck, r3, hset]
        · rw [List.map_append]; exact hp.append (List.Perm.refl _)
    · cases h
  · cases h
def xmapUpdateU (P : Program) (s : St) (t : TypeId) (m : SV) (l : List (SV × SV)) (k x : SV) : Option (List (SV × St)) :=
  match m with
  | .map id => match newKey P t k l with
    | true => some [(skipV, { s with h := s.h.put id (.umap (l ++ [(k, x)])) })]
    | false => none
  | _ => none
def xmapUpdate (P : Program) (s : St) (t : TypeId) (m k x : SV) : Option (List (SV × St)) :=
  match umapOf s.h m with
  | some l => xmapUpdateU P s t m l k x
  | none => xmapUpdateM P s t m k x
/-- One insertion of a new key, whatever the state is called. -/
theorem insert_one (R : Rel w0 E s w) {t : TypeId} {id : Nat} {l : List (SV × SV)} (hid : s.h.get id = some (.umap l)) {k x : SV} (h : newKey P t k l = true) {M K X : Value} (hM : (SV.map id).den E = some M) (hK : k.den E = some K) (hX : x.den E = some X) :
    ∃ w', Rel w0 E { s with h := s.h.put id (.umap (l ++ [(k, x)])) } w' ∧ (Instr.mapUpdate t M K X).run P w = .ok () w' := by
  obtain ⟨b, base, n, hb, rfl⟩ := den_map hM
  obtain ⟨b', base', n', hb', es, cl, el, h1, h2, h3⟩ := R.mem id _ hid rfl
  rw [hb] at hb'; cases hb'
  obtain ⟨k1, k2, k3⟩ := newKey_run (P := P) h h1 h2 h3 hK hX
  have hlt : b < w.heap.size := (Array.getElem?_eq_some_iff.1 h1).1
  exact ⟨_, R.upd hid rfl hb (Upd.setObj hlt _) (so := .umap (l ++ [(k, x)])) ⟨_, _, _, rfl, k2, k3⟩, k1⟩
theorem xmapUpdate_ok (R : Rel w0 E s w) {t : TypeId} {m k x : SV} {outs : List (SV × St)} (h : xmapUpdate P s t m k x = some outs) {M K X : Value} (hM : m.den E = some M) (hK : k.den E = some K) (hX : x.den E = some X) :
    ∃ s' w', (skipV, s') ∈ outs ∧ Rel w0 E s' w' ∧ (Instr.mapUpdate t M K X).run P w = .ok () w' := by
  unfold xmapUpdate at h
  split at h
  · rename_i l hl
    unfold umapOf at hl
    split at hl
    · rename_i id
      split at hl
      · rename_i l' hid
        cases hl
        simp only [xmapUpdateU] at h
        split at h
        · rename_i hn
          cases h
          obtain ⟨w', h1, h2⟩ := insert_one (P := P) R hid hn hM hK hX
          exact ⟨_, w', List.mem_singleton.2 rfl, h1, h2⟩
        · cases h
      · cases hl
    · cases hl
  · exact xmapUpdateM_ok R h hM hK hX
/-- A map whose order is known is one whose order is not. -/
theorem Rel.toU (R : Rel w0 E s w) {id : Nat} {es : List (SV × SV × Nat)} {cl : Nat} (hid : s.h.get id = some (.map es cl)) : Rel w0 E { s with h := s.h.put id (.umap (es.map pairOf)) } w := by
  refine ⟨R.os, R.tape, R.output, R.size, R.frame, fun id' o' h' hl' => ?_, R.fresh, fun id' o' b' base' n' h' hl' hb' => ?_, fun i j o1 o2 x1 x2 h1 h2 l1 l2 e1 e2 e => ?_, R.asm, R.rsv⟩
  · simp only [T.get_put] at h'
    split at h'
    · rename_i e
      cases h'
      obtain ⟨b, base, n, hb, ents, h1, h2⟩ := R.mem id _ hid rfl
      exact ⟨b, base, n, e ▸ hb, ents, cl, es, h1, List.Perm.refl _, h2⟩
    · exact R.mem id' o' h' hl'
  · simp only [T.get_put] at h'
    split at h'
    · rename_i e
      exact R.new id _ b' base' n' hid rfl (e ▸ hb')
    · exact R.new id' o' b' base' n' h' hl' hb'
  · simp only [T.get_put] at h1 h2
    split at h1 <;> split at h2
    · rename_i a c; exact a.symm.trans c
    · rename_i a c; subst a; exact R.inj id j _ o2 x1 x2 hid h2 rfl l2 e1 e2 e
    · rename_i a c; subst c; exact R.inj i id o1 _ x1 x2 h1 hid l1 rfl e1 e2 e
    · exact R.inj i j o1 o2 x1 x2 h1 h2 l1 l2 e1 e2 e
/-- The order in which its entries are told does not count. -/
theorem Rel.permU (R : Rel w0 E s w) {s' : St} {id : Nat} {l l' : List (SV × SV)} (hp : l.Perm l') (hid : s.h.get id = some (.umap l)) (hh : ∀ i, s'.h.get i = if i = id then some (.umap l') else s.h.get i) (h1 : s'.next = s.next) (h2 : s'.asm = s.asm) (h3 : s'.resv = s.resv) : Rel w0 E s' w := by
  have back : ∀ i o', s'.h.get i = some o' → o'.live = true → ∃ o, s.h.get i = some o ∧ o.live = true := fun i o' h hl => by
    rw [hh] at h
    split at h
    · rename_i e; subst e; exact ⟨_, hid, rfl⟩
    · exact ⟨_, h, hl⟩
  refine ⟨R.os, R.tape, R.output, R.size, R.frame, fun i o' h' hl' => ?_, by rw [h1]; exact R.fresh, fun i o' b' base' n' h' hl' hb' => ?_, fun i j o1 o2 x1 x2 g1 g2 l1 l2 e1 e2 e => ?_, by rw [h2]; exact R.asm, by rw [h3, h1]; exact R.rsv⟩
  · rw [hh] at h'
    split at h'
    · rename_i e; subst e
      cases h'
      obtain ⟨b, base, n, hb, ents, cl, el, q1, q2, q3⟩ := R.mem i _ hid rfl
      exact ⟨b, base, n, hb, ents, cl, el, q1, q2.trans hp, q3⟩
    · exact R.mem i o' h' hl'
  · obtain ⟨o, k1, k2⟩ := back i o' h' hl'
    exact R.new i o b' base' n' k1 k2 hb'
  · obtain ⟨p1, k1, k2⟩ := back i o1 g1 l1
    obtain ⟨p2, k3, k4⟩ := back j o2 g2 l2
    exact R.inj i j p1 p2 x1 x2 k1 k3 k2 k4 e1 e2 e
def xmapEntry (P : Program) (s : St) (t : TypeId) (m k : SV) : Option (List (SV × St)) :=
  match P.underlying t, m with
  | some (.map kt et), .map id => match s.h.get id, xzero P et with
    | some (.map es clock), some z => match xkey P kt k es s.asm with
      | some ws => putWays s id es clock k none z (fun v n => .tup [v, .int .i64 (.lit (.ofNat n))]) ws
      | none => none
    | _, _ => none
  | _, _ => none
theorem xmapEntry_ok (R : Rel w0 E s w) {t : TypeId} {m k : SV} {outs : List (SV × St)} (h : xmapEntry P s t m k = some outs) {M K : Value} (hM : m.den E = some M) (hK : k.den E = some K) :
    ∃ v s' V w', (v, s') ∈ outs ∧ Rel w0 E s' w' ∧ v.den E = some V ∧ (Instr.mapEntry t M K).run P w = .ok V w' := by
  unfold xmapEntry at h
  split at h
  · rename_i kt et id hu
    split at h
    · rename_i es clock z hid hz
      split at h
      · rename_i ws hws
        obtain ⟨Z, z1, z2⟩ := run_zero hz (P := P) (E := E)
        obtain ⟨b, base, n, hb, rfl⟩ := den_map hM
        obtain ⟨b', base', n', hb', ents, h1, h2⟩ := R.mem id _ hid rfl
        rw [hb] at hb'; cases hb'
        obtain ⟨hck, r, asm', Rf, r1, r2, r3, r4⟩ := xkey_ok (P := P) hK h2 R.asm hws w
        have hlt : b < w.heap.size := (Array.getElem?_eq_some_iff.1 h1).1
        have hg : (getObj b).run P w = .ok (.map ents clock) w := by simp [getObj, Sem.run, h1]
        have hset : ∀ O, (setObj b O).run P w = .ok () { w with heap := w.heap.setIfInBounds b O } := fun O => by simp [setObj, Sem.run, h1]
        have hm := putWays_mem h r1
        cases r with
        | none =>
          cases Rf with
          | some Rf => simp [FoundAt] at r4
          | none =>
            refine ⟨_, _, .tuple #[Z, .int .i64 clock], _, hm, (R.upd hid rfl hb (Upd.setObj hlt (.map (ents.push { key := K, val := Z, born := clock }) (clock + 1))) (so := .map (es ++ [(k, z, clock)]) (clock + 1)) ⟨_, rfl, by simpa using entsOk_push h2 hK z1⟩).setAsm r2, by simp [SV.den, SV.denL, z1, IX.den], ?_⟩
            simp only [Instr.mapEntry, Sem.run_bind, run_underlying hu, Result.andThen_ok, hg, hck, r3, z2, hset, Sem.run_pure, goInt]
        | some r =>
          obtain ⟨i, k', v, n⟩ := r
          cases Rf with
          | none => simp [FoundAt] at r4
          | some Rf =>
            obtain ⟨j, V⟩ := Rf
            obtain ⟨rfl, -, q3, e, q4, q5, q6, q7, rfl⟩ := r4
            simp only [Nat.sub_zero] at q3 q4
            obtain ⟨rfl, hbits, hm⟩ := hm
            rw [hK] at q5; cases q5
            have q4' : ents[i]? = some e := by simpa using q4
            have hsame := sameBits_self (E := E) 6 10000 (by omega) _ _ hbits hK
            refine ⟨_, _, .tuple #[e.val, .int .i64 n], _, hm, (R.upd hid rfl hb (Upd.setObj hlt (.map (ents.modify i fun e' => { e' with key := e.key }) clock)) (so := .map (es.set i (k', v, n)) clock) ⟨_, rfl, ?_⟩).setAsm r2, by simp [SV.den, SV.denL, q6, IX.den], ?_⟩
            · rw [Array.toList_modify]
              exact entsOk_set h2 q3 (fun e' he' => by rw [q4] at he'; cases he'; exact ⟨hK, q6, q7⟩)
            · simp only [Instr.mapEntry, Sem.run_bind, run_underlying hu, Result.andThen_ok, hg, hck, r3, q4', Option.map_some, Option.getD_some, Instr.keyThatStays, hsame, if_true, Sem.run_pure, hset, goInt, q7]
      · cases h
    · cases h
  · cases h
/-- The place of the entry of a stamp. -/
def stampAt (n : Nat) : List (SV × SV × Nat) → Nat → Option (Nat × SV × SV)
  | [], _ => none
  | (k, v, m) :: l, i => match Nat.beq m n with
    | true => some (i, k, v)
    | false => stampAt n l (i + 1)
theorem stampAt_ok {n : Nat} : ∀ {l : List (SV × SV × Nat)} {m : List MapEntry} {i0 i : Nat} {k v : SV}, entsOk E l m → stampAt n l i0 = some (i, k, v) → i0 ≤ i ∧ l[i - i0]? = some (k, v, n) ∧ m.findIdx? (fun e => (e.born : Int) == (n : Int)) = some (i - i0)
  | [], m, i0, i, k, v, _, h => by simp [stampAt] at h
  | (_, _, _) :: _, [], _, _, _, _, h, _ => h.elim
  | (k0, v0, m0) :: l, e :: m, i0, i, k, v, he, h => by
    simp only [stampAt] at h
    obtain ⟨-, -, h3, h4⟩ := he
    split at h
    · rename_i e1
      have e1 := Nat.eq_of_beq_eq_true e1
      cases h
      subst e1
      refine ⟨Nat.le_refl _, by simp, ?_⟩
      simp [List.findIdx?_cons, h3]
    · rename_i e1
      have e1 := Nat.ne_of_beq_eq_false e1
      obtain ⟨a1, a2, a3⟩ := stampAt_ok h4 h
      have e2 : i - i0 = (i - (i0 + 1)) + 1 := by omega
      refine ⟨by omega, by rw [e2]; simpa using a2, ?_⟩
      have : ¬ ((e.born : Int) = (n : Int)) := by rw [h3]; omega
      simp [List.findIdx?_cons, this, a3, e2]
def xentryStore (s : St) (m st x : SV) : Option (List (SV × St)) :=
  match m, natSV st with
  | .map id, some n => match s.h.get id with
    | some (.map es clock) => match stampAt n es 0 with
      | some (i, k, v) => some [(skipV, { s with h := s.h.put id (.map (es.set i (k, x, n)) clock) })]
      | none => none
    | _ => none
  | _, _ => none
theorem xentryStore_ok (R : Rel w0 E s w) {m st x : SV} {outs : List (SV × St)} (h : xentryStore s m st x = some outs) {t : TypeId} {M N X : Value} (hM : m.den E = some M) (hN : st.den E = some N) (hX : x.den E = some X) :
    ∃ s' w', (skipV, s') ∈ outs ∧ Rel w0 E s' w' ∧ (Instr.entryStore t M N X).run P w = .ok () w' := by
  unfold xentryStore at h
  split at h
  · rename_i id n hn
    split at h
    · rename_i es clock hid
      split at h
      · rename_i i k v hst
        cases h
        obtain ⟨b, base, n0, hb, rfl⟩ := den_map hM
        obtain ⟨b', base', n', hb', ents, h1, h2⟩ := R.mem id _ hid rfl
        rw [hb] at hb'; cases hb'
        obtain ⟨kk, rfl⟩ := natSV_ok hn hN
        have hlt : b < w.heap.size := (Array.getElem?_eq_some_iff.1 h1).1
        have hg : (getObj b).run P w = .ok (.map ents clock) w := by simp [getObj, Sem.run, h1]
        have hset : ∀ O, (setObj b O).run P w = .ok () { w with heap := w.heap.setIfInBounds b O } := fun O => by simp [setObj, Sem.run, h1]
        obtain ⟨-, a2, a3⟩ := stampAt_ok h2 hst
        simp only [Nat.sub_zero] at a2 a3
        have a3' : ents.findIdx? (fun e => (e.born : Int) == (n : Int)) = some i := by rw [← a3]; cases ents; simp
        refine ⟨_, _, List.mem_singleton.2 rfl, R.upd hid rfl hb (Upd.setObj hlt (.map (ents.modify i fun e' => { e' with val := X }) clock)) (so := .map (es.set i (k, x, n)) clock) ⟨_, rfl, ?_⟩, ?_⟩
        · rw [Array.toList_modify]
          obtain ⟨e, e1, e2, e3, e4⟩ := entsOk_get h2 a2
          exact entsOk_set h2 a2 (fun e' he' => by rw [e1] at he'; cases he'; exact ⟨e2, hX, e4⟩)
        · simp only [Instr.entryStore, Sem.run_bind, Sem.run_pure, hg, Result.andThen_ok, asInt, asIntOf, a3', hset]
      · cases h
    · cases h
  · cases h
end
end Go.Sx
