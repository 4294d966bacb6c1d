/-
  A symbolic run of Go functions by computation (part 7): composite values, len and its like; all operations that leave memory alone.
-/
import Derived.Test.YtkckgjjhnjcffaaSx6
namespace Go.Sx
set_option linter.unusedVariables false
set_option linter.unusedSimpArgs false

/-! ### composite values -/
def cellsOf : SV → List SV
  | .agg cs => cs
  | v => [v]
theorem cellsOf_ok {E : Env} {v : SV} {V : Value} (h : v.den E = some V) : ∃ L, SV.denL E (cellsOf v) = some L ∧ V.cells = L.toArray := by
  by_cases hv : ∃ cs, v = .agg cs
  · obtain ⟨cs, rfl⟩ := hv
    obtain ⟨L, hL, rfl⟩ := den_agg h
    exact ⟨L, hL, rfl⟩
  · have e : cellsOf v = [v] := by cases v <;> first | rfl | exact (hv ⟨_, rfl⟩).elim
    refine ⟨[V], by rw [e]; simp [SV.denL, h], ?_⟩
    cases v <;> simp only [SV.den] at h <;> first
      | exact (hv ⟨_, rfl⟩).elim
      | (cases h; rfl)
      | (split at h <;> first | (cases h; done) | (cases h; rfl) | (split at h <;> cases h <;> rfl))
def xfill (place : Nat → Option (Nat × Nat)) (cells : List SV) : List (Nat × SV) → Option (List SV)
  | [] => some cells
  | (i, v) :: rest =>
    match place i with
    | none => none
    | some (off, size) =>
      match Nat.beq (cellsOf v).length size, Nat.ble (off + (cellsOf v).length) cells.length with
      | true, true => xfill place (cells.take off ++ (cellsOf v ++ cells.drop (off + (cellsOf v).length))) rest
      | _, _ => none
theorem fold_splice : ∀ (l : List Value) (off k : Nat) (cs : Array Value), off + k + l.length ≤ cs.size →
    ((l.zipIdx k).foldl (fun cs (c, j) => cs.setIfInBounds (off + j) c) cs).toList = cs.toList.take (off + k) ++ (l ++ cs.toList.drop (off + k + l.length))
  | [], off, k, cs, h => by simp
  | v :: l, off, k, cs, h => by
    simp only [List.length_cons] at h
    simp only [List.zipIdx_cons, List.foldl_cons]
    rw [fold_splice l off (k + 1) _ (by simp; omega)]
    have hlt : off + k < cs.toList.length := by simp; omega
    simp only [Array.toList_setIfInBounds]
    apply List.ext_getElem?
    intro n
    have hl1 : (List.take (off + (k + 1)) (cs.toList.set (off + k) v)).length = off + k + 1 := by simp; omega
    have hl2 : (List.take (off + k) cs.toList).length = off + k := by simp; omega
    by_cases c1 : n < off + k
    · rw [List.getElem?_append_left (by omega), List.getElem?_append_left (by omega), List.getElem?_take, List.getElem?_take, if_pos (by omega), if_pos c1, List.getElem?_set_ne (by omega)]
    · by_cases c2 : n = off + k
      · subst c2
        rw [List.getElem?_append_left (by omega), List.getElem?_append_right (by omega), hl2, List.getElem?_take, if_pos (by omega), List.getElem?_set_self (by omega)]
        simp
      · obtain ⟨m, rfl⟩ : ∃ m, n = off + k + 1 + m := ⟨n - (off + k + 1), by omega⟩
        have e1 : off + k + 1 + m - (off + k + 1) = m := by omega
        have e2 : off + k + 1 + m - (off + k) = m + 1 := by omega
        conv => lhs; rw [List.getElem?_append_right (by omega), hl1, e1]
        conv => rhs; rw [List.getElem?_append_right (by omega), hl2, e2, List.cons_append, List.getElem?_cons_succ]
        by_cases c3 : m < l.length
        · rw [List.getElem?_append_left c3, List.getElem?_append_left c3]
        · conv => lhs; rw [List.getElem?_append_right (by omega), List.getElem?_drop, List.getElem?_set_ne (by omega)]
          conv => rhs; rw [List.getElem?_append_right (by omega), List.getElem?_drop]
          congr 1
          simp only [List.length_cons]
          omega
theorem xfill_ok {E : Env} {place : Nat → Option (Nat × Nat)} : ∀ {parts : List (Nat × SV)} {cells out : List SV} {L : List Value} {Ps : List (Nat × Value)}, xfill place cells parts = some out → SV.denL E cells = some L →
    Ps.length = parts.length → (∀ (j : Nat) (p : Nat × SV), parts[j]? = some p → ∃ V, p.2.den E = some V ∧ Ps[j]? = some (p.1, V)) → ∃ M, SV.denL E out = some M ∧ Instr.fill place L.toArray Ps = some M.toArray
  | [], cells, out, L, Ps, h, hL, hl, _ => by
    simp only [xfill, Option.some.injEq] at h
    subst h
    obtain rfl : Ps = [] := by simpa using hl
    exact ⟨L, hL, by simp [Instr.fill]⟩
  | (i, v) :: rest, cells, out, L, Ps, h, hL, hl, hp => by
    cases Ps with
    | nil => simp at hl
    | cons p Ps =>
      obtain ⟨V, hV, hp0⟩ := hp 0 (i, v) (by simp)
      replace hV : v.den E = some V := hV
      simp only [List.getElem?_cons_zero, Option.some.injEq] at hp0
      subst hp0
      simp only [xfill] at h
      split at h
      · cases h
      · rename_i off size hpl
        split at h
        · rename_i e1 e2
          have e1 := Nat.eq_of_beq_eq_true e1
          have e2 := Nat.le_of_ble_eq_true e2
          obtain ⟨C, hC, hVc⟩ := cellsOf_ok hV
          have hCl := denL_length hC
          have hLl := denL_length hL
          obtain ⟨M, m1, m2⟩ := xfill_ok h (denL_append (denL_take off hL) (denL_append hC (denL_drop _ hL))) (by simpa using hl) (fun j q hq => hp (j + 1) q (by simpa using hq)) (Ps := Ps)
          refine ⟨M, m1, ?_⟩
          rw [← m2]
          simp only [Instr.fill, hpl, hVc]
          rw [if_neg (by simp; omega)]
          congr 1
          apply Array.ext'
          rw [← Array.foldl_toList]
          have := fold_splice C off 0 L.toArray (by simp; omega)
          simp only [Nat.add_zero] at this
          simp only [Array.toList_zipIdx]
          rw [this]
          simp [hCl]
        · cases h
def xparts (a : SAct) : List (Nat × Operand) → Option (List (Nat × SV))
  | [] => some []
  | (i, x) :: l => match a.ev x, xparts a l with
    | some v, some m => some ((i, v) :: m)
    | _, _ => none
theorem xparts_ok {E : Env} {a : SAct} {A : Act} (hA : ActRel E a A) : ∀ {l : List (Nat × Operand)} {m : List (Nat × SV)}, xparts a l = some m →
    (l.map fun (i, x) => (i, A.eval x)).length = m.length ∧ ∀ (j : Nat) (p : Nat × SV), m[j]? = some p → ∃ V, p.2.den E = some V ∧ (l.map fun (i, x) => (i, A.eval x))[j]? = some (p.1, V)
  | [], m, h => by simp only [xparts, Option.some.injEq] at h; subst h; simp
  | (i, x) :: l, m, h => by
    simp only [xparts] at h
    split at h
    · rename_i v m' hv hm
      cases h
      obtain ⟨h1, h2⟩ := xparts_ok hA hm
      refine ⟨by simpa using h1, fun j p hj => ?_⟩
      cases j with
      | zero => simp at hj; subst hj; exact ⟨_, ev_ok hA hv, by simp⟩
      | succ j => simp at hj; obtain ⟨V, h3, h4⟩ := h2 j p hj; exact ⟨V, h3, by simpa using h4⟩
    · cases h
/-- Where each field of a struct lies. -/
def places (P : Program) : List Field → Option (List (Nat × Nat))
  | [] => some []
  | f :: fs => match szOf P f.type, places P fs with
    | some n, some l => some ((f.offset, n) :: l)
    | _, _ => none
theorem places_ok {P : Program} (w : World) : ∀ {fs : List Field} {l : List (Nat × Nat)}, places P fs = some l → ((fs.mapM fun f => do pure (f.offset, ← sizeOf f.type)) : Sem (List (Nat × Nat))).run P w = .ok l w
  | [], l, h => by simp only [places, Option.some.injEq] at h; subst h; simp
  | f :: fs, l, h => by
    simp only [places] at h
    split at h
    · rename_i n m hn hm
      cases h
      have ih := places_ok w hm
      simp only [List.mapM_cons, Sem.run_bind, run_size hn, Result.andThen_ok, Sem.run_pure]
      rw [ih]
      simp
    · cases h
def xbuild (P : Program) (a : SAct) (t : TypeId) (parts : Array (Nat × Operand)) : Option SV :=
  match xzero P t, xparts a parts.toList with
  | some z, some ps =>
    match P.underlying t with
    | some (.struct fields) => match places P fields.toList with
      | some pl => match xfill (fun i => pl[i]?) (cellsOf z) ps with
        | some cells => some (.agg cells)
        | none => none
      | none => none
    | some (.array _ elem) => match szOf P elem with
      | some size => match xfill (fun i => some (i * size, size)) (cellsOf z) ps with
        | some cells => some (.agg cells)
        | none => none
      | none => none
    | _ => none
  | _, _ => none
section
variable {P : Program} {E : Env} {h : T SObj} {w : World} {t : TypeId}
theorem xbuild_ok {a : SAct} {A : Act} (hA : ActRel E a A) {parts : Array (Nat × Operand)} {v : SV} (hv : xbuild P a t parts = some v) (w : World) :
    ∃ V, v.den E = some V ∧ (Instr.build t (parts.map fun (i, x) => (i, A.eval x))).run P w = .ok V w := by
  unfold xbuild at hv
  split at hv
  · rename_i z ps hz hps
    obtain ⟨Z, z1, z2⟩ := run_zero hz (P := P) (E := E)
    obtain ⟨L, l1, l2⟩ := cellsOf_ok z1
    obtain ⟨p1, p2⟩ := xparts_ok hA hps
    have hmap : (parts.map fun (i, x) => (i, A.eval x)).toList = parts.toList.map fun (i, x) => (i, A.eval x) := by simp
    split at hv
    · rename_i fields hu
      split at hv
      · rename_i pl hpl
        split at hv
        · rename_i cells hc
          cases hv
          obtain ⟨M, m1, m2⟩ := xfill_ok hc l1 p1 p2
          refine ⟨.agg M.toArray, by simp [SV.den, m1], ?_⟩
          have hmm : ((fields.mapM fun f => do pure (f.offset, ← sizeOf f.type)) : Sem (Array (Nat × Nat))).run P w = .ok pl.toArray w := by
            rw [Array.mapM_eq_mapM_toList]
            simp only [Sem.run_map, places_ok w hpl, Result.andThen_ok]
          have hpl' : (fun i : Nat => pl.toArray[i]?) = fun i : Nat => pl[i]? := by funext i; simp
          simp only [Instr.build, Sem.run_bind, z2, Result.andThen_ok, run_underlying hu, hmm, l2, hmap, hpl', m2]
          rfl
        · cases hv
      · cases hv
    · rename_i elem hu
      split at hv
      · rename_i size hs
        split at hv
        · rename_i cells hc
          cases hv
          obtain ⟨M, m1, m2⟩ := xfill_ok hc l1 p1 p2
          refine ⟨.agg M.toArray, by simp [SV.den, m1], ?_⟩
          simp only [Instr.build, Sem.run_bind, z2, Result.andThen_ok, run_underlying hu, run_size hs, l2, hmap, m2]
          rfl
        · cases hv
      · cases hv
    · cases hv
  · cases hv

/-! ### len and its like -/
def xlen (P : Program) (h : T SObj) (t : TypeId) (x : SV) : Option SV :=
  match P.underlying t, x with
  | some .string, .str (.lit n _) => some (.int .i64 (.lit (.ofNat n)))
  | some .string, .str s => some (.int .i64 (.slen s))
  | some (.array n _), _ => some (.int .i64 (.lit (.ofNat n)))
  | some (.slice _), .slc _ _ n _ _ => some (.int .i64 (.lit (.ofNat n)))
  | some (.slice _), .nils => some (.int .i64 (.lit 0))
  | some (.map _ _), .nilm => some (.int .i64 (.lit 0))
  | some (.map _ _), .map id => match h.get id with
    | some (.map es _) => some (.int .i64 (.lit (.ofNat es.length)))
    | _ => none
  | _, _ => none
theorem entsOk_length : ∀ {l : List (SV × SV × Nat)} {m : List MapEntry}, entsOk E l m → l.length = m.length
  | [], [], _ => rfl
  | [], _ :: _, h => h.elim
  | (_, _, _) :: _, [], h => h.elim
  | (_, _, _) :: l, _ :: m, h => by simp [entsOk_length h.2.2.2]
theorem xlen_ok (M : Mem E h w) {x v : SV} (hv : xlen P h t x = some v) {X : Value} (hX : x.den E = some X) (ty : TypeId) (tys : Array TypeId) (htys : tys[0]? = some t) : ∃ V, v.den E = some V ∧ (Builtin.len_ tys ty #[X]).run P w = .ok V w := by
  unfold xlen at hv
  split at hv
  · rename_i n c hu
    cases hv
    obtain ⟨s, hs, rfl⟩ := den_str hX
    simp only [SX.den, Option.some.injEq] at hs; subst hs
    exact ⟨.int .i64 n, by simp [SV.den, IX.den], by simp [Builtin.len_, htys, run_underlying hu, goInt]⟩
  · rename_i s _ hu
    cases hv
    obtain ⟨b, hb, rfl⟩ := den_str hX
    exact ⟨.int .i64 b.size, by simp [SV.den, IX.den, hb], by simp [Builtin.len_, htys, run_underlying hu, goInt]⟩
  · rename_i n elem hu
    cases hv
    exact ⟨.int .i64 n, by simp [SV.den, IX.den], by simp [Builtin.len_, htys, run_underlying hu, goInt]⟩
  · rename_i hu
    cases hv
    obtain ⟨_, _, _, _, rfl⟩ := den_slc hX
    rename_i n _ _ _ _ _ _
    exact ⟨.int .i64 n, by simp [SV.den, IX.den], by simp [Builtin.len_, htys, run_underlying hu, goInt]⟩
  · rename_i hu
    cases hv
    obtain rfl := den_nil0.2.1 hX
    exact ⟨.int .i64 0, by simp [SV.den, IX.den], by simp [Builtin.len_, htys, run_underlying hu, goInt]⟩
  · rename_i hu
    cases hv
    obtain rfl := den_nil0.2.2.1 hX
    exact ⟨.int .i64 0, by simp [SV.den, IX.den], by simp [Builtin.len_, htys, run_underlying hu, goInt]⟩
  · rename_i id hu
    split at hv
    · rename_i es cl hid
      cases hv
      obtain ⟨b, base, n, hb, rfl⟩ := den_map hX
      obtain ⟨b', base', n', hb', ents, h1, h2⟩ := M id _ hid rfl
      rw [hb] at hb'; cases hb'
      have hg : (getObj b).run P w = .ok (.map ents cl) w := by simp [getObj, Sem.run, h1]
      have hl := entsOk_length h2
      refine ⟨.int .i64 ents.size, by simp [SV.den, IX.den, hl], ?_⟩
      simp only [Builtin.len_, htys, Sem.run_bind, run_underlying hu, Result.andThen_ok, List.getElem?_toArray, List.getElem?_cons_zero, hg]
      rfl
    · cases hv
  · cases hv
def xcap (P : Program) (t : TypeId) (x : SV) : Option SV :=
  match P.underlying t, x with
  | some (.slice _), .slc _ _ _ (some n) _ => some (.int .i64 (.lit (.ofNat n)))
  | some (.slice _), .nils => some (.int .i64 (.lit 0))
  | _, _ => none
theorem xcap_ok {x v : SV} (hv : xcap P t x = some v) {X : Value} (hX : x.den E = some X) (ty : TypeId) (tys : Array TypeId) (htys : tys[0]? = some t) (w : World) : ∃ V, v.den E = some V ∧ (Builtin.cap_ tys ty #[X]).run P w = .ok V w := by
  unfold xcap at hv
  split at hv
  · rename_i n es hu
    cases hv
    obtain ⟨_, _, _, _, rfl⟩ := den_slc hX
    exact ⟨.int .i64 n, by simp [SV.den, IX.den], by simp [Builtin.cap_, htys, run_underlying hu, goInt, capOf]⟩
  · rename_i hu
    cases hv
    obtain rfl := den_nil0.2.1 hX
    exact ⟨.int .i64 0, by simp [SV.den, IX.den], by simp [Builtin.cap_, htys, run_underlying hu, goInt]⟩
  · cases hv
/-- The greatest of whole numbers that are known; the least. -/
def xmm (mx : Bool) : List SV → Option (IntKind × Int)
  | [.int k (.lit n)] => some (k, n)
  | [.int k (.lit n), .int k' (.lit m)] => some (k, match mx with | true => (if m > n then m else n) | false => (if m < n then m else n))
  | _ => none
theorem xmax_ok {l : List SV} {k : IntKind} {n : Int} {L : List Value} (h : xmm true l = some (k, n)) (hL : SV.denL E l = some L) (tys : Array TypeId) (ty : TypeId) (w : World) : (Builtin.max_ tys ty L.toArray).run P w = .ok (.int k n) w := by
  unfold xmm at h
  split at h
  · cases h
    obtain ⟨V, Vs, rfl, h1, h2⟩ := denL_cons_inv hL
    simp only [SV.denL, Option.some.injEq] at h2; subst h2
    have := den_lit h1
    subst this
    simp [Builtin.max_]
  · cases h
    obtain ⟨V, Vs, rfl, h1, h2⟩ := denL_cons_inv hL
    obtain ⟨U, Us, rfl, h3, h4⟩ := denL_cons_inv h2
    simp only [SV.denL, Option.some.injEq] at h4; subst h4
    have e1 := den_lit h1
    have e2 := den_lit h3
    subst e1 e2
    simp [Builtin.max_, Builtin.max2]
  · cases h
theorem xmin_ok {l : List SV} {k : IntKind} {n : Int} {L : List Value} (h : xmm false l = some (k, n)) (hL : SV.denL E l = some L) (tys : Array TypeId) (ty : TypeId) (w : World) : (Builtin.min_ tys ty L.toArray).run P w = .ok (.int k n) w := by
  unfold xmm at h
  split at h
  · cases h
    obtain ⟨V, Vs, rfl, h1, h2⟩ := denL_cons_inv hL
    simp only [SV.denL, Option.some.injEq] at h2; subst h2
    have := den_lit h1
    subst this
    simp [Builtin.min_]
  · cases h
    obtain ⟨V, Vs, rfl, h1, h2⟩ := denL_cons_inv hL
    obtain ⟨U, Us, rfl, h3, h4⟩ := denL_cons_inv h2
    simp only [SV.denL, Option.some.injEq] at h4; subst h4
    have e1 := den_lit h1
    have e2 := den_lit h3
    subst e1 e2
    simp [Builtin.min_, Builtin.min2]
  · cases h
/-- The same, whatever is known of them. -/
def xmmW (mx : Bool) (asm : Asm) (l : List SV) : Option (List (SV × Asm)) :=
  match xmm mx l with
  | some (k, n) => some [(.int k (.lit n), asm)]
  | none => match l with
    | [.int k a, .int _ b] => some ((ways asm (match mx with | true => mkIlt a b | false => mkIlt b a)).map fun p => (.int k (match p.1 with | true => b | false => a), p.2))
    | _ => none
theorem xmaxW_ok {asm : Asm} (ha : AsmOk E asm) {l : List SV} {outs : List (SV × Asm)} {L : List Value} (h : xmmW true asm l = some outs) (hL : SV.denL E l = some L) (tys : Array TypeId) (ty : TypeId) (w : World) :
    ∃ v asm' V, (v, asm') ∈ outs ∧ AsmOk E asm' ∧ v.den E = some V ∧ (Builtin.max_ tys ty L.toArray).run P w = .ok V w := by
  unfold xmmW at h
  split at h
  · rename_i k n hm
    cases h
    exact ⟨.int k (.lit n), asm, .int k n, List.mem_singleton.2 rfl, ha, by simp [SV.den, IX.den], xmax_ok hm hL tys ty w⟩
  · split at h
    · rename_i k a k' b _
      cases h
      obtain ⟨V, Vs, rfl, h1, h2⟩ := denL_cons_inv hL
      obtain ⟨U, Us, rfl, h3, h4⟩ := denL_cons_inv h2
      simp only [SV.denL, Option.some.injEq] at h4; subst h4
      obtain ⟨x, hx, rfl⟩ := den_int h1
      obtain ⟨y, hy, rfl⟩ := den_int h3
      obtain ⟨asm', q1, q2⟩ := ways_ok ha (mkIlt_ok hx hy)
      by_cases hxy : x < y
      · rw [decide_eq_true hxy] at q1
        exact ⟨.int k b, asm', .int k y, List.mem_map.2 ⟨_, q1, rfl⟩, q2, by simp [SV.den, hy], by simp [Builtin.max_, Builtin.max2, hxy]⟩
      · rw [decide_eq_false hxy] at q1
        exact ⟨.int k a, asm', .int k x, List.mem_map.2 ⟨_, q1, rfl⟩, q2, by simp [SV.den, hx], by simp [Builtin.max_, Builtin.max2, hxy]⟩
    · cases h
theorem xminW_ok {asm : Asm} (ha : AsmOk E asm) {l : List SV} {outs : List (SV × Asm)} {L : List Value} (h : xmmW false asm l = some outs) (hL : SV.denL E l = some L) (tys : Array TypeId) (ty : TypeId) (w : World) :
    ∃ v asm' V, (v, asm') ∈ outs ∧ AsmOk E asm' ∧ v.den E = some V ∧ (Builtin.min_ tys ty L.toArray).run P w = .ok V w := by
  unfold xmmW at h
  split at h
  · rename_i k n hm
    cases h
    exact ⟨.int k (.lit n), asm, .int k n, List.mem_singleton.2 rfl, ha, by simp [SV.den, IX.den], xmin_ok hm hL tys ty w⟩
  · split at h
    · rename_i k a k' b _
      cases h
      obtain ⟨V, Vs, rfl, h1, h2⟩ := denL_cons_inv hL
      obtain ⟨U, Us, rfl, h3, h4⟩ := denL_cons_inv h2
      simp only [SV.denL, Option.some.injEq] at h4; subst h4
      obtain ⟨x, hx, rfl⟩ := den_int h1
      obtain ⟨y, hy, rfl⟩ := den_int h3
      obtain ⟨asm', q1, q2⟩ := ways_ok ha (mkIlt_ok hy hx)
      by_cases hxy : y < x
      · rw [decide_eq_true hxy] at q1
        exact ⟨.int k b, asm', .int k y, List.mem_map.2 ⟨_, q1, rfl⟩, q2, by simp [SV.den, hy], by simp [Builtin.min_, Builtin.min2, hxy]⟩
      · rw [decide_eq_false hxy] at q1
        exact ⟨.int k a, asm', .int k x, List.mem_map.2 ⟨_, q1, rfl⟩, q2, by simp [SV.den, hx], by simp [Builtin.min_, Builtin.min2, hxy]⟩
    · cases h
def evL (a : SAct) : List Operand → Option (List SV)
  | [] => some []
  | x :: l => match a.ev x, evL a l with
    | some v, some m => some (v :: m)
    | _, _ => none
theorem evL_ok {a : SAct} {A : Act} (hA : ActRel E a A) : ∀ {l : List Operand} {m : List SV}, evL a l = some m → SV.denL E m = some (l.map A.eval)
  | [], m, h => by simp only [evL, Option.some.injEq] at h; subst h; simp [SV.denL]
  | x :: l, m, h => by
    simp only [evL] at h
    split at h
    · rename_i v m' hv hm
      cases h
      exact denL_cons (ev_ok hA hv) (evL_ok hA hm)
    · cases h
/-! ### one operand -/
def xun (op : UnOp) (x : SV) : Option SV :=
  match op, x with
  | .not, .bool b => some (.bool (mkNot b))
  | .neg, .int k n => match mkBin .sub k (.lit 0) n with
    | some z => some (.int k z)
    | none => none
  | _, _ => none
theorem xun_ok {op : UnOp} {x v : SV} (hv : xun op x = some v) {X : Value} (hX : x.den E = some X) (w : World) : ∃ V, v.den E = some V ∧ (Op.unary op X).run P w = .ok V w := by
  unfold xun at hv
  split at hv
  · cases hv
    obtain ⟨b, hb, rfl⟩ := den_bool hX
    exact ⟨.bool (!b), by simp [SV.den, mkNot_ok hb], by simp [Op.unary]⟩
  · split at hv
    · rename_i k n _ z hz
      cases hv
      obtain ⟨y, hy, rfl⟩ := den_int hX
      obtain ⟨u, h1, h2⟩ := mkBin_ok (E := E) hz rfl hy
      simp only [intBin, Option.some.injEq] at h1
      subst h1
      exact ⟨.int k (k.wrap (0 - y)), by simp [SV.den, h2], by simp [Op.unary, Op.intArith]⟩
    · cases hv
  · cases hv
def bytesOfCells : List SV → Option (List Nat)
  | [] => some []
  | .int .u8 (.lit (.ofNat n)) :: l => match Nat.blt n 256, bytesOfCells l with
    | true, some m => some (n :: m)
    | _, _ => none
  | _ => none
def encN : List Nat → Nat
  | [] => 0
  | b :: l => b + 256 * encN l
/-- So many cells, whatever rows they lie in. -/
def readOnes (h : T SObj) (id off : Nat) : Nat → Option (List SV)
  | 0 => some []
  | n + 1 => match readCells h id off 1, readOnes h id (off + 1) n with
    | some [v], some l => some (v :: l)
    | _, _ => none
theorem readOnes_ok (M : Mem E h w) {id b base m : Nat} (hb : E.blk id = some (b, base, m)) : ∀ {n off : Nat} {vs : List SV}, readOnes h id off n = some vs → ∃ L, SV.denL E vs = some L ∧ L.length = n ∧ ∀ (j : Nat) (V : Value), L[j]? = some V → w.cell? ((⟨b, base + off, none⟩ : Addr).add j) = some V
  | 0, off, vs, h => by simp only [readOnes, Option.some.injEq] at h; subst h; exact ⟨[], rfl, rfl, fun j V hj => by simp at hj⟩
  | n + 1, off, vs, h => by
    simp only [readOnes] at h
    split at h
    · rename_i v l h1 h2
      cases h
      obtain ⟨L1, a1, a2, a3⟩ := read_cell M h1 hb
      obtain ⟨V, Vs, rfl, a4, a5⟩ := denL_cons_inv a1
      obtain ⟨L2, b1, b2, b3⟩ := readOnes_ok M hb h2
      refine ⟨V :: L2, denL_cons a4 b1, by simp [b2], fun j U hj => ?_⟩
      cases j with
      | zero => exact a3 0 U (by simpa using hj)
      | succ j =>
        have := b3 j U (by simpa using hj)
        rw [add_at] at this ⊢
        rw [← this]
        congr 2
        omega
    · cases h
def xconvert (P : Program) (h : T SObj) (src dst : TypeId) (x : SV) : Option SV :=
  match P.underlying src, P.underlying dst, x with
  | some _, some (.int k), .int _ (.lit n) => some (.int k (.lit (k.wrap n)))
  | some _, some (.int k), .int _ n => some (.int k (.bin .add k n (.lit 0)))
  | some _, some .string, .str s => some (.str s)
  | some (.slice e), some .string, x => match P.underlying e with
    | some (.int .u8) => match x with
      | .nils => some (.str (.lit 0 0))
      | .slc id off len cap es => match readOnes h id off len with
        | some cs => match bytesOfCells cs with
          | some bs => some (.str (.lit bs.length (encN bs)))
          | none => none
        | none => none
      | _ => none
    | _ => none
  | _, _, _ => none
theorem encN_enc : ∀ {l : List Nat}, (∀ n ∈ l, n < 256) → encN l = enc (l.map UInt8.ofNat)
  | [], _ => rfl
  | b :: l, h => by
    have hb := h b (by simp)
    have ih := encN_enc (l := l) (fun n hn => h n (by simp [hn]))
    simp only [encN, List.map_cons, enc, ih]
    have : (UInt8.ofNat b).toNat = b := by simp; omega
    rw [this]
theorem bytesOfCells_ok : ∀ {cs : List SV} {bs : List Nat} {L : List Value}, bytesOfCells cs = some bs → SV.denL E cs = some L → L = bs.map (fun n : Nat => Value.int .u8 (n : Int)) ∧ ∀ n ∈ bs, n < 256
  | [], bs, L, h, hL => by simp only [bytesOfCells, Option.some.injEq] at h; subst h; simp [SV.denL] at hL; subst hL; simp
  | c :: cs, bs, L, h, hL => by
    unfold bytesOfCells at h
    split at h
    · rename_i e; cases e
    · rename_i n l e
      cases e
      split at h
      · rename_i m hlt hm
        cases h
        obtain ⟨V, Vs, rfl, h1, h2⟩ := denL_cons_inv hL
        obtain ⟨h3, h4⟩ := bytesOfCells_ok hm h2
        have := den_lit h1
        subst this
        have hlt : n < 256 := by simpa [Nat.blt_eq] using hlt
        refine ⟨by simp [h3], fun k hk => ?_⟩
        rcases List.mem_cons.1 hk with rfl | hk
        · exact hlt
        · exact h4 k hk
      · cases h
    · cases h
theorem run_bytes_loop {P : Program} {f : Value → ByteArray → Sem (ForInStep ByteArray)} (hf : ∀ (n : Int) s, f (.int .u8 n) s = pure (ForInStep.yield (s.push (UInt8.ofNat n.toNat)))) (w : World) : ∀ (bs : List Nat) (s : ByteArray),
    (forIn (bs.map (fun n : Nat => Value.int .u8 (n : Int))) s f : Sem ByteArray).run P w = .ok ⟨s.data ++ (bs.map UInt8.ofNat).toArray⟩ w
  | [], s => by simp
  | b :: bs, s => by
    simp only [List.map_cons, List.forIn_cons, hf, Sem.run_bind, Sem.run_pure, Result.andThen_ok, Int.toNat_natCast]
    rw [run_bytes_loop hf w bs]
    congr 1
    apply ByteArray.ext
    simp [ByteArray.push]
theorem xconvert_ok (M : Mem E h w) {src dst : TypeId} {x v : SV} (hv : xconvert P h src dst x = some v) {X : Value} (hX : x.den E = some X) : ∃ V, v.den E = some V ∧ (convert src dst X).run P w = .ok V w := by
  unfold xconvert at hv
  split at hv
  · rename_i d k k' n hu hu'
    cases hv
    have := den_lit hX
    subst this
    exact ⟨.int k (k.wrap n), by simp [SV.den, IX.den], by cases d <;> simp [convert, run_underlying hu, run_underlying hu', Conv.intToInt]⟩
  · rename_i d k k' n _ hu hu'
    cases hv
    obtain ⟨z, hz, rfl⟩ := den_int hX
    exact ⟨.int k (k.wrap z), by simp [SV.den, IX.den, hz, intBin], by cases d <;> simp [convert, run_underlying hu, run_underlying hu', Conv.intToInt]⟩
  · rename_i d s hu hu'
    cases hv
    obtain ⟨b, hb, rfl⟩ := den_str hX
    exact ⟨.string b, by simp [SV.den, hb], by cases d <;> simp [convert, run_underlying hu, run_underlying hu']⟩
  · rename_i e hu hu' _
    split at hv
    · rename_i he
      split at hv
      · cases hv
        obtain rfl := den_nil0.2.1 hX
        refine ⟨.string .empty, by simp [SV.den, SX.den]; rfl, by simp [convert, run_underlying hu, run_underlying hu', run_underlying he, Conv.bytesToString]⟩
      · rename_i id off len cap es _
        obtain ⟨b, base, m, hb, rfl⟩ := den_slc hX
        split at hv
        · rename_i cs hcs
          split at hv
          · rename_i bs hbs
            cases hv
            obtain ⟨L, l1, l2, l3⟩ := readOnes_ok M hb hcs
            obtain ⟨h1, h2⟩ := bytesOfCells_ok hbs l1
            have hlen : bs.length = len := by rw [← l2, h1]; simp
            refine ⟨.string ⟨(bs.map UInt8.ofNat).toArray⟩, ?_, ?_⟩
            · simp only [SV.den, SX.den, Option.some.injEq, Value.string.injEq]
              unfold txt
              rw [encN_enc h2]
              have := dec_enc (bs.map UInt8.ofNat)
              rw [List.length_map] at this
              rw [this]
            · have hload : (loadCells ⟨b, base + off, none⟩ len).run P w = .ok L.toArray w := by rw [← l2]; exact run_loadCells_list (P := P) w _ L l3
              simp only [convert, Sem.run_bind, run_underlying hu, run_underlying hu', Result.andThen_ok, run_underlying he, Conv.bytesToString, hload]
              rw [← Array.forIn_toList]
              simp only [h1]
              rw [run_bytes_loop (fun _ _ => rfl)]
              simp
          · cases hv
        · cases hv
      · cases hv
    · cases hv
  · cases hv
end
end Go.Sx
