/-
  A symbolic run of Go functions by computation (part 11): ranges, copy, delete; all operations that act on memory.
-/
import Derived.Test.YtkckgjjhnjcffaaSxA
namespace Go.Sx
set_option linter.unusedVariables false
set_option linter.unusedSimpArgs false

section
variable {P : Program} {w0 w : World} {E : Env} {s : St}
/-! ### ranges -/
def xrange (P : Program) (s : St) (t : TypeId) (x : SV) : Option (List (SV × St)) :=
  match P.underlying t, x with
  | some .string, .str (.lit n c) => some [(.ptr s.next 0, { s with h := s.h.put s.next (.siter (.lit n c) 0), next := s.next + 1 })]
  | some (.map _ _), .map id => match s.h.get id with
    | some (.map es clock) => some [(.ptr s.next 0, { s with h := s.h.put s.next (.miter id clock [] clock), next := s.next + 1 })]
    | _ => none
  | _, _ => none
theorem xrange_ok (R : Rel w0 E s w) {t : TypeId} {x : SV} {outs : List (SV × St)} (h : xrange P s t x = some outs) {A : Act} {o : Oper} {xo : Operand} (hx : x.den E = some (A.eval xo)) (ho : o.op = .range t xo) : EffOk P w0 E A o w outs := by
  unfold xrange at h
  split at h
  · rename_i n c hu
    cases h
    obtain ⟨b, hb, hX⟩ := den_str hx
    simp only [SX.den, Option.some.injEq] at hb; subst hb
    have le := R.le_new w.heap.size 0 0
    refine ⟨.ptr s.next 0, _, _, .pointer (some ⟨w.heap.size, 0, none⟩), _, List.mem_singleton.2 rfl, le, R.alloc (.stringIter (txt n c) 0) 0 (so := .siter (.lit n c) 0) ⟨rfl, _, rfl, rfl⟩, by simp [SV.den, Env.add_new], .inl ?_⟩
    simp only [execOp, ho, hX, Instr.range, Sem.run_bind, run_underlying hu, Result.andThen_ok, Sem.run_pure, run_newObj]
    rfl
  · rename_i kt et id hu
    split at h
    · rename_i es clock hid
      cases h
      obtain ⟨b, base, n, hb, hX⟩ := den_map hx
      obtain ⟨b', base', n', hb', ents, h1, h2⟩ := R.mem id _ hid rfl
      rw [hb] at hb'; cases hb'
      have hg : (getObj b).run P w = .ok (.map ents clock) w := by simp [getObj, Sem.run, h1]
      have le := R.le_new w.heap.size 0 0
      refine ⟨.ptr s.next 0, _, _, .pointer (some ⟨w.heap.size, 0, none⟩), _, List.mem_singleton.2 rfl, le, R.alloc (.mapIter (some b) clock #[] clock) 0 (so := .miter id clock [] clock) ⟨rfl, b, base, n, rfl, le.blk _ _ hb⟩, by simp [SV.den, Env.add_new], .inl ?_⟩
      simp only [execOp, ho, hX, Instr.range, Sem.run_bind, run_underlying hu, Result.andThen_ok, Sem.run_pure, hg, run_newObj]
      rfl
    · cases h
  · cases h
def ascii (n c pos : Nat) : Nat × Nat :=
  match Nat.blt (c / 256 ^ pos % 256) 128 with
  | true => (c / 256 ^ pos % 256, 1)
  | false => Utf8.decode (txt n c) pos
theorem ascii_ok {n c pos : Nat} (h : pos < n) : ascii n c pos = Utf8.decode (txt n c) pos := by
  unfold ascii
  split
  · rename_i e
    have e : c / 256 ^ pos % 256 < 128 := by simpa [Nat.blt_eq] using e
    have hb : ((txt n c).get! pos).toNat = c / 256 ^ pos % 256 := by
      have h1 := dec_get n c pos h
      have h2 : (txt n c).get! pos = UInt8.ofNat (c / 256 ^ pos % 256) := by
        unfold ByteArray.get! txt
        simp only
        rw [getElem!_pos _ _ (by simpa using h)]
        simpa using (List.getElem?_eq_some_iff.1 h1).2
      rw [h2]
      simp
    unfold Utf8.decode
    simp only [Nat.add_zero, hb]
    rw [if_pos (by omega)]
  · rfl
def isEmptyL {α : Type} : List α → Bool
  | [] => true
  | _ => false
/-- The entries that a range over a map may come to next. -/
def cands (es : List (SV × SV × Nat)) (since : Nat) (seen : List Nat) : List (Option (SV × SV × Nat)) :=
  let left := es.filter fun e => !seen.contains e.2.2
  let old := left.filter fun e => decide (e.2.2 < since)
  let new := left.filter fun e => decide (since ≤ e.2.2)
  (match old with | [] => [none] | _ => []) ++ (old ++ new).map some
def xnext (s : St) (it : SV) (isString : Bool) : Option (List (SV × St)) :=
  match it with
  | .ptr id 0 => match s.h.get id, isString with
    | some (.siter (.lit n c) pos), true => match Nat.blt pos n with
      | true => match ascii n c pos with
        | (ch, width) => some [(.tup [.bool (.lit true), .int .i64 (.lit (.ofNat pos)), .int .i32 (.lit (.ofNat ch))], { s with h := s.h.put id (.siter (.lit n c) (pos + width)) })]
      | false => some [(.tup [.bool (.lit false)], s)]
    | some (.miter m since seen last), false => match s.h.get m with
      | some (.map es clock) => match (!isEmptyL seen) && ((!isEmptyL es) && es.all fun e => decide (last ≤ e.2.2)) with
        | true => none
        | false => some ((cands es since seen).map fun c => match c with
          | some (k, v, n) => (.tup [.bool (.lit true), k, v], { s with h := s.h.put id (.miter m since (seen ++ [n]) clock) })
          | none => (.tup [.bool (.lit false)], s))
      | _ => none
    | _, _ => none
  | _ => none
theorem entsOk_filter {p : Nat → Bool} : ∀ {l : List (SV × SV × Nat)} {m : List MapEntry}, entsOk E l m → entsOk E (l.filter fun e => p e.2.2) (m.filter fun e => p e.born)
  | [], [], _ => trivial
  | [], _ :: _, h => h.elim
  | (_, _, _) :: _, [], h => h.elim
  | (k, v, n) :: l, e :: m, h => by
    obtain ⟨h1, h2, h3, h4⟩ := h
    have ih := entsOk_filter (p := p) h4
    simp only [List.filter_cons, h3]
    split
    · exact ⟨h1, h2, h3, ih⟩
    · exact ih
theorem entsOk_append : ∀ {l l' : List (SV × SV × Nat)} {m m' : List MapEntry}, entsOk E l m → entsOk E l' m' → entsOk E (l ++ l') (m ++ m')
  | [], _, [], _, _, h => h
  | [], _, _ :: _, _, h, _ => h.elim
  | (_, _, _) :: _, _, [], _, h, _ => h.elim
  | (_, _, _) :: _, _, _ :: _, _, h, h' => ⟨h.1, h.2.1, h.2.2.1, entsOk_append h.2.2.2 h'⟩
theorem entsOk_all {p : Nat → Bool} : ∀ {l : List (SV × SV × Nat)} {m : List MapEntry}, entsOk E l m → (l.all fun e => p e.2.2) = m.all fun e => p e.born
  | [], [], _ => rfl
  | [], _ :: _, h => h.elim
  | (_, _, _) :: _, [], h => h.elim
  | (k, v, n) :: l, e :: m, h => by simp only [List.all_cons, h.2.2.1, entsOk_all h.2.2.2]
theorem entsOk_nth : ∀ {l : List (SV × SV × Nat)} {m : List MapEntry} {i : Nat} {e : MapEntry}, entsOk E l m → m[i]? = some e → ∃ k v, l[i]? = some (k, v, e.born) ∧ k.den E = some e.key ∧ v.den E = some e.val
  | [], [], i, e, _, h => by simp at h
  | [], _ :: _, _, _, h, _ => h.elim
  | (_, _, _) :: _, [], _, _, h, _ => h.elim
  | (k, v, n) :: l, e0 :: m, 0, e, h, hi => by
    simp at hi; subst hi
    exact ⟨k, v, by simp [h.2.2.1], h.1, h.2.1⟩
  | (k, v, n) :: l, e0 :: m, i + 1, e, h, hi => by
    obtain ⟨k', v', h1, h2⟩ := entsOk_nth (i := i) h.2.2.2 (by simpa using hi)
    exact ⟨k', v', by simpa using h1, h2⟩
theorem xnext_ok (R : Rel w0 E s w) {it : SV} {isString : Bool} {outs : List (SV × St)} (h : xnext s it isString = some outs) {I : Value} (hI : it.den E = some I) (ty : TypeId) :
    ∃ v s' V w', (v, s') ∈ outs ∧ Rel w0 E s' w' ∧ v.den E = some V ∧ (Instr.next I isString ty).run P w = .ok V w' := by
  unfold xnext at h
  split at h
  · rename_i id
    obtain ⟨b, base, m0, hb, rfl⟩ := den_ptr hI
    split at h
    · rename_i n c pos hid
      obtain ⟨b', base', n', hb', hbase, bs, h1, h2⟩ := R.mem id _ hid rfl
      rw [hb] at hb'; cases hb'
      subst hbase
      simp only [SX.den, Option.some.injEq] at h1; subst h1
      have hlt : b < w.heap.size := (Array.getElem?_eq_some_iff.1 h2).1
      have hg : (getObj b).run P w = .ok (.stringIter (txt n c) pos) w := by simp [getObj, Sem.run, h2]
      have hset : ∀ O, (setObj b O).run P w = .ok () { w with heap := w.heap.setIfInBounds b O } := fun O => by simp [setObj, Sem.run, h2]
      split at h
      · rename_i hp
        have hp : pos < n := by simpa [Nat.blt_eq] using hp
        split at h
        rename_i ch width hasc
        cases h
        rw [ascii_ok hp] at hasc
        refine ⟨_, _, .tuple #[.bool true, .int .i64 pos, .int .i32 ch], _, List.mem_singleton.2 rfl, R.upd hid rfl hb (Upd.setObj hlt (.stringIter (txt n c) (pos + width))) (so := .siter (.lit n c) (pos + width)) ⟨rfl, _, rfl, rfl⟩, by simp [SV.den, SV.denL, BX.den, IX.den], ?_⟩
        simp only [Instr.next, Sem.run_bind, hg, Result.andThen_ok, size_txt, if_pos hp, hasc, hset, Sem.run_pure, goInt]
      · rename_i hp
        have hp : ¬ pos < n := fun e => by have : Nat.blt pos n = true := by simpa [Nat.blt_eq] using e
                                           rw [this] at hp; cases hp
        cases h
        refine ⟨_, _, .tuple #[.bool false], w, List.mem_singleton.2 rfl, R, by simp [SV.den, SV.denL, BX.den], ?_⟩
        simp only [Instr.next, Sem.run_bind, hg, Result.andThen_ok, size_txt, if_neg hp, Sem.run_pure]
    · rename_i m since seen last hid
      obtain ⟨b', base', n', hb', hbase, x, y, z, h1, h2⟩ := R.mem id _ hid rfl
      rw [hb] at hb'; cases hb'
      subst hbase
      split at h
      · rename_i es clock hm
        obtain ⟨b2, base2, n2, hb2, ents, h3, h4⟩ := R.mem m _ hm rfl
        rw [h2] at hb2; cases hb2
        have hlt : b < w.heap.size := (Array.getElem?_eq_some_iff.1 h1).1
        split at h
        · cases h
        · rename_i hc
          cases h
          have hgi : (getObj b).run P w = .ok (.mapIter (some x) since seen.toArray last) w := by simp [getObj, Sem.run, h1]
          have hgm : (getObj x).run P w = .ok (.map ents clock) w := by simp [getObj, Sem.run, h3]
          have hcond : (!seen.toArray.isEmpty && !ents.isEmpty && ents.all (fun e => decide (e.born ≥ last))) = false := by
            have e1 : seen.toArray.isEmpty = isEmptyL seen := by cases seen <;> rfl
            have e2 : ents.isEmpty = isEmptyL es := by
              have hl := entsOk_length h4
              cases es with
              | nil =>
                have : ents = #[] := by apply Array.ext'; cases hh : ents.toList <;> simp_all
                subst this; rfl
              | cons a b =>
                have : ents.size ≠ 0 := by have : ents.toList.length = ents.size := by simp
                                           simp at hl; omega
                simp [isEmptyL, Array.isEmpty, this]
            have e3 : ents.all (fun e => decide (e.born ≥ last)) = es.all (fun e => decide (last ≤ e.2.2)) := by
              rw [entsOk_all (p := fun n => decide (last ≤ n)) h4]
              simp
            rw [e1, e2, e3, Bool.and_assoc]
            exact hc
          -- the candidates
          have hfl : entsOk E (es.filter fun e => !seen.contains e.2.2) (ents.toList.filter fun e => !seen.contains e.born) := entsOk_filter (p := fun n => !seen.contains n) h4
          have hold := entsOk_filter (p := fun n => decide (n < since)) hfl
          have hnew := entsOk_filter (p := fun n => decide (since ≤ n)) hfl
          let left := ents.filter fun e => !seen.toArray.contains e.born
          let cs : Array (Option MapEntry) := (if (left.filter fun e => decide (e.born < since)).isEmpty then #[none] else #[]) ++ ((left.filter fun e => decide (e.born < since)) ++ (left.filter fun e => decide (e.born ≥ since))).map some
          have hleft : left.toList = ents.toList.filter fun e => !seen.contains e.born := by simp [left]
          have hne : 0 < cs.size := by
            simp only [cs]
            by_cases e : (left.filter fun e => decide (e.born < since)).isEmpty = true
            · simp only [if_pos e, Array.size_append]; simp; omega
            · have : (left.filter fun e => decide (e.born < since)).size ≠ 0 := by simpa [Array.isEmpty] using e
              simp only [Array.size_append, Array.size_map]
              omega
          have hcand : ∀ (i : Nat) (c : Option MapEntry), cs[i]? = some c → match c with
              | none => none ∈ cands es since seen
              | some e => ∃ k v, some (k, v, e.born) ∈ cands es since seen ∧ k.den E = some e.key ∧ v.den E = some e.val := by
            intro i c hi
            have hi' : cs.toList[i]? = some c := by simpa using hi
            have hmem : c ∈ cs.toList := List.mem_of_getElem? hi'
            simp only [cs, Array.toList_append, Array.toList_map, hleft, Array.toList_filter] at hmem
            have hnil : ((left.filter fun e => decide (e.born < since)).isEmpty = true) → (es.filter (fun e => !seen.contains e.2.2)).filter (fun e => decide (e.2.2 < since)) = [] := by
              intro e
              have hl := entsOk_length hold
              have e4 : (left.filter fun e => decide (e.born < since)).toList.length = 0 := by simpa [Array.isEmpty] using e
              rw [Array.toList_filter, hleft] at e4
              rw [e4] at hl
              exact List.length_eq_zero_iff.1 hl
            rcases List.mem_append.1 hmem with hh | hh
            · split at hh
              · rename_i e
                simp at hh; subst hh
                simp only
                unfold cands
                simp only [hnil e]
                simp
              · simp at hh
            · obtain ⟨e, he, rfl⟩ := List.mem_map.1 hh
              simp only
              obtain ⟨j, hj⟩ := List.getElem?_of_mem he
              have hge : (List.filter (fun e => decide (e.born ≥ since)) (List.filter (fun e => !seen.contains e.born) ents.toList)) = (List.filter (fun e => decide (since ≤ e.born)) (List.filter (fun e => !seen.contains e.born) ents.toList)) := rfl
              rw [hge] at hj
              obtain ⟨k, v, k1, k2, k3⟩ := entsOk_nth (entsOk_append hold hnew) hj
              refine ⟨k, v, ?_, k2, k3⟩
              unfold cands
              exact List.mem_append.2 (.inr (List.mem_map.2 ⟨_, List.mem_of_getElem? k1, rfl⟩))
          -- the choice
          obtain ⟨i, w1, hch, hilt, hw1⟩ : ∃ i w1, (choose (.mapNext cs.size)).run P w = .ok i w1 ∧ i < cs.size ∧ (w1 = w ∨ w1 = w.drew) := by
            rw [run_choose]
            by_cases hf : (Question.mapNext cs.size).forced = true
            · rw [if_pos hf]; exact ⟨0, w, rfl, hne, .inl rfl⟩
            · rw [if_neg hf]; exact ⟨_, _, rfl, by simp only [Question.cut]; exact Nat.mod_lt _ hne, .inr rfl⟩
          have R1 : Rel w0 E s w1 := by rcases hw1 with rfl | rfl <;> first | exact R | exact R.same rfl rfl rfl rfl
          have hheap : w1.heap = w.heap := by rcases hw1 with rfl | rfl <;> rfl
          obtain ⟨c, hc⟩ : ∃ c, cs[i]? = some c := ⟨_, Array.getElem?_eq_getElem hilt⟩
          have hm := hcand i c hc
          have hrun : (Instr.next (.pointer (some ⟨b, 0 + 0, none⟩)) false ty).run P w = ((match cs[i]? with
              | some (some e) => do
                setObj b (.mapIter (some x) since (seen.toArray.push e.born) clock)
                pure (.tuple #[.bool true, e.key, e.val])
              | some none => pure (.tuple #[.bool false])
              | none => stuck "Next: no such candidate") : Sem Value).run P w1 := by
            simp only [Instr.next, Sem.run_bind, hgi, Result.andThen_ok, hgm, hcond, Bool.false_eq_true, if_false]
            rw [hch]
            rfl
          rw [hrun, hc]
          cases c with
          | none =>
            simp only at hm
            exact ⟨.tup [.bool (.lit false)], s, .tuple #[.bool false], w1, List.mem_map.2 ⟨_, hm, rfl⟩, R1, by simp [SV.den, SV.denL, BX.den], rfl⟩
          | some e =>
            obtain ⟨k, v, k1, k2, k3⟩ := hm
            have h1' : w1.heap[b]? = some (.mapIter (some x) since seen.toArray last) := by rw [hheap]; exact h1
            refine ⟨_, _, .tuple #[.bool true, e.key, e.val], _, List.mem_map.2 ⟨_, k1, rfl⟩, R1.upd hid rfl hb (Upd.setObj (by rw [hheap]; exact hlt) (.mapIter (some x) since (seen.toArray.push e.born) clock)) (so := .miter m since (seen ++ [e.born]) clock) ⟨rfl, x, y, z, by simp, h2⟩, by simp [SV.den, SV.denL, BX.den, k2, k3], ?_⟩
            simp [setObj, Sem.run, h1']
      · cases h
    · cases h
  · cases h
theorem stampAt_find {n : Nat} : ∀ {l : List (SV × SV × Nat)} {m : List MapEntry} {i0 i : Nat} {k v : SV}, entsOk E l m → stampAt n l i0 = some (i, k, v) → ∃ e, m.find? (fun e => e.born == n) = some e ∧ k.den E = some e.key ∧ v.den E = some e.val
  | [], m, i0, i, k, v, _, h => by simp [stampAt] at h
  | (_, _, _) :: _, [], _, _, _, _, h, _ => h.elim
  | (k0, v0, m0) :: l, e :: m, i0, i, k, v, he, h => by
    simp only [stampAt] at h
    obtain ⟨h1, h2, h3, h4⟩ := he
    split at h
    · rename_i e1
      have e1 := Nat.eq_of_beq_eq_true e1
      cases h
      subst e1
      exact ⟨e, by simp [List.find?_cons, h3], h1, h2⟩
    · rename_i e1
      have e1 := Nat.ne_of_beq_eq_false e1
      obtain ⟨e', a1, a2⟩ := stampAt_find h4 h
      have : (e.born == n) = false := by rw [h3]; simpa using e1
      exact ⟨e', by simp [List.find?_cons, this, a1], a2⟩
def xentry (s : St) (it : SV) : Option SV :=
  match it with
  | .ptr id 0 => match s.h.get id with
    | some (.miter m since seen last) => match seen.getLast?, s.h.get m with
      | some st, some (.map es clock) => match Nat.beq clock last, stampAt st es 0 with
        | true, some (i, k, v) => some (.tup [k, v])
        | _, _ => none
      | _, _ => none
    | _ => none
  | _ => none
theorem xentry_ok (R : Rel w0 E s w) {it v : SV} (h : xentry s it = some v) {I : Value} (hI : it.den E = some I) : ∃ V, v.den E = some V ∧ (Instr.entry I).run P w = .ok V w := by
  unfold xentry at h
  split at h
  · rename_i id
    obtain ⟨b, base, m0, hb, rfl⟩ := den_ptr hI
    split at h
    · rename_i m since seen last hid
      obtain ⟨b', base', n', hb', hbase, x, y, z, h1, h2⟩ := R.mem id _ hid rfl
      rw [hb] at hb'; cases hb'
      subst hbase
      split at h
      · rename_i st es clock hst hm
        obtain ⟨b2, base2, n2, hb2, ents, h3, h4⟩ := R.mem m _ hm rfl
        rw [h2] at hb2; cases hb2
        split at h
        · rename_i i k v' hcl hat
          have hcl := Nat.eq_of_beq_eq_true hcl
          subst hcl
          cases h
          obtain ⟨e, e1, e2, e3⟩ := stampAt_find h4 hat
          have hgi : (getObj b).run P w = .ok (.mapIter (some x) since seen.toArray clock) w := by simp [getObj, Sem.run, h1]
          have hgm : (getObj x).run P w = .ok (.map ents clock) w := by simp [getObj, Sem.run, h3]
          have hback : seen.toArray.back? = some st := by simp [hst]
          have hfind : ents.find? (fun e => e.born == st) = some e := by rw [← e1]; cases ents; simp
          refine ⟨.tuple #[e.key, e.val], by simp [SV.den, SV.denL, e2, e3], ?_⟩
          simp only [Instr.entry, Sem.run_bind, hgi, Result.andThen_ok, hback, hgm, hfind, bne_self_eq_false, Bool.false_eq_true, if_false, Sem.run_pure]
        · cases h
      · cases h
    · cases h
  · cases h

/-! ### all of them -/
def keAlloc (t : TypeId) (P : Program) (s : St) (a : SAct) : Option (List (SV × St)) := xalloc P s t
def keBox (t : TypeId) (x : Operand) (P : Program) (s : St) (a : SAct) : Option (List (SV × St)) := match a.ev x with
  | some v => some (xbox s v t)
  | none => none
def keStore (t : TypeId) (x : Operand) (y : Operand) (P : Program) (s : St) (a : SAct) : Option (List (SV × St)) := match a.ev x, a.ev y with
  | some u, some v => xstore P s t u v
  | _, _ => none
def keBuildSlice (t : TypeId) (len : Nat) (parts : Array (Nat × Operand)) (P : Program) (s : St) (a : SAct) : Option (List (SV × St)) := xbuildSlice P s a t len parts
def keMakeSlice (t : TypeId) (l : Operand) (c : Operand) (P : Program) (s : St) (a : SAct) : Option (List (SV × St)) := match a.ev l, a.ev c with
  | some u, some v => xmakeSlice P s t u v
  | _, _ => none
def keMakeMap (t : TypeId) (r : Option Operand) (P : Program) (s : St) (a : SAct) : Option (List (SV × St)) := match natO a r with
  | some n => xmakeMap P s t n true
  | none => none
def keMapUpdate (t : TypeId) (m : Operand) (k : Operand) (x : Operand) (P : Program) (s : St) (a : SAct) : Option (List (SV × St)) := match a.ev m, a.ev k, a.ev x with
  | some u, some v, some y => xmapUpdate P s t u v y
  | _, _, _ => none
def keInsert (t : TypeId) (m : Operand) (k : Operand) (x : Operand) (P : Program) (s : St) (a : SAct) : Option (List (SV × St)) := match a.ev m, a.ev k, a.ev x with
  | some u, some v, some y => xmapUpdate P s t u v y
  | _, _, _ => none
def keMapEntry (t : TypeId) (m : Operand) (k : Operand) (P : Program) (s : St) (a : SAct) : Option (List (SV × St)) := match a.ev m, a.ev k with
  | some u, some v => xmapEntry P s t u v
  | _, _ => none
def keEntryStore (t : TypeId) (m : Operand) (st : Operand) (x : Operand) (P : Program) (s : St) (a : SAct) : Option (List (SV × St)) := match a.ev m, a.ev st, a.ev x with
  | some u, some v, some y => xentryStore s u v y
  | _, _, _ => none
def keRange (t : TypeId) (x : Operand) (P : Program) (s : St) (a : SAct) : Option (List (SV × St)) := match a.ev x with
  | some v => xrange P s t v
  | none => none
def keNext (it : Operand) (str : Bool) (P : Program) (s : St) (a : SAct) : Option (List (SV × St)) := match a.ev it with
  | some v => xnext s v str
  | none => none
def keEntry (it : Operand) (P : Program) (s : St) (a : SAct) : Option (List (SV × St)) := match a.ev it with
  | some v => match xentry s v with
    | some u => some [(u, s)]
    | none => none
  | none => none
def keCall (args : Array Operand) (tys : Array TypeId) (P : Program) (s : St) (a : SAct) : Option (List (SV × St)) :=
  match args.toList, tys[0]? with
  | [x, y], some t => match a.ev x, a.ev y with
    | some u, some v => match xappend P s t tys[1]? u v with
      | some r => some [r]
      | none => none
    | _, _ => none
  | _, _ => none
def keNone (P : Program) (s : St) (a : SAct) : Option (List (SV × St)) := none
def keOf : Op → Program → St → SAct → Option (List (SV × St))
  | .alloc t => keAlloc t
  | .box t x => keBox t x
  | .store t x y => keStore t x y
  | .buildSlice t len parts => keBuildSlice t len parts
  | .makeSlice t l c => keMakeSlice t l c
  | .makeMap t r => keMakeMap t r
  | .mapUpdate t m k x => keMapUpdate t m k x
  | .insert t m k x => keInsert t m k x
  | .mapEntry t m k => keMapEntry t m k
  | .entryStore t m st x => keEntryStore t m st x
  | .range t x => keRange t x
  | .next it str => keNext it str
  | .entry it => keEntry it
  | .call { callee := .builtin .append, args := args, argTypes := tys } => keCall args tys
  | _ => keNone
def xEff (P : Program) (s : St) (a : SAct) (o : Oper) : Option (List (SV × St)) :=
  keOf o.op P s a
/-- The same in one piece. -/
def xEff0 (P : Program) (s : St) (a : SAct) (o : Oper) : Option (List (SV × St)) :=
  match o.op with
  | .alloc t => xalloc P s t
  | .box t x => match a.ev x with
    | some v => some (xbox s v t)
    | none => none
  | .store t x y => match a.ev x, a.ev y with
    | some u, some v => xstore P s t u v
    | _, _ => none
  | .buildSlice t len parts => xbuildSlice P s a t len parts
  | .makeSlice t l c => match a.ev l, a.ev c with
    | some u, some v => xmakeSlice P s t u v
    | _, _ => none
  | .makeMap t r => match natO a r with
    | some n => xmakeMap P s t n true
    | none => none
  | .mapUpdate t m k x => match a.ev m, a.ev k, a.ev x with
    | some u, some v, some y => xmapUpdate P s t u v y
    | _, _, _ => none
  | .insert t m k x => match a.ev m, a.ev k, a.ev x with
    | some u, some v, some y => xmapUpdate P s t u v y
    | _, _, _ => none
  | .mapEntry t m k => match a.ev m, a.ev k with
    | some u, some v => xmapEntry P s t u v
    | _, _ => none
  | .entryStore t m st x => match a.ev m, a.ev st, a.ev x with
    | some u, some v, some y => xentryStore s u v y
    | _, _, _ => none
  | .range t x => match a.ev x with
    | some v => xrange P s t v
    | none => none
  | .next it str => match a.ev it with
    | some v => xnext s v str
    | none => none
  | .entry it => match a.ev it with
    | some v => match xentry s v with
      | some u => some [(u, s)]
      | none => none
    | none => none
  | .call { callee := .builtin .append, args := args, argTypes := tys } =>
    match args.toList, tys[0]? with
    | [x, y], some t => match a.ev x, a.ev y with
      | some u, some v => match xappend P s t tys[1]? u v with
        | some r => some [r]
        | none => none
      | _, _ => none
    | _, _ => none
  | _ => none
theorem xEff_eq (P : Program) (s : St) (a : SAct) (o : Oper) : xEff P s a o = xEff0 P s a o := by
  unfold xEff xEff0
  cases o.op <;> first | rfl | (rename_i c; cases c with | mk callee args tys => cases callee <;> first | rfl | (rename_i b; cases b <;> rfl))
theorem xEff_ok (R : Rel w0 E s w) {a : SAct} {A : Act} (hA : ActRel E a A) {o : Oper} {outs : List (SV × St)} (e : xEff P s a o = some outs) : EffOk P w0 E A o w outs := by
  rw [xEff_eq] at e
  unfold xEff0 at e
  split at e
  · rename_i t ho; exact xalloc_ok R e ho
  · rename_i t x ho
    split at e
    · rename_i v hv; cases e; exact xbox_ok R (ev_ok hA hv) ho
    · cases e
  · rename_i t x y ho
    split at e
    · rename_i u v hu hv; exact xstore_ok R e (ev_ok hA hu) (ev_ok hA hv) ho
    · cases e
  · rename_i t len parts ho; exact xbuildSlice_ok R hA e ho
  · rename_i t l c ho
    split at e
    · rename_i u v hu hv; exact xmakeSlice_ok R e (ev_ok hA hu) (ev_ok hA hv) ho
    · cases e
  · rename_i t r ho
    split at e
    · rename_i n hn; exact xmakeMap_ok R e (natO_ok hA hn) ho
    · cases e
  · rename_i t m k x ho
    split at e
    · rename_i u v y hu hv hy
      obtain ⟨s', w', h1, h2, h3⟩ := xmapUpdate_ok R e (ev_ok hA hu) (ev_ok hA hv) (ev_ok hA hy)
      exact ⟨skipV, s', E, undef, w', h1, .refl E, h2, skipV_den E, .inr ⟨by simp only [execOp, ho, Sem.run_bind, h3, Result.andThen_ok, Sem.run_pure], rfl⟩⟩
    · cases e
  · rename_i t m k x ho
    split at e
    · rename_i u v y hu hv hy
      obtain ⟨s', w', h1, h2, h3⟩ := xmapUpdate_ok R e (ev_ok hA hu) (ev_ok hA hv) (ev_ok hA hy)
      exact ⟨skipV, s', E, undef, w', h1, .refl E, h2, skipV_den E, .inr ⟨by simp only [execOp, ho, Sem.run_bind, h3, Result.andThen_ok, Sem.run_pure], rfl⟩⟩
    · cases e
  · rename_i t m k ho
    split at e
    · rename_i u v hu hv
      obtain ⟨v', s', V, w', h1, h2, h3, h4⟩ := xmapEntry_ok R e (ev_ok hA hu) (ev_ok hA hv)
      exact ⟨v', s', E, V, w', h1, .refl E, h2, h3, .inl (by simp only [execOp, ho, Sem.run_bind, h4, Result.andThen_ok, Sem.run_pure])⟩
    · cases e
  · rename_i t m st x ho
    split at e
    · rename_i u v y hu hv hy
      obtain ⟨s', w', h1, h2, h3⟩ := xentryStore_ok (P := P) (t := t) R e (ev_ok hA hu) (ev_ok hA hv) (ev_ok hA hy)
      exact ⟨skipV, s', E, undef, w', h1, .refl E, h2, skipV_den E, .inr ⟨by simp only [execOp, ho, Sem.run_bind, h3, Result.andThen_ok, Sem.run_pure], rfl⟩⟩
    · cases e
  · rename_i t x ho
    split at e
    · rename_i v hv; exact xrange_ok R e (ev_ok hA hv) ho
    · cases e
  · rename_i it str ho
    split at e
    · rename_i v hv
      obtain ⟨v', s', V, w', h1, h2, h3, h4⟩ := xnext_ok (P := P) R e (ev_ok hA hv) o.type
      exact ⟨v', s', E, V, w', h1, .refl E, h2, h3, .inl (by simp only [execOp, ho, Sem.run_bind, h4, Result.andThen_ok, Sem.run_pure])⟩
    · cases e
  · rename_i it ho
    split at e
    · rename_i v hv
      split at e
      · rename_i u hu
        cases e
        obtain ⟨V, h1, h2⟩ := xentry_ok (P := P) R hu (ev_ok hA hv)
        exact ⟨u, s, E, V, w, by simp, .refl E, R, h1, .inl (by simp only [execOp, ho, Sem.run_bind, h2, Result.andThen_ok, Sem.run_pure])⟩
      · cases e
    · cases e
  · rename_i args tys ho
    split at e
    · rename_i x y t hx ht
      split at e
      · rename_i u v hu hv
        split at e
        · rename_i r hr
          cases e
          obtain ⟨E', V, w', h1, h2, h3, h4⟩ := xappend_ok (s' := r.2) (v := r.1) R hr (ev_ok hA hu) (ev_ok hA hv) ht rfl o.type
          have hargs : args.map A.eval = #[A.eval x, A.eval y] := by apply Array.ext'; simp [hx]
          refine ⟨r.1, r.2, E', V, w', by simp, h1, h2, h3, .inl ?_⟩
          simp only [execOp, ho, resolve, invoke, Sem.run_bind, Sem.run_pure, Result.andThen_ok, builtin, hargs, h4]
        · cases e
      · cases e
    · cases e
  · cases e
end
end Go.Sx
