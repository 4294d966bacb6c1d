/- May and desc.Right as contracts of the symbolic run: yes or no; May of a list longer than 8: no. -/
import Derived.Test.YtegdomkgppddeaaGreatDoorUwMayLong
import Derived.Test.YtegdomkgppddeaaGreatDoorUwAskRun
namespace Go.Proofs.YtegdomkgppddeaaGreatDoor
open Go.Sx Go.RowKit
set_option maxRecDepth 100000
theorem deB_inv {E : Env} {b0 b1 b2 b3 b4 b5 : BX} {cs : List Value} (h : SV.denL E (deB b0 b1 b2 b3 b4 b5) = some cs) : ∃ d : De, cs = d.cs := by
  unfold deB at h
  obtain ⟨V0, cs, rfl, d0, h⟩ := denL_cons_inv h
  obtain ⟨V1, cs, rfl, d1, h⟩ := denL_cons_inv h
  obtain ⟨V2, cs, rfl, d2, h⟩ := denL_cons_inv h
  obtain ⟨V3, cs, rfl, d3, h⟩ := denL_cons_inv h
  obtain ⟨V4, cs, rfl, d4, h⟩ := denL_cons_inv h
  obtain ⟨V5, cs, rfl, d5, h⟩ := denL_cons_inv h
  obtain ⟨V6, cs, rfl, d6, h⟩ := denL_cons_inv h
  obtain ⟨V7, cs, rfl, d7, h⟩ := denL_cons_inv h
  obtain ⟨V8, cs, rfl, d8, h⟩ := denL_cons_inv h
  obtain ⟨V9, cs, rfl, d9, h⟩ := denL_cons_inv h
  obtain ⟨V10, cs, rfl, d10, h⟩ := denL_cons_inv h
  obtain ⟨V11, cs, rfl, d11, h⟩ := denL_cons_inv h
  obtain ⟨V12, cs, rfl, d12, h⟩ := denL_cons_inv h
  obtain ⟨V13, cs, rfl, d13, h⟩ := denL_cons_inv h
  obtain ⟨V14, cs, rfl, d14, h⟩ := denL_cons_inv h
  obtain ⟨V15, cs, rfl, d15, h⟩ := denL_cons_inv h
  obtain ⟨V16, cs, rfl, d16, h⟩ := denL_cons_inv h
  obtain ⟨V17, cs, rfl, d17, h⟩ := denL_cons_inv h
  simp only [SV.denL, Option.some.injEq] at h
  subst h
  obtain ⟨x0, e0, rfl⟩ := den_bool d0
  obtain ⟨x1, e1, rfl⟩ := den_bool d1
  obtain ⟨x2, e2, rfl⟩ := den_bool d2
  obtain ⟨x3, e3, rfl⟩ := den_bool d3
  obtain ⟨x4, e4, rfl⟩ := den_bool d4
  obtain ⟨x5, e5, rfl⟩ := den_bool d5
  obtain ⟨x6, e6, rfl⟩ := den_int d6
  obtain ⟨x7, e7, rfl⟩ := den_int d7
  obtain ⟨x8, e8, rfl⟩ := den_str d8
  obtain ⟨x9, e9, rfl⟩ := den_int d9
  obtain ⟨x10, e10, rfl⟩ := den_int d10
  obtain ⟨x11, e11, rfl⟩ := den_str d11
  obtain ⟨x12, e12, rfl⟩ := den_int d12
  obtain ⟨x13, e13, rfl⟩ := den_int d13
  obtain ⟨x14, e14, rfl⟩ := den_str d14
  obtain ⟨x15, e15, rfl⟩ := den_bool d15
  obtain ⟨x16, e16, rfl⟩ := den_bool d16
  obtain ⟨x17, e17, rfl⟩ := den_bool d17
  exact ⟨⟨x0, x1, x2, x3, x4, x5, ⟨x6, x7, x8⟩, ⟨x9, x10, x11⟩, ⟨x12, x13, x14⟩, x15, x16, x17⟩, rfl⟩
theorem askB_inv {E : Env} {b0 b1 b2 b3 b4 b5 : BX} {L : SV} {cs : List Value} (h : SV.denL E (askB b0 b1 b2 b3 b4 b5 L) = some cs) : ∃ (ks : ByteArray) (ky : Int) (v r : Va) (d : De) (V : Value), L.den E = some V ∧
    cs = [.string ks, .int .i64 ky, .int .i64 v.k, .int .i64 v.n, .string v.s, .int .i64 r.k, .int .i64 r.n, .string r.s] ++ (d.cs ++ [V]) ∧ E.strs[0]? = some ks ∧ E.strs[1]? = some v.s ∧ E.strs[2]? = some r.s ∧ E.strs[3]? = some d.v.s ∧ E.strs[4]? = some d.g.s ∧ E.strs[5]? = some d.s.s := by
  unfold askB deB at h
  simp only [List.cons_append, List.nil_append] at h
  obtain ⟨V0, cs, rfl, d0, h⟩ := denL_cons_inv h
  obtain ⟨V1, cs, rfl, d1, h⟩ := denL_cons_inv h
  obtain ⟨V2, cs, rfl, d2, h⟩ := denL_cons_inv h
  obtain ⟨V3, cs, rfl, d3, h⟩ := denL_cons_inv h
  obtain ⟨V4, cs, rfl, d4, h⟩ := denL_cons_inv h
  obtain ⟨V5, cs, rfl, d5, h⟩ := denL_cons_inv h
  obtain ⟨V6, cs, rfl, d6, h⟩ := denL_cons_inv h
  obtain ⟨V7, cs, rfl, d7, h⟩ := denL_cons_inv h
  obtain ⟨V8, cs, rfl, d8, h⟩ := denL_cons_inv h
  obtain ⟨V9, cs, rfl, d9, h⟩ := denL_cons_inv h
  obtain ⟨V10, cs, rfl, d10, h⟩ := denL_cons_inv h
  obtain ⟨V11, cs, rfl, d11, h⟩ := denL_cons_inv h
  obtain ⟨V12, cs, rfl, d12, h⟩ := denL_cons_inv h
  obtain ⟨V13, cs, rfl, d13, h⟩ := denL_cons_inv h
  obtain ⟨V14, cs, rfl, d14, h⟩ := denL_cons_inv h
  obtain ⟨V15, cs, rfl, d15, h⟩ := denL_cons_inv h
  obtain ⟨V16, cs, rfl, d16, h⟩ := denL_cons_inv h
  obtain ⟨V17, cs, rfl, d17, h⟩ := denL_cons_inv h
  obtain ⟨V18, cs, rfl, d18, h⟩ := denL_cons_inv h
  obtain ⟨V19, cs, rfl, d19, h⟩ := denL_cons_inv h
  obtain ⟨V20, cs, rfl, d20, h⟩ := denL_cons_inv h
  obtain ⟨V21, cs, rfl, d21, h⟩ := denL_cons_inv h
  obtain ⟨V22, cs, rfl, d22, h⟩ := denL_cons_inv h
  obtain ⟨V23, cs, rfl, d23, h⟩ := denL_cons_inv h
  obtain ⟨V24, cs, rfl, d24, h⟩ := denL_cons_inv h
  obtain ⟨V25, cs, rfl, d25, h⟩ := denL_cons_inv h
  obtain ⟨V26, cs, rfl, d26, h⟩ := denL_cons_inv h
  simp only [SV.denL, Option.some.injEq] at h
  subst h
  obtain ⟨x0, e0, rfl⟩ := den_str d0
  obtain ⟨x1, e1, rfl⟩ := den_int d1
  obtain ⟨x2, e2, rfl⟩ := den_int d2
  obtain ⟨x3, e3, rfl⟩ := den_int d3
  obtain ⟨x4, e4, rfl⟩ := den_str d4
  obtain ⟨x5, e5, rfl⟩ := den_int d5
  obtain ⟨x6, e6, rfl⟩ := den_int d6
  obtain ⟨x7, e7, rfl⟩ := den_str d7
  obtain ⟨x8, e8, rfl⟩ := den_bool d8
  obtain ⟨x9, e9, rfl⟩ := den_bool d9
  obtain ⟨x10, e10, rfl⟩ := den_bool d10
  obtain ⟨x11, e11, rfl⟩ := den_bool d11
  obtain ⟨x12, e12, rfl⟩ := den_bool d12
  obtain ⟨x13, e13, rfl⟩ := den_bool d13
  obtain ⟨x14, e14, rfl⟩ := den_int d14
  obtain ⟨x15, e15, rfl⟩ := den_int d15
  obtain ⟨x16, e16, rfl⟩ := den_str d16
  obtain ⟨x17, e17, rfl⟩ := den_int d17
  obtain ⟨x18, e18, rfl⟩ := den_int d18
  obtain ⟨x19, e19, rfl⟩ := den_str d19
  obtain ⟨x20, e20, rfl⟩ := den_int d20
  obtain ⟨x21, e21, rfl⟩ := den_int d21
  obtain ⟨x22, e22, rfl⟩ := den_str d22
  obtain ⟨x23, e23, rfl⟩ := den_bool d23
  obtain ⟨x24, e24, rfl⟩ := den_bool d24
  obtain ⟨x25, e25, rfl⟩ := den_bool d25
  exact ⟨x0, x1, ⟨x2, x3, x4⟩, ⟨x5, x6, x7⟩, ⟨x8, x9, x10, x11, x12, x13, ⟨x14, x15, x16⟩, ⟨x17, x18, x19⟩, ⟨x20, x21, x22⟩, x23, x24, x25⟩, V26, d26, rfl, e0, e4, e7, e16, e19, e22⟩
/-! ### desc.Right -/
theorem right_run : anyRun Tryz.prog noC 93 [.agg (deS 0 5 3)] [] = true := by kernel_rfl
theorem right_any (d : De) (w : World) : Calls Tryz.prog 93 #[d.val] w fun e w' => (∃ r : Bool, e = .returned (.bool r)) ∧ Below w.heap.size w w' :=
  bool_of_fast (noC_ok _) right_run (E := { (aEnv ⟨⟨#[]⟩, 0, ⟨0, 0, ⟨#[]⟩⟩, ⟨0, 0, ⟨#[]⟩⟩, d, .nil⟩ 0 0) with blk := fun _ => none }) (fun _ => rfl) (fun c v hm => by cases hm) (ARGS := [d.val]) (by simp [SV.denL, SV.den, deS, IX.den, SX.den, BX.den, aEnv]) w ⟨⟨_, rfl, rfl⟩, ⟨_, rfl, rfl⟩, ⟨_, rfl, rfl⟩, .inl rfl⟩
noncomputable def rightG (b0 b1 b2 b3 b4 b5 : BX) : List SV → St → Option (List (SV × St)) := fun args s => match SV.beqL args [.agg (deB b0 b1 b2 b3 b4 b5)] with
  | true => some [(.bool (.lit true), s), (.bool (.lit false), s)]
  | false => ((fk Tryz.prog noC 200).call 93 args s).outs
noncomputable def rightC (b0 b1 b2 b3 b4 b5 : BX) (C : Contracts) : Contracts := fun f => match Nat.beq f 93 with
  | true => some (rightG b0 b1 b2 b3 b4 b5)
  | false => C f
theorem rightC_ok {b0 b1 b2 b3 b4 b5 : BX} {C : Contracts} (hC : ContractsOk Tryz.prog C) : ContractsOk Tryz.prog (rightC b0 b1 b2 b3 b4 b5 C) := by
  intro f g hg args s outs h
  unfold rightC at hg
  split at hg
  · rename_i hf
    cases hg
    have := Nat.eq_of_beq_eq_true hf
    subst this
    unfold rightG at h
    split at h
    · rename_i hb
      cases h
      have := SV.beqL_eq _ _ hb
      subst this
      intro w0 E w ARGS hA R
      obtain ⟨V, Vs, rfl, hV, hA⟩ := denL_cons_inv hA
      simp only [SV.denL, Option.some.injEq] at hA
      subst hA
      obtain ⟨cs, hcs, rfl⟩ := den_agg hV
      obtain ⟨d, rfl⟩ := deB_inv hcs
      refine (right_any d w).mono fun e w' he => ?_
      obtain ⟨⟨r, rfl⟩, hB⟩ := he
      refine ⟨.bool (.lit r), s, E, .bool r, ?_, .refl E, by simp [SV.den, BX.den], rfl, R.grownY hB⟩
      cases r <;> simp
    · have hF := (fk_ok (noC_ok Tryz.prog) 200).fs
      exact hF.call 93 args s outs h
  · exact hC f g hg args s outs h
/-! ### May -/
noncomputable def mayRun (c : Nat) : Bool := allBool ((fk Tryz.prog (askC valC) 3000).call 19 [.agg (.int .i64 (.lit 0) :: .int .i64 (.lit 0) :: askS (vSV 0 c)), .int .i64 (.lit 2)] (aSt (smalls (6 + (c - 1))) c)).outs
theorem mayRun0 : mayRun 0 = true := by kernel_rfl
theorem mayRun1 : mayRun 1 = true := by kernel_rfl
theorem mayRun2 : mayRun 2 = true := by kernel_rfl
theorem mayRun3 : mayRun 3 = true := by kernel_rfl
theorem mayRun4 : mayRun 4 = true := by kernel_rfl
theorem mayRun5 : mayRun 5 = true := by kernel_rfl
theorem mayRun6 : mayRun 6 = true := by kernel_rfl
theorem mayRun7 : mayRun 7 = true := by kernel_rfl
theorem mayRun8 : mayRun 8 = true := by kernel_rfl
theorem mayRun9 : mayRun 9 = true := by kernel_rfl
theorem mayRuns : ∀ c, c < 10 → mayRun c = true
  | 0, _ => mayRun0
  | 1, _ => mayRun1
  | 2, _ => mayRun2
  | 3, _ => mayRun3
  | 4, _ => mayRun4
  | 5, _ => mayRun5
  | 6, _ => mayRun6
  | 7, _ => mayRun7
  | 8, _ => mayRun8
  | 9, _ => mayRun9
  | c + 10, h => by omega
abbrev mayV (x : Sk) : Value := .agg (.int .i64 0 :: .int .i64 0 :: x.cs).toArray
set_option maxHeartbeats 2000000 in
theorem may_nine (ks : ByteArray) (ky : Int) (v r : Va) (d : De) (b off cap : Nat) (l : List Va) {w : World} (hl : (Vs.at b off cap l).ok w) (hs : (Sk.mk ks ky v r d (.at b off cap l)).small 1048576) (h9 : 9 ≤ l.length) :
    Calls Tryz.prog 19 #[mayV ⟨ks, ky, v, r, d, .at b off cap l⟩, .int .i64 2] w fun e w' => (∃ r : Bool, e = .returned (.bool r) ∧ (9 ≤ l.length → r = false)) ∧ Below w.heap.size w w' := by
  have h2 : ∀ y ∈ l, y.s.size ≤ 1048576 := hs.2.2.2.2.2.2.1
  have h3 : l.length ≤ 1048576 := hs.2.2.2.2.2.2.2
  obtain ⟨hc, cs, ty, fr, g1, g2, g3, g4⟩ := hl
  obtain ⟨l', hl'⟩ : ∃ l' : List (Int × Int × ByteArray), l' = l.map fun y => (y.k, y.n, y.s) := ⟨_, rfl⟩
  have hlen : l'.length = l.length := by rw [hl', List.length_map]
  have hR : Go.Sx.RowsIn w b off cap l' := ⟨cs, ty, fr, g1, by omega, hc, g3, fun i y hy => by
    rw [hl', List.getElem?_map] at hy
    cases hi : l[i]? with
    | none => rw [hi] at hy; cases hy
    | some z =>
      rw [hi] at hy
      cases hy
      exact ⟨g4 i z hi 0 _ rfl, g4 i z hi 1 _ rfl, g4 i z hi 2 _ rfl⟩⟩
  have hsm : ∀ y ∈ l', y.2.2.size ≤ 1048576 := fun y hy => by
    rw [hl'] at hy
    obtain ⟨z, hz, rfl⟩ := List.mem_map.1 hy
    exact h2 z hz
  have main := may_long (.int .i64 0) (.int .i64 0) (.string ks) (.int .i64 ky) (.int .i64 v.k) (.int .i64 v.n) (.string v.s) (.int .i64 r.k) (.int .i64 r.n) (.string r.s)
    (.bool d.hv) (.bool d.hg) (.bool d.hs) (.bool d.hw) (.bool d.he) (.bool d.hc) (.int .i64 d.v.k) (.int .i64 d.v.n) (.string d.v.s) (.int .i64 d.g.k) (.int .i64 d.g.n) (.string d.g.s) (.int .i64 d.s.k) (.int .i64 d.s.n) (.string d.s.s) (.bool d.w) (.bool d.e) (.bool d.c)
    rfl b off cap l' 2 w hR hsm (by omega) (by omega)
  rw [hlen] at main
  clear hR hsm g1 g2 g3 g4 h2 hs
  refine Calls.mono main fun e w' he => ?_
  obtain ⟨rfl, hB⟩ := he
  exact ⟨⟨false, rfl, fun _ => rfl⟩, hB⟩
theorem may_any (x : Sk) {w : World} (hl : x.l.ok w) (hs : x.small 1048576) :
    Calls Tryz.prog 19 #[mayV x, .int .i64 2] w fun e w' => (∃ r : Bool, e = .returned (.bool r) ∧ (9 ≤ x.l.l.length → r = false)) ∧ Below w.heap.size w w' := by
  by_cases h9 : 9 ≤ x.l.l.length
  · obtain ⟨ks, ky, v, r, d, l⟩ := x
    cases l with
    | nil => simp [Vs.l] at h9
    | «at» b off cap l => exact may_nine _ _ _ _ _ _ _ _ _ hl hs h9
  · obtain ⟨q1, q2, q3⟩ := x.l.cls_l
    have hd := aDen (m := 0) (n := 0) hl
    have hA : SV.denL (aEnv x 0 0) [.agg (.int .i64 (.lit 0) :: .int .i64 (.lit 0) :: askS (vSV 0 x.l.cls)), .int .i64 (.lit 2)] = some [mayV x, .int .i64 2] := by
      obtain ⟨cs, hcs, e⟩ := den_agg hd
      have e : cs = x.cs := by
        have := congrArg (fun v => match v with | Value.agg c => c.toList | _ => []) e
        simpa using this.symm
      subst e
      refine denL_cons ?_ (denL_cons (by simp [SV.den, IX.den]) (denL_nil _))
      simp only [SV.den]
      rw [denL_cons (V := .int .i64 0) (by simp [SV.den, IX.den]) (denL_cons (V := .int .i64 0) (by simp [SV.den, IX.den]) hcs)]
    refine (bool_from (askC_ok valC_ok) (mayRuns x.l.cls (by omega)) (aRel hl q2 q3 (aSmall hs)) hA).mono fun e w' he => ?_
    obtain ⟨⟨r, rfl⟩, hB⟩ := he
    exact ⟨⟨r, rfl, fun h => (h9 h).elim⟩, hB⟩
def mayArgs (b0 b1 b2 b3 b4 b5 : BX) (L : SV) : List SV := [.agg (.int .i64 (.lit 0) :: .int .i64 (.lit 0) :: askB b0 b1 b2 b3 b4 b5 L), .int .i64 (.lit 2)]
def hasAsm (s : St) (p : BX × Bool) : Bool := s.asm.any fun q => decide (q = p)
theorem hasAsm_ok {w0 w : World} {E : Env} {s : St} (R : Rel w0 E s w) {c : BX} {v : Bool} (h : hasAsm s (c, v) = true) : c.den E = some v := by
  obtain ⟨q, hq, hd⟩ := List.any_eq_true.1 h
  have := of_decide_eq_true hd
  subst this
  exact R.asm _ _ hq
/-- L: none, or a list of which nothing is known. -/
def mayG (b0 b1 b2 b3 b4 b5 : BX) (q : Bool) : List SV → St → Option (List (SV × St)) := fun args s => match SV.beqL args (mayArgs b0 b1 b2 b3 b4 b5 (match q with | true => .opq 0 | false => .nils)) && ((smalls 6).all (hasAsm s) && (match q with | true => hasAsm s (.var 9, true) | false => true)) with
  | true => match q && hasAsm s (.var 10, true) with
    | true => some [(.bool (.lit false), s)]
    | false => some [(.bool (.lit true), s), (.bool (.lit false), s)]
  | false => none
def mayC (b0 b1 b2 b3 b4 b5 : BX) (q : Bool) (C : Contracts) : Contracts := fun f => match Nat.beq f 19 with
  | true => some (mayG b0 b1 b2 b3 b4 b5 q)
  | false => C f
theorem small_of {w0 w : World} {E : Env} {s : St} (R : Rel w0 E s w) (h : (smalls 6).all (hasAsm s) = true) {i : Nat} (hi : i < 6) {b : ByteArray} (hb : E.strs[i]? = some b) : b.size ≤ 1048576 := by
  have h1 := hasAsm_ok R (List.all_eq_true.1 h (.ilt (.slen (.var i)) (.lit 1048577), true) (List.mem_map.2 ⟨i, List.mem_range.2 hi, rfl⟩))
  simp only [BX.den, IX.den, SX.den, hb] at h1
  simp at h1
  omega
theorem mayC_ok {b0 b1 b2 b3 b4 b5 : BX} {q : Bool} {C : Contracts} (hC : ContractsOk Tryz.prog C) : ContractsOk Tryz.prog (mayC b0 b1 b2 b3 b4 b5 q C) := by
  intro f g hg args s outs h
  unfold mayC at hg
  split at hg
  · rename_i hf
    cases hg
    have := Nat.eq_of_beq_eq_true hf
    subst this
    unfold mayG at h
    split at h
    · rename_i hb
      simp only [Bool.and_eq_true] at hb
      obtain ⟨hb, hsm, hq⟩ := hb
      have := SV.beqL_eq _ _ hb
      subst this
      intro w0 E w ARGS hA R
      obtain ⟨V, Vs, rfl, hV, hA⟩ := denL_cons_inv hA
      obtain ⟨V2, Vs, rfl, hV2, hA⟩ := denL_cons_inv hA
      simp only [SV.denL, Option.some.injEq] at hA
      subst hA
      obtain rfl : V2 = .int .i64 2 := by simpa [SV.den, IX.den] using hV2.symm
      obtain ⟨cs, hcs, rfl⟩ := den_agg hV
      obtain ⟨c0, cs, rfl, d0, hcs1⟩ := denL_cons_inv hcs
      obtain ⟨c1, cs, rfl, d1, hcs2⟩ := denL_cons_inv hcs1
      obtain rfl : c0 = .int .i64 0 := by simpa [SV.den, IX.den] using d0.symm
      obtain rfl : c1 = .int .i64 0 := by simpa [SV.den, IX.den] using d1.symm
      obtain ⟨ks, ky, v, r, d, L, hL, rfl, s0, s1, s2, s3, s4, s5⟩ := askB_inv hcs2
      have z0 := small_of R hsm (by decide) s0
      have z1 := small_of R hsm (by decide) s1
      have z2 := small_of R hsm (by decide) s2
      have z3 := small_of R hsm (by decide) s3
      have z4 := small_of R hsm (by decide) s4
      have z5 := small_of R hsm (by decide) s5
      have key : ∃ l : Vs, L = l.val ∧ l.ok w ∧ (∀ y ∈ l.l, y.s.size ≤ 1048576) ∧ l.l.length ≤ 1048576 ∧ ((q && hasAsm s (.var 10, true)) = true → 9 ≤ l.l.length) := by
        cases q with
        | false =>
          refine ⟨.nil, ?_, trivial, fun y hy => (by cases hy), Nat.zero_le _, fun h => (by cases h)⟩
          simpa [SV.den, Vs.val] using hL.symm
        | true =>
          have h9 : E.bools[9]? = some true := hasAsm_ok R hq
          rcases (QQ.below R.below R.qq).list with p | ⟨-, b, off, cap, l, p1, ⟨cs, ty, fr, r1, r2, r3, r4, r5⟩, p3, p4, long, p5, p6⟩
          · rw [h9] at p; cases p
          · have hL : L = .slice (some ⟨b, off, none⟩) l.length cap := by simpa [SV.den, p1] using hL.symm
            refine ⟨.at b off cap (l.map fun y => ⟨y.1, y.2.1, y.2.2⟩), by simp [Vs.val, hL], ⟨r3, cs, ty, fr, r1, by simpa using r2, r4, fun i y hy j V hV => ?_⟩, fun y hy => ?_, by simpa [Vs.l] using p4, fun h => ?_⟩
            · simp only [List.getElem?_map] at hy
              cases hi : l[i]? with
              | none => rw [hi] at hy; cases hy
              | some z =>
                rw [hi] at hy
                cases hy
                obtain ⟨t0, t1, t2⟩ := r5 i z hi
                match j, hV with
                | 0, hV => cases hV; exact t0
                | 1, hV => cases hV; exact t1
                | 2, hV => cases hV; exact t2
                | j + 3, hV => simp at hV
            · obtain ⟨z, hz, rfl⟩ := List.mem_map.1 hy
              exact p3 z hz
            · simp only [Bool.true_and] at h
              have h10 : E.bools[10]? = some true := hasAsm_ok R h
              rw [h10] at p5
              cases p5
              simpa [Vs.l] using p6 rfl
      obtain ⟨l, rfl, k1, k2, k3, k4⟩ := key
      have main := may_any ⟨ks, ky, v, r, d, l⟩ k1 ⟨z0, z1, z2, z3, z4, z5, k2, k3⟩
      refine main.mono fun e w' he => ?_
      obtain ⟨⟨t, rfl, ht⟩, hB⟩ := he
      refine ⟨.bool (.lit t), s, E, .bool t, ?_, .refl E, by simp [SV.den, BX.den], rfl, R.grownY hB⟩
      split at h
      · rename_i hx
        cases h
        obtain rfl := ht (k4 hx)
        simp
      · cases h
        cases t <;> simp
    · cases h
  · exact hC f g hg args s outs h
end Go.Proofs.YtegdomkgppddeaaGreatDoor
