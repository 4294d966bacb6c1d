/- What RulesClosed calls, function by function: each answers as told here, and leaves old memory alone. -/
import Derived.Test.YtkdagdiampfjgaaKeysWalk
import Derived.Test.YtkdagdiampfjgaaRvC
import Derived.Test.YtkdagdiampfjgaaPRulesClosedx5
import Derived.Test.YtkdagdiampfjgaaPRulesClosedx8
namespace Go.Sx
/-- Whatever way it goes, it returns false. -/
def allFalse : Option (List (SV × St)) → Bool
  | some l => l.all fun p => match p.1 with
    | .bool (.lit b) => !b
    | .bool c => (match known p.2.asm c with
      | some b => !b
      | none => false)
    | _ => false
  | none => false
theorem false_of_fast {P : Program} {C : Contracts} (hC : ContractsOk P C) {n : Nat} {f : FuncId} {args : List SV} {asm : Asm} (h : allFalse ((fk P C n).call f args { asm := asm }).outs = true) {E : Env} (hE : ∀ id, E.blk id = none) (ha : AsmOk E asm) {ARGS : List Value} (hA : SV.denL E args = some ARGS) (w : World) :
    Calls P f ARGS.toArray w fun e w' => e = .returned (.bool false) ∧ RowKit.Below w.heap.size w w' := by
  cases ho : ((fk P C n).call f args { asm := asm }).outs with
  | none => rw [ho] at h; cases h
  | some outs =>
    rw [ho] at h
    refine ((fk_ok hC n).fs.call f args _ outs ho w E w ARGS hA (Rel.start E w asm hE ha trivial)).mono fun e w' he => ?_
    obtain ⟨v, s', E', V, h1, h2, h3, rfl, h5⟩ := he
    have := List.all_eq_true.1 h _ h1
    split at this
    · rename_i b e
      simp only at e
      subst e
      cases b with
      | true => cases this
      | false =>
        simp only [SV.den, BX.den, Option.some.injEq] at h3
        subst h3
        exact ⟨rfl, h5.below⟩
    · rename_i c _ e
      simp only at e
      subst e
      obtain ⟨b, hb, rfl⟩ := den_bool h3
      split at this
      · rename_i u hu
        have := known_ok hb h5.asm hu
        subst this
        cases b with
        | true => cases this
        | false => exact ⟨rfl, h5.below⟩
      · cases this
    · cases this
end Go.Sx
namespace Go.Proofs.Ytkdagdiampfjgaa
open Go.RowKit PRulesClosed Go.Proofs.YtkdagdiampfjgaaW.PrintWords Go.Sx
set_option linter.unusedVariables false
set_option linter.unusedSimpArgs false
set_option maxRecDepth 100000
/-! ### the callees -/
theorem alive_yes (w : World) : Calls Try.prog 5 #[] w fun e w' => e = .returned (.bool true) ∧ Below w.heap.size w w' :=
  understudylaw7_alive.calls true w (by rfl)
theorem w64' {i : Int} (h0 : 0 ≤ i) (h : i < 9223372036854775807) : wrap64 (i + 1) = i + 1 := by unfold wrap64; omega
theorem big_l0 (l : List S40) (hl : l.length ≤ 9223372036854775807) (d : Nat) : ∀ (k : Nat) (i : Int), 0 ≤ i → (l.length : Int) - i ≤ d → d < k → i ≤ l.length → ∃ r, understudylaw6_Big.l0 k l i = some r := by
  induction d with
  | zero =>
    intro k i h0 hd hk hi
    obtain ⟨k, rfl⟩ : ∃ m, k = m + 1 := ⟨k - 1, by omega⟩
    simp only [understudylaw6_Big.l0]
    rw [if_neg (by omega)]
    exact ⟨_, rfl⟩
  | succ d ih =>
    intro k i h0 hd hk hi
    obtain ⟨k, rfl⟩ : ∃ m, k = m + 1 := ⟨k - 1, by omega⟩
    simp only [understudylaw6_Big.l0]
    by_cases c : i < l.length
    · rw [if_pos c, if_pos h0, w64' h0 (by omega)]
      split
      · exact ⟨_, rfl⟩
      · split
        · exact ⟨_, rfl⟩
        · exact ih k (i + 1) (by omega) (by omega) (by omega) (by omega)
    · rw [if_neg c]
      exact ⟨_, rfl⟩
theorem big_any (A : Option Addr) (c : Nat) (l : List S40) (w : World) (h : Kd.C k40 w A l.length l) (hc : l.length ≤ c) :
    Calls Try.prog 6 #[.slice A l.length c] w fun e w' => (∃ r : Bool, e = .returned (.bool r)) ∧ Below w.heap.size w w' := by
  obtain ⟨r, hr⟩ := big_l0 l h.2.1 l.length (l.length + 1) 0 (by omega) (by omega) (by omega) (by omega)
  exact (understudylaw6_Big.calls _ A c l r w h hc hr).mono fun e w' ⟨he, hB⟩ => ⟨⟨r, he⟩, hB.below⟩
theorem keyed_l0 (l : List S38) (q : S38) (hl : l.length ≤ 9223372036854775807) (d : Nat) : ∀ (k i : Nat), l.length - i = d → d < k → i ≤ l.length → understudyref1_Keyed.l0 k l i q.f0 q.f1 = some (decide (q ∈ l.drop i)) := by
  induction d with
  | zero =>
    intro k i hd hk hi
    obtain ⟨k, rfl⟩ : ∃ m, k = m + 1 := ⟨k - 1, by omega⟩
    simp only [understudyref1_Keyed.l0]
    rw [if_neg (by omega), List.drop_eq_nil_of_le (by omega)]
    simp
  | succ d ih =>
    intro k i hd hk hi
    obtain ⟨k, rfl⟩ : ∃ m, k = m + 1 := ⟨k - 1, by omega⟩
    simp only [understudyref1_Keyed.l0]
    have hlt : i < l.length := by omega
    have hrd : rd_T38 l i = l[i] := by simp [rd_T38, List.getD_eq_getElem?_getD, List.getElem?_eq_getElem hlt]
    rw [if_pos (by omega), if_pos (by omega), w64' (by omega) (by omega), hrd, List.drop_eq_getElem_cons hlt]
    have ih := ih k (i + 1) (by omega) (by omega) (by omega)
    rw [show ((i + 1 : Nat) : Int) = (i : Int) + 1 by omega] at ih
    by_cases c : (l[i].f0.toList == q.f0.toList && l[i].f1 == q.f1) = true
    · have e := keq_iff.1 (show keq l[i] q = true from c)
      rw [if_pos c]
      simp [e]
    · have e : q ≠ l[i] := fun e => c (keq_iff.2 e.symm)
      rw [if_neg c, ih]
      simp only [List.mem_cons, e, false_or]
theorem keyed_any (A : Option Addr) (c : Nat) (l : List S38) (q : S38) (w : World) (h : Kd.C k38 w A l.length l) (hc : l.length ≤ c) :
    Calls Try.prog 15 #[.slice A l.length c, kv q] w fun e w' => e = .returned (.bool (decide (q ∈ l))) ∧ Below w.heap.size w w' :=
  understudyref1_Keyed.calls (l.length + 1) A c l q.f0 q.f1 _ w h hc (keyed_l0 l q h.2.1 l.length (l.length + 1) 0 (by omega) (by omega) (by omega))
theorem may_any (d : De) (h1 : d.v.s.size ≤ 1048576) (h2 : d.g.s.size ≤ 1048576) (h3 : d.s.s.size ≤ 1048576) (w : World) :
    Calls Try.prog 8 #[d.val] w fun e w' => (∃ r : Bool, e = .returned (.bool r)) ∧ Below w.heap.size w w' := by
  obtain ⟨r1, e1⟩ := PRulesClosed.rightValue_f d.v.k d.v.n d.v.s h1 3000002 (by omega)
  obtain ⟨r2, e2⟩ := PRulesClosed.rightValue_f d.g.k d.g.n d.g.s h2 3000002 (by omega)
  obtain ⟨r3, e3⟩ := PRulesClosed.rightValue_f d.s.k d.s.n d.s.s h3 3000002 (by omega)
  have : ∃ r, understudylaw5_May.f 3000002 d.hv d.hg d.hs d.hw d.he d.hc d.v.k d.v.n d.v.s d.g.k d.g.n d.g.s d.s.k d.s.n d.s.s d.w d.e d.c = some r := by
    unfold understudylaw5_May.f
    rw [e1, e2, e3]
    simp only [Option.bind_some]
    repeat' split
    all_goals exact ⟨_, rfl⟩
  obtain ⟨r, hr⟩ := this
  exact (understudylaw5_May.calls _ d.hv d.hg d.hs d.hw d.he d.hc d.v.k d.v.n d.v.s d.g.k d.g.n d.g.s d.s.k d.s.n d.s.s d.w d.e d.c r w hr).mono fun e w' ⟨he, hB⟩ => ⟨⟨r, he⟩, hB⟩
/-! ### by runs -/
def deS : SV := .agg [.bool (.var 0), .bool (.var 1), .bool (.var 2), .bool (.var 3), .bool (.var 4), .bool (.var 5),
  .int .i64 (.var 0), .int .i64 (.var 1), .str (.var 0), .int .i64 (.var 2), .int .i64 (.var 3), .str (.var 1), .int .i64 (.var 4), .int .i64 (.var 5), .str (.var 2), .bool (.var 6), .bool (.var 7), .bool (.var 8)]
def deZ : SV := .agg [.bool (.lit false), .bool (.lit false), .bool (.lit false), .bool (.lit false), .bool (.lit false), .bool (.lit false),
  .int .i64 (.lit 0), .int .i64 (.lit 0), .str (.lit 0 0), .int .i64 (.lit 0), .int .i64 (.lit 0), .str (.lit 0 0), .int .i64 (.lit 0), .int .i64 (.lit 0), .str (.lit 0 0), .bool (.lit false), .bool (.lit false), .bool (.lit false)]
def deE (d : De) : Env := { bools := [d.hv, d.hg, d.hs, d.hw, d.he, d.hc, d.w, d.e, d.c], ints := [d.v.k, d.v.n, d.g.k, d.g.n, d.s.k, d.s.n], strs := [d.v.s, d.g.s, d.s.s] }
theorem deS_den (d : De) : deS.den (deE d) = some d.val := by simp [deS, SV.den, SV.denL, IX.den, SX.den, BX.den, deE]
theorem deZ_den (E : Env) : deZ.den E = some De.zero.val := by simp [deZ, SV.den, SV.denL, IX.den, SX.den, BX.den, De.zero, Va.zero]; rfl
noncomputable def rdR : Bool := allBool ((fk Try.prog noC 3000).call 17 [deS] {}).outs
theorem rdR_ok : rdR = true := by kernel_rfl
theorem rightDesc_any (d : De) (w : World) : Calls Try.prog 17 #[d.val] w fun e w' => (∃ r : Bool, e = .returned (.bool r)) ∧ Below w.heap.size w w' :=
  bool_of_fast (noC_ok _) rdR_ok (E := deE d) (fun _ => rfl) (fun c v h => by cases h) (ARGS := [d.val]) (denL_cons (deS_den d) (denL_nil _)) w
noncomputable def goR : Bool := allFalse ((fk Try.prog noC 3000).call 11 [.bool (.lit false), .bool (.lit false), deZ, .bool (.lit true), deS] {}).outs
theorem goR_ok : goR = true := by kernel_rfl
theorem getOwn_no (d : De) (w : World) : Calls Try.prog 11 #[.bool false, .bool false, De.zero.val, .bool true, d.val] w fun e w' => e = .returned (.bool false) ∧ Below w.heap.size w w' :=
  false_of_fast (noC_ok _) goR_ok (E := deE d) (fun _ => rfl) (fun c v h => by cases h) (ARGS := [.bool false, .bool false, De.zero.val, .bool true, d.val]) (denL_cons rfl (denL_cons rfl (denL_cons (deZ_den _) (denL_cons rfl (denL_cons (deS_den d) (denL_nil _)))))) w
noncomputable def dfR : Bool := allFalse ((fk Try.prog noC 3000).call 18 [.bool (.lit false), .bool (.lit false), deZ, deS] {}).outs
theorem dfR_ok : dfR = true := by kernel_rfl
theorem define_no (d : De) (w : World) : Calls Try.prog 18 #[.bool false, .bool false, De.zero.val, d.val] w fun e w' => e = .returned (.bool false) ∧ Below w.heap.size w w' :=
  false_of_fast (noC_ok _) dfR_ok (E := deE d) (fun _ => rfl) (fun c v h => by cases h) (ARGS := [.bool false, .bool false, De.zero.val, d.val]) (denL_cons rfl (denL_cons rfl (denL_cons (deZ_den _) (denL_cons (deS_den d) (denL_nil _))))) w
end Go.Proofs.Ytkdagdiampfjgaa
