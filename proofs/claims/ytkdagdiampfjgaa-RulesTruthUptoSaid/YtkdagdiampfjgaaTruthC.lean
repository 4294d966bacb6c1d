/- What RulesTruth calls, function by function: each answers as told here, and leaves old memory alone. -/
import Derived.Test.YtkdagdiampfjgaaClosedC
import Derived.Test.YtkdagdiampfjgaaUzAny
namespace Go.Sx
/-- Whatever way it goes, it returns true: each way's bool is worked out by what is assumed there. -/
def allTrueW : Option (List (SV × St)) → Bool
  | some l => l.all fun p => match p.1 with
    | .bool c => (ways p.2.asm c).all fun q => q.1
    | _ => false
  | none => false
theorem trueW_of_fast {P : Program} {C : Contracts} (hC : ContractsOk P C) {n : Nat} {f : FuncId} {args : List SV} {asm : Asm} (h : allTrueW ((fk P C n).call f args { asm := asm }).outs = true) {E : Env} (hE : ∀ id, E.blk id = none) (ha : AsmOk E asm) {ARGS : List Value} (hA : SV.denL E args = some ARGS) (w : World) :
    Calls P f ARGS.toArray w fun e w' => e = .returned (.bool true) ∧ RowKit.Below w.heap.size w w' := by
  cases ho : ((fk P C n).call f args { asm := asm }).outs with
  | none => rw [ho] at h; cases h
  | some outs =>
    rw [ho] at h
    refine ((fk_ok hC n).fs.call f args _ outs ho w E w ARGS hA (Rel.start E w asm hE ha trivial)).mono fun e w' he => ?_
    obtain ⟨v, s', E', V, h1, h2, h3, rfl, h5⟩ := he
    have := List.all_eq_true.1 h _ h1
    cases v with
    | bool c =>
      simp only at this
      obtain ⟨b, hb, rfl⟩ := den_bool h3
      obtain ⟨asm1, w1, -⟩ := ways_ok h5.asm hb
      have hb1 : b = true := List.all_eq_true.1 this _ w1
      subst hb1
      exact ⟨rfl, h5.below⟩
    | _ => cases this
/-- Where f says yes, g (called on the same unknowns) says yes too. -/
noncomputable def thenRun (P : Program) (f : Nat) (args1 : List SV) (g : Nat) (args2 : List SV) : Bool :=
  match ((fk P noC 3000).call f args1 {}).outs with
  | some l => l.all fun p => match p.1 with
    | .bool c => (ways p.2.asm c).all fun q => !q.1 || allTrueW ((fk P noC 3000).call g args2 { asm := q.2 }).outs
    | _ => false
  | none => false
theorem then_yes {P : Program} {f g : Nat} {args1 args2 : List SV} (h : thenRun P f args1 g args2 = true) (hf : args2.all SV.flat1 = true) {E : Env} (hE : ∀ id, E.blk id = none) {ARGS1 ARGS2 : List Value} (hA1 : SV.denL E args1 = some ARGS1) (hA2 : SV.denL E args2 = some ARGS2) (w : World) :
    Calls P f ARGS1.toArray w fun e w' => (∃ q : Bool, e = .returned (.bool q) ∧ (q = true → ∀ w2, Calls P g ARGS2.toArray w2 fun e w'' => e = .returned (.bool true) ∧ RowKit.Below w2.heap.size w2 w'')) ∧ RowKit.Below w.heap.size w w' := by
  unfold thenRun at h
  split at h
  · rename_i l hl
    refine ((fk_ok (noC_ok P) 3000).fs.call f args1 _ l hl w E w ARGS1 hA1 (Rel.start E w [] hE (fun c v hm => by cases hm) trivial)).mono fun e w' he => ?_
    obtain ⟨v, s', E', V, h1, h2, h3, rfl, h5⟩ := he
    have := List.all_eq_true.1 h _ h1
    cases v with
    | bool c =>
      simp only at this
      obtain ⟨b, hb, rfl⟩ := den_bool h3
      refine ⟨⟨b, rfl, fun hq w2 => ?_⟩, h5.below⟩
      subst hq
      obtain ⟨asm1, w1, w3⟩ := ways_ok h5.asm hb
      have hyes := List.all_eq_true.1 this _ w1
      simp only [Bool.not_true, Bool.false_or] at hyes
      refine trueW_of_fast (noC_ok P) hyes (E := { E' with blk := fun _ => none }) (fun _ => rfl) (fun d u hm => ?_) ((flat1_denL E' _ hf).trans (SV.monoL h2 hA2)) w2
      rw [BX.den_blk]
      exact w3 _ _ hm
    | _ => cases this
  · cases h
end Go.Sx
namespace Go.Proofs.Ytkdagdiampfjgaa
open Go.RowKit PRulesClosed Go.Proofs.YtkdagdiampfjgaaW.PrintWords Go.Sx
set_option linter.unusedVariables false
set_option linter.unusedSimpArgs false
set_option maxRecDepth 100000
theorem big_l1 (l : List S40) (hl : l.length ≤ 9223372036854775807) (d : Nat) : ∀ (k : Nat) (i : Int), 0 ≤ i → (l.length : Int) - i ≤ d → d < k → i ≤ l.length → ∃ r, understudylaw6_Big.l0 k l i = some r ∧ (r = false → l.length ≤ 60) := by
  induction d with
  | zero =>
    intro k i h0 hd hk hi
    obtain ⟨k, rfl⟩ : ∃ m, k = m + 1 := ⟨k - 1, by omega⟩
    simp only [understudylaw6_Big.l0]
    rw [if_neg (by omega)]
    exact ⟨_, rfl, fun h => by have := of_decide_eq_false h; omega⟩
  | succ d ih =>
    intro k i h0 hd hk hi
    obtain ⟨k, rfl⟩ : ∃ m, k = m + 1 := ⟨k - 1, by omega⟩
    simp only [understudylaw6_Big.l0]
    by_cases c : i < l.length
    · rw [if_pos c, if_pos h0, w64' h0 (by omega)]
      split
      · exact ⟨_, rfl, nofun⟩
      · split
        · exact ⟨_, rfl, nofun⟩
        · exact ih k (i + 1) (by omega) (by omega) (by omega) (by omega)
    · rw [if_neg c]
      exact ⟨_, rfl, fun h => by have := of_decide_eq_false h; omega⟩
theorem big_60 (A : Option Addr) (c : Nat) (l : List S40) (w : World) (h : Kd.C k40 w A l.length l) (hc : l.length ≤ c) :
    Calls Try.prog 6 #[.slice A l.length c] w fun e w' => (∃ r : Bool, e = .returned (.bool r) ∧ (r = false → l.length ≤ 60)) ∧ Below w.heap.size w w' := by
  obtain ⟨r, hr, h6⟩ := big_l1 l h.2.1 l.length (l.length + 1) 0 (by omega) (by omega) (by omega) (by omega)
  exact (understudylaw6_Big.calls _ A c l r w h hc hr).mono fun e w' ⟨he, hB⟩ => ⟨⟨r, he, h6⟩, hB.below⟩
/-- The unknowns: a Desc, bool 9, a value. -/
def trE (d : De) (b : Bool) (p : Va) : Env := { bools := [d.hv, d.hg, d.hs, d.hw, d.he, d.hc, d.w, d.e, d.c, b], ints := [d.v.k, d.v.n, d.g.k, d.g.n, d.s.k, d.s.n, p.k, p.n], strs := [d.v.s, d.g.s, d.s.s, p.s] }
theorem deS_den' (d : De) (b : Bool) (p : Va) : deS.den (trE d b p) = some d.val := by simp [deS, SV.den, SV.denL, IX.den, SX.den, BX.den, trE]
theorem boS_den' (d : De) (b : Bool) (p : Va) : (SV.bool (.var 9)).den (trE d b p) = some (.bool b) := rfl
def vaS : SV := .agg [.int .i64 (.var 0), .int .i64 (.var 1), .str (.var 0)]
theorem vaS_den' (d : De) (b : Bool) (p : Va) : vaS.den (trE d b p) = some d.v.val := by simp [vaS, SV.den, SV.denL, IX.den, SX.den, trE]
def prS (k : IX) : SV := .agg [.int .i64 k, .int .i64 (.var 7), .str (.var 3)]
theorem wholeR : thenRun Try.prog 7 [deS] 11 [.bool (.var 9), .bool (.lit true), deS, .bool (.lit true), deS] = true := by kernel_rfl
theorem whole_then (x : De) (b : Bool) (w : World) : Calls Try.prog 7 #[x.val] w fun e w' => (∃ q : Bool, e = .returned (.bool q) ∧ (q = true → ∀ w2, Calls Try.prog 11 #[.bool b, .bool true, x.val, .bool true, x.val] w2 fun e w'' => e = .returned (.bool true) ∧ Below w2.heap.size w2 w'')) ∧ Below w.heap.size w w' :=
  @then_yes Try.prog 7 11 [deS] [.bool (.var 9), .bool (.lit true), deS, .bool (.lit true), deS] wholeR rfl (trE x b Va.zero) (fun _ => rfl) [x.val] [.bool b, .bool true, x.val, .bool true, x.val] (denL_cons (deS_den' x b _) (denL_nil _)) (denL_cons rfl (denL_cons rfl (denL_cons (deS_den' x b _) (denL_cons rfl (denL_cons (deS_den' x b _) (denL_nil _)))))) w
theorem dataR : thenRun Try.prog 13 [deS] 14 [.bool (.lit true), deS, vaS] = true := by kernel_rfl
theorem data_then (x : De) (w : World) : Calls Try.prog 13 #[x.val] w fun e w' => (∃ q : Bool, e = .returned (.bool q) ∧ (q = true → ∀ w2, Calls Try.prog 14 #[.bool true, x.val, x.v.val] w2 fun e w'' => e = .returned (.bool true) ∧ Below w2.heap.size w2 w'')) ∧ Below w.heap.size w w' :=
  @then_yes Try.prog 13 14 [deS] [.bool (.lit true), deS, vaS] dataR rfl (trE x false Va.zero) (fun _ => rfl) [x.val] [.bool true, x.val, x.v.val] (denL_cons (deS_den' x _ _) (denL_nil _)) (denL_cons rfl (denL_cons (deS_den' x _ _) (denL_cons (vaS_den' x _ _) (denL_nil _)))) w
noncomputable def goN : Bool := allTrue ((fk Try.prog noC 3000).call 11 [.bool (.var 9), .bool (.lit false), deS, .bool (.lit false), deS] {}).outs
theorem goN_ok : goN = true := by kernel_rfl
theorem getOwn_none (x : De) (b : Bool) (w : World) : Calls Try.prog 11 #[.bool b, .bool false, x.val, .bool false, x.val] w fun e w' => e = .returned (.bool true) ∧ Below w.heap.size w w' :=
  true_of_fast (noC_ok _) goN_ok (E := trE x b Va.zero) (fun _ => rfl) (fun c v h => by cases h) (ARGS := [.bool b, .bool false, x.val, .bool false, x.val]) (denL_cons rfl (denL_cons rfl (denL_cons (deS_den' x b _) (denL_cons rfl (denL_cons (deS_den' x b _) (denL_nil _)))))) w
noncomputable def haN : Bool := allTrue ((fk Try.prog noC 3000).call 12 [.bool (.var 9), .bool (.lit false), deS] {}).outs
theorem haN_ok : haN = true := by kernel_rfl
theorem has_none (x : De) (b : Bool) (w : World) : Calls Try.prog 12 #[.bool b, .bool false, x.val] w fun e w' => e = .returned (.bool true) ∧ Below w.heap.size w w' :=
  true_of_fast (noC_ok _) haN_ok (E := trE x b Va.zero) (fun _ => rfl) (fun c v h => by cases h) (ARGS := [.bool b, .bool false, x.val]) (denL_cons rfl (denL_cons rfl (denL_cons (deS_den' x b _) (denL_nil _)))) w
noncomputable def haY : Bool := allBool ((fk Try.prog noC 3000).call 12 [.bool (.var 9), .bool (.lit true), deS] {}).outs
theorem haY_ok : haY = true := by kernel_rfl
theorem has_any (x : De) (b : Bool) (w : World) : Calls Try.prog 12 #[.bool b, .bool true, x.val] w fun e w' => (∃ r : Bool, e = .returned (.bool r)) ∧ Below w.heap.size w w' :=
  bool_of_fast (noC_ok _) haY_ok (E := trE x b Va.zero) (fun _ => rfl) (fun c v h => by cases h) (ARGS := [.bool b, .bool true, x.val]) (denL_cons rfl (denL_cons rfl (denL_cons (deS_den' x b _) (denL_nil _)))) w
noncomputable def gpR (k : Nat) : Bool := allTrue ((fk Try.prog noC 3000).call 10 [.bool (.var 9), prS (.lit k), prS (.lit k)] {}).outs
theorem gp1 : gpR 1 = true := by kernel_rfl
theorem gp6 : gpR 6 = true := by kernel_rfl
theorem getProto_yes (p : Va) (b : Bool) (h : p.k = 1 ∨ p.k = 6) (w : World) : Calls Try.prog 10 #[.bool b, p.val, p.val] w fun e w' => e = .returned (.bool true) ∧ Below w.heap.size w w' := by
  have key : ∀ k : Nat, p.k = k → gpR k = true → Calls Try.prog 10 #[.bool b, p.val, p.val] w fun e w' => e = .returned (.bool true) ∧ Below w.heap.size w w' := fun k hk hr => by
    have hd : (prS (.lit k)).den (trE De.zero b p) = some p.val := by simp [prS, SV.den, SV.denL, IX.den, SX.den, trE, hk]
    exact true_of_fast (noC_ok _) hr (E := trE De.zero b p) (fun _ => rfl) (fun c v h => by cases h) (ARGS := [.bool b, p.val, p.val]) (denL_cons rfl (denL_cons hd (denL_cons hd (denL_nil _)))) w
  rcases h with h | h
  · exact key 1 h gp1
  · exact key 6 h gp6
theorem rv_any (p : Va) (h : p.s.size ≤ 1048576) (w : World) : Calls Try.prog 9 #[p.val] w fun e w' => (∃ r : Bool, e = .returned (.bool r)) ∧ Below w.heap.size w w' :=
  PRulesClosed.rightValue_any p.k p.n p.s h w
theorem truth_eq (ext : Bool) (es : List S40) (h : (es.map S40.f0).Nodup) : keysB ext es (es.map S40.f0) = true := by
  simp only [keysB, Bool.and_eq_true, decide_eq_true_eq, List.all_eq_true]
  exact ⟨h, fun e he => by simp [List.mem_map.2 ⟨e, he, rfl⟩], fun k hk => by simp [hk]⟩
theorem own_of {w0 w : World} (h : Below w0.heap.size w0 w) : Own nobody w0 w [] :=
  ⟨h.os, h.tape, h.output, h.size, fun k hk _ => h.block k hk, by intro i g o h; simp at h, by intro i g o h; simp at h, by intro i j g o o' h; simp at h⟩
end Go.Proofs.Ytkdagdiampfjgaa
