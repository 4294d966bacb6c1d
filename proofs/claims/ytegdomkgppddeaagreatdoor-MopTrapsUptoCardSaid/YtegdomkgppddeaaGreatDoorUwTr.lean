/- mop.Truth of a bool that is told by a number too: the value of that number. -/
import Derived.Test.YtegdomkgppddeaaGreatDoorUwAskRun
namespace Go.Proofs.YtegdomkgppddeaaGreatDoor
open Go.Sx Go.RowKit
set_option maxRecDepth 100000
def isOne (v : SV) : Option (List (SV × St)) → Bool
  | some [(u, _)] => SV.beq u v
  | _ => false
theorem one_of_fast {P : Program} {C : Contracts} (hC : ContractsOk P C) {n : Nat} {f : FuncId} {args : List SV} {v : SV} (h : isOne v ((fk P C n).call f args {}).outs = true) {E : Env} (hE : ∀ id, E.blk id = none) {ARGS : List Value} (hA : SV.denL E args = some ARGS) (w : World) (hq : QQ E w) {V : Value} (hV : ∀ E : Env, v.den E = some V) (hv : ∀ id, E.fv id = none := by intro; rfl) :
    Calls P f ARGS.toArray w fun e w' => e = .returned V ∧ Below w.heap.size w w' := by
  cases ho : ((fk P C n).call f args {}).outs with
  | none => rw [ho] at h; cases h
  | some outs =>
    rw [ho] at h
    refine ((fk_ok hC n).fs.call f args _ outs ho w E w ARGS hA (Rel.start E w [] hE (fun c v hm => by cases hm) hq hv)).mono fun e w' he => ?_
    obtain ⟨u, s', E', U, h1, h2, h3, rfl, h5⟩ := he
    match outs, h with
    | [(u', _)], h =>
      obtain ⟨rfl, -⟩ : u = u' ∧ s' = _ := by simpa using h1
      have := SV.beq_eq _ _ h
      subst this
      rw [hV] at h3
      cases h3
      exact ⟨rfl, h5.below⟩
theorem tr_run1 : isOne (.agg [.int .i64 (.lit 2), .int .i64 (.lit 1), .str (.lit 0 0)]) ((fk Tryz.prog noC 50).call 90 [.bool (.lit true)] {}).outs = true := by kernel_rfl
theorem tr_run0 : isOne (.agg [.int .i64 (.lit 2), .int .i64 (.lit 0), .str (.lit 0 0)]) ((fk Tryz.prog noC 50).call 90 [.bool (.lit false)] {}).outs = true := by kernel_rfl
theorem tr_calls (t : Bool) (w : World) : Calls Tryz.prog 90 #[.bool t] w fun e w' => e = .returned (.agg #[.int .i64 2, .int .i64 (b2i t), .string (txt 0 0)]) ∧ Below w.heap.size w w' := by
  have hq : QQ { ints := List.replicate 16 0, bools := List.replicate 11 false } w := ⟨⟨false, rfl, rfl⟩, ⟨false, rfl, rfl⟩, ⟨false, rfl, rfl⟩, .inl rfl⟩
  cases t with
  | true => exact one_of_fast (noC_ok _) tr_run1 (fun _ => rfl) (ARGS := [.bool true]) (by simp [SV.denL, SV.den, BX.den]) w hq (fun E => by simp [SV.den, SV.denL, IX.den, SX.den, b2i])
  | false => exact one_of_fast (noC_ok _) tr_run0 (fun _ => rfl) (ARGS := [.bool false]) (by simp [SV.denL, SV.den, BX.den]) w hq (fun E => by simp [SV.den, SV.denL, IX.den, SX.den, b2i])
def trV (n : Nat) : SV := .agg [.int .i64 (.lit 2), .int .i64 (.var n), .str (.lit 0 0)]
noncomputable def trG : List SV → St → Option (List (SV × St))
  | [.bool (.var 6)], s => some [(trV 13, s)]
  | [.bool (.var 7)], s => some [(trV 14, s)]
  | [.bool (.var 8)], s => some [(trV 15, s)]
  | args, s => ((fk Tryz.prog noC 50).call 90 args s).outs
noncomputable def trC (C : Contracts) : Contracts := fun f => match Nat.beq f 90 with
  | true => some trG
  | false => C f
theorem tr_one {k n : Nat} {s : St} (hk : ∀ (E : Env) (w : World), QQ E w → ∃ t, E.bools[k]? = some t ∧ E.ints[n]? = some (b2i t)) : CallOk Tryz.prog 90 [.bool (.var k)] s [(trV n, s)] := by
  intro w0 E w ARGS hA R
  obtain ⟨t, h1, h2⟩ := hk E w (QQ.below R.below R.qq)
  have h1' : (SV.bool (.var k)).den E = some (.bool t) := by simp [SV.den, BX.den, h1]
  obtain ⟨V, Vs, rfl, hV, hA⟩ := denL_cons_inv hA
  simp only [SV.denL, Option.some.injEq] at hA
  subst hA
  rw [h1'] at hV
  cases hV
  refine (tr_calls t w).mono fun e w' he => ?_
  obtain ⟨rfl, hB⟩ := he
  exact ⟨trV n, s, E, _, List.mem_singleton.2 rfl, .refl E, by simp [trV, SV.den, SV.denL, IX.den, SX.den, h2], rfl, R.grownY hB⟩
theorem trC_ok {C : Contracts} (hC : ContractsOk Tryz.prog C) : ContractsOk Tryz.prog (trC C) := by
  intro f g hg args s outs h
  unfold trC at hg
  split at hg
  · rename_i hf
    cases hg
    have := Nat.eq_of_beq_eq_true hf
    subst this
    unfold trG at h
    split at h
    · cases h; exact tr_one fun E w q => q.b6
    · cases h; exact tr_one fun E w q => q.b7
    · cases h; exact tr_one fun E w q => q.b8
    · exact (fk_ok (noC_ok _) 50).fs.call _ _ _ _ h
  · exact hC f g hg args s outs h
end Go.Proofs.YtegdomkgppddeaaGreatDoor
