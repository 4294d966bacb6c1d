/- RightValue as a contract of the symbolic run: it answers yes or no, and leaves old memory alone. -/
import Derived.Test.YthjfdbbpgdflkaaSxE
import Derived.Test.YthjfdbbpgdflkaaRv
namespace Go.Sx
theorem Rel.grown {w0 w w' : World} {E : Env} {s : St} (R : Rel w0 E s w) (B : RowKit.Below w.heap.size w w') : Rel w0 E s w' := by
  obtain ⟨b1, b2, b3, b4, b5⟩ := B
  refine ⟨b1.trans R.os, b2.trans R.tape, b3.trans R.output, Nat.le_trans R.size b4, fun k hk => ?_, fun id o h hl => ?_, R.fresh, R.new, R.inj, R.asm, R.rsv⟩
  · rw [b5 k (Nat.lt_of_lt_of_le hk R.size)]; exact R.frame k hk
  · obtain ⟨b, base, n, h1, h2⟩ := R.mem id o h hl
    exact ⟨b, base, n, h1, by rw [b5 b (h2.lt hl)]; exact h2⟩
end Go.Sx
namespace Go.Proofs.Ythjfdbbpgdflkaa
open Go.Sx Go.RowKit
def smallB (asm : Asm) : SX → Bool
  | .lit n _ => Nat.ble n 1048576
  | S => asm.any fun p => decide (p = (BX.ilt (.slen S) (.lit 1048577), true))
theorem smallB_ok {E : Env} {asm : Asm} (ha : AsmOk E asm) {S : SX} (h : smallB asm S = true) {b : ByteArray} (hS : S.den E = some b) : b.size ≤ 1048576 := by
  have key : (asm.any fun p => decide (p = (BX.ilt (.slen S) (.lit 1048577), true))) = true → b.size ≤ 1048576 := by
    intro h
    obtain ⟨p, hp, hd⟩ := List.any_eq_true.1 h
    have := of_decide_eq_true hd
    subst this
    have h1 := ha _ _ hp
    simp only [BX.den, IX.den, hS] at h1
    simp at h1
    omega
  unfold smallB at h
  split at h
  · simp only [SX.den, Option.some.injEq] at hS
    subst hS
    simpa using h
  · exact key h
def rvG : List SV → St → Option (List (SV × St))
  | [.agg [.int .i64 _, .int .i64 _, .str S]], s => match smallB s.asm S with
    | true => some [(.bool (.lit true), s), (.bool (.lit false), s)]
    | false => none
  | _, _ => none
def rvC : Contracts := fun f => match Nat.beq f 16 with
  | true => some rvG
  | false => none
theorem rvC_ok : ContractsOk Try.prog rvC := by
  intro f g hg args s outs h
  unfold rvC at hg
  split at hg
  · rename_i hf
    cases hg
    have := Nat.eq_of_beq_eq_true hf
    subst this
    intro w0 E w ARGS hA R
    unfold rvG at h
    split at h
    · rename_i x y S
      split at h
      · rename_i hs
        cases h
        simp only [SV.denL, SV.den] at hA
        cases hx : x.den E with
        | none => simp [hx] at hA
        | some X => cases hy : y.den E with
          | none => simp [hx, hy] at hA
          | some Y => cases hS : S.den E with
            | none => simp [hx, hy, hS] at hA
            | some b =>
              simp [hx, hy, hS] at hA
              subst hA
              refine (PRulesProto.rightValue_any X Y b (smallB_ok R.asm hs hS) w).mono fun e w' he => ?_
              obtain ⟨⟨r, rfl⟩, hB⟩ := he
              refine ⟨.bool (.lit r), s, E, .bool r, ?_, .refl E, by simp [SV.den, BX.den], rfl, R.grown hB⟩
              cases r <;> simp
      · cases h
    · cases h
  · cases hg
end Go.Proofs.Ythjfdbbpgdflkaa
