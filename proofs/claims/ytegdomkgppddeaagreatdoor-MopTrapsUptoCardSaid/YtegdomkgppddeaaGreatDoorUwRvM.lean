/- RightValue as a contract of the symbolic run: it answers yes or no, and leaves old memory alone. -/
import Derived.Test.YtegdomkgppddeaaGreatDoorUwC
import Derived.Test.YtegdomkgppddeaaGreatDoorRvM
namespace Go.Proofs.YtegdomkgppddeaaGreatDoor
open Go.Sx Go.RowKit
def smallB (asm : Asm) : SX → Bool
  | .lit n _ => Nat.ble n 1048576
  | S => asm.any fun p => decide (p = (BX.ilt (.slen S) (.lit 1048577), true))
theorem smallB_ok {E : Env} {asm : Asm} (ha : AsmOk E asm) {S : SX} (h : smallB asm S = true) {b : ByteArray} (hS : S.den E = some b) : b.size ≤ 1048576 := by
  have key : (asm.any fun p => decide (p = (BX.ilt (.slen S) (.lit 1048577), true))) = true → b.size ≤ 1048576 := by
    intro h
    obtain ⟨p, hp, hd⟩ := List.any_eq_true.1 h
    have := of_decide_eq_true hd
    subst this
    have h1 := ha _ _ hp
    simp only [BX.den, IX.den, hS] at h1
    simp at h1
    omega
  unfold smallB at h
  split at h
  · simp only [SX.den, Option.some.injEq] at hS
    subst hS
    simpa using h
  · exact key h
def rvG : List SV → St → Option (List (SV × St))
  | [.agg [.int .i64 _, .int .i64 _, .str S]], s => match smallB s.asm S with
    | true => some [(.bool (.lit true), s), (.bool (.lit false), s)]
    | false => none
  | _, _ => none
def rvC : Contracts := fun f => match Nat.beq f 35 with
  | true => some rvG
  | false => none
theorem rvC_ok : ContractsOk Tryz.prog rvC := by
  intro f g hg args s outs h
  unfold rvC at hg
  split at hg
  · rename_i hf
    cases hg
    have := Nat.eq_of_beq_eq_true hf
    subst this
    intro w0 E w ARGS hA R
    unfold rvG at h
    split at h
    · rename_i x y S
      split at h
      · rename_i hs
        cases h
        simp only [SV.denL, SV.den] at hA
        cases hx : x.den E with
        | none => simp [hx] at hA
        | some X => cases hy : y.den E with
          | none => simp [hx, hy] at hA
          | some Y => cases hS : S.den E with
            | none => simp [hx, hy, hS] at hA
            | some b =>
              simp [hx, hy, hS] at hA
              subst hA
              refine (PMopBound.rightValue_any X Y b (smallB_ok R.asm hs hS) w).mono fun e w' he => ?_
              obtain ⟨⟨r, rfl⟩, hB⟩ := he
              refine ⟨.bool (.lit r), s, E, .bool r, ?_, .refl E, by simp [SV.den, BX.den], rfl, R.grownY hB⟩
              cases r <;> simp
      · cases h
    · cases h
  · cases hg
/-! ### value(v, n): yes or no -/
theorem val_run : allBool ((fk Tryz.prog rvC 3000).call 59 [.agg [.int .i64 (.var 0), .int .i64 (.var 1), .str (.var 0)], .int .i64 (.var 2)] { asm := [(.ilt (.slen (.var 0)) (.lit 1048577), true)] }).outs = true := by kernel_rfl
theorem val_any (x y n : Int) (b : ByteArray) (hb : b.size ≤ 1048576) (w : World) :
    Calls Tryz.prog 59 #[.agg #[.int .i64 x, .int .i64 y, .string b], .int .i64 n] w fun e w' => (∃ r : Bool, e = .returned (.bool r)) ∧ Below w.heap.size w w' :=
  bool_of_fast rvC_ok val_run (E := { ints := [x, y, n] ++ List.replicate 13 0, strs := [b], bools := List.replicate 10 false }) (fun _ => rfl) (fun c v hm => by simp only [List.mem_singleton, Prod.mk.injEq] at hm; obtain ⟨rfl, rfl⟩ := hm; simp [BX.den, IX.den, SX.den]; omega) (ARGS := [.agg #[.int .i64 x, .int .i64 y, .string b], .int .i64 n]) (by simp [SV.denL, SV.den, IX.den, SX.den]) w ⟨⟨false, rfl, rfl⟩, ⟨false, rfl, rfl⟩, ⟨false, rfl, rfl⟩, .inl rfl⟩
def valG : List SV → St → Option (List (SV × St))
  | [.agg [.int .i64 _, .int .i64 _, .str S], .int .i64 _], s => match smallB s.asm S with
    | true => some [(.bool (.lit true), s), (.bool (.lit false), s)]
    | false => none
  | _, _ => none
def valC : Contracts := fun f => match Nat.beq f 59 with
  | true => some valG
  | false => rvC f
theorem valC_ok : ContractsOk Tryz.prog valC := by
  intro f g hg args s outs h
  unfold valC at hg
  split at hg
  · rename_i hf
    cases hg
    have := Nat.eq_of_beq_eq_true hf
    subst this
    intro w0 E w ARGS hA R
    unfold valG at h
    split at h
    · rename_i x y S m
      split at h
      · rename_i hs
        cases h
        simp only [SV.denL, SV.den] at hA
        cases hx : x.den E with
        | none => simp [hx] at hA
        | some X => cases hy : y.den E with
          | none => simp [hx, hy] at hA
          | some Y => cases hS : S.den E with
            | none => simp [hx, hy, hS] at hA
            | some b => cases hm : m.den E with
              | none => simp [hx, hy, hS, hm] at hA
              | some M =>
                simp [hx, hy, hS, hm] at hA
                subst hA
                refine (val_any X Y M b (smallB_ok R.asm hs hS) w).mono fun e w' he => ?_
                obtain ⟨⟨r, rfl⟩, hB⟩ := he
                refine ⟨.bool (.lit r), s, E, .bool r, ?_, .refl E, by simp [SV.den, BX.den], rfl, R.grownY hB⟩
                cases r <;> simp
      · cases h
    · cases h
  · exact rvC_ok f g hg args s outs h
end Go.Proofs.YtegdomkgppddeaaGreatDoor
