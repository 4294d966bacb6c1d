/- RightText and RightDesc as contracts: any bool. -/
import Derived.Test.YtegdomkgppddeaaGreatDoorUwRvM
import Derived.Test.YtegdomkgppddeaaGreatDoorUwAny
namespace Go.Proofs.YtegdomkgppddeaaGreatDoor
open Go.Sx Go.RowKit
set_option maxRecDepth 100000
theorem rightText_any (b : ByteArray) (hb : b.size ≤ 1048576) (w : World) :
    Calls Tryz.prog 43 #[.string b] w fun e w' => (∃ r : Bool, e = .returned (.bool r)) ∧ Below w.heap.size w w' := by
  obtain ⟨l, p, hp, -⟩ := PMopBound.points_f b hb 3000002 (by omega)
  have ht : PMopBound.understudyref1_RightText.f 3000002 b = some p := by unfold PMopBound.understudyref1_RightText.f; rw [hp]; rfl
  exact (PMopBound.understudyref1_RightText.calls _ b p w ht).mono fun e w' ⟨he, hb⟩ => ⟨⟨p, he⟩, hb⟩
def rtG : List SV → St → Option (List (SV × St))
  | [.str S], s => match smallB s.asm S with
    | true => some [(.bool (.lit true), s), (.bool (.lit false), s)]
    | false => none
  | _, _ => none
def rtC (C : Contracts) : Contracts := fun f => match Nat.beq f 43 with
  | true => some rtG
  | false => C f
theorem rtC_ok {C : Contracts} (hC : ContractsOk Tryz.prog C) : ContractsOk Tryz.prog (rtC C) := by
  intro f g hg args s outs h
  unfold rtC at hg
  split at hg
  · rename_i hf
    cases hg
    have := Nat.eq_of_beq_eq_true hf
    subst this
    intro w0 E w ARGS hA R
    unfold rtG at h
    split at h
    · rename_i S
      split at h
      · rename_i hs
        cases h
        simp only [SV.denL, SV.den] at hA
        cases hS : S.den E with
        | none => simp [hS] at hA
        | some b =>
          simp [hS] at hA
          subst hA
          refine (rightText_any b (smallB_ok R.asm hs hS) w).mono fun e w' he => ?_
          obtain ⟨⟨r, rfl⟩, hB⟩ := he
          refine ⟨.bool (.lit r), s, E, .bool r, ?_, .refl E, by simp [SV.den, BX.den], rfl, R.grownY hB⟩
          cases r <;> simp
      · cases h
    · cases h
  · exact hC f g hg args s outs h
/-- A Desc of unknowns: bools from b on, numbers from i on, texts from s on. -/
def deS (b i s : Nat) : List SV := [.bool (.var b), .bool (.var (b + 1)), .bool (.var (b + 2)), .bool (.var (b + 3)), .bool (.var (b + 4)), .bool (.var (b + 5)),
  .int .i64 (.var i), .int .i64 (.var (i + 1)), .str (.var s), .int .i64 (.var (i + 2)), .int .i64 (.var (i + 3)), .str (.var (s + 1)), .int .i64 (.var (i + 4)), .int .i64 (.var (i + 5)), .str (.var (s + 2)),
  .bool (.var (b + 6)), .bool (.var (b + 7)), .bool (.var (b + 8))]
/-- An Ask of unknowns with a list: number 0 and text 0 are its Key, 1 to 4 and 1, 2 its Value and Receiver, bools 0 to 8, numbers 5 to 10 and texts 3 to 5 its Desc. -/
def askS (l : SV) : List SV := [.str (.var 0), .int .i64 (.var 0), .int .i64 (.var 1), .int .i64 (.var 2), .str (.var 1), .int .i64 (.var 3), .int .i64 (.var 4), .str (.var 2)] ++ (deS 0 5 3 ++ [l])
/-- The same, the bools that tell what a Desc has as they are. -/
def deB (b0 b1 b2 b3 b4 b5 : BX) : List SV := [.bool b0, .bool b1, .bool b2, .bool b3, .bool b4, .bool b5,
  .int .i64 (.var 5), .int .i64 (.var 6), .str (.var 3), .int .i64 (.var 7), .int .i64 (.var 8), .str (.var 4), .int .i64 (.var 9), .int .i64 (.var 10), .str (.var 5),
  .bool (.var 6), .bool (.var 7), .bool (.var 8)]
def askB (b0 b1 b2 b3 b4 b5 : BX) (l : SV) : List SV := [.str (.var 0), .int .i64 (.var 0), .int .i64 (.var 1), .int .i64 (.var 2), .str (.var 1), .int .i64 (.var 3), .int .i64 (.var 4), .str (.var 2)] ++ (deB b0 b1 b2 b3 b4 b5 ++ [l])
theorem rd_run : anyRun Tryz.prog noC 38 [.agg (deS 0 5 3)] [] = true := by kernel_rfl
def askC (C : Contracts) : Contracts := anyC 38 [.agg (deS 0 5 3)] [] (rtC C)
theorem askC_ok {C : Contracts} (hC : ContractsOk Tryz.prog C) : ContractsOk Tryz.prog (askC C) :=
  @anyC_ok Tryz.prog (rtC C) noC (rtC_ok hC) (noC_ok _) 38 [.agg (deS 0 5 3)] [] rfl rd_run
end Go.Proofs.YtegdomkgppddeaaGreatDoor
