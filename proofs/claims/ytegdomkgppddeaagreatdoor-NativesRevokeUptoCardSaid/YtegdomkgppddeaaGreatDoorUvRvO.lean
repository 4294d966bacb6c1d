/- RightValue as a contract of the symbolic run that says yes of an object told in full; value likewise any bool. -/
import Derived.Test.YtegdomkgppddeaaGreatDoorUvRvM
namespace Go.Proofs.YtegdomkgppddeaaGreatDoor
open Go.Sx Go.RowKit
theorem PMopBound.rightValue_obj (k : Nat) (n : Int) (h : 0 ≤ n) : PMopBound.understudyref1_RightValue.f (k + 1) 6 n (txt 0 0) = some true := by
  unfold PMopBound.understudyref1_RightValue.f
  rw [if_neg (by decide)]
  simp only [PMopBound.understudyref1_RightValue.j0]
  rw [if_neg (by decide), if_neg (by decide), if_neg (by decide), if_neg (by decide), if_neg (by decide), if_pos trivial, if_pos h, show (txt 0 0).toList = [] by rw [Go.ByteArray.toList_eq]; rfl]
  rfl
theorem rightValue_obj (n : Int) (h : 0 ≤ n) (w : World) :
    Calls Tryz.prog 35 #[.agg #[.int .i64 6, .int .i64 n, .string (txt 0 0)]] w fun e w' => e = .returned (.bool true) ∧ Below w.heap.size w w' :=
  PMopBound.understudyref1_RightValue.calls _ 6 n (txt 0 0) true w (PMopBound.rightValue_obj 0 n h)
def rvoG : List SV → St → Option (List (SV × St))
  | [.agg [.int .i64 (.lit 6), .int .i64 (.lit (.ofNat _)), .str (.lit 0 0)]], s => some [(.bool (.lit true), s)]
  | args, s => rvG args s
def rvoC : Contracts := fun f => match Nat.beq f 35 with
  | true => some rvoG
  | false => valC f
theorem rvoC_ok : ContractsOk Tryz.prog rvoC := by
  intro f g hg args s outs h
  unfold rvoC at hg
  split at hg
  · rename_i hf
    cases hg
    have := Nat.eq_of_beq_eq_true hf
    subst this
    unfold rvoG at h
    split at h
    · rename_i n
      cases h
      intro w0 E w ARGS hA R
      simp [SV.denL, SV.den, IX.den, SX.den] at hA
      subst hA
      refine (rightValue_obj (.ofNat n) (Int.natCast_nonneg n) w).mono fun e w' he => ?_
      obtain ⟨rfl, hB⟩ := he
      exact ⟨.bool (.lit true), s, E, .bool true, List.mem_singleton.2 rfl, .refl E, by simp [SV.den, BX.den], rfl, R.grownY hB⟩
    · exact valC_ok _ rvG (by unfold valC rvC; rfl) _ _ _ h
  · exact valC_ok f g hg args s outs h
end Go.Proofs.YtegdomkgppddeaaGreatDoor
