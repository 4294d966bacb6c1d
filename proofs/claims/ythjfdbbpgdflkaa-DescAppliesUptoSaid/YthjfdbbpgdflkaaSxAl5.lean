/- The contracts of the runs of chapter 5: RightValue answers yes or no; alive answers yes. -/
import Derived.Test.YthjfdbbpgdflkaaProg
import Derived.Test.YthjfdbbpgdflkaaSxRv
namespace Go.Proofs.Ythjfdbbpgdflkaa
open Go.Sx Go.RowKit
set_option maxRecDepth 100000
theorem alive5_run : allTrue ((fs Try.prog noC 3000).call 39 [] {}) = true := by kernel_rfl
def al5G : List SV → St → Option (List (SV × St))
  | [], s => some [(.bool (.lit true), s)]
  | _, _ => none
def c5 : Contracts := fun f => match Nat.beq f 39 with
  | true => some al5G
  | false => rvC f
theorem c5_ok : ContractsOk Try.prog c5 := by
  intro f g hg args s outs h
  unfold c5 at hg
  split at hg
  · rename_i hf
    cases hg
    have := Nat.eq_of_beq_eq_true hf
    subst this
    intro w0 E w ARGS hA R
    unfold al5G at h
    split at h
    · cases h
      simp only [SV.denL, Option.some.injEq] at hA
      subst hA
      refine (true_of_run (noC_ok _) alive5_run (E := {}) (fun _ => rfl) (fun c v hm => by cases hm) (ARGS := []) rfl w).mono fun e w' he => ?_
      obtain ⟨rfl, hB⟩ := he
      exact ⟨.bool (.lit true), s, E, .bool true, List.mem_singleton.2 rfl, .refl E, by simp [SV.den, BX.den], rfl, R.grown hB⟩
    · cases h
  · exact rvC_ok f g hg args s outs h
end Go.Proofs.Ythjfdbbpgdflkaa
