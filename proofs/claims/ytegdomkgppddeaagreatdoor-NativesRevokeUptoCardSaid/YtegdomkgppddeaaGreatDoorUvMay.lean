/- May as a contract of the symbolic run, where its list is longer than 8: no. -/
import Derived.Test.YtegdomkgppddeaaGreatDoorUvMayLong
import Derived.Test.YtegdomkgppddeaaGreatDoorUvRtM
namespace Go.Proofs.YtegdomkgppddeaaGreatDoor
open Go.Sx Go.RowKit
set_option maxRecDepth 100000
def mayArgs : List SV := [.agg (.int .i64 (.lit 0) :: .int .i64 (.lit 0) :: askS (.opq 0)), .int .i64 (.lit 2)]
def mayG : List SV → St → Option (List (SV × St)) := fun args s => match SV.beqL args mayArgs && s.asm.any fun p => decide (p = (BX.var 9, true)) with
  | true => some [(.bool (.lit false), s)]
  | false => none
def mayC (C : Contracts) : Contracts := fun f => match Nat.beq f 19 with
  | true => some mayG
  | false => C f
theorem mayC_ok {C : Contracts} (hC : ContractsOk Tryz.prog C) : ContractsOk Tryz.prog (mayC C) := by
  intro f g hg args s outs h
  unfold mayC at hg
  split at hg
  · rename_i hf
    cases hg
    have := Nat.eq_of_beq_eq_true hf
    subst this
    intro w0 E w ARGS hA R
    unfold mayG at h
    split at h
    · rename_i hb
      cases h
      simp only [Bool.and_eq_true] at hb
      have := SV.beqL_eq _ _ hb.1
      subst this
      obtain ⟨p, hp, hd⟩ := List.any_eq_true.1 hb.2
      have := of_decide_eq_true hd
      subst this
      have h9 : E.bools[9]? = some true := R.asm _ _ hp
      obtain ⟨long, q1, q2⟩ := QQ.below R.below R.qq
      rw [h9] at q1
      cases q1
      rcases q2 with ⟨-, q⟩ | ⟨b, off, cap, l, q2, q3, q4, q5⟩
      · cases q
      · obtain ⟨V, Vs, rfl, hA1, hA⟩ := denL_cons_inv hA
        obtain ⟨V2, Vs, rfl, hA2, hA⟩ := denL_cons_inv hA
        simp only [SV.denL, Option.some.injEq] at hA
        subst hA
        obtain ⟨cs, hcs, rfl⟩ := den_agg hA1
        have h2 : V2 = .int .i64 2 := by simpa [SV.den, IX.den] using hA2.symm
        subst h2
        obtain ⟨c0, cs, rfl, d0, hcs⟩ := denL_cons_inv hcs
        obtain ⟨c1, cs, rfl, d1, hcs⟩ := denL_cons_inv hcs
        obtain ⟨c2, cs, rfl, d2, hcs⟩ := denL_cons_inv hcs
        obtain ⟨c3, cs, rfl, d3, hcs⟩ := denL_cons_inv hcs
        obtain ⟨c4, cs, rfl, d4, hcs⟩ := denL_cons_inv hcs
        obtain ⟨c5, cs, rfl, d5, hcs⟩ := denL_cons_inv hcs
        obtain ⟨c6, cs, rfl, d6, hcs⟩ := denL_cons_inv hcs
        obtain ⟨c7, cs, rfl, d7, hcs⟩ := denL_cons_inv hcs
        obtain ⟨c8, cs, rfl, d8, hcs⟩ := denL_cons_inv hcs
        obtain ⟨c9, cs, rfl, d9, hcs⟩ := denL_cons_inv hcs
        obtain ⟨c10, cs, rfl, d10, hcs⟩ := denL_cons_inv hcs
        obtain ⟨c11, cs, rfl, d11, hcs⟩ := denL_cons_inv hcs
        obtain ⟨c12, cs, rfl, d12, hcs⟩ := denL_cons_inv hcs
        obtain ⟨c13, cs, rfl, d13, hcs⟩ := denL_cons_inv hcs
        obtain ⟨c14, cs, rfl, d14, hcs⟩ := denL_cons_inv hcs
        obtain ⟨c15, cs, rfl, d15, hcs⟩ := denL_cons_inv hcs
        obtain ⟨c16, cs, rfl, d16, hcs⟩ := denL_cons_inv hcs
        obtain ⟨c17, cs, rfl, d17, hcs⟩ := denL_cons_inv hcs
        obtain ⟨c18, cs, rfl, d18, hcs⟩ := denL_cons_inv hcs
        obtain ⟨c19, cs, rfl, d19, hcs⟩ := denL_cons_inv hcs
        obtain ⟨c20, cs, rfl, d20, hcs⟩ := denL_cons_inv hcs
        obtain ⟨c21, cs, rfl, d21, hcs⟩ := denL_cons_inv hcs
        obtain ⟨c22, cs, rfl, d22, hcs⟩ := denL_cons_inv hcs
        obtain ⟨c23, cs, rfl, d23, hcs⟩ := denL_cons_inv hcs
        obtain ⟨c24, cs, rfl, d24, hcs⟩ := denL_cons_inv hcs
        obtain ⟨c25, cs, rfl, d25, hcs⟩ := denL_cons_inv hcs
        obtain ⟨c26, cs, rfl, d26, hcs⟩ := denL_cons_inv hcs
        obtain ⟨c27, cs, rfl, d27, hcs⟩ := denL_cons_inv hcs
        obtain ⟨L, cs, rfl, dL, hcs⟩ := denL_cons_inv hcs
        simp only [SV.denL, Option.some.injEq] at hcs
        subst hcs
        have hL : L = .slice (some ⟨b, off, none⟩) l.length cap := by simpa [SV.den, q2] using dL.symm
        subst hL
        have h1 : [c2, c3, c4, c5, c6, c7, c8, c9, c10, c11, c12, c13, c14, c15, c16, c17, c18, c19, c20, c21, c22, c23, c24, c25, c26, c27].all (·.oneCell') = true := by
          simp only [List.all_cons, List.all_nil, Bool.and_true, Bool.and_eq_true]
          exact ⟨SV.one_ok d2 rfl, SV.one_ok d3 rfl, SV.one_ok d4 rfl, SV.one_ok d5 rfl, SV.one_ok d6 rfl, SV.one_ok d7 rfl, SV.one_ok d8 rfl, SV.one_ok d9 rfl, SV.one_ok d10 rfl, SV.one_ok d11 rfl, SV.one_ok d12 rfl, SV.one_ok d13 rfl, SV.one_ok d14 rfl, SV.one_ok d15 rfl, SV.one_ok d16 rfl, SV.one_ok d17 rfl, SV.one_ok d18 rfl, SV.one_ok d19 rfl, SV.one_ok d20 rfl, SV.one_ok d21 rfl, SV.one_ok d22 rfl, SV.one_ok d23 rfl, SV.one_ok d24 rfl, SV.one_ok d25 rfl, SV.one_ok d26 rfl, SV.one_ok d27 rfl⟩
        obtain ⟨_, _, _, _, r1, r2, _⟩ := id q3
        refine (may_long c0 c1 c2 c3 c4 c5 c6 c7 c8 c9 c10 c11 c12 c13 c14 c15 c16 c17 c18 c19 c20 c21 c22 c23 c24 c25 c26 c27 h1 b off cap l 2 w q3 q4 (q5 rfl) (by omega)).mono fun e w' he => ?_
        obtain ⟨rfl, hB⟩ := he
        exact ⟨.bool (.lit false), s, E, .bool false, List.mem_singleton.2 rfl, .refl E, by simp [SV.den, BX.den], rfl, R.grownY hB⟩
    · cases h
  · exact hC f g hg args s outs h
end Go.Proofs.YtegdomkgppddeaaGreatDoor
