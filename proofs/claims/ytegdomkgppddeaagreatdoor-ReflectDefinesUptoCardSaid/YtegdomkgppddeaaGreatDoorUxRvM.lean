/- RightValue as a contract of the symbolic run: it answers yes or no (no, where the kind is none of the seven; yes, where it is an object), and leaves old memory alone. -/
import Derived.Test.YtegdomkgppddeaaGreatDoorUxC
import Derived.Test.YtegdomkgppddeaaGreatDoorRvM
namespace Go.Proofs.YtegdomkgppddeaaGreatDoor
open Go.Sx Go.RowKit
def smallB (asm : Asm) : SX → Bool
  | .lit n _ => Nat.ble n 1048576
  | S => asm.any fun p => decide (p = (BX.ilt (.slen S) (.lit 1048577), true))
theorem smallB_ok {E : Env} {asm : Asm} (ha : AsmOk E asm) {S : SX} (h : smallB asm S = true) {b : ByteArray} (hS : S.den E = some b) : b.size ≤ 1048576 := by
  have key : (asm.any fun p => decide (p = (BX.ilt (.slen S) (.lit 1048577), true))) = true → b.size ≤ 1048576 := by
    intro h
    obtain ⟨p, hp, hd⟩ := List.any_eq_true.1 h
    have := of_decide_eq_true hd
    subst this
    have h1 := ha _ _ hp
    simp only [BX.den, IX.den, hS] at h1
    simp at h1
    omega
  unfold smallB at h
  split at h
  · simp only [SX.den, Option.some.injEq] at hS
    subst hS
    simpa using h
  · exact key h
theorem PMopBound.rightValue_kind (k : Nat) (x n : Int) (s : ByteArray) (h : PMopBound.understudyref1_RightValue.f k x n s = some true) : 0 ≤ x ∧ x ≤ 6 := by
  have key : ∀ (k : Nat) (b : Bool), (b = true → x = 0 ∨ x = 1) → PMopBound.understudyref1_RightValue.j0 k x b x n s = some true → 0 ≤ x ∧ x ≤ 6 := by
    intro k b hb h
    cases k with
    | zero => cases h
    | succ k =>
      simp only [PMopBound.understudyref1_RightValue.j0] at h
      by_cases c : b = true
      · have := hb c; omega
      · rw [if_neg c] at h
        by_cases c2 : x = 2
        · omega
        by_cases c3 : x = 3
        · omega
        by_cases c4 : x = 4
        · omega
        by_cases c5 : x = 5
        · omega
        by_cases c6 : x = 6
        · omega
        rw [if_neg c2, if_neg c3, if_neg c4, if_neg c5, if_neg c6] at h
        cases h
  unfold PMopBound.understudyref1_RightValue.f at h
  split at h
  · exact key k _ (fun e => by simp at e; exact .inl e) h
  · exact key k _ (fun e => by simp at e; exact .inr e) h
theorem rightValue_kinds (x n : Int) (s : ByteArray) (hs : s.size ≤ 1048576) (w : World) :
    Calls Tryz.prog 35 #[.agg #[.int .i64 x, .int .i64 n, .string s]] w fun e w' => (∃ r : Bool, e = .returned (.bool r) ∧ (r = true → 0 ≤ x ∧ x ≤ 6)) ∧ Below w.heap.size w w' := by
  obtain ⟨r, h⟩ := PMopBound.rightValue_f x n s hs 3000002 (by omega)
  exact (PMopBound.understudyref1_RightValue.calls _ x n s r w h).mono fun e w' ⟨he, hb⟩ => ⟨⟨r, he, fun e => by subst e; exact PMopBound.rightValue_kind _ x n s h⟩, hb⟩
/-- Is the kind told to be none of the seven? -/
def kindOut (asm : Asm) (x : IX) : Bool := asm.any fun p => decide (p = (BX.ilt x (.lit 0), true)) || decide (p = (BX.ilt (.lit 6) x, true))
theorem kindOut_ok {E : Env} {asm : Asm} (ha : AsmOk E asm) {x : IX} (h : kindOut asm x = true) {X : Int} (hx : x.den E = some X) : ¬ (0 ≤ X ∧ X ≤ 6) := by
  obtain ⟨p, hp, hd⟩ := List.any_eq_true.1 h
  simp only [Bool.or_eq_true, decide_eq_true_eq] at hd
  rcases hd with rfl | rfl <;> · have h1 := ha _ _ hp
                                 simp only [BX.den, IX.den, hx] at h1
                                 simp at h1
                                 omega
def rvG : List SV → St → Option (List (SV × St))
  | [.agg [.int .i64 x, .int .i64 _, .str S]], s => match smallB s.asm S with
    | true => match kindOut s.asm x with
      | true => some [(.bool (.lit false), s)]
      | false => some [(.bool (.lit true), s), (.bool (.lit false), s)]
    | false => none
  | _, _ => none
def rvC : Contracts := fun f => match Nat.beq f 35 with
  | true => some rvG
  | false => none
theorem rvC_ok : ContractsOk Tryz.prog rvC := by
  intro f g hg args s outs h
  unfold rvC at hg
  split at hg
  · rename_i hf
    cases hg
    have := Nat.eq_of_beq_eq_true hf
    subst this
    intro w0 E w ARGS hA R
    unfold rvG at h
    split at h
    · rename_i x y S
      split at h
      · rename_i hs
        simp only [SV.denL, SV.den] at hA
        cases hx : x.den E with
        | none => simp [hx] at hA
        | some X => cases hy : y.den E with
          | none => simp [hx, hy] at hA
          | some Y => cases hS : S.den E with
            | none => simp [hx, hy, hS] at hA
            | some b =>
              simp [hx, hy, hS] at hA
              subst hA
              refine (rightValue_kinds X Y b (smallB_ok R.asm hs hS) w).mono fun e w' he => ?_
              obtain ⟨⟨r, rfl, hk⟩, hB⟩ := he
              refine ⟨.bool (.lit r), s, E, .bool r, ?_, .refl E, by simp [SV.den, BX.den], rfl, R.grownY hB⟩
              split at h
              · rename_i ho
                have := kindOut_ok R.asm ho hx
                cases h
                cases r
                · simp
                · exact (this (hk rfl)).elim
              · cases h
                cases r <;> simp
      · cases h
    · cases h
  · cases hg
end Go.Proofs.YtegdomkgppddeaaGreatDoor
