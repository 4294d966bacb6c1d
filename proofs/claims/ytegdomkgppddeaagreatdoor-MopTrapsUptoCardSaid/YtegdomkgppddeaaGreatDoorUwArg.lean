/- A function of a slice and of an unknown number that is at least 0: its ways by the number, each way run with the number told. -/
import Derived.Test.YtegdomkgppddeaaGreatDoorUwC
namespace Go.Sx
def optCat : List (Option (List (SV × St))) → Option (List (SV × St))
  | [] => some []
  | none :: _ => none
  | some l :: r => match optCat r with
    | some m => some (l ++ m)
    | none => none
theorem optCat_mem : ∀ {l : List (Option (List (SV × St)))} {outs : List (SV × St)}, optCat l = some outs → ∀ o ∈ l, ∃ m, o = some m ∧ ∀ x ∈ m, x ∈ outs
  | [], _, _, o, ho => by cases ho
  | none :: _, _, h, _, _ => by cases h
  | some l :: r, outs, h, o, ho => by
    simp only [optCat] at h
    cases hr : optCat r with
    | none => rw [hr] at h; cases h
    | some m =>
      rw [hr] at h
      cases h
      rcases List.mem_cons.1 ho with rfl | ho
      · exact ⟨l, rfl, fun x hx => List.mem_append.2 (.inl hx)⟩
      · obtain ⟨m', e, hm⟩ := optCat_mem hr o ho
        exact ⟨m', e, fun x hx => List.mem_append.2 (.inr (hm x hx))⟩
noncomputable def argG (P : Program) (f : Nat) : List SV → St → Option (List (SV × St))
  | [.slc id off len cap es, .int .i64 (.var v)], s => match s.asm.any fun p => decide (p = (BX.ilt (.var v) (.lit 0), false)) with
    | true => optCat (((fk P noC 50).call f [.slc id off len cap es, .int .i64 (.var v)] { s with asm := (.ilt (.var v) (.lit (.ofNat len)), false) :: s.asm }).outs ::
        (List.range len).map fun i : Nat => ((fk P noC 50).call f [.slc id off len cap es, .int .i64 (.lit (.ofNat i))] { s with asm := (.ieq (.var v) (.lit (.ofNat i)), true) :: s.asm }).outs)
    | false => none
  | args, s => ((fk P noC 50).call f args s).outs
noncomputable def argC (P : Program) (f0 : Nat) (C : Contracts) : Contracts := fun f => match Nat.beq f f0 with
  | true => some (argG P f0)
  | false => C f
theorem argC_ok {P : Program} {C : Contracts} (hC : ContractsOk P C) {f0 : Nat} : ContractsOk P (argC P f0 C) := by
  intro f g hg args s outs h
  unfold argC at hg
  split at hg
  · rename_i hf
    cases hg
    have := Nat.eq_of_beq_eq_true hf
    subst this
    have hF := (fk_ok (noC_ok P) 50).fs
    unfold argG at h
    split at h
    · rename_i id off len cap es v
      split at h
      · rename_i hz
        obtain ⟨p, hp, hd⟩ := List.any_eq_true.1 hz
        have := of_decide_eq_true hd
        subst this
        intro w0 E w ARGS hA R
        obtain ⟨V, Vs, rfl, h1, hA⟩ := denL_cons_inv hA
        obtain ⟨N, Vs, rfl, h2, hA⟩ := denL_cons_inv hA
        simp only [SV.denL, Option.some.injEq] at hA
        subst hA
        obtain ⟨x, hx, rfl⟩ := den_int h2
        have hv : E.ints[v]? = some x := hx
        have h0 : 0 ≤ x := by
          have := R.asm _ _ hp
          simp only [BX.den, IX.den, hv] at this
          simpa using this
        have go : ∀ (c : BX) (t : Bool) (n : IX) (m : List (SV × St)), c.den E = some t → n.den E = some x → ((fk P noC 50).call f [.slc id off len cap es, .int .i64 n] { s with asm := (c, t) :: s.asm }).outs = some m → (∀ y ∈ m, y ∈ outs) →
            Calls P f [V, .int .i64 x].toArray w (CallPost w0 E outs) := by
          intro c t n m hc hn hm hsub
          have R' : Rel w0 E { s with asm := (c, t) :: s.asm } w := R.setAsm (fun d u hd => by
            rcases List.mem_cons.1 hd with e | hd
            · cases e; exact hc
            · exact R.asm _ _ hd)
          refine (hF.call f _ _ m hm w0 E w [V, .int .i64 x] (denL_cons h1 (denL_cons (by simp only [SV.den, hn]) (denL_nil E))) R').mono fun e w' he => ?_
          obtain ⟨u, s', E', U, q1, q2⟩ := he
          exact ⟨u, s', E', U, hsub _ q1, q2⟩
        by_cases c : x < len
        · obtain ⟨i, rfl⟩ : ∃ i : Nat, x = i := ⟨x.toNat, by omega⟩
          obtain ⟨m, hm, hsub⟩ := optCat_mem h _ (List.mem_cons_of_mem _ (List.mem_map.2 ⟨i, List.mem_range.2 (by omega), rfl⟩))
          exact go _ _ _ m (by simp [BX.den, IX.den, hv]) rfl hm hsub
        · obtain ⟨m, hm, hsub⟩ := optCat_mem h _ List.mem_cons_self
          exact go _ _ _ m (by simp [BX.den, IX.den, hv]; omega) hx hm hsub
      · cases h
    · exact hF.call f _ _ _ h
  · exact hC f g hg args s outs h
end Go.Sx
