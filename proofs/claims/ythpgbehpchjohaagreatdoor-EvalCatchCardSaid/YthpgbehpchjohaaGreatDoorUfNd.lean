/- Places that differ: told by one pass with a mask of bits. -/
import Derived.Test.YthpgbehpchjohaaGreatDoorRows
import Derived.LaidLaws
namespace Go.Proofs.YthpgbehpchjohaaGreatDoor
def codeP : MemPlace → Nat
  | .cell b off => match Nat.blt off 512 with
    | true => b * 512 + off + 1
    | false => 0
  | _ => 0
def nodupM : List MemPlace → Nat → Bool
  | [], _ => true
  | p :: l, m => match Nat.beq (codeP p) 0 with
    | true => false
    | false => match Nat.beq (Nat.land (Nat.shiftRight m (codeP p)) 1) 0 with
      | true => nodupM l (Nat.lor m (Nat.shiftLeft 1 (codeP p)))
      | false => false
theorem codeP_inj {p q : MemPlace} (h : codeP p = codeP q) (h0 : codeP p ≠ 0) : p = q := by
  have key : ∀ r : MemPlace, codeP r ≠ 0 → ∃ b off, r = .cell b off ∧ off < 512 ∧ codeP r = b * 512 + off + 1 := by
    intro r hr
    cases r with
    | cell b off =>
      cases hb : Nat.blt off 512 with
      | true => exact ⟨b, off, rfl, by simpa [Nat.blt_eq] using hb, by simp [codeP, hb]⟩
      | false => exact absurd (by simp [codeP, hb]) hr
    | map b => exact absurd rfl hr
  obtain ⟨b, off, rfl, h1, h2⟩ := key p h0
  obtain ⟨b', off', rfl, h3, h4⟩ := key q (by rw [← h]; exact h0)
  rw [h2, h4] at h
  have hb : b = b' := by omega
  subst hb
  have ho : off = off' := by omega
  subst ho
  rfl
theorem nodupM_spec : ∀ (l : List MemPlace) (m : Nat), nodupM l m = true → l.Nodup ∧ ∀ p ∈ l, codeP p ≠ 0 ∧ m.testBit (codeP p) = false
  | [], m, _ => ⟨List.nodup_nil, by simp⟩
  | p :: l, m, h => by
    unfold nodupM at h
    cases h0 : Nat.beq (codeP p) 0 with
    | true =>
      rw [h0] at h
      cases h
    | false =>
      rw [h0] at h
      cases h1 : Nat.beq (Nat.land (Nat.shiftRight m (codeP p)) 1) 0 with
      | false =>
        rw [h1] at h
        cases h
      | true =>
        rw [h1] at h
        have h0' : codeP p ≠ 0 := fun e => by rw [e] at h0; cases h0
        obtain ⟨h2, h3⟩ := nodupM_spec l _ h
        have hbit : m.testBit (codeP p) = false := by
          have h1' : (m >>> codeP p) &&& 1 = 0 := Nat.eq_of_beq_eq_true h1
          unfold Nat.testBit
          rw [Nat.and_comm, h1']
          rfl
        refine ⟨List.nodup_cons.2 ⟨fun hm => ?_, h2⟩, fun q hq => ?_⟩
        · have h4 := (h3 p hm).2
          have h5 : (m ||| (1 <<< codeP p)).testBit (codeP p) = false := h4
          rw [Nat.testBit_or, Nat.testBit_shiftLeft] at h5
          simp at h5
        · rcases List.mem_cons.1 hq with rfl | hq
          · exact ⟨h0', hbit⟩
          · have h4 := h3 q hq
            refine ⟨h4.1, ?_⟩
            have h5 : (m ||| (1 <<< codeP p)).testBit (codeP q) = false := h4.2
            rw [Nat.testBit_or, Bool.or_eq_false_iff] at h5
            exact h5.1
theorem nodup_run {α : Type} {o : Option (α × List MemPlace)} {f : List MemPlace → Bool} (h : o.map (fun x => nodupM x.2 0 && f x.2) = some true) : o.map (fun x => decide x.2.Nodup && f x.2) = some true := by
  cases o with
  | none => cases h
  | some x =>
    simp only [Option.map_some, Option.some.injEq, Bool.and_eq_true] at h ⊢
    exact ⟨decide_eq_true (nodupM_spec _ _ h.1).1, h.2⟩
end Go.Proofs.YthpgbehpchjohaaGreatDoor
