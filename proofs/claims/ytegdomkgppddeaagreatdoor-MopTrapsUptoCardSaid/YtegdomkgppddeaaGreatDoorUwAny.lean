/- A function that was run on unknowns and gave a bool on every way gives a bool wherever it is called on these unknowns. -/
import Derived.Test.YtegdomkgppddeaaGreatDoorUwC
namespace Go.Sx
theorem SX.den_blk (E : Env) (b : Nat → Option (Nat × Nat × Nat)) : ∀ s : SX, s.den { E with blk := b, fv := fun _ => none } = s.den E
  | .lit _ _ => rfl
  | .var _ => rfl
  | .cat x y => by simp only [SX.den, SX.den_blk E b x, SX.den_blk E b y]
theorem IX.den_blk (E : Env) (b : Nat → Option (Nat × Nat × Nat)) : ∀ s : IX, s.den { E with blk := b, fv := fun _ => none } = s.den E
  | .lit _ => rfl
  | .var _ => rfl
  | .slen s => by simp only [IX.den, SX.den_blk E b s]
  | .bin _ _ x y => by simp only [IX.den, IX.den_blk E b x, IX.den_blk E b y]
theorem BX.den_blk (E : Env) (b : Nat → Option (Nat × Nat × Nat)) : ∀ s : BX, s.den { E with blk := b, fv := fun _ => none } = s.den E
  | .lit _ => rfl
  | .var _ => rfl
  | .not x => by simp only [BX.den, BX.den_blk E b x]
  | .ieq x y => by simp only [BX.den, IX.den_blk E b x, IX.den_blk E b y]
  | .ilt x y => by simp only [BX.den, IX.den_blk E b x, IX.den_blk E b y]
  | .seq x y => by simp only [BX.den, SX.den_blk E b x, SX.den_blk E b y]
  | .and x y => by simp only [BX.den, BX.den_blk E b x, BX.den_blk E b y]
def SV.flat : SV → Bool
  | .bool _ => true
  | .int _ _ => true
  | .str _ => true
  | _ => false
theorem SV.flat_den (E : Env) (b : Nat → Option (Nat × Nat × Nat)) {v : SV} (h : v.flat = true) : v.den { E with blk := b, fv := fun _ => none } = v.den E := by
  cases v <;> first | (cases h; done) | simp only [SV.den, BX.den_blk, IX.den_blk, SX.den_blk]
theorem flat_denL (E : Env) (b : Nat → Option (Nat × Nat × Nat)) : ∀ {l : List SV}, l.all SV.flat = true → SV.denL { E with blk := b, fv := fun _ => none } l = SV.denL E l
  | [], _ => by simp [SV.denL]
  | v :: l, h => by
    simp only [List.all_cons, Bool.and_eq_true] at h
    simp only [SV.denL, SV.flat_den E b h.1, flat_denL E b h.2]
def SV.flat1 : SV → Bool
  | .agg cs => cs.all SV.flat
  | v => v.flat
theorem SV.flat1_den (E : Env) (b : Nat → Option (Nat × Nat × Nat)) {v : SV} (h : v.flat1 = true) : v.den { E with blk := b, fv := fun _ => none } = v.den E := by
  cases v with
  | agg cs => simp only [SV.den, flat_denL E b (show cs.all SV.flat = true from h)]
  | _ => exact SV.flat_den E b h
theorem flat1_denL (E : Env) (b : Nat → Option (Nat × Nat × Nat)) : ∀ {l : List SV}, l.all SV.flat1 = true → SV.denL { E with blk := b, fv := fun _ => none } l = SV.denL E l
  | [], _ => by simp [SV.denL]
  | v :: l, h => by
    simp only [List.all_cons, Bool.and_eq_true] at h
    simp only [SV.denL, SV.flat1_den E b h.1, flat1_denL E b h.2]
def anyG (args0 : List SV) (asm0 : Asm) : List SV → St → Option (List (SV × St)) := fun args s => match SV.beqL args args0 && asm0.all fun p => s.asm.any fun q => decide (q = p) with
  | true => some [(.bool (.lit true), s), (.bool (.lit false), s)]
  | false => none
def anyC (f0 : Nat) (args0 : List SV) (asm0 : Asm) (C : Contracts) : Contracts := fun f => match Nat.beq f f0 with
  | true => some (anyG args0 asm0)
  | false => C f
/-- Its run. -/
noncomputable def anyRun (P : Program) (C1 : Contracts) (f0 : Nat) (args0 : List SV) (asm0 : Asm) : Bool := allBool ((fk P C1 3000).call f0 args0 { asm := asm0 }).outs
theorem anyC_ok {P : Program} {C C1 : Contracts} (hC : ContractsOk P C) (hC1 : ContractsOk P C1) {f0 : Nat} {args0 : List SV} {asm0 : Asm} (hf : args0.all SV.flat1 = true)
    (hr : anyRun P C1 f0 args0 asm0 = true) : ContractsOk P (anyC f0 args0 asm0 C) := by
  intro f g hg args s outs h
  unfold anyC at hg
  split at hg
  · rename_i hf0
    cases hg
    have := Nat.eq_of_beq_eq_true hf0
    subst this
    intro w0 E w ARGS hA R
    unfold anyG at h
    split at h
    · rename_i hb
      cases h
      simp only [Bool.and_eq_true] at hb
      have := SV.beqL_eq _ _ hb.1
      subst this
      refine (bool_of_fast hC1 hr (E := { E with blk := fun _ => none, fv := fun _ => none }) (fun _ => rfl) (fun c v hm => ?_) ((flat1_denL E _ hf).trans hA) w (QQ.noBlk (QQ.below R.below R.qq))).mono fun e w' he => ?_
      · obtain ⟨q, hq, hd⟩ := List.any_eq_true.1 (List.all_eq_true.1 hb.2 _ hm)
        have := of_decide_eq_true hd
        subst this
        rw [BX.den_blk]
        exact R.asm _ _ hq
      · obtain ⟨⟨r, rfl⟩, hB⟩ := he
        refine ⟨.bool (.lit r), s, E, .bool r, ?_, .refl E, by simp [SV.den, BX.den], rfl, R.grownY hB⟩
        cases r <;> simp
    · cases h
  · exact hC f g hg args s outs h
end Go.Sx
