/-
  A symbolic run of Go functions by computation (part 14): whatever the run finds is so.
-/
import Derived.Test.YtkckgjjhnjcffaaSxD
namespace Go.Sx
set_option linter.unusedVariables false
set_option linter.unusedSimpArgs false

def ContractsOk (P : Program) (C : Contracts) : Prop := ∀ f g, C f = some g → ∀ args s outs, g args s = some outs → CallOk P f args s outs
theorem rounds_mono {P : Program} {c : Code} {Q Q' : Exit → Act → World → Prop} (h : ∀ e a w, Q e a w → Q' e a w) : ∀ {n : Nat} {a : Act} {w : World}, Code.rounds P c Q n a w → Code.rounds P c Q' n a w
  | 0, a, w, hr => hr.elim
  | n + 1, a, w, hr => by
    rw [rounds_succ] at hr ⊢
    refine wp_mono hr fun e a w hq => ?_
    cases e with
    | normal => exact rounds_mono h hq
    | _ => exact h _ _ _ hq
theorem init_rel {E : Env} {args : List SV} {ARGS : List Value} (hA : SV.denL E args = some ARGS) (m : Nat) :
    ActRel E { tm := initT args 0 .empty, n := max args.length m } { tmps := ARGS.toArray ++ Array.replicate (m - ARGS.toArray.size) undef, defers := [] } := by
  have hl := denL_length hA
  refine ⟨?_, fun i v hv => ?_, rfl⟩
  · simp [hl]; omega
  · simp only [initT_get] at hv
    split at hv
    · rename_i h1
      simp only [Nat.sub_zero] at hv
      obtain ⟨V, h2, h3⟩ := denL_get hA hv
      refine ⟨V, h3, ?_⟩
      have hi := (List.getElem?_eq_some_iff.1 h2).1
      rw [Array.getElem?_append_left (by simpa using hi)]
      simpa using h2
    · simp [Frame.get_empty] at hv
theorem stepCall_ok {P : Program} {C : Contracts} (hC : ContractsOk P C) {F : Fs} (hF : FsOk P F) {f : FuncId} {args : List SV} {s : St} {outs : List (SV × St)} (h : stepCall P C F f args s = some outs) : CallOk P f args s outs := by
  unfold stepCall at h
  split at h
  · rename_i g hg
    exact hC f g hg args s outs h
  · split at h
    · rename_i fn hfn
      split at h
      · rename_i c hc
        split at h
        · rename_i o1 ho1
          intro w0 E w ARGS hA R
          refine calls_of_wp hfn hc ?_
          refine wp_mono (hF.exec c _ s o1 ho1 w0 E _ w (init_rel hA fn.ntmps) R) fun e A' w' hp => ?_
          obtain ⟨se, a', s', E2, h1, h2, h3, h4, h5⟩ := hp
          obtain ⟨k1, v, k2, k3⟩ := outsOf_mem h h1
          obtain ⟨V, r1, r2⟩ := results_ok h4 h5 k2
          have fin : A'.defers = [] ∧ ∃ v', (results fn A'.tmps).run P w' = .ok v' w' ∧ CallPost w0 E outs (.returned v') w' := ⟨h4.defers, V, r2, v, s', E2, V, k3, h3, r1, rfl, h5⟩
          cases se with
          | normal => cases e <;> simp only [ExOk] at h2; exact fin
          | ret => cases e <;> simp only [ExOk] at h2; exact fin
          | exit i => exact (k1 i rfl).elim
        · cases h
      · cases h
    · cases h
theorem fs_ok {P : Program} {C : Contracts} (hC : ContractsOk P C) : ∀ n, FsOk P (fs P C n) ∧
    ∀ (c : Code) (a : SAct) (s : St) (outs : List (SExit × SAct × St)), (fs P C n).exec (.loop c) a s = some outs → ∀ (w0 : World) (E : Env) (A : Act) (w : World), ActRel E a A → Rel w0 E s w → Code.rounds P c (Post w0 E outs) n A w
  | 0 => ⟨⟨(fun c a s outs h => by cases h), (fun f args s outs h => by cases h)⟩, (fun c a s outs h => by cases h)⟩
  | n + 1 => by
    obtain ⟨ih, ihl⟩ := fs_ok hC n
    have hl : ∀ (c : Code) (a : SAct) (s : St) (outs : List (SExit × SAct × St)), (fs P C (n + 1)).exec (.loop c) a s = some outs → ∀ (w0 : World) (E : Env) (A : Act) (w : World), ActRel E a A → Rel w0 E s w → Code.rounds P c (Post w0 E outs) (n + 1) A w := by
      intro c a s outs h w0 E A w hA R
      simp only [fs, stepExec] at h
      split at h
      · rename_i o1 ho1
        rw [rounds_succ]
        refine wp_mono (ih.exec c a s o1 ho1 w0 E A w hA R) fun e A' w' hp => ?_
        exact exec_seq_like (x := c) h (fun a' s' E' A2 w2 outs' hg le hA' R' hsub => rounds_mono (fun e A3 w3 hp3 => hp3.weaken le hsub) (ihl c a' s' outs' hg w0 E' A2 w2 hA' R')) hp
      · cases h
    refine ⟨⟨fun c a s outs h w0 E A w hA R => ?_, fun f args s outs h => stepCall_ok hC ih h⟩, hl⟩
    by_cases hc : ∃ x, c = .loop x
    · obtain ⟨x, rfl⟩ := hc
      exact wp_loop_rounds (n + 1) (hl x a s outs h w0 E A w hA R)
    · exact stepExec_ok ih (fun x e => hc ⟨x, e⟩) h hA R
def noC : Contracts := fun _ => none
theorem noC_ok (P : Program) : ContractsOk P noC := fun f g h => by cases h
/-- Whatever way it goes, it returns true. -/
def allTrue : Option (List (SV × St)) → Bool
  | some l => l.all fun p => match p.1 with
    | .bool (.lit b) => b
    | .bool c => (match known p.2.asm c with
      | some b => b
      | none => false)
    | _ => false
  | none => false
theorem true_of_outs {P : Program} {f : FuncId} {args : List SV} {asm : Asm} {outs : List (SV × St)} (hc : CallOk P f args { asm := asm } outs) (h : allTrue (some outs) = true) {E : Env} (hE : ∀ id, E.blk id = none) (ha : AsmOk E asm) {ARGS : List Value} (hA : SV.denL E args = some ARGS) (w : World) :
    Calls P f ARGS.toArray w fun e w' => e = .returned (.bool true) ∧ RowKit.Below w.heap.size w w' := by
  refine (hc w E w ARGS hA (Rel.start E w asm hE ha)).mono fun e w' he => ?_
  obtain ⟨v, s', E', V, h1, h2, h3, rfl, h5⟩ := he
  have := List.all_eq_true.1 h _ h1
  split at this
  · rename_i b e
    simp only at e
    subst e
    subst this
    simp only [SV.den, BX.den, Option.some.injEq] at h3
    subst h3
    exact ⟨rfl, h5.below⟩
  · rename_i c _ e
    simp only at e
    subst e
    obtain ⟨b, hb, rfl⟩ := den_bool h3
    split at this
    · rename_i u hu
      have := known_ok hb h5.asm hu
      subst this
      simp_all
      exact h5.below
    · cases this
  · cases this
/-- A run that finds 'true' on every way. -/
theorem true_of_run {P : Program} {C : Contracts} (hC : ContractsOk P C) {n : Nat} {f : FuncId} {args : List SV} {asm : Asm} (h : allTrue ((fs P C n).call f args { asm := asm }) = true) {E : Env} (hE : ∀ id, E.blk id = none) (ha : AsmOk E asm) {ARGS : List Value} (hA : SV.denL E args = some ARGS) (w : World) :
    Calls P f ARGS.toArray w fun e w' => e = .returned (.bool true) ∧ RowKit.Below w.heap.size w w' := by
  cases ho : (fs P C n).call f args { asm := asm } with
  | none => rw [ho] at h; cases h
  | some outs =>
    rw [ho] at h
    exact true_of_outs ((fs_ok hC n).1.call f args _ outs ho) h hE ha hA w
end Go.Sx
