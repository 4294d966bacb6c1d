/- slices.Clone of a slice of which the run knows nothing: a slice that the run made, of which nothing is known. -/
import Derived.Test.YtegdomkgppddeaaGreatDoorUwAskRun
import Derived.Shelf.SlicesE.Clone
namespace Go.Proofs.YtegdomkgppddeaaGreatDoor
open Go.Sx Go.RowKit Go.Shelf
set_option maxRecDepth 100000
def clRen : Go.Shelf.Ren := ⟨fun | 41 => 56 | n => n, fun | 4 => 4 | 22 => 39 | 23 => 30 | n => n, fun n => n⟩
theorem clLay : SlLaysE0.n41 Tryz.prog clRen where
  mixed := by kernel_rfl
  f41 := ⟨"slices.Clone[[]understudy/api.Value,understudy/api.Value]", by decide, Tryz.func56.trans (congrArg some (by kernel_rfl))⟩
  t4 := Tryz.underlying4
  a4 := Tryz.isAgg4
  z4 := Tryz.sizeOf4
  v4 := Tryz.zeroValue4
  t22 := by kernel_rfl
  a22 := fun w => by kernel_rfl
  z22 := fun w => by kernel_rfl
  v22 := fun w => by kernel_rfl
theorem clInfo : ∃ i0, Tryz.prog.info? 30 = some i0 ∧ i0.zero = some (.agg #[.int .i64 0, .int .i64 0, .string ⟨#[]⟩]) ∧ i0.size = 3 ∧ i0.bytes = 32 := by
  obtain ⟨i0, h⟩ := Option.isSome_iff_exists.1 (show (Tryz.prog.info? 30).isSome = true by kernel_rfl)
  have e : (Tryz.prog.info? 30).map (fun i => (i.zero, i.size, i.bytes)) = some (some (.agg #[.int .i64 0, .int .i64 0, .string ⟨#[]⟩]), 3, 32) := by kernel_rfl
  rw [h] at e
  simp only [Option.map_some, Option.some.injEq, Prod.mk.injEq] at e
  exact ⟨i0, h, e.1, e.2.1, e.2.2⟩
/-- What the run has behind it. -/
def clOut (s : St) : List (SV × St) := [(.opf s.next, { s with h := s.h.put s.next .raw, next := s.next + 1 })]
theorem cl_calls {w0 w : World} {E : Env} {s : St} (R : Rel w0 E s w) {b off l c : Nat} {cs : Array Value} {ty : TypeId} {fr : Nat × Nat} (hb : w.heap[b]? = some (.cells cs ty fr)) (hl : l ≤ 1048576) (hn : off + l * 3 ≤ cs.size) (h1 : ∀ j, j < l * 3 → ∃ V, cs[off + j]? = some V ∧ V.oneCell' = true) :
    Calls Tryz.prog 56 #[Value.slice (some ⟨b, off, none⟩) l c] w (CallPost w0 E (clOut s)) := by
  obtain ⟨i0, g1, g2, g3, g4⟩ := clInfo
  have hlen : ((cs.toList.drop off).take (l * 3)).length = l * 3 := by simp; omega
  have hget : ∀ j u, ((cs.toList.drop off).take (l * 3))[j]? = some u → j < l * 3 ∧ cs[off + j]? = some u := by
    intro j u h
    rw [List.getElem?_take] at h
    split at h
    · rename_i hj
      rw [List.getElem?_drop] at h
      exact ⟨hj, by simpa using h⟩
    · cases h
  refine (AnyE.slices_Clone clLay i0 _ 3 32 g1 g2 g3 g4 (by kernel_rfl) (by decide) (fun w => by kernel_rfl) b off l c ((cs.toList.drop off).take (l * 3)) w hlen (by unfold maxLen; omega) (by omega) (fun j u h => ?_) (fun u hu => ?_)).mono fun e w' he => ?_
  · unfold World.cell?
    simp only [hb]
    exact (hget j u h).2
  · obtain ⟨j, hj⟩ := List.getElem?_of_mem hu
    obtain ⟨hj1, hj2⟩ := hget j u hj
    obtain ⟨V, e1, e2⟩ := h1 j hj1
    rw [hj2] at e1
    cases e1
    exact e2
  · obtain ⟨v', rfl, ⟨-, hown⟩, hnn, hB⟩ := he
    rcases hown with ⟨rfl, -⟩ | ⟨g, cap, cur, rfl, q1, q2, q3, q4, q5, q6⟩
    · exact (hnn rfl).elim
    · have R' := R.grownY hB
      have hcur : l * 3 ≤ cur.size := by rw [q5]; exact Nat.mul_le_mul_right _ q3
      obtain ⟨le, R2⟩ := R'.nameRo (b := g) (base := 0) (n := l * 3) (.slice (some ⟨g, 0, none⟩) l cap) (fun id o x hg ho hx => by
        obtain ⟨b', base', n', e1, e2⟩ := R.mem id o hg (SObj.own_live ho)
        have := e2.lt (SObj.own_live ho)
        rw [hx] at e1
        cases e1
        show b' ≠ g
        omega) q2 (by omega) (fun i hi => by
        have h3 : (cur.toList.take (l * 3))[i]? = ((cs.toList.drop off).take (l * 3))[i]? := by rw [q6]
        rw [List.getElem?_take_of_lt hi] at h3
        obtain ⟨V, e1, e2⟩ := h1 i hi
        refine ⟨V, ?_, e2⟩
        rw [Nat.zero_add]
        have h4 : ((cs.toList.drop off).take (l * 3))[i]? = some V := by
          rw [List.getElem?_take_of_lt hi, List.getElem?_drop]
          simpa using e1
        rw [h4] at h3
        simpa using h3)
      refine ⟨.opf s.next, _, _, _, List.mem_singleton.2 rfl, le, ?_, rfl, R2⟩
      simp [SV.den, Env.addV, hl]
noncomputable def clG : List SV → St → Option (List (SV × St))
  | [.opq 0], s => match s.asm.any fun p => decide (p = (BX.var 9, true)) with
    | true => some (clOut s)
    | false => none
  | [.opf i], s => match s.h.get i with
    | some .raw => some (clOut s)
    | _ => none
  | args, s => ((fk Tryz.prog noC 50).call 56 args s).outs
noncomputable def clC (C : Contracts) : Contracts := fun f => match Nat.beq f 56 with
  | true => some clG
  | false => C f
theorem clC_ok {C : Contracts} (hC : ContractsOk Tryz.prog C) : ContractsOk Tryz.prog (clC C) := by
  intro f g hg args s outs h
  unfold clC at hg
  split at hg
  · rename_i hf
    cases hg
    have := Nat.eq_of_beq_eq_true hf
    subst this
    unfold clG at h
    split at h
    · split at h
      · rename_i h9
        cases h
        intro w0 E w ARGS hA R
        obtain ⟨p, hp, hd⟩ := List.any_eq_true.1 h9
        have := of_decide_eq_true hd
        subst this
        have h9 : E.bools[9]? = some true := R.asm _ _ hp
        obtain ⟨V, Vs, rfl, hV, hA⟩ := denL_cons_inv hA
        simp only [SV.denL, Option.some.injEq] at hA
        subst hA
        rcases (QQ.below R.below R.qq).list with q | ⟨-, b, off, cap, l, q1, ⟨cs, ty, fr, r1, r2, r3, r4, r5⟩, -, q4, -⟩
        · rw [h9] at q; cases q
        · obtain rfl : V = .slice (some ⟨b, off, none⟩) l.length cap := by simpa [SV.den, q1] using hV.symm
          refine cl_calls R r1 q4 (by omega) (fun j hj => ?_)
          have hi : j / 3 < l.length := by omega
          obtain ⟨e1, e2, e3⟩ := r5 (j / 3) l[j / 3] (List.getElem?_eq_getElem hi)
          have hm : j % 3 = 0 ∨ j % 3 = 1 ∨ j % 3 = 2 := by omega
          rcases hm with hm | hm | hm
          · exact ⟨_, by rw [show j = j / 3 * 3 + 0 by omega, ← Nat.add_assoc] ; simpa [Nat.add_assoc] using e1, rfl⟩
          · exact ⟨_, by rw [show j = j / 3 * 3 + 1 by omega] ; exact e2, rfl⟩
          · exact ⟨_, by rw [show j = j / 3 * 3 + 2 by omega] ; exact e3, rfl⟩
      · cases h
    · rename_i i
      split at h
      · rename_i hr
        cases h
        intro w0 E w ARGS hA R
        obtain ⟨V, Vs, rfl, hV, hA⟩ := denL_cons_inv hA
        simp only [SV.denL, Option.some.injEq] at hA
        subst hA
        obtain ⟨b, base, n, e1, cs, ty, fr, e2, e3, e4⟩ := R.mem i _ hr rfl
        simp only [SV.den, e1] at hV
        split at hV
        · rename_i ad l c _ _ _ hx hy
          cases hy
          split at hV
          · rename_i hd
            cases hV
            obtain ⟨rfl, d2, d3⟩ := of_decide_eq_true hd
            exact cl_calls R e2 d3 (by omega) (fun j hj => e4 j (by omega))
          · cases hV
        · cases hV
      · cases h
    · exact (fk_ok (noC_ok _) 50).fs.call _ _ _ _ h
  · exact hC f g hg args s outs h
end Go.Proofs.YtegdomkgppddeaaGreatDoor
