/- strconv.Itoa as a contract of the symbolic run: of number 1 it tells text 1. -/
import Derived.Test.YtegdomkgppddeaaGreatDoorUxRvM
import Derived.Test.YtegdomkgppddeaaGreatDoorLayIt
import Derived.Lib.AppendIntMem
namespace Go.Proofs.YtegdomkgppddeaaGreatDoor
open Go.Sx Go.RowKit
theorem digs_eq (u : Nat) : digs u = Lib.decDigits u := by
  induction u using Nat.strongRecOn with
  | _ u ih =>
    rw [digs, Lib.decDigits]
    by_cases h : u < 10
    · rw [dif_pos h, dif_pos h]
    · rw [dif_neg h, dif_neg h, ih _ (by omega)]
theorem numeral_eq (n : Int) : numeral n = ⟨(Lib.itoa n).toArray⟩ := by
  unfold numeral Lib.itoa
  simp only [digs_eq]
theorem tab_eq : (Lib.pow10Tab.map fun z => Value.int .u64 z).toArray = pow10V := by
  unfold Lib.pow10Tab pow10V
  rw [List.map_map]
  rfl
theorem tab_of_heap {w : World} {ty : TypeId} {fr : Nat × Nat} (h : w.heap[3]? = some (.cells pow10V ty fr)) : Lib.TabIs Tryz.prog w "internal/strconv.uint64pow10" .u64 Lib.pow10Tab := by
  unfold Lib.TabIs World.var?
  rw [show Tryz.prog.globalNamed "internal/strconv.uint64pow10" = some 3 by kernel_rfl, tab_eq]
  simp only [Option.bind_some, h]
theorem heap_of_tab {w : World} (h : Lib.TabIs Tryz.prog w "internal/strconv.uint64pow10" .u64 Lib.pow10Tab) : ∃ ty fr, w.heap[3]? = some (.cells pow10V ty fr) := by
  unfold Lib.TabIs World.var? at h
  rw [show Tryz.prog.globalNamed "internal/strconv.uint64pow10" = some 3 by kernel_rfl, tab_eq] at h
  simp only [Option.bind_some] at h
  split at h
  · rename_i cs ty fr hc
    cases h
    exact ⟨ty, fr, hc⟩
  · cases h
def itG : List SV → St → Option (List (SV × St))
  | [.int .i64 (.var 1)], s => some [(.str (.var 1), s)]
  | _, _ => none
def itC (C : Contracts) : Contracts := fun f => match Nat.beq f 193 with
  | true => some itG
  | false => C f
theorem itC_ok {C : Contracts} (hC : ContractsOk Tryz.prog C) : ContractsOk Tryz.prog (itC C) := by
  intro f g hg args s outs h
  unfold itC at hg
  split at hg
  · rename_i hf
    cases hg
    have := Nat.eq_of_beq_eq_true hf
    subst this
    intro w0 E w ARGS hA R
    unfold itG at h
    split at h
    · cases h
      obtain ⟨⟨ty, fr, hg⟩, ⟨k0, x, s0, -, hx, -, ⟨h0, h1⟩, hs, -, -, -⟩, -, -, -⟩ := QQ.below R.below R.qq
      have ht := tab_of_heap hg
      simp [SV.denL, SV.den, IX.den, hx] at hA
      subst hA
      refine (Tryz.strconv_Itoa x h0 h1 w ht).mono fun e w' he => ?_
      obtain ⟨rfl, k, os, rfl⟩ := he
      exact ⟨.str (.var 1), s, E, .string _, List.mem_singleton.2 rfl, .refl E, by simp [SV.den, SX.den, hs, numeral_eq], rfl, R.grownY (Go.Lib.below_grow _ w (Nat.le_refl _) k os)⟩
    · cases h
  · exact hC f g hg args s outs h
end Go.Proofs.YtegdomkgppddeaaGreatDoor
