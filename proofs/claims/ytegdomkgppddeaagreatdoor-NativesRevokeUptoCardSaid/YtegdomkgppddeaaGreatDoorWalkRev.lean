/- NativesRevoke: every call of it returns true. -/
import Derived.Test.YtegdomkgppddeaaGreatDoorRevA
import Derived.Test.YtegdomkgppddeaaGreatDoorRevB
import Derived.Test.YtegdomkgppddeaaGreatDoorRevC
import Derived.Test.YtegdomkgppddeaaGreatDoorRevD
namespace Go.Proofs.YtegdomkgppddeaaGreatDoor
open Go.Sx Go.RowKit
set_option maxRecDepth 100000
theorem rvm_1 : ∀ c, c < 10 → vRun 1 c = true
  | 0, _ => rv_1_0
  | 1, _ => rv_1_1
  | 2, _ => rv_1_2
  | 3, _ => rv_1_3
  | 4, _ => rv_1_4
  | 5, _ => rv_1_5
  | 6, _ => rv_1_6
  | 7, _ => rv_1_7
  | 8, _ => rv_1_8
  | 9, _ => rv_1_9
  | c + 10, h => by omega
theorem rvm_2 : ∀ c, c < 10 → vRun 2 c = true
  | 0, _ => rv_2_0
  | 1, _ => rv_2_1
  | 2, _ => rv_2_2
  | 3, _ => rv_2_3
  | 4, _ => rv_2_4
  | 5, _ => rv_2_5
  | 6, _ => rv_2_6
  | 7, _ => rv_2_7
  | 8, _ => rv_2_8
  | 9, _ => rv_2_9
  | c + 10, h => by omega
theorem rvm_3 : ∀ c, c < 10 → vRun 3 c = true
  | 0, _ => rv_3_0
  | 1, _ => rv_3_1
  | 2, _ => rv_3_2
  | 3, _ => rv_3_3
  | 4, _ => rv_3_4
  | 5, _ => rv_3_5
  | 6, _ => rv_3_6
  | 7, _ => rv_3_7
  | 8, _ => rv_3_8
  | 9, _ => rv_3_9
  | c + 10, h => by omega
theorem rvm_4 : ∀ c, c < 10 → vRun 4 c = true
  | 0, _ => rv_4_0
  | 1, _ => rv_4_1
  | 2, _ => rv_4_2
  | 3, _ => rv_4_3
  | 4, _ => rv_4_4
  | 5, _ => rv_4_5
  | 6, _ => rv_4_6
  | 7, _ => rv_4_7
  | 8, _ => rv_4_8
  | 9, _ => rv_4_9
  | c + 10, h => by omega
theorem rvm_5 : ∀ c, c < 10 → vRun 5 c = true
  | 0, _ => rv_5_0
  | 1, _ => rv_5_1
  | 2, _ => rv_5_2
  | 3, _ => rv_5_3
  | 4, _ => rv_5_4
  | 5, _ => rv_5_5
  | 6, _ => rv_5_6
  | 7, _ => rv_5_7
  | 8, _ => rv_5_8
  | 9, _ => rv_5_9
  | c + 10, h => by omega
theorem rvm_6 : ∀ c, c < 10 → vRun 6 c = true
  | 0, _ => rv_6_0
  | 1, _ => rv_6_1
  | 2, _ => rv_6_2
  | 3, _ => rv_6_3
  | 4, _ => rv_6_4
  | 5, _ => rv_6_5
  | 6, _ => rv_6_6
  | 7, _ => rv_6_7
  | 8, _ => rv_6_8
  | 9, _ => rv_6_9
  | c + 10, h => by omega
theorem rvm_7 : ∀ c, c < 10 → vRun 7 c = true
  | 0, _ => rv_7_0
  | 1, _ => rv_7_1
  | 2, _ => rv_7_2
  | 3, _ => rv_7_3
  | 4, _ => rv_7_4
  | 5, _ => rv_7_5
  | 6, _ => rv_7_6
  | 7, _ => rv_7_7
  | 8, _ => rv_7_8
  | 9, _ => rv_7_9
  | c + 10, h => by omega
theorem rvm_8 : ∀ c, c < 10 → vRun 8 c = true
  | 0, _ => rv_8_0
  | 1, _ => rv_8_1
  | 2, _ => rv_8_2
  | 3, _ => rv_8_3
  | 4, _ => rv_8_4
  | 5, _ => rv_8_5
  | 6, _ => rv_8_6
  | 7, _ => rv_8_7
  | 8, _ => rv_8_8
  | 9, _ => rv_8_9
  | c + 10, h => by omega
theorem rvm_9 : ∀ c, c < 10 → vRun 9 c = true
  | 0, _ => rv_9_0
  | 1, _ => rv_9_1
  | 2, _ => rv_9_2
  | 3, _ => rv_9_3
  | 4, _ => rv_9_4
  | 5, _ => rv_9_5
  | 6, _ => rv_9_6
  | 7, _ => rv_9_7
  | 8, _ => rv_9_8
  | 9, _ => rv_9_9
  | c + 10, h => by omega
theorem rvm_10 : ∀ c, c < 10 → vRun 10 c = true
  | 0, _ => rv_10_0
  | 1, _ => rv_10_1
  | 2, _ => rv_10_2
  | 3, _ => rv_10_3
  | 4, _ => rv_10_4
  | 5, _ => rv_10_5
  | 6, _ => rv_10_6
  | 7, _ => rv_10_7
  | 8, _ => rv_10_8
  | 9, _ => rv_10_9
  | c + 10, h => by omega
theorem rvm_11 : ∀ c, c < 10 → vRun 11 c = true
  | 0, _ => rv_11_0
  | 1, _ => rv_11_1
  | 2, _ => rv_11_2
  | 3, _ => rv_11_3
  | 4, _ => rv_11_4
  | 5, _ => rv_11_5
  | 6, _ => rv_11_6
  | 7, _ => rv_11_7
  | 8, _ => rv_11_8
  | 9, _ => rv_11_9
  | c + 10, h => by omega
theorem rvm_12 : ∀ c, c < 10 → vRun 12 c = true
  | 0, _ => rv_12_0
  | 1, _ => rv_12_1
  | 2, _ => rv_12_2
  | 3, _ => rv_12_3
  | 4, _ => rv_12_4
  | 5, _ => rv_12_5
  | 6, _ => rv_12_6
  | 7, _ => rv_12_7
  | 8, _ => rv_12_8
  | 9, _ => rv_12_9
  | c + 10, h => by omega
theorem rvm_13 : ∀ c, c < 10 → vRun 13 c = true
  | 0, _ => rv_13_0
  | 1, _ => rv_13_1
  | 2, _ => rv_13_2
  | 3, _ => rv_13_3
  | 4, _ => rv_13_4
  | 5, _ => rv_13_5
  | 6, _ => rv_13_6
  | 7, _ => rv_13_7
  | 8, _ => rv_13_8
  | 9, _ => rv_13_9
  | c + 10, h => by omega
theorem rvm : ∀ m, 1 ≤ m → m < 14 → ∀ c, c < 10 → vRun m c = true
  | 0, h, _ => by omega
  | 1, _, _ => rvm_1
  | 2, _, _ => rvm_2
  | 3, _, _ => rvm_3
  | 4, _, _ => rvm_4
  | 5, _, _ => rvm_5
  | 6, _, _ => rvm_6
  | 7, _, _ => rvm_7
  | 8, _, _ => rvm_8
  | 9, _, _ => rvm_9
  | 10, _, _ => rvm_10
  | 11, _, _ => rvm_11
  | 12, _, _ => rvm_12
  | 13, _, _ => rvm_13
  | m + 14, _, h => by omega
theorem vGo_ok {m : Int} {x : Sk} {i : IX} {L : SV} {asm : Asm} {c : Nat} {w : World} (h : vGo i L asm c = true) (hi : i.den (aEnv x m 0) = some m) (hL : (SV.agg (askS L)).den (aEnv x m 0) = some x.val) (R : Rel w (aEnv x m 0) (aSt asm c) w) :
    Calls Tryz.prog 11 #[.int .i64 m, x.val] w fun e w' => e = .returned (.bool true) ∧ Below w.heap.size w w' :=
  true_from cV_ok h R (ARGS := [.int .i64 m, x.val]) (by simp only [SV.denL, SV.den, hi] at hL ⊢; simp only [hL])
theorem aDenLong {x : Sk} {m n : Int} {b off cap : Nat} {l : List Va} (e : x.l = .at b off cap l) {w : World} (hx : x.l.ok w) : (SV.agg (askS (.slc 0 0 l.length none 3))).den (aEnv x m n) = some x.val := by
  have := aDen (m := m) (n := n) hx
  rw [e] at this
  exact this
theorem walkRev (m : Int) (_ : wfI m) (x : Sk) {w : World} (hx : x.ok w) (hs : x.small 1048576) :
    Calls Tryz.prog 11 #[.int .i64 m, x.val] w fun e w' => e = .returned (.bool true) ∧ Below w.heap.size w w' := by
  have hl := hx.2.2.2.2.1
  obtain ⟨q1, q2, q3⟩ := x.l.cls_l
  by_cases c0 : m < 1
  · have ha : AsmOk (aEnv x m 0) [(.ilt (.var 11) (.lit 1), true)] := fun c v hm => by
      simp only [List.mem_singleton, Prod.mk.injEq] at hm
      obtain ⟨rfl, rfl⟩ := hm
      simp [BX.den, IX.den, aEnv]; omega
    cases e : x.l with
    | nil => exact vGo_ok vLow0 rfl (by have := aDen (m := m) (n := 0) hl; rw [e] at this; exact this) (aRel hl (Nat.zero_le _) (fun _ => rfl) ha)
    | «at» b off cap l => exact vGo_ok (vLow1 l.length) rfl (aDenLong e hl) (aRel hl (by omega) (fun h => by rw [e] at h; cases h) ha)
  by_cases c1 : 13 < m
  · have ha : AsmOk (aEnv x m 0) [(.ilt (.lit 13) (.var 11), true)] := fun c v hm => by
      simp only [List.mem_singleton, Prod.mk.injEq] at hm
      obtain ⟨rfl, rfl⟩ := hm
      simp [BX.den, IX.den, aEnv]; omega
    cases e : x.l with
    | nil => exact vGo_ok vHigh0 rfl (by have := aDen (m := m) (n := 0) hl; rw [e] at this; exact this) (aRel hl (Nat.zero_le _) (fun _ => rfl) ha)
    | «at» b off cap l => exact vGo_ok (vHigh1 l.length) rfl (aDenLong e hl) (aRel hl (by omega) (fun h => by rw [e] at h; cases h) ha)
  by_cases c2 : 9 ≤ x.l.l.length
  · refine true_of_fast cVL_ok vLongs (E := lEnv x m 0) (fun _ => rfl) (fun c v hm => ?_) (ARGS := [.int .i64 m, x.val]) (by
      have h1 : (SV.int .i64 (.var 11)).den (lEnv x m 0) = some (.int .i64 m) := rfl
      have h2 := lDen (x := x) (m := m) (n := 0)
      simp only [SV.denL, h1, h2]) w (lQQ hx hs c2)
    rcases List.mem_cons.1 hm with e | hm
    · cases e; rfl
    · simp only [List.mem_cons, List.not_mem_nil, or_false, Prod.mk.injEq] at hm
      rcases hm with ⟨rfl, rfl⟩ | ⟨rfl, rfl⟩ <;> · simp [BX.den, IX.den, lEnv]; omega
  · obtain ⟨k, rfl⟩ : ∃ k : Nat, m = k := ⟨m.toNat, by omega⟩
    exact vGo_ok (rvm k (by omega) (by omega) x.l.cls (by omega)) rfl (aDen hl) (aRel hl q2 q3 (aSmall hs))
end Go.Proofs.YtegdomkgppddeaaGreatDoor
