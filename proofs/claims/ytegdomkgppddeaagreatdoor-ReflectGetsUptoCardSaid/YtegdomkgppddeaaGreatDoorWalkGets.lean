/- ReflectGets: every call of it returns true. -/
import Derived.Test.YtegdomkgppddeaaGreatDoorGetsA
import Derived.Test.YtegdomkgppddeaaGreatDoorGetsB
import Derived.Test.YtegdomkgppddeaaGreatDoorGetsC
import Derived.Test.YtegdomkgppddeaaGreatDoorKit
namespace Go.Proofs.YtegdomkgppddeaaGreatDoor
open Go.Sx Go.RowKit
def gEnv (k v : Va) : Env := { ints := [k.k, k.n, v.k, v.n], strs := [k.s, numeral k.n, v.s] }
theorem gRun_ok {x : IX} {asm : Asm} (h : gRun x asm = true) {k v : Va} (hx : x.den (gEnv k v) = some k.k) (ha : AsmOk (gEnv k v) asm) (hk : k.ok) {w : World} (ht : Lib.TabIs Tryz.prog w "internal/strconv.uint64pow10" .u64 Lib.pow10Tab) :
    Calls Tryz.prog 8 #[k.val, v.val] w fun e w' => e = .returned (.bool true) ∧ Below w.heap.size w w' :=
  true_of_fast cG_ok h (E := gEnv k v) (fun _ => rfl) ha (ARGS := [k.val, v.val]) (by simp only [SV.denL, SV.den, hx]; simp [IX.den, SX.den, gEnv, Va.val]) w ⟨heap_of_tab ht, k.n, rfl, hk.2, rfl⟩
theorem walkGets (k : Va) (hk : k.ok) (hks : k.s.size ≤ 1048576) (v : Va) (_ : v.ok) (hvs : v.s.size ≤ 1048576) {w : World} (ht : Lib.TabIs Tryz.prog w "internal/strconv.uint64pow10" .u64 Lib.pow10Tab) :
    Calls Tryz.prog 8 #[k.val, v.val] w fun e w' => e = .returned (.bool true) ∧ Below w.heap.size w w' := by
  have hs : AsmOk (gEnv k v) gSmall := fun c b hm => by
    simp only [gSmall, List.mem_cons, List.not_mem_nil, or_false, Prod.mk.injEq] at hm
    rcases hm with ⟨rfl, rfl⟩ | ⟨rfl, rfl⟩ <;> · simp [BX.den, IX.den, SX.den, gEnv]; omega
  by_cases c0 : k.k < 0
  · exact gRun_ok gets_low rfl (fun c b hm => by
      rcases List.mem_cons.1 hm with e | hm
      · cases e
        simp [BX.den, IX.den, gEnv]; omega
      · exact hs c b hm) hk ht
  by_cases c1 : 6 < k.k
  · exact gRun_ok gets_high rfl (fun c b hm => by
      rcases List.mem_cons.1 hm with e | hm
      · cases e
        simp [BX.den, IX.den, gEnv]; omega
      · exact hs c b hm) hk ht
  have hc : k.k = (0 : Nat) ∨ k.k = (1 : Nat) ∨ k.k = (2 : Nat) ∨ k.k = (3 : Nat) ∨ k.k = (4 : Nat) ∨ k.k = (5 : Nat) ∨ k.k = (6 : Nat) := by omega
  rcases hc with e | e | e | e | e | e | e
  · exact gRun_ok gets_0 (congrArg some e.symm) hs hk ht
  · exact gRun_ok gets_1 (congrArg some e.symm) hs hk ht
  · exact gRun_ok gets_2 (congrArg some e.symm) hs hk ht
  · exact gRun_ok gets_3 (congrArg some e.symm) hs hk ht
  · exact gRun_ok gets_4 (congrArg some e.symm) hs hk ht
  · exact gRun_ok gets_5 (congrArg some e.symm) hs hk ht
  · exact gRun_ok gets_6 (congrArg some e.symm) hs hk ht
end Go.Proofs.YtegdomkgppddeaaGreatDoor
