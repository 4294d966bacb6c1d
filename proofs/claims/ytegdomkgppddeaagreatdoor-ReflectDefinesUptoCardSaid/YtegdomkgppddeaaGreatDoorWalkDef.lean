/- ReflectDefines: every call of it returns true. -/
import Derived.Test.YtegdomkgppddeaaGreatDoorDefA
import Derived.Test.YtegdomkgppddeaaGreatDoorDefB
import Derived.Test.YtegdomkgppddeaaGreatDoorDe
namespace Go.Proofs.YtegdomkgppddeaaGreatDoor
open Go.Sx Go.RowKit
set_option maxRecDepth 100000
theorem d_runs : ∀ hv hw he hc : Bool, dGo (.lit hv) (.lit false) (.lit false) (.lit hw) (.lit he) (.lit hc) = true
  | false, false, false, false => d_0000
  | false, false, false, true => d_0001
  | false, false, true, false => d_0010
  | false, false, true, true => d_0011
  | false, true, false, false => d_0100
  | false, true, false, true => d_0101
  | false, true, true, false => d_0110
  | false, true, true, true => d_0111
  | true, false, false, false => d_1000
  | true, false, false, true => d_1001
  | true, false, true, false => d_1010
  | true, false, true, true => d_1011
  | true, true, false, false => d_1100
  | true, true, false, true => d_1101
  | true, true, true, false => d_1110
  | true, true, true, true => d_1111
def dEnv (d : De) (k : Va) : Env where
  ints := [k.k, k.n, keySym k.k k.n, d.v.k, d.v.n, d.g.k, d.g.n, d.s.k, d.s.n, b2i d.w, b2i d.e, b2i d.c]
  bools := [keyIs k.k, d.w, d.e, d.c, d.hv, d.hg, d.hs, d.hw, d.he, d.hc]
  strs := [k.s, numeral k.n, keyStr k.k k.n k.s, d.v.s, d.g.s, d.s.s]
theorem dGo_ok {hv hg hs hw he hc : BX} (h : dGo hv hg hs hw he hc = true) {d : De} {k : Va} (e0 : hv.den (dEnv d k) = some d.hv) (e1 : hg.den (dEnv d k) = some d.hg) (e2 : hs.den (dEnv d k) = some d.hs) (e3 : hw.den (dEnv d k) = some d.hw) (e4 : he.den (dEnv d k) = some d.he) (e5 : hc.den (dEnv d k) = some d.hc)
    (hd : d.bulk ≤ 1048576) (hk : k.ok) (hks : k.s.size ≤ 1048576) {w : World} (ht : Lib.TabIs Tryz.prog w "internal/strconv.uint64pow10" .u64 Lib.pow10Tab) :
    Calls Tryz.prog 9 #[d.val, k.val] w fun e w' => e = .returned (.bool true) ∧ Below w.heap.size w w' := by
  refine true_of_fast cD_ok h (E := dEnv d k) (fun _ => rfl) (fun c b hm => ?_) (ARGS := [d.val, k.val]) ?_ w ⟨heap_of_tab ht, ⟨k.k, k.n, k.s, rfl, rfl, rfl, hk.2, rfl, rfl, rfl, rfl⟩, ⟨_, rfl, rfl⟩, ⟨_, rfl, rfl⟩, ⟨_, rfl, rfl⟩⟩
  · simp only [dSmall, List.mem_cons, List.not_mem_nil, or_false, Prod.mk.injEq] at hm
    have hv : d.v.s.size ≤ 1048576 := by unfold De.bulk at hd; omega
    rcases hm with ⟨rfl, rfl⟩ | ⟨rfl, rfl⟩ <;> · simp [BX.den, IX.den, SX.den, dEnv]; omega
  · simp only [dArgs, SV.denL, SV.den, e0, e1, e2, e3, e4, e5]
    simp [IX.den, SX.den, BX.den, dEnv, Va.val]
theorem walkDef (d : De) (_ : d.ok) (hd : d.bulk ≤ 1048576) (k : Va) (hk : k.ok) (hks : k.s.size ≤ 1048576) {w : World} (ht : Lib.TabIs Tryz.prog w "internal/strconv.uint64pow10" .u64 Lib.pow10Tab) :
    Calls Tryz.prog 9 #[d.val, k.val] w fun e w' => e = .returned (.bool true) ∧ Below w.heap.size w w' := by
  cases hg : d.hg with
  | true => exact dGo_ok d_get rfl (by rw [hg]; rfl) rfl rfl rfl rfl hd hk hks ht
  | false => cases hs : d.hs with
    | true => exact dGo_ok d_set rfl (by rw [hg]; rfl) (by rw [hs]; rfl) rfl rfl rfl hd hk hks ht
    | false => exact dGo_ok (d_runs d.hv d.hw d.he d.hc) rfl (by rw [hg]; rfl) (by rw [hs]; rfl) rfl rfl rfl hd hk hks ht
end Go.Proofs.YtegdomkgppddeaaGreatDoor
