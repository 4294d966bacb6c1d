/- Descriptors in the symbolic run: which bits are known, the rest are variables. -/
import Derived.Test.YthjfdbbpgdflkaaDe
import Derived.Test.YthjfdbbpgdflkaaSxAl5
import Derived.Test.YthjfdbbpgdflkaaSyC
namespace Go.Proofs.Ythjfdbbpgdflkaa
open Go.Sx Go.RowKit
def deS (hv hg hs hw he hc w e c : BX) (n k : Nat) : SV := .agg [.bool hv, .bool hg, .bool hs, .bool hw, .bool he, .bool hc, .int .i64 (.var n), .int .i64 (.var (n+1)), .str (.var k), .int .i64 (.var (n+2)), .int .i64 (.var (n+3)), .str (.var (k+1)), .int .i64 (.var (n+4)), .int .i64 (.var (n+5)), .str (.var (k+2)), .bool w, .bool e, .bool c]
def smallAsm : Nat → Asm
  | 0 => []
  | k + 1 => (.ilt (.slen (.var k)) (.lit 1048577), true) :: smallAsm k
/-- Two descriptors and a bool; the first one's bits told or not, the second one's told. -/
def args2 (d0 d1 d2 d3 n0 n1 n2 n3 n4 n5 : BX) : List SV :=
  [deS d0 d1 d2 d3 (.var 0) (.var 1) (.var 2) (.var 3) (.var 4) 0 0, deS n0 n1 n2 n3 n4 n5 (.var 5) (.var 6) (.var 7) 6 3, .bool (.var 8)]
noncomputable def run2 (P : Program) (C : Contracts) (f : Nat) (d0 d1 d2 d3 n0 n1 n2 n3 n4 n5 : BX) : Bool :=
  allTrue ((fk P C 3000).call f (args2 d0 d1 d2 d3 n0 n1 n2 n3 n4 n5) { asm := smallAsm 6 }).outs
def env2 (x y : De) (b : Bool) : Env where
  ints := [x.v.k, x.v.n, x.g.k, x.g.n, x.s.k, x.s.n, y.v.k, y.v.n, y.g.k, y.g.n, y.s.k, y.s.n]
  strs := [x.v.s, x.g.s, x.s.s, y.v.s, y.g.s, y.s.s]
  bools := [x.he, x.hc, x.w, x.e, x.c, y.w, y.e, y.c, b, x.hv, x.hg, x.hs, x.hw]
theorem small2 {x y : De} {b : Bool} (hx : x.bulk ≤ 1048576) (hy : y.bulk ≤ 1048576) : AsmOk (env2 x y b) (smallAsm 6) := by
  simp only [De.bulk] at hx hy
  intro c v hm
  simp only [smallAsm, List.mem_cons, List.not_mem_nil, or_false, Prod.mk.injEq] at hm
  rcases hm with ⟨rfl, rfl⟩ | ⟨rfl, rfl⟩ | ⟨rfl, rfl⟩ | ⟨rfl, rfl⟩ | ⟨rfl, rfl⟩ | ⟨rfl, rfl⟩ <;> simp [BX.den, IX.den, SX.den, env2] <;> omega
theorem walk2 {f : Nat} {x y : De} {b : Bool} (hx : x.bulk ≤ 1048576) (hy : y.bulk ≤ 1048576) {d0 d1 d2 d3 n0 n1 n2 n3 n4 n5 : BX} (h : run2 Try.prog c5 f d0 d1 d2 d3 n0 n1 n2 n3 n4 n5 = true)
    (h0 : d0.den (env2 x y b) = some x.hv) (h1 : d1.den (env2 x y b) = some x.hg) (h2 : d2.den (env2 x y b) = some x.hs) (h3 : d3.den (env2 x y b) = some x.hw)
    (k0 : n0.den (env2 x y b) = some y.hv) (k1 : n1.den (env2 x y b) = some y.hg) (k2 : n2.den (env2 x y b) = some y.hs) (k3 : n3.den (env2 x y b) = some y.hw) (k4 : n4.den (env2 x y b) = some y.he) (k5 : n5.den (env2 x y b) = some y.hc) (w : World) :
    Calls Try.prog f #[x.val, y.val, .bool b] w fun e w' => e = .returned (.bool true) ∧ Below w.heap.size w w' := by
  refine true_of_fast c5_ok h (E := env2 x y b) (fun _ => rfl) (small2 hx hy) (ARGS := [x.val, y.val, .bool b]) ?_ w
  simp only [args2, deS, SV.denL, SV.den, h0, h1, h2, h3, k0, k1, k2, k3, k4, k5]
  simp [BX.den, IX.den, SX.den, env2, De.val]
end Go.Proofs.Ythjfdbbpgdflkaa
