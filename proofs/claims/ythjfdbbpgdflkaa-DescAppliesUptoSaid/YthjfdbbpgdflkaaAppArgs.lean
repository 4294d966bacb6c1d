/- DescApplies: its arguments in the symbolic run. -/
import Derived.Test.YthjfdbbpgdflkaaSxDe5
namespace Go.Proofs.Ythjfdbbpgdflkaa
open Go.Sx Go.RowKit
set_option maxRecDepth 100000
def argsB (h d0 d1 d2 d3 d4 d5 n0 n1 n2 n3 n4 n5 : BX) : List SV := [.bool (.var 18), deS d0 d1 d2 d3 d4 d5 (.var 12) (.var 13) (.var 14) 0 0, .bool h, deS n0 n1 n2 n3 n4 n5 (.var 15) (.var 16) (.var 17) 6 3]
noncomputable def runB (h d0 d1 d2 d3 d4 d5 n0 n1 n2 n3 n4 n5 : BX) : Bool :=
  allTrue ((fk Try.prog c5 3000).call 10 (argsB h d0 d1 d2 d3 d4 d5 n0 n1 n2 n3 n4 n5) { asm := smallAsm 6 }).outs
/-- A bit that is told, or a variable. -/
def bx (d i : Nat) : BX := match d with
  | 0 => .lit false
  | 1 => .lit true
  | _ => .var i
def litB (d i : Nat) (k : BX → Bool) : Bool := match d with
  | 0 => k (.lit false)
  | 1 => k (.lit true)
  | _ => k (.var i)
theorem litB_eq (d i : Nat) (k : BX → Bool) : litB d i k = k (bx d i) := by
  unfold litB bx
  split <;> rfl
def dg (p i : Nat) : Nat := p / 10 ^ (11 - i) % 10
def fitD (d : Nat) (b : Bool) : Bool := match d with
  | 0 => !b
  | 1 => b
  | _ => true
noncomputable def rc (p : Nat) : Bool :=
  litB (dg p 0) 0 fun b0 => litB (dg p 1) 1 fun b1 => litB (dg p 2) 2 fun b2 => litB (dg p 3) 3 fun b3 => litB (dg p 4) 4 fun b4 => litB (dg p 5) 5 fun b5 => litB (dg p 6) 6 fun b6 => litB (dg p 7) 7 fun b7 => litB (dg p 8) 8 fun b8 => litB (dg p 9) 9 fun b9 => litB (dg p 10) 10 fun b10 => litB (dg p 11) 11 fun b11 => runB (.lit true) b0 b1 b2 b3 b4 b5 b6 b7 b8 b9 b10 b11
def fits (p : Nat) (x y : De) : Bool :=
  fitD (dg p 0) x.hv && (fitD (dg p 1) x.hg && (fitD (dg p 2) x.hs && (fitD (dg p 3) x.hw && (fitD (dg p 4) x.he && (fitD (dg p 5) x.hc && (fitD (dg p 6) y.hv && (fitD (dg p 7) y.hg && (fitD (dg p 8) y.hs && (fitD (dg p 9) y.hw && (fitD (dg p 10) y.he && (fitD (dg p 11) y.hc)))))))))))
def envB (x y : De) (b : Bool) : Env where
  ints := [x.v.k, x.v.n, x.g.k, x.g.n, x.s.k, x.s.n, y.v.k, y.v.n, y.g.k, y.g.n, y.s.k, y.s.n]
  strs := [x.v.s, x.g.s, x.s.s, y.v.s, y.g.s, y.s.s]
  bools := [x.hv, x.hg, x.hs, x.hw, x.he, x.hc, y.hv, y.hg, y.hs, y.hw, y.he, y.hc, x.w, x.e, x.c, y.w, y.e, y.c, b]
theorem bx_den {x y : De} {b : Bool} {p i : Nat} {v : Bool} (hi : (envB x y b).bools[i]? = some v) (hf : fitD (dg p i) v = true) : (bx (dg p i) i).den (envB x y b) = some v := by
  generalize dg p i = d at hf ⊢
  match d, hf with
  | 0, hf => cases v with
    | false => rfl
    | true => cases hf
  | 1, hf => cases v with
    | false => cases hf
    | true => rfl
  | d + 2, _ => exact hi
theorem smallB2 {x y : De} {b : Bool} (hx : x.bulk ≤ 1048576) (hy : y.bulk ≤ 1048576) : AsmOk (envB x y b) (smallAsm 6) := by
  simp only [De.bulk] at hx hy
  intro c v hm
  simp only [smallAsm, List.mem_cons, List.not_mem_nil, or_false, Prod.mk.injEq] at hm
  rcases hm with ⟨rfl, rfl⟩ | ⟨rfl, rfl⟩ | ⟨rfl, rfl⟩ | ⟨rfl, rfl⟩ | ⟨rfl, rfl⟩ | ⟨rfl, rfl⟩ <;> simp [BX.den, IX.den, SX.den, envB] <;> omega
theorem wl {x y : De} {b : Bool} (hx : x.bulk ≤ 1048576) (hy : y.bulk ≤ 1048576) {p : Nat} (hr : rc p = true) (hf : fits p x y = true) (w : World) :
    Calls Try.prog 10 #[.bool b, x.val, .bool true, y.val] w fun e w' => e = .returned (.bool true) ∧ Below w.heap.size w w' := by
  simp only [rc, litB_eq] at hr
  simp only [fits, Bool.and_eq_true] at hf
  obtain ⟨f0, f1, f2, f3, f4, f5, f6, f7, f8, f9, f10, f11⟩ := hf
  refine true_of_fast c5_ok hr (E := envB x y b) (fun _ => rfl) (smallB2 hx hy) (ARGS := [.bool b, x.val, .bool true, y.val]) ?_ w
  simp only [argsB, deS, SV.denL, SV.den, bx_den (x := x) (y := y) (b := b) (p := p) (i := 0) rfl f0, bx_den (x := x) (y := y) (b := b) (p := p) (i := 1) rfl f1, bx_den (x := x) (y := y) (b := b) (p := p) (i := 2) rfl f2, bx_den (x := x) (y := y) (b := b) (p := p) (i := 3) rfl f3, bx_den (x := x) (y := y) (b := b) (p := p) (i := 4) rfl f4, bx_den (x := x) (y := y) (b := b) (p := p) (i := 5) rfl f5, bx_den (x := x) (y := y) (b := b) (p := p) (i := 6) rfl f6, bx_den (x := x) (y := y) (b := b) (p := p) (i := 7) rfl f7, bx_den (x := x) (y := y) (b := b) (p := p) (i := 8) rfl f8, bx_den (x := x) (y := y) (b := b) (p := p) (i := 9) rfl f9, bx_den (x := x) (y := y) (b := b) (p := p) (i := 10) rfl f10, bx_den (x := x) (y := y) (b := b) (p := p) (i := 11) rfl f11]
  simp [BX.den, IX.den, SX.den, envB, De.val]
theorem wln {x y : De} {b : Bool} (hx : x.bulk ≤ 1048576) (hy : y.bulk ≤ 1048576) (hr : runB (.lit false) (.var 0) (.var 1) (.var 2) (.var 3) (.var 4) (.var 5) (.var 6) (.var 7) (.var 8) (.var 9) (.var 10) (.var 11) = true) (w : World) :
    Calls Try.prog 10 #[.bool b, x.val, .bool false, y.val] w fun e w' => e = .returned (.bool true) ∧ Below w.heap.size w w' := by
  refine true_of_fast c5_ok hr (E := envB x y b) (fun _ => rfl) (smallB2 hx hy) (ARGS := [.bool b, x.val, .bool false, y.val]) ?_ w
  simp [argsB, deS, SV.denL, SV.den, BX.den, IX.den, SX.den, envB, De.val]
theorem p_no : runB (.lit false) (.var 0) (.var 1) (.var 2) (.var 3) (.var 4) (.var 5) (.var 6) (.var 7) (.var 8) (.var 9) (.var 10) (.var 11) = true := by kernel_rfl
end Go.Proofs.Ythjfdbbpgdflkaa
