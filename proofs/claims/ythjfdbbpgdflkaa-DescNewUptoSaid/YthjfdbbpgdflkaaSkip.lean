/- An operation whose guard was itself passed over is passed over. -/
import Derived.Test.YthjfdbbpgdflkaaMem
namespace Go
theorem ownq_skip {P : Program} {ops : Array Oper} {C : World → Prop} {R : Act → Prop} {rest : List Oper} {o : Oper} {a : Act} {i : Nat} {b : Bool} {s : Nat} (hg : o.guard = some (i, b)) (hi : (ops[i]?).bind (·.dst) = some s) (hs : a.tmps[s]? = some undef)
    (h : wpQuiet P ops C R rest (a.put o.dst undef)) : wpQuiet P ops C R (o :: rest) a := by
  have hy : yielded ops a.tmps i = none := by unfold yielded; rw [hi]; simp only [Option.bind_some, hs, undef]
  have hw : Region.wanted o (yielded ops a.tmps) = false := by simp [Region.wanted, hg, hy]
  unfold wpQuiet
  rw [if_neg (by rw [hw]; simp)]
  exact h
end Go
