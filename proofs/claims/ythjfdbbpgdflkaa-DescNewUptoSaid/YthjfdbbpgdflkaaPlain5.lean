/- What the program's descriptors and the definition's come to is the same: plain laws, no program. -/
import Derived.Test.YthjfdbbpgdflkaaRef5
namespace Go.Proofs.Ythjfdbbpgdflkaa
set_option linter.unusedSimpArgs false

theorem whole_iff {d : De} (h : d.whole = true) : d.right = true ∧ d.he = true ∧ d.hc = true ∧ (d.hv = true ∧ d.hw = true ∨ d.hg = true ∧ d.hs = true) := by
  simpa [De.whole, and_assoc] using h
/-- Of a right descriptor: not both kinds; what it has not is nothing. -/
theorem right_iff (d : De) : d.right = true ↔ (d.acc && d.dat) = false ∧ d.g.fn = true ∧ d.s.fn = true ∧ (d.hv = true ∨ d.v = Va.zero) ∧ (d.hg = true ∨ d.g = Va.zero) ∧ (d.hs = true ∨ d.s = Va.zero) ∧ (d.hw = true ∨ d.w = false) ∧ (d.he = true ∨ d.e = false) ∧ (d.hc = true ∨ d.c = false) := by
  simp only [De.right, Bool.and_eq_true, Bool.or_eq_true, Bool.not_eq_true', veq_iff, and_assoc]

theorem rapply_eq (ext : Bool) (d : De) (has : Bool) (now : De) : De.rapply ext d has now = De.apply ext d has now := by
  unfold De.rapply De.apply
  cases hr : d.right
  · simp
  cases has
  · cases ext <;> simp
  cases hw : now.whole
  · simp
  obtain ⟨-, n1, n2, n3⟩ := whole_iff hw
  obtain ⟨n0, -, -, m1, m2, m3, m4, m5, m6⟩ := (right_iff now).1 (whole_iff hw).1
  obtain ⟨d0, -, -, d1, d2, d3, d4, d5, d6⟩ := (right_iff d).1 hr
  clear hr hw
  obtain ⟨ahv, ahg, ahs, ahw, ahe, ahc, av, ag, as_, aw, ae, ac⟩ := d
  obtain ⟨nhv, nhg, nhs, nhw, nhe, nhc, nv, ng, ns, nw, ne, nc⟩ := now
  simp only at *
  subst n1 n2
  cases nhv <;> cases nhg <;> cases nhs <;> cases nhw <;> (try (exfalso; revert n0 n3; simp [De.acc, De.dat]; done)) <;>
    cases ahv <;> cases ahg <;> cases ahs <;> cases ahw <;> (try (exfalso; revert d0; simp [De.acc, De.dat]; done)) <;>
    cases nc <;> cases ahc <;> cases ahe <;> simp_all [De.kept, De.nothing, De.turned, De.onto, De.rover, De.complete, De.acc, De.dat, De.zero]
  all_goals (repeat' split) <;> simp_all
end Go.Proofs.Ythjfdbbpgdflkaa
