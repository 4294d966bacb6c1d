/- What Apply does to a property that is there: plain laws, no program. -/
import Derived.Test.YthjfdbbpgdflkaaPlain5b
namespace Go.Proofs.Ythjfdbbpgdflkaa
set_option linter.unusedSimpArgs false

/-- A property that is not Configurable stays as it is, but that one that is Writable may get another value, or be so no more. -/
theorem apply_fast {ext : Bool} {d now : De} (h : (De.apply ext d true now).2 = true) (hc : now.c = false) :
    (De.apply ext d true now).1.c = false ∧ (De.apply ext d true now).1.e = now.e ∧ (De.apply ext d true now).1.dat = now.dat ∧ (De.apply ext d true now).1.g = now.g ∧ (De.apply ext d true now).1.s = now.s ∧
      (now.acc = true ∨ now.w = true ∨ (De.apply ext d true now).1.w = false ∧ veq (De.apply ext d true now).1.v now.v = true) := by
  obtain ⟨hr, hw, h3, h4⟩ := apply_there h
  rw [h3]
  obtain ⟨-, n1, n2, n3⟩ := whole_iff hw
  obtain ⟨n0, n00, n01, m1, m2, m3, m4, m5, m6⟩ := (right_iff now).1 (whole_iff hw).1
  obtain ⟨d0, d00, d01, d1, d2, d3, d4, d5, d6⟩ := (right_iff d).1 hr
  clear h h3 hr hw
  obtain ⟨ahv, ahg, ahs, ahw, ahe, ahc, av, ag, as_, aw, ae, ac⟩ := d
  obtain ⟨nhv, nhg, nhs, nhw, nhe, nhc, nv, ng, ns, nw, ne, nc⟩ := now
  simp only at *
  subst n1 n2 hc
  have z := fun x => veq_refl x
  cases nhv <;> cases nhg <;> cases nhs <;> cases nhw <;> (try (exfalso; revert n0 n3; simp [De.acc, De.dat]; done)) <;>
    cases ahv <;> cases ahg <;> cases ahs <;> cases ahw <;> (try (exfalso; revert d0; simp [De.acc, De.dat]; done)) <;>
    cases ahe <;> cases ahc <;> cases nw <;>
    simp_all [De.turned, De.onto, De.complete, De.acc, De.dat, De.zero, De.nothing, De.kept, veq_iff]
end Go.Proofs.Ythjfdbbpgdflkaa
