/- What descriptors come to: plain laws, no program. -/
import Derived.Test.YthjfdbbpgdflkaaPlain5
namespace Go.Proofs.Ythjfdbbpgdflkaa
set_option linter.unusedSimpArgs false

theorem complete_whole {d : De} (h : d.right = true) : d.complete.whole = true := by
  obtain ⟨d0, d00, d01, d1, d2, d3, d4, d5, d6⟩ := (right_iff d).1 h
  have hr : d.complete.right = true := by
    rw [right_iff]
    obtain ⟨ahv, ahg, ahs, ahw, ahe, ahc, av, ag, as_, aw, ae, ac⟩ := d
    cases ahg <;> cases ahs <;> cases ahv <;> cases ahw <;> simp_all [De.complete, De.acc, De.dat]
  unfold De.whole
  rw [hr]
  cases ha : d.acc <;> simp [De.complete, ha]
theorem complete_idem (d : De) : d.complete.complete = d.complete := by
  obtain ⟨ahv, ahg, ahs, ahw, ahe, ahc, av, ag, as_, aw, ae, ac⟩ := d
  cases ahg <;> cases ahs <;> simp [De.complete, De.acc]

/-- The cases of Apply on a property that is there. -/
theorem apply_there {ext : Bool} {d now : De} (h : (De.apply ext d true now).2 = true) :
    d.right = true ∧ now.whole = true ∧ (De.apply ext d true now).1 = (if d.nothing then now else d.onto (d.turned now)) ∧ (d.nothing = true ∨ now.c = true ∨ d.kept now = true) := by
  unfold De.apply at h ⊢
  cases hr : d.right <;> cases hw : now.whole <;> cases hn : d.nothing <;> cases hc : now.c <;> cases hk : d.kept now <;> simp_all
theorem apply_there_mk {ext : Bool} {d now : De} (hr : d.right = true) (hw : now.whole = true) (hk : d.nothing = true ∨ now.c = true ∨ d.kept now = true) :
    De.apply ext d true now = (if d.nothing then now else d.onto (d.turned now), true) := by
  unfold De.apply
  cases hn : d.nothing <;> cases hc : now.c <;> cases hk' : d.kept now <;> simp_all

theorem onto_whole {d now : De} (hr : d.right = true) (hw : now.whole = true) : (d.onto (d.turned now)).whole = true := by
  obtain ⟨-, n1, n2, n3⟩ := whole_iff hw
  obtain ⟨n0, n00, n01, m1, m2, m3, m4, m5, m6⟩ := (right_iff now).1 (whole_iff hw).1
  obtain ⟨d0, d00, d01, d1, d2, d3, d4, d5, d6⟩ := (right_iff d).1 hr
  clear hr hw
  have key : (d.onto (d.turned now)).right = true ∧ (d.onto (d.turned now)).he = true ∧ (d.onto (d.turned now)).hc = true ∧ ((d.onto (d.turned now)).hv && (d.onto (d.turned now)).hw || (d.onto (d.turned now)).hg && (d.onto (d.turned now)).hs) = true := by
    rw [right_iff]
    obtain ⟨ahv, ahg, ahs, ahw, ahe, ahc, av, ag, as_, aw, ae, ac⟩ := d
    obtain ⟨nhv, nhg, nhs, nhw, nhe, nhc, nv, ng, ns, nw, ne, nc⟩ := now
    simp only at *
    subst n1 n2
    have z : Va.zero.fn = true := rfl
    cases nhv <;> cases nhg <;> cases nhs <;> cases nhw <;> (try (exfalso; revert n0 n3; simp [De.acc, De.dat]; done)) <;>
      cases ahv <;> cases ahg <;> cases ahs <;> cases ahw <;> (try (exfalso; revert d0; simp [De.acc, De.dat]; done)) <;>
      simp_all [De.turned, De.onto, De.complete, De.acc, De.dat, De.zero]
  unfold De.whole
  rw [key.1, key.2.1, key.2.2.1, key.2.2.2]
  rfl
theorem apply_whole {ext : Bool} {d : De} {has : Bool} {now : De} (h : (De.apply ext d has now).2 = true) : (De.apply ext d has now).1.whole = true := by
  cases has
  · unfold De.apply at h ⊢
    cases hr : d.right <;> cases ext <;> simp_all
    exact complete_whole hr
  · obtain ⟨h1, h2, h3, -⟩ := apply_there h
    rw [h3]
    split
    · exact h2
    · exact onto_whole h1 h2
end Go.Proofs.Ythjfdbbpgdflkaa
