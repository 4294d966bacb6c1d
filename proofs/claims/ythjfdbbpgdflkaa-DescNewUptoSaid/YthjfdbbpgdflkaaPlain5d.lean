/- What Apply does a second time, to a property that can change, and to a new one: plain laws, no program. -/
import Derived.Test.YthjfdbbpgdflkaaPlain5b
namespace Go.Proofs.Ythjfdbbpgdflkaa
set_option linter.unusedSimpArgs false

/-- What a property has already. -/
structure Had (d x : De) : Prop where
  v : d.hv = true → x.v = d.v
  g : d.hg = true → x.g = d.g
  s : d.hs = true → x.s = d.s
  w : d.hw = true → x.w = d.w
  e : d.he = true → x.e = d.e
  c : d.hc = true → x.c = d.c
  kind : d.acc = false ∧ d.dat = false ∨ d.acc = x.acc

theorem again {d x : De} (hr : d.right = true) (hx : x.whole = true) (h : Had d x) : De.apply false d true x = (x, true) := by
  have hk : d.nothing = true ∨ x.c = true ∨ d.kept x = true := by
    cases hc : x.c
    · right; right
      obtain ⟨h1, h2, h3, h4, h5, h6, h7⟩ := h
      obtain ⟨d0, -, -, d1, d2, d3, d4, d5, d6⟩ := (right_iff d).1 hr
      obtain ⟨ahv, ahg, ahs, ahw, ahe, ahc, av, ag, as_, aw, ae, ac⟩ := d
      simp only at *
      have z := fun y => veq_refl y
      cases ahv <;> cases ahg <;> cases ahs <;> cases ahw <;> (try (exfalso; revert d0; simp [De.acc, De.dat]; done)) <;>
        cases ahe <;> cases ahc <;> simp_all [De.kept, De.acc, De.dat]
    · right; left; rfl
  rw [apply_there_mk hr hx hk]
  have ht : d.nothing = false → d.turned x = x := by
    intro _
    unfold De.turned
    rcases h.kind with ⟨h1, h2⟩ | h1
    · simp [h1, h2]
    · simp [h1]
  cases hn : d.nothing
  · rw [ht hn]
    obtain ⟨h1, h2, h3, h4, h5, h6, h7⟩ := h
    obtain ⟨xhv, xhg, xhs, xhw, xhe, xhc, xv, xg, xs, xw, xe, xc⟩ := x
    simp only at *
    simp only [De.onto, Bool.false_eq_true, if_false, Prod.mk.injEq, De.mk.injEq, and_true, true_and]
    refine ⟨?_, ?_, ?_, ?_, ?_, ?_⟩ <;> split <;> simp_all
  · simp

theorem had_self (x : De) : Had x x := ⟨fun _ => rfl, fun _ => rfl, fun _ => rfl, fun _ => rfl, fun _ => rfl, fun _ => rfl, .inr rfl⟩
theorem complete_acc (d : De) : d.acc = d.complete.acc := by
  obtain ⟨ahv, ahg, ahs, ahw, ahe, ahc, av, ag, as_, aw, ae, ac⟩ := d
  cases ahg <;> cases ahs <;> simp [De.complete, De.acc]
theorem had_complete (d : De) : Had d d.complete := by
  refine ⟨?_, ?_, ?_, ?_, ?_, ?_, .inr (complete_acc d)⟩
  all_goals (cases h : d.acc <;> simp [De.complete, h])
theorem had_onto {d now : De} (hr : d.right = true) (hw : now.whole = true) : Had d (d.onto (d.turned now)) := by
  refine ⟨?_, ?_, ?_, ?_, ?_, ?_, ?_⟩
  · intro h; simp [De.onto, h]
  · intro h; simp [De.onto, h]
  · intro h; simp [De.onto, h]
  · intro h; simp [De.onto, h]
  · intro h; simp [De.onto, h]
  · intro h; simp [De.onto, h]
  · obtain ⟨-, n1, n2, n3⟩ := whole_iff hw
    obtain ⟨n0, -⟩ := (right_iff now).1 (whole_iff hw).1
    obtain ⟨d0, -⟩ := (right_iff d).1 hr
    clear hr hw
    obtain ⟨ahv, ahg, ahs, ahw, ahe, ahc, av, ag, as_, aw, ae, ac⟩ := d
    obtain ⟨nhv, nhg, nhs, nhw, nhe, nhc, nv, ng, ns, nw, ne, nc⟩ := now
    simp only at *
    subst n1 n2
    cases nhv <;> cases nhg <;> cases nhs <;> cases nhw <;> (try (exfalso; revert n0 n3; simp [De.acc, De.dat]; done)) <;>
      cases ahv <;> cases ahg <;> cases ahs <;> cases ahw <;> (try (exfalso; revert d0; simp [De.acc, De.dat]; done)) <;>
      simp_all [De.turned, De.onto, De.complete, De.acc, De.dat, De.zero]

theorem apply_right {ext : Bool} {d : De} {has : Bool} {now : De} (h : (De.apply ext d has now).2 = true) : d.right = true := by
  unfold De.apply at h
  cases hr : d.right
  · simp [hr] at h
  · rfl
/-- What was applied once goes with what it made, which stays as it is. -/
theorem apply_again {ext : Bool} {d : De} {has : Bool} {now : De} (h : (De.apply ext d has now).2 = true) :
    De.apply false d true (De.apply ext d has now).1 = ((De.apply ext d has now).1, true) ∧ De.apply false (De.apply ext d has now).1 true (De.apply ext d has now).1 = ((De.apply ext d has now).1, true) := by
  have hr := apply_right h
  have hw := apply_whole h
  refine ⟨again hr hw ?_, again (whole_iff hw).1 hw (had_self _)⟩
  cases has
  · have e : (De.apply ext d false now).1 = d.complete := by
      unfold De.apply at h ⊢
      cases ext <;> simp_all
    rw [e]
    exact had_complete d
  · obtain ⟨h1, h2, h3, -⟩ := apply_there h
    rw [h3]
    cases hn : d.nothing
    · exact had_onto h1 h2
    · simp only [De.nothing, Bool.and_eq_true, Bool.not_eq_true'] at hn
      obtain ⟨⟨⟨a1, a2⟩, a3⟩, a4⟩ := hn
      have a1' := a1; have a2' := a2
      simp only [De.acc, De.dat, Bool.or_eq_false_iff] at a1' a2'
      refine ⟨?_, ?_, ?_, ?_, ?_, ?_, .inl ⟨a1, a2⟩⟩ <;> intro hh <;> simp_all

/-- A property that is not there. -/
theorem apply_new {d any : De} (h : d.right = true) : De.apply true d false any = (d.complete, true) ∧ De.apply false d false any = (De.zero, false) := by
  simp [De.apply, h]
theorem complete_e (d : De) : d.complete.e = d.e ∧ d.complete.c = d.c ∧ d.complete.w = d.w := by
  cases h : d.acc <;> simp [De.complete, h]

/-- A property that can change is turned into any other one, and keeps what is not said. -/
theorem apply_turns {ext : Bool} {d now : De} (hr : d.right = true) (hw : now.whole = true) (hc : now.c = true) :
    (De.apply ext d true now).2 = true ∧ (De.apply ext d true now).1.whole = true ∧
      (De.apply ext d true now).1.e = (if d.he then d.e else now.e) ∧ (De.apply ext d true now).1.c = (if d.hc then d.c else true) ∧
      (d.hv = true → (De.apply ext d true now).1.v = d.v) ∧ (d.hw = true → (De.apply ext d true now).1.w = d.w) ∧ (d.hg = true → (De.apply ext d true now).1.g = d.g) ∧ (d.hs = true → (De.apply ext d true now).1.s = d.s) ∧
      ((De.apply ext d true now).1.dat = now.dat → (d.hv = true ∨ (De.apply ext d true now).1.v = now.v) ∧ (d.hg = true ∨ (De.apply ext d true now).1.g = now.g) ∧ (d.hs = true ∨ (De.apply ext d true now).1.s = now.s) ∧ (d.hw = true ∨ (De.apply ext d true now).1.w = now.w)) := by
  have e := apply_there_mk (ext := ext) hr hw (.inr (.inl hc))
  have h2 : (De.apply ext d true now).2 = true := by rw [e]
  refine ⟨h2, apply_whole h2, ?_⟩
  rw [e]
  obtain ⟨-, n1, n2, n3⟩ := whole_iff hw
  obtain ⟨n0, -, -, m1, m2, m3, m4, m5, m6⟩ := (right_iff now).1 (whole_iff hw).1
  obtain ⟨d0, -, -, d1, d2, d3, d4, d5, d6⟩ := (right_iff d).1 hr
  clear hr hw h2 e
  obtain ⟨ahv, ahg, ahs, ahw, ahe, ahc, av, ag, as_, aw, ae, ac⟩ := d
  obtain ⟨nhv, nhg, nhs, nhw, nhe, nhc, nv, ng, ns, nw, ne, nc⟩ := now
  simp only at *
  subst n1 n2 hc
  cases nhv <;> cases nhg <;> cases nhs <;> cases nhw <;> (try (exfalso; revert n0 n3; simp [De.acc, De.dat]; done)) <;>
    cases ahv <;> cases ahg <;> cases ahs <;> cases ahw <;> (try (exfalso; revert d0; simp [De.acc, De.dat]; done)) <;>
    cases ahe <;> cases ahc <;> simp_all [De.turned, De.onto, De.complete, De.acc, De.dat, De.zero, De.nothing]
end Go.Proofs.Ythjfdbbpgdflkaa
