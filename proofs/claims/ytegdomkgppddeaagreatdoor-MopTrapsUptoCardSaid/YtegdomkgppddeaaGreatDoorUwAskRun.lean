/- Runs on an Ask: the unknowns, and the state that such a run starts from. -/
import Derived.Test.YtegdomkgppddeaaGreatDoorUwAsk
import Derived.Test.YtegdomkgppddeaaGreatDoorUwRtM
namespace Go.Proofs.YtegdomkgppddeaaGreatDoor
open Go.Sx Go.RowKit
set_option maxRecDepth 100000
/-- A list is known: c = 0: none; c + 1: c elements of it. -/
def aSt (asm : Asm) (c : Nat) : St := { h := T.nil.put 0 (vObj 16 6 c), next := 1, asm := asm }
def aEnv (x : Sk) (m n : Int) : Env where
  blk := fun id => match id with
    | 0 => x.l.blk
    | _ => none
  ints := [x.ky, x.v.k, x.v.n, x.r.k, x.r.n, x.d.v.k, x.d.v.n, x.d.g.k, x.d.g.n, x.d.s.k, x.d.s.n, m, n, b2i x.d.w, b2i x.d.e, b2i x.d.c] ++ flat x.l.l
  bools := [x.d.hv, x.d.hg, x.d.hs, x.d.hw, x.d.he, x.d.hc, x.d.w, x.d.e, x.d.c, false, false]
  strs := [x.ks, x.v.s, x.r.s, x.d.v.s, x.d.g.s, x.d.s.s] ++ x.l.l.map Va.s
theorem aLies (x : Sk) (m n : Int) (c : Nat) : Lies (aEnv x m n) 16 6 (x.l.l.take c) := by
  intro i a h
  have hi : x.l.l[i]? = some a := by
    rw [List.getElem?_take] at h
    split at h
    · exact h
    · cases h
  obtain ⟨h1, h2⟩ := flat_get hi
  have hl : i < x.l.l.length := (List.getElem?_eq_some_iff.1 hi).1
  refine ⟨?_, ?_, ?_⟩
  · show ([x.ky, x.v.k, x.v.n, x.r.k, x.r.n, x.d.v.k, x.d.v.n, x.d.g.k, x.d.g.n, x.d.s.k, x.d.s.n, m, n, b2i x.d.w, b2i x.d.e, b2i x.d.c] ++ flat x.l.l)[16 + 2 * i]? = _
    rw [List.getElem?_append_right (by simp), ← h1]
    congr 1
    simp
  · show ([x.ky, x.v.k, x.v.n, x.r.k, x.r.n, x.d.v.k, x.d.v.n, x.d.g.k, x.d.g.n, x.d.s.k, x.d.s.n, m, n, b2i x.d.w, b2i x.d.e, b2i x.d.c] ++ flat x.l.l)[16 + 2 * i + 1]? = _
    rw [List.getElem?_append_right (by simp; omega), ← h2]
    congr 1
    simp; omega
  · show ([x.ks, x.v.s, x.r.s, x.d.v.s, x.d.g.s, x.d.s.s] ++ x.l.l.map Va.s)[6 + i]? = _
    rw [List.getElem?_append_right (by simp)]
    simp [hi]
theorem aRel {x : Sk} {m n : Int} {w : World} (hx : x.l.ok w) {c : Nat} (hc : c ≤ x.l.l.length + 1) (hn : x.l = .nil → c = 0) {asm : Asm} (ha : AsmOk (aEnv x m n) asm) : Rel w (aEnv x m n) (aSt asm c) w := by
  have hget : ∀ id o, (aSt asm c).h.get id = some o → id = 0 ∧ o = vObj 16 6 c := by
    intro id o h
    simp only [aSt, T.get_put, T.get_nil] at h
    split at h
    · cases h; exact ⟨by omega, rfl⟩
    · cases h
  refine Rel.startOld (fun id o h => ?_) (fun id o h hl => ?_) (fun id h => ?_) ha rfl ⟨⟨_, rfl, rfl⟩, ⟨_, rfl, rfl⟩, ⟨_, rfl, rfl⟩, .inl rfl⟩
  · obtain ⟨-, rfl⟩ := hget id o h
    cases c <;> rfl
  · obtain ⟨rfl, rfl⟩ := hget id o h
    exact vObj_ok hx (aLies x m n _) hc rfl hl hn
  · have : 1 ≤ id := h
    obtain ⟨k, rfl⟩ : ∃ k, id = k + 1 := ⟨id - 1, by omega⟩
    rfl
/-- Which list it is: 0: none; k + 1: k elements. -/
def Vs.cls (x : Vs) : Nat := match x with
  | .nil => 0
  | .at _ _ _ l => l.length + 1
theorem Vs.cls_l (x : Vs) : x.l.length ≤ x.cls ∧ x.cls ≤ x.l.length + 1 ∧ (x = .nil → x.cls = 0) := by
  cases x with
  | nil => exact ⟨Nat.le_refl _, Nat.zero_le _, fun _ => rfl⟩
  | «at» b off cap l => exact ⟨Nat.le_succ _, Nat.le_refl _, nofun⟩
theorem aDen {x : Sk} {m n : Int} {w : World} (hx : x.l.ok w) : (SV.agg (askS (vSV 0 x.l.cls))).den (aEnv x m n) = some x.val := by
  have hl : (vSV 0 x.l.cls).den (aEnv x m n) = some x.l.val := vSV_den hx rfl (by
    cases x.l with
    | nil => exact .inl ⟨rfl, rfl⟩
    | «at» b off cap l => exact .inr ⟨nofun, rfl⟩)
  simp only [askS, deS, List.cons_append, List.nil_append, SV.den, SV.denL, hl]
  simp [IX.den, SX.den, BX.den, aEnv]
theorem aSmall {x : Sk} {m n : Int} (h : x.small 1048576) : AsmOk (aEnv x m n) (smalls (6 + (x.l.cls - 1))) := by
  obtain ⟨h1, h2, h3, h4, h5, h6, h7, -⟩ := h
  refine smalls_ok (fun b hb => ?_) ?_
  · have hb : b ∈ [x.ks, x.v.s, x.r.s, x.d.v.s, x.d.g.s, x.d.s.s] ++ x.l.l.map Va.s := hb
    rcases List.mem_append.1 hb with hb | hb
    · simp only [List.mem_cons, List.not_mem_nil, or_false] at hb
      rcases hb with rfl | rfl | rfl | rfl | rfl | rfl <;> assumption
    · obtain ⟨y, hy, rfl⟩ := List.mem_map.1 hb
      exact h7 y hy
  · have := x.l.cls_l
    simp only [aEnv, List.length_append, List.length_map, List.length_cons, List.length_nil]
    omega
/-- Bools that tell what its Desc has. -/
def Bits (E : Env) (x : Sk) (b0 b1 b2 b3 b4 b5 : BX) : Prop := b0.den E = some x.d.hv ∧ b1.den E = some x.d.hg ∧ b2.den E = some x.d.hs ∧ b3.den E = some x.d.hw ∧ b4.den E = some x.d.he ∧ b5.den E = some x.d.hc
theorem aDenB {x : Sk} {m n : Int} {b0 b1 b2 b3 b4 b5 : BX} (hb : Bits (aEnv x m n) x b0 b1 b2 b3 b4 b5) {w : World} (hx : x.l.ok w) : (SV.agg (askB b0 b1 b2 b3 b4 b5 (vSV 0 x.l.cls))).den (aEnv x m n) = some x.val := by
  have hl : (vSV 0 x.l.cls).den (aEnv x m n) = some x.l.val := vSV_den hx rfl (by
    cases x.l with
    | nil => exact .inl ⟨rfl, rfl⟩
    | «at» b off cap l => exact .inr ⟨nofun, rfl⟩)
  obtain ⟨h0, h1, h2, h3, h4, h5⟩ := hb
  simp only [askB, deB, List.cons_append, List.nil_append, SV.den, SV.denL, hl, h0, h1, h2, h3, h4, h5]
  simp [IX.den, SX.den, BX.den, aEnv]
/-! ### a list of which the run knows nothing; bool 10: longer than 8 -/
def oEnv (x : Sk) (m n : Int) : Env where
  ints := [x.ky, x.v.k, x.v.n, x.r.k, x.r.n, x.d.v.k, x.d.v.n, x.d.g.k, x.d.g.n, x.d.s.k, x.d.s.n, m, n, b2i x.d.w, b2i x.d.e, b2i x.d.c]
  bools := [x.d.hv, x.d.hg, x.d.hs, x.d.hw, x.d.he, x.d.hc, x.d.w, x.d.e, x.d.c, true, decide (9 ≤ x.l.l.length)]
  strs := [x.ks, x.v.s, x.r.s, x.d.v.s, x.d.g.s, x.d.s.s]
  vals := [x.l.val]
theorem oQQ {x : Sk} {m n : Int} {w : World} (hx : x.l.ok w) (hs : x.small 1048576) (hn : x.l ≠ .nil) : QQ (oEnv x m n) w := by
  have h2 := hs.2.2.2.2.2.2.1
  have h3 := hs.2.2.2.2.2.2.2
  refine ⟨⟨_, rfl, rfl⟩, ⟨_, rfl, rfl⟩, ⟨_, rfl, rfl⟩, .inr ⟨rfl, ?_⟩⟩
  have hv : (oEnv x m n).vals[0]? = some x.l.val := rfl
  have hlong : (oEnv x m n).bools[10]? = some (decide (9 ≤ x.l.l.length)) := rfl
  cases e : x.l with
  | nil => exact (hn e).elim
  | «at» b off cap l =>
    rw [e] at hx h2 h3 hv hlong
    obtain ⟨hc, cs, ty, fr, g1, g2, g3, g4⟩ := hx
    refine ⟨b, off, cap, l.map fun y => (y.k, y.n, y.s), ?_, ⟨cs, ty, fr, g1, by simpa using g2, hc, g3, fun i y hy => ?_⟩, fun y hy => ?_, by simpa [Vs.l] using h3, _, hlong, fun h => by simpa [Vs.l] using of_decide_eq_true h⟩
    · rw [hv]; simp [Vs.val]
    · simp only [List.getElem?_map] at hy
      cases hi : l[i]? with
      | none => rw [hi] at hy; cases hy
      | some z =>
        rw [hi] at hy
        cases hy
        exact ⟨g4 i z hi 0 _ rfl, g4 i z hi 1 _ rfl, g4 i z hi 2 _ rfl⟩
    · obtain ⟨z, hz, rfl⟩ := List.mem_map.1 hy
      exact h2 z hz
theorem oDen {x : Sk} {m n : Int} {b0 b1 b2 b3 b4 b5 : BX} (hb : Bits (oEnv x m n) x b0 b1 b2 b3 b4 b5) : (SV.agg (askB b0 b1 b2 b3 b4 b5 (.opq 0))).den (oEnv x m n) = some x.val := by
  have hv : (SV.opq 0).den (oEnv x m n) = some x.l.val := by
    cases e : x.l <;> simp [SV.den, oEnv, e, Vs.val]
  obtain ⟨h0, h1, h2, h3, h4, h5⟩ := hb
  simp only [askB, deB, List.cons_append, List.nil_append, SV.den, SV.denL] at hv ⊢
  simp only [hv, h0, h1, h2, h3, h4, h5]
  simp [IX.den, SX.den, BX.den, oEnv]
theorem oSmall {x : Sk} {m n : Int} (h : x.small 1048576) : AsmOk (oEnv x m n) (smalls 6) := by
  obtain ⟨h1, h2, h3, h4, h5, h6, -⟩ := h
  refine smalls_ok (fun b hb => ?_) (by simp [oEnv])
  have hb : b ∈ [x.ks, x.v.s, x.r.s, x.d.v.s, x.d.g.s, x.d.s.s] := hb
  simp only [List.mem_cons, List.not_mem_nil, or_false] at hb
  rcases hb with rfl | rfl | rfl | rfl | rfl | rfl <;> assumption
end Go.Proofs.YtegdomkgppddeaaGreatDoor
