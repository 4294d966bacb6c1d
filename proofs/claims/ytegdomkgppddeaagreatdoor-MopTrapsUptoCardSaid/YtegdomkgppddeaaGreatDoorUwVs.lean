/- Slices of values as arguments of a symbolic run: what a reading gives of them, and the state that a run starts from. -/
import Derived.Test.YtegdomkgppddeaaGreatDoorKit
import Derived.Test.YtegdomkgppddeaaGreatDoorUwC
import Derived.Deep.Slices
namespace Go.Proofs.YtegdomkgppddeaaGreatDoor
open Go.ChangeShapes Go.WideShapes Go.ChangeAt Go.RowKit Go.Sx
set_option linter.unusedVariables false
set_option linter.unusedSimpArgs false
set_option maxRecDepth 100000
/-- A slice of values: none, or where it lies and what its elements are. -/
inductive Vs where
  | nil
  | at (b off cap : Nat) (l : List Va)
def Vs.l : Vs → List Va
  | .nil => []
  | .at _ _ _ l => l
def Vs.val : Vs → Value
  | .nil => .slice none 0 0
  | .at b off cap l => .slice (some ⟨b, off, none⟩) l.length cap
def Vs.ok (w : World) : Vs → Prop
  | .nil => True
  | .at b off cap l => cap ≤ 9223372036854775807 ∧ ∃ cs ty fr, w.heap[b]? = some (.cells cs ty fr) ∧ l.length ≤ cap ∧ off + cap * 3 ≤ cs.size ∧ ∀ (i : Nat) (x : Va), l[i]? = some x → ∀ (j : Nat) (V : Value), x.cs[j]? = some V → cs[off + (i * 3 + j)]? = some V
theorem rowAt_off {p : Program} {fits : TypeId → Bool} {d e count off n : Nat} (h : rowAt p fits d e count off n = true) : off ≤ count * p.cellsOf e := by
  cases d with
  | zero => cases h
  | succ d =>
    unfold rowAt at h
    dsimp only at h
    split at h
    · cases h
    · rename_i hs
      have hd : off = off / p.cellsOf e * p.cellsOf e + off % p.cellsOf e := by rw [Nat.mul_comm]; exact (Nat.div_add_mod off _).symm
      have hm : off % p.cellsOf e < p.cellsOf e := Nat.mod_lt _ (Nat.pos_of_ne_zero hs)
      rw [Bool.or_eq_true] at h
      rcases h with h | h
      · simp only [Bool.and_eq_true, beq_iff_eq, decide_eq_true_eq] at h
        have : off / p.cellsOf e * p.cellsOf e ≤ count * p.cellsOf e := Nat.mul_le_mul_right _ (by omega)
        omega
      · simp only [Bool.and_eq_true, decide_eq_true_eq] at h
        have : (off / p.cellsOf e + 1) * p.cellsOf e ≤ count * p.cellsOf e := Nat.mul_le_mul_right _ h.1
        rw [Nat.add_mul] at this
        omega
theorem liesAt_off {p : Program} : ∀ {d e count off u n : Nat}, liesAt p d e count off u n = true → off ≤ count * p.cellsOf e
  | 0, _, _, _, _, _, h => by cases h
  | d + 1, e, count, off, u, n, h => by
    unfold liesAt at h
    rw [Bool.or_eq_true] at h
    rcases h with h | h
    · exact rowAt_off h
    · split at h
      · exact liesAt_off h
      · cases h
theorem has_cells {P : Program} {w : World} {r : Reach} {base : Nat} {a : Addr} {e : TypeId} {n : Nat} (h : w.has P r base a e n) : a.spot = none ∧ ∃ cs ty fr, w.heap[a.block]? = some (.cells cs ty fr) ∧ a.off ≤ cs.size := by
  obtain ⟨-, hs, row, cells, h1, h2⟩ := h
  refine ⟨hs, ?_⟩
  unfold World.shape? at h1
  split at h1
  · rename_i cs ty fr hc
    cases h1
    refine ⟨cs, _, fr, hc, Nat.le_trans (liesAt_off h2) (Nat.div_mul_le_self _ _)⟩
  · cases h1
instance : Inhabited Va := ⟨⟨0, 0, ⟨#[]⟩⟩⟩
theorem uptoBulkAll_len {H : Type} : ∀ (l : List (DataW H)), (∀ d ∈ l, 1 ≤ Rows.uptoBulk d) → l.length ≤ Rows.uptoBulkAll l
  | [], _ => Nat.zero_le _
  | d :: l, h => by
    have := uptoBulkAll_len l (fun x hx => h x (List.mem_cons_of_mem _ hx))
    have := h d List.mem_cons_self
    simp only [List.length_cons, Rows.uptoBulkAll]
    omega
section
variable {H : Type} {enc : TypeId × Value → H} {w : World} {base : Nat} {held : Bool}
theorem open_vs {r : Reach} {b0 : Nat} {v : Value} {d : DataW H} {p : List MemPlace} (hv : Value.okWide Tryz.prog w r b0 39 v) (h : DataW.Trod enc Tryz.prog w base (fun _ => true) held 39 v d p) :
    ∃ x : Vs, v = x.val ∧ x.ok w ∧ (∀ y ∈ x.l, y.ok ∧ y.s.size + 1 ≤ Rows.uptoBulk d) ∧ x.l.length ≤ Rows.uptoBulk d := by
  have hu : Tryz.prog.underlying 39 = some (.slice 30) := by kernel_rfl
  obtain ⟨a, len, cap, rfl⟩ := okWide_slice hu hv
  obtain ⟨fuel, hf⟩ := h
  have hf : DataW.trod enc Tryz.prog w base (fun _ => true) held fuel 39 [.slice a len cap] = some (d, p) := hf
  rcases Go.Deep.open_slice hu hf with ⟨e, ex⟩ | ⟨a', len', cap', m, n, D, Pl, e, hb, hl, hm, hmm, ex, hx⟩
  · cases e
    exact ⟨.nil, rfl, trivial, fun y hy => (by cases hy), Nat.zero_le _⟩
  · cases e
    simp only [Value.okWide, hu, Cell.okWide, Cell.ok] at hv
    obtain ⟨hs, cs, ty, fr, hc, ho⟩ := has_cells hv.2.2
    have hd : d = .slice ((List.range len).map D) ((List.range (m - len)).map fun j => D (len + j)) := congrArg Prod.fst ex
    have hmm : m = cap := hmm
    subst hmm
    obtain ⟨b, off, spot⟩ := a'
    dsimp only at hs hc ho
    subst hs
    have key : ∀ i, i < m → ∃ x : Va, (∀ (j : Nat) (V : Value), x.cs[j]? = some V → cs[off + (i * 3 + j)]? = some V) ∧ x.ok ∧ x.s.size + 1 ≤ Rows.uptoBulk (D i) := by
      intro i hi
      obtain ⟨cs', h1, h2⟩ := hx i hi
      rw [cellsVa] at h1
      obtain ⟨x, rfl, h3, h4⟩ := read_va h2
      refine ⟨x, fun j V hj => ?_, h3, h4⟩
      obtain ⟨-, -, h5⟩ := World.cells?_some h1
      have hj3 : j < 3 := (List.getElem?_eq_some_iff.1 hj).1
      have h6 := h5 j hj3
      rw [hj, Go.Deep.add_add] at h6
      have h7 : (Addr.add ⟨b, off, none⟩ (i * 3 + j)) = ⟨b, off + (i * 3 + j), none⟩ := by
        unfold Addr.add
        split
        · rename_i e0; rw [e0]; rfl
        · rfl
      rw [h7] at h6
      simpa [World.cell?, hc] using h6
    obtain ⟨f, hf⟩ := Go.Deep.choose_lt key
    refine ⟨.at b off m ((List.range len).map f), by simp [Vs.val], ⟨(by rw [hmm]; unfold maxLen at hm; omega), cs, ty, fr, hc, by simpa using hl, ?_, ?_⟩, ?_, ?_⟩
    · clear hv hx ex hd key
      cases m with
      | zero => simpa using ho
      | succ k =>
        have := (hf k (Nat.lt_succ_self k)).1 2 (.string (f k).s) rfl
        have := (Array.getElem?_eq_some_iff.1 this).1
        omega
    · intro i x hi j V hj
      simp only [List.getElem?_map] at hi
      cases hr : (List.range len)[i]? with
      | none => rw [hr] at hi; cases hi
      | some i' =>
        rw [hr] at hi
        have h9 := List.getElem?_eq_some_iff.1 hr
        obtain ⟨h10, h11⟩ := h9
        simp only [List.getElem_range] at h11
        subst h11
        cases hi
        exact (hf i (Nat.lt_of_lt_of_le (by simpa using h10) hl)).1 j V hj
    · intro y hy
      simp only [Vs.l, List.mem_map, List.mem_range] at hy
      obtain ⟨i, hi, rfl⟩ := hy
      have hi' := Nat.lt_of_lt_of_le hi hl
      refine ⟨(hf i hi').2.1, Nat.le_trans (hf i hi').2.2 ?_⟩
      have hmem : D i ∈ (List.range len).map D := List.mem_map.2 ⟨i, List.mem_range.2 hi, rfl⟩
      have := bulks.part_le hmem
      rw [hd]
      simp only [Rows.uptoBulk]
      omega
    · rw [hd]
      have := uptoBulkAll_len ((List.range len).map D) (fun d hd => by
        obtain ⟨i, hi, rfl⟩ := List.mem_map.1 hd
        have := (hf i (Nat.lt_of_lt_of_le (List.mem_range.1 hi) hl)).2.2
        omega)
      simp only [List.length_map, List.length_range] at this
      simp only [Rows.uptoBulk, Vs.l, List.length_map, List.length_range]
      omega
end
/-! ### the state -/
def vrow (ki ks i : Nat) : List SV := [.int .i64 (.var (ki + 2 * i)), .int .i64 (.var (ki + 2 * i + 1)), .str (.var (ks + i))]
def vrows (ki ks : Nat) : Nat → T (List SV)
  | 0 => .nil
  | n + 1 => (vrows ki ks n).put n (vrow ki ks n)
theorem vrows_get (ki ks : Nat) : ∀ (n r : Nat), (vrows ki ks n).get r = if r < n then some (vrow ki ks r) else none
  | 0, r => by simp [vrows, T.get_nil]
  | n + 1, r => by
    simp only [vrows, T.get_put, vrows_get ki ks n r]
    by_cases h : n = r
    · subst h; simp
    · by_cases h2 : r < n
      · simp [h, h2, Nat.lt_succ_of_lt h2]
      · have h3 : ¬ r < n + 1 := by omega
        simp [h, h2, h3]
/-- c = 0: none; c + 1: c elements of it are known. -/
def vObj (ki ks : Nat) : Nat → SObj
  | 0 => .dead
  | c + 1 => .cells (vrows ki ks c) c 3 0 true true
def vSV (id : Nat) : Nat → SV
  | 0 => .nils
  | c + 1 => .slc id 0 c none 3
def Vs.blk : Vs → Option (Nat × Nat × Nat)
  | .nil => none
  | .at b off cap _ => some (b, off, cap * 3)
def flat (l : List Va) : List Int := l.flatMap fun x => [x.k, x.n]
theorem flat_get : ∀ {l : List Va} {i : Nat} {x : Va}, l[i]? = some x → (flat l)[2 * i]? = some x.k ∧ (flat l)[2 * i + 1]? = some x.n
  | y :: l, 0, x, h => by cases h; exact ⟨rfl, rfl⟩
  | y :: l, i + 1, x, h => by
    have h : l[i]? = some x := h
    obtain ⟨h1, h2⟩ := flat_get h
    exact ⟨h1, h2⟩
/-- Its elements lie among the unknowns from ki and ks on. -/
def Lies (E : Env) (ki ks : Nat) (l : List Va) : Prop := ∀ (i : Nat) (x : Va), l[i]? = some x → E.ints[ki + 2 * i]? = some x.k ∧ E.ints[ki + 2 * i + 1]? = some x.n ∧ E.strs[ks + i]? = some x.s
theorem vObj_ok {w : World} {E : Env} {x : Vs} (hx : x.ok w) {ki ks c : Nat} (hL : Lies E ki ks (x.l.take (c - 1))) (hc : c ≤ x.l.length + 1) {id : Nat} (hE : E.blk id = x.blk) (hl : (vObj ki ks c).live = true) (hn : x = .nil → c = 0) :
    ∃ b base n, E.blk id = some (b, base, n) ∧ ObjOk E base n (vObj ki ks c) w.heap[b]? := by
  cases x with
  | nil => rw [hn rfl] at hl; cases hl
  | «at» b off cap l =>
    cases c with
    | zero => cases hl
    | succ c =>
      obtain ⟨-, cs, ty, fr, h1, h0, h2, h3⟩ := hx
      simp only [Vs.l, Nat.add_sub_cancel, Nat.add_le_add_iff_right] at hL hc
      refine ⟨b, off, cap * 3, hE, cs, fr, ty, h1, fun h => (by cases h), ⟨h2, fun h => (by cases h)⟩, by omega, fun h => (by cases h), ?_⟩
      intro r row hr
      rw [vrows_get] at hr
      split at hr
      · rename_i hrc
        cases hr
        have hrl : r < l.length := Nat.lt_of_lt_of_le hrc hc
        have hg : l[r]? = some l[r] := List.getElem?_eq_getElem hrl
        obtain ⟨e1, e2, e3⟩ := hL r l[r] (by rw [List.getElem?_take_of_lt hrc]; exact hg)
        refine ⟨hrc, rfl, l[r].cs, ?_, fun j V hj => h3 r _ hg j V hj⟩
        simp [vrow, SV.denL, SV.den, IX.den, SX.den, e1, e2, e3]
      · cases hr
theorem vSV_den {w : World} {E : Env} {x : Vs} (hx : x.ok w) {id c : Nat} (hE : E.blk id = x.blk) (hc : x = .nil ∧ c = 0 ∨ x ≠ .nil ∧ c = x.l.length + 1) : (vSV id c).den E = some x.val := by
  cases x with
  | nil => rcases hc with ⟨-, rfl⟩ | ⟨h, -⟩
           · rfl
           · exact (h rfl).elim
  | «at» b off cap l =>
    rcases hc with ⟨h, -⟩ | ⟨-, rfl⟩
    · cases h
    · have := hE.trans (show (Vs.at b off cap l).blk = some (b, off, cap * 3) from rfl)
      simp [vSV, SV.den, this, Vs.val, Vs.l]
theorem flat_length (l : List Va) : (flat l).length = 2 * l.length := by
  induction l with
  | nil => rfl
  | cons x l ih => simp only [flat, List.flatMap_cons, List.length_append] at ih ⊢; simp [ih]; omega
/-- Every text is small. -/
def smalls (n : Nat) : Asm := (List.range n).map fun i => (.ilt (.slen (.var i)) (.lit 1048577), true)
theorem smalls_ok {E : Env} (h : ∀ b ∈ E.strs, b.size ≤ 1048576) {n : Nat} (hn : n ≤ E.strs.length) : AsmOk E (smalls n) := by
  intro c v hm
  simp only [smalls, List.mem_map, List.mem_range, Prod.mk.injEq] at hm
  obtain ⟨i, hi, rfl, rfl⟩ := hm
  have hl : i < E.strs.length := by omega
  have := h _ (List.getElem_mem hl)
  simp [BX.den, IX.den, SX.den, List.getElem?_eq_getElem hl]
  omega
end Go.Proofs.YtegdomkgppddeaaGreatDoor
