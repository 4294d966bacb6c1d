import Derived.Test.YtegdomkgppddeaaGreatDoorPMopBoundx10
namespace Go.Proofs.YtegdomkgppddeaaGreatDoor.PMopBound
open Go.RowKit Go.Proofs.YtegdomkgppddeaaGreatDoorW.PrintWords Go.Proofs.YtegdomkgppddeaaGreatDoorW.PrintLast Go.Proofs.YtegdomkgppddeaaGreatDoorW.PrintMore

theorem w64 {i : Int} (h0 : -9223372036854775808 ≤ i) (h : i < 9223372036854775808) : wrap64 i = i := by unfold wrap64; omega

theorem point_l0 (s : ByteArray) (hs : s.size ≤ 1048576) (i low n : Int) (h0 : 0 ≤ i) (hn : n ≤ 4) (hle : i + n ≤ s.size) (d : Nat) :
    ∀ (k : Nat) (c j : Int), 1 ≤ j → n - j = d → d < k → ∃ a b, understudyref1_point.l0 k s i c n low j = some (a, b) ∧ (b = 0 ∨ b = n) := by
  induction d with
  | zero =>
    intro k c j hj hd hk
    obtain ⟨k, rfl⟩ : ∃ m, k = m + 1 := ⟨k - 1, by omega⟩
    simp only [understudyref1_point.l0]
    rw [if_neg (by omega)]
    split
    · exact ⟨_, _, rfl, .inl rfl⟩
    · split
      · exact ⟨_, _, rfl, .inl rfl⟩
      · exact ⟨_, _, rfl, .inr rfl⟩
  | succ d ih =>
    intro k c j hj hd hk
    obtain ⟨k, rfl⟩ : ∃ m, k = m + 1 := ⟨k - 1, by omega⟩
    simp only [understudyref1_point.l0]
    have e : wrap64 (i + j) = i + j := w64 (by omega) (by omega)
    have e1 : wrap64 (j + 1) = j + 1 := w64 (by omega) (by omega)
    rw [e, e1, if_pos (by omega), if_pos (by omega), if_pos (by omega)]
    split
    · exact ⟨_, _, rfl, .inl rfl⟩
    · split
      · exact ⟨_, _, rfl, .inl rfl⟩
      · exact ih k _ (j + 1) (by omega) (by omega) (by omega)

theorem point_j2 (s : ByteArray) (hs : s.size ≤ 1048576) (i c low n : Int) (h0 : 0 ≤ i) (hi : i < s.size) (hn1 : 1 ≤ n) (hn : n ≤ 4) (k : Nat) (hk : 5 < k) :
    ∃ a b, understudyref1_point.j2 k s i c n low = some (a, b) ∧ (b = 0 ∨ 1 ≤ b ∧ b ≤ 4) := by
  obtain ⟨k, rfl⟩ : ∃ m, k = m + 1 := ⟨k - 1, by omega⟩
  simp only [understudyref1_point.j2]
  rw [w64 (by omega) (by omega)]
  split
  · exact ⟨_, _, rfl, .inl rfl⟩
  · obtain ⟨a, b, h, hb⟩ := point_l0 s hs i low n h0 hn (by omega) (n - 1).toNat k c 1 (by omega) (by omega) (by omega)
    exact ⟨a, b, h, by omega⟩

theorem point_f (s : ByteArray) (hs : s.size ≤ 1048576) (i : Int) (h0 : 0 ≤ i) (hi : i < s.size) (k : Nat) (hk : 9 < k) :
    ∃ a b, understudyref1_point.f k s i = some (a, b) ∧ (b = 0 ∨ 1 ≤ b ∧ b ≤ 4) := by
  unfold understudyref1_point.f
  obtain ⟨k, rfl⟩ : ∃ m, k = m + 1 := ⟨k - 1, by omega⟩
  obtain ⟨k, rfl⟩ : ∃ m, k = m + 1 := ⟨k - 1, by omega⟩
  have J2 := fun c low n hn1 hn => point_j2 s hs i c low n h0 hi hn1 hn
  have J1 : ∀ x q, ∃ a b, understudyref1_point.j1 (k + 1) s i x q = some (a, b) ∧ (b = 0 ∨ 1 ≤ b ∧ b ≤ 4) := by
    intro x q
    simp only [understudyref1_point.j1]
    split
    · exact J2 _ _ _ (by omega) (by omega) k (by omega)
    · split
      · split
        · exact J2 _ _ _ (by omega) (by omega) k (by omega)
        · exact ⟨_, _, rfl, .inl rfl⟩
      · exact ⟨_, _, rfl, .inl rfl⟩
  have J0 : ∀ x q, ∃ a b, understudyref1_point.j0 (k + 1 + 1) s i x q = some (a, b) ∧ (b = 0 ∨ 1 ≤ b ∧ b ≤ 4) := by
    intro x q
    simp only [understudyref1_point.j0]
    split
    · exact J2 _ _ _ (by omega) (by omega) (k + 1) (by omega)
    · split
      · exact J1 _ _
      · exact J1 _ _
  rw [if_pos h0, if_pos hi]
  split
  · exact ⟨_, _, rfl, .inr (by omega)⟩
  · split
    · exact J0 _ _
    · exact J0 _ _

theorem points_l0 (s : ByteArray) (hs : s.size ≤ 1048576) (d : Nat) :
    ∀ (k : Nat) (l : List Int) (i : Int), 0 ≤ i → (s.size : Int) - i ≤ d → (l.length : Int) ≤ i → i ≤ s.size + 4 → d + 11 < k →
      ∃ l' b, understudyref1_points.l0 k s l i = some (l', b) ∧ l'.length ≤ 1048580 := by
  induction d with
  | zero =>
    intro k l i h0 hd hl hi hk
    obtain ⟨k, rfl⟩ : ∃ m, k = m + 1 := ⟨k - 1, by omega⟩
    simp only [understudyref1_points.l0]
    rw [if_neg (by omega)]
    exact ⟨_, _, rfl, by omega⟩
  | succ d ih =>
    intro k l i h0 hd hl hi hk
    obtain ⟨k, rfl⟩ : ∃ m, k = m + 1 := ⟨k - 1, by omega⟩
    simp only [understudyref1_points.l0]
    by_cases c : i < s.size
    · rw [if_pos c]
      obtain ⟨a, b, hp, hb⟩ := point_f s hs i h0 c k (by omega)
      rw [hp]
      simp only [Option.bind_some]
      by_cases c2 : b = 0
      · rw [if_pos c2]
        exact ⟨_, _, rfl, by simp⟩
      · rw [if_neg c2]
        have next := ih k (l ++ [a]) (wrap64 (i + b)) (by rw [w64] <;> omega) (by rw [w64] <;> omega) (by rw [w64] <;> (try simp) <;> omega) (by rw [w64] <;> omega) (by omega)
        have hr : l.length < 17592186044416 := by omega
        rw [if_pos hr]
        split
        · split
          · split
            · rw [if_pos (by rw [w64] <;> omega), if_pos (by rw [w64] <;> omega)]
              split
              · split
                · exact ⟨_, _, rfl, by simp⟩
                · exact next
              · exact next
            · exact next
          · exact next
        · exact next
    · rw [if_neg c]
      exact ⟨_, _, rfl, by omega⟩

theorem points_f (s : ByteArray) (hs : s.size ≤ 1048576) (k : Nat) (hk : 1048588 < k) :
    ∃ l b, understudyref1_points.f k s = some (l, b) ∧ l.length ≤ 1048580 :=
  points_l0 s hs s.size k [] 0 (by omega) (by omega) (by simp) (by omega) (by omega)

theorem units_l0 (l : List Int) (hl : l.length ≤ 1048580) (ok : Bool) (d : Nat) :
    ∀ (k : Nat) (o : List Int) (i : Int), 0 ≤ i → (l.length : Int) - i ≤ d → (o.length : Int) ≤ 2 * i → i ≤ l.length → 2 * d + 2 < k →
      ∃ r, understudyref1_Units.l0 k l ok o i = some r := by
  induction d with
  | zero =>
    intro k o i h0 hd ho hi hk
    obtain ⟨k, rfl⟩ : ∃ m, k = m + 1 := ⟨k - 1, by omega⟩
    obtain ⟨k, rfl⟩ : ∃ m, k = m + 1 := ⟨k - 1, by omega⟩
    simp only [understudyref1_Units.l0, understudyref1_Units.j1]
    have e : decide (i < (l.length : Int)) = false := by simp; omega
    rw [e]
    exact ⟨o, by cases ok <;> simp⟩
  | succ d ih =>
    intro k o i h0 hd ho hi hk
    obtain ⟨k, rfl⟩ : ∃ m, k = m + 1 := ⟨k - 1, by omega⟩
    obtain ⟨k, rfl⟩ : ∃ m, k = m + 1 := ⟨k - 1, by omega⟩
    simp only [understudyref1_Units.l0, understudyref1_Units.j1]
    cases ok with
    | false => exact ⟨o, by simp⟩
    | true =>
      rw [if_pos rfl]
      by_cases c : i < l.length
      · rw [if_pos (by simpa using c), if_pos h0, if_pos c]
        have e1 : wrap64 (i + 1) = i + 1 := w64 (by omega) (by omega)
        rw [e1]
        split
        · simp only [Option.bind_some]
          rw [if_pos (by simp; omega)]
          exact ih k _ _ (by omega) (by omega) (by simp; omega) (by omega) (by omega)
        · rw [if_pos (by omega)]
          exact ih k _ _ (by omega) (by omega) (by simp; omega) (by omega) (by omega)
      · rw [if_neg (by simpa using c)]
        exact ⟨o, rfl⟩

theorem units_f (s : ByteArray) (hs : s.size ≤ 1048576) (k : Nat) (hk : 3000000 < k) : ∃ r, understudyref1_Units.f k s = some r := by
  unfold understudyref1_Units.f
  obtain ⟨l, b, h, hl⟩ := points_f s hs k (by omega)
  rw [h]
  simp only [Option.bind_some]
  exact units_l0 l hl b l.length k [] 0 (by omega) (by omega) (by simp) (by omega) (by omega)

theorem rightValue_j0 (x : Int) (b : Bool) (y n : Int) (s : ByteArray) (hs : s.size ≤ 1048576) (k : Nat) (hk : 3000001 < k) : ∃ r, understudyref1_RightValue.j0 k x b y n s = some r := by
  obtain ⟨k, rfl⟩ : ∃ m, k = m + 1 := ⟨k - 1, by omega⟩
  simp only [understudyref1_RightValue.j0]
  obtain ⟨l, p, hp, -⟩ := points_f s hs k (by omega)
  obtain ⟨u, hu⟩ := units_f s hs k (by omega)
  have ht : understudyref1_RightText.f k s = some p := by unfold understudyref1_RightText.f; rw [hp]; rfl
  have hf : ∃ t, understudyref1_Safe.f n = some t := by unfold understudyref1_Safe.f; split <;> exact ⟨_, rfl⟩
  obtain ⟨t, hf⟩ := hf
  rw [ht, hu, hf]
  simp only [Option.bind_some]
  repeat' split
  all_goals exact ⟨_, rfl⟩

theorem rightValue_f (x n : Int) (s : ByteArray) (hs : s.size ≤ 1048576) (k : Nat) (hk : 3000001 < k) : ∃ r, understudyref1_RightValue.f k x n s = some r := by
  unfold understudyref1_RightValue.f
  split <;> exact rightValue_j0 _ _ _ _ _ hs k hk

/-- RightValue answers, whatever it is asked of a text that is not too great. -/
theorem rightValue_any (x n : Int) (s : ByteArray) (hs : s.size ≤ 1048576) (w : World) :
    Calls Tryz.prog 35 #[.agg #[.int .i64 x, .int .i64 n, .string s]] w fun e w' => (∃ r : Bool, e = .returned (.bool r)) ∧ Below w.heap.size w w' := by
  obtain ⟨r, h⟩ := rightValue_f x n s hs 3000002 (by omega)
  exact (understudyref1_RightValue.calls _ x n s r w h).mono fun e w' ⟨he, hb⟩ => ⟨⟨r, he⟩, hb⟩
end Go.Proofs.YtegdomkgppddeaaGreatDoor.PMopBound
