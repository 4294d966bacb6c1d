/- understudyref1.Dec tells a number's numeral. -/
import Derived.Test.YtegdomkgppddeaaGreatDoorUx8
import Derived.Test.YtegdomkgppddeaaGreatDoorMem
import Derived.Test.YtegdomkgppddeaaGreatDoorKit
import Derived.WalkKit
namespace Go.Proofs.YtegdomkgppddeaaGreatDoor
open Go.RowKit Go.Sx
set_option linter.unusedVariables false
set_option linter.unusedSimpArgs false
set_option maxRecDepth 100000
theorem slice_digit (k : Int) (h0 : 0 ≤ k) (h9 : k ≤ 9) (w : World) : Sem.run Tryz.prog (Instr.slice 9 (.string { data := #[48, 49, 50, 51, 52, 53, 54, 55, 56, 57] }) (some (.int .i64 k)) (some (.int .i64 (k + 1))) none) w = .ok (.string ⟨#[UInt8.ofNat (48 + k.toNat)]⟩) w := by
  have hk : k = 0 ∨ k = 1 ∨ k = 2 ∨ k = 3 ∨ k = 4 ∨ k = 5 ∨ k = 6 ∨ k = 7 ∨ k = 8 ∨ k = 9 := by omega
  rcases hk with rfl | rfl | rfl | rfl | rfl | rfl | rfl | rfl | rfl | rfl <;> rfl
attribute [local irreducible] wpList Calls wpQuiet
theorem digs_lt {u : Nat} (h : u < 10) : digs u = [UInt8.ofNat (48 + u)] := by rw [digs, dif_pos h]
theorem digs_ge {u : Nat} (h : ¬ u < 10) : digs u = digs (u / 10) ++ [UInt8.ofNat (48 + u % 10)] := by rw [digs, dif_neg h]
theorem digs_cat (l : List UInt8) (c : UInt8) : (⟨l.toArray⟩ : ByteArray) ++ ⟨#[c]⟩ = ⟨(l ++ [c]).toArray⟩ := by
  apply ByteArray.ext
  simp
theorem digs_len (u : Nat) : (digs u).length ≤ u + 1 := by
  induction u using Nat.strongRecOn with
  | _ u ih =>
    by_cases h : u < 10
    · rw [digs_lt h]; simp
    · rw [digs_ge h, List.length_append, List.length_singleton]
      have := ih (u / 10) (by omega)
      omega
theorem digit_eq (k : Nat) : (48 : UInt8) + UInt8.ofNat k = UInt8.ofNat (48 + k) := by
  apply UInt8.toNat.inj
  simp [UInt8.toNat_add, UInt8.toNat_ofNat']
set_option maxHeartbeats 2000000 in
theorem dec_nat (u : Nat) : ∀ (h : u ≤ 9223372036854775807) (w : World), Calls Tryz.prog 121 #[.int .i64 u] w fun e w' => e = .returned (.string ⟨(digs u).toArray⟩) ∧ Below w.heap.size w w' := by
  induction u using Nat.strongRecOn with
  | _ u ih =>
    intro h w0
    have M := Own.refl nobody w0
    have ih' : ∀ w, 9 < u → Calls Tryz.prog 121 #[.int .i64 ((u : Int) / 10)] w fun e w' => e = .returned (.string ⟨(digs (u / 10)).toArray⟩) ∧ Below w.heap.size w w' := fun w h9 => ih (u / 10) (by omega) (by omega) w
    have hs := slice_digit ((u : Int) % 10) (by omega) (by omega)
    have hn : ((u : Int) % 10).toNat = u % 10 := by omega
    have hl := digs_len (u / 10)
    rw [hn] at hs
    clear ih hn
    by_cases h9 : 9 < u
    · have h10 : (9 : Int) < u := by omega
      have ih2 := fun w => ih' w h9
      clear ih'
      go_enter Tryz.func121, Tryz.ntmps121
      have hu : ¬ (u : Int) < 0 := by omega
      go_wp2_with (first
        | (rw [hs]; simp only [Result.andThen_ok, Oper.upon_value])
        | (go_at_call 121; refine (ih2 _).mono ?_; rintro e w' ⟨rfl, hb⟩; replace M := M.call hb; clear hb))
      go_ret
      refine ⟨congrArg (fun x => Ending.returned (Value.string x)) ?_, M.below⟩
      rw [digit_eq, digs_cat, ← digs_ge (by omega)]
    · have h10 : ¬ (9 : Int) < u := by omega
      clear ih'
      go_enter Tryz.func121, Tryz.ntmps121
      have hu : ¬ (u : Int) < 0 := by omega
      go_wp2_with (first
        | (rw [hs]; simp only [Result.andThen_ok, Oper.upon_value]))
      go_ret
      refine ⟨congrArg (fun x => Ending.returned (Value.string x)) ?_, M.below⟩
      rw [digit_eq, digs_lt (by omega), Nat.mod_eq_of_lt (by omega)]
theorem digs_zero {m : Nat} : (⟨(digs m).toArray⟩ : ByteArray) = ⟨#[48]⟩ ↔ m = 0 := by
  constructor
  · intro h
    have h : (digs m).toArray = #[48] := congrArg ByteArray.data h
    have h : digs m = [48] := by
      have := congrArg Array.toList h
      simpa using this
    by_cases hm : m < 10
    · rw [digs_lt hm] at h
      have h : UInt8.ofNat (48 + m) = 48 := by simpa using h
      have := congrArg UInt8.toNat h
      simp [UInt8.toNat_ofNat'] at this
      omega
    · rw [digs_ge hm] at h
      have h2 := congrArg List.length h
      have h3 : 1 ≤ (digs (m / 10)).length := by
        by_cases h4 : m / 10 < 10
        · rw [digs_lt h4]; simp
        · rw [digs_ge h4]; simp
      rw [List.length_append, List.length_singleton, List.length_singleton] at h2
      omega
  · rintro rfl
    rw [digs_lt (by omega)]
    rfl
set_option maxHeartbeats 2000000 in
theorem dec_neg (v : Nat) (h1 : 1 ≤ v) (h2 : v ≤ 9223372036854775808) (w0 : World) : Calls Tryz.prog 121 #[.int .i64 (-(v : Int))] w0 fun e w' => e = .returned (.string ⟨(45 :: digs v).toArray⟩) ∧ Below w0.heap.size w0 w' := by
  have M := Own.refl nobody w0
  have ih : ∀ w, Calls Tryz.prog 121 #[.int .i64 ((v : Int) / 10)] w fun e w' => e = .returned (.string ⟨(digs (v / 10)).toArray⟩) ∧ Below w.heap.size w w' := fun w => by
    have := dec_nat (v / 10) (by omega) w
    rwa [show (((v / 10 : Nat)) : Int) = (v : Int) / 10 from by omega] at this
  have hs := slice_digit ((v : Int) % 10) (by omega) (by omega)
  have hn : ((v : Int) % 10).toNat = v % 10 := by omega
  have hl := digs_len (v / 10)
  have hz := @digs_zero (v / 10)
  rw [hn] at hs
  clear hn
  go_enter Tryz.func121, Tryz.ntmps121
  have hu : (-(v : Int)) < 0 := by omega
  go_wp2_with (first
    | (rw [hs]; simp only [Result.andThen_ok, Oper.upon_value])
    | (go_at_call 121; refine (ih _).mono ?_; rintro e w' ⟨rfl, hb⟩; replace M := M.call hb; clear hb))
  · rename_i hz0
    have h0 : digs (v / 10) = [48] := by simpa using hz0
    have h3 : v / 10 = 0 := hz.1 (by rw [h0])
    go_ret
    refine ⟨congrArg (fun x => Ending.returned (Value.string x)) ?_, M.below⟩
    rw [digit_eq, digs_lt (by omega), Nat.mod_eq_of_lt (by omega)]
    apply ByteArray.ext
    simp
  · rename_i hz0
    have h0 : ¬ digs (v / 10) = [48] := by simpa using hz0
    have h3 : ¬ v / 10 = 0 := fun e => h0 (by rw [e, digs_lt (by omega)]; rfl)
    go_ret
    refine ⟨congrArg (fun x => Ending.returned (Value.string x)) ?_, M.below⟩
    rw [digit_eq, digs_ge (u := v) (by omega)]
    apply ByteArray.ext
    simp
theorem dec_calls (x : Int) (h0 : -9223372036854775808 ≤ x) (h1 : x ≤ 9223372036854775807) (w : World) : Calls Tryz.prog 121 #[.int .i64 x] w fun e w' => e = .returned (.string (numeral x)) ∧ Below w.heap.size w w' := by
  by_cases h : x < 0
  · obtain ⟨v, rfl⟩ : ∃ v : Nat, x = -(v : Int) := ⟨x.natAbs, by omega⟩
    have e : numeral (-(v : Int)) = ⟨(45 :: digs v).toArray⟩ := by
      unfold numeral
      rw [if_pos h, Int.natAbs_neg, Int.natAbs_natCast]
    rw [e]
    exact dec_neg v (by omega) (by omega) w
  · obtain ⟨u, rfl⟩ : ∃ u : Nat, x = u := ⟨x.toNat, by omega⟩
    have e : numeral (u : Int) = ⟨(digs u).toArray⟩ := by
      unfold numeral
      rw [if_neg h, Int.toNat_natCast]
    rw [e]
    exact dec_nat u (by omega) w
end Go.Proofs.YtegdomkgppddeaaGreatDoor
