import Derived.Test.YtegdomkgppddeaaGreatDoorUwRvM
import Derived.Test.YtegdomkgppddeaaGreatDoorUwAsk
import Derived.WalkKit
namespace Go.Proofs.YtegdomkgppddeaaGreatDoor
open Go.RowKit Go.Sx
set_option linter.unusedVariables false
set_option linter.unusedSimpArgs false
set_option maxRecDepth 100000
attribute [local irreducible] wpList Calls wpQuiet
theorem infoAsk : (Tryz.prog.info? 41).map (·.size) = some 27 := by kernel_rfl
abbrev askZero : Value := .agg #[.string ⟨#[]⟩, .int .i64 0, .int .i64 0, .int .i64 0, .string ⟨#[]⟩, .int .i64 0, .int .i64 0, .string ⟨#[]⟩, .bool false, .bool false, .bool false, .bool false, .bool false, .bool false, .int .i64 0, .int .i64 0, .string ⟨#[]⟩, .int .i64 0, .int .i64 0, .string ⟨#[]⟩, .int .i64 0, .int .i64 0, .string ⟨#[]⟩, .bool false, .bool false, .bool false, .slice none 0 0]
theorem zeroAsk (w : World) : (zeroValue 41).run Tryz.prog w = .ok askZero w := by kernel_rfl
set_option maxHeartbeats 4000000 in
theorem may_long (c0 c1 c2 c3 c4 c5 c6 c7 c8 c9 c10 c11 c12 c13 c14 c15 c16 c17 c18 c19 c20 c21 c22 c23 c24 c25 c26 c27 : Value)
    (h1 : [c2, c3, c4, c5, c6, c7, c8, c9, c10, c11, c12, c13, c14, c15, c16, c17, c18, c19, c20, c21, c22, c23, c24, c25, c26, c27].all (·.oneCell') = true)
    (b off cap : Nat) (l : List (Int × Int × ByteArray)) (n : Int) (w0 : World) (hR : Go.Sx.RowsIn w0 b off cap l) (hs : ∀ x ∈ l, x.2.2.size ≤ 1048576) (hl : 9 ≤ l.length) (hm : l.length ≤ 9223372036854775807) :
    Calls Tryz.prog 19 #[.agg #[c0, c1, c2, c3, c4, c5, c6, c7, c8, c9, c10, c11, c12, c13, c14, c15, c16, c17, c18, c19, c20, c21, c22, c23, c24, c25, c26, c27, .slice (some ⟨b, off, none⟩) l.length cap], .int .i64 n] w0 fun e w' => e = .returned (.bool false) ∧ Below w0.heap.size w0 w' := by
  have M := Own.refl nobody w0
  obtain ⟨cs, ty, fr, hb, -, -, -, hrow⟩ := hR
  have h2 : [c2, c3, c4, c5, c6, c7, c8, c9, c10, c11, c12, c13, c14, c15, c16, c17, c18, c19, c20, c21, c22, c23, c24, c25, c26, c27, Value.slice (some ⟨b, off, none⟩) l.length cap].all (·.oneCell') = true := by
    simp only [List.all_cons, List.all_nil, Bool.and_true, Bool.and_eq_true] at h1 ⊢
    exact ⟨h1.1, h1.2.1, h1.2.2.1, h1.2.2.2.1, h1.2.2.2.2.1, h1.2.2.2.2.2.1, h1.2.2.2.2.2.2.1, h1.2.2.2.2.2.2.2.1, h1.2.2.2.2.2.2.2.2.1, h1.2.2.2.2.2.2.2.2.2.1, h1.2.2.2.2.2.2.2.2.2.2.1, h1.2.2.2.2.2.2.2.2.2.2.2.1, h1.2.2.2.2.2.2.2.2.2.2.2.2.1, h1.2.2.2.2.2.2.2.2.2.2.2.2.2.1, h1.2.2.2.2.2.2.2.2.2.2.2.2.2.2.1, h1.2.2.2.2.2.2.2.2.2.2.2.2.2.2.2.1, h1.2.2.2.2.2.2.2.2.2.2.2.2.2.2.2.2.1, h1.2.2.2.2.2.2.2.2.2.2.2.2.2.2.2.2.2.1, h1.2.2.2.2.2.2.2.2.2.2.2.2.2.2.2.2.2.2.1, h1.2.2.2.2.2.2.2.2.2.2.2.2.2.2.2.2.2.2.2.1, h1.2.2.2.2.2.2.2.2.2.2.2.2.2.2.2.2.2.2.2.2.1, h1.2.2.2.2.2.2.2.2.2.2.2.2.2.2.2.2.2.2.2.2.2.1, h1.2.2.2.2.2.2.2.2.2.2.2.2.2.2.2.2.2.2.2.2.2.2.1, h1.2.2.2.2.2.2.2.2.2.2.2.2.2.2.2.2.2.2.2.2.2.2.2.1, h1.2.2.2.2.2.2.2.2.2.2.2.2.2.2.2.2.2.2.2.2.2.2.2.2.1, h1.2.2.2.2.2.2.2.2.2.2.2.2.2.2.2.2.2.2.2.2.2.2.2.2.2, rfl⟩
  obtain ⟨len, hlen⟩ : ∃ len, len = l.length := ⟨_, rfl⟩
  rw [← hlen] at hl hm h2 ⊢
  go_enter Tryz.func19, Tryz.ntmps19
  go_wp2_with (first
    | ((with_reducible refine at_box _ _ rfl ?_); refine own_box M _ _ rfl rfl rfl ?_; clear M; intro g w M; try simp only [Act.put, List.setIfInBounds_toArray, List.set_cons_zero, List.set_cons_succ])
    | ((with_reducible refine at_load 41 _ rfl ?_); (first | refine own_loadN M 41 _ rfl rfl _ _ rfl 0 rfl Tryz.underlying41 rfl 27 infoAsk (Nat.le_of_ble_eq_true rfl) ?_ | refine own_loadN M 41 _ rfl rfl _ _ rfl 1 rfl Tryz.underlying41 rfl 27 infoAsk (Nat.le_of_ble_eq_true rfl) ?_ | refine own_loadN M 41 _ rfl rfl _ _ rfl 2 rfl Tryz.underlying41 rfl 27 infoAsk (Nat.le_of_ble_eq_true rfl) ?_ | refine own_loadN M 41 _ rfl rfl _ _ rfl 3 rfl Tryz.underlying41 rfl 27 infoAsk (Nat.le_of_ble_eq_true rfl) ?_ | refine own_loadN M 41 _ rfl rfl _ _ rfl 4 rfl Tryz.underlying41 rfl 27 infoAsk (Nat.le_of_ble_eq_true rfl) ?_); simp only [List.drop_succ_cons, List.drop_zero, List.take_succ_cons, List.take_zero]; try simp only [Act.put, List.setIfInBounds_toArray, List.set_cons_zero, List.set_cons_succ])
    | ((with_reducible refine at_alloc 41 rfl ?_); refine own_alloc M 41 rfl rfl zeroAsk rfl ?_; clear M; intro g w M; try simp only [Act.put, List.setIfInBounds_toArray, List.set_cons_zero, List.set_cons_succ])
    | ((with_reducible refine at_store 41 _ (.tmp _) rfl ?_); refine own_storeT M 41 _ _ rfl rfl _ _ rfl rfl rfl 0 rfl infoAsk h2 (Nat.le_of_ble_eq_true rfl) ?_; clear M; intro w M; simp only [List.set_cons_zero, List.set_cons_succ, List.drop_succ_cons, List.drop_zero, List.take_succ_cons, List.take_zero, List.cons_append, List.nil_append, List.append_nil, List.length_cons, List.length_nil, Nat.zero_add, Nat.reduceAdd, List.drop_nil] at M))
  obtain ⟨cl, rfl⟩ : ∃ l : List Value, cs = l.toArray := ⟨cs.toList, by simp⟩
  have hwl : (len : Int) ≤ 9223372036854775807 := by omega
  go_loopw [6] (fun i wr => ∃ k : Nat, k ≤ len ∧ i = .int .i64 k ∧ ∃ g' o, Own nobody w0 wr [(g, .cells [c2, c3, c4, c5, c6, c7, c8, c9, c10, c11, c12, c13, c14, c15, c16, c17, c18, c19, c20, c21, c22, c23, c24, c25, c26, c27, Value.slice (some ⟨b, off, none⟩) len cap].toArray 41 (0, 0)), (g', o)])
    (fun i _ => len - (intOf i).toNat)
  case atStart => exact ⟨0, Nat.zero_le _, rfl, _, _, M⟩
  case round =>
    clear M
    obtain ⟨k, hk, rfl, g', o, M⟩ := hrel
    by_cases hlt : k < len
    · obtain ⟨x, hx⟩ : ∃ x, l[k]? = some x := ⟨_, List.getElem?_eq_getElem (by omega)⟩
      have hxs := hs x (List.mem_of_getElem? hx)
      obtain ⟨r0, r1, r2⟩ := hrow k x hx
      have hv : (cl.drop (off + k * 3)).take 3 = [.int .i64 x.1, .int .i64 x.2.1, .string x.2.2] := by
        simp only [List.getElem?_toArray] at r0 r1 r2
        apply List.ext_getElem?
        intro j
        rw [List.getElem?_take]
        match j with
        | 0 => simp [← r0]
        | 1 => simp [← r1]; congr 1
        | 2 => simp [← r2]; congr 1
        | j + 3 => rw [if_neg (by omega)]; rfl
      have hB := M.old (show Has w0 b (.cells cl.toArray ty fr) from hb) (fun h => h)
      clear hlen h1 h2 hs hrow hb hx r0 r1 r2
      go_wp2_with (first
        | ((with_reducible refine at_load 39 _ rfl ?_); (first | refine own_load1 M 39 _ rfl rfl _ _ rfl 0 rfl Tryz.underlying39 rfl rfl ?_ | refine own_load1 M 39 _ rfl rfl _ _ rfl 1 rfl Tryz.underlying39 rfl rfl ?_ | refine own_load1 M 39 _ rfl rfl _ _ rfl 2 rfl Tryz.underlying39 rfl rfl ?_ | refine own_load1 M 39 _ rfl rfl _ _ rfl 3 rfl Tryz.underlying39 rfl rfl ?_ | refine own_load1 M 39 _ rfl rfl _ _ rfl 4 rfl Tryz.underlying39 rfl rfl ?_); try simp only [Act.put, List.setIfInBounds_toArray, List.set_cons_zero, List.set_cons_succ])
        | ((with_reducible refine at_load 30 _ rfl ?_); refine wpList_load_part 30 _ rfl rfl b (off + k * 3) rfl ty cl fr _ [.int .i64 x.1, .int .i64 x.2.1, .string x.2.2] hB Tryz.underlying30 rfl infoVa hv ?_; (try simp only [Act.put, List.setIfInBounds_toArray, List.set_cons_zero, List.set_cons_succ]))
        | (go_at_call 59; refine (val_any x.1 x.2.1 n x.2.2 hxs _).mono ?_; rintro e w' ⟨⟨q, rfl⟩, hb'⟩; replace M := M.call hb'; clear hb' hB))
      · go_ret
        exact ⟨rfl, M.below⟩
      · refine ⟨⟨k + 1, by omega, by go_num, g', o, M⟩, by simp [intOf]; omega⟩
    · obtain rfl : k = len := by omega
      have h3 : [c10, c11, c12, c13, c14, c15, c16, c17, c18, c19, c20, c21, c22, c23, c24, c25, c26, c27].all (·.oneCell') = true := by
        simp only [List.all_cons, List.all_nil, Bool.and_true, Bool.and_eq_true] at h1 ⊢
        exact h1.2.2.2.2.2.2.2.2
      have h8 : ¬ (k : Int) ≤ 8 := by omega
      clear hlen h1 h2 hs hrow hb
      go_wp2_with (first
        | ((with_reducible refine at_load 39 _ rfl ?_); (first | refine own_load1 M 39 _ rfl rfl _ _ rfl 0 rfl Tryz.underlying39 rfl rfl ?_ | refine own_load1 M 39 _ rfl rfl _ _ rfl 1 rfl Tryz.underlying39 rfl rfl ?_ | refine own_load1 M 39 _ rfl rfl _ _ rfl 2 rfl Tryz.underlying39 rfl rfl ?_ | refine own_load1 M 39 _ rfl rfl _ _ rfl 3 rfl Tryz.underlying39 rfl rfl ?_ | refine own_load1 M 39 _ rfl rfl _ _ rfl 4 rfl Tryz.underlying39 rfl rfl ?_); try simp only [Act.put, List.setIfInBounds_toArray, List.set_cons_zero, List.set_cons_succ])
        | ((with_reducible refine at_load 32 _ rfl ?_); (first | refine own_loadN M 32 _ rfl rfl _ _ rfl 0 rfl Tryz.underlying32 rfl 18 infoDe (Nat.le_of_ble_eq_true rfl) ?_ | refine own_loadN M 32 _ rfl rfl _ _ rfl 1 rfl Tryz.underlying32 rfl 18 infoDe (Nat.le_of_ble_eq_true rfl) ?_ | refine own_loadN M 32 _ rfl rfl _ _ rfl 2 rfl Tryz.underlying32 rfl 18 infoDe (Nat.le_of_ble_eq_true rfl) ?_ | refine own_loadN M 32 _ rfl rfl _ _ rfl 3 rfl Tryz.underlying32 rfl 18 infoDe (Nat.le_of_ble_eq_true rfl) ?_ | refine own_loadN M 32 _ rfl rfl _ _ rfl 4 rfl Tryz.underlying32 rfl 18 infoDe (Nat.le_of_ble_eq_true rfl) ?_); simp only [List.drop_succ_cons, List.drop_zero, List.take_succ_cons, List.take_zero]; try simp only [Act.put, List.setIfInBounds_toArray, List.set_cons_zero, List.set_cons_succ])
        | ((with_reducible refine at_alloc 32 rfl ?_); refine own_alloc M 32 rfl rfl zeroDe rfl ?_; clear M; intro g w M; try simp only [Act.put, List.setIfInBounds_toArray, List.set_cons_zero, List.set_cons_succ])
        | ((with_reducible refine at_store 32 _ (.tmp _) rfl ?_); refine own_storeT M 32 _ _ rfl rfl _ _ rfl rfl rfl 0 rfl infoDe h3 (Nat.le_of_ble_eq_true rfl) ?_; clear M; intro w M; simp only [List.set_cons_zero, List.set_cons_succ, List.drop_succ_cons, List.drop_zero, List.take_succ_cons, List.take_zero, List.cons_append, List.nil_append, List.append_nil, List.length_cons, List.length_nil, Nat.zero_add, Nat.reduceAdd, List.drop_nil] at M)
        | (refine own_region M (by kernel_rfl) (by kernel_rfl) ?_)
        | ((with_reducible refine atq_guard (_, _) rfl ?_); (refine ownq_guard rfl rfl rfl ?_ ?_ <;> (intro hc; (try simp only [Bool.not_true, Bool.not_false, Bool.not_eq_true', Bool.not_eq_false', reduceCtorEq] at hc); (try simp only [hc, Bool.not_true, Bool.not_false]))); try simp only [Act.put, List.setIfInBounds_toArray, List.set_cons_zero, List.set_cons_succ])
        | ((with_reducible refine atq_load 39 _ rfl ?_); (first | refine ownq_load1 39 _ rfl rfl _ _ rfl 0 rfl Tryz.underlying39 rfl rfl ?_ | refine ownq_load1 39 _ rfl rfl _ _ rfl 1 rfl Tryz.underlying39 rfl rfl ?_ | refine ownq_load1 39 _ rfl rfl _ _ rfl 2 rfl Tryz.underlying39 rfl rfl ?_ | refine ownq_load1 39 _ rfl rfl _ _ rfl 3 rfl Tryz.underlying39 rfl rfl ?_); try simp only [Act.put, List.setIfInBounds_toArray, List.set_cons_zero, List.set_cons_succ])
        | (refine wpQuiet_nil ?_; clear M; intro w M)
        | (refine ownq_pure rfl ?_; apply Exists.intro; refine ⟨?_, ?_⟩; focus (intro w hw; first | (go_simp; done) | (go_simp; rfl)); try simp only [Act.put, List.setIfInBounds_toArray, List.set_cons_zero, List.set_cons_succ]))
      go_ret
      exact ⟨rfl, M.below⟩
end Go.Proofs.YtegdomkgppddeaaGreatDoor
