/- understudyref1.Dec, understudyref1.KeyOf, keys.Of, mop.Truth, values.Truth as contracts of the symbolic run. -/
import Derived.Test.YtegdomkgppddeaaGreatDoorUxIt
import Derived.Test.YtegdomkgppddeaaGreatDoorUxDec
namespace Go.Proofs.YtegdomkgppddeaaGreatDoor
open Go.Sx Go.RowKit
set_option maxRecDepth 100000
def isOne (v : SV) : Option (List (SV × St)) → Bool
  | some [(u, _)] => SV.beq u v
  | _ => false
theorem one_of_run {P : Program} {C : Contracts} (hC : ContractsOk P C) {n : Nat} {f : FuncId} {args : List SV} {v : SV} {asm : Asm} (h : isOne v ((fk P C n).call f args { asm := asm }).outs = true) {E : Env} (hE : ∀ id, E.blk id = none) (ha : AsmOk E asm) {ARGS : List Value} (hA : SV.denL E args = some ARGS) (w : World) (hq : QQ E w) {V : Value} (hV : v.den E = some V) (hv : ∀ id, E.fv id = none := by intro; rfl) (hk : ∀ k, E.kp k = none := by intro; rfl) :
    Calls P f ARGS.toArray w fun e w' => e = .returned V ∧ Below w.heap.size w w' := by
  cases ho : ((fk P C n).call f args { asm := asm }).outs with
  | none => rw [ho] at h; cases h
  | some outs =>
    rw [ho] at h
    refine ((fk_ok hC n).fs.call f args _ outs ho w E w ARGS hA (Rel.start E w asm hE ha hq hv hk)).mono fun e w' he => ?_
    obtain ⟨u, s', E', U, h1, h2, h3, rfl, h5⟩ := he
    match outs, h with
    | [(u', _)], h =>
      obtain ⟨rfl, -⟩ : u = u' ∧ s' = _ := by simpa using h1
      have := SV.beq_eq _ _ h
      subst this
      rw [SV.mono h2 hV] at h3
      cases h3
      exact ⟨rfl, h5.below⟩
/-! ### Dec -/
def decG : List SV → St → Option (List (SV × St))
  | [.int .i64 (.var 1)], s => some [(.str (.var 1), s)]
  | _, _ => none
def decC (C : Contracts) : Contracts := fun f => match Nat.beq f 121 with
  | true => some decG
  | false => C f
theorem decC_ok {C : Contracts} (hC : ContractsOk Tryz.prog C) : ContractsOk Tryz.prog (decC C) := by
  intro f g hg args s outs h
  unfold decC at hg
  split at hg
  · rename_i hf
    cases hg
    have := Nat.eq_of_beq_eq_true hf
    subst this
    intro w0 E w ARGS hA R
    unfold decG at h
    split at h
    · cases h
      obtain ⟨-, ⟨k0, x, s0, -, hx, -, ⟨h0, h1⟩, hs, -, -, -⟩, -, -, -⟩ := QQ.below R.below R.qq
      simp [SV.denL, SV.den, IX.den, hx] at hA
      subst hA
      refine (dec_calls x h0 h1 w).mono fun e w' he => ?_
      obtain ⟨rfl, hB⟩ := he
      exact ⟨.str (.var 1), s, E, .string _, List.mem_singleton.2 rfl, .refl E, by simp [SV.den, SX.den, hs], rfl, R.grownY hB⟩
    · cases h
  · exact hC f g hg args s outs h
/-! ### keys -/
def cK : Contracts := itC (decC noC)
theorem cK_ok : ContractsOk Tryz.prog cK := itC_ok (decC_ok (noC_ok _))
def keyArgs (k : IX) : List SV := [.agg [.int .i64 k, .int .i64 (.var 1), .str (.var 0)]]
def keyV (s : SX) (n : IX) (b : Bool) : SV := .tup [.agg [.str s, .int .i64 n], .bool (.lit b)]
noncomputable def keyRun (f : Nat) (k : IX) (asm : Asm) (s : SX) (n : IX) (b : Bool) : Bool := isOne (keyV s n b) ((fk Tryz.prog cK 300).call f (keyArgs k) { asm := asm }).outs
theorem key_o_0 : keyRun 37 (.lit 0) [] (.lit 9 1851983302504732716661) (.lit 0) true = true := by kernel_rfl
theorem key_o_1 : keyRun 37 (.lit 1) [] (.lit 4 1819047278) (.lit 0) true = true := by kernel_rfl
theorem key_o_2t : keyRun 37 (.lit 2) [(.ieq (.var 1) (.lit 0), true)] (.lit 5 435728179558) (.lit 0) true = true := by kernel_rfl
theorem key_o_2f : keyRun 37 (.lit 2) [(.ieq (.var 1) (.lit 0), false)] (.lit 4 1702195828) (.lit 0) true = true := by kernel_rfl
theorem key_o_3 : keyRun 37 (.lit 3) [] (.var 1) (.lit 0) true = true := by kernel_rfl
theorem key_o_4 : keyRun 37 (.lit 4) [] (.var 0) (.lit 0) true = true := by kernel_rfl
theorem key_o_5 : keyRun 37 (.lit 5) [] (.lit 0 0) (.var 1) true = true := by kernel_rfl
theorem key_o_6 : keyRun 37 (.lit 6) [] (.lit 0 0) (.lit 0) false = true := by kernel_rfl
theorem key_o_l : keyRun 37 (.var 0) [(.ilt (.var 0) (.lit 0), true)] (.lit 0 0) (.lit 0) false = true := by kernel_rfl
theorem key_o_h : keyRun 37 (.var 0) [(.ilt (.lit 6) (.var 0), true)] (.lit 0 0) (.lit 0) false = true := by kernel_rfl
theorem key_k_0 : keyRun 80 (.lit 0) [] (.lit 9 1851983302504732716661) (.lit 0) true = true := by kernel_rfl
theorem key_k_1 : keyRun 80 (.lit 1) [] (.lit 4 1819047278) (.lit 0) true = true := by kernel_rfl
theorem key_k_2t : keyRun 80 (.lit 2) [(.ieq (.var 1) (.lit 0), true)] (.lit 5 435728179558) (.lit 0) true = true := by kernel_rfl
theorem key_k_2f : keyRun 80 (.lit 2) [(.ieq (.var 1) (.lit 0), false)] (.lit 4 1702195828) (.lit 0) true = true := by kernel_rfl
theorem key_k_3 : keyRun 80 (.lit 3) [] (.var 1) (.lit 0) true = true := by kernel_rfl
theorem key_k_4 : keyRun 80 (.lit 4) [] (.var 0) (.lit 0) true = true := by kernel_rfl
theorem key_k_5 : keyRun 80 (.lit 5) [] (.lit 0 0) (.var 1) true = true := by kernel_rfl
theorem key_k_6 : keyRun 80 (.lit 6) [] (.lit 0 0) (.lit 0) false = true := by kernel_rfl
theorem key_k_l : keyRun 80 (.var 0) [(.ilt (.var 0) (.lit 0), true)] (.lit 0 0) (.lit 0) false = true := by kernel_rfl
theorem key_k_h : keyRun 80 (.var 0) [(.ilt (.lit 6) (.var 0), true)] (.lit 0 0) (.lit 0) false = true := by kernel_rfl
def keyVal (x n : Int) (s : ByteArray) : Value := .tuple #[.agg #[.string (keyStr x n s), .int .i64 (keySym x n)], .bool (keyIs x)]
def kEnv (x n : Int) (s : ByteArray) : Env := { ints := [x, n, keySym x n, 0, 0, 0, 0, 0, 0, 0, 0, 0], strs := [s, numeral n, keyStr x n s], bools := [keyIs x, false, false, false] }
theorem kEnv_qq {x n : Int} {s : ByteArray} (h0 : -9223372036854775808 ≤ n) (h1 : n ≤ 9223372036854775807) {w : World} (ht : ∃ ty fr, w.heap[3]? = some (.cells pow10V ty fr)) : QQ (kEnv x n s) w :=
  ⟨ht, ⟨x, n, s, rfl, rfl, rfl, ⟨h0, h1⟩, rfl, rfl, rfl, rfl⟩, ⟨false, rfl, rfl⟩, ⟨false, rfl, rfl⟩, ⟨false, rfl, rfl⟩⟩
theorem keyRun_ok {f : Nat} {k : IX} {asm : Asm} {s : SX} {m : IX} {b : Bool} (h : keyRun f k asm s m b = true) {x n : Int} {t : ByteArray} (hk : k.den (kEnv x n t) = some x) (ha : AsmOk (kEnv x n t) asm) (h0 : -9223372036854775808 ≤ n) (h1 : n ≤ 9223372036854775807) {w : World} (ht : ∃ ty fr, w.heap[3]? = some (.cells pow10V ty fr))
    (hs : s.den (kEnv x n t) = some (keyStr x n t)) (hm : m.den (kEnv x n t) = some (keySym x n)) (hb : b = keyIs x) :
    Calls Tryz.prog f #[.agg #[.int .i64 x, .int .i64 n, .string t]] w fun e w' => e = .returned (keyVal x n t) ∧ Below w.heap.size w w' := by
  subst hb
  exact one_of_run cK_ok h (E := kEnv x n t) (fun _ => rfl) ha (ARGS := [.agg #[.int .i64 x, .int .i64 n, .string t]]) (by
    have e : (IX.var 1).den (kEnv x n t) = some n := rfl
    have e' : (SX.var 0).den (kEnv x n t) = some t := rfl
    simp [keyArgs, SV.denL, SV.den, hk, e, e']) w (kEnv_qq h0 h1 ht) (by simp [keyV, keyVal, SV.den, SV.denL, hs, hm, BX.den])
theorem asm0 {E : Env} : AsmOk E [] := fun c v hm => by cases hm
theorem asm1 {E : Env} {c : BX} {v : Bool} (h : c.den E = some v) : AsmOk E [(c, v)] := fun c' v' hm => by
  rcases List.mem_cons.1 hm with e | hm
  · cases e; exact h
  · cases hm
theorem key_of_runs {f : Nat}
    (r0 : keyRun f (.lit 0) [] (.lit 9 1851983302504732716661) (.lit 0) true = true)
    (r1 : keyRun f (.lit 1) [] (.lit 4 1819047278) (.lit 0) true = true)
    (r2t : keyRun f (.lit 2) [(.ieq (.var 1) (.lit 0), true)] (.lit 5 435728179558) (.lit 0) true = true)
    (r2f : keyRun f (.lit 2) [(.ieq (.var 1) (.lit 0), false)] (.lit 4 1702195828) (.lit 0) true = true)
    (r3 : keyRun f (.lit 3) [] (.var 1) (.lit 0) true = true)
    (r4 : keyRun f (.lit 4) [] (.var 0) (.lit 0) true = true)
    (r5 : keyRun f (.lit 5) [] (.lit 0 0) (.var 1) true = true)
    (r6 : keyRun f (.lit 6) [] (.lit 0 0) (.lit 0) false = true)
    (rl : keyRun f (.var 0) [(.ilt (.var 0) (.lit 0), true)] (.lit 0 0) (.lit 0) false = true)
    (rh : keyRun f (.var 0) [(.ilt (.lit 6) (.var 0), true)] (.lit 0 0) (.lit 0) false = true)
    (x n : Int) (t : ByteArray) (h0 : -9223372036854775808 ≤ n) (h1 : n ≤ 9223372036854775807) {w : World} (ht : ∃ ty fr, w.heap[3]? = some (.cells pow10V ty fr)) :
    Calls Tryz.prog f #[.agg #[.int .i64 x, .int .i64 n, .string t]] w fun e w' => e = .returned (keyVal x n t) ∧ Below w.heap.size w w' := by
  have e0 : (kEnv x n t).ints[0]? = some x := rfl
  have e1 : (kEnv x n t).ints[1]? = some n := rfl
  by_cases cl : x < 0
  · refine keyRun_ok rl rfl (asm1 ?_) h0 h1 ht ?_ ?_ ?_
    · simp [BX.den, IX.den, e0, cl]
    · simp only [keyStr, SX.den]; rw [if_neg (by omega), if_neg (by omega), if_neg (by omega), if_neg (by omega), if_neg (by omega)]
    · simp only [keySym, IX.den]; rw [if_neg (by omega)]
    · simp only [keyIs]; exact (decide_eq_false (by omega)).symm
  by_cases ch : 6 < x
  · refine keyRun_ok rh rfl (asm1 ?_) h0 h1 ht ?_ ?_ ?_
    · simp [BX.den, IX.den, e0, ch]
    · simp only [keyStr, SX.den]; rw [if_neg (by omega), if_neg (by omega), if_neg (by omega), if_neg (by omega), if_neg (by omega)]
    · simp only [keySym, IX.den]; rw [if_neg (by omega)]
    · simp only [keyIs]; exact (decide_eq_false (by omega)).symm
  have hc : x = 0 ∨ x = 1 ∨ x = 2 ∨ x = 3 ∨ x = 4 ∨ x = 5 ∨ x = 6 := by omega
  rcases hc with rfl | rfl | rfl | rfl | rfl | rfl | rfl
  · exact keyRun_ok r0 rfl asm0 h0 h1 ht rfl rfl rfl
  · exact keyRun_ok r1 rfl asm0 h0 h1 ht rfl rfl rfl
  · by_cases c : n = 0
    · refine keyRun_ok r2t rfl (asm1 ?_) h0 h1 ht ?_ rfl rfl
      · simp only [BX.den, IX.den, e1]; simp [c]
      · subst c; rfl
    · refine keyRun_ok r2f rfl (asm1 ?_) h0 h1 ht ?_ rfl rfl
      · simp only [BX.den, IX.den, e1]; simp [c]
      · simp [keyStr, SX.den, c]
  · exact keyRun_ok r3 rfl asm0 h0 h1 ht rfl rfl rfl
  · exact keyRun_ok r4 rfl asm0 h0 h1 ht rfl rfl rfl
  · exact keyRun_ok r5 rfl asm0 h0 h1 ht rfl rfl rfl
  · exact keyRun_ok r6 rfl asm0 h0 h1 ht rfl rfl rfl
def keyG : List SV → St → Option (List (SV × St))
  | [.agg [.int .i64 (.var 0), .int .i64 (.var 1), .str (.var 0)]], s => some [(.tup [.agg [.str (.var 2), .int .i64 (.var 2)], .bool (.var 0)], s)]
  | _, _ => none
theorem keyG_ok {f : Nat} (hf : ∀ (x n : Int) (t : ByteArray) (_ : -9223372036854775808 ≤ n) (_ : n ≤ 9223372036854775807) {w : World} (_ : ∃ ty fr, w.heap[3]? = some (.cells pow10V ty fr)), Calls Tryz.prog f #[.agg #[.int .i64 x, .int .i64 n, .string t]] w fun e w' => e = .returned (keyVal x n t) ∧ Below w.heap.size w w') {args : List SV} {s : St} {outs : List (SV × St)} (h : keyG args s = some outs) : CallOk Tryz.prog f args s outs := by
  intro w0 E w ARGS hA R
  unfold keyG at h
  split at h
  · cases h
    obtain ⟨ht, ⟨x, n, t, q0, q1, q2, ⟨h0, h1⟩, q3, q4, q5, q6⟩, -, -, -⟩ := QQ.below R.below R.qq
    simp [SV.denL, SV.den, IX.den, SX.den, q0, q1, q2] at hA
    subst hA
    refine (hf x n t h0 h1 ht).mono fun e w' he => ?_
    obtain ⟨rfl, hB⟩ := he
    exact ⟨_, s, E, keyVal x n t, List.mem_singleton.2 rfl, .refl E, by simp [keyVal, SV.den, SV.denL, IX.den, SX.den, BX.den, q4, q5, q6], rfl, R.grownY hB⟩
  · cases h
def keyC (C : Contracts) : Contracts := fun f => match Nat.beq f 37 with
  | true => some keyG
  | false => match Nat.beq f 80 with
    | true => some keyG
    | false => C f
theorem keyC_ok {C : Contracts} (hC : ContractsOk Tryz.prog C) : ContractsOk Tryz.prog (keyC C) := by
  intro f g hg args s outs h
  unfold keyC at hg
  split at hg
  · rename_i hf
    cases hg
    have := Nat.eq_of_beq_eq_true hf
    subst this
    exact keyG_ok (key_of_runs key_o_0 key_o_1 key_o_2t key_o_2f key_o_3 key_o_4 key_o_5 key_o_6 key_o_l key_o_h) h
  · split at hg
    · rename_i hf
      cases hg
      have := Nat.eq_of_beq_eq_true hf
      subst this
      exact keyG_ok (key_of_runs key_k_0 key_k_1 key_k_2t key_k_2f key_k_3 key_k_4 key_k_5 key_k_6 key_k_l key_k_h) h
    · exact hC f g hg args s outs h
/-! ### truth -/
theorem zEnv_qq {w : World} (ht : ∃ ty fr, w.heap[3]? = some (.cells pow10V ty fr)) : QQ (kEnv 0 0 (txt 0 0)) w := kEnv_qq (by omega) (by omega) ht
def bV (n : IX) : SV := .agg [.int .i64 (.lit 2), .int .i64 n, .str (.lit 0 0)]
abbrev bVal (t : Bool) : Value := .agg #[.int .i64 2, .int .i64 (b2i t), .string (txt 0 0)]
theorem tr_run1 : isOne (bV (.lit 1)) ((fk Tryz.prog noC 50).call 90 [.bool (.lit true)] { asm := [] }).outs = true := by kernel_rfl
theorem tr_run0 : isOne (bV (.lit 0)) ((fk Tryz.prog noC 50).call 90 [.bool (.lit false)] { asm := [] }).outs = true := by kernel_rfl
theorem vt_run1 : isOne (.bool (.lit true)) ((fk Tryz.prog noC 50).call 168 [bV (.lit 1)] { asm := [] }).outs = true := by kernel_rfl
theorem vt_run0 : isOne (.bool (.lit false)) ((fk Tryz.prog noC 50).call 168 [bV (.lit 0)] { asm := [] }).outs = true := by kernel_rfl
theorem tr_calls (t : Bool) {w : World} (ht : ∃ ty fr, w.heap[3]? = some (.cells pow10V ty fr)) : Calls Tryz.prog 90 #[.bool t] w fun e w' => e = .returned (bVal t) ∧ Below w.heap.size w w' := by
  cases t with
  | true => exact one_of_run (noC_ok _) tr_run1 (fun _ => rfl) asm0 (ARGS := [.bool true]) (by simp [SV.denL, SV.den, BX.den]) w (zEnv_qq ht) (by simp [bV, SV.den, SV.denL, IX.den, SX.den, b2i])
  | false => exact one_of_run (noC_ok _) tr_run0 (fun _ => rfl) asm0 (ARGS := [.bool false]) (by simp [SV.denL, SV.den, BX.den]) w (zEnv_qq ht) (by simp [bV, SV.den, SV.denL, IX.den, SX.den, b2i])
theorem vt_calls (t : Bool) {w : World} (ht : ∃ ty fr, w.heap[3]? = some (.cells pow10V ty fr)) : Calls Tryz.prog 168 #[bVal t] w fun e w' => e = .returned (.bool t) ∧ Below w.heap.size w w' := by
  cases t with
  | true => exact one_of_run (noC_ok _) vt_run1 (fun _ => rfl) asm0 (ARGS := [bVal true]) (by simp [bV, SV.denL, SV.den, IX.den, SX.den, b2i]) w (zEnv_qq ht) (by simp [SV.den, BX.den])
  | false => exact one_of_run (noC_ok _) vt_run0 (fun _ => rfl) asm0 (ARGS := [bVal false]) (by simp [bV, SV.denL, SV.den, IX.den, SX.den, b2i]) w (zEnv_qq ht) (by simp [SV.den, BX.den])
noncomputable def trG : List SV → St → Option (List (SV × St))
  | [.bool (.var 1)], s => some [(bV (.var 9), s)]
  | [.bool (.var 2)], s => some [(bV (.var 10), s)]
  | [.bool (.var 3)], s => some [(bV (.var 11), s)]
  | args, s => ((fk Tryz.prog noC 50).call 90 args s).outs
noncomputable def vtG : List SV → St → Option (List (SV × St))
  | [.agg [.int .i64 (.lit 2), .int .i64 (.var 9), .str (.lit 0 0)]], s => some [(.bool (.var 1), s)]
  | [.agg [.int .i64 (.lit 2), .int .i64 (.var 10), .str (.lit 0 0)]], s => some [(.bool (.var 2), s)]
  | [.agg [.int .i64 (.lit 2), .int .i64 (.var 11), .str (.lit 0 0)]], s => some [(.bool (.var 3), s)]
  | args, s => ((fk Tryz.prog noC 50).call 168 args s).outs
noncomputable def truthC (C : Contracts) : Contracts := fun f => match Nat.beq f 90 with
  | true => some trG
  | false => match Nat.beq f 168 with
    | true => some vtG
    | false => C f
theorem tr_one {k n : Nat} {s : St} (hk : ∀ (E : Env) (w : World), QQ E w → ∃ t, E.bools[k]? = some t ∧ E.ints[n]? = some (b2i t)) : CallOk Tryz.prog 90 [.bool (.var k)] s [(bV (.var n), s)] := by
  intro w0 E w ARGS hA R
  have hq := QQ.below R.below R.qq
  obtain ⟨t, h1, h2⟩ := hk E w hq
  simp [SV.denL, SV.den, BX.den, h1] at hA
  subst hA
  refine (tr_calls t hq.tab).mono fun e w' he => ?_
  obtain ⟨rfl, hB⟩ := he
  exact ⟨bV (.var n), s, E, _, List.mem_singleton.2 rfl, .refl E, by simp [bV, SV.den, SV.denL, IX.den, SX.den, h2], rfl, R.grownY hB⟩
theorem vt_one {k n : Nat} {s : St} (hk : ∀ (E : Env) (w : World), QQ E w → ∃ t, E.bools[k]? = some t ∧ E.ints[n]? = some (b2i t)) : CallOk Tryz.prog 168 [.agg [.int .i64 (.lit 2), .int .i64 (.var n), .str (.lit 0 0)]] s [(.bool (.var k), s)] := by
  intro w0 E w ARGS hA R
  have hq := QQ.below R.below R.qq
  obtain ⟨t, h1, h2⟩ := hk E w hq
  simp [SV.denL, SV.den, IX.den, SX.den, h2] at hA
  subst hA
  refine (vt_calls t hq.tab).mono fun e w' he => ?_
  obtain ⟨rfl, hB⟩ := he
  exact ⟨.bool (.var k), s, E, _, List.mem_singleton.2 rfl, .refl E, by simp [SV.den, BX.den, h1], rfl, R.grownY hB⟩
theorem truthC_ok {C : Contracts} (hC : ContractsOk Tryz.prog C) : ContractsOk Tryz.prog (truthC C) := by
  intro f g hg args s outs h
  unfold truthC at hg
  split at hg
  · rename_i hf
    cases hg
    have := Nat.eq_of_beq_eq_true hf
    subst this
    unfold trG at h
    split at h
    · cases h; exact tr_one fun E w q => q.b1
    · cases h; exact tr_one fun E w q => q.b2
    · cases h; exact tr_one fun E w q => q.b3
    · exact (fk_ok (noC_ok _) 50).fs.call _ _ _ _ h
  · split at hg
    · rename_i hf
      cases hg
      have := Nat.eq_of_beq_eq_true hf
      subst this
      unfold vtG at h
      split at h
      · cases h; exact vt_one fun E w q => q.b1
      · cases h; exact vt_one fun E w q => q.b2
      · cases h; exact vt_one fun E w q => q.b3
      · exact (fk_ok (noC_ok _) 50).fs.call _ _ _ _ h
    · exact hC f g hg args s outs h
end Go.Proofs.YtegdomkgppddeaaGreatDoor
