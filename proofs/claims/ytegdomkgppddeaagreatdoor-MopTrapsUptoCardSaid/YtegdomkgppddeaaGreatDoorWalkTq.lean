/- MopTraps: every call of it returns true. -/
import Derived.Test.YtegdomkgppddeaaGreatDoorTqM
import Derived.Test.YtegdomkgppddeaaGreatDoorTqN
import Derived.Test.YtegdomkgppddeaaGreatDoorTqO
import Derived.Test.YtegdomkgppddeaaGreatDoorTqP
import Derived.Test.YtegdomkgppddeaaGreatDoorTqA
import Derived.Test.YtegdomkgppddeaaGreatDoorTqB
import Derived.Test.YtegdomkgppddeaaGreatDoorTqC
import Derived.Test.YtegdomkgppddeaaGreatDoorTqD
import Derived.Test.YtegdomkgppddeaaGreatDoorTqE
import Derived.Test.YtegdomkgppddeaaGreatDoorTqF
import Derived.Test.YtegdomkgppddeaaGreatDoorTqG
import Derived.Test.YtegdomkgppddeaaGreatDoorTqH
import Derived.Test.YtegdomkgppddeaaGreatDoorTqI
import Derived.Test.YtegdomkgppddeaaGreatDoorTqJ
import Derived.Test.YtegdomkgppddeaaGreatDoorTqK
import Derived.Test.YtegdomkgppddeaaGreatDoorTqL
namespace Go.Proofs.YtegdomkgppddeaaGreatDoor
open Go.Sx Go.RowKit
set_option maxRecDepth 100000
set_option linter.unusedSimpArgs false
theorem tpm_12 : ∀ c, 1 ≤ c → c < 10 → tRun 12 c = true
  | 0, h, _ => by omega
  | 1, _, _ => tp_12_1
  | 2, _, _ => tp_12_2
  | 3, _, _ => tp_12_3
  | 4, _, _ => tp_12_4
  | 5, _, _ => tp_12_5
  | 6, _, _ => tp_12_6
  | 7, _, _ => tp_12_7
  | 8, _, _ => tp_12_8
  | 9, _, _ => tp_12_9
  | c + 10, _, h => by omega
theorem tpm_13 : ∀ c, 1 ≤ c → c < 10 → tRun 13 c = true
  | 0, h, _ => by omega
  | 1, _, _ => tp_13_1
  | 2, _, _ => tp_13_2
  | 3, _, _ => tp_13_3
  | 4, _, _ => tp_13_4
  | 5, _, _ => tp_13_5
  | 6, _, _ => tp_13_6
  | 7, _, _ => tp_13_7
  | 8, _, _ => tp_13_8
  | 9, _, _ => tp_13_9
  | c + 10, _, h => by omega
theorem dpm : ∀ h0 h1 h2 h3 h4 h5 q, dRun h0 h1 h2 h3 h4 h5 q = true
  | false, false, false, false, false, false, false => dp_000000_0
  | false, false, false, false, false, false, true => dp_000000_1
  | false, false, false, false, false, true, false => dp_000001_0
  | false, false, false, false, false, true, true => dp_000001_1
  | false, false, false, false, true, false, false => dp_000010_0
  | false, false, false, false, true, false, true => dp_000010_1
  | false, false, false, false, true, true, false => dp_000011_0
  | false, false, false, false, true, true, true => dp_000011_1
  | false, false, false, true, false, false, false => dp_000100_0
  | false, false, false, true, false, false, true => dp_000100_1
  | false, false, false, true, false, true, false => dp_000101_0
  | false, false, false, true, false, true, true => dp_000101_1
  | false, false, false, true, true, false, false => dp_000110_0
  | false, false, false, true, true, false, true => dp_000110_1
  | false, false, false, true, true, true, false => dp_000111_0
  | false, false, false, true, true, true, true => dp_000111_1
  | false, false, true, false, false, false, false => dp_001000_0
  | false, false, true, false, false, false, true => dp_001000_1
  | false, false, true, false, false, true, false => dp_001001_0
  | false, false, true, false, false, true, true => dp_001001_1
  | false, false, true, false, true, false, false => dp_001010_0
  | false, false, true, false, true, false, true => dp_001010_1
  | false, false, true, false, true, true, false => dp_001011_0
  | false, false, true, false, true, true, true => dp_001011_1
  | false, false, true, true, false, false, false => dp_001100_0
  | false, false, true, true, false, false, true => dp_001100_1
  | false, false, true, true, false, true, false => dp_001101_0
  | false, false, true, true, false, true, true => dp_001101_1
  | false, false, true, true, true, false, false => dp_001110_0
  | false, false, true, true, true, false, true => dp_001110_1
  | false, false, true, true, true, true, false => dp_001111_0
  | false, false, true, true, true, true, true => dp_001111_1
  | false, true, false, false, false, false, false => dp_010000_0
  | false, true, false, false, false, false, true => dp_010000_1
  | false, true, false, false, false, true, false => dp_010001_0
  | false, true, false, false, false, true, true => dp_010001_1
  | false, true, false, false, true, false, false => dp_010010_0
  | false, true, false, false, true, false, true => dp_010010_1
  | false, true, false, false, true, true, false => dp_010011_0
  | false, true, false, false, true, true, true => dp_010011_1
  | false, true, false, true, false, false, false => dp_010100_0
  | false, true, false, true, false, false, true => dp_010100_1
  | false, true, false, true, false, true, false => dp_010101_0
  | false, true, false, true, false, true, true => dp_010101_1
  | false, true, false, true, true, false, false => dp_010110_0
  | false, true, false, true, true, false, true => dp_010110_1
  | false, true, false, true, true, true, false => dp_010111_0
  | false, true, false, true, true, true, true => dp_010111_1
  | false, true, true, false, false, false, false => dp_011000_0
  | false, true, true, false, false, false, true => dp_011000_1
  | false, true, true, false, false, true, false => dp_011001_0
  | false, true, true, false, false, true, true => dp_011001_1
  | false, true, true, false, true, false, false => dp_011010_0
  | false, true, true, false, true, false, true => dp_011010_1
  | false, true, true, false, true, true, false => dp_011011_0
  | false, true, true, false, true, true, true => dp_011011_1
  | false, true, true, true, false, false, false => dp_011100_0
  | false, true, true, true, false, false, true => dp_011100_1
  | false, true, true, true, false, true, false => dp_011101_0
  | false, true, true, true, false, true, true => dp_011101_1
  | false, true, true, true, true, false, false => dp_011110_0
  | false, true, true, true, true, false, true => dp_011110_1
  | false, true, true, true, true, true, false => dp_011111_0
  | false, true, true, true, true, true, true => dp_011111_1
  | true, false, false, false, false, false, false => dp_100000_0
  | true, false, false, false, false, false, true => dp_100000_1
  | true, false, false, false, false, true, false => dp_100001_0
  | true, false, false, false, false, true, true => dp_100001_1
  | true, false, false, false, true, false, false => dp_100010_0
  | true, false, false, false, true, false, true => dp_100010_1
  | true, false, false, false, true, true, false => dp_100011_0
  | true, false, false, false, true, true, true => dp_100011_1
  | true, false, false, true, false, false, false => dp_100100_0
  | true, false, false, true, false, false, true => dp_100100_1
  | true, false, false, true, false, true, false => dp_100101_0
  | true, false, false, true, false, true, true => dp_100101_1
  | true, false, false, true, true, false, false => dp_100110_0
  | true, false, false, true, true, false, true => dp_100110_1
  | true, false, false, true, true, true, false => dp_100111_0
  | true, false, false, true, true, true, true => dp_100111_1
  | true, false, true, false, false, false, false => dp_101000_0
  | true, false, true, false, false, false, true => dp_101000_1
  | true, false, true, false, false, true, false => dp_101001_0
  | true, false, true, false, false, true, true => dp_101001_1
  | true, false, true, false, true, false, false => dp_101010_0
  | true, false, true, false, true, false, true => dp_101010_1
  | true, false, true, false, true, true, false => dp_101011_0
  | true, false, true, false, true, true, true => dp_101011_1
  | true, false, true, true, false, false, false => dp_101100_0
  | true, false, true, true, false, false, true => dp_101100_1
  | true, false, true, true, false, true, false => dp_101101_0
  | true, false, true, true, false, true, true => dp_101101_1
  | true, false, true, true, true, false, false => dp_101110_0
  | true, false, true, true, true, false, true => dp_101110_1
  | true, false, true, true, true, true, false => dp_101111_0
  | true, false, true, true, true, true, true => dp_101111_1
  | true, true, false, false, false, false, false => dp_110000_0
  | true, true, false, false, false, false, true => dp_110000_1
  | true, true, false, false, false, true, false => dp_110001_0
  | true, true, false, false, false, true, true => dp_110001_1
  | true, true, false, false, true, false, false => dp_110010_0
  | true, true, false, false, true, false, true => dp_110010_1
  | true, true, false, false, true, true, false => dp_110011_0
  | true, true, false, false, true, true, true => dp_110011_1
  | true, true, false, true, false, false, false => dp_110100_0
  | true, true, false, true, false, false, true => dp_110100_1
  | true, true, false, true, false, true, false => dp_110101_0
  | true, true, false, true, false, true, true => dp_110101_1
  | true, true, false, true, true, false, false => dp_110110_0
  | true, true, false, true, true, false, true => dp_110110_1
  | true, true, false, true, true, true, false => dp_110111_0
  | true, true, false, true, true, true, true => dp_110111_1
  | true, true, true, false, false, false, false => dp_111000_0
  | true, true, true, false, false, false, true => dp_111000_1
  | true, true, true, false, false, true, false => dp_111001_0
  | true, true, true, false, false, true, true => dp_111001_1
  | true, true, true, false, true, false, false => dp_111010_0
  | true, true, true, false, true, false, true => dp_111010_1
  | true, true, true, false, true, true, false => dp_111011_0
  | true, true, true, false, true, true, true => dp_111011_1
  | true, true, true, true, false, false, false => dp_111100_0
  | true, true, true, true, false, false, true => dp_111100_1
  | true, true, true, true, false, true, false => dp_111101_0
  | true, true, true, true, false, true, true => dp_111101_1
  | true, true, true, true, true, false, false => dp_111110_0
  | true, true, true, true, true, false, true => dp_111110_1
  | true, true, true, true, true, true, false => dp_111111_0
  | true, true, true, true, true, true, true => dp_111111_1
theorem qpm : ∀ m q, 1 ≤ m → m < 14 → m ≠ 6 → m ≠ 5 → (12 ≤ m → q = false) → qRun m q = true
  | 0, _, h, _, _, _, _ => by omega
  | 1, false, _, _, _, _, _ => qp_1_0
  | 1, true, _, _, _, _, _ => qp_1_1
  | 2, false, _, _, _, _, _ => qp_2_0
  | 2, true, _, _, _, _, _ => qp_2_1
  | 3, false, _, _, _, _, _ => qp_3_0
  | 3, true, _, _, _, _, _ => qp_3_1
  | 4, false, _, _, _, _, _ => qp_4_0
  | 4, true, _, _, _, _, _ => qp_4_1
  | 5, _, _, _, _, h, _ => (h rfl).elim
  | 6, _, _, _, h, _, _ => (h rfl).elim
  | 7, false, _, _, _, _, _ => qp_7_0
  | 7, true, _, _, _, _, _ => qp_7_1
  | 8, false, _, _, _, _, _ => qp_8_0
  | 8, true, _, _, _, _, _ => qp_8_1
  | 9, false, _, _, _, _, _ => qp_9_0
  | 9, true, _, _, _, _, _ => qp_9_1
  | 10, false, _, _, _, _, _ => qp_10_0
  | 10, true, _, _, _, _, _ => qp_10_1
  | 11, false, _, _, _, _, _ => qp_11_0
  | 11, true, _, _, _, _, _ => qp_11_1
  | 12, false, _, _, _, _, _ => qp_12_0
  | 12, true, _, _, _, _, h => by cases h (by omega)
  | 13, false, _, _, _, _, _ => qp_13_0
  | 13, true, _, _, _, _, h => by cases h (by omega)
  | m + 14, _, _, h, _, _, _ => by omega
theorem fpm : ∀ n q b, n < 6 → qRun5 n q b = true
  | 0, false, false, _ => fp_0_0_0
  | 0, false, true, _ => fp_0_0_1
  | 0, true, false, _ => fp_0_1_0
  | 0, true, true, _ => fp_0_1_1
  | 1, false, false, _ => fp_1_0_0
  | 1, false, true, _ => fp_1_0_1
  | 1, true, false, _ => fp_1_1_0
  | 1, true, true, _ => fp_1_1_1
  | 2, false, false, _ => fp_2_0_0
  | 2, false, true, _ => fp_2_0_1
  | 2, true, false, _ => fp_2_1_0
  | 2, true, true, _ => fp_2_1_1
  | 3, false, false, _ => fp_3_0_0
  | 3, false, true, _ => fp_3_0_1
  | 3, true, false, _ => fp_3_1_0
  | 3, true, true, _ => fp_3_1_1
  | 4, false, false, _ => fp_4_0_0
  | 4, false, true, _ => fp_4_0_1
  | 4, true, false, _ => fp_4_1_0
  | 4, true, true, _ => fp_4_1_1
  | 5, false, false, _ => fp_5_0_0
  | 5, false, true, _ => fp_5_0_1
  | 5, true, false, _ => fp_5_1_0
  | 5, true, true, _ => fp_5_1_1
  | n + 6, _, _, h => by omega
/-- The unknowns: of a list of which nothing is known, or of none. -/
def qEnv (x : Sk) (m n : Int) (q : Bool) : Env := match q with | true => oEnv x m n | false => aEnv x m n
theorem qOkN {m n : Int} {x : Sk} {i j : IX} {b0 b1 b2 b3 b4 b5 : BX} {q : Bool} {asm : Asm} {w : World} (h : allTrue ((fk Tryz.prog (cQ b0 b1 b2 b3 b4 b5 q) 3000).call 4 [.int .i64 i, .int .i64 j, .agg (askB b0 b1 b2 b3 b4 b5 (lSV q))] { asm := qAsm q asm }).outs = true) (hx : x.ok w) (hs : x.small 1048576) (hq : q = false ↔ x.l = .nil)
    (hi : i.den (qEnv x m n q) = some m) (hj : j.den (qEnv x m n q) = some n) (hb : Bits (qEnv x m n q) x b0 b1 b2 b3 b4 b5) (ha : AsmOk (qEnv x m n q) asm) :
    Calls Tryz.prog 4 #[.int .i64 m, .int .i64 n, x.val] w fun e w' => e = .returned (.bool true) ∧ Below w.heap.size w w' := by
  have hl := hx.2.2.2.2.1
  cases q with
  | true =>
    have hne : x.l ≠ .nil := fun e => by have := hq.2 e; cases this
    have hm : (SV.int .i64 i).den (oEnv x m n) = some (.int .i64 m) := by simp only [SV.den]; rw [show i.den (oEnv x m n) = some m from hi]
    have hn : (SV.int .i64 j).den (oEnv x m n) = some (.int .i64 n) := by simp only [SV.den]; rw [show j.den (oEnv x m n) = some n from hj]
    refine true_of_fast cQ_ok h (E := oEnv x m n) (fun _ => rfl) (fun c v hm => ?_) (ARGS := [.int .i64 m, .int .i64 n, x.val]) (denL_cons hm (denL_cons hn (denL_cons (oDen hb) (denL_nil _)))) w (oQQ hl hs hne)
    rcases List.mem_cons.1 hm with e | hm
    · cases e; rfl
    · rcases List.mem_append.1 hm with hm | hm
      · exact oSmall hs c v hm
      · exact ha c v hm
  | false =>
    have he : x.l = .nil := hq.1 rfl
    have hm : (SV.int .i64 i).den (aEnv x m n) = some (.int .i64 m) := by simp only [SV.den]; rw [show i.den (aEnv x m n) = some m from hi]
    have hn : (SV.int .i64 j).den (aEnv x m n) = some (.int .i64 n) := by simp only [SV.den]; rw [show j.den (aEnv x m n) = some n from hj]
    have hd := aDenB hb hl
    rw [he] at hd
    refine true_of_fast cQ_ok h (E := aEnv x m n) (fun id => ?_) (fun c v hm => ?_) (ARGS := [.int .i64 m, .int .i64 n, x.val]) (denL_cons hm (denL_cons hn (denL_cons hd (denL_nil _)))) w ⟨⟨_, rfl, rfl⟩, ⟨_, rfl, rfl⟩, ⟨_, rfl, rfl⟩, .inl rfl⟩
    · cases id with
      | zero => show x.l.blk = none; rw [he]; rfl
      | succ id => rfl
    · rcases List.mem_append.1 hm with hm | hm
      · refine aSmall hs c v ?_
        have : (x.l.cls - 1) = 0 := by rw [he]; rfl
        rw [this]
        exact hm
      · exact ha c v hm
theorem qBits {x : Sk} {m n : Int} {q : Bool} : Bits (qEnv x m n q) x (.var 0) (.var 1) (.var 2) (.var 3) (.var 4) (.var 5) := by cases q <;> exact ⟨rfl, rfl, rfl, rfl, rfl, rfl⟩
theorem qVar {x : Sk} {m n : Int} {q : Bool} : (IX.var 11).den (qEnv x m n q) = some m ∧ (IX.var 12).den (qEnv x m n q) = some n := by cases q <;> exact ⟨rfl, rfl⟩
theorem qInt {x : Sk} {m n : Int} {q : Bool} : (qEnv x m n q).ints[11]? = some m ∧ (qEnv x m n q).ints[12]? = some n := by cases q <;> exact ⟨rfl, rfl⟩
theorem qOk {m n : Int} {x : Sk} {i : IX} {b0 b1 b2 b3 b4 b5 : BX} {q : Bool} {asm : Asm} {w : World} (h : qGo i b0 b1 b2 b3 b4 b5 q (qAsm q asm) = true) (hx : x.ok w) (hs : x.small 1048576) (hq : q = false ↔ x.l = .nil)
    (hi : i.den (qEnv x m n q) = some m) (hb : Bits (qEnv x m n q) x b0 b1 b2 b3 b4 b5) (ha : AsmOk (qEnv x m n q) asm) :
    Calls Tryz.prog 4 #[.int .i64 m, .int .i64 n, x.val] w fun e w' => e = .returned (.bool true) ∧ Below w.heap.size w w' := qOkN h hx hs hq hi qVar.2 hb ha
theorem qNIn {x : Sk} {m n : Int} {q : Bool} (h1 : ¬ n < 0) (h2 : ¬ 5 < n) : AsmOk (qEnv x m n q) nIn := by
  intro c v hm
  simp only [nIn, List.mem_cons, List.not_mem_nil, or_false, Prod.mk.injEq] at hm
  rcases hm with ⟨rfl, rfl⟩ | ⟨rfl, rfl⟩ <;> · simp only [BX.den, IX.den, qInt.1, qInt.2]; simp; omega
theorem walkTrap (m : Int) (_ : wfI m) (n : Int) (_ : wfI n) (x : Sk) {w : World} (hx : x.ok w) (hs : x.small 1048576) :
    Calls Tryz.prog 4 #[.int .i64 m, .int .i64 n, x.val] w fun e w' => e = .returned (.bool true) ∧ Below w.heap.size w w' := by
  have hl := hx.2.2.2.2.1
  obtain ⟨q1, q2, q3⟩ := x.l.cls_l
  obtain ⟨q, hq⟩ : ∃ q : Bool, (q = false ↔ x.l = .nil) := by
    cases e : x.l with
    | nil => exact ⟨false, by simp⟩
    | «at» b off cap l => exact ⟨true, by simp⟩
  by_cases c0 : m < 1
  · refine qOk (qOut0 q) hx hs hq qVar.1 qBits (fun c v hm => ?_)
    simp only [out0, List.mem_cons, List.not_mem_nil, or_false, Prod.mk.injEq] at hm
    rcases hm with ⟨rfl, rfl⟩ <;> · simp only [BX.den, IX.den, qInt.1, qInt.2]; simp; omega
  by_cases c1 : 13 < m
  · refine qOk (qOut1 q) hx hs hq qVar.1 qBits (fun c v hm => ?_)
    simp only [out1, List.mem_cons, List.not_mem_nil, or_false, Prod.mk.injEq] at hm
    rcases hm with ⟨rfl, rfl⟩ | ⟨rfl, rfl⟩ <;> · simp only [BX.den, IX.den, qInt.1, qInt.2]; simp; omega
  by_cases c2 : n < 0
  · refine qOk (qOut2 q) hx hs hq qVar.1 qBits (fun c v hm => ?_)
    simp only [out2, List.mem_cons, List.not_mem_nil, or_false, Prod.mk.injEq] at hm
    rcases hm with ⟨rfl, rfl⟩ | ⟨rfl, rfl⟩ | ⟨rfl, rfl⟩ <;> · simp only [BX.den, IX.den, qInt.1, qInt.2]; simp; omega
  by_cases c3 : 5 < n
  · refine qOk (qOut3 q) hx hs hq qVar.1 qBits (fun c v hm => ?_)
    simp only [out3, List.mem_cons, List.not_mem_nil, or_false, Prod.mk.injEq] at hm
    rcases hm with ⟨rfl, rfl⟩ | ⟨rfl, rfl⟩ | ⟨rfl, rfl⟩ | ⟨rfl, rfl⟩ <;> · simp only [BX.den, IX.den, qInt.1, qInt.2]; simp; omega
  by_cases c4 : 9 ≤ x.l.l.length
  · have hne : x.l ≠ .nil := fun e => by rw [e] at c4; simp [Vs.l] at c4
    refine qOk (q := true) qLong hx hs ⟨fun h => (by cases h), fun h => (hne h).elim⟩ qVar.1 qBits (fun c v hm => ?_)
    rcases List.mem_cons.1 hm with e | hm
    · cases e
      show (oEnv x m n).bools[10]? = some true
      simp [oEnv, c4]
    · simp only [allIn, List.mem_cons, List.not_mem_nil, or_false, Prod.mk.injEq] at hm
      rcases hm with ⟨rfl, rfl⟩ | ⟨rfl, rfl⟩ | ⟨rfl, rfl⟩ | ⟨rfl, rfl⟩ <;> · simp only [BX.den, IX.den, qInt.1, qInt.2]; simp; omega
  · obtain ⟨k, rfl⟩ : ∃ k : Nat, m = k := ⟨m.toNat, by omega⟩
    by_cases c6 : k = 6
    · subst c6
      refine qOk (i := .lit 6) (dpm x.d.hv x.d.hg x.d.hs x.d.hw x.d.he x.d.hc q) hx hs hq rfl ⟨rfl, rfl, rfl, rfl, rfl, rfl⟩ (qNIn c2 c3)
    · by_cases c12 : 12 ≤ k ∧ x.l ≠ .nil
      · have hr : tRun k x.l.cls = true := by
          have h1 : 1 ≤ x.l.cls := by
            cases e : x.l with
            | nil => exact (c12.2 e).elim
            | «at» b off cap l => exact Nat.succ_le_succ (Nat.zero_le _)
          rcases (show k = 12 ∨ k = 13 by omega) with rfl | rfl
          · exact tpm_12 _ h1 (by omega)
          · exact tpm_13 _ h1 (by omega)
        refine true_from cT_ok hr (aRel (m := k) (n := n) hl q2 q3 fun c v hm => ?_) (ARGS := [.int .i64 k, .int .i64 n, x.val]) (denL_cons rfl (denL_cons rfl (denL_cons (aDen hl) (denL_nil _))))
        rcases List.mem_append.1 hm with hm | hm
        · exact qNIn (q := false) c2 c3 c v hm
        · exact aSmall hs c v hm
      · by_cases c5 : k = 5
        · subst c5
          obtain ⟨j, rfl⟩ : ∃ j : Nat, n = j := ⟨n.toNat, by omega⟩
          exact qOkN (i := .lit 5) (j := .lit (.ofNat j)) (fpm j q (decide (x.ky = 0)) (by omega)) hx hs hq rfl rfl qBits (fun c v hm => by
            rcases List.mem_cons.1 hm with e | hm
            · cases e
              have h0 : (qEnv x 5 j q).ints[0]? = some x.ky := by cases q <;> rfl
              simp [BX.den, IX.den, h0]
              by_cases e : x.ky = 0 <;> simp [e]
            · cases hm)
        · refine qOk (qpm k q (by omega) (by omega) c6 c5 (fun h => ?_)) hx hs hq rfl qBits (qNIn c2 c3)
          exact hq.2 (Classical.byContradiction fun h' => c12 ⟨h, h'⟩)
end Go.Proofs.YtegdomkgppddeaaGreatDoor
