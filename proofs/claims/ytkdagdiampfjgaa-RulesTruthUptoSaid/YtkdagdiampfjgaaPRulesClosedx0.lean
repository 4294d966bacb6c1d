-- PRINTED BY print.sh 35421559b90ae4d0a3588c463048766b98c2df88dd9212a6774a882060cdf62d: not written by this session
import Derived.Test.YtkdagdiampfjgaaProg
import Derived.Below
import Derived.Deep.Draws
import Derived.Deep.AppendLies
import Derived.Maps.AppendAt
import Derived.OwnWalk
import Derived.Laws.BytesArg
import Derived.Laws.MakeOwn
import Derived.Laws.OwnMore
import Derived.Deep.OwnRows
import Derived.Tactics
import Derived.Lib.ConvBytes
import Derived.Laws.Slices
import Derived.WalkKit
import Derived.KernelRfl
import Derived.RowKit3
import Derived.Deep.LoopGhost
import Derived.Deep.QuietTactic
import Derived.BigQuiet
import Derived.WideLaws
import Derived.Deep.DeepCutAuto
import Derived.Deep.CutBlock
import Derived.Deep.RegionHeld3
import Derived.Laws.Rows
import Derived.Lib.AppendStr
import Derived.ArgAppend
import Derived.Laws.IdiomCopy
import Derived.OrdersHeld
import Derived.Laws.BitsLemmas
import Derived.RowKit
import Derived.Test.YtkdagdiampfjgaaWWords
import Derived.Test.YtkdagdiampfjgaaWLast
import Derived.Test.YtkdagdiampfjgaaWTab
import Derived.Test.YtkdagdiampfjgaaWFour
import Derived.Test.YtkdagdiampfjgaaWQPut
import Derived.Test.YtkdagdiampfjgaaWApart
import Derived.Test.YtkdagdiampfjgaaWArr
import Derived.Test.YtkdagdiampfjgaaWZeros
import Derived.Test.YtkdagdiampfjgaaWFoot
import Derived.Test.YtkdagdiampfjgaaWKept
import Derived.Test.YtkdagdiampfjgaaWShare
import Derived.Test.YtkdagdiampfjgaaWN
import Derived.Test.YtkdagdiampfjgaaWFootNe
import Derived.Test.YtkdagdiampfjgaaWAt
import Derived.Test.YtkdagdiampfjgaaWEqStruct
import Derived.Test.YtkdagdiampfjgaaWRepsOne
import Derived.Test.YtkdagdiampfjgaaWInv
import Derived.Test.YtkdagdiampfjgaaWInvWords
import Derived.Test.YtkdagdiampfjgaaWGuard
import Derived.Test.YtkdagdiampfjgaaWNEv
import Derived.Test.YtkdagdiampfjgaaWMore
namespace Go.Proofs.Ytkdagdiampfjgaa.PRulesClosed
open Go.RowKit Go.Proofs.YtkdagdiampfjgaaW.PrintWords Go.Proofs.YtkdagdiampfjgaaW.PrintLast Go.Proofs.YtkdagdiampfjgaaW.PrintMore
set_option linter.unusedVariables false
set_option linter.unusedSimpArgs false

theorem info3 : (Try.prog.info? 3).map (fun i => (i.zero, i.size, i.bytes)) = some (some (.int .i64 0), 1, 8) := by kernel_rfl
theorem info57 : (Try.prog.info? 57).map (fun i => (i.zero, i.size, i.bytes)) = some (some (.int .u16 0), 1, 2) := by kernel_rfl
-- the values' own types
/-! #### struct type 38 -/
structure S38 where
  f0 : ByteArray
  f1 : Int
def z38 : S38 := ⟨(⟨#[]⟩ : ByteArray), (0 : Int)⟩
def k38 : Kd S38 := Kd.iso (Kd.pair Kd.string (Kd.int .i64)) (fun x : S38 => (x.f0, x.f1))
theorem k38_open {w : World} {x : S38} {cs : List Value} (h : k38.K w x cs) : cs = [.string x.f0, .int .i64 x.f1] := by
  obtain ⟨_, _, rfl, rfl, rfl⟩ := h
  exact rfl
theorem k38_mk (w : World) (x : S38)  : k38.K w x [.string x.f0, .int .i64 x.f1] := ⟨[.string x.f0], [.int .i64 x.f1], rfl, rfl, rfl⟩
theorem k38_mkM (w : World) (base : Nat) (ok : Nat → Prop) (x : S38)  : k38.M w base ok x [.string x.f0, .int .i64 x.f1] := ⟨[.string x.f0], [.int .i64 x.f1], rfl, rfl, rfl⟩
def rd_T38 (xs : List S38) (i : Int) : S38 := xs.getD i.toNat z38
theorem at_T38 {w : World} {A : Option Addr} {n : Nat} {xs : List S38} (h : Kd.C k38 w A n xs) (i : Int) (h0 : 0 ≤ i) (h1 : i < n) : ∃ ad , A = some ad ∧ w.cell? (ad.add (i.toNat * 2)) = some (.string (rd_T38 xs i).f0) ∧ w.cell? ⟨(ad.add (i.toNat * 2)).block, (ad.add (i.toNat * 2)).off + 1, none⟩ = some (.int .i64 (rd_T38 xs i).f1) := by
  obtain ⟨ad, c, e, _, hK, hc0⟩ := Kd.C_get h z38 i h0 h1
  have hc : ∀ j u, c[j]? = some u → w.cell? (ad.add (i.toNat * 2 + j)) = some u := hc0
  obtain rfl := k38_open hK
  exact ⟨ad, e, hc 0 _ rfl, by rw [← add_field _ _ 1 (by omega)]; exact hc 1 _ rfl⟩

/-! #### struct type 23 -/
structure S23 where
  f0 : Int
  f1 : Int
  f2 : ByteArray
def z23 : S23 := ⟨(0 : Int), (0 : Int), (⟨#[]⟩ : ByteArray)⟩
def k23 : Kd S23 := Kd.iso (Kd.pair (Kd.int .i64) (Kd.pair (Kd.int .i64) Kd.string)) (fun x : S23 => (x.f0, x.f1, x.f2))
theorem k23_open {w : World} {x : S23} {cs : List Value} (h : k23.K w x cs) : cs = [.int .i64 x.f0, .int .i64 x.f1, .string x.f2] := by
  obtain ⟨_, _, rfl, rfl, ⟨_, _, rfl, rfl, rfl⟩⟩ := h
  exact rfl
theorem k23_mk (w : World) (x : S23)  : k23.K w x [.int .i64 x.f0, .int .i64 x.f1, .string x.f2] := ⟨[.int .i64 x.f0], [.int .i64 x.f1, .string x.f2], rfl, rfl, ⟨[.int .i64 x.f1], [.string x.f2], rfl, rfl, rfl⟩⟩

/-! #### struct type 25 -/
structure S25 where
  f0 : Bool
  f1 : Bool
  f2 : Bool
  f3 : Bool
  f4 : Bool
  f5 : Bool
  f6 : S23
  f7 : S23
  f8 : S23
  f9 : Bool
  f10 : Bool
  f11 : Bool
def z25 : S25 := ⟨false, false, false, false, false, false, z23, z23, z23, false, false, false⟩
def k25 : Kd S25 := Kd.iso (Kd.pair Kd.bool (Kd.pair Kd.bool (Kd.pair Kd.bool (Kd.pair Kd.bool (Kd.pair Kd.bool (Kd.pair Kd.bool (Kd.pair k23 (Kd.pair k23 (Kd.pair k23 (Kd.pair Kd.bool (Kd.pair Kd.bool Kd.bool))))))))))) (fun x : S25 => (x.f0, x.f1, x.f2, x.f3, x.f4, x.f5, x.f6, x.f7, x.f8, x.f9, x.f10, x.f11))
theorem k25_open {w : World} {x : S25} {cs : List Value} (h : k25.K w x cs) : cs = [.bool x.f0, .bool x.f1, .bool x.f2, .bool x.f3, .bool x.f4, .bool x.f5, .int .i64 x.f6.f0, .int .i64 x.f6.f1, .string x.f6.f2, .int .i64 x.f7.f0, .int .i64 x.f7.f1, .string x.f7.f2, .int .i64 x.f8.f0, .int .i64 x.f8.f1, .string x.f8.f2, .bool x.f9, .bool x.f10, .bool x.f11] := by
  obtain ⟨_, _, rfl, rfl, ⟨_, _, rfl, rfl, ⟨_, _, rfl, rfl, ⟨_, _, rfl, rfl, ⟨_, _, rfl, rfl, ⟨_, _, rfl, rfl, ⟨_, _, rfl, s6, ⟨_, _, rfl, s9, ⟨_, _, rfl, s12, ⟨_, _, rfl, rfl, ⟨_, _, rfl, rfl, rfl⟩⟩⟩⟩⟩⟩⟩⟩⟩⟩⟩ := h
  obtain rfl := k23_open s6
  obtain rfl := k23_open s9
  obtain rfl := k23_open s12
  exact rfl
theorem k25_mk (w : World) (x : S25)  : k25.K w x [.bool x.f0, .bool x.f1, .bool x.f2, .bool x.f3, .bool x.f4, .bool x.f5, .int .i64 x.f6.f0, .int .i64 x.f6.f1, .string x.f6.f2, .int .i64 x.f7.f0, .int .i64 x.f7.f1, .string x.f7.f2, .int .i64 x.f8.f0, .int .i64 x.f8.f1, .string x.f8.f2, .bool x.f9, .bool x.f10, .bool x.f11] := ⟨[.bool x.f0], [.bool x.f1, .bool x.f2, .bool x.f3, .bool x.f4, .bool x.f5, .int .i64 x.f6.f0, .int .i64 x.f6.f1, .string x.f6.f2, .int .i64 x.f7.f0, .int .i64 x.f7.f1, .string x.f7.f2, .int .i64 x.f8.f0, .int .i64 x.f8.f1, .string x.f8.f2, .bool x.f9, .bool x.f10, .bool x.f11], rfl, rfl, ⟨[.bool x.f1], [.bool x.f2, .bool x.f3, .bool x.f4, .bool x.f5, .int .i64 x.f6.f0, .int .i64 x.f6.f1, .string x.f6.f2, .int .i64 x.f7.f0, .int .i64 x.f7.f1, .string x.f7.f2, .int .i64 x.f8.f0, .int .i64 x.f8.f1, .string x.f8.f2, .bool x.f9, .bool x.f10, .bool x.f11], rfl, rfl, ⟨[.bool x.f2], [.bool x.f3, .bool x.f4, .bool x.f5, .int .i64 x.f6.f0, .int .i64 x.f6.f1, .string x.f6.f2, .int .i64 x.f7.f0, .int .i64 x.f7.f1, .string x.f7.f2, .int .i64 x.f8.f0, .int .i64 x.f8.f1, .string x.f8.f2, .bool x.f9, .bool x.f10, .bool x.f11], rfl, rfl, ⟨[.bool x.f3], [.bool x.f4, .bool x.f5, .int .i64 x.f6.f0, .int .i64 x.f6.f1, .string x.f6.f2, .int .i64 x.f7.f0, .int .i64 x.f7.f1, .string x.f7.f2, .int .i64 x.f8.f0, .int .i64 x.f8.f1, .string x.f8.f2, .bool x.f9, .bool x.f10, .bool x.f11], rfl, rfl, ⟨[.bool x.f4], [.bool x.f5, .int .i64 x.f6.f0, .int .i64 x.f6.f1, .string x.f6.f2, .int .i64 x.f7.f0, .int .i64 x.f7.f1, .string x.f7.f2, .int .i64 x.f8.f0, .int .i64 x.f8.f1, .string x.f8.f2, .bool x.f9, .bool x.f10, .bool x.f11], rfl, rfl, ⟨[.bool x.f5], [.int .i64 x.f6.f0, .int .i64 x.f6.f1, .string x.f6.f2, .int .i64 x.f7.f0, .int .i64 x.f7.f1, .string x.f7.f2, .int .i64 x.f8.f0, .int .i64 x.f8.f1, .string x.f8.f2, .bool x.f9, .bool x.f10, .bool x.f11], rfl, rfl, ⟨[.int .i64 x.f6.f0, .int .i64 x.f6.f1, .string x.f6.f2], [.int .i64 x.f7.f0, .int .i64 x.f7.f1, .string x.f7.f2, .int .i64 x.f8.f0, .int .i64 x.f8.f1, .string x.f8.f2, .bool x.f9, .bool x.f10, .bool x.f11], rfl, (k23_mk w x.f6 ), ⟨[.int .i64 x.f7.f0, .int .i64 x.f7.f1, .string x.f7.f2], [.int .i64 x.f8.f0, .int .i64 x.f8.f1, .string x.f8.f2, .bool x.f9, .bool x.f10, .bool x.f11], rfl, (k23_mk w x.f7 ), ⟨[.int .i64 x.f8.f0, .int .i64 x.f8.f1, .string x.f8.f2], [.bool x.f9, .bool x.f10, .bool x.f11], rfl, (k23_mk w x.f8 ), ⟨[.bool x.f9], [.bool x.f10, .bool x.f11], rfl, rfl, ⟨[.bool x.f10], [.bool x.f11], rfl, rfl, rfl⟩⟩⟩⟩⟩⟩⟩⟩⟩⟩⟩

/-! #### struct type 40 -/
structure S40 where
  f0 : S38
  f1 : S25
def z40 : S40 := ⟨z38, z25⟩
def k40 : Kd S40 := Kd.iso (Kd.pair k38 k25) (fun x : S40 => (x.f0, x.f1))
theorem k40_open {w : World} {x : S40} {cs : List Value} (h : k40.K w x cs) : cs = [.string x.f0.f0, .int .i64 x.f0.f1, .bool x.f1.f0, .bool x.f1.f1, .bool x.f1.f2, .bool x.f1.f3, .bool x.f1.f4, .bool x.f1.f5, .int .i64 x.f1.f6.f0, .int .i64 x.f1.f6.f1, .string x.f1.f6.f2, .int .i64 x.f1.f7.f0, .int .i64 x.f1.f7.f1, .string x.f1.f7.f2, .int .i64 x.f1.f8.f0, .int .i64 x.f1.f8.f1, .string x.f1.f8.f2, .bool x.f1.f9, .bool x.f1.f10, .bool x.f1.f11] := by
  obtain ⟨_, _, rfl, s0, s2⟩ := h
  obtain rfl := k38_open s0
  obtain rfl := k25_open s2
  exact rfl
theorem k40_mk (w : World) (x : S40)  : k40.K w x [.string x.f0.f0, .int .i64 x.f0.f1, .bool x.f1.f0, .bool x.f1.f1, .bool x.f1.f2, .bool x.f1.f3, .bool x.f1.f4, .bool x.f1.f5, .int .i64 x.f1.f6.f0, .int .i64 x.f1.f6.f1, .string x.f1.f6.f2, .int .i64 x.f1.f7.f0, .int .i64 x.f1.f7.f1, .string x.f1.f7.f2, .int .i64 x.f1.f8.f0, .int .i64 x.f1.f8.f1, .string x.f1.f8.f2, .bool x.f1.f9, .bool x.f1.f10, .bool x.f1.f11] := ⟨[.string x.f0.f0, .int .i64 x.f0.f1], [.bool x.f1.f0, .bool x.f1.f1, .bool x.f1.f2, .bool x.f1.f3, .bool x.f1.f4, .bool x.f1.f5, .int .i64 x.f1.f6.f0, .int .i64 x.f1.f6.f1, .string x.f1.f6.f2, .int .i64 x.f1.f7.f0, .int .i64 x.f1.f7.f1, .string x.f1.f7.f2, .int .i64 x.f1.f8.f0, .int .i64 x.f1.f8.f1, .string x.f1.f8.f2, .bool x.f1.f9, .bool x.f1.f10, .bool x.f1.f11], rfl, (k38_mk w x.f0 ), (k25_mk w x.f1 )⟩
def rd_T40 (xs : List S40) (i : Int) : S40 := xs.getD i.toNat z40
theorem at_T40 {w : World} {A : Option Addr} {n : Nat} {xs : List S40} (h : Kd.C k40 w A n xs) (i : Int) (h0 : 0 ≤ i) (h1 : i < n) : ∃ ad , A = some ad ∧ w.cell? (ad.add (i.toNat * 20)) = some (.string (rd_T40 xs i).f0.f0) ∧ w.cell? ⟨(ad.add (i.toNat * 20)).block, (ad.add (i.toNat * 20)).off + 1, none⟩ = some (.int .i64 (rd_T40 xs i).f0.f1) ∧ w.cell? ⟨(ad.add (i.toNat * 20)).block, (ad.add (i.toNat * 20)).off + 2, none⟩ = some (.bool (rd_T40 xs i).f1.f0) ∧ w.cell? ⟨(ad.add (i.toNat * 20)).block, (ad.add (i.toNat * 20)).off + 3, none⟩ = some (.bool (rd_T40 xs i).f1.f1) ∧ w.cell? ⟨(ad.add (i.toNat * 20)).block, (ad.add (i.toNat * 20)).off + 4, none⟩ = some (.bool (rd_T40 xs i).f1.f2) ∧ w.cell? ⟨(ad.add (i.toNat * 20)).block, (ad.add (i.toNat * 20)).off + 5, none⟩ = some (.bool (rd_T40 xs i).f1.f3) ∧ w.cell? ⟨(ad.add (i.toNat * 20)).block, (ad.add (i.toNat * 20)).off + 6, none⟩ = some (.bool (rd_T40 xs i).f1.f4) ∧ w.cell? ⟨(ad.add (i.toNat * 20)).block, (ad.add (i.toNat * 20)).off + 7, none⟩ = some (.bool (rd_T40 xs i).f1.f5) ∧ w.cell? ⟨(ad.add (i.toNat * 20)).block, (ad.add (i.toNat * 20)).off + 8, none⟩ = some (.int .i64 (rd_T40 xs i).f1.f6.f0) ∧ w.cell? ⟨(ad.add (i.toNat * 20)).block, (ad.add (i.toNat * 20)).off + 9, none⟩ = some (.int .i64 (rd_T40 xs i).f1.f6.f1) ∧ w.cell? ⟨(ad.add (i.toNat * 20)).block, (ad.add (i.toNat * 20)).off + 10, none⟩ = some (.string (rd_T40 xs i).f1.f6.f2) ∧ w.cell? ⟨(ad.add (i.toNat * 20)).block, (ad.add (i.toNat * 20)).off + 11, none⟩ = some (.int .i64 (rd_T40 xs i).f1.f7.f0) ∧ w.cell? ⟨(ad.add (i.toNat * 20)).block, (ad.add (i.toNat * 20)).off + 12, none⟩ = some (.int .i64 (rd_T40 xs i).f1.f7.f1) ∧ w.cell? ⟨(ad.add (i.toNat * 20)).block, (ad.add (i.toNat * 20)).off + 13, none⟩ = some (.string (rd_T40 xs i).f1.f7.f2) ∧ w.cell? ⟨(ad.add (i.toNat * 20)).block, (ad.add (i.toNat * 20)).off + 14, none⟩ = some (.int .i64 (rd_T40 xs i).f1.f8.f0) ∧ w.cell? ⟨(ad.add (i.toNat * 20)).block, (ad.add (i.toNat * 20)).off + 15, none⟩ = some (.int .i64 (rd_T40 xs i).f1.f8.f1) ∧ w.cell? ⟨(ad.add (i.toNat * 20)).block, (ad.add (i.toNat * 20)).off + 16, none⟩ = some (.string (rd_T40 xs i).f1.f8.f2) ∧ w.cell? ⟨(ad.add (i.toNat * 20)).block, (ad.add (i.toNat * 20)).off + 17, none⟩ = some (.bool (rd_T40 xs i).f1.f9) ∧ w.cell? ⟨(ad.add (i.toNat * 20)).block, (ad.add (i.toNat * 20)).off + 18, none⟩ = some (.bool (rd_T40 xs i).f1.f10) ∧ w.cell? ⟨(ad.add (i.toNat * 20)).block, (ad.add (i.toNat * 20)).off + 19, none⟩ = some (.bool (rd_T40 xs i).f1.f11) := by
  obtain ⟨ad, c, e, _, hK, hc0⟩ := Kd.C_get h z40 i h0 h1
  have hc : ∀ j u, c[j]? = some u → w.cell? (ad.add (i.toNat * 20 + j)) = some u := hc0
  obtain rfl := k40_open hK
  exact ⟨ad, e, hc 0 _ rfl, by rw [← add_field _ _ 1 (by omega)]; exact hc 1 _ rfl, by rw [← add_field _ _ 2 (by omega)]; exact hc 2 _ rfl, by rw [← add_field _ _ 3 (by omega)]; exact hc 3 _ rfl, by rw [← add_field _ _ 4 (by omega)]; exact hc 4 _ rfl, by rw [← add_field _ _ 5 (by omega)]; exact hc 5 _ rfl, by rw [← add_field _ _ 6 (by omega)]; exact hc 6 _ rfl, by rw [← add_field _ _ 7 (by omega)]; exact hc 7 _ rfl, by rw [← add_field _ _ 8 (by omega)]; exact hc 8 _ rfl, by rw [← add_field _ _ 9 (by omega)]; exact hc 9 _ rfl, by rw [← add_field _ _ 10 (by omega)]; exact hc 10 _ rfl, by rw [← add_field _ _ 11 (by omega)]; exact hc 11 _ rfl, by rw [← add_field _ _ 12 (by omega)]; exact hc 12 _ rfl, by rw [← add_field _ _ 13 (by omega)]; exact hc 13 _ rfl, by rw [← add_field _ _ 14 (by omega)]; exact hc 14 _ rfl, by rw [← add_field _ _ 15 (by omega)]; exact hc 15 _ rfl, by rw [← add_field _ _ 16 (by omega)]; exact hc 16 _ rfl, by rw [← add_field _ _ 17 (by omega)]; exact hc 17 _ rfl, by rw [← add_field _ _ 18 (by omega)]; exact hc 18 _ rfl, by rw [← add_field _ _ 19 (by omega)]; exact hc 19 _ rfl⟩

end Go.Proofs.Ytkdagdiampfjgaa.PRulesClosed
