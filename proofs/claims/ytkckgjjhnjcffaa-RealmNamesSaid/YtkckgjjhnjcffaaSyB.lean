/-
  A fast symbolic run (part 2): operations.
-/
import Derived.Test.YtkckgjjhnjcffaaSyA
namespace Go.Sx
set_option linter.unusedVariables false
set_option linter.unusedSimpArgs false
section
variable {P : Program} {n : Nat} {ops : Array Oper} {o : Oper}
theorem optV {q : SV → Res} {x : Option SV} {outs : List (SExit × Frame × St)} (h : (@Option.rec SV (fun _ => Res) .fail q x).outs = some outs) : ∃ v, x = some v ∧ (q v).outs = some outs := by
  cases x with
  | none => cases h
  | some v => exact ⟨v, rfl, h⟩
/-- An operation that gives one value and leaves all as it is. -/
theorem ko_of_pure {f : KO} (hg : o.guard = none) (H : ∀ F tm s k outs, (f F tm s k).outs = some outs → ∃ v, xPure P s.h s.asm ⟨tm, n⟩ o = some [(v, s.asm)] ∧ ((pdst n o.dst).p tm v fun tm' => k tm' s).outs = some outs) : KoOk P n ops o f := by
  intro F tm s k outs h
  obtain ⟨v, h1, h2⟩ := H F tm s k outs h
  obtain ⟨a, p1, p2, p3⟩ := pdst_ok h2
  refine ⟨[(a, s)], ?_, fun p hp => ?_⟩
  · simp only [opStep, hg, runOp, h1, withAsm, List.map_cons, List.map_nil, putAll, p1]
  · rw [List.mem_singleton.1 hp]
    exact ⟨p2, outs, p3, fun y hy => hy⟩
/-- An operation that changes memory. -/
theorem ko_of_eff {f : KO} (hg : o.guard = none) (H : ∀ F tm s k outs, (f F tm s k).outs = some outs → ∃ v s', xPure P s.h s.asm ⟨tm, n⟩ o = none ∧ callOf P ⟨tm, n⟩ o = none ∧ xEff P s ⟨tm, n⟩ o = some [(v, s')] ∧ ((pdst n o.dst).p tm v fun tm' => k tm' s').outs = some outs) : KoOk P n ops o f := by
  intro F tm s k outs h
  obtain ⟨v, s', h0, h1, h2, h3⟩ := H F tm s k outs h
  obtain ⟨a, p1, p2, p3⟩ := pdst_ok h3
  refine ⟨[(a, s')], ?_, fun p hp => ?_⟩
  · simp only [opStep, hg, runOp, h0, h1, h2, putAll, p1]
  · rw [List.mem_singleton.1 hp]
    exact ⟨p2, outs, p3, fun y hy => hy⟩
end
/-! ### pieces -/
noncomputable def k1 (n : Nat) (d : Option Tmp) (x : Operand) (q : T SObj → SV → Option SV) : KW :=
  @GW.rec (fun _ => KW) (fun g => @PW.rec Res (fun _ => KW) (fun p => ⟨fun _ tm s k => @Option.rec SV (fun _ => Res) .fail (fun u => @Option.rec SV (fun _ => Res) .fail (fun v => p tm v fun tm' => k tm' s) (q s.h u)) (g tm)⟩) (pdst n d)) (gop x)
noncomputable def k2 (n : Nat) (d : Option Tmp) (x y : Operand) (q : T SObj → SV → SV → Option SV) : KW :=
  @GW.rec (fun _ => KW) (fun g => @GW.rec (fun _ => KW) (fun g' => @PW.rec Res (fun _ => KW) (fun p => ⟨fun _ tm s k => @Option.rec SV (fun _ => Res) .fail (fun u => @Option.rec SV (fun _ => Res) .fail (fun u' => @Option.rec SV (fun _ => Res) .fail (fun v => p tm v fun tm' => k tm' s) (q s.h u u')) (g' tm)) (g tm)⟩) (pdst n d)) (gop y)) (gop x)
noncomputable def kmove (n : Nat) (d : Option Tmp) (x : Operand) : KW :=
  @GW.rec (fun _ => KW) (fun g => @PW.rec Res (fun _ => KW) (fun p => ⟨fun _ tm s k => @Option.rec SV (fun _ => Res) .fail (fun u => p tm u fun tm' => k tm' s) (g tm)⟩) (pdst n d)) (gop x)
section
variable {P : Program} {n : Nat} {ops : Array Oper} {o : Oper}
theorem k1_ok {x : Operand} {q : T SObj → SV → Option SV} (hg : o.guard = none) (H : ∀ h asm a v, a.ev x = some v → xPure P h asm a o = one1 asm (q h v)) : KoOk P n ops o (k1 n o.dst x q).f := by
  refine ko_of_pure hg fun F tm s k outs h => ?_
  have h : (@Option.rec SV (fun _ => Res) .fail (fun u => @Option.rec SV (fun _ => Res) .fail (fun v => (pdst n o.dst).p tm v fun tm' => k tm' s) (q s.h u)) ((gop x).g tm)).outs = some outs := h
  obtain ⟨u, h1, h⟩ := optV h
  obtain ⟨v, h2, h⟩ := optV h
  rw [gop_ok x tm n] at h1
  exact ⟨v, by rw [H s.h s.asm _ u h1, h2]; rfl, h⟩
theorem k2_ok {x y : Operand} {q : T SObj → SV → SV → Option SV} (hg : o.guard = none) (H : ∀ h asm a u v, a.ev x = some u → a.ev y = some v → xPure P h asm a o = one1 asm (q h u v)) : KoOk P n ops o (k2 n o.dst x y q).f := by
  refine ko_of_pure hg fun F tm s k outs h => ?_
  have h : (@Option.rec SV (fun _ => Res) .fail (fun u => @Option.rec SV (fun _ => Res) .fail (fun u' => @Option.rec SV (fun _ => Res) .fail (fun v => (pdst n o.dst).p tm v fun tm' => k tm' s) (q s.h u u')) ((gop y).g tm)) ((gop x).g tm)).outs = some outs := h
  obtain ⟨u, h1, h⟩ := optV h
  obtain ⟨u', h1', h⟩ := optV h
  obtain ⟨v, h2, h⟩ := optV h
  rw [gop_ok x tm n] at h1
  rw [gop_ok y tm n] at h1'
  exact ⟨v, by rw [H s.h s.asm _ u u' h1 h1', h2]; rfl, h⟩
theorem kmove_ok {x : Operand} (hg : o.guard = none) (H : ∀ h asm a, xPure P h asm a o = one1 asm (a.ev x)) : KoOk P n ops o (kmove n o.dst x).f := by
  refine ko_of_pure hg fun F tm s k outs h => ?_
  have h : (@Option.rec SV (fun _ => Res) .fail (fun u => (pdst n o.dst).p tm u fun tm' => k tm' s) ((gop x).g tm)).outs = some outs := h
  obtain ⟨u, h1, h⟩ := optV h
  rw [gop_ok x tm n] at h1
  exact ⟨u, by rw [H, h1]; rfl, h⟩
end
/-! ### a call of a function by its name -/
structure LGW where
  g : Frame → (List SV → Res) → Res
noncomputable def gops : List Operand → LGW
  | [] => ⟨fun _ k => k []⟩
  | x :: l => @GW.rec (fun _ => LGW) (fun g => @LGW.rec (fun _ => LGW) (fun gl => ⟨fun tm k => @Option.rec SV (fun _ => Res) .fail (fun v => gl tm fun vs => k (v :: vs)) (g tm)⟩) (gops l)) (gop x)
theorem gops_ok {n : Nat} : ∀ {l : List Operand} {tm : Frame} {k : List SV → Res} {outs : List (SExit × Frame × St)}, ((gops l).g tm k).outs = some outs → ∃ vs, evL ⟨tm, n⟩ l = some vs ∧ (k vs).outs = some outs
  | [], tm, k, outs, h => ⟨[], rfl, h⟩
  | x :: l, tm, k, outs, h => by
    have h : (@Option.rec SV (fun _ => Res) .fail (fun v => (gops l).g tm fun vs => k (v :: vs)) ((gop x).g tm)).outs = some outs := h
    obtain ⟨v, h1, h⟩ := optV h
    obtain ⟨vs, h2, h⟩ := gops_ok (n := n) h
    rw [gop_ok x tm n] at h1
    exact ⟨v :: vs, by simp only [evL, h1, h2], h⟩
def callMany (n : Nat) (d : Option Tmp) (tm : Frame) (k : Frame → St → Res) (l : List (SV × St)) : Res := manyOps n (putAll ⟨tm, n⟩ d l) k
noncomputable def kcallf (n : Nat) (d : Option Tmp) (f : FuncId) (args : List Operand) : KW :=
  @LGW.rec (fun _ => KW) (fun gl => @PW.rec Res (fun _ => KW) (fun p => ⟨fun F tm s k => gl tm fun vs => @CRes.rec (fun _ => Res) (fun v s' => p tm v fun tm' => k tm' s') (fun l => callMany n d tm k l) .fail (F.call f vs s)⟩) (pdst n d)) (gops args)
theorem evL_nil_append (l : List SV) : ([] : List SV) ++ (l ++ []) = l := by simp
theorem kcallf_ok {P : Program} {n : Nat} {ops : Array Oper} {o : Oper} {f : FuncId} {args : Array Operand} {ty : Array TypeId} (hg : o.guard = none) (ho : o.op = .call { callee := .value (.func f), args := args, argTypes := ty }) (hp : plainFunc P f = true) : KoOk P n ops o (kcallf n o.dst f args.toList).f := by
  intro F tm s k outs h
  have h : ((gops args.toList).g tm fun vs => @CRes.rec (fun _ => Res) (fun v s' => (pdst n o.dst).p tm v fun tm' => k tm' s') (fun l => callMany n o.dst tm k l) .fail (F.call f vs s)).outs = some outs := h
  obtain ⟨vs, h1, h⟩ := gops_ok (n := n) h
  have hc : callOf P ⟨tm, n⟩ o = some (f, vs) := by
    simp only [callOf, ho, SAct.ev, h1, hp]
    rw [evL_nil_append]
  have hx : xPure P s.h s.asm ⟨tm, n⟩ o = none := by simp only [xPure, kpOf, ho, kpNone]
  have hs : ∀ l, (toFs F).call f vs s = some l → opStep P (toFs F) ops ⟨tm, n⟩ s o = putAll ⟨tm, n⟩ o.dst l := fun l hl => by
    simp only [opStep, hg, runOp, hx, hc, hl]
  cases hr : F.call f vs s with
  | one v s' =>
    rw [hr] at h
    obtain ⟨a, p1, p2, p3⟩ := pdst_ok h
    refine ⟨[(a, s')], ?_, fun p hp => ?_⟩
    · rw [hs [(v, s')] (by simp only [toFs, hr, CRes.outs])]
      simp only [putAll, p1]
    · rw [List.mem_singleton.1 hp]
      exact ⟨p2, outs, p3, fun y hy => hy⟩
  | many l =>
    rw [hr] at h
    have h : (manyOps n (putAll ⟨tm, n⟩ o.dst l) k).outs = some outs := h
    obtain ⟨m, h1, h2⟩ := manyOps_outs h
    exact ⟨m, by rw [hs l (by simp only [toFs, hr, CRes.outs]), h1], h2⟩
  | fail => rw [hr] at h; cases h
/-! ### memory -/
noncomputable def kstore (P : Program) (n : Nat) (d : Option Tmp) (t : TypeId) (x y : Operand) : KW :=
  @GW.rec (fun _ => KW) (fun g => @GW.rec (fun _ => KW) (fun g' => @PW.rec Res (fun _ => KW) (fun p => ⟨fun _ tm s k => @Option.rec SV (fun _ => Res) .fail (fun u => @Option.rec SV (fun _ => Res) .fail (fun u' => match xstore P s t u u' with
    | some [q] => p tm q.1 fun tm' => k tm' q.2
    | _ => .fail) (g' tm)) (g tm)⟩) (pdst n d)) (gop y)) (gop x)
theorem kstore_ok {P : Program} {n : Nat} {ops : Array Oper} {o : Oper} {t : TypeId} {x y : Operand} (hg : o.guard = none) (ho : o.op = .store t x y) : KoOk P n ops o (kstore P n o.dst t x y).f := by
  refine ko_of_eff hg fun F tm s k outs h => ?_
  have h : (@Option.rec SV (fun _ => Res) .fail (fun u => @Option.rec SV (fun _ => Res) .fail (fun u' => match xstore P s t u u' with
    | some [q] => (pdst n o.dst).p tm q.1 fun tm' => k tm' q.2
    | _ => .fail) ((gop y).g tm)) ((gop x).g tm)).outs = some outs := h
  obtain ⟨u, h1, h⟩ := optV h
  obtain ⟨u', h2, h⟩ := optV h
  rw [gop_ok x tm n] at h1
  rw [gop_ok y tm n] at h2
  split at h
  · rename_i q hq
    exact ⟨q.1, q.2, by simp only [xPure, kpOf, ho, kpNone], by simp only [callOf, ho], by simp only [xEff, keOf, ho, keStore, h1, h2, hq], h⟩
  · cases h
noncomputable def kbox (n : Nat) (d : Option Tmp) (t : TypeId) (x : Operand) : KW :=
  @GW.rec (fun _ => KW) (fun g => @PW.rec Res (fun _ => KW) (fun p => ⟨fun _ tm s k => @Option.rec SV (fun _ => Res) .fail (fun u => p tm (newVar s (cellsOf u) t).1 fun tm' => k tm' (newVar s (cellsOf u) t).2) (g tm)⟩) (pdst n d)) (gop x)
theorem kbox_ok {P : Program} {n : Nat} {ops : Array Oper} {o : Oper} {t : TypeId} {x : Operand} (hg : o.guard = none) (ho : o.op = .box t x) : KoOk P n ops o (kbox n o.dst t x).f := by
  refine ko_of_eff hg fun F tm s k outs h => ?_
  have h : (@Option.rec SV (fun _ => Res) .fail (fun u => (pdst n o.dst).p tm (newVar s (cellsOf u) t).1 fun tm' => k tm' (newVar s (cellsOf u) t).2) ((gop x).g tm)).outs = some outs := h
  obtain ⟨u, h1, h⟩ := optV h
  rw [gop_ok x tm n] at h1
  exact ⟨_, _, by simp only [xPure, kpOf, ho, kpNone], by simp only [callOf, ho], by simp only [xEff, keOf, ho, keBox, h1, xbox], h⟩
/-! ### which piece for which operation -/
noncomputable def kop (P : Program) (n : Nat) (ops : Array Oper) (o : Oper) : KW :=
  match o.guard with
  | some _ => kgen P n ops o
  | none => match o.op with
    | .move x => kmove n o.dst x
    | .assign x => kmove n o.dst x
    | .load t x => k1 n o.dst x fun h v => xload P h t v
    | .fieldAddr t x f => k1 n o.dst x fun _ v => xfieldAddr P t v f
    | .field t x f => k1 n o.dst x fun _ v => xfield P t v f
    | .unOp op _ x => k1 n o.dst x fun _ v => xun op v
    | .convert src dst x => k1 n o.dst x fun h v => xconvert P h src dst v
    | .binOp op t x y _ => k2 n o.dst x y fun _ u v => xbin P op t (isConstO x || isConstO y) u v
    | .indexAddr t x i => k2 n o.dst x i fun _ u v => xindexAddr P t u v
    | .index t x i => k2 n o.dst x i fun _ u v => xindex P t u v
    | .store t x y => kstore P n o.dst t x y
    | .box t x => kbox n o.dst t x
    | .call { callee := .value (.func f), args := args, argTypes := _ } => match plainFunc P f with
      | true => kcallf n o.dst f args.toList
      | false => kgen P n ops o
    | _ => kgen P n ops o
theorem kop_ok (P : Program) (n : Nat) (ops : Array Oper) (o : Oper) : KoOk P n ops o (kop P n ops o).f := by
  unfold kop
  split
  · exact kgen_ok P n ops o
  · rename_i hg
    split
    · rename_i x ho
      exact kmove_ok hg fun h asm a => by simp only [xPure, kpOf, ho, kpMove]
    · rename_i x ho
      exact kmove_ok hg fun h asm a => by simp only [xPure, kpOf, ho, kpAssign]
    · rename_i t x ho
      exact k1_ok hg fun h asm a v hv => by simp only [xPure, kpOf, ho, kpLoad, hv]
    · rename_i t x f ho
      exact k1_ok hg fun h asm a v hv => by simp only [xPure, kpOf, ho, kpFieldAddr, hv]
    · rename_i t x f ho
      exact k1_ok hg fun h asm a v hv => by simp only [xPure, kpOf, ho, kpField, hv]
    · rename_i op _ x ho
      exact k1_ok hg fun h asm a v hv => by simp only [xPure, kpOf, ho, kpUnOp, hv]
    · rename_i src dst x ho
      exact k1_ok hg fun h asm a v hv => by simp only [xPure, kpOf, ho, kpConvert, hv]
    · rename_i op t x y _ ho
      exact k2_ok hg fun h asm a u v hu hv => by simp only [xPure, kpOf, ho, kpBinOp, hu, hv]
    · rename_i t x i ho
      exact k2_ok hg fun h asm a u v hu hv => by simp only [xPure, kpOf, ho, kpIndexAddr, hu, hv]
    · rename_i t x i ho
      exact k2_ok hg fun h asm a u v hu hv => by simp only [xPure, kpOf, ho, kpIndex, hu, hv]
    · rename_i t x y ho
      exact kstore_ok hg ho
    · rename_i t x ho
      exact kbox_ok hg ho
    · rename_i f args ty ho
      split
      · rename_i hp
        exact kcallf_ok hg ho hp
      · exact kgen_ok P n ops o
    · exact kgen_ok P n ops o
end Go.Sx
