/-
  A fast symbolic run (part 3): operations.
-/
import Derived.Test.YtkckgjjhnjcffaaSyF
namespace Go.Sx
set_option linter.unusedVariables false
set_option linter.unusedSimpArgs false
section
variable {P : Program} {n : Nat} {o : Oper}
theorem optV {q : SV → Res} {x : Option SV} {outs : List (SExit × Frame × St)} (h : (@Option.rec SV (fun _ => Res) .fail q x).outs = some outs) : ∃ v, x = some v ∧ (q v).outs = some outs := by
  cases x with
  | none => cases h
  | some v => exact ⟨v, rfl, h⟩
/-- An operation that gives one value and leaves all as it is. -/
theorem kr_of_pure {F : FK} {tm : Frame} {s : St} {k : Frame → St → Res} {outs : List (SExit × Frame × St)} {v : SV} (h1 : xPure P s.h s.asm ⟨tm, n⟩ o = some [(v, s.asm)]) (h2 : ((pdst n o.dst).p tm v fun tm' => k tm' s).outs = some outs) :
    ∃ l, runOp P (toFs F) ⟨tm, n⟩ s o = some l ∧ ∀ p ∈ l, p.1.n = n ∧ ∃ ys, (k p.1.tm p.2).outs = some ys ∧ ∀ y ∈ ys, y ∈ outs := by
  obtain ⟨a, p1, p2, p3⟩ := pdst_ok h2
  refine ⟨[(a, s)], ?_, fun p hp => ?_⟩
  · simp only [runOp, h1, withAsm, List.map_cons, List.map_nil, putAll, p1]
  · rw [List.mem_singleton.1 hp]
    exact ⟨p2, outs, p3, fun y hy => hy⟩
/-- An operation that changes memory. -/
theorem kr_of_eff {F : FK} {tm : Frame} {s s' : St} {k : Frame → St → Res} {outs : List (SExit × Frame × St)} {v : SV} (h0 : xPure P s.h s.asm ⟨tm, n⟩ o = none) (h1 : callOf P ⟨tm, n⟩ o = none) (h2 : xEff P s ⟨tm, n⟩ o = some [(v, s')]) (h3 : ((pdst n o.dst).p tm v fun tm' => k tm' s').outs = some outs) :
    ∃ l, runOp P (toFs F) ⟨tm, n⟩ s o = some l ∧ ∀ p ∈ l, p.1.n = n ∧ ∃ ys, (k p.1.tm p.2).outs = some ys ∧ ∀ y ∈ ys, y ∈ outs := by
  obtain ⟨a, p1, p2, p3⟩ := pdst_ok h3
  refine ⟨[(a, s')], ?_, fun p hp => ?_⟩
  · simp only [runOp, h0, h1, h2, putAll, p1]
  · rw [List.mem_singleton.1 hp]
    exact ⟨p2, outs, p3, fun y hy => hy⟩
/-- Many ways: each with its value and state. -/
theorem kr_of_many {F : FK} {tm : Frame} {s : St} {k : Frame → St → Res} {outs : List (SExit × Frame × St)} {l : List (SV × St)} (hr : runOp P (toFs F) ⟨tm, n⟩ s o = putAll ⟨tm, n⟩ o.dst l) (h : ∀ q ∈ l, ∃ ys, ((pdst n o.dst).p tm q.1 fun tm' => k tm' q.2).outs = some ys ∧ ∀ y ∈ ys, y ∈ outs) :
    ∃ l, runOp P (toFs F) ⟨tm, n⟩ s o = some l ∧ ∀ p ∈ l, p.1.n = n ∧ ∃ ys, (k p.1.tm p.2).outs = some ys ∧ ∀ y ∈ ys, y ∈ outs := by
  rw [hr]
  clear hr
  have key : ∀ (l : List (SV × St)), (∀ q ∈ l, ∃ ys, ((pdst n o.dst).p tm q.1 fun tm' => k tm' q.2).outs = some ys ∧ ∀ y ∈ ys, y ∈ outs) → ∃ m, putAll ⟨tm, n⟩ o.dst l = some m ∧ ∀ p ∈ m, p.1.n = n ∧ ∃ ys, (k p.1.tm p.2).outs = some ys ∧ ∀ y ∈ ys, y ∈ outs := by
    intro l
    induction l with
    | nil => exact fun _ => ⟨[], rfl, fun p hp => by cases hp⟩
    | cons q l ih =>
      intro hl
      obtain ⟨m, m1, m2⟩ := ih fun q hq => hl q (List.mem_cons_of_mem _ hq)
      obtain ⟨ys, y1, y2⟩ := hl q List.mem_cons_self
      obtain ⟨a, p1, p2, p3⟩ := pdst_ok y1
      obtain ⟨v, s'⟩ := q
      refine ⟨(a, s') :: m, by simp only [putAll, p1, m1], fun p hp => ?_⟩
      rcases List.mem_cons.1 hp with e | hp
      · rw [e]; exact ⟨p2, ys, p3, y2⟩
      · exact m2 p hp
  exact key l h
end
/-! ### pieces -/
noncomputable def k1 (n : Nat) (d : Option Tmp) (x : Operand) (q : T SObj → SV → Option SV) : KW :=
  @GW.rec (fun _ => KW) (fun g => @PW.rec Res (fun _ => KW) (fun p => ⟨fun _ tm s k => @Option.rec SV (fun _ => Res) .fail (fun u => @Option.rec SV (fun _ => Res) .fail (fun v => p tm v fun tm' => k tm' s) (q s.h u)) (g tm)⟩) (pdst n d)) (gop x)
noncomputable def k2 (n : Nat) (d : Option Tmp) (x y : Operand) (q : T SObj → SV → SV → Option SV) : KW :=
  @GW.rec (fun _ => KW) (fun g => @GW.rec (fun _ => KW) (fun g' => @PW.rec Res (fun _ => KW) (fun p => ⟨fun _ tm s k => @Option.rec SV (fun _ => Res) .fail (fun u => @Option.rec SV (fun _ => Res) .fail (fun u' => @Option.rec SV (fun _ => Res) .fail (fun v => p tm v fun tm' => k tm' s) (q s.h u u')) (g' tm)) (g tm)⟩) (pdst n d)) (gop y)) (gop x)
noncomputable def kmove (n : Nat) (d : Option Tmp) (x : Operand) : KW :=
  @GW.rec (fun _ => KW) (fun g => @PW.rec Res (fun _ => KW) (fun p => ⟨fun _ tm s k => @Option.rec SV (fun _ => Res) .fail (fun u => p tm u fun tm' => k tm' s) (g tm)⟩) (pdst n d)) (gop x)
/-- An operation that calls nothing, whatever it is. -/
noncomputable def kmid (P : Program) (n : Nat) (o : Oper) : KW :=
  @PW.rec Res (fun _ => KW) (fun p => ⟨fun _ tm s k => match xPure P s.h s.asm ⟨tm, n⟩ o with
    | some l => eachOut (withAsm s l) fun v s' => p tm v fun tm' => k tm' s'
    | none => match xEff P s ⟨tm, n⟩ o with
      | some l => eachOut l fun v s' => p tm v fun tm' => k tm' s'
      | none => .fail⟩) (pdst n o.dst)
section
variable {P : Program} {n : Nat} {o : Oper}
theorem k1_ok {x : Operand} {q : T SObj → SV → Option SV} (H : ∀ h asm a v, a.ev x = some v → xPure P h asm a o = one1 asm (q h v)) : KrOk P n o (k1 n o.dst x q).f := by
  intro F tm s k outs h
  have h : (@Option.rec SV (fun _ => Res) .fail (fun u => @Option.rec SV (fun _ => Res) .fail (fun v => (pdst n o.dst).p tm v fun tm' => k tm' s) (q s.h u)) ((gop x).g tm)).outs = some outs := h
  obtain ⟨u, h1, h⟩ := optV h
  obtain ⟨v, h2, h⟩ := optV h
  rw [gop_ok x tm n] at h1
  exact kr_of_pure (by rw [H s.h s.asm _ u h1, h2]; rfl) h
theorem k2_ok {x y : Operand} {q : T SObj → SV → SV → Option SV} (H : ∀ h asm a u v, a.ev x = some u → a.ev y = some v → xPure P h asm a o = one1 asm (q h u v)) : KrOk P n o (k2 n o.dst x y q).f := by
  intro F tm s k outs h
  have h : (@Option.rec SV (fun _ => Res) .fail (fun u => @Option.rec SV (fun _ => Res) .fail (fun u' => @Option.rec SV (fun _ => Res) .fail (fun v => (pdst n o.dst).p tm v fun tm' => k tm' s) (q s.h u u')) ((gop y).g tm)) ((gop x).g tm)).outs = some outs := h
  obtain ⟨u, h1, h⟩ := optV h
  obtain ⟨u', h1', h⟩ := optV h
  obtain ⟨v, h2, h⟩ := optV h
  rw [gop_ok x tm n] at h1
  rw [gop_ok y tm n] at h1'
  exact kr_of_pure (by rw [H s.h s.asm _ u u' h1 h1', h2]; rfl) h
theorem kmove_ok {x : Operand} (H : ∀ h asm a, xPure P h asm a o = one1 asm (a.ev x)) : KrOk P n o (kmove n o.dst x).f := by
  intro F tm s k outs h
  have h : (@Option.rec SV (fun _ => Res) .fail (fun u => (pdst n o.dst).p tm u fun tm' => k tm' s) ((gop x).g tm)).outs = some outs := h
  obtain ⟨u, h1, h⟩ := optV h
  rw [gop_ok x tm n] at h1
  exact kr_of_pure (by rw [H, h1]; rfl) h
theorem kmid_ok (hc : ∀ a, callOf P a o = none) : KrOk P n o (kmid P n o).f := by
  intro F tm s k outs h
  have h : (match xPure P s.h s.asm ⟨tm, n⟩ o with
    | some l => eachOut (withAsm s l) fun v s' => (pdst n o.dst).p tm v fun tm' => k tm' s'
    | none => match xEff P s ⟨tm, n⟩ o with
      | some l => eachOut l fun v s' => (pdst n o.dst).p tm v fun tm' => k tm' s'
      | none => .fail).outs = some outs := h
  split at h
  · rename_i l hl
    exact kr_of_many (l := withAsm s l) (by simp only [runOp, hl]) (eachOut_outs h)
  · rename_i h0
    split at h
    · rename_i l hl
      exact kr_of_many (l := l) (by simp only [runOp, h0, hc, hl]) (eachOut_outs h)
    · cases h
end
/-! ### a choice -/
noncomputable def kpick (P : Program) (n : Nat) (o : Oper) (c x y : Operand) : KW :=
  @GW.rec (fun _ => KW) (fun gc => @GW.rec (fun _ => KW) (fun g => @GW.rec (fun _ => KW) (fun g' => @PW.rec Res (fun _ => KW) (fun p => @KW.rec (fun _ => KW) (fun m => ⟨fun F tm s k =>
    @Option.rec SV (fun _ => Res) .fail (fun b => @BV.rec (fun _ => Res) .fail (fun b => @Bool.rec (fun _ => Res) (@Option.rec SV (fun _ => Res) .fail (fun u => p tm u fun tm' => k tm' s) (g' tm)) (@Option.rec SV (fun _ => Res) .fail (fun u => p tm u fun tm' => k tm' s) (g tm)) b) (fun _ => m F tm s k) (asBool b)) (gc tm)⟩) (kmid P n o)) (pdst n o.dst)) (gop y)) (gop x)) (gop c)
theorem kpick_ok {P : Program} {n : Nat} {o : Oper} {c x y : Operand} (ho : o.op = .pick c x y) : KrOk P n o (kpick P n o c x y).f := by
  intro F tm s k outs h
  have hm : KrOk P n o (kmid P n o).f := kmid_ok fun a => by simp only [callOf, ho]
  have h : (@Option.rec SV (fun _ => Res) .fail (fun b => @BV.rec (fun _ => Res) .fail (fun b => @Bool.rec (fun _ => Res) (@Option.rec SV (fun _ => Res) .fail (fun u => (pdst n o.dst).p tm u fun tm' => k tm' s) ((gop y).g tm)) (@Option.rec SV (fun _ => Res) .fail (fun u => (pdst n o.dst).p tm u fun tm' => k tm' s) ((gop x).g tm)) b) (fun _ => (kmid P n o).f F tm s k) (asBool b)) ((gop c).g tm)).outs = some outs := h
  obtain ⟨b, h1, h⟩ := optV h
  rw [gop_ok c tm n] at h1
  cases hb : asBool b with
  | no => rw [hb] at h; cases h
  | lit z =>
    rw [hb] at h
    have := asBool_lit hb
    subst this
    cases z with
    | true =>
      obtain ⟨u, h2, h⟩ := optV h
      rw [gop_ok x tm n] at h2
      exact kr_of_pure (by simp only [xPure, kpOf, ho, kpPick, xpick, h1, h2, one1]) h
    | false =>
      obtain ⟨u, h2, h⟩ := optV h
      rw [gop_ok y tm n] at h2
      exact kr_of_pure (by simp only [xPure, kpOf, ho, kpPick, xpick, h1, h2, one1]) h
  | sym z =>
    rw [hb] at h
    exact hm F tm s k outs h
/-! ### a nil check, a part of a tuple -/
noncomputable def notNilF (v : SV) : Bool := @SV.rec (fun _ => Bool) (fun _ => Unit) (fun _ => false) (fun _ _ => false) (fun _ => false) false (fun _ _ => true) false (fun _ _ _ _ _ => false) false (fun _ => false) false (fun f _ _ _ _ => match f with | .func _ => true | _ => false) false (fun _ _ _ => true) (fun _ _ => false) (fun _ _ => false) () (fun _ _ _ _ => ()) v
theorem notNilF_eq (v : SV) : notNilF v = notNil v := by
  cases v with
  | func f a b => cases f <;> rfl
  | _ => rfl
noncomputable def nilCheckF (v : SV) : Option SV := @Bool.rec (fun _ => Option SV) none (some v) (notNilF v)
theorem nilCheckF_ok {P : Program} {o : Oper} {x : Operand} (ho : o.op = .nilCheck x) (h : T SObj) (asm : Asm) (a : SAct) (v : SV) (hv : a.ev x = some v) : xPure P h asm a o = one1 asm (nilCheckF v) := by
  simp only [xPure, kpOf, ho, kpNilCheck, hv, nilCheckF, notNilF_eq]
  cases notNil v <;> rfl
def extractF (i : Nat) (v : SV) : Option SV := match v with | .tup vs => vs[i]? | _ => none
theorem extractF_ok {P : Program} {o : Oper} {x : Operand} {i : Nat} (ho : o.op = .extract x i) (h : T SObj) (asm : Asm) (a : SAct) (v : SV) (hv : a.ev x = some v) : xPure P h asm a o = one1 asm (extractF i v) := by
  simp only [xPure, kpOf, ho, kpExtract, hv, extractF]
  cases v <;> rfl
/-! ### a call of a function by its name -/
structure LGW where
  g : Frame → (List SV → Res) → Res
noncomputable def gops : List Operand → LGW
  | [] => ⟨fun _ k => k []⟩
  | x :: l => @GW.rec (fun _ => LGW) (fun g => @LGW.rec (fun _ => LGW) (fun gl => ⟨fun tm k => @Option.rec SV (fun _ => Res) .fail (fun v => gl tm fun vs => k (v :: vs)) (g tm)⟩) (gops l)) (gop x)
theorem gops_ok {n : Nat} : ∀ {l : List Operand} {tm : Frame} {k : List SV → Res} {outs : List (SExit × Frame × St)}, ((gops l).g tm k).outs = some outs → ∃ vs, evL ⟨tm, n⟩ l = some vs ∧ (k vs).outs = some outs
  | [], tm, k, outs, h => ⟨[], rfl, h⟩
  | x :: l, tm, k, outs, h => by
    have h : (@Option.rec SV (fun _ => Res) .fail (fun v => (gops l).g tm fun vs => k (v :: vs)) ((gop x).g tm)).outs = some outs := h
    obtain ⟨v, h1, h⟩ := optV h
    obtain ⟨vs, h2, h⟩ := gops_ok (n := n) h
    rw [gop_ok x tm n] at h1
    exact ⟨v :: vs, by simp only [evL, h1, h2], h⟩
noncomputable def kcallf (n : Nat) (d : Option Tmp) (f : FuncId) (args : List Operand) : KW :=
  @LGW.rec (fun _ => KW) (fun gl => @PW.rec Res (fun _ => KW) (fun p => ⟨fun F tm s k => gl tm fun vs => @CRes.rec (fun _ => Res) (fun v s' => p tm v fun tm' => k tm' s') (fun l => eachOut l fun v s' => p tm v fun tm' => k tm' s') .fail (F.call f vs s)⟩) (pdst n d)) (gops args)
theorem evL_nil_append (l : List SV) : ([] : List SV) ++ (l ++ []) = l := by simp
theorem kcallf_ok {P : Program} {n : Nat} {o : Oper} {f : FuncId} {args : Array Operand} {ty : Array TypeId} (ho : o.op = .call { callee := .value (.func f), args := args, argTypes := ty }) (hp : plainFunc P f = true) : KrOk P n o (kcallf n o.dst f args.toList).f := by
  intro F tm s k outs h
  have h : ((gops args.toList).g tm fun vs => @CRes.rec (fun _ => Res) (fun v s' => (pdst n o.dst).p tm v fun tm' => k tm' s') (fun l => eachOut l fun v s' => (pdst n o.dst).p tm v fun tm' => k tm' s') .fail (F.call f vs s)).outs = some outs := h
  obtain ⟨vs, h1, h⟩ := gops_ok (n := n) h
  have hc : callOf P ⟨tm, n⟩ o = some (f, vs) := by
    simp only [callOf, ho, SAct.ev, h1, hp]
    rw [evL_nil_append]
  have hx : xPure P s.h s.asm ⟨tm, n⟩ o = none := by simp only [xPure, kpOf, ho, kpNone]
  have hs : ∀ l, (toFs F).call f vs s = some l → runOp P (toFs F) ⟨tm, n⟩ s o = putAll ⟨tm, n⟩ o.dst l := fun l hl => by
    simp only [runOp, hx, hc, hl]
  cases hr : F.call f vs s with
  | one v s' =>
    rw [hr] at h
    obtain ⟨a, p1, p2, p3⟩ := pdst_ok h
    refine ⟨[(a, s')], ?_, fun p hp => ?_⟩
    · rw [hs [(v, s')] (by simp only [toFs, hr, CRes.outs])]
      simp only [putAll, p1]
    · rw [List.mem_singleton.1 hp]
      exact ⟨p2, outs, p3, fun y hy => hy⟩
  | many l =>
    rw [hr] at h
    exact kr_of_many (hs l (by simp only [toFs, hr, CRes.outs])) (eachOut_outs h)
  | fail => rw [hr] at h; cases h
/-! ### memory -/
noncomputable def kstore (P : Program) (n : Nat) (d : Option Tmp) (t : TypeId) (x y : Operand) : KW :=
  match szOf P t with
  | some z => @GW.rec (fun _ => KW) (fun g => @GW.rec (fun _ => KW) (fun g' => @PW.rec Res (fun _ => KW) (fun p => ⟨fun _ tm s k => @Option.rec SV (fun _ => Res) .fail (fun u => @Option.rec SV (fun _ => Res) .fail (fun u' => @PtrV.rec (fun _ => Res) .fail (fun id off =>
      @Bool.rec (fun _ => Res) .fail (@Bool.rec (fun _ => Res) .fail (storeF s id off (cellsF u') fun s' => p tm skipV fun tm' => k tm' s') (onesF (cellsF u'))) (Nat.beq (llen (cellsF u')) z)) (asPtr u)) (g' tm)) (g tm)⟩) (pdst n d)) (gop y)) (gop x)
  | none => ⟨fun _ _ _ _ => .fail⟩
theorem kstore_ok {P : Program} {n : Nat} {o : Oper} {t : TypeId} {x y : Operand} (ho : o.op = .store t x y) : KrOk P n o (kstore P n o.dst t x y).f := by
  intro F tm s k outs h
  unfold kstore at h
  split at h
  · rename_i z hz
    have h : (@Option.rec SV (fun _ => Res) .fail (fun u => @Option.rec SV (fun _ => Res) .fail (fun u' => @PtrV.rec (fun _ => Res) .fail (fun id off =>
      @Bool.rec (fun _ => Res) .fail (@Bool.rec (fun _ => Res) .fail (storeF s id off (cellsF u') fun s' => (pdst n o.dst).p tm skipV fun tm' => k tm' s') (onesF (cellsF u'))) (Nat.beq (llen (cellsF u')) z)) (asPtr u)) ((gop y).g tm)) ((gop x).g tm)).outs = some outs := h
    obtain ⟨u, h1, h⟩ := optV h
    obtain ⟨u', h2, h⟩ := optV h
    rw [gop_ok x tm n] at h1
    rw [gop_ok y tm n] at h2
    rw [cellsF_eq, llen_eq, onesF_eq] at h
    rcases asPtr_cases u with ⟨id, off, rfl, e⟩ | ⟨e, -⟩
    · rw [e] at h
      cases hb : Nat.beq (cellsOf u').length z with
      | false => rw [hb] at h; cases h
      | true =>
        rw [hb] at h
        have h : (@Bool.rec (fun _ => Res) .fail (storeF s id off (cellsOf u') fun s' => (pdst n o.dst).p tm skipV fun tm' => k tm' s') ((cellsOf u').all SV.one)).outs = some outs := h
        cases hc : (cellsOf u').all SV.one with
        | false => rw [hc] at h; cases h
        | true =>
          rw [hc] at h
          obtain ⟨h', w1, w2⟩ := storeF_ok h
          refine kr_of_eff (s' := { s with h := h' }) (v := skipV) (by simp only [xPure, kpOf, ho, kpNone]) (by simp only [callOf, ho]) ?_ w2
          simp only [xEff, keOf, ho, keStore, h1, h2, xstore, hz, hb, hc, w1]
    · rw [e] at h; cases h
  · cases h
noncomputable def kbox (n : Nat) (d : Option Tmp) (t : TypeId) (x : Operand) : KW :=
  @GW.rec (fun _ => KW) (fun g => @PW.rec Res (fun _ => KW) (fun p => ⟨fun _ tm s k => @Option.rec SV (fun _ => Res) .fail (fun u => boxF s (cellsF u) t fun v s' => p tm v fun tm' => k tm' s') (g tm)⟩) (pdst n d)) (gop x)
theorem kbox_ok {P : Program} {n : Nat} {o : Oper} {t : TypeId} {x : Operand} (ho : o.op = .box t x) : KrOk P n o (kbox n o.dst t x).f := by
  intro F tm s k outs h
  have h : (@Option.rec SV (fun _ => Res) .fail (fun u => boxF s (cellsF u) t fun v s' => (pdst n o.dst).p tm v fun tm' => k tm' s') ((gop x).g tm)).outs = some outs := h
  obtain ⟨u, h1, h⟩ := optV h
  rw [boxF_eq, cellsF_eq] at h
  rw [gop_ok x tm n] at h1
  exact kr_of_eff (by simp only [xPure, kpOf, ho, kpNone]) (by simp only [callOf, ho]) (by simp only [xEff, keOf, ho, keBox, h1, xbox]) h
noncomputable def kalloc (P : Program) (n : Nat) (d : Option Tmp) (t : TypeId) : KW :=
  match xzero P t with
  | some z => @PW.rec Res (fun _ => KW) (fun p => ⟨fun _ tm s k => boxF s (cellsF z) t fun v s' => p tm v fun tm' => k tm' s'⟩) (pdst n d)
  | none => ⟨fun _ _ _ _ => .fail⟩
theorem kalloc_ok {P : Program} {n : Nat} {o : Oper} {t : TypeId} (ho : o.op = .alloc t) : KrOk P n o (kalloc P n o.dst t).f := by
  intro F tm s k outs h
  unfold kalloc at h
  split at h
  · rename_i z hz
    have h : (boxF s (cellsF z) t fun v s' => (pdst n o.dst).p tm v fun tm' => k tm' s').outs = some outs := h
    rw [boxF_eq, cellsF_eq] at h
    exact kr_of_eff (by simp only [xPure, kpOf, ho, kpNone]) (by simp only [callOf, ho]) (by simp only [xEff, keOf, ho, keAlloc, xalloc, hz]) h
  · cases h
/-! ### guards -/
inductive GV where
  | no
  | skip
  | lit (b : Bool)
  | sym (b : BX)
noncomputable def asGuard (v : SV) : GV := @SV.rec (fun _ => GV) (fun _ => Unit) (fun b => @BX.rec (fun _ => GV) (fun b => .lit b) (fun i => .sym (.var i)) (fun b _ => .sym (.not b)) (fun a b => .sym (.ieq a b)) (fun a b => .sym (.ilt a b)) (fun a b => .sym (.seq a b)) (fun a b _ _ => .sym (.and a b)) b)
  (fun _ _ => .no) (fun _ => .no) .no (fun _ _ => .no) .no (fun _ _ _ _ _ => .no) .no (fun _ => .no) .no (fun _ _ _ _ _ => .no) .no (fun _ _ _ => .no) (fun _ _ => .no) (fun _ _ => .skip) () (fun _ _ _ _ => ()) v
theorem asGuard_lit {v : SV} {b : Bool} (h : asGuard v = .lit b) : v = .bool (.lit b) := by
  cases v with
  | bool x => cases x <;> cases h; rfl
  | _ => cases h
theorem asGuard_sym {v : SV} {b : BX} (h : asGuard v = .sym b) : v = .bool b := by
  cases v with
  | bool x => cases x <;> cases h <;> rfl
  | _ => cases h
theorem asGuard_skip {v : SV} (h : asGuard v = .skip) : ∃ l, v = .tup l := by
  cases v with
  | bool x => cases x <;> cases h
  | tup l => exact ⟨l, rfl⟩
  | _ => cases h
noncomputable def guardMany (g : BX) (s : St) (f : St → Res) (q : St → Res) : Res := splitWays (ways s.asm g) s f q
noncomputable def kguard (n : Nat) (ops : Array Oper) (o : Oper) (j : Nat) (want : Bool) (inner : KW) : KW :=
  match (ops[j]?).bind (·.dst) with
  | none => @PW.rec Res (fun _ => KW) (fun p => ⟨fun _ tm s k => p tm skipV fun tm' => k tm' s⟩) (pdst n o.dst)
  | some t => @GW.rec (fun _ => KW) (fun g => @PW.rec Res (fun _ => KW) (fun p => @KW.rec (fun _ => KW) (fun f => match want with
    | true => ⟨fun F tm s k => @Option.rec SV (fun _ => Res) .fail (fun v => @GV.rec (fun _ => Res) .fail (p tm skipV fun tm' => k tm' s) (fun b => @Bool.rec (fun _ => Res) (p tm skipV fun tm' => k tm' s) (f F tm s k) b) (fun b => guardMany b s (fun s => f F tm s k) (fun s => p tm skipV fun tm' => k tm' s)) (asGuard v)) (g tm)⟩
    | false => ⟨fun F tm s k => @Option.rec SV (fun _ => Res) .fail (fun v => @GV.rec (fun _ => Res) .fail (p tm skipV fun tm' => k tm' s) (fun b => @Bool.rec (fun _ => Res) (f F tm s k) (p tm skipV fun tm' => k tm' s) b) (fun b => guardMany (mkNot b) s (fun s => f F tm s k) (fun s => p tm skipV fun tm' => k tm' s)) (asGuard v)) (g tm)⟩) inner) (pdst n o.dst)) (gtmp t)
section
variable {P : Program} {n : Nat} {ops : Array Oper} {o : Oper}
theorem guard_skip {F : FK} {tm : Frame} {s : St} {k : Frame → St → Res} {outs : List (SExit × Frame × St)} {q : Nat × Bool} (hg : o.guard = some q) (hv : guardOn ops ⟨tm, n⟩ o = some (.lit false)) (h : ((pdst n o.dst).p tm skipV fun tm' => k tm' s).outs = some outs) :
    ∃ l, opStep P (toFs F) ops ⟨tm, n⟩ s o = some l ∧ ∀ p ∈ l, p.1.n = n ∧ ∃ ys, (k p.1.tm p.2).outs = some ys ∧ ∀ y ∈ ys, y ∈ outs := by
  obtain ⟨a, p1, p2, p3⟩ := pdst_ok h
  refine ⟨[(a, s)], ?_, fun p hp => ?_⟩
  · simp only [opStep, hg, hv, ways, bindL, putAll, p1]
  · rw [List.mem_singleton.1 hp]
    exact ⟨p2, outs, p3, fun y hy => hy⟩
theorem bindL_one {α β : Type} (x : α) (f : α → Option (List β)) : bindL [x] f = f x := by
  simp only [bindL]
theorem guard_run {f : KO} (hf : KrOk P n o f) {F : FK} {tm : Frame} {s : St} {k : Frame → St → Res} {outs : List (SExit × Frame × St)} {q : Nat × Bool} (hg : o.guard = some q) (hv : guardOn ops ⟨tm, n⟩ o = some (.lit true)) (h : (f F tm s k).outs = some outs) :
    ∃ l, opStep P (toFs F) ops ⟨tm, n⟩ s o = some l ∧ ∀ p ∈ l, p.1.n = n ∧ ∃ ys, (k p.1.tm p.2).outs = some ys ∧ ∀ y ∈ ys, y ∈ outs := by
  obtain ⟨l, h1, h2⟩ := hf F tm s k outs h
  refine ⟨l, ?_, h2⟩
  simp only [opStep, hg, hv, ways, bindL_one]
  exact h1
theorem guard_many {f : KO} (hf : KrOk P n o f) {F : FK} {tm : Frame} {s : St} {k : Frame → St → Res} {outs : List (SExit × Frame × St)} {q : Nat × Bool} {g : BX} (hg : o.guard = some q) (hv : guardOn ops ⟨tm, n⟩ o = some g) (h : (guardMany g s (fun s => f F tm s k) (fun s => (pdst n o.dst).p tm skipV fun tm' => k tm' s)).outs = some outs) :
    ∃ l, opStep P (toFs F) ops ⟨tm, n⟩ s o = some l ∧ ∀ p ∈ l, p.1.n = n ∧ ∃ ys, (k p.1.tm p.2).outs = some ys ∧ ∀ y ∈ ys, y ∈ outs := by
  have h := splitWays_outs h
  simp only [opStep, hg, hv]
  have key : ∀ (l : List (Bool × Asm)), (∀ p ∈ l, ∃ ys, (match p.1 with | true => f F tm ⟨s.h, s.next, p.2, s.resv⟩ k | false => (pdst n o.dst).p tm skipV fun tm' => k tm' ⟨s.h, s.next, p.2, s.resv⟩).outs = some ys ∧ ∀ y ∈ ys, y ∈ outs) →
      ∃ m, (bindL l fun p => match p.1 with | true => runOp P (toFs F) ⟨tm, n⟩ { s with asm := p.2 } o | false => putAll ⟨tm, n⟩ o.dst [(skipV, { s with asm := p.2 })]) = some m ∧ ∀ p ∈ m, p.1.n = n ∧ ∃ ys, (k p.1.tm p.2).outs = some ys ∧ ∀ y ∈ ys, y ∈ outs := by
    intro l hl
    refine bindL_all fun p hp => ?_
    obtain ⟨ys, y1, y2⟩ := hl p hp
    obtain ⟨b, asm⟩ := p
    cases b with
    | true =>
      obtain ⟨m, m1, m2⟩ := hf F tm _ k ys y1
      exact ⟨m, m1, fun q hq => ⟨(m2 q hq).1, (m2 q hq).2.imp fun zs hz => ⟨hz.1, fun y hy => y2 y (hz.2 y hy)⟩⟩⟩
    | false =>
      obtain ⟨a, p1, p2, p3⟩ := pdst_ok y1
      refine ⟨[(a, ⟨s.h, s.next, asm, s.resv⟩)], by simp only [putAll, p1], fun q hq => ?_⟩
      rw [List.mem_singleton.1 hq]
      exact ⟨p2, ys, p3, y2⟩
  exact key _ h
def wantB : Bool → BX → BX
  | true, b => b
  | false, b => mkNot b
def gval (want : Bool) : SV → Option BX
  | .bool b => some (wantB want b)
  | .tup _ => some (.lit false)
  | _ => none
theorem guard_val (n : Nat) {j : Nat} {want : Bool} {t : Tmp} {tm : Frame} {v : SV} (hg : o.guard = some (j, want)) (hj : (ops[j]?).bind (·.dst) = some t) (hv : tm.get t = some v) : guardOn ops ⟨tm, n⟩ o = gval want v := by
  simp only [guardOn, hg, hj, hv]
  cases v <;> cases want <;> rfl
theorem kguard_ok {j : Nat} {want : Bool} {inner : KW} (hg : o.guard = some (j, want)) (hf : KrOk P n o inner.f) : KoOk P n ops o (kguard n ops o j want inner).f := by
  intro F tm s k outs h
  unfold kguard at h
  split at h
  · rename_i hj
    have hv : guardOn ops ⟨tm, n⟩ o = some (.lit false) := by simp only [guardOn, hg, hj]
    exact guard_skip hg hv h
  · rename_i t hj
    cases want with
    | true =>
      have h : (@Option.rec SV (fun _ => Res) .fail (fun v => @GV.rec (fun _ => Res) .fail ((pdst n o.dst).p tm skipV fun tm' => k tm' s) (fun b => @Bool.rec (fun _ => Res) ((pdst n o.dst).p tm skipV fun tm' => k tm' s) (inner.f F tm s k) b) (fun b => guardMany b s (fun s => inner.f F tm s k) (fun s => (pdst n o.dst).p tm skipV fun tm' => k tm' s)) (asGuard v)) ((gtmp t).g tm)).outs = some outs := h
      obtain ⟨v, h1, h⟩ := optV h
      rw [gtmp_ok] at h1
      have hv := guard_val n hg hj h1
      cases hb : asGuard v with
      | no => rw [hb] at h; cases h
      | skip =>
        rw [hb] at h
        obtain ⟨l, rfl⟩ := asGuard_skip hb
        exact guard_skip hg hv h
      | lit b =>
        rw [hb] at h
        have := asGuard_lit hb
        subst this
        cases b with
        | true => exact guard_run hf hg hv h
        | false => exact guard_skip hg hv h
      | sym b =>
        rw [hb] at h
        have := asGuard_sym hb
        subst this
        exact guard_many hf hg hv h
    | false =>
      have h : (@Option.rec SV (fun _ => Res) .fail (fun v => @GV.rec (fun _ => Res) .fail ((pdst n o.dst).p tm skipV fun tm' => k tm' s) (fun b => @Bool.rec (fun _ => Res) (inner.f F tm s k) ((pdst n o.dst).p tm skipV fun tm' => k tm' s) b) (fun b => guardMany (mkNot b) s (fun s => inner.f F tm s k) (fun s => (pdst n o.dst).p tm skipV fun tm' => k tm' s)) (asGuard v)) ((gtmp t).g tm)).outs = some outs := h
      obtain ⟨v, h1, h⟩ := optV h
      rw [gtmp_ok] at h1
      have hv := guard_val n hg hj h1
      cases hb : asGuard v with
      | no => rw [hb] at h; cases h
      | skip =>
        rw [hb] at h
        obtain ⟨l, rfl⟩ := asGuard_skip hb
        exact guard_skip hg hv h
      | lit b =>
        rw [hb] at h
        have := asGuard_lit hb
        subst this
        cases b with
        | true => exact guard_skip hg hv h
        | false => exact guard_run hf hg hv h
      | sym b =>
        rw [hb] at h
        have := asGuard_sym hb
        subst this
        exact guard_many hf hg hv h
end
/-! ### a struct that is built -/
noncomputable def kbuild (P : Program) (n : Nat) (o : Oper) (t : TypeId) (parts : Array (Nat × Operand)) : KW :=
  match kbuildW Res .fail P t parts.toList with
  | some (b, z) => @BW.rec Res (fun _ => KW) (fun b => @PW.rec Res (fun _ => KW) (fun p => ⟨fun _ tm s k => b tm z fun c => p tm (.agg c) fun tm' => k tm' s⟩) (pdst n o.dst)) b
  | none => kmid P n o
theorem kbuild_ok {P : Program} {n : Nat} {o : Oper} {t : TypeId} {parts : Array (Nat × Operand)} (ho : o.op = .build t parts) : KrOk P n o (kbuild P n o t parts).f := by
  unfold kbuild
  split
  · rename_i b z hb
    intro F tm s k outs h
    have h : (b.b tm z fun c => (pdst n o.dst).p tm (.agg c) fun tm' => k tm' s).outs = some outs := h
    rcases kbuildW_ok hb n tm (fun c => (pdst n o.dst).p tm (.agg c) fun tm' => k tm' s) with e | ⟨c, h1, h2⟩
    · rw [e] at h; cases h
    · rw [h2] at h
      exact kr_of_pure (by simp only [xPure, kpOf, ho, kpBuild, h1, one1]) h
  · exact kmid_ok fun a => by simp only [callOf, ho]
/-! ### which piece for which operation -/
noncomputable def kop0 (P : Program) (n : Nat) (o : Oper) : KW :=
  match o.op with
  | .move x => kmove n o.dst x
  | .assign x => kmove n o.dst x
  | .load t x => @QW.rec (fun _ => KW) (fun q => k1 n o.dst x q) (kload P t)
  | .nilCheck x => k1 n o.dst x fun _ v => nilCheckF v
  | .extract x i => k1 n o.dst x fun _ v => extractF i v
  | .fieldAddr t x f => @Q1W.rec (fun _ => KW) (fun q => k1 n o.dst x fun _ v => q v) (kfaddr P t f)
  | .field t x f => @Q1W.rec (fun _ => KW) (fun q => k1 n o.dst x fun _ v => q v) (kfield P t f)
  | .unOp op _ x => k1 n o.dst x fun _ v => xun op v
  | .convert src dst x => k1 n o.dst x fun h v => xconvert P h src dst v
  | .binOp op t x y _ => @Q2W.rec (fun _ => KW) (fun q => k2 n o.dst x y fun _ u v => q u v) (kbinS P op t (isConstO x || isConstO y))
  | .indexAddr t x i => @Q2W.rec (fun _ => KW) (fun q => k2 n o.dst x i fun _ u v => q u v) (kiaddr P t)
  | .index t x i => k2 n o.dst x i fun _ u v => xindex P t u v
  | .pick c x y => kpick P n o c x y
  | .store t x y => kstore P n o.dst t x y
  | .box t x => kbox n o.dst t x
  | .alloc t => kalloc P n o.dst t
  | .call { callee := .value (.func f), args := args, argTypes := _ } => match plainFunc P f with
    | true => kcallf n o.dst f args.toList
    | false => kgen P n o
  | .build t parts => kbuild P n o t parts
  | .call { callee := .builtin .len, args := args, argTypes := tys } => match args.toList, tys[0]? with
    | [x], some t => @QW.rec (fun _ => KW) (fun q => k1 n o.dst x q) (klen P t)
    | _, _ => kmid P n o
  | .call { callee := .builtin _, .. } => kmid P n o
  | .call _ => kgen P n o
  | _ => kmid P n o
theorem kop0_ok (P : Program) (n : Nat) (o : Oper) : KrOk P n o (kop0 P n o).f := by
  unfold kop0
  split
  · rename_i x ho
    exact kmove_ok fun h asm a => by simp only [xPure, kpOf, ho, kpMove]
  · rename_i x ho
    exact kmove_ok fun h asm a => by simp only [xPure, kpOf, ho, kpAssign]
  · rename_i t x ho
    exact k1_ok (q := (kload P t).q) fun h asm a v hv => by rw [kload_eq]; simp only [xPure, kpOf, ho, kpLoad, hv]
  · rename_i x ho
    exact k1_ok (nilCheckF_ok ho)
  · rename_i x i ho
    exact k1_ok (extractF_ok ho)
  · rename_i t x f ho
    exact k1_ok (q := fun _ v => (kfaddr P t f).q v) fun h asm a v hv => by rw [kfaddr_eq]; simp only [xPure, kpOf, ho, kpFieldAddr, hv]
  · rename_i t x f ho
    exact k1_ok (q := fun _ v => (kfield P t f).q v) fun h asm a v hv => by rw [kfield_eq]; simp only [xPure, kpOf, ho, kpField, hv]
  · rename_i op _ x ho
    exact k1_ok fun h asm a v hv => by simp only [xPure, kpOf, ho, kpUnOp, hv]
  · rename_i src dst x ho
    exact k1_ok fun h asm a v hv => by simp only [xPure, kpOf, ho, kpConvert, hv]
  · rename_i op t x y _ ho
    exact k2_ok (q := fun _ u v => (kbinS P op t (isConstO x || isConstO y)).q u v) fun h asm a u v hu hv => by rw [kbinS_eq]; simp only [xPure, kpOf, ho, kpBinOp, hu, hv]
  · rename_i t x i ho
    exact k2_ok (q := fun _ u v => (kiaddr P t).q u v) fun h asm a u v hu hv => by rw [kiaddr_eq]; simp only [xPure, kpOf, ho, kpIndexAddr, hu, hv]
  · rename_i t x i ho
    exact k2_ok fun h asm a u v hu hv => by simp only [xPure, kpOf, ho, kpIndex, hu, hv]
  · rename_i c x y ho
    exact kpick_ok ho
  · rename_i t x y ho
    exact kstore_ok ho
  · rename_i t x ho
    exact kbox_ok ho
  · rename_i t ho
    exact kalloc_ok ho
  · rename_i f args ty ho
    split
    · rename_i hp
      exact kcallf_ok ho hp
    · exact kgen_ok P n o
  · rename_i t parts ho
    exact kbuild_ok ho
  · rename_i args tys ho
    split
    · rename_i x t h1 h2
      exact k1_ok (q := (klen P t).q) fun h asm a v hv => by rw [klen_eq]; simp only [xPure, kpOf, ho, kpCall, h1, h2, hv]
    · exact kmid_ok fun a => by simp only [callOf, ho]
  · rename_i b args ty _ ho
    exact kmid_ok fun a => by simp only [callOf, ho]
  · exact kgen_ok P n o
  · rename_i ho
    refine kmid_ok fun a => ?_
    unfold callOf
    split
    · rename_i e; exact (ho _ e).elim
    · rename_i e; exact (ho _ e).elim
    · rfl
noncomputable def kop (P : Program) (n : Nat) (ops : Array Oper) (o : Oper) : KW :=
  match o.guard with
  | none => kop0 P n o
  | some (j, want) => kguard n ops o j want (kop0 P n o)
theorem kop_ok (P : Program) (n : Nat) (ops : Array Oper) (o : Oper) : KoOk P n ops o (kop P n ops o).f := by
  unfold kop
  split
  · rename_i hg
    intro F tm s k outs h
    obtain ⟨l, h1, h2⟩ := kop0_ok P n o F tm s k outs h
    exact ⟨l, by simp only [opStep, hg]; exact h1, h2⟩
  · rename_i j want hg
    exact kguard_ok hg (kop0_ok P n o)
end Go.Sx
