/-
  A fast symbolic run (part 5): code, functions, and the theorem.
-/
import Derived.Test.YtkckgjjhnjcffaaSyR
namespace Go.Sx
set_option linter.unusedVariables false
set_option linter.unusedSimpArgs false
section
variable {P : Program} {w0 w : World} {E : Env} {s : St} {n : Nat}
/-- How a piece of code ends: it goes on as k says, or it leaves. -/
def PostK (w0 : World) (E : Env) (n : Nat) (k : Frame → St → Res) (outs : List (SExit × Frame × St)) : Exit → Act → World → Prop := fun e A w =>
  ∃ tm s E', E.Le E' ∧ ActRel E' ⟨tm, n⟩ A ∧ Rel w0 E' s w ∧
    ((e = .normal ∧ ∃ ys, (k tm s).outs = some ys ∧ ∀ y ∈ ys, y ∈ outs) ∨ ∃ se, ExOk se e ∧ e ≠ .normal ∧ (se, tm, s) ∈ outs)
theorem PostK.noPanic {k : Frame → St → Res} {outs : List (SExit × Frame × St)} {c : List PanicEntry} {A : Act} {w : World} (h : PostK w0 E n k outs (.panic c) A w) : False := by
  obtain ⟨tm, s, E', h1, h2, h3, ⟨e, -⟩ | ⟨se, h4, -⟩⟩ := h
  · cases e
  · cases se <;> exact h4.elim
theorem PostK.weaken {E E' : Env} {k : Frame → St → Res} {outs outs' : List (SExit × Frame × St)} (le : E.Le E') (h : ∀ p ∈ outs', p ∈ outs) {e : Exit} {A : Act} {w : World} (hp : PostK w0 E' n k outs' e A w) : PostK w0 E n k outs e A w := by
  obtain ⟨tm, s, E2, h1, h2, h3, h4⟩ := hp
  refine ⟨tm, s, E2, le.trans h1, h2, h3, ?_⟩
  rcases h4 with ⟨e, ys, h5, h6⟩ | ⟨se, h5, h6, h7⟩
  · exact .inl ⟨e, ys, h5, fun y hy => h _ (h6 y hy)⟩
  · exact .inr ⟨se, h5, h6, h _ h7⟩
theorem PostK.toPost {outs : List (SExit × Frame × St)} {e : Exit} {A : Act} {w : World} (hp : PostK w0 E n Res.norm outs e A w) : Post w0 E (withN n outs) e A w := by
  obtain ⟨tm, s, E2, h1, h2, h3, ⟨rfl, ys, h5, h6⟩ | ⟨se, h5, h6, h7⟩⟩ := hp
  · cases h5
    exact ⟨.normal, ⟨tm, n⟩, s, E2, mem_withN.2 ⟨rfl, h6 _ (List.mem_singleton.2 rfl)⟩, trivial, h1, h2, h3⟩
  · exact ⟨se, ⟨tm, n⟩, s, E2, mem_withN.2 ⟨rfl, h7⟩, h5, h1, h2, h3⟩
theorem toPostK {k : Frame → St → Res} {r : Res} {outs : List (SExit × Frame × St)} (h : (r.bind k).outs = some outs) : ∃ o1, r.outs = some o1 ∧ ∀ {e : Exit} {A : Act} {w : World}, Post w0 E (withN n o1) e A w → PostK w0 E n k outs e A w := by
  obtain ⟨o1, h1, h2⟩ := bind_outs h
  refine ⟨o1, h1, fun {e A w} hp => ?_⟩
  obtain ⟨se, ⟨tm, m⟩, s, E2, p1, p2, p3, p4, p5⟩ := hp
  obtain ⟨e1, hm⟩ := mem_withN.1 p1
  dsimp only at e1 hm
  subst e1
  obtain ⟨q1, q2⟩ := h2 _ hm
  refine ⟨tm, s, E2, p3, p4, p5, ?_⟩
  cases se with
  | normal =>
    cases e <;> simp only [ExOk] at p2
    exact .inl ⟨rfl, q1 rfl⟩
  | exit i => cases e <;> simp only [ExOk] at p2 <;> exact .inr ⟨.exit i, p2, nofun, q2 nofun⟩
  | ret => cases e <;> simp only [ExOk] at p2 <;> exact .inr ⟨.ret, trivial, nofun, q2 nofun⟩
structure FKOk (P : Program) (F : FK) : Prop where
  fs : FsOk P (toFs F)
  loops : ∃ N, ∀ n c tm s outs, (F.exec n (.loop c) tm s).outs = some outs → ∀ w0 E A w, ActRel E ⟨tm, n⟩ A → Rel w0 E s w → Code.rounds P c (Post w0 E (withN n outs)) N A w
def KcOk (P : Program) (n : Nat) (c : Code) (f : KO) : Prop :=
  ∀ F, FKOk P F → ∀ tm s k outs, (f F tm s k).outs = some outs → ∀ w0 E A w, ActRel E ⟨tm, n⟩ A → Rel w0 E s w → c.wp P (PostK w0 E n k outs) A w
/-! ### lists of operations -/
noncomputable def kthen (f g : KW) : KW := @KW.rec (fun _ => KW) (fun f => @KW.rec (fun _ => KW) (fun g => ⟨fun F tm s k => f F tm s fun tm s => g F tm s k⟩) g) f
theorem kthen_f (f g : KW) (F : FK) (tm : Frame) (s : St) (k : Frame → St → Res) : (kthen f g).f F tm s k = f.f F tm s fun tm s => g.f F tm s k := rfl
noncomputable def kops (P : Program) (n : Nat) (ops : Array Oper) : List Oper → KW
  | [] => ⟨fun _ tm s k => k tm s⟩
  | [o] => kop P n ops o
  | o :: l => kthen (kop P n ops o) (kops P n ops l)
theorem kops_ok {F : FK} (hF : FsOk P (toFs F)) {ops : Array Oper} : ∀ {l : List Oper} {tm : Frame} {s : St} {E : Env} {A : Act} {w : World} {k : Frame → St → Res} {outs : List (SExit × Frame × St)}, ActRel E ⟨tm, n⟩ A → Rel w0 E s w → ((kops P n ops l).f F tm s k).outs = some outs → ∀ {Q : Exit → Act → World → Prop},
    (∀ tm' s' E' A' w' ys, (k tm' s').outs = some ys → (∀ y ∈ ys, y ∈ outs) → E.Le E' → ActRel E' ⟨tm', n⟩ A' → Rel w0 E' s' w' → Q .normal A' w') → wpList P ops Q l A w := by
  intro l
  induction l with
  | nil =>
    intro tm s E A w k outs hA R h Q hQ
    exact wpList_nil (hQ tm s E A w outs h (fun y hy => hy) (.refl E) hA R)
  | cons o l ih =>
    intro tm s E A w k outs hA R h Q hQ
    have one : ∀ {k' : Frame → St → Res}, ((kop P n ops o).f F tm s k').outs = some outs → (∀ tm' s' E' A' w' ys, (k' tm' s').outs = some ys → (∀ y ∈ ys, y ∈ outs) → E.Le E' → ActRel E' ⟨tm', n⟩ A' → Rel w0 E' s' w' → wpList P ops Q l A' w') → wpList P ops Q (o :: l) A w := fun h' hk => by
      obtain ⟨l1, h1, h2⟩ := kop_ok P n ops o F tm s _ _ h'
      refine wpList_step fun K hK => opStep_ok hF hA R h1 fun a' s' E' A' w' hm le hA' R' => ?_
      obtain ⟨p1, ys, p2, p3⟩ := h2 _ hm
      obtain ⟨t', m'⟩ := a'
      dsimp only at p1
      subst p1
      exact hK _ _ (hk t' s' E' A' w' ys p2 p3 le hA' R')
    cases l with
    | nil => exact one h fun tm' s' E' A' w' ys q1 q2 le hA' R' => wpList_nil (hQ tm' s' E' A' w' ys q1 q2 le hA' R')
    | cons o' l' =>
      refine one (k' := fun tm s => (kops P n ops (o' :: l')).f F tm s k) h fun tm' s' E' A' w' ys q1 q2 le hA' R' => ?_
      exact ih hA' R' q1 fun tm2 s2 E2 A2 w2 zs r1 r2 le2 hA2 R2 => hQ tm2 s2 E2 A2 w2 zs r1 (fun y hy => q2 _ (r2 y hy)) (le.trans le2) hA2 R2
/-! ### code -/
noncomputable def condMany (x : BX) (s : St) (k : Frame → St → Res) (f g : St → (Frame → St → Res) → Res) : Res := splitWays (ways s.asm x) s (fun s => f s k) (fun s => g s k)
noncomputable def kcond (o : Option SV) (s : St) (k : Frame → St → Res) (f g : St → (Frame → St → Res) → Res) : Res :=
  @Option.rec SV (fun _ => Res) .fail (fun v => @BV.rec (fun _ => Res) .fail (fun b => @Bool.rec (fun _ => Res) (g s k) (f s k) b) (fun x => condMany x s k f g) (asBool v)) o
def leaveF (id : Nat) (p : SExit × Frame × St) : SExit × Frame × St :=
  match p.1 with
  | .exit i => match Nat.beq i id with
    | true => (.normal, p.2.1, p.2.2)
    | false => p
  | _ => p
noncomputable def Res.leave (id : Nat) (r : Res) (k : Frame → St → Res) : Res :=
  @Res.rec (fun _ => Res) k (fun i tm s => @Bool.rec (fun _ => Res) (.exit i tm s) (k tm s) (Nat.beq i id)) Res.ret (fun l => Res.bindMany (l.map (leaveF id)) k) .fail r
theorem leave_outs {id : Nat} {r : Res} {k : Frame → St → Res} {outs : List (SExit × Frame × St)} (h : (r.leave id k).outs = some outs) :
    ∃ o1, r.outs = some o1 ∧ ((Res.many (o1.map (leaveF id))).bind k).outs = some outs := by
  cases r with
  | norm tm s =>
    refine ⟨_, rfl, ?_⟩
    show (ofMany (bindL [((SExit.normal, tm, s) : SExit × Frame × St)] _)).outs = _
    rw [ofMany_outs]
    have h : (k tm s).outs = some outs := h
    simp [bindL, h]
  | exit i tm s =>
    refine ⟨_, rfl, ?_⟩
    have h : (@Bool.rec (fun _ => Res) (.exit i tm s) (k tm s) (Nat.beq i id)).outs = some outs := h
    show (ofMany (bindL [leaveF id (.exit i, tm, s)] _)).outs = _
    rw [ofMany_outs]
    cases hb : Nat.beq i id with
    | true =>
      rw [hb] at h
      have h : (k tm s).outs = some outs := h
      simp only [leaveF, hb]
      simp [bindL, h]
    | false =>
      rw [hb] at h
      have h : some [(SExit.exit i, tm, s)] = some outs := h
      simp only [leaveF, hb]
      simpa [bindL] using h
  | ret tm s =>
    have h : some [(SExit.ret, tm, s)] = some outs := h
    refine ⟨_, rfl, ?_⟩
    have e : (Res.many (List.map (leaveF id) [(SExit.ret, tm, s)])).bind k = Res.bindMany [(SExit.ret, tm, s)] k := rfl
    rw [e]
    simp only [Res.bindMany, ofMany_outs]
    simpa [bindL] using h
  | many l => exact ⟨l, rfl, h⟩
  | fail => cases h
noncomputable def kcode (P : Program) (n : Nat) : Code → KW
  | .skip => ⟨fun _ tm s k => k tm s⟩
  | .label _ => ⟨fun _ tm s k => k tm s⟩
  | .ret => ⟨fun _ tm s k => .ret tm s⟩
  | .exit id => ⟨fun _ tm s k => .exit id tm s⟩
  | .region _ ops draw => match draw with
    | false => kops P n ops ops.toList
    | true => kdraw P n ops
  | .seq x y => kthen (kcode P n x) (kcode P n y)
  | .cond c x y => @GW.rec (fun _ => KW) (fun g => @KW.rec (fun _ => KW) (fun f1 => @KW.rec (fun _ => KW) (fun f2 => ⟨fun F tm s k => kcond (g tm) s k (f1 F tm) (f2 F tm)⟩) (kcode P n y)) (kcode P n x)) (gop c)
  | .block id x => @KW.rec (fun _ => KW) (fun f => ⟨fun F tm s k => Res.leave id (f F tm s Res.norm) k⟩) (kcode P n x)
  | .loop x => @KW.rec (fun _ => KW) (fun f => ⟨fun F tm s k => f F tm s fun tm s => F.exec n (.loop x) tm s⟩) (kcode P n x)
  | .scope x => kcode P n x
  | _ => ⟨fun _ _ _ _ => .fail⟩
theorem rounds_strict {c : Code} {Q : Exit → Act → World → Prop} : ∀ {N : Nat} {a : Act} {w : World}, Code.rounds P c Q N a w → Code.rounds P c (fun e a w => e ≠ .normal ∧ Q e a w) N a w
  | 0, a, w, hr => hr.elim
  | N + 1, a, w, hr => by
    rw [rounds_succ] at hr ⊢
    refine wp_mono hr fun e a w hq => ?_
    cases e with
    | normal => exact rounds_strict hq
    | _ => exact ⟨nofun, hq⟩
theorem kcond_ok {c : Operand} {x y : Code} {g : Frame → Option SV} {f1 f2 : KO} (hg : ∀ tm, g tm = SAct.ev ⟨tm, n⟩ c) (h1 : KcOk P n x f1) (h2 : KcOk P n y f2) : KcOk P n (.cond c x y) (fun F tm s k => kcond (g tm) s k (f1 F tm) (f2 F tm)) := by
  intro F hF tm s k outs h w0 E A w hA R
  have hv := hg tm
  have h : (kcond (g tm) s k (f1 F tm) (f2 F tm)).outs = some outs := h
  revert h hv
  cases g tm with
  | none => intro _ h; cases h
  | some v =>
    intro hv h
    have h2' : (@BV.rec (fun _ => Res) .fail (fun b => @Bool.rec (fun _ => Res) (f2 F tm s k) (f1 F tm s k) b) (fun x => condMany x s k (f1 F tm) (f2 F tm)) (asBool v)).outs = some outs := h
    clear h
    cases hb : asBool v with
    | no => rw [hb] at h2'; cases h2'
    | lit b =>
      rw [hb] at h2'
      have := asBool_lit hb
      subst this
      have hC := ev_ok hA hv.symm
      have hC : A.eval c = .bool b := by simp only [SV.den, BX.den, Option.some.injEq] at hC; exact hC.symm
      refine wp_cond hC ?_
      cases b with
      | true => exact h1 F hF tm s k outs h2' w0 E A w hA R
      | false => exact h2 F hF tm s k outs h2' w0 E A w hA R
    | sym b =>
      rw [hb] at h2'
      have := asBool_sym hb
      subst this
      have hC := ev_ok hA hv.symm
      obtain ⟨z, z1, hC⟩ := den_bool hC
      have h := splitWays_outs (f := fun s => f1 F tm s k) (q := fun s => f2 F tm s k) h2'
      obtain ⟨asm', h3, h4⟩ := ways_ok R.asm z1
      obtain ⟨ys, q1, q2⟩ := h _ h3
      refine wp_cond hC ?_
      cases z with
      | true => exact wp_mono (h1 F hF tm _ k ys q1 w0 E A w hA (R.setAsm h4)) fun e A2 w2 hp2 => hp2.weaken (.refl E) q2
      | false => exact wp_mono (h2 F hF tm _ k ys q1 w0 E A w hA (R.setAsm h4)) fun e A2 w2 hp2 => hp2.weaken (.refl E) q2
theorem kcode_ok (P : Program) (n : Nat) : ∀ c : Code, KcOk P n c (kcode P n c).f := by
  intro c
  induction c with
  | skip => exact fun F hF tm s k outs h w0 E A w hA R => wp_skip ⟨tm, s, E, .refl E, hA, R, .inl ⟨rfl, outs, h, fun y hy => hy⟩⟩
  | label l => exact fun F hF tm s k outs h w0 E A w hA R => wp_label ⟨tm, s, E, .refl E, hA, R, .inl ⟨rfl, outs, h, fun y hy => hy⟩⟩
  | ret =>
    intro F hF tm s k outs h w0 E A w hA R
    cases h
    exact wp_ret ⟨tm, s, E, .refl E, hA, R, .inr ⟨.ret, trivial, nofun, List.mem_singleton.2 rfl⟩⟩
  | exit id =>
    intro F hF tm s k outs h w0 E A w hA R
    cases h
    exact wp_exit ⟨tm, s, E, .refl E, hA, R, .inr ⟨.exit id, rfl, nofun, List.mem_singleton.2 rfl⟩⟩
  | region id ops draw =>
    intro F hF tm s k outs h w0 E A w hA R
    cases draw with
    | false =>
      exact wp_region_list (kops_ok hF.fs hA R h fun tm' s' E' A' w' ys q1 q2 le hA' R' => ⟨tm', s', E', le, hA', R', .inl ⟨rfl, ys, q1, q2⟩⟩)
    | true =>
      exact kdraw_ok hF.fs h hA R (fun v d c a w hp => (hp.noPanic).elim) (fun tm' s' E' A' w' ys q1 q2 le hA' R' => ⟨tm', s', E', le, hA', R', .inl ⟨rfl, ys, q1, q2⟩⟩) id
  | seq x y ihx ihy =>
    intro F hF tm s k outs h w0 E A w hA R
    have h : ((kcode P n x).f F tm s fun tm s => (kcode P n y).f F tm s k).outs = some outs := h
    refine wp_seq (wp_mono (ihx F hF tm s _ outs h w0 E A w hA R) fun e A' w' hp => ?_)
    obtain ⟨tm', s', E', le, hA', R', ⟨rfl, ys, q1, q2⟩ | ⟨se, q1, q2, q3⟩⟩ := hp
    · exact wp_mono (ihy F hF tm' s' k ys q1 w0 E' A' w' hA' R') fun e A2 w2 hp2 => hp2.weaken le q2
    · have := (⟨tm', s', E', le, hA', R', .inr ⟨se, q1, q2, q3⟩⟩ : PostK w0 E n k outs e A' w')
      cases e with
      | normal => exact (q2 rfl).elim
      | _ => exact this
  | cond c x y ihx ihy =>
    have := kcond_ok (c := c) (g := (gop c).g) (fun tm => gop_ok c tm n) ihx ihy
    exact this
  | block id x ih =>
    intro F hF tm s k outs h w0 E A w hA R
    have h : (Res.leave id ((kcode P n x).f F tm s Res.norm) k).outs = some outs := h
    obtain ⟨o1, h1, h2⟩ := leave_outs h
    obtain ⟨o2, g1, g2⟩ := toPostK (w0 := w0) (E := E) (n := n) h2
    cases g1
    refine wp_block (wp_mono (ih F hF tm s Res.norm o1 h1 w0 E A w hA R) fun e A' w' hp => ?_)
    obtain ⟨se, a', s', E2, p1, p2, p3, p4, p5⟩ := hp.toPost
    obtain ⟨t', m'⟩ := a'
    obtain ⟨e1, hm⟩ := mem_withN.1 p1
    dsimp only at e1 hm
    subst e1
    have hm' : leaveF id (se, t', s') ∈ o1.map (leaveF id) := List.mem_map.2 ⟨_, hm, rfl⟩
    cases se with
    | normal =>
      cases e <;> simp only [ExOk] at p2
      exact g2 ⟨.normal, ⟨t', _⟩, s', E2, mem_withN.2 ⟨rfl, hm'⟩, trivial, p3, p4, p5⟩
    | ret =>
      cases e <;> simp only [ExOk] at p2
      exact g2 ⟨.ret, ⟨t', _⟩, s', E2, mem_withN.2 ⟨rfl, hm'⟩, trivial, p3, p4, p5⟩
    | exit i =>
      cases e <;> simp only [ExOk] at p2
      subst p2
      simp only [leaveF] at hm'
      simp only [Exit.inBlock]
      split
      · rename_i e; subst e
        rw [Nat.beq_refl] at hm'
        exact g2 ⟨.normal, ⟨t', _⟩, s', E2, mem_withN.2 ⟨rfl, hm'⟩, trivial, p3, p4, p5⟩
      · rename_i e
        have : Nat.beq i id = false := by
          cases hb : Nat.beq i id with
          | false => rfl
          | true => exact (e (Nat.eq_of_beq_eq_true hb)).elim
        rw [this] at hm'
        exact g2 ⟨.exit i, ⟨t', _⟩, s', E2, mem_withN.2 ⟨rfl, hm'⟩, rfl, p3, p4, p5⟩
  | loop x ih =>
    intro F hF tm s k outs h w0 E A w hA R
    have h : ((kcode P n x).f F tm s fun tm s => F.exec n (.loop x) tm s).outs = some outs := h
    obtain ⟨N, hN⟩ := hF.loops
    have hr : Code.rounds P x (Post w0 E (withN n outs)) (N + 1) A w := by
      rw [rounds_succ]
      refine wp_mono (ih F hF tm s _ outs h w0 E A w hA R) fun e A' w' hp => ?_
      obtain ⟨tm', s', E', le, hA', R', ⟨rfl, ys, q1, q2⟩ | ⟨se, q1, q2, q3⟩⟩ := hp
      · refine rounds_mono (fun e A3 w3 hp3 => ?_) (hN n x tm' s' ys q1 w0 E' A' w' hA' R')
        exact hp3.weaken le fun p hp => by
          obtain ⟨e, a, s⟩ := p
          obtain ⟨m1, m2⟩ := mem_withN.1 hp
          exact mem_withN.2 ⟨m1, q2 _ m2⟩
      · have : Post w0 E (withN n outs) e A' w' := ⟨se, ⟨tm', n⟩, s', E', mem_withN.2 ⟨rfl, q3⟩, q1, le, hA', R'⟩
        cases e with
        | normal => exact (q2 rfl).elim
        | _ => exact this
    refine wp_mono (wp_loop_rounds (N + 1) (rounds_strict hr)) fun e A' w' hp => ?_
    obtain ⟨hne, se, a', s', E2, p1, p2, p3, p4, p5⟩ := hp
    obtain ⟨t', m'⟩ := a'
    obtain ⟨e1, hm⟩ := mem_withN.1 p1
    dsimp only at e1 hm
    subst e1
    exact ⟨t', s', E2, p3, p4, p5, .inr ⟨se, p2, hne, hm⟩⟩
  | scope x ih =>
    intro F hF tm s k outs h w0 E A w hA R
    refine wp_scope_straight (wp_mono (ih F hF tm s k outs h w0 E A w hA R) fun e A' w' hp => ?_)
    cases e with
    | goto l =>
      obtain ⟨tm', s', E', le, hA', R', ⟨e, -⟩ | ⟨se, q1, -⟩⟩ := hp
      · cases e
      · cases se <;> exact q1.elim
    | _ => exact hp
  | _ => exact fun F hF tm s k outs h => by cases h
/-! ### functions -/
structure CW where
  g : FK → List SV → St → CRes
structure IW where
  i : List SV → Frame → (Frame → CRes) → CRes
structure RW where
  r : Frame → St → (SV → CRes) → CRes
/-- The first temporaries, m at most. -/
noncomputable def kargs : Nat → Nat → IW
  | 0, _ => ⟨fun l tm k => match l with | [] => k tm | _ :: _ => .fail⟩
  | m + 1, i => @PW.rec CRes (fun _ => IW) (fun p => @IW.rec (fun _ => IW) (fun f => ⟨fun l tm k => @List.rec SV (fun _ => CRes) (k tm) (fun v l' _ => p tm v fun tm' => f l' tm' k) l⟩) (kargs m (i + 1))) (ptmp CRes i)
theorem kargs_ok : ∀ {m i : Nat} {l : List SV} {tm : Frame} {k : Frame → CRes} {outs : List (SV × St)}, ((kargs m i).i l tm k).outs = some outs → l.length ≤ m ∧ (k (initT l i tm)).outs = some outs
  | 0, i, [], tm, k, outs, h => ⟨by simp, h⟩
  | 0, i, _ :: _, tm, k, outs, h => by cases h
  | m + 1, i, [], tm, k, outs, h => ⟨by simp, h⟩
  | m + 1, i, v :: l, tm, k, outs, h => by
    have h : ((ptmp CRes i).p tm v fun tm' => (kargs m (i + 1)).i l tm' k).outs = some outs := h
    rw [ptmp_ok] at h
    obtain ⟨h1, h2⟩ := kargs_ok h
    exact ⟨by simp; omega, h2⟩
noncomputable def kres1 (P : Program) : ResultVar → RW
  | .tmp t => @GW.rec (fun _ => RW) (fun g => ⟨fun tm s k => @Option.rec SV (fun _ => CRes) .fail (fun v => k v) (g tm)⟩) (gtmp t)
  | .cell p t => @GW.rec (fun _ => RW) (fun g => ⟨fun tm s k => @Option.rec SV (fun _ => CRes) .fail (fun v => @Option.rec SV (fun _ => CRes) .fail (fun u => k u) (xload P s.h t v)) (g tm)⟩) (gtmp p)
noncomputable def kresL (P : Program) (fn : Func) : List ResultVar → RW
  | [r] => kres1 P r
  | l => ⟨fun tm s k => match optL (xres1 P ⟨tm, 0⟩ s) l with
    | some vs => k (.tup vs)
    | none => .fail⟩
theorem kres1_ok {r : ResultVar} {tm : Frame} {s : St} {k : SV → CRes} {outs : List (SV × St)} (h : ((kres1 P r).r tm s k).outs = some outs) : ∃ v, xres1 P ⟨tm, n⟩ s r = some v ∧ (k v).outs = some outs := by
  cases r with
  | tmp t =>
    have h : (@Option.rec SV (fun _ => CRes) .fail (fun v => k v) ((gtmp t).g tm)).outs = some outs := h
    rw [gtmp_ok] at h
    simp only [xres1]
    cases hv : tm.get t with
    | none => rw [hv] at h; cases h
    | some v => rw [hv] at h; exact ⟨v, rfl, h⟩
  | cell p t =>
    have h : (@Option.rec SV (fun _ => CRes) .fail (fun v => @Option.rec SV (fun _ => CRes) .fail (fun u => k u) (xload P s.h t v)) ((gtmp p).g tm)).outs = some outs := h
    rw [gtmp_ok] at h
    simp only [xres1]
    cases hv : tm.get p with
    | none => rw [hv] at h; cases h
    | some v =>
      rw [hv] at h
      have h : (@Option.rec SV (fun _ => CRes) .fail (fun u => k u) (xload P s.h t v)).outs = some outs := h
      cases hu : xload P s.h t v with
      | none => rw [hu] at h; cases h
      | some u => rw [hu] at h; exact ⟨u, hu, h⟩
theorem optL_congr {α β : Type} {f g : α → Option β} (h : ∀ a, f a = g a) : ∀ l, optL f l = optL g l
  | [] => rfl
  | a :: l => by simp only [optL, h, optL_congr h l]
theorem kresL_ok {fn : Func} {tm : Frame} {s : St} {k : SV → CRes} {outs : List (SV × St)} (h : ((kresL P fn fn.results.toList).r tm s k).outs = some outs) : ∃ v, xresult P fn ⟨tm, n⟩ s = some v ∧ (k v).outs = some outs := by
  have hc : ∀ r, xres1 P ⟨tm, 0⟩ s r = xres1 P ⟨tm, n⟩ s r := fun r => by cases r <;> rfl
  unfold kresL at h
  unfold xresult
  split at h
  · rename_i r e
    rw [e]
    exact kres1_ok h
  · rename_i l hne
    dsimp only at h
    rw [optL_congr hc] at h
    split
    · rename_i r e
      exact (hne r e).elim
    · split at h
      · rename_i vs hvs
        rw [hvs]
        exact ⟨_, rfl, h⟩
      · cases h
def ofManyC : Option (List (SV × St)) → CRes
  | some l => .many l
  | none => .fail
theorem ofManyC_outs {o : Option (List (SV × St))} : (ofManyC o).outs = o := by cases o <;> rfl
noncomputable def Res.fin (P : Program) (fn : Func) (n : Nat) (res : Frame → St → (SV → CRes) → CRes) (r : Res) : CRes :=
  @Res.rec (fun _ => CRes) (fun tm s => res tm s fun v => .one v s) (fun _ _ _ => .fail) (fun tm s => res tm s fun v => .one v s) (fun l => ofManyC (outsOf P fn (withN n l))) .fail r
theorem fin_ok {fn : Func} {r : Res} {outs : List (SV × St)} (h : (r.fin P fn n (kresL P fn fn.results.toList).r).outs = some outs) :
    ∃ o1, r.outs = some o1 ∧ ∀ e a s, (e, a, s) ∈ withN n o1 → (∀ i, e ≠ .exit i) ∧ ∃ v, xresult P fn a s = some v ∧ (v, s) ∈ outs := by
  cases r with
  | norm tm s =>
    obtain ⟨v, h1, h2⟩ := kresL_ok (n := n) h
    cases h2
    refine ⟨_, rfl, fun e a s' hm => ?_⟩
    cases List.mem_singleton.1 hm
    exact ⟨nofun, v, h1, List.mem_singleton.2 rfl⟩
  | ret tm s =>
    obtain ⟨v, h1, h2⟩ := kresL_ok (n := n) h
    cases h2
    refine ⟨_, rfl, fun e a s' hm => ?_⟩
    cases List.mem_singleton.1 hm
    exact ⟨nofun, v, h1, List.mem_singleton.2 rfl⟩
  | exit i tm s => cases h
  | many l =>
    have h : (ofManyC (outsOf P fn (withN n l))).outs = some outs := h
    rw [ofManyC_outs] at h
    exact ⟨l, rfl, fun e a s hm => outsOf_mem h hm⟩
  | fail => cases h
noncomputable def kfun (P : Program) (C : Contracts) (f : FuncId) : CW :=
  match C f with
  | some g => ⟨fun _ args s => ofManyC (g args s)⟩
  | none => match P.funcs[f]? with
    | some fn => match fn.body with
      | some c => @KW.rec (fun _ => CW) (fun b => @IW.rec (fun _ => CW) (fun i => @RW.rec (fun _ => CW) (fun r => ⟨fun F args s => i args .empty fun tm => Res.fin P fn fn.ntmps r (b F tm s Res.norm)⟩) (kresL P fn fn.results.toList)) (kargs (min fn.ntmps 24) 0)) (kcode P fn.ntmps c)
      | none => ⟨fun _ _ _ => .fail⟩
    | none => ⟨fun _ _ _ => .fail⟩
noncomputable def fk (P : Program) (C : Contracts) (n : Nat) : FK := @Nat.rec (fun _ => FK) ⟨fun _ _ _ _ => .fail, fun _ _ _ => .fail⟩
  (fun _ ih => ⟨fun n c tm s => @KW.rec (fun _ => Res) (fun f => f ih tm s Res.norm) (kcode P n c), fun f args s => @CW.rec (fun _ => CRes) (fun g => g ih args s) (kfun P C f)⟩) n
theorem fk_exec (C : Contracts) (N n : Nat) (c : Code) (tm : Frame) (s : St) : (fk P C (N + 1)).exec n c tm s = (kcode P n c).f (fk P C N) tm s Res.norm := rfl
theorem fk_call (C : Contracts) (N : Nat) (f : FuncId) (args : List SV) (s : St) : (fk P C (N + 1)).call f args s = (kfun P C f).g (fk P C N) args s := rfl
theorem kfun_ok {C : Contracts} (hC : ContractsOk P C) {F : FK} (hF : FKOk P F) {f : FuncId} {args : List SV} {s : St} {outs : List (SV × St)} (h : ((kfun P C f).g F args s).outs = some outs) : CallOk P f args s outs := by
  unfold kfun at h
  split at h
  · rename_i g hg
    rw [ofManyC_outs] at h
    exact hC f g hg args s outs h
  · split at h
    · rename_i fn hfn
      split at h
      · rename_i c hc
        have h : ((kargs (min fn.ntmps 24) 0).i args .empty fun tm => Res.fin P fn fn.ntmps (kresL P fn fn.results.toList).r ((kcode P fn.ntmps c).f F tm s Res.norm)).outs = some outs := h
        obtain ⟨hl, h⟩ := kargs_ok h
        obtain ⟨o1, ho1, h2⟩ := fin_ok h
        intro w0 E w ARGS hA R
        have hmax : max args.length fn.ntmps = fn.ntmps := by omega
        have hi := init_rel hA fn.ntmps
        rw [hmax] at hi
        refine calls_of_wp hfn hc ?_
        refine wp_mono (kcode_ok P fn.ntmps c F hF _ s Res.norm o1 ho1 w0 E _ w hi R) fun e A' w' hp => ?_
        obtain ⟨se, a', s', E2, h1, h2', h3, h4, h5⟩ := hp.toPost
        obtain ⟨k1, v, k2, k3⟩ := h2 _ _ _ h1
        obtain ⟨V, r1, r2⟩ := results_ok h4 h5 k2
        have fin : A'.defers = [] ∧ ∃ v', (results fn A'.tmps).run P w' = .ok v' w' ∧ CallPost w0 E outs (.returned v') w' := ⟨h4.defers, V, r2, v, s', E2, V, k3, h3, r1, rfl, h5⟩
        cases se with
        | normal => cases e <;> simp only [ExOk] at h2'; exact fin
        | ret => cases e <;> simp only [ExOk] at h2'; exact fin
        | exit i => exact (k1 i rfl).elim
      · cases h
    · cases h
theorem fk_ok {C : Contracts} (hC : ContractsOk P C) : ∀ N, FsOk P (toFs (fk P C N)) ∧ ∀ n c tm s outs, ((fk P C N).exec n (.loop c) tm s).outs = some outs → ∀ w0 E A w, ActRel E ⟨tm, n⟩ A → Rel w0 E s w → Code.rounds P c (Post w0 E (withN n outs)) N A w
  | 0 => ⟨⟨(fun c a s outs h => by cases h), (fun f args s outs h => by cases h)⟩, (fun n c tm s outs h => by cases h)⟩
  | N + 1 => by
    obtain ⟨ih, ihl⟩ := fk_ok hC N
    have hF : FKOk P (fk P C N) := ⟨ih, N, ihl⟩
    refine ⟨⟨fun c a s outs h w0 E A w hA R => ?_, fun f args s outs h => kfun_ok hC hF h⟩, fun n c tm s outs h w0 E A w hA R => ?_⟩
    · have h : (match ((kcode P a.n c).f (fk P C N) a.tm s Res.norm).outs with | some l => some (withN a.n l) | none => none) = some outs := h
      split at h
      · rename_i l hl
        cases h
        exact wp_mono (kcode_ok P a.n c _ hF a.tm s Res.norm l hl w0 E A w hA R) fun e A' w' hp => hp.toPost
      · cases h
    · have h : ((kcode P n c).f (fk P C N) tm s fun tm s => (fk P C N).exec n (.loop c) tm s).outs = some outs := h
      rw [rounds_succ]
      refine wp_mono (kcode_ok P n c _ hF tm s _ outs h w0 E A w hA R) fun e A' w' hp => ?_
      obtain ⟨tm', s', E', le, hA', R', ⟨rfl, ys, q1, q2⟩ | ⟨se, q1, q2, q3⟩⟩ := hp
      · refine rounds_mono (fun e A3 w3 hp3 => ?_) (ihl n c tm' s' ys q1 w0 E' A' w' hA' R')
        exact hp3.weaken le fun p hp => by
          obtain ⟨e, a, s⟩ := p
          obtain ⟨m1, m2⟩ := mem_withN.1 hp
          exact mem_withN.2 ⟨m1, q2 _ m2⟩
      · have : Post w0 E (withN n outs) e A' w' := ⟨se, ⟨tm', n⟩, s', E', mem_withN.2 ⟨rfl, q3⟩, q1, le, hA', R'⟩
        cases e with
        | normal => exact (q2 rfl).elim
        | _ => exact this
end
/-- A run that finds 'true' on every way. -/
theorem true_of_fast {P : Program} {C : Contracts} (hC : ContractsOk P C) {n : Nat} {f : FuncId} {args : List SV} {asm : Asm} (h : allTrue ((fk P C n).call f args { asm := asm }).outs = true) {E : Env} (hE : ∀ id, E.blk id = none) (ha : AsmOk E asm) {ARGS : List Value} (hA : SV.denL E args = some ARGS) (w : World) :
    Calls P f ARGS.toArray w fun e w' => e = .returned (.bool true) ∧ RowKit.Below w.heap.size w w' := by
  cases ho : ((fk P C n).call f args { asm := asm }).outs with
  | none => rw [ho] at h; cases h
  | some outs =>
    rw [ho] at h
    exact true_of_outs ((fk_ok hC n).1.call f args _ outs ho) h hE ha hA w
end Go.Sx
