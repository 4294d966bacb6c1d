/- Scopes as plain lists: what the calls do, and how they lie in memory. -/
import Derived.Test.YtkckgjjhnjcffaaScM
namespace Go.Proofs.Ytkckgjjhnjcffaa
open Go.ChangeShapes Go.WideShapes Go.ChangeAt Go.RowKit
set_option linter.unusedVariables false
set_option linter.unusedSimpArgs false
structure Vr where
  name : ByteArray
  fixed : Bool
  has : Bool
  v : Va
structure Sc where
  parent : Int
  vars : List Vr
def idx (k : ByteArray) (l : List Vr) : Option Nat := l.findIdx? (fun x => decide (k = x.name))
inductive Finds (σ : List Sc) (k : ByteArray) : Int → Option (Nat × Nat) → Prop
  | out {env : Int} : ¬ (0 ≤ env ∧ env < σ.length) → Finds σ k env none
  | here {env : Int} {e : Nat} {sc : Sc} {j : Nat} : env = e → σ[e]? = some sc → idx k sc.vars = some j → Finds σ k env (some (e, j))
  | up {env : Int} {e : Nat} {sc : Sc} {r : Option (Nat × Nat)} : env = e → σ[e]? = some sc → idx k sc.vars = none → Finds σ k sc.parent r → Finds σ k env r
theorem lt_of_get {α : Type} {l : List α} {e : Nat} {a : α} (h : l[e]? = some a) : e < l.length := (List.getElem?_eq_some_iff.1 h).1
theorem Finds.det {σ : List Sc} {k : ByteArray} {env : Int} {a b : Option (Nat × Nat)} (h : Finds σ k env a) : Finds σ k env b → a = b := by
  induction h with
  | out h1 =>
    intro h2
    cases h2 with
    | out => rfl
    | here he hs _ => exact absurd ⟨by omega, by have := lt_of_get hs; omega⟩ h1
    | up he hs _ _ => exact absurd ⟨by omega, by have := lt_of_get hs; omega⟩ h1
  | here he hs hj =>
    intro h2
    cases h2 with
    | out h1 => exact absurd ⟨by omega, by have := lt_of_get hs; omega⟩ h1
    | here he' hs' hj' =>
      have : _ = _ := Int.ofNat.inj (he.symm.trans he')
      subst this
      rw [hs] at hs'; cases hs'
      rw [hj] at hj'; cases hj'
      rfl
    | up he' hs' hj' _ =>
      have : _ = _ := Int.ofNat.inj (he.symm.trans he')
      subst this
      rw [hs] at hs'; cases hs'
      rw [hj] at hj'; cases hj'
  | up he hs hj _ ih =>
    intro h2
    cases h2 with
    | out h1 => exact absurd ⟨by omega, by have := lt_of_get hs; omega⟩ h1
    | here he' hs' hj' =>
      have : _ = _ := Int.ofNat.inj (he.symm.trans he')
      subst this
      rw [hs] at hs'; cases hs'
      rw [hj] at hj'; cases hj'
    | up he' hs' hj' h3 =>
      have : _ = _ := Int.ofNat.inj (he.symm.trans he')
      subst this
      rw [hs] at hs'; cases hs'
      exact ih h3
def at? (σ : List Sc) (env : Int) : Option Sc := if 0 ≤ env then σ[env.toNat]? else none
def updV (σ : List Sc) (e j : Nat) (f : Vr → Vr) : List Sc := σ.modify e fun sc => { sc with vars := sc.vars.modify j f }
def vr? (σ : List Sc) (e j : Nat) : Option Vr := (σ[e]?).bind fun sc => sc.vars[j]?
def mkS (σ : List Sc) (p : Int) : List Sc × Int := match at? σ p with
  | none => (σ, -1)
  | some _ => (σ ++ [⟨p, []⟩], σ.length)
def letS (σ : List Sc) (env : Int) (k : ByteArray) (fixed : Bool) : List Sc × Bool := match at? σ env with
  | none => (σ, false)
  | some sc => match idx k sc.vars with
    | some _ => (σ, false)
    | none => (σ.modify env.toNat (fun sc => { sc with vars := sc.vars ++ [⟨k, fixed, false, Va.zero⟩] }), true)
def beginS (σ : List Sc) (env : Int) (k : ByteArray) (v : Va) : List Sc × Bool := match at? σ env with
  | none => (σ, false)
  | some sc => match idx k sc.vars with
    | none => (σ, false)
    | some j => match sc.vars[j]? with
      | none => (σ, false)
      | some x => if x.has then (σ, false) else (updV σ env.toNat j (fun x => { x with has := true, v := v }), true)
def getS (σ : List Sc) (r : Option (Nat × Nat)) : Va × Int := match r with
  | none => (Va.zero, 1)
  | some (e, j) => match vr? σ e j with
    | none => (Va.zero, 1)
    | some x => if x.has then (x.v, 0) else (Va.zero, 2)
def setS (σ : List Sc) (r : Option (Nat × Nat)) (v : Va) : List Sc × Int := match r with
  | none => (σ, 1)
  | some (e, j) => match vr? σ e j with
    | none => (σ, 1)
    | some x => if x.has then (if x.fixed then (σ, 3) else (updV σ e j (fun x => { x with v := v }), 0)) else (σ, 2)
theorem at?_out {σ : List Sc} {env : Int} (h : ¬ (0 ≤ env ∧ env < σ.length)) : at? σ env = none := by
  unfold at?
  split
  · rw [List.getElem?_eq_none (by omega)]
  · rfl
theorem at?_in {σ : List Sc} {e : Nat} {sc : Sc} (h : σ[e]? = some sc) : at? σ (e : Int) = some sc := by
  unfold at?
  rw [if_pos (by omega), Int.toNat_natCast, h]
/-! ### rows of the same length each -/
theorem flat_len {α β : Type} {f : α → List β} {s : Nat} (hf : ∀ a, (f a).length = s) : ∀ l : List α, (l.flatMap f).length = l.length * s
  | [] => by simp
  | a :: l => by rw [List.flatMap_cons, List.length_append, hf, flat_len hf l, List.length_cons, Nat.add_mul]; omega
theorem flat_get {α β : Type} {f : α → List β} {s : Nat} (hf : ∀ a, (f a).length = s) {k : Nat} (hk : k < s) : ∀ {l : List α} {e : Nat} {a : α}, l[e]? = some a → (l.flatMap f)[e * s + k]? = (f a)[k]?
  | [], e, a, h => by simp at h
  | b :: l, 0, a, h => by
    simp only [List.getElem?_cons_zero, Option.some.injEq] at h
    subst h
    rw [List.flatMap_cons, Nat.zero_mul, Nat.zero_add, List.getElem?_append_left (by rw [hf]; exact hk)]
  | b :: l, e + 1, a, h => by
    rw [List.flatMap_cons, List.getElem?_append_right (by rw [hf, Nat.add_mul]; omega), hf]
    have : (e + 1) * s + k - s = e * s + k := by rw [Nat.add_mul]; omega
    rw [this]
    exact flat_get hf hk (by simpa using h)
/-! ### the program's scopes in memory -/
structure VrS where
  vr : Vr
  g : Nat
structure ScS where
  parent : Int
  gM : Nat
  cl : Nat
  es : Array MapEntry
  vars : List VrS
def ParOk (l : List Int) : Prop := ∀ (e : Nat) (p : Int), l[e]? = some p → p < e
structure ShS where
  gS : Nat
  gL : Nat
  cap : Nat
  cur : List Value
  rows : List ScS
abbrev VrS.cs (x : VrS) : List Value := [.int .i64 x.vr.v.k, .int .i64 x.vr.v.n, .string x.vr.v.s, .bool x.vr.has, .bool x.vr.fixed]
def VrS.blk (x : VrS) : Nat × Obj := (x.g, .cells x.cs.toArray 79 (0, 0))
def VrS.ptr (x : VrS) : Value := .pointer (some ⟨x.g, 0, none⟩)
def VrS.pair (x : VrS) : ByteArray × Value := (x.vr.name, x.ptr)
def ScS.cs (r : ScS) : List Value := [.int .i64 r.parent, .map (some r.gM)]
def ScS.sc (r : ScS) : Sc := ⟨r.parent, r.vars.map VrS.vr⟩
def ScS.blks (r : ScS) : List (Nat × Obj) := (r.gM, .map r.es r.cl) :: r.vars.map VrS.blk
abbrev ShS.top (sh : ShS) : List Value := [.slice (some ⟨sh.gL, 0, none⟩) sh.rows.length sh.cap]
def ShS.blks (sh : ShS) : List (Nat × Obj) := (sh.gS, .cells sh.top.toArray 73 (0, 0)) :: (sh.gL, .cells sh.cur.toArray 70 (0, 0)) :: sh.rows.flatMap ScS.blks
def ShS.σ (sh : ShS) : List Sc := sh.rows.map ScS.sc
structure ShS.Ok (sh : ShS) : Prop where
  row : RowOk 2 sh.rows.length sh.cap sh.cur (sh.rows.flatMap ScS.cs)
  map : ∀ r ∈ sh.rows, MapOf r.es (r.vars.map VrS.pair)
  par : ParOk (sh.rows.map ScS.parent)
theorem ScS.cs_len (r : ScS) : r.cs.length = 2 := rfl
theorem ShS.Ok.cell {sh : ShS} (ok : sh.Ok) {e : Nat} {r : ScS} (h : sh.rows[e]? = some r) {k : Nat} (hk : k < 2) : sh.cur[e * 2 + k]? = r.cs[k]? := by
  have h1 := flat_get (f := ScS.cs) ScS.cs_len hk h
  have h2 : r.cs[k]? = some (r.cs[k]'(by rw [ScS.cs_len]; exact hk)) := List.getElem?_eq_getElem _
  rw [h2] at h1 ⊢
  exact ok.row.get h1
theorem bytes_beq (a b : ByteArray) : (a == b) = decide (a = b) := by
  cases a with | mk a => cases b with | mk b =>
  have h : ((⟨a⟩ : ByteArray) == ⟨b⟩) = (a == b) := rfl
  rw [h, Bool.eq_iff_iff]
  simp
theorem findS (k : ByteArray) : ∀ (l : List VrS), ((l.map VrS.pair).find? (fun p => k == p.1)).map (·.2) = ((idx k (l.map VrS.vr)).bind fun j => l[j]?).map VrS.ptr
  | [] => rfl
  | x :: l => by
    have ih := findS k l
    simp only [List.map_cons, List.find?_cons, idx, List.findIdx?_cons] at ih ⊢
    have hb : (k == x.pair.1) = decide (k = x.vr.name) := by
      exact bytes_beq k x.vr.name
    rw [hb]
    by_cases c : k = x.vr.name
    · simp [c, VrS.pair]
    · simp only [c, decide_false, ih]
      cases List.findIdx? (fun x => decide (k = x.name)) (l.map VrS.vr) with
      | none => rfl
      | some j => simp
theorem idx_lt {k : ByteArray} {l : List Vr} {j : Nat} (h : idx k l = some j) : j < l.length := by
  unfold idx at h
  rw [List.findIdx?_eq_some_iff_getElem] at h
  exact h.1
/-- The map of a scope, and what a name is in it. -/
theorem ShS.Ok.look {sh : ShS} (ok : sh.Ok) {e : Nat} {r : ScS} (h : sh.rows[e]? = some r) (k : ByteArray) :
    (((r.vars.map VrS.pair).find? (fun p => k == p.1)).map (·.2) = none ∧ idx k r.sc.vars = none) ∨ ∃ j x, ((r.vars.map VrS.pair).find? (fun p => k == p.1)).map (·.2) = some x.ptr ∧ idx k r.sc.vars = some j ∧ r.vars[j]? = some x := by
  rw [findS]
  show (_ ∧ idx k (r.vars.map VrS.vr) = none) ∨ ∃ j x, _ ∧ idx k (r.vars.map VrS.vr) = some j ∧ _
  cases hj : idx k (r.vars.map VrS.vr) with
  | none => exact .inl ⟨rfl, rfl⟩
  | some j =>
    have := idx_lt hj
    simp only [List.length_map] at this
    exact .inr ⟨j, r.vars[j], by simp [List.getElem?_eq_getElem this], rfl, List.getElem?_eq_getElem this⟩
/-- The top, the row's block, one scope's map, and the rest. -/
theorem ShS.perm1 {sh : ShS} {e : Nat} {r : ScS} (h : sh.rows[e]? = some r) : ∃ l1 l2, sh.rows = l1 ++ r :: l2 ∧ l1.length = e ∧
    sh.blks.Perm ((sh.gS, .cells sh.top.toArray 73 (0, 0)) :: (sh.gL, .cells sh.cur.toArray 70 (0, 0)) :: (r.gM, .map r.es r.cl) :: (r.vars.map VrS.blk ++ (l1 ++ l2).flatMap ScS.blks)) := by
  obtain ⟨l1, l2, h1, h2⟩ := split_at h
  refine ⟨l1, l2, h1, h2, ?_⟩
  unfold ShS.blks
  rw [h1]
  exact ((perm_flatMap_mid ScS.blks l1 l2 r).cons _).cons _
theorem modify_mid {α : Type} (f : α → α) (a : α) (l2 : List α) : ∀ l1 : List α, (l1 ++ a :: l2).modify l1.length f = l1 ++ f a :: l2
  | [] => rfl
  | b :: l1 => by simp [List.modify_succ_cons, modify_mid f a l2 l1]
theorem permMake {α : Type} (a b c : α) (R : List α) : (a :: c :: b :: R).Perm (b :: a :: (R ++ [c])) :=
  ((List.Perm.swap _ _ _).cons _).trans ((List.Perm.swap _ _ _).trans (((List.perm_append_singleton c R).symm.cons _).cons _))
theorem permLet {α : Type} (a b c d : α) (A B : List α) : (a :: b :: c :: d :: (A ++ B)).Perm (c :: d :: a :: (A ++ [b] ++ B)) := by
  have h1 : (b :: (A ++ B)).Perm (A ++ [b] ++ B) := by
    rw [List.append_assoc]
    exact List.perm_middle.symm
  have h2 : (a :: b :: c :: d :: (A ++ B)).Perm (c :: d :: a :: b :: (A ++ B)) := by
    have s1 : (a :: b :: c :: d :: (A ++ B)).Perm (c :: a :: b :: d :: (A ++ B)) := ((List.Perm.swap c b _).cons a).trans (List.Perm.swap c a _)
    have s2 : (a :: b :: d :: (A ++ B)).Perm (d :: a :: b :: (A ++ B)) := ((List.Perm.swap d b _).cons a).trans (List.Perm.swap d a _)
    exact s1.trans (s2.cons c)
  exact h2.trans (((h1.cons _).cons _).cons _)
theorem ParOk.push {l : List Int} (h : ParOk l) {p : Int} (hp : p < l.length) : ParOk (l ++ [p]) := by
  intro e q hq
  rw [List.getElem?_append] at hq
  split at hq
  · exact h e q hq
  · have hl := lt_of_get hq
    simp only [List.length_singleton] at hl
    have : e - l.length = 0 := by omega
    rw [this] at hq
    simp only [List.getElem?_cons_zero, Option.some.injEq] at hq
    subst hq
    omega
/-- One variable, and the rest. -/
def ShS.upd (sh : ShS) (e j : Nat) (y : VrS) : ShS := { sh with rows := sh.rows.modify e fun r => { r with vars := r.vars.modify j fun _ => y } }
theorem ShS.perm2 {sh : ShS} {e j : Nat} {r : ScS} {x : VrS} (h : sh.rows[e]? = some r) (hx : r.vars[j]? = some x) :
    ∃ R, sh.blks.Perm (x.blk :: (sh.gS, .cells sh.top.toArray 73 (0, 0)) :: (sh.gL, .cells sh.cur.toArray 70 (0, 0)) :: (r.gM, .map r.es r.cl) :: R) ∧
      ∀ y : VrS, (sh.upd e j y).blks.Perm (y.blk :: (sh.gS, .cells sh.top.toArray 73 (0, 0)) :: (sh.gL, .cells sh.cur.toArray 70 (0, 0)) :: (r.gM, .map r.es r.cl) :: R) := by
  obtain ⟨l1, l2, h1, h2⟩ := split_at h
  obtain ⟨m1, m2, h3, h4⟩ := split_at hx
  have key : ∀ (sh' : ShS) (y : VrS), sh'.gS = sh.gS → sh'.gL = sh.gL → sh'.cap = sh.cap → sh'.cur = sh.cur → sh'.rows = l1 ++ { r with vars := m1 ++ y :: m2 } :: l2 →
      sh'.blks.Perm (y.blk :: ((sh.gS, .cells sh.top.toArray 73 (0, 0)) :: (sh.gL, .cells sh.cur.toArray 70 (0, 0)) :: (r.gM, .map r.es r.cl) :: (m1.map VrS.blk ++ m2.map VrS.blk ++ (l1 ++ l2).flatMap ScS.blks))) := by
    intro sh' y e1 e2 e3 e4 e5
    have ht : sh'.top = sh.top := by unfold ShS.top; rw [e2, e3, e5, h1]; simp
    unfold ShS.blks
    rw [ht, e1, e2, e4, e5]
    have p1 := perm_flatMap_mid ScS.blks l1 l2 { r with vars := m1 ++ y :: m2 }
    have p2 : (ScS.blks { r with vars := m1 ++ y :: m2 }).Perm (y.blk :: (r.gM, Obj.map r.es r.cl) :: (m1.map VrS.blk ++ m2.map VrS.blk)) := by
      unfold ScS.blks
      simp only [List.map_append, List.map_cons]
      exact (List.perm_middle.cons _).trans (List.Perm.swap _ _ _)
    refine (((p1.trans (p2.append_right _)).cons _).cons _).trans ?_
    simp only [List.cons_append]
    exact (((List.Perm.swap _ _ _).cons _).trans (List.Perm.swap _ _ _))
  refine ⟨_, key sh x rfl rfl rfl rfl ?_, fun y => key (sh.upd e j y) y rfl rfl rfl rfl ?_⟩
  · rw [h1, ← h3]
  · show sh.rows.modify e _ = _
    rw [h1, ← h2, modify_mid, h3, ← h4, modify_mid]
/-! ### what the calls leave -/
theorem map_mid {α β : Type} (f : α → β) (l1 l2 : List α) (a b : α) (h : f a = f b) : (l1 ++ a :: l2).map f = (l1 ++ b :: l2).map f := by simp [h]
theorem flat_mid {α β : Type} (f : α → List β) (l1 l2 : List α) (a b : α) (h : f a = f b) : (l1 ++ a :: l2).flatMap f = (l1 ++ b :: l2).flatMap f := by simp [h]
theorem ShS.σ_mid {sh : ShS} {l1 l2 : List ScS} {r : ScS} (h : sh.rows = l1 ++ r :: l2) (f : Sc → Sc) (r' : ScS) (h' : r'.sc = f r.sc) : (l1 ++ r' :: l2).map ScS.sc = sh.σ.modify l1.length f := by
  unfold ShS.σ
  rw [h]
  simp only [List.map_append, List.map_cons, h']
  have := modify_mid f r.sc (l2.map ScS.sc) (l1.map ScS.sc)
  rw [List.length_map] at this
  exact this.symm
theorem ShS.Ok.mid {sh : ShS} (ok : sh.Ok) {l1 l2 : List ScS} {r : ScS} (h : sh.rows = l1 ++ r :: l2) (r' : ScS) (hc : r'.cs = r.cs) (hp : r'.parent = r.parent) (hm : MapOf r'.es (r'.vars.map VrS.pair)) : ShS.Ok { sh with rows := l1 ++ r' :: l2 } := by
  have hlen : (l1 ++ r' :: l2).length = sh.rows.length := by rw [h]; simp
  refine ⟨?_, fun q hq => ?_, ?_⟩
  · show RowOk 2 (l1 ++ r' :: l2).length sh.cap sh.cur ((l1 ++ r' :: l2).flatMap ScS.cs)
    rw [hlen, flat_mid ScS.cs l1 l2 r' r hc, ← h]
    exact ok.row
  · have hq : q ∈ l1 ++ r' :: l2 := hq
    rcases List.mem_append.1 hq with hq | hq
    · exact ok.map q (by rw [h]; exact List.mem_append_left _ hq)
    · rcases List.mem_cons.1 hq with rfl | hq
      · exact hm
      · exact ok.map q (by rw [h]; exact List.mem_append_right _ (List.mem_cons_of_mem _ hq))
  · show ParOk ((l1 ++ r' :: l2).map ScS.parent)
    rw [map_mid ScS.parent l1 l2 r' r hp, ← h]
    exact ok.par
/-- A scope gets a name. -/
theorem ShS.letLeft {sh : ShS} (ok : sh.Ok) {e : Nat} {l1 l2 : List ScS} {r : ScS} (h : sh.rows = l1 ++ r :: l2) (hl : l1.length = e) (x : VrS) {es' : Array MapEntry} (cl' : Nat) (hm : MapOf es' (r.vars.map VrS.pair ++ [x.pair])) :
    ∃ sh' : ShS, sh'.Ok ∧ sh'.σ = sh.σ.modify e (fun sc => { sc with vars := sc.vars ++ [x.vr] }) ∧ sh'.gS = sh.gS ∧
      sh'.blks = (sh.gS, .cells sh.top.toArray 73 (0, 0)) :: (sh.gL, .cells sh.cur.toArray 70 (0, 0)) :: (l1 ++ { r with es := es', cl := cl', vars := r.vars ++ [x] } :: l2).flatMap ScS.blks := by
  refine ⟨{ sh with rows := l1 ++ { r with es := es', cl := cl', vars := r.vars ++ [x] } :: l2 }, ok.mid h _ rfl rfl ?_, ?_, rfl, ?_⟩
  · simpa using hm
  · rw [← hl]
    refine ShS.σ_mid h _ _ ?_
    simp [ScS.sc]
  · unfold ShS.blks ShS.top
    rw [h]
    simp
theorem ShS.letPerm (a b : Nat × Obj) (l1 l2 : List ScS) (r : ScS) (es' : Array MapEntry) (cl' : Nat) (x : VrS) :
    ((r.gM, Obj.map es' cl') :: x.blk :: a :: b :: (r.vars.map VrS.blk ++ (l1 ++ l2).flatMap ScS.blks)).Perm (a :: b :: (l1 ++ { r with es := es', cl := cl', vars := r.vars ++ [x] } :: l2).flatMap ScS.blks) := by
  refine (permLet (r.gM, Obj.map es' cl') x.blk a b _ _).trans ?_
  refine List.Perm.cons _ (List.Perm.cons _ ?_)
  refine List.Perm.trans ?_ (perm_flatMap_mid ScS.blks l1 l2 _).symm
  simp [ScS.blks]
theorem modify_const {α : Type} (f : α → α) {a : α} : ∀ {l : List α} {j : Nat}, l[j]? = some a → l.modify j f = l.modify j (fun _ => f a)
  | [], _, h => by simp at h
  | b :: l, 0, h => by
    simp only [List.getElem?_cons_zero, Option.some.injEq] at h
    subst h
    rfl
  | b :: l, j + 1, h => by
    simp only [List.modify_succ_cons]
    rw [modify_const f (by simpa using h)]
/-- A variable gets another value. -/
theorem ShS.updLeft {sh : ShS} (ok : sh.Ok) {e j : Nat} {r : ScS} {x : VrS} (h : sh.rows[e]? = some r) (hx : r.vars[j]? = some x) (f : Vr → Vr) (hf : (f x.vr).name = x.vr.name) :
    (sh.upd e j ⟨f x.vr, x.g⟩).Ok ∧ (sh.upd e j ⟨f x.vr, x.g⟩).σ = updV sh.σ e j f := by
  obtain ⟨l1, l2, h1, h2⟩ := split_at h
  obtain ⟨m1, m2, h3, h4⟩ := split_at hx
  have hrows : (sh.upd e j ⟨f x.vr, x.g⟩).rows = l1 ++ { r with vars := m1 ++ ⟨f x.vr, x.g⟩ :: m2 } :: l2 := by
    show sh.rows.modify e _ = _
    rw [h1, ← h2, modify_mid, h3, ← h4, modify_mid]
  have e1 : sh.upd e j ⟨f x.vr, x.g⟩ = { sh with rows := l1 ++ { r with vars := m1 ++ ⟨f x.vr, x.g⟩ :: m2 } :: l2 } := by rw [← hrows]; rfl
  rw [e1]
  refine ⟨ok.mid h1 _ rfl rfl ?_, ?_⟩
  · have hm := ok.map r (List.mem_of_getElem? h)
    rw [h3] at hm
    have hp : VrS.pair ⟨f x.vr, x.g⟩ = VrS.pair x := by simp [VrS.pair, VrS.ptr, hf]
    rw [map_mid VrS.pair m1 m2 _ x hp]
    exact hm
  · unfold updV
    rw [← h2]
    refine ShS.σ_mid h1 _ _ ?_
    show (⟨r.parent, (m1 ++ ⟨f x.vr, x.g⟩ :: m2).map VrS.vr⟩ : Sc) = ⟨r.parent, (r.vars.map VrS.vr).modify j f⟩
    rw [h3]
    simp only [List.map_append, List.map_cons]
    have := modify_mid f x.vr (m2.map VrS.vr) (m1.map VrS.vr)
    rw [List.length_map, h4] at this
    rw [this]
end Go.Proofs.Ytkckgjjhnjcffaa
