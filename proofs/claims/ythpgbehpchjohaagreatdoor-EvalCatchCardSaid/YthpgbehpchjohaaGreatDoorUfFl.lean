/- strings.Fields of the program's lists of words, and internal/stringslite.IndexByte of a text that is told, as contracts of the symbolic run. -/
import Derived.Test.YthpgbehpchjohaaGreatDoorUfC
import Derived.Test.YthpgbehpchjohaaGreatDoorLayFl
namespace Go.Proofs.YthpgbehpchjohaaGreatDoor
open Go.Sx Go.RowKit
set_option maxRecDepth 100000
theorem space_of_heap {w : World} {ty : TypeId} {fr : Nat × Nat} (h : w.heap[1]? = some (.cells spaceV ty fr)) : Lib.TabIs Tryz.prog w "strings.asciiSpace" .u8 Lib.asciiSpaceTab := by
  unfold Lib.TabIs World.var?
  rw [show Tryz.prog.globalNamed "strings.asciiSpace" = some 1 by kernel_rfl]
  simp only [Option.bind_some, h]
  rfl
theorem heap_of_space {w : World} (h : Lib.TabIs Tryz.prog w "strings.asciiSpace" .u8 Lib.asciiSpaceTab) : ∃ ty fr, w.heap[1]? = some (.cells spaceV ty fr) := by
  unfold Lib.TabIs World.var? at h
  rw [show Tryz.prog.globalNamed "strings.asciiSpace" = some 1 by kernel_rfl] at h
  simp only [Option.bind_some] at h
  split at h
  · rename_i cs ty fr hc
    cases h
    exact ⟨ty, fr, hc⟩
  · cases h
def rowsOf (W : List (List UInt8)) : List (List SV) := W.map fun l => [.str (.lit l.length (enc l))]
theorem rowsOf_len : ∀ W : List (List UInt8), rowsLen 1 (rowsOf W) = true
  | [] => rfl
  | l :: W => by
    have := rowsOf_len W
    simp only [rowsOf, rowsLen] at this ⊢
    simp only [List.map_cons, List.all_cons, this, Bool.and_true]
    rfl
theorem rowsOf_den (E : Env) : ∀ W : List (List UInt8), SV.denL E (rowsOf W).flatten = some (W.map fun l => Value.string ⟨l.toArray⟩)
  | [] => by simp [rowsOf, SV.denL]
  | l :: W => by
    have := rowsOf_den E W
    simp only [rowsOf] at this
    simp only [rowsOf, List.map_cons, List.flatten_cons, List.singleton_append, SV.denL, SV.den, SX.den, this, txt, dec_enc]
def flOut (s : St) (rows : List (List SV)) : List (SV × St) := [(.slc s.next 0 rows.length (some rows.length) 1, newRows s rows 1 9)]
theorem fl_ok {n c : Nat} {W : List (List UInt8)} (hW : Lib.fields (dec n c) = W) (ha : ((dec n c).all fun b => Nat.blt b.toNat 128) = true) (hn : n < 4294967281) {s : St} : CallOk Tryz.prog 175 [.str (.lit n c)] s (flOut s (rowsOf W)) := by
  intro w0 E w ARGS hA R
  simp [SV.denL, SV.den, SX.den] at hA
  subst hA
  obtain ⟨ty, fr, hg⟩ := QQ.below R.below R.qq
  have hl : (rowsOf W).length = W.length := by simp [rowsOf]
  refine (Tryz.strings_Fields_laid (txt n c) w (by simpa using hn) (fun j b hj => ?_) (space_of_heap hg)).mono fun e w' he => ?_
  · rw [txt_data] at hj
    have := List.all_eq_true.1 ha b (List.mem_of_getElem? hj)
    simpa [Nat.blt_eq] using this
  · obtain ⟨rfl, rfl⟩ := he
    rw [txt_data, hW]
    obtain ⟨E', e1, e2, e3⟩ := newRows_ok R (rowsOf_len W) (rowsOf_den E W) 9
    refine ⟨_, _, E', .slice (some ⟨w.heap.size, 0, none⟩) W.length W.length, List.mem_singleton.2 rfl, e1, ?_, rfl, e2⟩
    rw [hl]
    simp [SV.den, e3]
def ownW : List (List UInt8) := [[98, 114, 101, 97, 107], [99, 97, 116, 99, 104], [99, 111, 110, 115, 116], [99, 111, 110, 116, 105, 110, 117, 101], [100, 101, 108, 101, 116, 101], [101, 108, 115, 101], [102, 97, 108, 115, 101], [102, 105, 110, 97, 108, 108, 121], [102, 117, 110, 99, 116, 105, 111, 110], [105, 102], [105, 110], [108, 101, 116], [110, 101, 119], [110, 117, 108, 108], [114, 101, 116, 117, 114, 110], [116, 104, 105, 115], [116, 104, 114, 111, 119], [116, 114, 117, 101], [116, 114, 121], [116, 121, 112, 101, 111, 102], [117, 110, 100, 101, 102, 105, 110, 101, 100], [119, 104, 105, 108, 101]]
def ownR : List (List SV) := [[.str (.lit 5 461195539042)], [.str (.lit 5 448345170275)], [.str (.lit 5 500152823651)], [.str (.lit 8 7310870969309884259)], [.str (.lit 6 111550592214372)], [.str (.lit 4 1702063205)], [.str (.lit 5 435728179558)], [.str (.lit 7 34177684928883046)], [.str (.lit 8 7957695015192261990)], [.str (.lit 2 26217)], [.str (.lit 2 28265)], [.str (.lit 3 7628140)], [.str (.lit 3 7824750)], [.str (.lit 4 1819047278)], [.str (.lit 6 121437875889522)], [.str (.lit 4 1936287860)], [.str (.lit 5 512970877044)], [.str (.lit 4 1702195828)], [.str (.lit 3 7959156)], [.str (.lit 6 112628629272948)], [.str (.lit 9 1851983302504732716661)], [.str (.lit 5 435610544247)]]
theorem own_fields : Lib.fields (dec 130 4667604475418904230291553143631157971411425631150657482397416152671443500803663443383297426749719022842459659762454359600413190880636824487388454866445311253333776718021834948374549614160838337445394112931982682574809375368530303134081134376608689453667997111588970557214263238111711974041644739832641412078596706) = ownW := by kernel_rfl
theorem own_ascii : ((dec 130 4667604475418904230291553143631157971411425631150657482397416152671443500803663443383297426749719022842459659762454359600413190880636824487388454866445311253333776718021834948374549614160838337445394112931982682574809375368530303134081134376608689453667997111588970557214263238111711974041644739832641412078596706).all fun b => Nat.blt b.toNat 128) = true := by kernel_rfl
theorem own_rows : ownR = rowsOf ownW := by kernel_rfl
def alienW : List (List UInt8) := [[97, 119, 97, 105, 116], [99, 97, 115, 101], [99, 108, 97, 115, 115], [100, 101, 98, 117, 103, 103, 101, 114], [100, 101, 102, 97, 117, 108, 116], [100, 111], [101, 110, 117, 109], [101, 120, 112, 111, 114, 116], [101, 120, 116, 101, 110, 100, 115], [102, 111, 114], [105, 109, 112, 108, 101, 109, 101, 110, 116, 115], [105, 109, 112, 111, 114, 116], [105, 110, 115, 116, 97, 110, 99, 101, 111, 102], [105, 110, 116, 101, 114, 102, 97, 99, 101], [112, 97, 99, 107, 97, 103, 101], [112, 114, 105, 118, 97, 116, 101], [112, 114, 111, 116, 101, 99, 116, 101, 100], [112, 117, 98, 108, 105, 99], [115, 116, 97, 116, 105, 99], [115, 117, 112, 101, 114], [115, 119, 105, 116, 99, 104], [118, 97, 114], [118, 111, 105, 100], [119, 105, 116, 104], [121, 105, 101, 108, 100]]
def alienR : List (List SV) := [[.str (.lit 5 499984201569)], [.str (.lit 4 1702060387)], [.str (.lit 5 495857003619)], [.str (.lit 8 8243108387020236132)], [.str (.lit 7 32770348699510116)], [.str (.lit 2 28516)], [.str (.lit 4 1836412517)], [.str (.lit 6 128034844735589)], [.str (.lit 7 32480047633037413)], [.str (.lit 3 7499622)], [.str (.lit 10 545219922727158705843561)], [.str (.lit 6 128034844732777)], [.str (.lit 10 483736275649270941707881)], [.str (.lit 9 1870282268968674946665)], [.str (.lit 7 28542640758940016)], [.str (.lit 7 28556934595048048)], [.str (.lit 9 1851984984753480626800)], [.str (.lit 6 109304441107824)], [.str (.lit 6 109304575259763)], [.str (.lit 5 491328140659)], [.str (.lit 6 114776364119923)], [.str (.lit 3 7496054)], [.str (.lit 4 1684631414)], [.str (.lit 4 1752459639)], [.str (.lit 5 431315315065)]]
theorem alien_fields : Lib.fields (dec 172 646947570590519891871198650477691139503477472875931435060933502802796046242362277635139655144582134505202310809404731228342472316830787653982741240179573786700466019395891107843982325483810045046055390027303207203034844182632333543184684810089389038593235570397746338382784847193258495159748633417113758058588027695657042010548230816523717110618071549936321537896172460737371748700883295454266465099624937936746337) = alienW := by kernel_rfl
theorem alien_ascii : ((dec 172 646947570590519891871198650477691139503477472875931435060933502802796046242362277635139655144582134505202310809404731228342472316830787653982741240179573786700466019395891107843982325483810045046055390027303207203034844182632333543184684810089389038593235570397746338382784847193258495159748633417113758058588027695657042010548230816523717110618071549936321537896172460737371748700883295454266465099624937936746337).all fun b => Nat.blt b.toNat 128) = true := by kernel_rfl
theorem alien_rows : alienR = rowsOf alienW := by kernel_rfl
def signsW : List (List UInt8) := [[61, 61, 61], [33, 61, 61], [38, 38], [124, 124], [60, 61], [62, 61], [123], [125], [40], [41], [91], [93], [59], [44], [46], [63], [58], [61], [60], [62], [43], [45], [42], [47], [37], [33]]
def signsR : List (List SV) := [[.str (.lit 3 4013373)], [.str (.lit 3 4013345)], [.str (.lit 2 9766)], [.str (.lit 2 31868)], [.str (.lit 2 15676)], [.str (.lit 2 15678)], [.str (.lit 1 123)], [.str (.lit 1 125)], [.str (.lit 1 40)], [.str (.lit 1 41)], [.str (.lit 1 91)], [.str (.lit 1 93)], [.str (.lit 1 59)], [.str (.lit 1 44)], [.str (.lit 1 46)], [.str (.lit 1 63)], [.str (.lit 1 58)], [.str (.lit 1 61)], [.str (.lit 1 60)], [.str (.lit 1 62)], [.str (.lit 1 43)], [.str (.lit 1 45)], [.str (.lit 1 42)], [.str (.lit 1 47)], [.str (.lit 1 37)], [.str (.lit 1 33)]]
theorem signs_fields : Lib.fields (dec 59 1577906634209141927247394471783242039323172159955510551774058889252360783255322442149478992172225188238368363941813673870913727712433473928509) = signsW := by kernel_rfl
theorem signs_ascii : ((dec 59 1577906634209141927247394471783242039323172159955510551774058889252360783255322442149478992172225188238368363941813673870913727712433473928509).all fun b => Nat.blt b.toNat 128) = true := by kernel_rfl
theorem signs_rows : signsR = rowsOf signsW := by kernel_rfl
noncomputable def flG : List SV → St → Option (List (SV × St))
  | [.str (.lit n c)], s => match Nat.beq n 130 && Nat.beq c 4667604475418904230291553143631157971411425631150657482397416152671443500803663443383297426749719022842459659762454359600413190880636824487388454866445311253333776718021834948374549614160838337445394112931982682574809375368530303134081134376608689453667997111588970557214263238111711974041644739832641412078596706 with
    | true => some (flOut s ownR)
    | false => match Nat.beq n 172 && Nat.beq c 646947570590519891871198650477691139503477472875931435060933502802796046242362277635139655144582134505202310809404731228342472316830787653982741240179573786700466019395891107843982325483810045046055390027303207203034844182632333543184684810089389038593235570397746338382784847193258495159748633417113758058588027695657042010548230816523717110618071549936321537896172460737371748700883295454266465099624937936746337 with
    | true => some (flOut s alienR)
    | false => match Nat.beq n 59 && Nat.beq c 1577906634209141927247394471783242039323172159955510551774058889252360783255322442149478992172225188238368363941813673870913727712433473928509 with
    | true => some (flOut s signsR)
    | false => none
  | _, _ => none
theorem flG_ok {args : List SV} {s : St} {outs : List (SV × St)} (h : flG args s = some outs) : CallOk Tryz.prog 175 args s outs := by
  unfold flG at h
  split at h
  · rename_i n c
    split at h
    · rename_i hb
      rw [Bool.and_eq_true] at hb
      have e1 := Nat.eq_of_beq_eq_true hb.1
      have e2 := Nat.eq_of_beq_eq_true hb.2
      subst e1
      subst e2
      cases h
      rw [own_rows]
      exact fl_ok own_fields own_ascii (by omega)
    · split at h
      · rename_i hb
        rw [Bool.and_eq_true] at hb
        have e1 := Nat.eq_of_beq_eq_true hb.1
        have e2 := Nat.eq_of_beq_eq_true hb.2
        subst e1
        subst e2
        cases h
        rw [alien_rows]
        exact fl_ok alien_fields alien_ascii (by omega)
      · split at h
        · rename_i hb
          rw [Bool.and_eq_true] at hb
          have e1 := Nat.eq_of_beq_eq_true hb.1
          have e2 := Nat.eq_of_beq_eq_true hb.2
          subst e1
          subst e2
          cases h
          rw [signs_rows]
          exact fl_ok signs_fields signs_ascii (by omega)
        · cases h
  · cases h
/-! ### the first place of a byte -/
noncomputable def ibG : List SV → St → Option (List (SV × St))
  | [.str (.lit n c), .int .u8 (.lit (.ofNat b))], s => some [(.int .i64 (.lit (Lib.indexByte (dec n c) b.toUInt8)), s)]
  | _, _ => none
theorem ibG_ok {args : List SV} {s : St} {outs : List (SV × St)} (h : ibG args s = some outs) : CallOk Tryz.prog 199 args s outs := by
  unfold ibG at h
  split at h
  · rename_i n c b
    cases h
    intro w0 E w ARGS hA R
    simp [SV.denL, SV.den, SX.den, IX.den] at hA
    subst hA
    refine (Tryz.stringslite_IndexByte (txt n c) (b : Int) w).mono fun e w' he => ?_
    obtain ⟨rfl, rfl⟩ := he
    refine ⟨_, s, E, .int .i64 (Lib.indexByte (dec n c) b.toUInt8), List.mem_singleton.2 rfl, .refl E, by simp [SV.den, IX.den], ?_, R⟩
    rw [txt_data]
    rfl
  · cases h
noncomputable def flC (C : Contracts) : Contracts := fun f => match Nat.beq f 175 with
  | true => some flG
  | false => match Nat.beq f 199 with
    | true => some ibG
    | false => C f
theorem flC_ok {C : Contracts} (hC : ContractsOk Tryz.prog C) : ContractsOk Tryz.prog (flC C) := by
  intro f g hg args s outs h
  unfold flC at hg
  split at hg
  · rename_i hf
    cases hg
    have := Nat.eq_of_beq_eq_true hf
    subst this
    exact flG_ok h
  · split at hg
    · rename_i hf
      cases hg
      have := Nat.eq_of_beq_eq_true hf
      subst this
      exact ibG_ok h
    · exact hC f g hg args s outs h
end Go.Proofs.YthpgbehpchjohaaGreatDoor
