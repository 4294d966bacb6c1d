/-
  No cell of these rows narrows 'for every input' (looked for: loops, veiled, ifaces, maps, wideKeys, modest, calm, conditions, laid).
  DERIVED. THE GIVEN ROWS OF THIS SEAT. 7 by the template 'for every input the law returns true; each argument reads behind the call as it read before'; 0 by the template 'total and deterministic' (their statements: YtkckgjjhnjcffaaTotals.lean).
  GIVEN WITH THE SEED: the statements are not yours to turn. If you find one false, say at which input.
  Laid BY PROGRAM, IN A SANDBOX (cutbox-rows.mjs): the forced cells as the released guide's own fill.sh prints them over the translation 3a8d8292601606c9… (all of the seat's roots in one cut). By AI agents, Wed Nov 11 2026. No macro, syntax, notation, axiom, sorry.
-/
import Derived.Test.YtkckgjjhnjcffaaChecked
import GoSem.Claim
import GoSem.ClaimJoined
import GoSem.ClaimMapViews
import Derived.JoinedTies
import Derived.KernelRfl
namespace Go.Proofs.Ytkckgjjhnjcffaa
/- THE CELL 'sum', in the pinned program and in every row, IS THE sha256 OF THE DUMP (.gsa) THAT YtkckgjjhnjcffaaProg.lean LOADS. Nothing in Lean hashes anything: it is a label: what it is worth is what the hold of that sum in a sandbox is worth. -/
noncomputable def Try.pinned : Pinned := { name := "ytkckgjjhnjcffaa", sum := "3a8d8292601606c9999e8449a7935d2a01ef322dbb30968c0a45cc3b666b00c0", checked := Try.checked }
namespace Rows
def none {H : Type} : Left H := { results := [], args := [] }

/-- 'understudylaw17.ScopePlays': WHATEVER THE INPUT: true; the input reads as it did. -/
def scopePlaysSpec : ChangeSpec := { name := "scopePlays", fn := fun _ => fun
  | [d] => { results := [.lit (.bool true)], args := [d] }
  | _ => none }
def scopePlaysRow : OpenClaim := { program := "ytkckgjjhnjcffaa", sum := "3a8d8292601606c9999e8449a7935d2a01ef322dbb30968c0a45cc3b666b00c0", func := "understudy/understudylaw17.ScopePlays", spec := "scopePlays", plainKeys := false, apart := false }
def ScopePlaysSaid : Prop := scopePlaysRow.holds Try.pinned (OpenSpec.ofChange scopePlaysSpec)

/-- ITS FALSE NEIGHBOUR: 'it returns false'. Refute it at one input. -/
def scopePlaysWrong : ChangeSpec := { name := "scopePlays", fn := fun _ => fun
  | [d] => { results := [.lit (.bool false)], args := [d] }
  | _ => none }
def ScopePlaysWrongFalsely : Prop := scopePlaysRow.holds Try.pinned (OpenSpec.ofChange scopePlaysWrong)

/-- 'understudylaw17.ScopeNear': WHATEVER THE INPUT: true; the input reads as it did. -/
def scopeNearSpec : ChangeSpec := { name := "scopeNear", fn := fun _ => fun
  | [d1, d2, d3, d4] => { results := [.lit (.bool true)], args := [d1, d2, d3, d4] }
  | _ => none }
def scopeNearRow : OpenClaim := { program := "ytkckgjjhnjcffaa", sum := "3a8d8292601606c9999e8449a7935d2a01ef322dbb30968c0a45cc3b666b00c0", func := "understudy/understudylaw17.ScopeNear", spec := "scopeNear", plainKeys := false, apart := false }
def ScopeNearSaid : Prop := scopeNearRow.holds Try.pinned (OpenSpec.ofChange scopeNearSpec)

/-- ITS FALSE NEIGHBOUR: 'it returns false'. Refute it at one input. -/
def scopeNearWrong : ChangeSpec := { name := "scopeNear", fn := fun _ => fun
  | [d1, d2, d3, d4] => { results := [.lit (.bool false)], args := [d1, d2, d3, d4] }
  | _ => none }
def ScopeNearWrongFalsely : Prop := scopeNearRow.holds Try.pinned (OpenSpec.ofChange scopeNearWrong)

/-- 'understudylaw17.ScopeApart': WHATEVER THE INPUT: true; the input reads as it did. -/
def scopeApartSpec : ChangeSpec := { name := "scopeApart", fn := fun _ => fun
  | [d1, d2, d3] => { results := [.lit (.bool true)], args := [d1, d2, d3] }
  | _ => none }
def scopeApartRow : OpenClaim := { program := "ytkckgjjhnjcffaa", sum := "3a8d8292601606c9999e8449a7935d2a01ef322dbb30968c0a45cc3b666b00c0", func := "understudy/understudylaw17.ScopeApart", spec := "scopeApart", plainKeys := false, apart := false }
def ScopeApartSaid : Prop := scopeApartRow.holds Try.pinned (OpenSpec.ofChange scopeApartSpec)

/-- ITS FALSE NEIGHBOUR: 'it returns false'. Refute it at one input. -/
def scopeApartWrong : ChangeSpec := { name := "scopeApart", fn := fun _ => fun
  | [d1, d2, d3] => { results := [.lit (.bool false)], args := [d1, d2, d3] }
  | _ => none }
def ScopeApartWrongFalsely : Prop := scopeApartRow.holds Try.pinned (OpenSpec.ofChange scopeApartWrong)

/-- 'understudylaw22.TraceApart': WHATEVER THE INPUT: true; the input reads as it did. -/
def traceApartSpec : ChangeSpec := { name := "traceApart", fn := fun _ => fun
  | [d] => { results := [.lit (.bool true)], args := [d] }
  | _ => none }
def traceApartRow : OpenClaim := { program := "ytkckgjjhnjcffaa", sum := "3a8d8292601606c9999e8449a7935d2a01ef322dbb30968c0a45cc3b666b00c0", func := "understudy/understudylaw22.TraceApart", spec := "traceApart", unfollowed := true, recurses := true, plainKeys := false, apart := false }
def TraceApartSaid : Prop := traceApartRow.holds Try.pinned (OpenSpec.ofChange traceApartSpec)

/-- ITS FALSE NEIGHBOUR: 'it returns false'. Refute it at one input. -/
def traceApartWrong : ChangeSpec := { name := "traceApart", fn := fun _ => fun
  | [d] => { results := [.lit (.bool false)], args := [d] }
  | _ => none }
def TraceApartWrongFalsely : Prop := traceApartRow.holds Try.pinned (OpenSpec.ofChange traceApartWrong)

/-- 'understudylaw22.TraceBegins': WHATEVER THE INPUT: true; the input reads as it did. -/
def traceBeginsSpec : ChangeSpec := { name := "traceBegins", fn := fun _ => fun
  | [d1, d2] => { results := [.lit (.bool true)], args := [d1, d2] }
  | _ => none }
def traceBeginsRow : OpenClaim := { program := "ytkckgjjhnjcffaa", sum := "3a8d8292601606c9999e8449a7935d2a01ef322dbb30968c0a45cc3b666b00c0", func := "understudy/understudylaw22.TraceBegins", spec := "traceBegins", unfollowed := true, recurses := true, plainKeys := false, apart := false }
def TraceBeginsSaid : Prop := traceBeginsRow.holds Try.pinned (OpenSpec.ofChange traceBeginsSpec)

/-- ITS FALSE NEIGHBOUR: 'it returns false'. Refute it at one input. -/
def traceBeginsWrong : ChangeSpec := { name := "traceBegins", fn := fun _ => fun
  | [d1, d2] => { results := [.lit (.bool false)], args := [d1, d2] }
  | _ => none }
def TraceBeginsWrongFalsely : Prop := traceBeginsRow.holds Try.pinned (OpenSpec.ofChange traceBeginsWrong)

/-- 'understudylaw22.TraceWrong': WHATEVER THE INPUT: true; the input reads as it did. -/
def traceWrongSpec : ChangeSpec := { name := "traceWrong", fn := fun _ => fun
  | [d] => { results := [.lit (.bool true)], args := [d] }
  | _ => none }
def traceWrongRow : OpenClaim := { program := "ytkckgjjhnjcffaa", sum := "3a8d8292601606c9999e8449a7935d2a01ef322dbb30968c0a45cc3b666b00c0", func := "understudy/understudylaw22.TraceWrong", spec := "traceWrong", unfollowed := true, recurses := true, plainKeys := false, apart := false }
def TraceWrongSaid : Prop := traceWrongRow.holds Try.pinned (OpenSpec.ofChange traceWrongSpec)

/-- ITS FALSE NEIGHBOUR: 'it returns false'. Refute it at one input. -/
def traceWrongWrong : ChangeSpec := { name := "traceWrong", fn := fun _ => fun
  | [d] => { results := [.lit (.bool false)], args := [d] }
  | _ => none }
def TraceWrongWrongFalsely : Prop := traceWrongRow.holds Try.pinned (OpenSpec.ofChange traceWrongWrong)

/-- 'understudylaw19.RealmNames': WHATEVER THE INPUT: true; the input reads as it did. -/
def realmNamesSpec : ChangeSpec := { name := "realmNames", fn := fun _ => fun
  | [d] => { results := [.lit (.bool true)], args := [d] }
  | _ => none }
def realmNamesRow : OpenClaim := { program := "ytkckgjjhnjcffaa", sum := "3a8d8292601606c9999e8449a7935d2a01ef322dbb30968c0a45cc3b666b00c0", func := "understudy/understudylaw19.RealmNames", spec := "realmNames", unfollowed := true, recurses := true, plainKeys := false, apart := false }
def RealmNamesSaid : Prop := realmNamesRow.holds Try.pinned (OpenSpec.ofChange realmNamesSpec)

/-- ITS FALSE NEIGHBOUR: 'it returns false'. Refute it at one input. -/
def realmNamesWrong : ChangeSpec := { name := "realmNames", fn := fun _ => fun
  | [d] => { results := [.lit (.bool false)], args := [d] }
  | _ => none }
def RealmNamesWrongFalsely : Prop := realmNamesRow.holds Try.pinned (OpenSpec.ofChange realmNamesWrong)

/- THE SECOND FORM. 'bulk': how many values and letters a reading holds, each counted each time it is reached (what is shared counts as often as it is met; a slice's spare places count too). A statement '..UptoSaid' is the law's where the arguments, and the package variables that the reading takes, are together of bulk at most 1048576: NARROWER than '..Said'. Prove '..Said' where nothing that the law and all that it calls make is longer than what came in: it says more and counts as full. Else prove '..UptoSaid'. A law counts once. -/
mutual
def uptoBulk {H : Type} : DataW H → Nat
  | .lit (.string bytes) => bytes.length + 1
  | .lit _ => 1
  | .nil => 1
  | .ptr d => uptoBulk d + 1
  | .slice elems spare => uptoBulkAll elems + uptoBulkAll spare + 1
  | .agg parts => uptoBulkAll parts + 1
  | .iface _ d => uptoBulk d + 1
  | .map entries => uptoBulkEntries entries + 1
  | .held _ => 1
def uptoBulkAll {H : Type} : List (DataW H) → Nat
  | [] => 0
  | d :: r => uptoBulk d + uptoBulkAll r
def uptoBulkEntries {H : Type} : List (Lit × DataW H) → Nat
  | [] => 0
  | x :: r => uptoBulkEntry x + uptoBulkEntries r
def uptoBulkEntry {H : Type} : Lit × DataW H → Nat
  | (.string bytes, d) => bytes.length + uptoBulk d + 1
  | (_, d) => uptoBulk d + 1
 end
def uptoSmall : (H : Type) → List (DataW H) → Bool := fun _ ds => decide (uptoBulkAll ds ≤ 1048576)
def OpenSpec.upto (s : _root_.Go.ChangeSpec) : _root_.Go.OpenSpec := { _root_.Go.OpenSpec.ofChange s with cond := some uptoSmall }

/-- 'understudylaw17.ScopePlays', WHERE WHAT IT READS IS OF BULK AT MOST 1048576: true; the input reads as it did. -/
def scopePlaysUptoRow : OpenClaim := { program := "ytkckgjjhnjcffaa", sum := "3a8d8292601606c9999e8449a7935d2a01ef322dbb30968c0a45cc3b666b00c0", func := "understudy/understudylaw17.ScopePlays", spec := "scopePlays", plainKeys := false, apart := false, narrowed := true }
def ScopePlaysUptoSaid : Prop := scopePlaysUptoRow.holds Try.pinned (OpenSpec.upto scopePlaysSpec)

/-- 'understudylaw17.ScopeNear', WHERE WHAT IT READS IS OF BULK AT MOST 1048576: true; the input reads as it did. -/
def scopeNearUptoRow : OpenClaim := { program := "ytkckgjjhnjcffaa", sum := "3a8d8292601606c9999e8449a7935d2a01ef322dbb30968c0a45cc3b666b00c0", func := "understudy/understudylaw17.ScopeNear", spec := "scopeNear", plainKeys := false, apart := false, narrowed := true }
def ScopeNearUptoSaid : Prop := scopeNearUptoRow.holds Try.pinned (OpenSpec.upto scopeNearSpec)

/-- 'understudylaw17.ScopeApart', WHERE WHAT IT READS IS OF BULK AT MOST 1048576: true; the input reads as it did. -/
def scopeApartUptoRow : OpenClaim := { program := "ytkckgjjhnjcffaa", sum := "3a8d8292601606c9999e8449a7935d2a01ef322dbb30968c0a45cc3b666b00c0", func := "understudy/understudylaw17.ScopeApart", spec := "scopeApart", plainKeys := false, apart := false, narrowed := true }
def ScopeApartUptoSaid : Prop := scopeApartUptoRow.holds Try.pinned (OpenSpec.upto scopeApartSpec)

/-- 'understudylaw22.TraceApart', WHERE WHAT IT READS IS OF BULK AT MOST 1048576: true; the input reads as it did. -/
def traceApartUptoRow : OpenClaim := { program := "ytkckgjjhnjcffaa", sum := "3a8d8292601606c9999e8449a7935d2a01ef322dbb30968c0a45cc3b666b00c0", func := "understudy/understudylaw22.TraceApart", spec := "traceApart", unfollowed := true, recurses := true, plainKeys := false, apart := false, narrowed := true }
def TraceApartUptoSaid : Prop := traceApartUptoRow.holds Try.pinned (OpenSpec.upto traceApartSpec)

/-- 'understudylaw22.TraceBegins', WHERE WHAT IT READS IS OF BULK AT MOST 1048576: true; the input reads as it did. -/
def traceBeginsUptoRow : OpenClaim := { program := "ytkckgjjhnjcffaa", sum := "3a8d8292601606c9999e8449a7935d2a01ef322dbb30968c0a45cc3b666b00c0", func := "understudy/understudylaw22.TraceBegins", spec := "traceBegins", unfollowed := true, recurses := true, plainKeys := false, apart := false, narrowed := true }
def TraceBeginsUptoSaid : Prop := traceBeginsUptoRow.holds Try.pinned (OpenSpec.upto traceBeginsSpec)

/-- 'understudylaw22.TraceWrong', WHERE WHAT IT READS IS OF BULK AT MOST 1048576: true; the input reads as it did. -/
def traceWrongUptoRow : OpenClaim := { program := "ytkckgjjhnjcffaa", sum := "3a8d8292601606c9999e8449a7935d2a01ef322dbb30968c0a45cc3b666b00c0", func := "understudy/understudylaw22.TraceWrong", spec := "traceWrong", unfollowed := true, recurses := true, plainKeys := false, apart := false, narrowed := true }
def TraceWrongUptoSaid : Prop := traceWrongUptoRow.holds Try.pinned (OpenSpec.upto traceWrongSpec)

/-- 'understudylaw19.RealmNames', WHERE WHAT IT READS IS OF BULK AT MOST 1048576: true; the input reads as it did. -/
def realmNamesUptoRow : OpenClaim := { program := "ytkckgjjhnjcffaa", sum := "3a8d8292601606c9999e8449a7935d2a01ef322dbb30968c0a45cc3b666b00c0", func := "understudy/understudylaw19.RealmNames", spec := "realmNames", unfollowed := true, recurses := true, plainKeys := false, apart := false, narrowed := true }
def RealmNamesUptoSaid : Prop := realmNamesUptoRow.holds Try.pinned (OpenSpec.upto realmNamesSpec)

end Rows
end Go.Proofs.Ytkckgjjhnjcffaa
