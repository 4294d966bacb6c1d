/-
  No cell of these rows narrows 'for every input' (looked for: loops, veiled, ifaces, maps, wideKeys, modest, calm, conditions, laid).
  DERIVED. THE GIVEN ROWS OF THIS SEAT. 12 by the template 'for every input the law returns true; each argument reads behind the call as it read before'; 0 by the template 'total and deterministic' (their statements: YthjfdbbpgdflkaaTotals.lean).
  GIVEN WITH THE SEED: the statements are not yours to turn. If you find one false, say at which input.
  Laid BY PROGRAM, IN A SANDBOX (cutbox-rows.mjs): the forced cells as the released guide's own fill.sh prints them over the translation 84337cb9c138d63e… (all of the seat's roots in one cut). By AI agents, Wed Nov 11 2026. No macro, syntax, notation, axiom, sorry.
-/
import Derived.Test.YthjfdbbpgdflkaaChecked
import GoSem.Claim
import GoSem.ClaimJoined
import GoSem.ClaimMapViews
import Derived.JoinedTies
import Derived.KernelRfl
namespace Go.Proofs.Ythjfdbbpgdflkaa
/- THE CELL 'sum', in the pinned program and in every row, IS THE sha256 OF THE DUMP (.gsa) THAT YthjfdbbpgdflkaaProg.lean LOADS. Nothing in Lean hashes anything: it is a label: what it is worth is what the hold of that sum in a sandbox is worth. -/
noncomputable def Try.pinned : Pinned := { name := "ythjfdbbpgdflkaa", sum := "84337cb9c138d63eeca670628a50202d38c59a6cd8ab01ceb35031d1aff760e6", checked := Try.checked }
namespace Rows
def none {H : Type} : Left H := { results := [], args := [] }

/-- 'understudylaw7.RulesProto': WHATEVER THE INPUT: true; the input reads as it did. -/
def rulesProtoSpec : ChangeSpec := { name := "rulesProto", fn := fun _ => fun
  | [d1, d2, d3] => { results := [.lit (.bool true)], args := [d1, d2, d3] }
  | _ => none }
def rulesProtoRow : OpenClaim := { program := "ythjfdbbpgdflkaa", sum := "84337cb9c138d63eeca670628a50202d38c59a6cd8ab01ceb35031d1aff760e6", func := "understudy/understudylaw7.RulesProto", spec := "rulesProto", plainKeys := false, apart := false }
def RulesProtoSaid : Prop := rulesProtoRow.holds Try.pinned (OpenSpec.ofChange rulesProtoSpec)

/-- ITS FALSE NEIGHBOUR: 'it returns false'. Refute it at one input. -/
def rulesProtoWrong : ChangeSpec := { name := "rulesProto", fn := fun _ => fun
  | [d1, d2, d3] => { results := [.lit (.bool false)], args := [d1, d2, d3] }
  | _ => none }
def RulesProtoWrongFalsely : Prop := rulesProtoRow.holds Try.pinned (OpenSpec.ofChange rulesProtoWrong)

/-- 'understudylaw7.RulesFixed': WHATEVER THE INPUT: true; the input reads as it did. -/
def rulesFixedSpec : ChangeSpec := { name := "rulesFixed", fn := fun _ => fun
  | [d1, d2] => { results := [.lit (.bool true)], args := [d1, d2] }
  | _ => none }
def rulesFixedRow : OpenClaim := { program := "ythjfdbbpgdflkaa", sum := "84337cb9c138d63eeca670628a50202d38c59a6cd8ab01ceb35031d1aff760e6", func := "understudy/understudylaw7.RulesFixed", spec := "rulesFixed", plainKeys := false, apart := false }
def RulesFixedSaid : Prop := rulesFixedRow.holds Try.pinned (OpenSpec.ofChange rulesFixedSpec)

/-- ITS FALSE NEIGHBOUR: 'it returns false'. Refute it at one input. -/
def rulesFixedWrong : ChangeSpec := { name := "rulesFixed", fn := fun _ => fun
  | [d1, d2] => { results := [.lit (.bool false)], args := [d1, d2] }
  | _ => none }
def RulesFixedWrongFalsely : Prop := rulesFixedRow.holds Try.pinned (OpenSpec.ofChange rulesFixedWrong)

/-- 'understudylaw7.RulesKey': WHATEVER THE INPUT: true; the input reads as it did. -/
def rulesKeySpec : ChangeSpec := { name := "rulesKey", fn := fun _ => fun
  | [d1, d2, d3, d4] => { results := [.lit (.bool true)], args := [d1, d2, d3, d4] }
  | _ => none }
def rulesKeyRow : OpenClaim := { program := "ythjfdbbpgdflkaa", sum := "84337cb9c138d63eeca670628a50202d38c59a6cd8ab01ceb35031d1aff760e6", func := "understudy/understudylaw7.RulesKey", spec := "rulesKey", plainKeys := false, apart := false }
def RulesKeySaid : Prop := rulesKeyRow.holds Try.pinned (OpenSpec.ofChange rulesKeySpec)

/-- ITS FALSE NEIGHBOUR: 'it returns false'. Refute it at one input. -/
def rulesKeyWrong : ChangeSpec := { name := "rulesKey", fn := fun _ => fun
  | [d1, d2, d3, d4] => { results := [.lit (.bool false)], args := [d1, d2, d3, d4] }
  | _ => none }
def RulesKeyWrongFalsely : Prop := rulesKeyRow.holds Try.pinned (OpenSpec.ofChange rulesKeyWrong)

/-- 'understudylaw7.RulesFast': WHATEVER THE INPUT: true; the input reads as it did. -/
def rulesFastSpec : ChangeSpec := { name := "rulesFast", fn := fun _ => fun
  | [d1, d2, d3, d4] => { results := [.lit (.bool true)], args := [d1, d2, d3, d4] }
  | _ => none }
def rulesFastRow : OpenClaim := { program := "ythjfdbbpgdflkaa", sum := "84337cb9c138d63eeca670628a50202d38c59a6cd8ab01ceb35031d1aff760e6", func := "understudy/understudylaw7.RulesFast", spec := "rulesFast", plainKeys := false, apart := false }
def RulesFastSaid : Prop := rulesFastRow.holds Try.pinned (OpenSpec.ofChange rulesFastSpec)

/-- ITS FALSE NEIGHBOUR: 'it returns false'. Refute it at one input. -/
def rulesFastWrong : ChangeSpec := { name := "rulesFast", fn := fun _ => fun
  | [d1, d2, d3, d4] => { results := [.lit (.bool false)], args := [d1, d2, d3, d4] }
  | _ => none }
def RulesFastWrongFalsely : Prop := rulesFastRow.holds Try.pinned (OpenSpec.ofChange rulesFastWrong)

/-- 'understudylaw7.RulesTruth': WHATEVER THE INPUT: true; the input reads as it did. -/
def rulesTruthSpec : ChangeSpec := { name := "rulesTruth", fn := fun _ => fun
  | [d1, d2, d3, d4, d5] => { results := [.lit (.bool true)], args := [d1, d2, d3, d4, d5] }
  | _ => none }
def rulesTruthRow : OpenClaim := { program := "ythjfdbbpgdflkaa", sum := "84337cb9c138d63eeca670628a50202d38c59a6cd8ab01ceb35031d1aff760e6", func := "understudy/understudylaw7.RulesTruth", spec := "rulesTruth", plainKeys := false, apart := false }
def RulesTruthSaid : Prop := rulesTruthRow.holds Try.pinned (OpenSpec.ofChange rulesTruthSpec)

/-- ITS FALSE NEIGHBOUR: 'it returns false'. Refute it at one input. -/
def rulesTruthWrong : ChangeSpec := { name := "rulesTruth", fn := fun _ => fun
  | [d1, d2, d3, d4, d5] => { results := [.lit (.bool false)], args := [d1, d2, d3, d4, d5] }
  | _ => none }
def RulesTruthWrongFalsely : Prop := rulesTruthRow.holds Try.pinned (OpenSpec.ofChange rulesTruthWrong)

/-- 'understudylaw7.RulesClosed': WHATEVER THE INPUT: true; the input reads as it did. -/
def rulesClosedSpec : ChangeSpec := { name := "rulesClosed", fn := fun _ => fun
  | [d1, d2, d3] => { results := [.lit (.bool true)], args := [d1, d2, d3] }
  | _ => none }
def rulesClosedRow : OpenClaim := { program := "ythjfdbbpgdflkaa", sum := "84337cb9c138d63eeca670628a50202d38c59a6cd8ab01ceb35031d1aff760e6", func := "understudy/understudylaw7.RulesClosed", spec := "rulesClosed", plainKeys := false, apart := false }
def RulesClosedSaid : Prop := rulesClosedRow.holds Try.pinned (OpenSpec.ofChange rulesClosedSpec)

/-- ITS FALSE NEIGHBOUR: 'it returns false'. Refute it at one input. -/
def rulesClosedWrong : ChangeSpec := { name := "rulesClosed", fn := fun _ => fun
  | [d1, d2, d3] => { results := [.lit (.bool false)], args := [d1, d2, d3] }
  | _ => none }
def RulesClosedWrongFalsely : Prop := rulesClosedRow.holds Try.pinned (OpenSpec.ofChange rulesClosedWrong)

/-- 'understudylaw5.DescTell': WHATEVER THE INPUT: true; the input reads as it did. -/
def descTellSpec : ChangeSpec := { name := "descTell", fn := fun _ => fun
  | [d] => { results := [.lit (.bool true)], args := [d] }
  | _ => none }
def descTellRow : OpenClaim := { program := "ythjfdbbpgdflkaa", sum := "84337cb9c138d63eeca670628a50202d38c59a6cd8ab01ceb35031d1aff760e6", func := "understudy/understudylaw5.DescTell", spec := "descTell", plainKeys := false, apart := false }
def DescTellSaid : Prop := descTellRow.holds Try.pinned (OpenSpec.ofChange descTellSpec)

/-- ITS FALSE NEIGHBOUR: 'it returns false'. Refute it at one input. -/
def descTellWrong : ChangeSpec := { name := "descTell", fn := fun _ => fun
  | [d] => { results := [.lit (.bool false)], args := [d] }
  | _ => none }
def DescTellWrongFalsely : Prop := descTellRow.holds Try.pinned (OpenSpec.ofChange descTellWrong)

/-- 'understudylaw5.DescApplies': WHATEVER THE INPUT: true; the input reads as it did. -/
def descAppliesSpec : ChangeSpec := { name := "descApplies", fn := fun _ => fun
  | [d1, d2, d3, d4] => { results := [.lit (.bool true)], args := [d1, d2, d3, d4] }
  | _ => none }
def descAppliesRow : OpenClaim := { program := "ythjfdbbpgdflkaa", sum := "84337cb9c138d63eeca670628a50202d38c59a6cd8ab01ceb35031d1aff760e6", func := "understudy/understudylaw5.DescApplies", spec := "descApplies", plainKeys := false, apart := false }
def DescAppliesSaid : Prop := descAppliesRow.holds Try.pinned (OpenSpec.ofChange descAppliesSpec)

/-- ITS FALSE NEIGHBOUR: 'it returns false'. Refute it at one input. -/
def descAppliesWrong : ChangeSpec := { name := "descApplies", fn := fun _ => fun
  | [d1, d2, d3, d4] => { results := [.lit (.bool false)], args := [d1, d2, d3, d4] }
  | _ => none }
def DescAppliesWrongFalsely : Prop := descAppliesRow.holds Try.pinned (OpenSpec.ofChange descAppliesWrong)

/-- 'understudylaw5.DescFast': WHATEVER THE INPUT: true; the input reads as it did. -/
def descFastSpec : ChangeSpec := { name := "descFast", fn := fun _ => fun
  | [d1, d2, d3] => { results := [.lit (.bool true)], args := [d1, d2, d3] }
  | _ => none }
def descFastRow : OpenClaim := { program := "ythjfdbbpgdflkaa", sum := "84337cb9c138d63eeca670628a50202d38c59a6cd8ab01ceb35031d1aff760e6", func := "understudy/understudylaw5.DescFast", spec := "descFast", plainKeys := false, apart := false }
def DescFastSaid : Prop := descFastRow.holds Try.pinned (OpenSpec.ofChange descFastSpec)

/-- ITS FALSE NEIGHBOUR: 'it returns false'. Refute it at one input. -/
def descFastWrong : ChangeSpec := { name := "descFast", fn := fun _ => fun
  | [d1, d2, d3] => { results := [.lit (.bool false)], args := [d1, d2, d3] }
  | _ => none }
def DescFastWrongFalsely : Prop := descFastRow.holds Try.pinned (OpenSpec.ofChange descFastWrong)

/-- 'understudylaw5.DescAgain': WHATEVER THE INPUT: true; the input reads as it did. -/
def descAgainSpec : ChangeSpec := { name := "descAgain", fn := fun _ => fun
  | [d1, d2, d3, d4] => { results := [.lit (.bool true)], args := [d1, d2, d3, d4] }
  | _ => none }
def descAgainRow : OpenClaim := { program := "ythjfdbbpgdflkaa", sum := "84337cb9c138d63eeca670628a50202d38c59a6cd8ab01ceb35031d1aff760e6", func := "understudy/understudylaw5.DescAgain", spec := "descAgain", plainKeys := false, apart := false }
def DescAgainSaid : Prop := descAgainRow.holds Try.pinned (OpenSpec.ofChange descAgainSpec)

/-- ITS FALSE NEIGHBOUR: 'it returns false'. Refute it at one input. -/
def descAgainWrong : ChangeSpec := { name := "descAgain", fn := fun _ => fun
  | [d1, d2, d3, d4] => { results := [.lit (.bool false)], args := [d1, d2, d3, d4] }
  | _ => none }
def DescAgainWrongFalsely : Prop := descAgainRow.holds Try.pinned (OpenSpec.ofChange descAgainWrong)

/-- 'understudylaw5.DescTurns': WHATEVER THE INPUT: true; the input reads as it did. -/
def descTurnsSpec : ChangeSpec := { name := "descTurns", fn := fun _ => fun
  | [d1, d2, d3] => { results := [.lit (.bool true)], args := [d1, d2, d3] }
  | _ => none }
def descTurnsRow : OpenClaim := { program := "ythjfdbbpgdflkaa", sum := "84337cb9c138d63eeca670628a50202d38c59a6cd8ab01ceb35031d1aff760e6", func := "understudy/understudylaw5.DescTurns", spec := "descTurns", plainKeys := false, apart := false }
def DescTurnsSaid : Prop := descTurnsRow.holds Try.pinned (OpenSpec.ofChange descTurnsSpec)

/-- ITS FALSE NEIGHBOUR: 'it returns false'. Refute it at one input. -/
def descTurnsWrong : ChangeSpec := { name := "descTurns", fn := fun _ => fun
  | [d1, d2, d3] => { results := [.lit (.bool false)], args := [d1, d2, d3] }
  | _ => none }
def DescTurnsWrongFalsely : Prop := descTurnsRow.holds Try.pinned (OpenSpec.ofChange descTurnsWrong)

/-- 'understudylaw5.DescNew': WHATEVER THE INPUT: true; the input reads as it did. -/
def descNewSpec : ChangeSpec := { name := "descNew", fn := fun _ => fun
  | [d1, d2] => { results := [.lit (.bool true)], args := [d1, d2] }
  | _ => none }
def descNewRow : OpenClaim := { program := "ythjfdbbpgdflkaa", sum := "84337cb9c138d63eeca670628a50202d38c59a6cd8ab01ceb35031d1aff760e6", func := "understudy/understudylaw5.DescNew", spec := "descNew", plainKeys := false, apart := false }
def DescNewSaid : Prop := descNewRow.holds Try.pinned (OpenSpec.ofChange descNewSpec)

/-- ITS FALSE NEIGHBOUR: 'it returns false'. Refute it at one input. -/
def descNewWrong : ChangeSpec := { name := "descNew", fn := fun _ => fun
  | [d1, d2] => { results := [.lit (.bool false)], args := [d1, d2] }
  | _ => none }
def DescNewWrongFalsely : Prop := descNewRow.holds Try.pinned (OpenSpec.ofChange descNewWrong)

/- THE SECOND FORM. 'bulk': how many values and letters a reading holds, each counted each time it is reached (what is shared counts as often as it is met; a slice's spare places count too). A statement '..UptoSaid' is the law's where the arguments, and the package variables that the reading takes, are together of bulk at most 1048576: NARROWER than '..Said'. Prove '..Said' where nothing that the law and all that it calls make is longer than what came in: it says more and counts as full. Else prove '..UptoSaid'. A law counts once. -/
mutual
def uptoBulk {H : Type} : DataW H → Nat
  | .lit (.string bytes) => bytes.length + 1
  | .lit _ => 1
  | .nil => 1
  | .ptr d => uptoBulk d + 1
  | .slice elems spare => uptoBulkAll elems + uptoBulkAll spare + 1
  | .agg parts => uptoBulkAll parts + 1
  | .iface _ d => uptoBulk d + 1
  | .map entries => uptoBulkEntries entries + 1
  | .held _ => 1
def uptoBulkAll {H : Type} : List (DataW H) → Nat
  | [] => 0
  | d :: r => uptoBulk d + uptoBulkAll r
def uptoBulkEntries {H : Type} : List (Lit × DataW H) → Nat
  | [] => 0
  | x :: r => uptoBulkEntry x + uptoBulkEntries r
def uptoBulkEntry {H : Type} : Lit × DataW H → Nat
  | (.string bytes, d) => bytes.length + uptoBulk d + 1
  | (_, d) => uptoBulk d + 1
 end
def uptoSmall : (H : Type) → List (DataW H) → Bool := fun _ ds => decide (uptoBulkAll ds ≤ 1048576)
def OpenSpec.upto (s : _root_.Go.ChangeSpec) : _root_.Go.OpenSpec := { _root_.Go.OpenSpec.ofChange s with cond := some uptoSmall }

/-- 'understudylaw7.RulesProto', WHERE WHAT IT READS IS OF BULK AT MOST 1048576: true; the input reads as it did. -/
def rulesProtoUptoRow : OpenClaim := { program := "ythjfdbbpgdflkaa", sum := "84337cb9c138d63eeca670628a50202d38c59a6cd8ab01ceb35031d1aff760e6", func := "understudy/understudylaw7.RulesProto", spec := "rulesProto", plainKeys := false, apart := false, narrowed := true }
def RulesProtoUptoSaid : Prop := rulesProtoUptoRow.holds Try.pinned (OpenSpec.upto rulesProtoSpec)

/-- 'understudylaw7.RulesFixed', WHERE WHAT IT READS IS OF BULK AT MOST 1048576: true; the input reads as it did. -/
def rulesFixedUptoRow : OpenClaim := { program := "ythjfdbbpgdflkaa", sum := "84337cb9c138d63eeca670628a50202d38c59a6cd8ab01ceb35031d1aff760e6", func := "understudy/understudylaw7.RulesFixed", spec := "rulesFixed", plainKeys := false, apart := false, narrowed := true }
def RulesFixedUptoSaid : Prop := rulesFixedUptoRow.holds Try.pinned (OpenSpec.upto rulesFixedSpec)

/-- 'understudylaw7.RulesKey', WHERE WHAT IT READS IS OF BULK AT MOST 1048576: true; the input reads as it did. -/
def rulesKeyUptoRow : OpenClaim := { program := "ythjfdbbpgdflkaa", sum := "84337cb9c138d63eeca670628a50202d38c59a6cd8ab01ceb35031d1aff760e6", func := "understudy/understudylaw7.RulesKey", spec := "rulesKey", plainKeys := false, apart := false, narrowed := true }
def RulesKeyUptoSaid : Prop := rulesKeyUptoRow.holds Try.pinned (OpenSpec.upto rulesKeySpec)

/-- 'understudylaw7.RulesFast', WHERE WHAT IT READS IS OF BULK AT MOST 1048576: true; the input reads as it did. -/
def rulesFastUptoRow : OpenClaim := { program := "ythjfdbbpgdflkaa", sum := "84337cb9c138d63eeca670628a50202d38c59a6cd8ab01ceb35031d1aff760e6", func := "understudy/understudylaw7.RulesFast", spec := "rulesFast", plainKeys := false, apart := false, narrowed := true }
def RulesFastUptoSaid : Prop := rulesFastUptoRow.holds Try.pinned (OpenSpec.upto rulesFastSpec)

/-- 'understudylaw7.RulesTruth', WHERE WHAT IT READS IS OF BULK AT MOST 1048576: true; the input reads as it did. -/
def rulesTruthUptoRow : OpenClaim := { program := "ythjfdbbpgdflkaa", sum := "84337cb9c138d63eeca670628a50202d38c59a6cd8ab01ceb35031d1aff760e6", func := "understudy/understudylaw7.RulesTruth", spec := "rulesTruth", plainKeys := false, apart := false, narrowed := true }
def RulesTruthUptoSaid : Prop := rulesTruthUptoRow.holds Try.pinned (OpenSpec.upto rulesTruthSpec)

/-- 'understudylaw7.RulesClosed', WHERE WHAT IT READS IS OF BULK AT MOST 1048576: true; the input reads as it did. -/
def rulesClosedUptoRow : OpenClaim := { program := "ythjfdbbpgdflkaa", sum := "84337cb9c138d63eeca670628a50202d38c59a6cd8ab01ceb35031d1aff760e6", func := "understudy/understudylaw7.RulesClosed", spec := "rulesClosed", plainKeys := false, apart := false, narrowed := true }
def RulesClosedUptoSaid : Prop := rulesClosedUptoRow.holds Try.pinned (OpenSpec.upto rulesClosedSpec)

/-- 'understudylaw5.DescTell', WHERE WHAT IT READS IS OF BULK AT MOST 1048576: true; the input reads as it did. -/
def descTellUptoRow : OpenClaim := { program := "ythjfdbbpgdflkaa", sum := "84337cb9c138d63eeca670628a50202d38c59a6cd8ab01ceb35031d1aff760e6", func := "understudy/understudylaw5.DescTell", spec := "descTell", plainKeys := false, apart := false, narrowed := true }
def DescTellUptoSaid : Prop := descTellUptoRow.holds Try.pinned (OpenSpec.upto descTellSpec)

/-- 'understudylaw5.DescApplies', WHERE WHAT IT READS IS OF BULK AT MOST 1048576: true; the input reads as it did. -/
def descAppliesUptoRow : OpenClaim := { program := "ythjfdbbpgdflkaa", sum := "84337cb9c138d63eeca670628a50202d38c59a6cd8ab01ceb35031d1aff760e6", func := "understudy/understudylaw5.DescApplies", spec := "descApplies", plainKeys := false, apart := false, narrowed := true }
def DescAppliesUptoSaid : Prop := descAppliesUptoRow.holds Try.pinned (OpenSpec.upto descAppliesSpec)

/-- 'understudylaw5.DescFast', WHERE WHAT IT READS IS OF BULK AT MOST 1048576: true; the input reads as it did. -/
def descFastUptoRow : OpenClaim := { program := "ythjfdbbpgdflkaa", sum := "84337cb9c138d63eeca670628a50202d38c59a6cd8ab01ceb35031d1aff760e6", func := "understudy/understudylaw5.DescFast", spec := "descFast", plainKeys := false, apart := false, narrowed := true }
def DescFastUptoSaid : Prop := descFastUptoRow.holds Try.pinned (OpenSpec.upto descFastSpec)

/-- 'understudylaw5.DescAgain', WHERE WHAT IT READS IS OF BULK AT MOST 1048576: true; the input reads as it did. -/
def descAgainUptoRow : OpenClaim := { program := "ythjfdbbpgdflkaa", sum := "84337cb9c138d63eeca670628a50202d38c59a6cd8ab01ceb35031d1aff760e6", func := "understudy/understudylaw5.DescAgain", spec := "descAgain", plainKeys := false, apart := false, narrowed := true }
def DescAgainUptoSaid : Prop := descAgainUptoRow.holds Try.pinned (OpenSpec.upto descAgainSpec)

/-- 'understudylaw5.DescTurns', WHERE WHAT IT READS IS OF BULK AT MOST 1048576: true; the input reads as it did. -/
def descTurnsUptoRow : OpenClaim := { program := "ythjfdbbpgdflkaa", sum := "84337cb9c138d63eeca670628a50202d38c59a6cd8ab01ceb35031d1aff760e6", func := "understudy/understudylaw5.DescTurns", spec := "descTurns", plainKeys := false, apart := false, narrowed := true }
def DescTurnsUptoSaid : Prop := descTurnsUptoRow.holds Try.pinned (OpenSpec.upto descTurnsSpec)

/-- 'understudylaw5.DescNew', WHERE WHAT IT READS IS OF BULK AT MOST 1048576: true; the input reads as it did. -/
def descNewUptoRow : OpenClaim := { program := "ythjfdbbpgdflkaa", sum := "84337cb9c138d63eeca670628a50202d38c59a6cd8ab01ceb35031d1aff760e6", func := "understudy/understudylaw5.DescNew", spec := "descNew", plainKeys := false, apart := false, narrowed := true }
def DescNewUptoSaid : Prop := descNewUptoRow.holds Try.pinned (OpenSpec.upto descNewSpec)

end Rows
end Go.Proofs.Ythjfdbbpgdflkaa
