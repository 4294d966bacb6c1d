/-
  DERIVED. GIVEN WITH THE SEED: THE CARDS: each row of YthpgbehpchjohaaGreatDoorRows.lean that lists a variable, with what it lists TIED to the program's text (the seventh form; the later family's looks); each row that meets fmt, with fmt's text TOLD by the authors' own Lean function (tested against real Go, not proved from fmt's source: count such statements apart). THE CARD IS WHAT COUNTS. Prove the row's statement (the work); the ties are given (YthpgbehpchjohaaGreatDoorTie.lean); close each card by the builder's one call (the guide's Derived/Test/ToyasCard.lean, 'card_holds'). Laid BY PROGRAM, IN A SANDBOX (cutbox-door.mjs). By AI agents, Wed Nov 11 2026. No macro, syntax, notation, axiom, sorry.
-/
import Derived.Test.YthpgbehpchjohaaGreatDoorRows
import GoSem.ClaimSeven
namespace Go.Proofs.YthpgbehpchjohaaGreatDoor
namespace Rows

/-- THE TIED CARD OF 'understudylaw20.EvalCatch'. -/
def evalCatchCard : Claim7 := { stood := { row := evalCatchRow, standIns := [], harness := (true, "b63d9df391f954d6a3d008fca41899fb87913a6238b761dcdb5285c70e0d6e62"), looks := true }, kinds := [], alts := [], laidByText := true, laidKinds := [.data, .listed, .pinned, .data, .data, .data, .data, .sentinel, .sentinel], laidTests := true, laidLooks := .later }
def EvalCatchCardSaid : Prop := Claim7.holds Tryz.pinned (.plain (OpenSpec.ofChange evalCatchSpec)) evalCatchCard

/-- THE TIED CARD OF 'understudylaw20.EvalArgs'. -/
def evalArgsCard : Claim7 := { stood := { row := evalArgsRow, standIns := [], harness := (true, "b63d9df391f954d6a3d008fca41899fb87913a6238b761dcdb5285c70e0d6e62"), looks := true }, kinds := [], alts := [], laidByText := true, laidKinds := [.data, .listed, .pinned, .data, .data, .data, .data, .sentinel, .sentinel], laidTests := true, laidLooks := .later }
def EvalArgsCardSaid : Prop := Claim7.holds Tryz.pinned (.plain (OpenSpec.ofChange evalArgsSpec)) evalArgsCard

/-- THE TIED CARD OF 'understudylaw20.EvalThis'. -/
def evalThisCard : Claim7 := { stood := { row := evalThisRow, standIns := [], harness := (true, "b63d9df391f954d6a3d008fca41899fb87913a6238b761dcdb5285c70e0d6e62"), looks := true }, kinds := [], alts := [], laidByText := true, laidKinds := [.data, .listed, .pinned, .data, .data, .data, .data, .sentinel, .sentinel], laidTests := true, laidLooks := .later }
def EvalThisCardSaid : Prop := Claim7.holds Tryz.pinned (.plain (OpenSpec.ofChange evalThisSpec)) evalThisCard

/-- THE SECOND FORM's CARD OF 'understudylaw20.EvalCatch'. -/
def evalCatchUptoCard : Claim7 := { stood := { row := evalCatchUptoRow, standIns := [], harness := (true, "b63d9df391f954d6a3d008fca41899fb87913a6238b761dcdb5285c70e0d6e62"), looks := true }, kinds := [], alts := [], laidByText := true, laidKinds := [.data, .listed, .pinned, .data, .data, .data, .data, .sentinel, .sentinel], laidTests := true, laidLooks := .later }
def EvalCatchUptoCardSaid : Prop := Claim7.holds Tryz.pinned (.plain (OpenSpec.upto evalCatchSpec)) evalCatchUptoCard

/-- THE SECOND FORM's CARD OF 'understudylaw20.EvalArgs'. -/
def evalArgsUptoCard : Claim7 := { stood := { row := evalArgsUptoRow, standIns := [], harness := (true, "b63d9df391f954d6a3d008fca41899fb87913a6238b761dcdb5285c70e0d6e62"), looks := true }, kinds := [], alts := [], laidByText := true, laidKinds := [.data, .listed, .pinned, .data, .data, .data, .data, .sentinel, .sentinel], laidTests := true, laidLooks := .later }
def EvalArgsUptoCardSaid : Prop := Claim7.holds Tryz.pinned (.plain (OpenSpec.upto evalArgsSpec)) evalArgsUptoCard

/-- THE SECOND FORM's CARD OF 'understudylaw20.EvalThis'. -/
def evalThisUptoCard : Claim7 := { stood := { row := evalThisUptoRow, standIns := [], harness := (true, "b63d9df391f954d6a3d008fca41899fb87913a6238b761dcdb5285c70e0d6e62"), looks := true }, kinds := [], alts := [], laidByText := true, laidKinds := [.data, .listed, .pinned, .data, .data, .data, .data, .sentinel, .sentinel], laidTests := true, laidLooks := .later }
def EvalThisUptoCardSaid : Prop := Claim7.holds Tryz.pinned (.plain (OpenSpec.upto evalThisSpec)) evalThisUptoCard
end Rows
end Go.Proofs.YthpgbehpchjohaaGreatDoor
