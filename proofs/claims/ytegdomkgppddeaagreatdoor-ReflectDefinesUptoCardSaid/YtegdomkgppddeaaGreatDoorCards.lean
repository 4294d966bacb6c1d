/-
  DERIVED. GIVEN WITH THE SEED: THE CARDS: each row of YtegdomkgppddeaaGreatDoorRows.lean that lists a variable, with what it lists TIED to the program's text (the seventh form; the later family's looks); each row that meets fmt, with fmt's text TOLD by the authors' own Lean function (tested against real Go, not proved from fmt's source: count such statements apart). THE CARD IS WHAT COUNTS. Prove the row's statement (the work); the ties are given (YtegdomkgppddeaaGreatDoorTie.lean); close each card by the builder's one call (the guide's Derived/Test/ToyasCard.lean, 'card_holds'). Laid BY PROGRAM, IN A SANDBOX (cutbox-door.mjs). By AI agents, Wed Nov 11 2026. No macro, syntax, notation, axiom, sorry.
-/
import Derived.Test.YtegdomkgppddeaaGreatDoorRows
import GoSem.ClaimSeven
namespace Go.Proofs.YtegdomkgppddeaaGreatDoor
namespace Rows

/-- THE TIED CARD OF 'understudylaw9.MopDeep'. -/
def mopDeepCard : Claim7 := { stood := { row := mopDeepRow, standIns := [], harness := (true, "39fe711491152cd6652bb2ff3592f2bd8af1d0a9e443780ecc2a708c307efcdd"), looks := true }, kinds := [], alts := [], laidByText := true, laidKinds := [.data, .data, .data, .sentinel, .sentinel], laidTests := true, laidLooks := .later }
def MopDeepCardSaid : Prop := Claim7.holds Tryz.pinned (.plain (OpenSpec.ofChange mopDeepSpec)) mopDeepCard

/-- THE TIED CARD OF 'understudylaw9.MopTraps'. -/
def mopTrapsCard : Claim7 := { stood := { row := mopTrapsRow, standIns := [], harness := (true, "39fe711491152cd6652bb2ff3592f2bd8af1d0a9e443780ecc2a708c307efcdd"), looks := true }, kinds := [], alts := [], laidByText := true, laidKinds := [.data, .data, .data, .sentinel, .sentinel], laidTests := true, laidLooks := .later }
def MopTrapsCardSaid : Prop := Claim7.holds Tryz.pinned (.plain (OpenSpec.ofChange mopTrapsSpec)) mopTrapsCard

/-- THE TIED CARD OF 'understudylaw9.MopBound'. -/
def mopBoundCard : Claim7 := { stood := { row := mopBoundRow, standIns := [], harness := (true, "39fe711491152cd6652bb2ff3592f2bd8af1d0a9e443780ecc2a708c307efcdd"), looks := true }, kinds := [], alts := [], laidByText := true, laidKinds := [.data, .data, .data, .sentinel, .sentinel], laidTests := true, laidLooks := .later }
def MopBoundCardSaid : Prop := Claim7.holds Tryz.pinned (.plain (OpenSpec.ofChange mopBoundSpec)) mopBoundCard

/-- THE TIED CARD OF 'understudylaw9.MopRevoked'. -/
def mopRevokedCard : Claim7 := { stood := { row := mopRevokedRow, standIns := [], harness := (true, "39fe711491152cd6652bb2ff3592f2bd8af1d0a9e443780ecc2a708c307efcdd"), looks := true }, kinds := [], alts := [], laidByText := true, laidKinds := [.data, .data, .data, .sentinel, .sentinel], laidTests := true, laidLooks := .later }
def MopRevokedCardSaid : Prop := Claim7.holds Tryz.pinned (.plain (OpenSpec.ofChange mopRevokedSpec)) mopRevokedCard

/-- THE TIED CARD OF 'understudylaw10.ReflectNames'. -/
def reflectNamesCard : Claim7 := { stood := { row := reflectNamesRow, standIns := [], harness := (true, "39fe711491152cd6652bb2ff3592f2bd8af1d0a9e443780ecc2a708c307efcdd"), looks := true }, kinds := [], alts := [], laidByText := true, laidKinds := [.data, .data, .data, .sentinel, .sentinel], laidTests := true, laidLooks := .later }
def ReflectNamesCardSaid : Prop := Claim7.holds Tryz.pinned (.plain (OpenSpec.ofChange reflectNamesSpec)) reflectNamesCard

/-- THE TIED CARD OF 'understudylaw10.ReflectGets'. -/
def reflectGetsCard : Claim7 := { stood := { row := reflectGetsRow, standIns := [], harness := (true, "39fe711491152cd6652bb2ff3592f2bd8af1d0a9e443780ecc2a708c307efcdd"), looks := true }, kinds := [], alts := [], laidByText := true, laidKinds := [.data, .data, .data, .sentinel, .sentinel], laidTests := true, laidLooks := .later }
def ReflectGetsCardSaid : Prop := Claim7.holds Tryz.pinned (.plain (OpenSpec.ofChange reflectGetsSpec)) reflectGetsCard

/-- THE TIED CARD OF 'understudylaw10.ReflectDefines'. -/
def reflectDefinesCard : Claim7 := { stood := { row := reflectDefinesRow, standIns := [], harness := (true, "39fe711491152cd6652bb2ff3592f2bd8af1d0a9e443780ecc2a708c307efcdd"), looks := true }, kinds := [], alts := [], laidByText := true, laidKinds := [.data, .data, .data, .sentinel, .sentinel], laidTests := true, laidLooks := .later }
def ReflectDefinesCardSaid : Prop := Claim7.holds Tryz.pinned (.plain (OpenSpec.ofChange reflectDefinesSpec)) reflectDefinesCard

/-- THE TIED CARD OF 'understudylaw10.ReflectKeys'. -/
def reflectKeysCard : Claim7 := { stood := { row := reflectKeysRow, standIns := [], harness := (true, "39fe711491152cd6652bb2ff3592f2bd8af1d0a9e443780ecc2a708c307efcdd"), looks := true }, kinds := [], alts := [], laidByText := true, laidKinds := [.data, .data, .data, .sentinel, .sentinel], laidTests := true, laidLooks := .later }
def ReflectKeysCardSaid : Prop := Claim7.holds Tryz.pinned (.plain (OpenSpec.ofChange reflectKeysSpec)) reflectKeysCard

/-- THE TIED CARD OF 'understudylaw18.NativesRevoke'. -/
def nativesRevokeCard : Claim7 := { stood := { row := nativesRevokeRow, standIns := [], harness := (true, "39fe711491152cd6652bb2ff3592f2bd8af1d0a9e443780ecc2a708c307efcdd"), looks := true }, kinds := [], alts := [], laidByText := true, laidKinds := [.data, .data, .data, .data, .sentinel, .sentinel, .pinned], laidTests := true, laidLooks := .later }
def NativesRevokeCardSaid : Prop := Claim7.holds Tryz.pinned (.plain (OpenSpec.ofChange nativesRevokeSpec)) nativesRevokeCard

/-- THE TIED CARD OF 'understudylaw18.NativesBind'. -/
def nativesBindCard : Claim7 := { stood := { row := nativesBindRow, standIns := [], harness := (true, "39fe711491152cd6652bb2ff3592f2bd8af1d0a9e443780ecc2a708c307efcdd"), looks := true }, kinds := [], alts := [], laidByText := true, laidKinds := [.data, .data, .data, .data, .sentinel, .sentinel, .pinned], laidTests := true, laidLooks := .later }
def NativesBindCardSaid : Prop := Claim7.holds Tryz.pinned (.plain (OpenSpec.ofChange nativesBindSpec)) nativesBindCard

/-- THE TIED CARD OF 'understudylaw18.NativesPrint'. -/
def nativesPrintCard : Claim7 := { stood := { row := nativesPrintRow, standIns := [], harness := (true, "39fe711491152cd6652bb2ff3592f2bd8af1d0a9e443780ecc2a708c307efcdd"), looks := true }, kinds := [], alts := [], laidByText := true, laidKinds := [.data, .data, .data, .data, .sentinel, .sentinel, .pinned], laidTests := true, laidLooks := .later }
def NativesPrintCardSaid : Prop := Claim7.holds Tryz.pinned (.plain (OpenSpec.ofChange nativesPrintSpec)) nativesPrintCard

/-- THE TIED CARD OF 'understudylaw11.IntegrityMore'. -/
def integrityMoreCard : Claim7 := { stood := { row := integrityMoreRow, standIns := [], harness := (true, "39fe711491152cd6652bb2ff3592f2bd8af1d0a9e443780ecc2a708c307efcdd"), looks := true }, kinds := [], alts := [], laidByText := true, laidKinds := [.data, .data, .data, .sentinel, .sentinel], laidTests := true, laidLooks := .later }
def IntegrityMoreCardSaid : Prop := Claim7.holds Tryz.pinned (.plain (OpenSpec.ofChange integrityMoreSpec)) integrityMoreCard

/-- THE SECOND FORM's CARD OF 'understudylaw9.MopDeep'. -/
def mopDeepUptoCard : Claim7 := { stood := { row := mopDeepUptoRow, standIns := [], harness := (true, "39fe711491152cd6652bb2ff3592f2bd8af1d0a9e443780ecc2a708c307efcdd"), looks := true }, kinds := [], alts := [], laidByText := true, laidKinds := [.data, .data, .data, .sentinel, .sentinel], laidTests := true, laidLooks := .later }
def MopDeepUptoCardSaid : Prop := Claim7.holds Tryz.pinned (.plain (OpenSpec.upto mopDeepSpec)) mopDeepUptoCard

/-- THE SECOND FORM's CARD OF 'understudylaw9.MopTraps'. -/
def mopTrapsUptoCard : Claim7 := { stood := { row := mopTrapsUptoRow, standIns := [], harness := (true, "39fe711491152cd6652bb2ff3592f2bd8af1d0a9e443780ecc2a708c307efcdd"), looks := true }, kinds := [], alts := [], laidByText := true, laidKinds := [.data, .data, .data, .sentinel, .sentinel], laidTests := true, laidLooks := .later }
def MopTrapsUptoCardSaid : Prop := Claim7.holds Tryz.pinned (.plain (OpenSpec.upto mopTrapsSpec)) mopTrapsUptoCard

/-- THE SECOND FORM's CARD OF 'understudylaw9.MopBound'. -/
def mopBoundUptoCard : Claim7 := { stood := { row := mopBoundUptoRow, standIns := [], harness := (true, "39fe711491152cd6652bb2ff3592f2bd8af1d0a9e443780ecc2a708c307efcdd"), looks := true }, kinds := [], alts := [], laidByText := true, laidKinds := [.data, .data, .data, .sentinel, .sentinel], laidTests := true, laidLooks := .later }
def MopBoundUptoCardSaid : Prop := Claim7.holds Tryz.pinned (.plain (OpenSpec.upto mopBoundSpec)) mopBoundUptoCard

/-- THE SECOND FORM's CARD OF 'understudylaw9.MopRevoked'. -/
def mopRevokedUptoCard : Claim7 := { stood := { row := mopRevokedUptoRow, standIns := [], harness := (true, "39fe711491152cd6652bb2ff3592f2bd8af1d0a9e443780ecc2a708c307efcdd"), looks := true }, kinds := [], alts := [], laidByText := true, laidKinds := [.data, .data, .data, .sentinel, .sentinel], laidTests := true, laidLooks := .later }
def MopRevokedUptoCardSaid : Prop := Claim7.holds Tryz.pinned (.plain (OpenSpec.upto mopRevokedSpec)) mopRevokedUptoCard

/-- THE SECOND FORM's CARD OF 'understudylaw10.ReflectNames'. -/
def reflectNamesUptoCard : Claim7 := { stood := { row := reflectNamesUptoRow, standIns := [], harness := (true, "39fe711491152cd6652bb2ff3592f2bd8af1d0a9e443780ecc2a708c307efcdd"), looks := true }, kinds := [], alts := [], laidByText := true, laidKinds := [.data, .data, .data, .sentinel, .sentinel], laidTests := true, laidLooks := .later }
def ReflectNamesUptoCardSaid : Prop := Claim7.holds Tryz.pinned (.plain (OpenSpec.upto reflectNamesSpec)) reflectNamesUptoCard

/-- THE SECOND FORM's CARD OF 'understudylaw10.ReflectGets'. -/
def reflectGetsUptoCard : Claim7 := { stood := { row := reflectGetsUptoRow, standIns := [], harness := (true, "39fe711491152cd6652bb2ff3592f2bd8af1d0a9e443780ecc2a708c307efcdd"), looks := true }, kinds := [], alts := [], laidByText := true, laidKinds := [.data, .data, .data, .sentinel, .sentinel], laidTests := true, laidLooks := .later }
def ReflectGetsUptoCardSaid : Prop := Claim7.holds Tryz.pinned (.plain (OpenSpec.upto reflectGetsSpec)) reflectGetsUptoCard

/-- THE SECOND FORM's CARD OF 'understudylaw10.ReflectDefines'. -/
def reflectDefinesUptoCard : Claim7 := { stood := { row := reflectDefinesUptoRow, standIns := [], harness := (true, "39fe711491152cd6652bb2ff3592f2bd8af1d0a9e443780ecc2a708c307efcdd"), looks := true }, kinds := [], alts := [], laidByText := true, laidKinds := [.data, .data, .data, .sentinel, .sentinel], laidTests := true, laidLooks := .later }
def ReflectDefinesUptoCardSaid : Prop := Claim7.holds Tryz.pinned (.plain (OpenSpec.upto reflectDefinesSpec)) reflectDefinesUptoCard

/-- THE SECOND FORM's CARD OF 'understudylaw10.ReflectKeys'. -/
def reflectKeysUptoCard : Claim7 := { stood := { row := reflectKeysUptoRow, standIns := [], harness := (true, "39fe711491152cd6652bb2ff3592f2bd8af1d0a9e443780ecc2a708c307efcdd"), looks := true }, kinds := [], alts := [], laidByText := true, laidKinds := [.data, .data, .data, .sentinel, .sentinel], laidTests := true, laidLooks := .later }
def ReflectKeysUptoCardSaid : Prop := Claim7.holds Tryz.pinned (.plain (OpenSpec.upto reflectKeysSpec)) reflectKeysUptoCard

/-- THE SECOND FORM's CARD OF 'understudylaw18.NativesRevoke'. -/
def nativesRevokeUptoCard : Claim7 := { stood := { row := nativesRevokeUptoRow, standIns := [], harness := (true, "39fe711491152cd6652bb2ff3592f2bd8af1d0a9e443780ecc2a708c307efcdd"), looks := true }, kinds := [], alts := [], laidByText := true, laidKinds := [.data, .data, .data, .data, .sentinel, .sentinel, .pinned], laidTests := true, laidLooks := .later }
def NativesRevokeUptoCardSaid : Prop := Claim7.holds Tryz.pinned (.plain (OpenSpec.upto nativesRevokeSpec)) nativesRevokeUptoCard

/-- THE SECOND FORM's CARD OF 'understudylaw18.NativesBind'. -/
def nativesBindUptoCard : Claim7 := { stood := { row := nativesBindUptoRow, standIns := [], harness := (true, "39fe711491152cd6652bb2ff3592f2bd8af1d0a9e443780ecc2a708c307efcdd"), looks := true }, kinds := [], alts := [], laidByText := true, laidKinds := [.data, .data, .data, .data, .sentinel, .sentinel, .pinned], laidTests := true, laidLooks := .later }
def NativesBindUptoCardSaid : Prop := Claim7.holds Tryz.pinned (.plain (OpenSpec.upto nativesBindSpec)) nativesBindUptoCard

/-- THE SECOND FORM's CARD OF 'understudylaw18.NativesPrint'. -/
def nativesPrintUptoCard : Claim7 := { stood := { row := nativesPrintUptoRow, standIns := [], harness := (true, "39fe711491152cd6652bb2ff3592f2bd8af1d0a9e443780ecc2a708c307efcdd"), looks := true }, kinds := [], alts := [], laidByText := true, laidKinds := [.data, .data, .data, .data, .sentinel, .sentinel, .pinned], laidTests := true, laidLooks := .later }
def NativesPrintUptoCardSaid : Prop := Claim7.holds Tryz.pinned (.plain (OpenSpec.upto nativesPrintSpec)) nativesPrintUptoCard

/-- THE SECOND FORM's CARD OF 'understudylaw11.IntegrityMore'. -/
def integrityMoreUptoCard : Claim7 := { stood := { row := integrityMoreUptoRow, standIns := [], harness := (true, "39fe711491152cd6652bb2ff3592f2bd8af1d0a9e443780ecc2a708c307efcdd"), looks := true }, kinds := [], alts := [], laidByText := true, laidKinds := [.data, .data, .data, .sentinel, .sentinel], laidTests := true, laidLooks := .later }
def IntegrityMoreUptoCardSaid : Prop := Claim7.holds Tryz.pinned (.plain (OpenSpec.upto integrityMoreSpec)) integrityMoreUptoCard
end Rows
end Go.Proofs.YtegdomkgppddeaaGreatDoor
