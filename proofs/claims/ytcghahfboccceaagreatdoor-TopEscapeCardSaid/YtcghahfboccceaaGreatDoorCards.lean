/-
  DERIVED. GIVEN WITH THE SEED: THE CARDS: each row of YtcghahfboccceaaGreatDoorRows.lean that lists a variable, with what it lists TIED to the program's text (the seventh form; the later family's looks); each row that meets fmt, with fmt's text TOLD by the authors' own Lean function (tested against real Go, not proved from fmt's source: count such statements apart). THE CARD IS WHAT COUNTS. Prove the row's statement (the work); the ties are given (YtcghahfboccceaaGreatDoorTie.lean); close each card by the builder's one call (the guide's Derived/Test/ToyasCard.lean, 'card_holds'). Laid BY PROGRAM, IN A SANDBOX (cutbox-door.mjs). By AI agents, Wed Nov 11 2026. No macro, syntax, notation, axiom, sorry.
-/
import Derived.Test.YtcghahfboccceaaGreatDoorRows
import GoSem.ClaimSeven
namespace Go.Proofs.YtcghahfboccceaaGreatDoor
namespace Rows

/-- THE TIED CARD OF 'clerestorytop.TopFragment'. -/
def topFragmentCard : Claim7 := { stood := { row := topFragmentRow, standIns := [], harness := (true, "3663e0636d7a2099c9b625fa04314d6f8bf11d421438f4cd20e09e04f47409df"), looks := false }, kinds := [], alts := [], laidByText := true, laidKinds := [.data, .data, .data, .pinned, .pinned], laidTests := true, laidLooks := .later }
def TopFragmentCardSaid : Prop := Claim7.holds Tryz.pinned (.plain (OpenSpec.ofChange topFragmentSpec)) topFragmentCard

/-- THE TIED CARD OF 'clerestorytop.TopSerial'. -/
def topSerialCard : Claim7 := { stood := { row := topSerialRow, standIns := [], harness := (true, "3663e0636d7a2099c9b625fa04314d6f8bf11d421438f4cd20e09e04f47409df"), looks := false }, kinds := [], alts := [], laidByText := true, laidKinds := [.data, .data, .data, .pinned, .pinned], laidTests := true, laidLooks := .later }
def TopSerialCardSaid : Prop := Claim7.holds Tryz.pinned (.plain (OpenSpec.ofChange topSerialSpec)) topSerialCard

/-- THE TIED CARD OF 'clerestorytop.TopEscape'. -/
def topEscapeCard : Claim7 := { stood := { row := topEscapeRow, standIns := [], harness := (true, "3663e0636d7a2099c9b625fa04314d6f8bf11d421438f4cd20e09e04f47409df"), looks := false }, kinds := [], alts := [], laidByText := true, laidKinds := [.data, .data, .data, .pinned, .pinned], laidTests := true, laidLooks := .later }
def TopEscapeCardSaid : Prop := Claim7.holds Tryz.pinned (.plain (OpenSpec.ofChange topEscapeSpec)) topEscapeCard

/-- THE SECOND FORM's CARD OF 'clerestorytop.TopFragment'. -/
def topFragmentUptoCard : Claim7 := { stood := { row := topFragmentUptoRow, standIns := [], harness := (true, "3663e0636d7a2099c9b625fa04314d6f8bf11d421438f4cd20e09e04f47409df"), looks := false }, kinds := [], alts := [], laidByText := true, laidKinds := [.data, .data, .data, .pinned, .pinned], laidTests := true, laidLooks := .later }
def TopFragmentUptoCardSaid : Prop := Claim7.holds Tryz.pinned (.plain (OpenSpec.upto topFragmentSpec)) topFragmentUptoCard

/-- THE SECOND FORM's CARD OF 'clerestorytop.TopSerial'. -/
def topSerialUptoCard : Claim7 := { stood := { row := topSerialUptoRow, standIns := [], harness := (true, "3663e0636d7a2099c9b625fa04314d6f8bf11d421438f4cd20e09e04f47409df"), looks := false }, kinds := [], alts := [], laidByText := true, laidKinds := [.data, .data, .data, .pinned, .pinned], laidTests := true, laidLooks := .later }
def TopSerialUptoCardSaid : Prop := Claim7.holds Tryz.pinned (.plain (OpenSpec.upto topSerialSpec)) topSerialUptoCard

/-- THE SECOND FORM's CARD OF 'clerestorytop.TopEscape'. -/
def topEscapeUptoCard : Claim7 := { stood := { row := topEscapeUptoRow, standIns := [], harness := (true, "3663e0636d7a2099c9b625fa04314d6f8bf11d421438f4cd20e09e04f47409df"), looks := false }, kinds := [], alts := [], laidByText := true, laidKinds := [.data, .data, .data, .pinned, .pinned], laidTests := true, laidLooks := .later }
def TopEscapeUptoCardSaid : Prop := Claim7.holds Tryz.pinned (.plain (OpenSpec.upto topEscapeSpec)) topEscapeUptoCard
end Rows
end Go.Proofs.YtcghahfboccceaaGreatDoor
