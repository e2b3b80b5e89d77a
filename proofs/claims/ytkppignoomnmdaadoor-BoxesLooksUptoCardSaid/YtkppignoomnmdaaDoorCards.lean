/-
  DERIVED. GIVEN WITH THE SEED: THE CARDS: each row of YtkppignoomnmdaaDoorRows.lean that lists a variable, with what it lists TIED to the program's text (the seventh form; the later family's looks); each row that meets fmt, with fmt's text TOLD by the authors' own Lean function (tested against real Go, not proved from fmt's source: count such statements apart). THE CARD IS WHAT COUNTS. Prove the row's statement (the work); the ties are given (YtkppignoomnmdaaDoorTie.lean); close each card by the builder's one call (the guide's Derived/Test/ToyasCard.lean, 'card_holds'). Laid BY PROGRAM, IN A SANDBOX (cutbox-door.mjs). By AI agents, Wed Nov 11 2026. No macro, syntax, notation, axiom, sorry.
-/
import Derived.Test.YtkppignoomnmdaaDoorRows
import GoSem.ClaimSeven
namespace Go.Proofs.YtkppignoomnmdaaDoor
namespace Rows

/-- THE TIED CARD OF 'clerestorylaw3.WhiteTurns'. -/
def whiteTurnsCard : Claim7 := { stood := { row := whiteTurnsRow, standIns := [], harness := (true, "769f2490db88c2306a2d30af128b5a265759a8c0d7200d58dc31f1239b4bfe6f"), looks := false }, kinds := [], alts := [], laidByText := true, laidKinds := [.data, .pinned], laidTests := true, laidLooks := .later }
def WhiteTurnsCardSaid : Prop := Claim7.holds Tryd.pinned (.plain (OpenSpec.ofChange whiteTurnsSpec)) whiteTurnsCard

/-- THE TIED CARD OF 'clerestorylaw3.BoxesLooks'. -/
def boxesLooksCard : Claim7 := { stood := { row := boxesLooksRow, standIns := [], harness := (true, "769f2490db88c2306a2d30af128b5a265759a8c0d7200d58dc31f1239b4bfe6f"), looks := false }, kinds := [], alts := [], laidByText := true, laidKinds := [.data], laidTests := true, laidLooks := .later }
def BoxesLooksCardSaid : Prop := Claim7.holds Tryd.pinned (.plain (OpenSpec.ofChange boxesLooksSpec)) boxesLooksCard

/-- THE SECOND FORM's CARD OF 'clerestorylaw3.WhiteTurns'. -/
def whiteTurnsUptoCard : Claim7 := { stood := { row := whiteTurnsUptoRow, standIns := [], harness := (true, "769f2490db88c2306a2d30af128b5a265759a8c0d7200d58dc31f1239b4bfe6f"), looks := false }, kinds := [], alts := [], laidByText := true, laidKinds := [.data, .pinned], laidTests := true, laidLooks := .later }
def WhiteTurnsUptoCardSaid : Prop := Claim7.holds Tryd.pinned (.plain (OpenSpec.upto whiteTurnsSpec)) whiteTurnsUptoCard

/-- THE SECOND FORM's CARD OF 'clerestorylaw3.BoxesLooks'. -/
def boxesLooksUptoCard : Claim7 := { stood := { row := boxesLooksUptoRow, standIns := [], harness := (true, "769f2490db88c2306a2d30af128b5a265759a8c0d7200d58dc31f1239b4bfe6f"), looks := false }, kinds := [], alts := [], laidByText := true, laidKinds := [.data], laidTests := true, laidLooks := .later }
def BoxesLooksUptoCardSaid : Prop := Claim7.holds Tryd.pinned (.plain (OpenSpec.upto boxesLooksSpec)) boxesLooksUptoCard
end Rows
end Go.Proofs.YtkppignoomnmdaaDoor
