/-
  DERIVED. GIVEN WITH THE SEED: THE CARDS: each row of YtkmmlcnoeeaekaaGreatDoorRows.lean that lists a variable, with what it lists TIED to the program's text (the seventh form; the later family's looks); each row that meets fmt, with fmt's text TOLD by the authors' own Lean function (tested against real Go, not proved from fmt's source: count such statements apart). THE CARD IS WHAT COUNTS. Prove the row's statement (the work); the ties are given (YtkmmlcnoeeaekaaGreatDoorTie.lean); close each card by the builder's one call (the guide's Derived/Test/ToyasCard.lean, 'card_holds'). Laid BY PROGRAM, IN A SANDBOX (cutbox-door.mjs). By AI agents, Wed Nov 11 2026. No macro, syntax, notation, axiom, sorry.
-/
import Derived.Test.YtkmmlcnoeeaekaaGreatDoorRows
import GoSem.ClaimSeven
namespace Go.Proofs.YtkmmlcnoeeaekaaGreatDoor
namespace Rows

/-- THE TIED CARD OF 'clerestorylaw3.BoxesMake'. -/
def boxesMakeCard : Claim7 := { stood := { row := boxesMakeRow, standIns := [], harness := (true, "a191cf86e91b358d9e657cb96efb9d5afcf28068c49e2a2989083553b964dae5"), looks := false }, kinds := [], alts := [], laidByText := true, laidKinds := [.data, .pinned], laidTests := true, laidLooks := .later }
def BoxesMakeCardSaid : Prop := Claim7.holds Tryz.pinned (.plain (OpenSpec.ofChange boxesMakeSpec)) boxesMakeCard

/-- THE TIED CARD OF 'clerestorylaw3.HitAll'. -/
def hitAllCard : Claim7 := { stood := { row := hitAllRow, standIns := [], harness := (true, "a191cf86e91b358d9e657cb96efb9d5afcf28068c49e2a2989083553b964dae5"), looks := false }, kinds := [], alts := [], laidByText := true, laidKinds := [.data, .data, .pinned], laidTests := true, laidLooks := .later }
def HitAllCardSaid : Prop := Claim7.holds Tryz.pinned (.plain (OpenSpec.ofChange hitAllSpec)) hitAllCard

/-- THE TIED CARD OF 'clerestorylaw3.PaintList'. -/
def paintListCard : Claim7 := { stood := { row := paintListRow, standIns := [], harness := (true, "a191cf86e91b358d9e657cb96efb9d5afcf28068c49e2a2989083553b964dae5"), looks := false }, kinds := [], alts := [], laidByText := true, laidKinds := [.data, .data, .pinned], laidTests := true, laidLooks := .later }
def PaintListCardSaid : Prop := Claim7.holds Tryz.pinned (.plain (OpenSpec.ofChange paintListSpec)) paintListCard

/-- THE SECOND FORM's CARD OF 'clerestorylaw3.BoxesMake'. -/
def boxesMakeUptoCard : Claim7 := { stood := { row := boxesMakeUptoRow, standIns := [], harness := (true, "a191cf86e91b358d9e657cb96efb9d5afcf28068c49e2a2989083553b964dae5"), looks := false }, kinds := [], alts := [], laidByText := true, laidKinds := [.data, .pinned], laidTests := true, laidLooks := .later }
def BoxesMakeUptoCardSaid : Prop := Claim7.holds Tryz.pinned (.plain (OpenSpec.upto boxesMakeSpec)) boxesMakeUptoCard

/-- THE SECOND FORM's CARD OF 'clerestorylaw3.HitAll'. -/
def hitAllUptoCard : Claim7 := { stood := { row := hitAllUptoRow, standIns := [], harness := (true, "a191cf86e91b358d9e657cb96efb9d5afcf28068c49e2a2989083553b964dae5"), looks := false }, kinds := [], alts := [], laidByText := true, laidKinds := [.data, .data, .pinned], laidTests := true, laidLooks := .later }
def HitAllUptoCardSaid : Prop := Claim7.holds Tryz.pinned (.plain (OpenSpec.upto hitAllSpec)) hitAllUptoCard

/-- THE SECOND FORM's CARD OF 'clerestorylaw3.PaintList'. -/
def paintListUptoCard : Claim7 := { stood := { row := paintListUptoRow, standIns := [], harness := (true, "a191cf86e91b358d9e657cb96efb9d5afcf28068c49e2a2989083553b964dae5"), looks := false }, kinds := [], alts := [], laidByText := true, laidKinds := [.data, .data, .pinned], laidTests := true, laidLooks := .later }
def PaintListUptoCardSaid : Prop := Claim7.holds Tryz.pinned (.plain (OpenSpec.upto paintListSpec)) paintListUptoCard
end Rows
end Go.Proofs.YtkmmlcnoeeaekaaGreatDoor
