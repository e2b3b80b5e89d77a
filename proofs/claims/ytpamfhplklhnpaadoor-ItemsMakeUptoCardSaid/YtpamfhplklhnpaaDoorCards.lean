/-
  DERIVED. GIVEN WITH THE SEED: THE CARDS: each row of YtpamfhplklhnpaaDoorRows.lean that lists a variable, with what it lists TIED to the program's text (the seventh form; the later family's looks); each row that meets fmt, with fmt's text TOLD by the authors' own Lean function (tested against real Go, not proved from fmt's source: count such statements apart). THE CARD IS WHAT COUNTS. Prove the row's statement (the work); the ties are given (YtpamfhplklhnpaaDoorTie.lean); close each card by the builder's one call (the guide's Derived/Test/ToyasCard.lean, 'card_holds'). Laid BY PROGRAM, IN A SANDBOX (cutbox-door.mjs). By AI agents, Wed Nov 11 2026. No macro, syntax, notation, axiom, sorry.
-/
import Derived.Test.YtpamfhplklhnpaaDoorRows
import GoSem.ClaimSeven
namespace Go.Proofs.YtpamfhplklhnpaaDoor
namespace Rows

/-- THE TIED CARD OF 'clerestorylaw3.ItemsMake'. -/
def itemsMakeCard : Claim7 := { stood := { row := itemsMakeRow, standIns := [], harness := (true, "5c1825b060727ff64e2f150ec99007714c08cc47c00bee70dc1986c4772ed54d"), looks := false }, kinds := [], alts := [], laidByText := true, laidKinds := [.data, .pinned], laidTests := true, laidLooks := .later }
def ItemsMakeCardSaid : Prop := Claim7.holds Tryd.pinned (.plain (OpenSpec.ofChange itemsMakeSpec)) itemsMakeCard

/-- THE TIED CARD OF 'clerestorylaw3.StackOrder'. -/
def stackOrderCard : Claim7 := { stood := { row := stackOrderRow, standIns := [], harness := (true, "5c1825b060727ff64e2f150ec99007714c08cc47c00bee70dc1986c4772ed54d"), looks := false }, kinds := [], alts := [], laidByText := true, laidKinds := [.data], laidTests := true, laidLooks := .later }
def StackOrderCardSaid : Prop := Claim7.holds Tryd.pinned (.plain (OpenSpec.ofChange stackOrderSpec)) stackOrderCard

/-- THE SECOND FORM's CARD OF 'clerestorylaw3.ItemsMake'. -/
def itemsMakeUptoCard : Claim7 := { stood := { row := itemsMakeUptoRow, standIns := [], harness := (true, "5c1825b060727ff64e2f150ec99007714c08cc47c00bee70dc1986c4772ed54d"), looks := false }, kinds := [], alts := [], laidByText := true, laidKinds := [.data, .pinned], laidTests := true, laidLooks := .later }
def ItemsMakeUptoCardSaid : Prop := Claim7.holds Tryd.pinned (.plain (OpenSpec.upto itemsMakeSpec)) itemsMakeUptoCard

/-- THE SECOND FORM's CARD OF 'clerestorylaw3.StackOrder'. -/
def stackOrderUptoCard : Claim7 := { stood := { row := stackOrderUptoRow, standIns := [], harness := (true, "5c1825b060727ff64e2f150ec99007714c08cc47c00bee70dc1986c4772ed54d"), looks := false }, kinds := [], alts := [], laidByText := true, laidKinds := [.data], laidTests := true, laidLooks := .later }
def StackOrderUptoCardSaid : Prop := Claim7.holds Tryd.pinned (.plain (OpenSpec.upto stackOrderSpec)) stackOrderUptoCard
end Rows
end Go.Proofs.YtpamfhplklhnpaaDoor
