/-
  No cell of these rows narrows 'for every input' (looked for: loops, veiled, ifaces, maps, wideKeys, modest, calm, conditions, laid).
  DERIVED. THE GIVEN ROWS OF THIS SEAT. 10 by the template 'for every input the law returns true; each argument reads behind the call as it read before'; 0 by the template 'total and deterministic' (their statements: YtkppignoomnmdaaTotals.lean).
  GIVEN WITH THE SEED: the statements are not yours to turn. If you find one false, say at which input.
  Laid BY PROGRAM, IN A SANDBOX (cutbox-rows.mjs): the forced cells as the released guide's own fill.sh prints them over the translation 78e9be9c02d1873b… (all of the seat's roots in one cut). By AI agents, Wed Nov 11 2026. No macro, syntax, notation, axiom, sorry.
-/
import Derived.Test.YtkppignoomnmdaaChecked
import GoSem.Claim
import GoSem.ClaimJoined
import GoSem.ClaimMapViews
import Derived.JoinedTies
import Derived.KernelRfl
namespace Go.Proofs.Ytkppignoomnmdaa
/- THE CELL 'sum', in the pinned program and in every row, IS THE sha256 OF THE DUMP (.gsa) THAT YtkppignoomnmdaaProg.lean LOADS. Nothing in Lean hashes anything: it is a label: what it is worth is what the hold of that sum in a sandbox is worth. -/
noncomputable def Try.pinned : Pinned := { name := "ytkppignoomnmdaa", sum := "78e9be9c02d1873ba08c7839ab671a200c4a294d51f72a5ac2a6b1af6baa587d", checked := Try.checked }
namespace Rows
def none {H : Type} : Left H := { results := [], args := [] }

/-- 'clerestorylaw3.WhiteCollapses': WHATEVER THE INPUT: true; the input reads as it did. -/
def whiteCollapsesSpec : ChangeSpec := { name := "whiteCollapses", fn := fun _ => fun
  | [d1, d2, d3] => { results := [.lit (.bool true)], args := [d1, d2, d3] }
  | _ => none }
def whiteCollapsesRow : OpenClaim := { program := "ytkppignoomnmdaa", sum := "78e9be9c02d1873ba08c7839ab671a200c4a294d51f72a5ac2a6b1af6baa587d", func := "clerestory/clerestorylaw3.WhiteCollapses", spec := "whiteCollapses", inPlace := ["internal/bytealg.IndexByteString"], apart := false }
def WhiteCollapsesSaid : Prop := whiteCollapsesRow.holds Try.pinned (OpenSpec.ofChange whiteCollapsesSpec)

/-- ITS FALSE NEIGHBOUR: 'it returns false'. Refute it at one input. -/
def whiteCollapsesWrong : ChangeSpec := { name := "whiteCollapses", fn := fun _ => fun
  | [d1, d2, d3] => { results := [.lit (.bool false)], args := [d1, d2, d3] }
  | _ => none }
def WhiteCollapsesWrongFalsely : Prop := whiteCollapsesRow.holds Try.pinned (OpenSpec.ofChange whiteCollapsesWrong)

/-- 'clerestorylaw3.BreaksAll': WHATEVER THE INPUT: true; the input reads as it did. -/
def breaksAllSpec : ChangeSpec := { name := "breaksAll", fn := fun _ => fun
  | [d1, d2] => { results := [.lit (.bool true)], args := [d1, d2] }
  | _ => none }
def breaksAllRow : OpenClaim := { program := "ytkppignoomnmdaa", sum := "78e9be9c02d1873ba08c7839ab671a200c4a294d51f72a5ac2a6b1af6baa587d", func := "clerestory/clerestorylaw3.BreaksAll", spec := "breaksAll", unfollowed := true, recurses := true, apart := false }
def BreaksAllSaid : Prop := breaksAllRow.holds Try.pinned (OpenSpec.ofChange breaksAllSpec)

/-- ITS FALSE NEIGHBOUR: 'it returns false'. Refute it at one input. -/
def breaksAllWrong : ChangeSpec := { name := "breaksAll", fn := fun _ => fun
  | [d1, d2] => { results := [.lit (.bool false)], args := [d1, d2] }
  | _ => none }
def BreaksAllWrongFalsely : Prop := breaksAllRow.holds Try.pinned (OpenSpec.ofChange breaksAllWrong)

/-- 'clerestorylaw3.BreaksPieces': WHATEVER THE INPUT: true; the input reads as it did. -/
def breaksPiecesSpec : ChangeSpec := { name := "breaksPieces", fn := fun _ => fun
  | [d1, d2] => { results := [.lit (.bool true)], args := [d1, d2] }
  | _ => none }
def breaksPiecesRow : OpenClaim := { program := "ytkppignoomnmdaa", sum := "78e9be9c02d1873ba08c7839ab671a200c4a294d51f72a5ac2a6b1af6baa587d", func := "clerestory/clerestorylaw3.BreaksPieces", spec := "breaksPieces", unfollowed := true, recurses := true, apart := false }
def BreaksPiecesSaid : Prop := breaksPiecesRow.holds Try.pinned (OpenSpec.ofChange breaksPiecesSpec)

/-- ITS FALSE NEIGHBOUR: 'it returns false'. Refute it at one input. -/
def breaksPiecesWrong : ChangeSpec := { name := "breaksPieces", fn := fun _ => fun
  | [d1, d2] => { results := [.lit (.bool false)], args := [d1, d2] }
  | _ => none }
def BreaksPiecesWrongFalsely : Prop := breaksPiecesRow.holds Try.pinned (OpenSpec.ofChange breaksPiecesWrong)

/-- 'clerestorylaw3.BoxesChecks': WHATEVER THE INPUT: true; the input reads as it did. -/
def boxesChecksSpec : ChangeSpec := { name := "boxesChecks", fn := fun _ => fun
  | [d] => { results := [.lit (.bool true)], args := [d] }
  | _ => none }
def boxesChecksRow : OpenClaim := { program := "ytkppignoomnmdaa", sum := "78e9be9c02d1873ba08c7839ab671a200c4a294d51f72a5ac2a6b1af6baa587d", func := "clerestory/clerestorylaw3.BoxesChecks", spec := "boxesChecks", apart := false }
def BoxesChecksSaid : Prop := boxesChecksRow.holds Try.pinned (OpenSpec.ofChange boxesChecksSpec)

/-- ITS FALSE NEIGHBOUR: 'it returns false'. Refute it at one input. -/
def boxesChecksWrong : ChangeSpec := { name := "boxesChecks", fn := fun _ => fun
  | [d] => { results := [.lit (.bool false)], args := [d] }
  | _ => none }
def BoxesChecksWrongFalsely : Prop := boxesChecksRow.holds Try.pinned (OpenSpec.ofChange boxesChecksWrong)

/-- 'clerestorylaw3.PaintFrags': WHATEVER THE INPUT: true; the input reads as it did. -/
def paintFragsSpec : ChangeSpec := { name := "paintFrags", fn := fun _ => fun
  | [d1, d2, d3] => { results := [.lit (.bool true)], args := [d1, d2, d3] }
  | _ => none }
def paintFragsRow : OpenClaim := { program := "ytkppignoomnmdaa", sum := "78e9be9c02d1873ba08c7839ab671a200c4a294d51f72a5ac2a6b1af6baa587d", func := "clerestory/clerestorylaw3.PaintFrags", spec := "paintFrags", unfollowed := true, recurses := true, apart := false }
def PaintFragsSaid : Prop := paintFragsRow.holds Try.pinned (OpenSpec.ofChange paintFragsSpec)

/-- ITS FALSE NEIGHBOUR: 'it returns false'. Refute it at one input. -/
def paintFragsWrong : ChangeSpec := { name := "paintFrags", fn := fun _ => fun
  | [d1, d2, d3] => { results := [.lit (.bool false)], args := [d1, d2, d3] }
  | _ => none }
def PaintFragsWrongFalsely : Prop := paintFragsRow.holds Try.pinned (OpenSpec.ofChange paintFragsWrong)

/-- 'clerestorylaw3.RasterFlat': WHATEVER THE INPUT: true; the input reads as it did. -/
def rasterFlatSpec : ChangeSpec := { name := "rasterFlat", fn := fun _ => fun
  | [d] => { results := [.lit (.bool true)], args := [d] }
  | _ => none }
def rasterFlatRow : OpenClaim := { program := "ytkppignoomnmdaa", sum := "78e9be9c02d1873ba08c7839ab671a200c4a294d51f72a5ac2a6b1af6baa587d", func := "clerestory/clerestorylaw3.RasterFlat", spec := "rasterFlat", inPlace := ["internal/bytealg.IndexByteString", "internal/bytealg.IndexString"], named := ["internal/bytealg.MaxLen"], apart := false }
def RasterFlatSaid : Prop := rasterFlatRow.holds Try.pinned (OpenSpec.ofChange rasterFlatSpec)

/-- ITS FALSE NEIGHBOUR: 'it returns false'. Refute it at one input. -/
def rasterFlatWrong : ChangeSpec := { name := "rasterFlat", fn := fun _ => fun
  | [d] => { results := [.lit (.bool false)], args := [d] }
  | _ => none }
def RasterFlatWrongFalsely : Prop := rasterFlatRow.holds Try.pinned (OpenSpec.ofChange rasterFlatWrong)

/-- 'clerestorylaw3.RasterOver': WHATEVER THE INPUT: true; the input reads as it did. -/
def rasterOverSpec : ChangeSpec := { name := "rasterOver", fn := fun _ => fun
  | [d1, d2, d3] => { results := [.lit (.bool true)], args := [d1, d2, d3] }
  | _ => none }
def rasterOverRow : OpenClaim := { program := "ytkppignoomnmdaa", sum := "78e9be9c02d1873ba08c7839ab671a200c4a294d51f72a5ac2a6b1af6baa587d", func := "clerestory/clerestorylaw3.RasterOver", spec := "rasterOver", inPlace := ["internal/bytealg.IndexByteString", "internal/bytealg.IndexString"], named := ["internal/bytealg.MaxLen"], apart := false }
def RasterOverSaid : Prop := rasterOverRow.holds Try.pinned (OpenSpec.ofChange rasterOverSpec)

/-- ITS FALSE NEIGHBOUR: 'it returns false'. Refute it at one input. -/
def rasterOverWrong : ChangeSpec := { name := "rasterOver", fn := fun _ => fun
  | [d1, d2, d3] => { results := [.lit (.bool false)], args := [d1, d2, d3] }
  | _ => none }
def RasterOverWrongFalsely : Prop := rasterOverRow.holds Try.pinned (OpenSpec.ofChange rasterOverWrong)

/-- 'clerestorylaw3.TableColumns': WHATEVER THE INPUT: true; the input reads as it did. -/
def tableColumnsSpec : ChangeSpec := { name := "tableColumns", fn := fun _ => fun
  | [d] => { results := [.lit (.bool true)], args := [d] }
  | _ => none }
def tableColumnsRow : OpenClaim := { program := "ytkppignoomnmdaa", sum := "78e9be9c02d1873ba08c7839ab671a200c4a294d51f72a5ac2a6b1af6baa587d", func := "clerestory/clerestorylaw3.TableColumns", spec := "tableColumns", unfollowed := true, recurses := true, apart := false }
def TableColumnsSaid : Prop := tableColumnsRow.holds Try.pinned (OpenSpec.ofChange tableColumnsSpec)

/-- ITS FALSE NEIGHBOUR: 'it returns false'. Refute it at one input. -/
def tableColumnsWrong : ChangeSpec := { name := "tableColumns", fn := fun _ => fun
  | [d] => { results := [.lit (.bool false)], args := [d] }
  | _ => none }
def TableColumnsWrongFalsely : Prop := tableColumnsRow.holds Try.pinned (OpenSpec.ofChange tableColumnsWrong)

/-- 'clerestorylaw3.TableWidths': WHATEVER THE INPUT: true; the input reads as it did. -/
def tableWidthsSpec : ChangeSpec := { name := "tableWidths", fn := fun _ => fun
  | [d1, d2, d3, d4, d5] => { results := [.lit (.bool true)], args := [d1, d2, d3, d4, d5] }
  | _ => none }
def tableWidthsRow : OpenClaim := { program := "ytkppignoomnmdaa", sum := "78e9be9c02d1873ba08c7839ab671a200c4a294d51f72a5ac2a6b1af6baa587d", func := "clerestory/clerestorylaw3.TableWidths", spec := "tableWidths", unfollowed := true, recurses := true, apart := false }
def TableWidthsSaid : Prop := tableWidthsRow.holds Try.pinned (OpenSpec.ofChange tableWidthsSpec)

/-- ITS FALSE NEIGHBOUR: 'it returns false'. Refute it at one input. -/
def tableWidthsWrong : ChangeSpec := { name := "tableWidths", fn := fun _ => fun
  | [d1, d2, d3, d4, d5] => { results := [.lit (.bool false)], args := [d1, d2, d3, d4, d5] }
  | _ => none }
def TableWidthsWrongFalsely : Prop := tableWidthsRow.holds Try.pinned (OpenSpec.ofChange tableWidthsWrong)

/-- 'clerestorylaw3.LinesAbove': WHATEVER THE INPUT: true; the input reads as it did. -/
def linesAboveSpec : ChangeSpec := { name := "linesAbove", fn := fun _ => fun
  | [d1, d2] => { results := [.lit (.bool true)], args := [d1, d2] }
  | _ => none }
def linesAboveRow : OpenClaim := { program := "ytkppignoomnmdaa", sum := "78e9be9c02d1873ba08c7839ab671a200c4a294d51f72a5ac2a6b1af6baa587d", func := "clerestory/clerestorylaw3.LinesAbove", spec := "linesAbove", inPlace := ["internal/bytealg.IndexByteString", "internal/bytealg.IndexString"], unfollowed := true, recurses := true, named := ["internal/bytealg.MaxLen"], apart := false }
def LinesAboveSaid : Prop := linesAboveRow.holds Try.pinned (OpenSpec.ofChange linesAboveSpec)

/-- ITS FALSE NEIGHBOUR: 'it returns false'. Refute it at one input. -/
def linesAboveWrong : ChangeSpec := { name := "linesAbove", fn := fun _ => fun
  | [d1, d2] => { results := [.lit (.bool false)], args := [d1, d2] }
  | _ => none }
def LinesAboveWrongFalsely : Prop := linesAboveRow.holds Try.pinned (OpenSpec.ofChange linesAboveWrong)

/- THE SECOND FORM. 'bulk': how many values and letters a reading holds, each counted each time it is reached (what is shared counts as often as it is met; a slice's spare places count too). A statement '..UptoSaid' is the law's where the arguments, and the package variables that the reading takes, are together of bulk at most 1048576: NARROWER than '..Said'. Prove '..Said' where nothing that the law and all that it calls make is longer than what came in: it says more and counts as full. Else prove '..UptoSaid'. A law counts once. -/
mutual
def uptoBulk {H : Type} : DataW H → Nat
  | .lit (.string bytes) => bytes.length + 1
  | .lit _ => 1
  | .nil => 1
  | .ptr d => uptoBulk d + 1
  | .slice elems spare => uptoBulkAll elems + uptoBulkAll spare + 1
  | .agg parts => uptoBulkAll parts + 1
  | .iface _ d => uptoBulk d + 1
  | .map entries => uptoBulkEntries entries + 1
  | .held _ => 1
def uptoBulkAll {H : Type} : List (DataW H) → Nat
  | [] => 0
  | d :: r => uptoBulk d + uptoBulkAll r
def uptoBulkEntries {H : Type} : List (Lit × DataW H) → Nat
  | [] => 0
  | x :: r => uptoBulkEntry x + uptoBulkEntries r
def uptoBulkEntry {H : Type} : Lit × DataW H → Nat
  | (.string bytes, d) => bytes.length + uptoBulk d + 1
  | (_, d) => uptoBulk d + 1
 end
def uptoSmall : (H : Type) → List (DataW H) → Bool := fun _ ds => decide (uptoBulkAll ds ≤ 1048576)
def OpenSpec.upto (s : _root_.Go.ChangeSpec) : _root_.Go.OpenSpec := { _root_.Go.OpenSpec.ofChange s with cond := some uptoSmall }

/-- 'clerestorylaw3.WhiteCollapses', WHERE WHAT IT READS IS OF BULK AT MOST 1048576: true; the input reads as it did. -/
def whiteCollapsesUptoRow : OpenClaim := { program := "ytkppignoomnmdaa", sum := "78e9be9c02d1873ba08c7839ab671a200c4a294d51f72a5ac2a6b1af6baa587d", func := "clerestory/clerestorylaw3.WhiteCollapses", spec := "whiteCollapses", inPlace := ["internal/bytealg.IndexByteString"], apart := false, narrowed := true }
def WhiteCollapsesUptoSaid : Prop := whiteCollapsesUptoRow.holds Try.pinned (OpenSpec.upto whiteCollapsesSpec)

/-- 'clerestorylaw3.BreaksAll', WHERE WHAT IT READS IS OF BULK AT MOST 1048576: true; the input reads as it did. -/
def breaksAllUptoRow : OpenClaim := { program := "ytkppignoomnmdaa", sum := "78e9be9c02d1873ba08c7839ab671a200c4a294d51f72a5ac2a6b1af6baa587d", func := "clerestory/clerestorylaw3.BreaksAll", spec := "breaksAll", unfollowed := true, recurses := true, apart := false, narrowed := true }
def BreaksAllUptoSaid : Prop := breaksAllUptoRow.holds Try.pinned (OpenSpec.upto breaksAllSpec)

/-- 'clerestorylaw3.BreaksPieces', WHERE WHAT IT READS IS OF BULK AT MOST 1048576: true; the input reads as it did. -/
def breaksPiecesUptoRow : OpenClaim := { program := "ytkppignoomnmdaa", sum := "78e9be9c02d1873ba08c7839ab671a200c4a294d51f72a5ac2a6b1af6baa587d", func := "clerestory/clerestorylaw3.BreaksPieces", spec := "breaksPieces", unfollowed := true, recurses := true, apart := false, narrowed := true }
def BreaksPiecesUptoSaid : Prop := breaksPiecesUptoRow.holds Try.pinned (OpenSpec.upto breaksPiecesSpec)

/-- 'clerestorylaw3.BoxesChecks', WHERE WHAT IT READS IS OF BULK AT MOST 1048576: true; the input reads as it did. -/
def boxesChecksUptoRow : OpenClaim := { program := "ytkppignoomnmdaa", sum := "78e9be9c02d1873ba08c7839ab671a200c4a294d51f72a5ac2a6b1af6baa587d", func := "clerestory/clerestorylaw3.BoxesChecks", spec := "boxesChecks", apart := false, narrowed := true }
def BoxesChecksUptoSaid : Prop := boxesChecksUptoRow.holds Try.pinned (OpenSpec.upto boxesChecksSpec)

/-- 'clerestorylaw3.PaintFrags', WHERE WHAT IT READS IS OF BULK AT MOST 1048576: true; the input reads as it did. -/
def paintFragsUptoRow : OpenClaim := { program := "ytkppignoomnmdaa", sum := "78e9be9c02d1873ba08c7839ab671a200c4a294d51f72a5ac2a6b1af6baa587d", func := "clerestory/clerestorylaw3.PaintFrags", spec := "paintFrags", unfollowed := true, recurses := true, apart := false, narrowed := true }
def PaintFragsUptoSaid : Prop := paintFragsUptoRow.holds Try.pinned (OpenSpec.upto paintFragsSpec)

/-- 'clerestorylaw3.RasterFlat', WHERE WHAT IT READS IS OF BULK AT MOST 1048576: true; the input reads as it did. -/
def rasterFlatUptoRow : OpenClaim := { program := "ytkppignoomnmdaa", sum := "78e9be9c02d1873ba08c7839ab671a200c4a294d51f72a5ac2a6b1af6baa587d", func := "clerestory/clerestorylaw3.RasterFlat", spec := "rasterFlat", inPlace := ["internal/bytealg.IndexByteString", "internal/bytealg.IndexString"], named := ["internal/bytealg.MaxLen"], apart := false, narrowed := true }
def RasterFlatUptoSaid : Prop := rasterFlatUptoRow.holds Try.pinned (OpenSpec.upto rasterFlatSpec)

/-- 'clerestorylaw3.RasterOver', WHERE WHAT IT READS IS OF BULK AT MOST 1048576: true; the input reads as it did. -/
def rasterOverUptoRow : OpenClaim := { program := "ytkppignoomnmdaa", sum := "78e9be9c02d1873ba08c7839ab671a200c4a294d51f72a5ac2a6b1af6baa587d", func := "clerestory/clerestorylaw3.RasterOver", spec := "rasterOver", inPlace := ["internal/bytealg.IndexByteString", "internal/bytealg.IndexString"], named := ["internal/bytealg.MaxLen"], apart := false, narrowed := true }
def RasterOverUptoSaid : Prop := rasterOverUptoRow.holds Try.pinned (OpenSpec.upto rasterOverSpec)

/-- 'clerestorylaw3.TableColumns', WHERE WHAT IT READS IS OF BULK AT MOST 1048576: true; the input reads as it did. -/
def tableColumnsUptoRow : OpenClaim := { program := "ytkppignoomnmdaa", sum := "78e9be9c02d1873ba08c7839ab671a200c4a294d51f72a5ac2a6b1af6baa587d", func := "clerestory/clerestorylaw3.TableColumns", spec := "tableColumns", unfollowed := true, recurses := true, apart := false, narrowed := true }
def TableColumnsUptoSaid : Prop := tableColumnsUptoRow.holds Try.pinned (OpenSpec.upto tableColumnsSpec)

/-- 'clerestorylaw3.TableWidths', WHERE WHAT IT READS IS OF BULK AT MOST 1048576: true; the input reads as it did. -/
def tableWidthsUptoRow : OpenClaim := { program := "ytkppignoomnmdaa", sum := "78e9be9c02d1873ba08c7839ab671a200c4a294d51f72a5ac2a6b1af6baa587d", func := "clerestory/clerestorylaw3.TableWidths", spec := "tableWidths", unfollowed := true, recurses := true, apart := false, narrowed := true }
def TableWidthsUptoSaid : Prop := tableWidthsUptoRow.holds Try.pinned (OpenSpec.upto tableWidthsSpec)

/-- 'clerestorylaw3.LinesAbove', WHERE WHAT IT READS IS OF BULK AT MOST 1048576: true; the input reads as it did. -/
def linesAboveUptoRow : OpenClaim := { program := "ytkppignoomnmdaa", sum := "78e9be9c02d1873ba08c7839ab671a200c4a294d51f72a5ac2a6b1af6baa587d", func := "clerestory/clerestorylaw3.LinesAbove", spec := "linesAbove", inPlace := ["internal/bytealg.IndexByteString", "internal/bytealg.IndexString"], unfollowed := true, recurses := true, named := ["internal/bytealg.MaxLen"], apart := false, narrowed := true }
def LinesAboveUptoSaid : Prop := linesAboveUptoRow.holds Try.pinned (OpenSpec.upto linesAboveSpec)

end Rows
end Go.Proofs.Ytkppignoomnmdaa
