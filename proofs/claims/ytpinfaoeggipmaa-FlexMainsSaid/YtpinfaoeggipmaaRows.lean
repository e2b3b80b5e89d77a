/-
  No cell of these rows narrows 'for every input' (looked for: loops, veiled, ifaces, maps, wideKeys, modest, calm, conditions, laid).
  DERIVED. THE GIVEN ROWS OF THIS SEAT. 12 by the template 'for every input the law returns true; each argument reads behind the call as it read before'; 0 by the template 'total and deterministic' (their statements: YtpinfaoeggipmaaTotals.lean).
  GIVEN WITH THE SEED: the statements are not yours to turn. If you find one false, say at which input.
  Laid BY PROGRAM, IN A SANDBOX (cutbox-rows.mjs): the forced cells as the released guide's own fill.sh prints them over the translation 26e0f41e7eb04e89… (all of the seat's roots in one cut). By AI agents, Wed Nov 11 2026. No macro, syntax, notation, axiom, sorry.
-/
import Derived.Test.YtpinfaoeggipmaaChecked
import GoSem.Claim
import GoSem.ClaimJoined
import GoSem.ClaimMapViews
import Derived.JoinedTies
import Derived.KernelRfl
namespace Go.Proofs.Ytpinfaoeggipmaa
/- THE CELL 'sum', in the pinned program and in every row, IS THE sha256 OF THE DUMP (.gsa) THAT YtpinfaoeggipmaaProg.lean LOADS. Nothing in Lean hashes anything: it is a label: what it is worth is what the hold of that sum in a sandbox is worth. -/
noncomputable def Try.pinned : Pinned := { name := "ytpinfaoeggipmaa", sum := "26e0f41e7eb04e89941e72c9dbd7dcb4ba5bf00952d9217009cfc23de0b03d44", checked := Try.checked }
namespace Rows
def none {H : Type} : Left H := { results := [], args := [] }

/-- 'clerestorylaw3.MarginsMeet': WHATEVER THE INPUT: true; the input reads as it did. -/
def marginsMeetSpec : ChangeSpec := { name := "marginsMeet", fn := fun _ => fun
  | [d] => { results := [.lit (.bool true)], args := [d] }
  | _ => none }
def marginsMeetRow : OpenClaim := { program := "ytpinfaoeggipmaa", sum := "26e0f41e7eb04e89941e72c9dbd7dcb4ba5bf00952d9217009cfc23de0b03d44", func := "clerestory/clerestorylaw3.MarginsMeet", spec := "marginsMeet", apart := false }
def MarginsMeetSaid : Prop := marginsMeetRow.holds Try.pinned (OpenSpec.ofChange marginsMeetSpec)

/-- ITS FALSE NEIGHBOUR: 'it returns false'. Refute it at one input. -/
def marginsMeetWrong : ChangeSpec := { name := "marginsMeet", fn := fun _ => fun
  | [d] => { results := [.lit (.bool false)], args := [d] }
  | _ => none }
def MarginsMeetWrongFalsely : Prop := marginsMeetRow.holds Try.pinned (OpenSpec.ofChange marginsMeetWrong)

/-- 'clerestorylaw3.FixParts': WHATEVER THE INPUT: true; the input reads as it did. -/
def fixPartsSpec : ChangeSpec := { name := "fixParts", fn := fun _ => fun
  | [d1, d2, d3, d4, d5] => { results := [.lit (.bool true)], args := [d1, d2, d3, d4, d5] }
  | _ => none }
def fixPartsRow : OpenClaim := { program := "ytpinfaoeggipmaa", sum := "26e0f41e7eb04e89941e72c9dbd7dcb4ba5bf00952d9217009cfc23de0b03d44", func := "clerestory/clerestorylaw3.FixParts", spec := "fixParts", apart := false }
def FixPartsSaid : Prop := fixPartsRow.holds Try.pinned (OpenSpec.ofChange fixPartsSpec)

/-- ITS FALSE NEIGHBOUR: 'it returns false'. Refute it at one input. -/
def fixPartsWrong : ChangeSpec := { name := "fixParts", fn := fun _ => fun
  | [d1, d2, d3, d4, d5] => { results := [.lit (.bool false)], args := [d1, d2, d3, d4, d5] }
  | _ => none }
def FixPartsWrongFalsely : Prop := fixPartsRow.holds Try.pinned (OpenSpec.ofChange fixPartsWrong)

/-- 'clerestorylaw3.FixOfs': WHATEVER THE INPUT: true; the input reads as it did. -/
def fixOfsSpec : ChangeSpec := { name := "fixOfs", fn := fun _ => fun
  | [d1, d2] => { results := [.lit (.bool true)], args := [d1, d2] }
  | _ => none }
def fixOfsRow : OpenClaim := { program := "ytpinfaoeggipmaa", sum := "26e0f41e7eb04e89941e72c9dbd7dcb4ba5bf00952d9217009cfc23de0b03d44", func := "clerestory/clerestorylaw3.FixOfs", spec := "fixOfs", apart := false }
def FixOfsSaid : Prop := fixOfsRow.holds Try.pinned (OpenSpec.ofChange fixOfsSpec)

/-- ITS FALSE NEIGHBOUR: 'it returns false'. Refute it at one input. -/
def fixOfsWrong : ChangeSpec := { name := "fixOfs", fn := fun _ => fun
  | [d1, d2] => { results := [.lit (.bool false)], args := [d1, d2] }
  | _ => none }
def FixOfsWrongFalsely : Prop := fixOfsRow.holds Try.pinned (OpenSpec.ofChange fixOfsWrong)

/-- 'clerestorylaw3.FixShares': WHATEVER THE INPUT: true; the input reads as it did. -/
def fixSharesSpec : ChangeSpec := { name := "fixShares", fn := fun _ => fun
  | [d1, d2] => { results := [.lit (.bool true)], args := [d1, d2] }
  | _ => none }
def fixSharesRow : OpenClaim := { program := "ytpinfaoeggipmaa", sum := "26e0f41e7eb04e89941e72c9dbd7dcb4ba5bf00952d9217009cfc23de0b03d44", func := "clerestory/clerestorylaw3.FixShares", spec := "fixShares", unfollowed := true, recurses := true, apart := false }
def FixSharesSaid : Prop := fixSharesRow.holds Try.pinned (OpenSpec.ofChange fixSharesSpec)

/-- ITS FALSE NEIGHBOUR: 'it returns false'. Refute it at one input. -/
def fixSharesWrong : ChangeSpec := { name := "fixShares", fn := fun _ => fun
  | [d1, d2] => { results := [.lit (.bool false)], args := [d1, d2] }
  | _ => none }
def FixSharesWrongFalsely : Prop := fixSharesRow.holds Try.pinned (OpenSpec.ofChange fixSharesWrong)

/-- 'clerestorylaw3.MarginsFrame': WHATEVER THE INPUT: true; the input reads as it did. -/
def marginsFrameSpec : ChangeSpec := { name := "marginsFrame", fn := fun _ => fun
  | [d1, d2, d3] => { results := [.lit (.bool true)], args := [d1, d2, d3] }
  | _ => none }
def marginsFrameRow : OpenClaim := { program := "ytpinfaoeggipmaa", sum := "26e0f41e7eb04e89941e72c9dbd7dcb4ba5bf00952d9217009cfc23de0b03d44", func := "clerestory/clerestorylaw3.MarginsFrame", spec := "marginsFrame", unfollowed := true, recurses := true, apart := false }
def MarginsFrameSaid : Prop := marginsFrameRow.holds Try.pinned (OpenSpec.ofChange marginsFrameSpec)

/-- ITS FALSE NEIGHBOUR: 'it returns false'. Refute it at one input. -/
def marginsFrameWrong : ChangeSpec := { name := "marginsFrame", fn := fun _ => fun
  | [d1, d2, d3] => { results := [.lit (.bool false)], args := [d1, d2, d3] }
  | _ => none }
def MarginsFrameWrongFalsely : Prop := marginsFrameRow.holds Try.pinned (OpenSpec.ofChange marginsFrameWrong)

/-- 'clerestorylaw3.WidthsWide': WHATEVER THE INPUT: true; the input reads as it did. -/
def widthsWideSpec : ChangeSpec := { name := "widthsWide", fn := fun _ => fun
  | [d1, d2] => { results := [.lit (.bool true)], args := [d1, d2] }
  | _ => none }
def widthsWideRow : OpenClaim := { program := "ytpinfaoeggipmaa", sum := "26e0f41e7eb04e89941e72c9dbd7dcb4ba5bf00952d9217009cfc23de0b03d44", func := "clerestory/clerestorylaw3.WidthsWide", spec := "widthsWide", unfollowed := true, recurses := true, apart := false }
def WidthsWideSaid : Prop := widthsWideRow.holds Try.pinned (OpenSpec.ofChange widthsWideSpec)

/-- ITS FALSE NEIGHBOUR: 'it returns false'. Refute it at one input. -/
def widthsWideWrong : ChangeSpec := { name := "widthsWide", fn := fun _ => fun
  | [d1, d2] => { results := [.lit (.bool false)], args := [d1, d2] }
  | _ => none }
def WidthsWideWrongFalsely : Prop := widthsWideRow.holds Try.pinned (OpenSpec.ofChange widthsWideWrong)

/-- 'clerestorylaw3.WidthsShrink': WHATEVER THE INPUT: true; the input reads as it did. -/
def widthsShrinkSpec : ChangeSpec := { name := "widthsShrink", fn := fun _ => fun
  | [d1, d2, d3, d4] => { results := [.lit (.bool true)], args := [d1, d2, d3, d4] }
  | _ => none }
def widthsShrinkRow : OpenClaim := { program := "ytpinfaoeggipmaa", sum := "26e0f41e7eb04e89941e72c9dbd7dcb4ba5bf00952d9217009cfc23de0b03d44", func := "clerestory/clerestorylaw3.WidthsShrink", spec := "widthsShrink", unfollowed := true, recurses := true, apart := false }
def WidthsShrinkSaid : Prop := widthsShrinkRow.holds Try.pinned (OpenSpec.ofChange widthsShrinkSpec)

/-- ITS FALSE NEIGHBOUR: 'it returns false'. Refute it at one input. -/
def widthsShrinkWrong : ChangeSpec := { name := "widthsShrink", fn := fun _ => fun
  | [d1, d2, d3, d4] => { results := [.lit (.bool false)], args := [d1, d2, d3, d4] }
  | _ => none }
def WidthsShrinkWrongFalsely : Prop := widthsShrinkRow.holds Try.pinned (OpenSpec.ofChange widthsShrinkWrong)

/-- 'clerestorylaw3.FloatsPlace': WHATEVER THE INPUT: true; the input reads as it did. -/
def floatsPlaceSpec : ChangeSpec := { name := "floatsPlace", fn := fun _ => fun
  | [d1, d2, d3] => { results := [.lit (.bool true)], args := [d1, d2, d3] }
  | _ => none }
def floatsPlaceRow : OpenClaim := { program := "ytpinfaoeggipmaa", sum := "26e0f41e7eb04e89941e72c9dbd7dcb4ba5bf00952d9217009cfc23de0b03d44", func := "clerestory/clerestorylaw3.FloatsPlace", spec := "floatsPlace", apart := false }
def FloatsPlaceSaid : Prop := floatsPlaceRow.holds Try.pinned (OpenSpec.ofChange floatsPlaceSpec)

/-- ITS FALSE NEIGHBOUR: 'it returns false'. Refute it at one input. -/
def floatsPlaceWrong : ChangeSpec := { name := "floatsPlace", fn := fun _ => fun
  | [d1, d2, d3] => { results := [.lit (.bool false)], args := [d1, d2, d3] }
  | _ => none }
def FloatsPlaceWrongFalsely : Prop := floatsPlaceRow.holds Try.pinned (OpenSpec.ofChange floatsPlaceWrong)

/-- 'clerestorylaw3.FloatsEdges': WHATEVER THE INPUT: true; the input reads as it did. -/
def floatsEdgesSpec : ChangeSpec := { name := "floatsEdges", fn := fun _ => fun
  | [d1, d2, d3, d4, d5] => { results := [.lit (.bool true)], args := [d1, d2, d3, d4, d5] }
  | _ => none }
def floatsEdgesRow : OpenClaim := { program := "ytpinfaoeggipmaa", sum := "26e0f41e7eb04e89941e72c9dbd7dcb4ba5bf00952d9217009cfc23de0b03d44", func := "clerestory/clerestorylaw3.FloatsEdges", spec := "floatsEdges", apart := false }
def FloatsEdgesSaid : Prop := floatsEdgesRow.holds Try.pinned (OpenSpec.ofChange floatsEdgesSpec)

/-- ITS FALSE NEIGHBOUR: 'it returns false'. Refute it at one input. -/
def floatsEdgesWrong : ChangeSpec := { name := "floatsEdges", fn := fun _ => fun
  | [d1, d2, d3, d4, d5] => { results := [.lit (.bool false)], args := [d1, d2, d3, d4, d5] }
  | _ => none }
def FloatsEdgesWrongFalsely : Prop := floatsEdgesRow.holds Try.pinned (OpenSpec.ofChange floatsEdgesWrong)

/-- 'clerestorylaw3.FlexMains': WHATEVER THE INPUT: true; the input reads as it did. -/
def flexMainsSpec : ChangeSpec := { name := "flexMains", fn := fun _ => fun
  | [d1, d2, d3] => { results := [.lit (.bool true)], args := [d1, d2, d3] }
  | _ => none }
def flexMainsRow : OpenClaim := { program := "ytpinfaoeggipmaa", sum := "26e0f41e7eb04e89941e72c9dbd7dcb4ba5bf00952d9217009cfc23de0b03d44", func := "clerestory/clerestorylaw3.FlexMains", spec := "flexMains", unfollowed := true, recurses := true, apart := false }
def FlexMainsSaid : Prop := flexMainsRow.holds Try.pinned (OpenSpec.ofChange flexMainsSpec)

/-- ITS FALSE NEIGHBOUR: 'it returns false'. Refute it at one input. -/
def flexMainsWrong : ChangeSpec := { name := "flexMains", fn := fun _ => fun
  | [d1, d2, d3] => { results := [.lit (.bool false)], args := [d1, d2, d3] }
  | _ => none }
def FlexMainsWrongFalsely : Prop := flexMainsRow.holds Try.pinned (OpenSpec.ofChange flexMainsWrong)

/-- 'clerestorylaw3.FlexRows': WHATEVER THE INPUT: true; the input reads as it did. -/
def flexRowsSpec : ChangeSpec := { name := "flexRows", fn := fun _ => fun
  | [d1, d2, d3, d4] => { results := [.lit (.bool true)], args := [d1, d2, d3, d4] }
  | _ => none }
def flexRowsRow : OpenClaim := { program := "ytpinfaoeggipmaa", sum := "26e0f41e7eb04e89941e72c9dbd7dcb4ba5bf00952d9217009cfc23de0b03d44", func := "clerestory/clerestorylaw3.FlexRows", spec := "flexRows", unfollowed := true, recurses := true, apart := false }
def FlexRowsSaid : Prop := flexRowsRow.holds Try.pinned (OpenSpec.ofChange flexRowsSpec)

/-- ITS FALSE NEIGHBOUR: 'it returns false'. Refute it at one input. -/
def flexRowsWrong : ChangeSpec := { name := "flexRows", fn := fun _ => fun
  | [d1, d2, d3, d4] => { results := [.lit (.bool false)], args := [d1, d2, d3, d4] }
  | _ => none }
def FlexRowsWrongFalsely : Prop := flexRowsRow.holds Try.pinned (OpenSpec.ofChange flexRowsWrong)

/-- 'clerestorylaw3.FlexSpread': WHATEVER THE INPUT: true; the input reads as it did. -/
def flexSpreadSpec : ChangeSpec := { name := "flexSpread", fn := fun _ => fun
  | [d1, d2, d3] => { results := [.lit (.bool true)], args := [d1, d2, d3] }
  | _ => none }
def flexSpreadRow : OpenClaim := { program := "ytpinfaoeggipmaa", sum := "26e0f41e7eb04e89941e72c9dbd7dcb4ba5bf00952d9217009cfc23de0b03d44", func := "clerestory/clerestorylaw3.FlexSpread", spec := "flexSpread", unfollowed := true, recurses := true, apart := false }
def FlexSpreadSaid : Prop := flexSpreadRow.holds Try.pinned (OpenSpec.ofChange flexSpreadSpec)

/-- ITS FALSE NEIGHBOUR: 'it returns false'. Refute it at one input. -/
def flexSpreadWrong : ChangeSpec := { name := "flexSpread", fn := fun _ => fun
  | [d1, d2, d3] => { results := [.lit (.bool false)], args := [d1, d2, d3] }
  | _ => none }
def FlexSpreadWrongFalsely : Prop := flexSpreadRow.holds Try.pinned (OpenSpec.ofChange flexSpreadWrong)

/- THE SECOND FORM. 'bulk': how many values and letters a reading holds, each counted each time it is reached (what is shared counts as often as it is met; a slice's spare places count too). A statement '..UptoSaid' is the law's where the arguments, and the package variables that the reading takes, are together of bulk at most 1048576: NARROWER than '..Said'. Prove '..Said' where nothing that the law and all that it calls make is longer than what came in: it says more and counts as full. Else prove '..UptoSaid'. A law counts once. -/
mutual
def uptoBulk {H : Type} : DataW H → Nat
  | .lit (.string bytes) => bytes.length + 1
  | .lit _ => 1
  | .nil => 1
  | .ptr d => uptoBulk d + 1
  | .slice elems spare => uptoBulkAll elems + uptoBulkAll spare + 1
  | .agg parts => uptoBulkAll parts + 1
  | .iface _ d => uptoBulk d + 1
  | .map entries => uptoBulkEntries entries + 1
  | .held _ => 1
def uptoBulkAll {H : Type} : List (DataW H) → Nat
  | [] => 0
  | d :: r => uptoBulk d + uptoBulkAll r
def uptoBulkEntries {H : Type} : List (Lit × DataW H) → Nat
  | [] => 0
  | x :: r => uptoBulkEntry x + uptoBulkEntries r
def uptoBulkEntry {H : Type} : Lit × DataW H → Nat
  | (.string bytes, d) => bytes.length + uptoBulk d + 1
  | (_, d) => uptoBulk d + 1
 end
def uptoSmall : (H : Type) → List (DataW H) → Bool := fun _ ds => decide (uptoBulkAll ds ≤ 1048576)
def OpenSpec.upto (s : _root_.Go.ChangeSpec) : _root_.Go.OpenSpec := { _root_.Go.OpenSpec.ofChange s with cond := some uptoSmall }

/-- 'clerestorylaw3.MarginsMeet', WHERE WHAT IT READS IS OF BULK AT MOST 1048576: true; the input reads as it did. -/
def marginsMeetUptoRow : OpenClaim := { program := "ytpinfaoeggipmaa", sum := "26e0f41e7eb04e89941e72c9dbd7dcb4ba5bf00952d9217009cfc23de0b03d44", func := "clerestory/clerestorylaw3.MarginsMeet", spec := "marginsMeet", apart := false, narrowed := true }
def MarginsMeetUptoSaid : Prop := marginsMeetUptoRow.holds Try.pinned (OpenSpec.upto marginsMeetSpec)

/-- 'clerestorylaw3.FixParts', WHERE WHAT IT READS IS OF BULK AT MOST 1048576: true; the input reads as it did. -/
def fixPartsUptoRow : OpenClaim := { program := "ytpinfaoeggipmaa", sum := "26e0f41e7eb04e89941e72c9dbd7dcb4ba5bf00952d9217009cfc23de0b03d44", func := "clerestory/clerestorylaw3.FixParts", spec := "fixParts", apart := false, narrowed := true }
def FixPartsUptoSaid : Prop := fixPartsUptoRow.holds Try.pinned (OpenSpec.upto fixPartsSpec)

/-- 'clerestorylaw3.FixOfs', WHERE WHAT IT READS IS OF BULK AT MOST 1048576: true; the input reads as it did. -/
def fixOfsUptoRow : OpenClaim := { program := "ytpinfaoeggipmaa", sum := "26e0f41e7eb04e89941e72c9dbd7dcb4ba5bf00952d9217009cfc23de0b03d44", func := "clerestory/clerestorylaw3.FixOfs", spec := "fixOfs", apart := false, narrowed := true }
def FixOfsUptoSaid : Prop := fixOfsUptoRow.holds Try.pinned (OpenSpec.upto fixOfsSpec)

/-- 'clerestorylaw3.FixShares', WHERE WHAT IT READS IS OF BULK AT MOST 1048576: true; the input reads as it did. -/
def fixSharesUptoRow : OpenClaim := { program := "ytpinfaoeggipmaa", sum := "26e0f41e7eb04e89941e72c9dbd7dcb4ba5bf00952d9217009cfc23de0b03d44", func := "clerestory/clerestorylaw3.FixShares", spec := "fixShares", unfollowed := true, recurses := true, apart := false, narrowed := true }
def FixSharesUptoSaid : Prop := fixSharesUptoRow.holds Try.pinned (OpenSpec.upto fixSharesSpec)

/-- 'clerestorylaw3.MarginsFrame', WHERE WHAT IT READS IS OF BULK AT MOST 1048576: true; the input reads as it did. -/
def marginsFrameUptoRow : OpenClaim := { program := "ytpinfaoeggipmaa", sum := "26e0f41e7eb04e89941e72c9dbd7dcb4ba5bf00952d9217009cfc23de0b03d44", func := "clerestory/clerestorylaw3.MarginsFrame", spec := "marginsFrame", unfollowed := true, recurses := true, apart := false, narrowed := true }
def MarginsFrameUptoSaid : Prop := marginsFrameUptoRow.holds Try.pinned (OpenSpec.upto marginsFrameSpec)

/-- 'clerestorylaw3.WidthsWide', WHERE WHAT IT READS IS OF BULK AT MOST 1048576: true; the input reads as it did. -/
def widthsWideUptoRow : OpenClaim := { program := "ytpinfaoeggipmaa", sum := "26e0f41e7eb04e89941e72c9dbd7dcb4ba5bf00952d9217009cfc23de0b03d44", func := "clerestory/clerestorylaw3.WidthsWide", spec := "widthsWide", unfollowed := true, recurses := true, apart := false, narrowed := true }
def WidthsWideUptoSaid : Prop := widthsWideUptoRow.holds Try.pinned (OpenSpec.upto widthsWideSpec)

/-- 'clerestorylaw3.WidthsShrink', WHERE WHAT IT READS IS OF BULK AT MOST 1048576: true; the input reads as it did. -/
def widthsShrinkUptoRow : OpenClaim := { program := "ytpinfaoeggipmaa", sum := "26e0f41e7eb04e89941e72c9dbd7dcb4ba5bf00952d9217009cfc23de0b03d44", func := "clerestory/clerestorylaw3.WidthsShrink", spec := "widthsShrink", unfollowed := true, recurses := true, apart := false, narrowed := true }
def WidthsShrinkUptoSaid : Prop := widthsShrinkUptoRow.holds Try.pinned (OpenSpec.upto widthsShrinkSpec)

/-- 'clerestorylaw3.FloatsPlace', WHERE WHAT IT READS IS OF BULK AT MOST 1048576: true; the input reads as it did. -/
def floatsPlaceUptoRow : OpenClaim := { program := "ytpinfaoeggipmaa", sum := "26e0f41e7eb04e89941e72c9dbd7dcb4ba5bf00952d9217009cfc23de0b03d44", func := "clerestory/clerestorylaw3.FloatsPlace", spec := "floatsPlace", apart := false, narrowed := true }
def FloatsPlaceUptoSaid : Prop := floatsPlaceUptoRow.holds Try.pinned (OpenSpec.upto floatsPlaceSpec)

/-- 'clerestorylaw3.FloatsEdges', WHERE WHAT IT READS IS OF BULK AT MOST 1048576: true; the input reads as it did. -/
def floatsEdgesUptoRow : OpenClaim := { program := "ytpinfaoeggipmaa", sum := "26e0f41e7eb04e89941e72c9dbd7dcb4ba5bf00952d9217009cfc23de0b03d44", func := "clerestory/clerestorylaw3.FloatsEdges", spec := "floatsEdges", apart := false, narrowed := true }
def FloatsEdgesUptoSaid : Prop := floatsEdgesUptoRow.holds Try.pinned (OpenSpec.upto floatsEdgesSpec)

/-- 'clerestorylaw3.FlexMains', WHERE WHAT IT READS IS OF BULK AT MOST 1048576: true; the input reads as it did. -/
def flexMainsUptoRow : OpenClaim := { program := "ytpinfaoeggipmaa", sum := "26e0f41e7eb04e89941e72c9dbd7dcb4ba5bf00952d9217009cfc23de0b03d44", func := "clerestory/clerestorylaw3.FlexMains", spec := "flexMains", unfollowed := true, recurses := true, apart := false, narrowed := true }
def FlexMainsUptoSaid : Prop := flexMainsUptoRow.holds Try.pinned (OpenSpec.upto flexMainsSpec)

/-- 'clerestorylaw3.FlexRows', WHERE WHAT IT READS IS OF BULK AT MOST 1048576: true; the input reads as it did. -/
def flexRowsUptoRow : OpenClaim := { program := "ytpinfaoeggipmaa", sum := "26e0f41e7eb04e89941e72c9dbd7dcb4ba5bf00952d9217009cfc23de0b03d44", func := "clerestory/clerestorylaw3.FlexRows", spec := "flexRows", unfollowed := true, recurses := true, apart := false, narrowed := true }
def FlexRowsUptoSaid : Prop := flexRowsUptoRow.holds Try.pinned (OpenSpec.upto flexRowsSpec)

/-- 'clerestorylaw3.FlexSpread', WHERE WHAT IT READS IS OF BULK AT MOST 1048576: true; the input reads as it did. -/
def flexSpreadUptoRow : OpenClaim := { program := "ytpinfaoeggipmaa", sum := "26e0f41e7eb04e89941e72c9dbd7dcb4ba5bf00952d9217009cfc23de0b03d44", func := "clerestory/clerestorylaw3.FlexSpread", spec := "flexSpread", unfollowed := true, recurses := true, apart := false, narrowed := true }
def FlexSpreadUptoSaid : Prop := flexSpreadUptoRow.holds Try.pinned (OpenSpec.upto flexSpreadSpec)

end Rows
end Go.Proofs.Ytpinfaoeggipmaa
