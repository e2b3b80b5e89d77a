/-
  NARROWER THAN 'FOR EVERY INPUT', by the rows' own cells (each row's printed sentence says how): BoxesMake: laid · HitAll: laid · PaintList: laid.
  DERIVED. THE GIVEN ROWS OF THIS SEAT. 3 by the template 'for every input the law returns true; each argument reads behind the call as it read before'; 0 by the template 'total and deterministic' (their statements: YtkmmlcnoeeaekaaGreatDoorTotals.lean).
  GIVEN WITH THE SEED: the statements are not yours to turn. If you find one false, say at which input.
  Laid BY PROGRAM, IN A SANDBOX (cutbox-rows.mjs): the forced cells as the released guide's own fill.sh prints them over the translation f84367e08d601769… (all of the seat's roots in one cut). By AI agents, Wed Nov 11 2026. No macro, syntax, notation, axiom, sorry.
-/
import Derived.Test.YtkmmlcnoeeaekaaGreatDoorChecked
import GoSem.PinnedTables
import GoSem.Claim
import GoSem.ClaimJoined
import GoSem.ClaimMapViews
import Derived.JoinedTies
import Derived.KernelRfl
namespace Go.Proofs.YtkmmlcnoeeaekaaGreatDoor
/- THE CELL 'sum', in the pinned program and in every row, IS THE sha256 OF THE DUMP (.gsa) THAT YtkmmlcnoeeaekaaGreatDoorProg.lean LOADS. Nothing in Lean hashes anything: it is a label: what it is worth is what the hold of that sum in a sandbox is worth. -/
noncomputable def Tryz.pinned : Pinned := { name := "ytkmmlcnoeeaekaagreatdoor", sum := "f84367e08d6017698660683dd8fcf30bb053192d40ab90a4098af0993602d655", checked := Tryz.checked }
namespace Rows
def none {H : Type} : Left H := { results := [], args := [] }

/- WHAT THE LISTED PACKAGE-LEVEL VARIABLES READ AS WHEN THE CALL BEGINS. Each datum BY PROGRAM (the guide's laid-datum.mjs) off the statement by which the dump's own 'gosem.cut.vars' lays the variable. In a bare row this is a premise. The card (YtkmmlcnoeeaekaaGreatDoorCards.lean) ties it to the program's text. -/
def laid_unicode_utf8_acceptRanges {H : Type} : DataW H := .agg [.agg [.lit (.int .u8 128), .lit (.int .u8 191)], .agg [.lit (.int .u8 160), .lit (.int .u8 191)], .agg [.lit (.int .u8 128), .lit (.int .u8 159)], .agg [.lit (.int .u8 144), .lit (.int .u8 191)], .agg [.lit (.int .u8 128), .lit (.int .u8 143)], .agg [.lit (.int .u8 0), .lit (.int .u8 0)], .agg [.lit (.int .u8 0), .lit (.int .u8 0)], .agg [.lit (.int .u8 0), .lit (.int .u8 0)], .agg [.lit (.int .u8 0), .lit (.int .u8 0)], .agg [.lit (.int .u8 0), .lit (.int .u8 0)], .agg [.lit (.int .u8 0), .lit (.int .u8 0)], .agg [.lit (.int .u8 0), .lit (.int .u8 0)], .agg [.lit (.int .u8 0), .lit (.int .u8 0)], .agg [.lit (.int .u8 0), .lit (.int .u8 0)], .agg [.lit (.int .u8 0), .lit (.int .u8 0)], .agg [.lit (.int .u8 0), .lit (.int .u8 0)]]
/-- One of Go's own tables, pinned by name: the form's constant. -/
def laid_unicode_utf8_first : DataW Unit := Go.Pinned.utf8First
def laid_clerestory_style_initial {H : Type} : DataW H := .agg [.agg [.lit (.int .i64 1), .lit (.int .i64 1)], .agg [.lit (.int .i64 1), .lit (.int .i64 0)], .agg [.lit (.int .i64 1), .lit (.int .i64 0)], .agg [.lit (.int .i64 1), .lit (.int .i64 0)], .agg [.lit (.int .i64 1), .lit (.int .i64 0)], .agg [.lit (.int .i64 6), .lit (.int .i64 0)], .agg [.lit (.int .i64 6), .lit (.int .i64 0)], .agg [.lit (.int .i64 6), .lit (.int .i64 0)], .agg [.lit (.int .i64 6), .lit (.int .i64 0)], .agg [.lit (.int .i64 6), .lit (.int .i64 0)], .agg [.lit (.int .i64 6), .lit (.int .i64 0)], .agg [.lit (.int .i64 2), .lit (.int .i64 0)], .agg [.lit (.int .i64 2), .lit (.int .i64 0)], .agg [.lit (.int .i64 2), .lit (.int .i64 0)], .agg [.lit (.int .i64 2), .lit (.int .i64 0)], .agg [.lit (.int .i64 2), .lit (.int .i64 0)], .agg [.lit (.int .i64 2), .lit (.int .i64 0)], .agg [.lit (.int .i64 2), .lit (.int .i64 0)], .agg [.lit (.int .i64 2), .lit (.int .i64 0)], .agg [.lit (.int .i64 2), .lit (.int .i64 0)], .agg [.lit (.int .i64 2), .lit (.int .i64 0)], .agg [.lit (.int .i64 2), .lit (.int .i64 0)], .agg [.lit (.int .i64 2), .lit (.int .i64 0)], .agg [.lit (.int .i64 5), .lit (.int .i64 255)], .agg [.lit (.int .i64 5), .lit (.int .i64 255)], .agg [.lit (.int .i64 5), .lit (.int .i64 255)], .agg [.lit (.int .i64 5), .lit (.int .i64 255)], .agg [.lit (.int .i64 6), .lit (.int .i64 0)], .agg [.lit (.int .i64 6), .lit (.int .i64 0)], .agg [.lit (.int .i64 6), .lit (.int .i64 0)], .agg [.lit (.int .i64 6), .lit (.int .i64 0)], .agg [.lit (.int .i64 6), .lit (.int .i64 0)], .agg [.lit (.int .i64 1), .lit (.int .i64 0)], .agg [.lit (.int .i64 1), .lit (.int .i64 0)], .agg [.lit (.int .i64 4), .lit (.int .i64 1000)], .agg [.lit (.int .i64 5), .lit (.int .i64 255)], .agg [.lit (.int .i64 5), .lit (.int .i64 0)], .agg [.lit (.int .i64 2), .lit (.int .i64 1024)], .agg [.lit (.int .i64 6), .lit (.int .i64 0)], .agg [.lit (.int .i64 1), .lit (.int .i64 0)], .agg [.lit (.int .i64 2), .lit (.int .i64 0)], .agg [.lit (.int .i64 1), .lit (.int .i64 0)], .agg [.lit (.int .i64 1), .lit (.int .i64 0)], .agg [.lit (.int .i64 1), .lit (.int .i64 0)], .agg [.lit (.int .i64 6), .lit (.int .i64 0)], .agg [.lit (.int .i64 1), .lit (.int .i64 0)], .agg [.lit (.int .i64 1), .lit (.int .i64 0)], .agg [.lit (.int .i64 1), .lit (.int .i64 0)], .agg [.lit (.int .i64 1), .lit (.int .i64 6)], .agg [.lit (.int .i64 6), .lit (.int .i64 0)], .agg [.lit (.int .i64 4), .lit (.int .i64 0)], .agg [.lit (.int .i64 4), .lit (.int .i64 1000)], .agg [.lit (.int .i64 6), .lit (.int .i64 0)], .agg [.lit (.int .i64 4), .lit (.int .i64 0)], .agg [.lit (.int .i64 2), .lit (.int .i64 0)], .agg [.lit (.int .i64 1), .lit (.int .i64 0)], .agg [.lit (.int .i64 2), .lit (.int .i64 0)], .agg [.lit (.int .i64 1), .lit (.int .i64 1)], .agg [.lit (.int .i64 1), .lit (.int .i64 0)]]

/-- 'clerestorylaw3.BoxesMake': WHATEVER THE INPUT: true; the input reads as it did. -/
def boxesMakeSpec : ChangeSpec := { name := "boxesMake", fn := fun _ => fun
  | [d1, d2] => { results := [.lit (.bool true)], args := [d1, d2] }
  | _ => none }
def boxesMakeRow : OpenClaim := { program := "ytkmmlcnoeeaekaagreatdoor", sum := "f84367e08d6017698660683dd8fcf30bb053192d40ab90a4098af0993602d655", func := "clerestory/clerestorylaw3.BoxesMake", spec := "boxesMake", inPlace := ["internal/bytealg.IndexByteString", "internal/bytealg.IndexString", "internal/bytealg.CountString"], unfollowed := true, recurses := true, named := ["unicode/utf8.first", "unicode/utf8.acceptRanges", "internal/bytealg.MaxLen"], apart := false, laid := [("unicode/utf8.acceptRanges", laid_unicode_utf8_acceptRanges), ("unicode/utf8.first", laid_unicode_utf8_first)] }
def BoxesMakeSaid : Prop := boxesMakeRow.holds Tryz.pinned (OpenSpec.ofChange boxesMakeSpec)

/-- ITS FALSE NEIGHBOUR: 'it returns false'. Refute it at one input. -/
def boxesMakeWrong : ChangeSpec := { name := "boxesMake", fn := fun _ => fun
  | [d1, d2] => { results := [.lit (.bool false)], args := [d1, d2] }
  | _ => none }
def BoxesMakeWrongFalsely : Prop := boxesMakeRow.holds Tryz.pinned (OpenSpec.ofChange boxesMakeWrong)

/-- 'clerestorylaw3.HitAll': WHATEVER THE INPUT: true; the input reads as it did. -/
def hitAllSpec : ChangeSpec := { name := "hitAll", fn := fun _ => fun
  | [d1, d2, d3, d4, d5] => { results := [.lit (.bool true)], args := [d1, d2, d3, d4, d5] }
  | _ => none }
def hitAllRow : OpenClaim := { program := "ytkmmlcnoeeaekaagreatdoor", sum := "f84367e08d6017698660683dd8fcf30bb053192d40ab90a4098af0993602d655", func := "clerestory/clerestorylaw3.HitAll", spec := "hitAll", inPlace := ["internal/bytealg.IndexByteString", "internal/bytealg.IndexString", "internal/bytealg.CountString"], unfollowed := true, recurses := true, named := ["unicode/utf8.first", "unicode/utf8.acceptRanges", "internal/bytealg.MaxLen", "clerestory/style.initial"], apart := false, laid := [("unicode/utf8.acceptRanges", laid_unicode_utf8_acceptRanges), ("clerestory/style.initial", laid_clerestory_style_initial), ("unicode/utf8.first", laid_unicode_utf8_first)] }
def HitAllSaid : Prop := hitAllRow.holds Tryz.pinned (OpenSpec.ofChange hitAllSpec)

/-- ITS FALSE NEIGHBOUR: 'it returns false'. Refute it at one input. -/
def hitAllWrong : ChangeSpec := { name := "hitAll", fn := fun _ => fun
  | [d1, d2, d3, d4, d5] => { results := [.lit (.bool false)], args := [d1, d2, d3, d4, d5] }
  | _ => none }
def HitAllWrongFalsely : Prop := hitAllRow.holds Tryz.pinned (OpenSpec.ofChange hitAllWrong)

/-- 'clerestorylaw3.PaintList': WHATEVER THE INPUT: true; the input reads as it did. -/
def paintListSpec : ChangeSpec := { name := "paintList", fn := fun _ => fun
  | [d1, d2, d3, d4] => { results := [.lit (.bool true)], args := [d1, d2, d3, d4] }
  | _ => none }
def paintListRow : OpenClaim := { program := "ytkmmlcnoeeaekaagreatdoor", sum := "f84367e08d6017698660683dd8fcf30bb053192d40ab90a4098af0993602d655", func := "clerestory/clerestorylaw3.PaintList", spec := "paintList", inPlace := ["internal/bytealg.IndexByteString", "internal/bytealg.IndexString", "internal/bytealg.CountString"], unfollowed := true, recurses := true, named := ["unicode/utf8.first", "unicode/utf8.acceptRanges", "internal/bytealg.MaxLen", "clerestory/style.initial"], apart := false, laid := [("unicode/utf8.acceptRanges", laid_unicode_utf8_acceptRanges), ("clerestory/style.initial", laid_clerestory_style_initial), ("unicode/utf8.first", laid_unicode_utf8_first)] }
def PaintListSaid : Prop := paintListRow.holds Tryz.pinned (OpenSpec.ofChange paintListSpec)

/-- ITS FALSE NEIGHBOUR: 'it returns false'. Refute it at one input. -/
def paintListWrong : ChangeSpec := { name := "paintList", fn := fun _ => fun
  | [d1, d2, d3, d4] => { results := [.lit (.bool false)], args := [d1, d2, d3, d4] }
  | _ => none }
def PaintListWrongFalsely : Prop := paintListRow.holds Tryz.pinned (OpenSpec.ofChange paintListWrong)

/- THE SECOND FORM. 'bulk': how many values and letters a reading holds, each counted each time it is reached (what is shared counts as often as it is met; a slice's spare places count too). A statement '..UptoSaid' is the law's where the arguments, and the package variables that the reading takes, are together of bulk at most 1048576: NARROWER than '..Said'. Prove '..Said' where nothing that the law and all that it calls make is longer than what came in: it says more and counts as full. Else prove '..UptoSaid'. A law counts once. -/
mutual
def uptoBulk {H : Type} : DataW H → Nat
  | .lit (.string bytes) => bytes.length + 1
  | .lit _ => 1
  | .nil => 1
  | .ptr d => uptoBulk d + 1
  | .slice elems spare => uptoBulkAll elems + uptoBulkAll spare + 1
  | .agg parts => uptoBulkAll parts + 1
  | .iface _ d => uptoBulk d + 1
  | .map entries => uptoBulkEntries entries + 1
  | .held _ => 1
def uptoBulkAll {H : Type} : List (DataW H) → Nat
  | [] => 0
  | d :: r => uptoBulk d + uptoBulkAll r
def uptoBulkEntries {H : Type} : List (Lit × DataW H) → Nat
  | [] => 0
  | x :: r => uptoBulkEntry x + uptoBulkEntries r
def uptoBulkEntry {H : Type} : Lit × DataW H → Nat
  | (.string bytes, d) => bytes.length + uptoBulk d + 1
  | (_, d) => uptoBulk d + 1
 end
def uptoSmall : (H : Type) → List (DataW H) → Bool := fun _ ds => decide (uptoBulkAll ds ≤ 1048576)
def OpenSpec.upto (s : _root_.Go.ChangeSpec) : _root_.Go.OpenSpec := { _root_.Go.OpenSpec.ofChange s with cond := some uptoSmall }

/-- 'clerestorylaw3.BoxesMake', WHERE WHAT IT READS IS OF BULK AT MOST 1048576: true; the input reads as it did. -/
def boxesMakeUptoRow : OpenClaim := { program := "ytkmmlcnoeeaekaagreatdoor", sum := "f84367e08d6017698660683dd8fcf30bb053192d40ab90a4098af0993602d655", func := "clerestory/clerestorylaw3.BoxesMake", spec := "boxesMake", inPlace := ["internal/bytealg.IndexByteString", "internal/bytealg.IndexString", "internal/bytealg.CountString"], unfollowed := true, recurses := true, named := ["unicode/utf8.first", "unicode/utf8.acceptRanges", "internal/bytealg.MaxLen"], apart := false, laid := [("unicode/utf8.acceptRanges", laid_unicode_utf8_acceptRanges), ("unicode/utf8.first", laid_unicode_utf8_first)], narrowed := true }
def BoxesMakeUptoSaid : Prop := boxesMakeUptoRow.holds Tryz.pinned (OpenSpec.upto boxesMakeSpec)

/-- 'clerestorylaw3.HitAll', WHERE WHAT IT READS IS OF BULK AT MOST 1048576: true; the input reads as it did. -/
def hitAllUptoRow : OpenClaim := { program := "ytkmmlcnoeeaekaagreatdoor", sum := "f84367e08d6017698660683dd8fcf30bb053192d40ab90a4098af0993602d655", func := "clerestory/clerestorylaw3.HitAll", spec := "hitAll", inPlace := ["internal/bytealg.IndexByteString", "internal/bytealg.IndexString", "internal/bytealg.CountString"], unfollowed := true, recurses := true, named := ["unicode/utf8.first", "unicode/utf8.acceptRanges", "internal/bytealg.MaxLen", "clerestory/style.initial"], apart := false, laid := [("unicode/utf8.acceptRanges", laid_unicode_utf8_acceptRanges), ("clerestory/style.initial", laid_clerestory_style_initial), ("unicode/utf8.first", laid_unicode_utf8_first)], narrowed := true }
def HitAllUptoSaid : Prop := hitAllUptoRow.holds Tryz.pinned (OpenSpec.upto hitAllSpec)

/-- 'clerestorylaw3.PaintList', WHERE WHAT IT READS IS OF BULK AT MOST 1048576: true; the input reads as it did. -/
def paintListUptoRow : OpenClaim := { program := "ytkmmlcnoeeaekaagreatdoor", sum := "f84367e08d6017698660683dd8fcf30bb053192d40ab90a4098af0993602d655", func := "clerestory/clerestorylaw3.PaintList", spec := "paintList", inPlace := ["internal/bytealg.IndexByteString", "internal/bytealg.IndexString", "internal/bytealg.CountString"], unfollowed := true, recurses := true, named := ["unicode/utf8.first", "unicode/utf8.acceptRanges", "internal/bytealg.MaxLen", "clerestory/style.initial"], apart := false, laid := [("unicode/utf8.acceptRanges", laid_unicode_utf8_acceptRanges), ("clerestory/style.initial", laid_clerestory_style_initial), ("unicode/utf8.first", laid_unicode_utf8_first)], narrowed := true }
def PaintListUptoSaid : Prop := paintListUptoRow.holds Tryz.pinned (OpenSpec.upto paintListSpec)

end Rows
end Go.Proofs.YtkmmlcnoeeaekaaGreatDoor
