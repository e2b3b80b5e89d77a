/- The text of a box in lines: what it comes to. -/
import Derived.Test.YtpamfhplklhnpaaDoorItmC
import Derived.Test.YtpamfhplklhnpaaDoorItmD
import Derived.Test.YtpamfhplklhnpaaDoorItmE
import Derived.Test.YtpamfhplklhnpaaDoorOf
namespace Go.Proofs.YtpamfhplklhnpaaDoor
open Go.RowKit
set_option linter.unusedVariables false
set_option linter.unusedSimpArgs false
/-- The k-th row of a list of styles. -/
def rowL (lz : List Int) (k : Nat) : List Int := (List.range 118).map (fun j => lz.getD (k * 118 + j) 0)
theorem rowL_len (lz : List Int) (k : Nat) : (rowL lz k).length = 118 := by simp [rowL]
theorem looks_row {w : World} {B : Nat} {A : Option Addr} {lz : List Int} {nl k : Nat} (h : Holds w B A (ints lz)) (hl : lz.length = nl * 118) (hk : k < nl) :
    ∃ b off, A = some ⟨b, off, none⟩ ∧ b < B ∧ w.rangeAt b (off + k * 118) (sty (rowL lz k)).toList := by
  have hlen : (ints lz).length = nl * 118 := by simp [ints, hl]
  have hb : k * 118 + 118 ≤ nl * 118 := by omega
  obtain ⟨b, off, e, hlt, hc⟩ := h (by omega)
  refine ⟨b, off, e, hlt, fun j v hv => ?_⟩
  have hj : j < 118 := by
    have h1 := (List.getElem?_eq_some_iff.1 hv).1
    rw [Array.length_toList, sty_size, rowL_len] at h1
    exact h1
  have h1 := hc (k * 118 + j) (by omega)
  rw [Nat.add_assoc, h1]
  rw [show (sty (rowL lz k)).toList[j]? = (sty (rowL lz k))[j]? by simp, sty_at _ _ (by rw [rowL_len]; exact hj)] at hv
  rw [← hv]
  have hk' : k * 118 + j < lz.length := by omega
  simp [ints, List.getD, rowL, hj, hk']
/-- The keeping modes. -/
def keepM (m : Int) : Bool := m == 1 || m == 3
def itemX (M : MkV) (at_ : Nat) : ItemV := ⟨1, at_, ByteArray.empty, szN (rowL M.lz at_), ofN (stK (rowL M.lz at_) 44) (stN (rowL M.lz at_) 44) M.room, highN (rowL M.lz at_), stN (rowL M.lz at_) 41, shiftN (rowL M.lz at_), 0, 0, 0⟩
def mustX (at_ : Nat) : ItemV := { ItemV.zero with kind := 6, box := at_ }
def textR (M : MkV) (at_ : Nat) (bl : Bool) : ByteArray × Bool := colR (bx M.bs at_).text (stN (rowL M.lz at_) 41) bl
def textP (M : MkV) (at_ : Nat) (bl : Bool) : List (List UInt8) := partsOf (keepM (stN (rowL M.lz at_) 41)) (textR M at_ bl).1.data.toList
/-- The items of a text, and what is blank behind them. -/
def textI (M : MkV) (at_ : Nat) (bl : Bool) : List ItemV := emit (itemX M at_) (mustX at_) true (textP M at_ bl)
def textB (M : MkV) (at_ : Nat) (bl : Bool) : Bool := blankB (textR M at_ bl).2 true (textR M at_ bl).2 (textP M at_ bl)
end Go.Proofs.YtpamfhplklhnpaaDoor
