/- Plain law of P311: looks of boxes. -/
import Derived.Test.YtpamfhplklhnpaaDoorBoxes
import Derived.Test.YtpamfhplklhnpaaDoorRowList
namespace Go.Proofs.YtpamfhplklhnpaaDoor
open Go.RowKit
set_option linter.unusedVariables false

def ints (zs : List Int) : List Value := zs.map (Value.int .i64)
theorem ints_len (zs : List Int) : (ints zs).length = zs.length := by simp [ints]
def inhP (p : Nat) : Bool := [33, 35, 37, 38, 39, 40, 41, 43, 44, 56, 57, 58].contains p
/-- One box's look. -/
def lookQ (lz tbl : List Int) (prev : List (List Int)) (x : BoxV) (q : Nat) : Int :=
  if 0 ≤ x.node then lz.getD (x.node.toNat * 118 + q) 0 else if inhP (q / 2) then (prev.getD x.parent.toNat []).getD q 0 else tbl.getD q 0
def lookR (lz tbl : List Int) (prev : List (List Int)) (x : BoxV) : List Int := (List.range 118).map (lookQ lz tbl prev x)
def looksL (lz tbl : List Int) (bs : List BoxV) : Nat → List (List Int)
  | 0 => []
  | k + 1 => looksL lz tbl bs k ++ [lookR lz tbl (looksL lz tbl bs k) (bx bs k)]
theorem lookR_len (lz tbl : List Int) (prev : List (List Int)) (x : BoxV) : (lookR lz tbl prev x).length = 118 := by simp [lookR]
theorem looksL_len (lz tbl : List Int) (bs : List BoxV) : ∀ k, (looksL lz tbl bs k).length = k
  | 0 => rfl
  | k + 1 => by simp [looksL, looksL_len lz tbl bs k]
/-- Row i, as the look of box i. -/
def lookAt (lz tbl : List Int) (bs : List BoxV) (i : Nat) : List Int := lookR lz tbl (looksL lz tbl bs i) (bx bs i)
theorem looksL_getD (lz tbl : List Int) (bs : List BoxV) : ∀ (k i : Nat), i < k → (looksL lz tbl bs k).getD i [] = lookAt lz tbl bs i
  | 0, i, h => by omega
  | k + 1, i, h => by
    have hl := looksL_len lz tbl bs k
    simp only [looksL]
    by_cases e : i = k
    · subst e
      simp [List.getD, hl, lookAt]
    · have h2 := looksL_getD lz tbl bs k i (by omega)
      rw [← h2]
      simp only [List.getD]
      rw [List.getElem?_append_left (by omega)]
theorem lookAt_len (lz tbl : List Int) (bs : List BoxV) (i : Nat) : (lookAt lz tbl bs i).length = 118 := lookR_len _ _ _ _
def lookRow (lz tbl : List Int) (bs : List BoxV) (i : Nat) : List Value := ints (lookAt lz tbl bs i)
theorem lookRow_len (lz tbl : List Int) (bs : List BoxV) (i : Nat) : (lookRow lz tbl bs i).length = 118 := by rw [lookRow, ints_len, lookAt_len]
theorem lookAt_getD (lz tbl : List Int) (bs : List BoxV) (i q : Nat) (hq : q < 118) : (lookAt lz tbl bs i).getD q 0 = lookQ lz tbl (looksL lz tbl bs i) (bx bs i) q := by
  simp [lookAt, lookR, List.getD, hq]
theorem lookRow_at (lz tbl : List Int) (bs : List BoxV) (i q : Nat) (hq : q < 118) : (lookRow lz tbl bs i)[q]? = some (.int .i64 (lookQ lz tbl (looksL lz tbl bs i) (bx bs i) q)) := by
  simp [lookRow, ints, lookAt, lookR, hq]
theorem look_node {lz tbl : List Int} {bs : List BoxV} {i q : Nat} (h : 0 ≤ (bx bs i).node) : lookQ lz tbl (looksL lz tbl bs i) (bx bs i) q = lz.getD ((bx bs i).node.toNat * 118 + q) 0 := by unfold lookQ; rw [if_pos h]
theorem look_inh {lz tbl : List Int} {bs : List BoxV} {i q : Nat} (h : ¬ 0 ≤ (bx bs i).node) (hi : inhP (q / 2) = true) (hp : (bx bs i).parent.toNat < i) (hq : q < 118) : lookQ lz tbl (looksL lz tbl bs i) (bx bs i) q = (lookAt lz tbl bs (bx bs i).parent.toNat).getD q 0 := by
  unfold lookQ; rw [if_neg h, if_pos hi, looksL_getD _ _ _ _ _ hp]
theorem look_init {lz tbl : List Int} {bs : List BoxV} {i q : Nat} (h : ¬ 0 ≤ (bx bs i).node) (hi : inhP (q / 2) = false) : lookQ lz tbl (looksL lz tbl bs i) (bx bs i) q = tbl.getD q 0 := by
  unfold lookQ; rw [if_neg h, if_neg (by rw [hi]; decide)]
/-- What may not be. -/
def boxBad (n : Nat) (x : BoxV) (k : Nat) : Prop := x.node < -1 ∨ (n : Int) ≤ x.node ∨ (k = 0 ∧ (x.node < 0 ∨ ¬ x.parent = -1)) ∨ (0 < k ∧ (x.parent < 0 ∨ (k : Int) ≤ x.parent))
def LooksOk (n : Nat) (bs : List BoxV) : Prop := ∀ i, i < bs.length → ¬ boxBad n (bx bs i) i
end Go.Proofs.YtpamfhplklhnpaaDoor
