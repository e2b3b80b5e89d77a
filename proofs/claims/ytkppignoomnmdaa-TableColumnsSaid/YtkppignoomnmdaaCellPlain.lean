/- Plain law of P327, first part: the cells of a table's rows, each at its column. -/
import Derived.Test.YtkppignoomnmdaaTabPlain
import Derived.Test.YtkppignoomnmdaaRowList
namespace Go.Proofs.Ytkppignoomnmdaa
open Go.RowKit
set_option linter.unusedVariables false

/-- A cell that came in: Least, Most, Span. -/
structure LCellV where
  least : Int
  most : Int
  span : Int
def LCellV.zero : LCellV := ⟨0, 0, 0⟩
def lcellF (x : LCellV) : List Value := [.int .i64 x.least, .int .i64 x.most, .int .i64 x.span]
/-- A cell at a column. -/
structure CellV where
  least : Int
  most : Int
  pos : Nat
  span : Nat
def CellV.zero : CellV := ⟨0, 0, 0, 0⟩
def cellF (c : CellV) : List Value := [.int .i64 c.least, .int .i64 c.most, .int .i64 c.pos, .int .i64 c.span]
def spanAt (a : Nat) (s : Int) : Nat := (min (min (max 1 s) 50) (100 - (a : Int))).toNat
theorem spanAt_int (a : Nat) (s : Int) (h : a < 100) : ((spanAt a s : Nat) : Int) = min (min (max 1 s) 50) (100 - (a : Int)) := by unfold spanAt; omega
theorem spanAt_bd (a : Nat) (s : Int) (h : a < 100) : 1 ≤ spanAt a s ∧ spanAt a s ≤ 50 ∧ a + spanAt a s ≤ 100 := by unfold spanAt; omega
def mkCell (a : Nat) (x : LCellV) : CellV := ⟨max 0 (cut x.least), max (cut x.most) (max 0 (cut x.least)), a, spanAt a x.span⟩
def rowCells : Nat → List LCellV → List CellV
  | _, [] => []
  | a, x :: r => if 100 ≤ a then [] else mkCell a x :: rowCells (a + spanAt a x.span) r
def rowEnd : Nat → List LCellV → Nat
  | a, [] => a
  | a, x :: r => if 100 ≤ a then a else rowEnd (a + spanAt a x.span) r
theorem rowCells_full {a : Nat} (h : 100 ≤ a) (r : List LCellV) : rowCells a r = [] := by cases r <;> simp [rowCells, h]
theorem rowEnd_full {a : Nat} (h : 100 ≤ a) (r : List LCellV) : rowEnd a r = a := by cases r <;> simp [rowEnd, h]
theorem rowCells_cons {a : Nat} (h : a < 100) (x : LCellV) (r : List LCellV) : rowCells a (x :: r) = mkCell a x :: rowCells (a + spanAt a x.span) r := by simp [rowCells, show ¬ 100 ≤ a by omega]
theorem rowEnd_cons {a : Nat} (h : a < 100) (x : LCellV) (r : List LCellV) : rowEnd a (x :: r) = rowEnd (a + spanAt a x.span) r := by simp [rowEnd, show ¬ 100 ≤ a by omega]
def cellsOf : List (List LCellV) → List CellV
  | [] => []
  | r :: rs => rowCells 0 r ++ cellsOf rs
def manyOf : List (List LCellV) → Nat
  | [] => 0
  | r :: rs => max (rowEnd 0 r) (manyOf rs)
theorem rowEnd_le : ∀ (r : List LCellV) (a : Nat), a ≤ 100 → a ≤ rowEnd a r ∧ rowEnd a r ≤ 100
  | [], a, h => by simp [rowEnd, h]
  | x :: r, a, h => by
    by_cases h1 : a < 100
    · rw [rowEnd_cons h1]
      have := spanAt_bd a x.span h1
      have := rowEnd_le r (a + spanAt a x.span) (by omega)
      omega
    · rw [rowEnd_full (by omega)]; omega
theorem manyOf_le : ∀ (rs : List (List LCellV)), manyOf rs ≤ 100
  | [] => by simp [manyOf]
  | r :: rs => by
    have := rowEnd_le r 0 (by omega)
    have := manyOf_le rs
    simp only [manyOf]; omega
theorem rowCells_len : ∀ (r : List LCellV) (a : Nat), a ≤ 100 → (rowCells a r).length + a ≤ 100
  | [], a, h => by simp [rowCells, h]
  | x :: r, a, h => by
    by_cases h1 : a < 100
    · rw [rowCells_cons h1]
      have := spanAt_bd a x.span h1
      have := rowCells_len r (a + spanAt a x.span) (by omega)
      simp; omega
    · rw [rowCells_full (by omega)]; simp; omega
/-- What every cell is. -/
structure CellOk (c : CellV) : Prop where
  l0 : 0 ≤ c.least
  l1 : c.least ≤ c.most
  m1 : c.most ≤ 16777216
  s0 : 1 ≤ c.span
  s1 : c.span ≤ 50
  p1 : c.pos + c.span ≤ 100
theorem mkCell_ok {a : Nat} (h : a < 100) (x : LCellV) : CellOk (mkCell a x) := by
  have h1 := spanAt_bd a x.span h
  have h2 := cut_hi x.least
  have h3 := cut_hi x.most
  constructor <;> simp only [mkCell] <;> omega
theorem rowCells_ok : ∀ (r : List LCellV) (a : Nat), a ≤ 100 → ∀ c ∈ rowCells a r, CellOk c ∧ c.pos + c.span ≤ rowEnd a r
  | [], a, h, c, hc => by simp [rowCells] at hc
  | x :: r, a, h, c, hc => by
    by_cases h1 : a < 100
    · have h2 := spanAt_bd a x.span h1
      rw [rowCells_cons h1] at hc
      rw [rowEnd_cons h1]
      rcases List.mem_cons.1 hc with rfl | hc
      · exact ⟨mkCell_ok h1 x, (rowEnd_le r (a + spanAt a x.span) (by omega)).1⟩
      · exact rowCells_ok r _ (by omega) c hc
    · rw [rowCells_full (by omega)] at hc; cases hc
theorem cellsOf_ok : ∀ (rs : List (List LCellV)), ∀ c ∈ cellsOf rs, CellOk c ∧ c.pos + c.span ≤ manyOf rs
  | [], c, hc => by simp [cellsOf] at hc
  | r :: rs, c, hc => by
    simp only [cellsOf, List.mem_append] at hc
    simp only [manyOf]
    rcases hc with hc | hc
    · have := rowCells_ok r 0 (by omega) c hc
      exact ⟨this.1, by omega⟩
    · have := cellsOf_ok rs c hc
      exact ⟨this.1, by omega⟩
theorem cellsOf_len : ∀ (rs : List (List LCellV)), (cellsOf rs).length ≤ 100 * rs.length
  | [] => by simp [cellsOf]
  | r :: rs => by
    have := rowCells_len r 0 (by omega)
    have := cellsOf_len rs
    simp [cellsOf]; omega
theorem cellsOf_drop (rs : List (List LCellV)) {k : Nat} (h : k < rs.length) : cellsOf (rs.drop k) = rowCells 0 (rs.getD k []) ++ cellsOf (rs.drop (k + 1)) := by
  rw [List.drop_eq_getElem_cons h]; simp [cellsOf, List.getD, h]
theorem manyOf_drop (rs : List (List LCellV)) {k : Nat} (h : k < rs.length) : manyOf (rs.drop k) = max (rowEnd 0 (rs.getD k [])) (manyOf (rs.drop (k + 1))) := by
  rw [List.drop_eq_getElem_cons h]; simp [manyOf, List.getD, h]
theorem rowCells_drop (r : List LCellV) {a j : Nat} (h : j < r.length) (ha : a < 100) : rowCells a (r.drop j) = mkCell a (r.getD j LCellV.zero) :: rowCells (a + spanAt a (r.getD j LCellV.zero).span) (r.drop (j + 1)) := by
  rw [List.drop_eq_getElem_cons h, rowCells_cons ha]; simp [List.getD, h]
theorem rowEnd_drop (r : List LCellV) {a j : Nat} (h : j < r.length) (ha : a < 100) : rowEnd a (r.drop j) = rowEnd (a + spanAt a (r.getD j LCellV.zero).span) (r.drop (j + 1)) := by
  rw [List.drop_eq_getElem_cons h, rowEnd_cons ha]; simp [List.getD, h]

/-- A row that came in: where its cells lie. -/
structure RowV where
  adr : Option Addr
  cap : Nat
  cells : List LCellV
def RowV.zero : RowV := ⟨none, 0, []⟩
def rowOf (rs : List RowV) (i : Nat) : RowV := rs.getD i RowV.zero
/-- The slice at A holds the rows rs, below block B. -/
def RowsAt (w : World) (B : Nat) (A : Option Addr) (rs : List RowV) : Prop :=
  ∀ i, i < rs.length → ∃ b off, A = some ⟨b, off, none⟩ ∧ b < B ∧
    w.cell? ⟨b, off + i, none⟩ = some (.slice (rowOf rs i).adr (rowOf rs i).cells.length (rowOf rs i).cap) ∧ Holds w B (rowOf rs i).adr ((rowOf rs i).cells.flatMap lcellF) ∧ (rowOf rs i).cells.length ≤ 17592186044404
theorem RowsAt.below {w w' : World} {B B' : Nat} {A : Option Addr} {rs : List RowV} (h : RowsAt w B A rs) (hb : Below B' w w') (hB : B ≤ B') : RowsAt w' B A rs := fun i hi => by
  obtain ⟨b, off, e, hlt, c0, hk, hl⟩ := h i hi
  exact ⟨b, off, e, hlt, (hb.cell (p := ⟨b, off + i, none⟩) (by simp; omega)).trans c0, hk.below hb hB, hl⟩
theorem lcells_flat (l : List LCellV) (w : World) (B : Nat) (A : Option Addr) (h : Holds w B A (l.flatMap lcellF)) {k : Nat} (hk : k < l.length) :
    ∃ b off, A = some ⟨b, off, none⟩ ∧ b < B ∧ ∀ j u, (lcellF (l.getD k LCellV.zero))[j]? = some u → w.cell? ⟨b, off + k * 3 + j, none⟩ = some u :=
  Holds.flatL (f := lcellF) h 3 (fun _ => rfl) (by omega) LCellV.zero hk
end Go.Proofs.Ytkppignoomnmdaa
