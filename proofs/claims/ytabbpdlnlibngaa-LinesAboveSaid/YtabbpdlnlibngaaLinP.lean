/- Contracts for the closed fact lined: the frame of one block and one owned row; a line's cells; what tell says. -/
import Derived.Test.YtabbpdlnlibngaaLinM
import Derived.Test.YtabbpdlnlibngaaLinQ
namespace Go.Proofs.Ytabbpdlnlibngaa
open Go.RowKit Go.Sort
set_option linter.unusedVariables false
set_option linter.unusedSimpArgs false

/-- What became of a world in which one block and one owned row may have been written. -/
structure Fr (gS : Nat) (v : Value) (w w' : World) : Prop where
  os : w'.os = w.os
  tape : w'.tape = w.tape
  output : w'.output = w.output
  size : w.heap.size ≤ w'.heap.size
  block : ∀ k, k < w.heap.size → k ≠ gS → v.ownBlock ≠ some k → w'.heap[k]? = w.heap[k]?
section
variable {gS : Nat} {v v1 : Value} {w w1 w2 : World}
theorem Fr.refl : Fr gS v w w := ⟨rfl, rfl, rfl, Nat.le_refl _, fun _ _ _ _ => rfl⟩
theorem Fr.trans (h : Fr gS v w w1) (hv : v1.ownBlock = v.ownBlock ∨ ∃ g, v1.ownBlock = some g ∧ w.heap.size ≤ g) (h' : Fr gS v1 w1 w2) : Fr gS v w w2 :=
  ⟨h'.os.trans h.os, h'.tape.trans h.tape, h'.output.trans h.output, Nat.le_trans h.size h'.size, fun k hk h1 h2 => (h'.block k (Nat.lt_of_lt_of_le hk h.size) h1 (fun e => by
    rcases hv with hv | ⟨g, hv, hg⟩
    · rw [hv] at e; exact h2 e
    · rw [hv] at e; injection e with e; omega)).trans (h.block k hk h1 h2)⟩
theorem Fr.below (h : Below w.heap.size w w1) : Fr gS v w w1 := ⟨h.os, h.tape, h.output, h.size, fun k hk _ _ => h.block k hk⟩
theorem Fr.then (h : Fr gS v w w1) (h' : Below w1.heap.size w1 w2) : Fr gS v w w2 := h.trans (.inl rfl) (Fr.below h')
theorem Fr.grown (h : w.grownBy w1 v.ownBlock) : Fr gS v w w1 := ⟨h.os, h.tape, h.output, h.size, fun k hk _ h2 => h.block k hk (fun e => h2 e.symm)⟩
theorem Fr.set (j : Nat) (u : Value) : Fr gS v w (w.setCell ⟨gS, j, none⟩ u) := ⟨by simp [World.setCell], by simp [World.setCell], by simp [World.setCell], by simp, fun k _ h1 _ => Below.heap_setCell w ⟨gS, j, none⟩ u k h1⟩
theorem Fr.setOwn {g j : Nat} {u : Value} (hv : v.ownBlock = some g) : Fr gS v w (w.setCell ⟨g, j, none⟩ u) := ⟨by simp [World.setCell], by simp [World.setCell], by simp [World.setCell], by simp, fun k _ _ h2 => Below.heap_setCell w ⟨g, j, none⟩ u k (fun e => h2 (by rw [hv]; exact congrArg some e.symm))⟩
/-- What lies below a bound that neither reaches. -/
theorem Fr.under {B : Nat} (h : Fr gS v w w1) (hB : B ≤ w.heap.size) (hg : B ≤ gS) (hv : ∀ k, v.ownBlock = some k → B ≤ k) : Below B w w1 :=
  ⟨h.os, h.tape, h.output, h.size, fun k hk => h.block k (by omega) (by omega) (fun e => by have := hv k e; omega)⟩
theorem Fr.one (h : w.grownBy w1 (some gS)) : Fr gS v w w1 := ⟨h.os, h.tape, h.output, h.size, fun k hk h1 _ => h.block k hk (fun e => h1 (by injection e))⟩
theorem Fr.blk {g : Nat} {t : TypeId} {cs : Array Value} (h : Fr gS v w w1) (hB : Blk w g t cs) (h1 : g ≠ gS) (h2 : v.ownBlock ≠ some g) : Blk w1 g t cs := (h.block g hB.lt h1 h2).trans hB
theorem Fr.part {b o gL : Nat} {t : ByteArray} {wd : Int} {last : Bool} (h : Fr gS v w w1) (hP : PartAt w b o gL t wd last) (h1 : b ≠ gS) (h2 : v.ownBlock ≠ some b) : PartAt w1 b o gL t wd last := by
  have hb := h.block b hP.lt h1 h2
  have hc : ∀ i, w1.cell? ⟨b, i, none⟩ = w.cell? ⟨b, i, none⟩ := fun i => World.cell?_of_block hb
  exact ⟨(hc _).trans hP.c0, (hc _).trans hP.c1, (hc _).trans hP.c2, (hc _).trans hP.c3, (hc _).trans hP.c4, Nat.lt_of_lt_of_le hP.lt h.size⟩
theorem Fr.own {base size n : Nat} {e : TypeId} {u : Value} {xs : List Value} (h : Fr gS v w w1) (hO : w.ownsRow base e size u n xs) (h1 : u.ownBlock ≠ some gS) (h2 : ∀ k, u.ownBlock = some k → v.ownBlock ≠ some k) : w1.ownsRow base e size u n xs :=
  own_heap hO fun g hg => h.block g (hO.lt g hg).2 (fun e => h1 (by rw [hg, e])) (h2 g hg)
end
theorem info_line : (Try.prog.info? 34).map (fun i => (i.zero, i.size, i.bytes)) = some (some (.agg #[.int .i64 0, .int .i64 0, .int .i64 0, .int .i64 0, .int .i64 0, .slice none 0 0, .bool false]), 7, 72) := by kernel_rfl
theorem info_piece : (Try.prog.info? 36).map (fun i => (i.zero, i.size, i.bytes)) = some (some (.agg #[.int .i64 0, .int .i64 0, .int .i64 0, .string ⟨#[]⟩]), 4, 40) := by kernel_rfl
/-- A line's cells. -/
def lineC (y : Int) (gp cc : Nat) (last : Bool) : Array Value := #[.int .i64 0, .int .i64 y, .int .i64 64, .int .i64 80, .int .i64 56, .slice (some ⟨gp, 0, none⟩) 1 cc, .bool last]
def pieceC : Array Value := #[.int .i64 0, .int .i64 0, .int .i64 64, .string tAA]
theorem line_one (y : Int) (gp cc : Nat) (last : Bool) : ∀ u ∈ (lineC y gp cc last).toList, u.oneCell' = true := fun u hu => by
  simp [lineC] at hu
  rcases hu with rfl | rfl | rfl | rfl | rfl | rfl | rfl <;> rfl
theorem piece_one : ∀ u ∈ pieceC.toList, u.oneCell' = true := fun u hu => by
  simp [pieceC] at hu
  rcases hu with rfl | rfl | rfl | rfl <;> rfl
theorem part_w {w : World} {g gL : Nat} {t : ByteArray} {wd : Int} {last : Bool} {T : TypeId} {cur : Array Value} (hB : Blk w g T cur) (hP : PartAt w g 0 gL t wd last) (wd' : Int) : PartAt (w.setCell ⟨g, 3, none⟩ (.int .i64 wd')) g 0 gL t wd' last ∧ Blk (w.setCell ⟨g, 3, none⟩ (.int .i64 wd')) g T (cur.setIfInBounds 3 (.int .i64 wd')) := by
  have hS := hB.stored 3 (.int .i64 wd')
  have e0 := (hB.cell 0).symm.trans hP.c0
  have e1 := (hB.cell 1).symm.trans hP.c1
  have e2 := (hB.cell 2).symm.trans hP.c2
  have e3 := (hB.cell 3).symm.trans hP.c3
  have e4 := (hB.cell 4).symm.trans hP.c4
  have h3 : 3 < cur.size := by
    rcases Nat.lt_or_ge 3 cur.size with h | h
    · exact h
    · rw [Array.getElem?_eq_none h] at e3; cases e3
  exact ⟨⟨(hS.cell 0).trans (by rw [Array.getElem?_setIfInBounds_ne (by decide)]; exact e0), (hS.cell 1).trans (by rw [Array.getElem?_setIfInBounds_ne (by decide)]; exact e1), (hS.cell 2).trans (by rw [Array.getElem?_setIfInBounds_ne (by decide)]; exact e2), (hS.cell 3).trans (by rw [Array.getElem?_setIfInBounds_self_of_lt h3]), (hS.cell 4).trans (by rw [Array.getElem?_setIfInBounds_ne (by decide)]; exact e4), hS.lt⟩, hS⟩
theorem part_t {w : World} {g gL : Nat} {t : ByteArray} {wd : Int} {last : Bool} {T : TypeId} {cur : Array Value} (hB : Blk w g T cur) (hP : PartAt w g 0 gL t wd last) (t' : ByteArray) : PartAt (w.setCell ⟨g, 2, none⟩ (.string t')) g 0 gL t' wd last ∧ Blk (w.setCell ⟨g, 2, none⟩ (.string t')) g T (cur.setIfInBounds 2 (.string t')) := by
  have hS := hB.stored 2 (.string t')
  have e0 := (hB.cell 0).symm.trans hP.c0
  have e1 := (hB.cell 1).symm.trans hP.c1
  have e2 := (hB.cell 2).symm.trans hP.c2
  have e3 := (hB.cell 3).symm.trans hP.c3
  have e4 := (hB.cell 4).symm.trans hP.c4
  have h3 : 2 < cur.size := by
    rcases Nat.lt_or_ge 2 cur.size with h | h
    · exact h
    · rw [Array.getElem?_eq_none h] at e2; cases e2
  exact ⟨⟨(hS.cell 0).trans (by rw [Array.getElem?_setIfInBounds_ne (by decide)]; exact e0), (hS.cell 1).trans (by rw [Array.getElem?_setIfInBounds_ne (by decide)]; exact e1), (hS.cell 2).trans (by rw [Array.getElem?_setIfInBounds_self_of_lt h3]), (hS.cell 3).trans (by rw [Array.getElem?_setIfInBounds_ne (by decide)]; exact e3), (hS.cell 4).trans (by rw [Array.getElem?_setIfInBounds_ne (by decide)]; exact e4), hS.lt⟩, hS⟩
/-- What tell says of a line of one part. -/
def TellSaid : Prop := ∀ (gB gF : Nat) (y : Int) (full : Bool) (b o c gL : Nat) (t : ByteArray) (wd : Int) (lp last : Bool), ((t = tAAB ∧ wd = 80) ∨ (t = tAA ∧ wd = 64)) → 0 ≤ y → y ≤ 1000 → ∀ (base n : Nat) (A : Option Addr) (co : Nat) (xs : List Value) (w : World), n ≤ 1 → base ≤ w.heap.size →
  Blk w gB 43 (brC gF y 0 100 (.slice (some ⟨b, o, none⟩) 1 c) full (.slice A n co)) → PartAt w b o gL t wd lp → Blk w gL 28 itemC → w.ownsRow base 34 7 (.slice A n co) n xs →
  Calls Try.prog 36 #[.pointer (some ⟨gB, 0, none⟩), .bool last] w fun e w' => ∃ g cp gp cc, e = .returned (.tuple #[]) ∧ Blk w' gB 43 (brC gF (y + 80) 0 100 (.slice (some ⟨b, o, none⟩) 1 c) full (.slice (some ⟨g, 0, none⟩) (n + 1) cp)) ∧
    w'.ownsRow base 34 7 (.slice (some ⟨g, 0, none⟩) (n + 1) cp) (n + 1) (xs ++ (lineC y gp cc last).toList) ∧ ((Value.slice A n co).ownBlock = some g ∨ w.heap.size ≤ g) ∧ w'.ownsRow w.heap.size 36 4 (.slice (some ⟨gp, 0, none⟩) 1 cc) 1 pieceC.toList ∧ Fr gB (.slice A n co) w w'
end Go.Proofs.Ytabbpdlnlibngaa
