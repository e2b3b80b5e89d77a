/- Several texts in one: Mem. -/
import Derived.WalkKit
import Derived.Deep.Draws
/- Words for memory: a slice that reads as a list of cells. -/
namespace Go.Proofs.YtcghahfboccceaaGreatDoor
open Go.RowKit
set_option linter.unusedVariables false

/-- The slice at A (nil where it is empty) holds the cells xs, below block B. -/
def Holds (w : World) (B : Nat) (A : Option Addr) (xs : List Value) : Prop :=
  0 < xs.length → ∃ b off, A = some ⟨b, off, none⟩ ∧ b < B ∧ ∀ j, j < xs.length → w.cell? ⟨b, off + j, none⟩ = some (xs.getD j undef)

theorem Holds.below {w w' : World} {B B' : Nat} {A : Option Addr} {xs : List Value} (h : Holds w B A xs) (hb : Below B' w w') (hB : B ≤ B') : Holds w' B A xs := fun hn => by
  obtain ⟨b, off, e, hlt, hc⟩ := h hn
  exact ⟨b, off, e, hlt, fun j hj => (hb.cell (p := ⟨b, off + j, none⟩) (by simp; omega)).trans (hc j hj)⟩
theorem Holds.more {w : World} {B B' : Nat} {A : Option Addr} {xs : List Value} (h : Holds w B A xs) (hB : B ≤ B') : Holds w B' A xs := fun hn => by
  obtain ⟨b, off, e, hlt, hc⟩ := h hn
  exact ⟨b, off, e, by omega, hc⟩
theorem Holds.nil {w : World} {B : Nat} {A : Option Addr} : Holds w B A [] := fun h => absurd h (by simp)
theorem Holds.take {w : World} {B : Nat} {A : Option Addr} {xs : List Value} (h : Holds w B A xs) (k : Nat) : Holds w B A (xs.take k) := fun hn => by
  have hl : (xs.take k).length ≤ xs.length := by simp; omega
  obtain ⟨b, off, e, hlt, hc⟩ := h (by omega)
  refine ⟨b, off, e, hlt, fun j hj => ?_⟩
  rw [hc j (by omega)]
  have hj' : j < k := by simp at hj; omega
  simp [List.getD, hj']
theorem Holds.ints {w : World} {B : Nat} {A : Option Addr} {zs : List Int} (h : Holds w B A (zs.map (Value.int .i64))) {k : Nat} (hk : k < zs.length) :
    ∃ b off, A = some ⟨b, off, none⟩ ∧ b < B ∧ w.cell? ⟨b, off + k, none⟩ = some (.int .i64 (zs.getD k 0)) := by
  obtain ⟨b, off, e, hlt, hc⟩ := h (by simp; omega)
  refine ⟨b, off, e, hlt, ?_⟩
  rw [hc k (by simpa using hk)]
  simp [List.getD, hk]
theorem Holds.of_own {w : World} {base : Nat} {e : TypeId} {size n c : Nat} {A : Option Addr} {xs : List Value} (h : w.ownsRow base e size (.slice A n c) n xs) : Holds w w.heap.size A xs := fun hn => by
  rcases h.2 with ⟨_, h0⟩ | ⟨g, cap, cur, hv, _, hh, _⟩
  · have := h.1
    subst h0
    simp at this
    rw [this] at hn
    simp at hn
  · have hA : A = some ⟨g, 0, none⟩ := by injection hv
    subst hA
    refine ⟨g, 0, rfl, ?_, fun j hj => ?_⟩
    · rcases Nat.lt_or_ge g w.heap.size with h1 | h1
      · exact h1
      · rw [Array.getElem?_eq_none h1] at hh; cases hh
    · have := h.cells (g := g) rfl j (xs.getD j undef) (by simp [List.getD, hj])
      have e : (⟨g, 0, none⟩ : Addr).add j = ⟨g, 0 + j, none⟩ := by unfold Addr.add; split <;> simp_all
      rw [← e]; exact this
theorem Holds.new (w : World) (cs : Array Value) (T : TypeId) : Holds (w.alloc (.cells cs T)) (w.heap.size + 1) (some ⟨w.heap.size, 0, none⟩) cs.toList := fun hn => by
  refine ⟨w.heap.size, 0, rfl, by omega, fun j hj => ?_⟩
  have h : (w.alloc (.cells cs T)).heap[w.heap.size]? = some (.cells cs T) := by
    show (w.heap.push _)[w.heap.size]? = _
    simp
  have hj' : j < cs.size := by simpa using hj
  rw [cell_of_row _ _ _ cs T _ h]
  simp [List.getD, hj']
theorem below_alloc {W w : World} (h : Below W.heap.size W w) (o : Obj) : Below W.heap.size W (w.alloc o) := h.alloc h.size o
theorem below_set {W w : World} (h : Below W.heap.size W w) {b off : Nat} (hb : W.heap.size ≤ b) (u : Value) : Below W.heap.size W (w.setCell ⟨b, off, none⟩ u) := h.setCell (p := ⟨b, off, none⟩) hb u
theorem below_then {W w w' : World} (h : Below W.heap.size W w) (h' : Below w.heap.size w w') : Below W.heap.size W w' := h.trans (h'.mono h.size)
theorem below_grown {W wr w1 : World} {e : TypeId} {size n : Nat} {v : Value} {xs : List Value} (hbel : Below W.heap.size W wr) (hown : wr.ownsRow W.heap.size e size v n xs) {o : Obj} (hg : (wr.alloc o).grownBy w1 v.ownBlock) : Below W.heap.size W w1 :=
  (below_alloc hbel o).grown hg (by have := hbel.size; simp; omega) (fun k hk => (hown.lt k hk).1)
theorem below_drewN {B : Nat} {W w : World} (h : Below B W w) (n : Nat) : Below B W (w.drewN n) := ⟨h.os, h.tape, h.output, h.size, h.block⟩
theorem alloc_size (w : World) (o : Obj) : (w.alloc o).heap.size = w.heap.size + 1 := by simp
/-- Behind a law that leaves 'grownBy': all blocks that were there, but the one that may be written. -/
theorem grown_cell {w w' : World} (hg : w.grownBy w' none) {b off : Nat} (hb : b < w.heap.size) : w'.cell? ⟨b, off, none⟩ = w.cell? ⟨b, off, none⟩ :=
  World.cell?_of_block (hg.block b hb (by simp))
theorem new_cell (w : World) (cs : Array Value) (T : TypeId) (j : Nat) : (w.alloc (.cells cs T)).cell? ⟨w.heap.size, j, none⟩ = cs[j]? := by
  have h : (w.alloc (.cells cs T)).heap[w.heap.size]? = some (.cells cs T) := by
    show (w.heap.push _)[w.heap.size]? = _
    simp
  exact cell_of_row _ _ _ cs T _ h
theorem below_made {W w w' : World} (h : Below W.heap.size W w) (hg : w.grownBy w' none) : Below W.heap.size W w' := h.grown hg h.size (fun k hk => by cases hk)
theorem below_grown' {W wr wr' w1 : World} {e : TypeId} {size n : Nat} {v : Value} {xs : List Value} (hown : wr.ownsRow W.heap.size e size v n xs) (hbel : Below W.heap.size W wr') (hg : wr'.grownBy w1 v.ownBlock) : Below W.heap.size W w1 :=
  hbel.grown hg hbel.size (fun k hk => (hown.lt k hk).1)
theorem below_cells {B : Nat} {W w1 : World} (hb : Below B W w1) : (∀ b o, b < B → w1.cell? ⟨b, o, none⟩ = W.cell? ⟨b, o, none⟩) ∧ (∀ b o, b < B → w1.frozen? ⟨b, o, none⟩ = W.frozen? ⟨b, o, none⟩) :=
  ⟨fun b o h => hb.cell (p := ⟨b, o, none⟩) h, fun b o h => hb.frozen (p := ⟨b, o, none⟩) h⟩
theorem take_snoc {α : Type} (xs : List α) (d : α) (k : Nat) (h : k < xs.length) : xs.take (k + 1) = xs.take k ++ [xs.getD k d] := by
  rw [List.take_succ_eq_append_getElem h]
  simp [List.getD, h]

/-- Block g is just the cells cs of the type t, none frozen. -/
def Blk (w : World) (g : Nat) (t : TypeId) (cs : Array Value) : Prop := w.heap[g]? = some (.cells cs t (0, 0))
section
variable {w w' : World} {g : Nat} {t : TypeId} {cs : Array Value}
theorem Blk.lt (h : Blk w g t cs) : g < w.heap.size := by
  rcases Nat.lt_or_ge g w.heap.size with h1 | h1
  · exact h1
  · unfold Blk at h; rw [Array.getElem?_eq_none h1] at h; cases h
theorem Blk.cell (h : Blk w g t cs) (i : Nat) : w.cell? ⟨g, i, none⟩ = cs[i]? := cell_of_row w g i cs t (0, 0) h
theorem Blk.free (h : Blk w g t cs) (i : Nat) : w.frozen? ⟨g, i, none⟩ = false := frozen_of_row w g i cs t h
theorem Blk.new (w : World) (t : TypeId) (cs : Array Value) : Blk (w.alloc (.cells cs t)) w.heap.size t cs := heap_alloc_new w _
theorem Blk.alloc (h : Blk w g t cs) (o : Obj) : Blk (w.alloc o) g t cs := (Below.heap_alloc w o g h.lt).trans h
theorem Blk.drewN (h : Blk w g t cs) (n : Nat) : Blk (w.drewN n) g t cs := h
theorem Blk.drew (h : Blk w g t cs) : Blk w.drew g t cs := h
theorem Blk.stored (h : Blk w g t cs) (i : Nat) (u : Value) : Blk (w.setCell ⟨g, i, none⟩ u) g t (cs.setIfInBounds i u) := heap_setCell_same w g i cs t u h
theorem Blk.far (h : Blk w g t cs) {b i : Nat} (hb : g ≠ b) (u : Value) : Blk (w.setCell ⟨b, i, none⟩ u) g t cs := (Below.heap_setCell w ⟨b, i, none⟩ u g hb).trans h
theorem Blk.below {B : Nat} (h : Blk w g t cs) (hb : Below B w w') (hg : g < B) : Blk w' g t cs := (hb.block g hg).trans h
end
end Go.Proofs.YtcghahfboccceaaGreatDoor
