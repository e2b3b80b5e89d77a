/- The closed fact 'tabled'. -/
import Derived.Test.YtkppignoomnmdaaTabS
namespace Go.Proofs.Ytkppignoomnmdaa
open Go.RowKit
set_option linter.unusedVariables false
set_option linter.unusedSimpArgs false
attribute [local go_sem high] run_min2 run_max2

def tabIn : List (List LCellV) := [[⟨5, 9, 1⟩, ⟨2, 3, 1⟩]]
def tabCs : List CellV := [⟨5, 9, 0, 1⟩, ⟨2, 3, 1, 1⟩]
theorem tab_cells : cellsOf tabIn = tabCs := by kernel_rfl
theorem tab_many : manyOf tabIn = 2 := by decide +kernel
theorem tab_least : leastF tabCs 2 = [5, 2] := by decide +kernel
theorem tab_most : mostF tabCs 2 = [9, 3] := by decide +kernel
theorem holds_cellsT {w : World} {g : Nat} {t : TypeId} {cs : List Value} (h : Blk w g t cs.toArray) : Holds w w.heap.size (some ⟨g, 0, none⟩) cs := fun _ => ⟨g, 0, rfl, h.lt, fun j hj => by
  rw [Nat.zero_add, h.cell]
  simp [List.getD, hj]⟩
set_option maxRecDepth 100000 in
set_option maxHeartbeats 1000000 in
theorem tabled_calls (w : World) :
    Calls Try.prog 39 #[] w fun e w' => e = .returned (.bool true) ∧ Below w.heap.size w w' := by
  have hb1 := (Blk.new w 114 #[.int .i64 5, .int .i64 9, .int .i64 1, .int .i64 2, .int .i64 3, .int .i64 1]).alloc (.cells #[.slice (some ⟨w.heap.size, 0, none⟩) 2 2] 112)
  have hb2 := Blk.new (w.alloc (.cells #[.int .i64 5, .int .i64 9, .int .i64 1, .int .i64 2, .int .i64 3, .int .i64 1] 114)) 112 #[.slice (some ⟨w.heap.size, 0, none⟩) 2 2]
  have hbel := below_alloc (below_alloc (Below.refl _ w) (.cells #[.int .i64 5, .int .i64 9, .int .i64 1, .int .i64 2, .int .i64 3, .int .i64 1] 114)) (.cells #[.slice (some ⟨w.heap.size, 0, none⟩) 2 2] 112)
  rw [alloc_size] at hb2
  obtain ⟨w2, hw2⟩ : ∃ x, x = (w.alloc (.cells #[.int .i64 5, .int .i64 9, .int .i64 1, .int .i64 2, .int .i64 3, .int .i64 1] 114)).alloc (.cells #[.slice (some ⟨w.heap.size, 0, none⟩) 2 2] 112) := ⟨_, rfl⟩
  rw [← hw2] at hb1 hb2 hbel
  have hrs : RowsAt w2 w2.heap.size (some ⟨w.heap.size + 1, 0, none⟩) [⟨some ⟨w.heap.size, 0, none⟩, 2, [⟨5, 9, 1⟩, ⟨2, 3, 1⟩]⟩] := fun i hi => by
    obtain rfl : i = 0 := by simp at hi; omega
    exact ⟨w.heap.size + 1, 0, rfl, hb2.lt, hb2.cell 0, holds_cellsT (cs := #[.int .i64 5, .int .i64 9, .int .i64 1, .int .i64 2, .int .i64 3, .int .i64 1].toList) hb1, by simp [rowOf]⟩
  have hs : SortsTo (cellsOf tabIn) tabCs := by
    rw [tab_cells]
    refine sortsTo_sorted _ (fun i hi => ?_) (fun c hc => ?_) (by decide)
    · obtain rfl : i = 0 := by simp [tabCs] at hi; omega
      decide
    · simp [tabCs] at hc; rcases hc with rfl | rfl <;> decide
  have hC := columns_calls (some ⟨w.heap.size + 1, 0, none⟩) 1 1 w2.heap.size [⟨some ⟨w.heap.size, 0, none⟩, 2, [⟨5, 9, 1⟩, ⟨2, 3, 1⟩]⟩] tabCs w2 rfl hrs (Nat.le_refl _) (by omega) hs (by show _ = (cellsOf tabIn).length; rw [tab_cells]) (fun c hc => by show c ∈ cellsOf tabIn; rw [tab_cells]; exact hc)
  change Calls _ _ _ _ (fun e w' => ∃ v1 v2, e = .returned (.tuple #[v1, v2]) ∧ w'.ownsRow w2.heap.size 3 1 v1 (manyOf tabIn) (ints (leastF tabCs (manyOf tabIn))) ∧ w'.ownsRow w2.heap.size 3 1 v2 (manyOf tabIn) (ints (mostF tabCs (manyOf tabIn))) ∧ Below w2.heap.size w2 w') at hC
  rw [tab_many, tab_least, tab_most, hw2] at hC
  rw [hw2] at hbel
  have HC := Lib.hid hC
  clear hb1 hb2 hw2 hrs hs hC
  go_enter Try.func39, Try.ntmps39
  go_wp2_with (first | (go_at_call 37; refine HC.out.mono ?_; rintro e w1 ⟨v1, v2, rfl, hv1, hv2, hb1⟩; have hbel := below_then hbel hb1; obtain ⟨A1, c1, rfl⟩ := own_open hv1; obtain ⟨A2, c2, rfl⟩ := own_open hv2; have h1 := Holds.of_own (hv1.alloc (.cells #[.int .i64 5, .int .i64 2] 3)); have h2 := holds_cellsT (cs := ints [5, 2]) (Blk.new w1 3 #[.int .i64 5, .int .i64 2]); have hbel := below_alloc hbel (.cells #[.int .i64 5, .int .i64 2] 3); have HE := Lib.hid (eqInt_calls A1 (some ⟨w1.heap.size, 0, none⟩) 2 c1 2 _ _ [5, 2] (w1.alloc (.cells #[.int .i64 5, .int .i64 2] 3)) rfl h1 h2 (by omega)); have HV2 := Lib.hid (hv2.alloc (.cells #[.int .i64 5, .int .i64 2] 3)); clear h1 h2 hv1 hv2) | (go_at_call 40; ((with_reducible refine HE.out.mono ?_); rintro e w' ⟨rfl, rfl⟩)))
  have h1 := Holds.of_own (HV2.out.alloc (.cells #[.int .i64 9, .int .i64 3] 3))
  have h2 := holds_cellsT (cs := ints [9, 3]) (Blk.new (w1.alloc (.cells #[.int .i64 5, .int .i64 2] 3)) 3 #[.int .i64 9, .int .i64 3])
  have HE2 := Lib.hid (eqInt_calls A2 (some ⟨(w1.alloc (.cells #[.int .i64 5, .int .i64 2] 3)).heap.size, 0, none⟩) 2 c2 2 _ _ [9, 3] _ rfl h1 h2 (by omega))
  have hbel := below_alloc hbel (.cells #[.int .i64 9, .int .i64 3] 3)
  rw [alloc_size] at HE2
  clear h1 h2
  refine HE2.out.mono ?_
  rintro e w' ⟨rfl, rfl⟩
  go_wp2_with fail
  go_ret
  exact ⟨rfl, hbel⟩
end Go.Proofs.Ytkppignoomnmdaa
