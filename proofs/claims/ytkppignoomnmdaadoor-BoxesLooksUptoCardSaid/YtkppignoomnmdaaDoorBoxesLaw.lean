/- boxes.Out; the closed fact 'boxed'; the walk of BoxesChecks. -/
import Derived.Test.YtkppignoomnmdaaDoorBoxes
import Derived.Outline
namespace Go.Proofs.YtkppignoomnmdaaDoor
open Go.RowKit
set_option linter.unusedVariables false
/-- P308: 1 floats, 2 is placed. -/
def outN (p f : Int) : Int := if p = 2 ∨ p = 3 then 2 else if f = 1 ∨ f = 2 then 1 else 0
set_option maxHeartbeats 400000 in
theorem out_calls (cs : Array Value) (p f : Int) (w : World) (h3 : cs[3]? = some (.int .i64 p)) (h5 : cs[5]? = some (.int .i64 f)) :
    Calls Tryd.prog 18 #[.agg cs] w fun e w' => e = .returned (.int .i64 (outN p f)) ∧ Below w.heap.size w w' := by
  have c3 := (new_cell w cs 38 3).trans h3
  have c5 := (new_cell w cs 38 5).trans h5
  clear h3 h5
  by_cases p2 : p = 2
  · subst p2
    go_enter Tryd.func18, Tryd.ntmps18
    go_wp2_with fail
    go_ret
    exact ⟨ret_i (by unfold outN; simp [*]), below_alloc (Below.refl _ _) _⟩
  by_cases p3 : p = 3
  · subst p3
    go_enter Tryd.func18, Tryd.ntmps18
    go_wp2_with fail
    go_ret
    exact ⟨ret_i (by unfold outN; simp [*]), below_alloc (Below.refl _ _) _⟩
  have e2 : (p == 2) = false := by simpa using p2
  have e3 : (p == 3) = false := by simpa using p3
  by_cases f1 : f = 1
  · subst f1
    go_enter Tryd.func18, Tryd.ntmps18
    go_wp2_with fail
    go_ret
    exact ⟨ret_i (by unfold outN; simp [*]), below_alloc (Below.refl _ _) _⟩
  by_cases f2 : f = 2
  · subst f2
    go_enter Tryd.func18, Tryd.ntmps18
    go_wp2_with fail
    go_ret
    exact ⟨ret_i (by unfold outN; simp [*]), below_alloc (Below.refl _ _) _⟩
  have e4 : (f == 1) = false := by simpa using f1
  have e5 : (f == 2) = false := by simpa using f2
  · go_enter Tryd.func18, Tryd.ntmps18
    go_wp2_with fail
    go_ret
    exact ⟨ret_i (by unfold outN; simp [*]), below_alloc (Below.refl _ _) _⟩

/-- The zero value of a style (118 cells: the seat's loader leaves it out). -/
def zst : Array Value := Array.replicate 118 (.int .i64 0)
theorem zst_size : zst.size = 118 := by simp [zst]
theorem zst_run (w : World) : (zeroValue 38).run Tryd.prog w = .ok (.agg zst) w := by kernel_rfl
attribute [local go_sem] zst_run zst_size
def bad1 (g : Nat) : List BoxV := [⟨4, 0, -1, some ⟨g, 0, none⟩, [0], 1, ⟨#[]⟩⟩]
theorem bad1_no (g : Nat) : boxesE (bad1 g) = 3 := no_of_kids _ 0 (by simp [bad1]) (by simp [bad1, bx, kidsOk])
set_option maxRecDepth 100000 in
set_option maxHeartbeats 1000000 in
theorem boxed_calls (w : World) :
    Calls Tryd.prog 11 #[] w fun e w' => e = .returned (.bool true) ∧ Below w.heap.size w w' := by
  have hc := check_calls (some ⟨w.heap.size + 1, 0, none⟩) 1 1 (w.heap.size + 2) (bad1 w.heap.size) ((w.alloc (.cells #[.int .i64 0] 3)).alloc (.cells #[.int .i64 4, .int .i64 0, .int .i64 (-1), .slice (some ⟨w.heap.size, 0, none⟩) 1 1, .string ⟨#[]⟩] 33)) rfl (by
    intro i hi
    have h0 : i = 0 := by simp [bad1] at hi; omega
    subst h0
    have e1 : (w.alloc (.cells #[.int .i64 0] 3)).heap.size = w.heap.size + 1 := alloc_size _ _
    have nc := new_cell (w.alloc (.cells #[.int .i64 0] 3)) #[.int .i64 4, .int .i64 0, .int .i64 (-1), .slice (some ⟨w.heap.size, 0, none⟩) 1 1, .string ⟨#[]⟩] 33
    rw [e1] at nc
    refine ⟨w.heap.size + 1, 0, rfl, by omega, nc 0, nc 1, nc 2, nc 3, nc 4, ?_, by simp [bad1, bx]⟩
    have hh := (Holds.new w #[.int .i64 0] 3).below ((Below.refl (w.heap.size + 1) _).alloc (by simp) (.cells #[.int .i64 4, .int .i64 0, .int .i64 (-1), .slice (some ⟨w.heap.size, 0, none⟩) 1 1, .string ⟨#[]⟩] 33)) (Nat.le_refl _)
    exact hh.more (by omega)) (by omega) (by simp)
  rw [bad1_no] at hc
  have HC := Lib.hid hc
  clear hc
  have hbel := Below.refl w.heap.size w
  go_enter Tryd.func11, Tryd.ntmps11
  go_wp2_with (first | (go_at_call 17; refine HC.out.mono ?_; rintro e w1 ⟨rfl, hb1⟩) | (go_at_call 18; refine (out_calls _ 0 1 _ rfl rfl).mono ?_; rintro e w2 ⟨rfl, hb2⟩))
  go_ret
  refine ⟨rfl, ?_⟩
  have hb0 : Below w.heap.size w ((w.alloc (.cells #[.int .i64 0] 3)).alloc (.cells #[.int .i64 4, .int .i64 0, .int .i64 (-1), .slice (some ⟨w.heap.size, 0, none⟩) 1 1, .string ⟨#[]⟩] 33)) := below_alloc (below_alloc (Below.refl _ _) _) _
  exact below_then (below_then hb0 hb1) hb2
theorem boxesE_or (bs : List BoxV) : boxesE bs = 0 ∨ boxesE bs = 3 := by
  unfold boxesE
  split
  · exact .inl rfl
  · exact .inr rfl
end Go.Proofs.YtkppignoomnmdaaDoor
