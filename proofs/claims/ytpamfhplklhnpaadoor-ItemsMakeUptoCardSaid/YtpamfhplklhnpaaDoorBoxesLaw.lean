/- boxes.Out; the closed fact 'boxed'; the walk of BoxesChecks. -/
import Derived.Test.YtpamfhplklhnpaaDoorBoxes
import Derived.Test.YtpamfhplklhnpaaDoorRBoxes
import Derived.Outline
namespace Go.Proofs.YtpamfhplklhnpaaDoor
open Go.RowKit
set_option linter.unusedVariables false
/-- P308: 1 floats, 2 is placed. -/
def outN (p f : Int) : Int := if p = 2 ∨ p = 3 then 2 else if f = 1 ∨ f = 2 then 1 else 0
set_option maxHeartbeats 400000 in
theorem out_calls (cs : Array Value) (p f : Int) (w : World) (h3 : cs[3]? = some (.int .i64 p)) (h5 : cs[5]? = some (.int .i64 f)) :
    Calls Tryd.prog 45 #[.agg cs] w fun e w' => e = .returned (.int .i64 (outN p f)) ∧ Below w.heap.size w w' := by
  have c3 := (new_cell w cs 28 3).trans h3
  have c5 := (new_cell w cs 28 5).trans h5
  clear h3 h5
  by_cases p2 : p = 2
  · subst p2
    go_enter Tryd.func45, Tryd.ntmps45
    go_wp2_with fail
    go_ret
    exact ⟨ret_i (by unfold outN; simp [*]), below_alloc (Below.refl _ _) _⟩
  by_cases p3 : p = 3
  · subst p3
    go_enter Tryd.func45, Tryd.ntmps45
    go_wp2_with fail
    go_ret
    exact ⟨ret_i (by unfold outN; simp [*]), below_alloc (Below.refl _ _) _⟩
  have e2 : (p == 2) = false := by simpa using p2
  have e3 : (p == 3) = false := by simpa using p3
  by_cases f1 : f = 1
  · subst f1
    go_enter Tryd.func45, Tryd.ntmps45
    go_wp2_with fail
    go_ret
    exact ⟨ret_i (by unfold outN; simp [*]), below_alloc (Below.refl _ _) _⟩
  by_cases f2 : f = 2
  · subst f2
    go_enter Tryd.func45, Tryd.ntmps45
    go_wp2_with fail
    go_ret
    exact ⟨ret_i (by unfold outN; simp [*]), below_alloc (Below.refl _ _) _⟩
  have e4 : (f == 1) = false := by simpa using f1
  have e5 : (f == 2) = false := by simpa using f2
  · go_enter Tryd.func45, Tryd.ntmps45
    go_wp2_with fail
    go_ret
    exact ⟨ret_i (by unfold outN; simp [*]), below_alloc (Below.refl _ _) _⟩

/-- The zero value of a style (118 cells: the seat's loader leaves it out). -/
def zst : Array Value := Array.replicate 118 (.int .i64 0)
theorem zst_size : zst.size = 118 := by simp [zst]
theorem zst_run (w : World) : (zeroValue 28).run Tryd.prog w = .ok (.agg zst) w := by kernel_rfl
attribute [local go_sem] zst_run zst_size
def bad1 (g : Nat) : List BoxV := [⟨4, 0, -1, some ⟨g, 0, none⟩, [0], 1, ⟨#[]⟩⟩]
theorem bad1_no (g : Nat) : boxesE (bad1 g) = 3 := no_of_kids _ 0 (by simp [bad1]) (by simp [bad1, bx, kidsOk])
theorem boxesE_or (bs : List BoxV) : boxesE bs = 0 ∨ boxesE bs = 3 := by
  unfold boxesE
  split
  · exact .inl rfl
  · exact .inr rfl
end Go.Proofs.YtpamfhplklhnpaaDoor
