/- The closed fact lined; the walk of LinesAbove. -/
import Derived.Test.YtabbpdlnlibngaaLinU
import Derived.Test.YtabbpdlnlibngaaLinR
namespace Go.Proofs.Ytabbpdlnlibngaa
open Go.RowKit Go.Sort
set_option linter.unusedVariables false
set_option linter.unusedSimpArgs false
attribute [local go_sem high] run_min2 run_max2

set_option maxRecDepth 100000 in
set_option maxHeartbeats 8000000 in
theorem lined_calls (w : World) : Calls Try.prog 4 #[] w fun e w' => e = .returned (.bool true) ∧ Below w.heap.size w w' := by
  have HI := Lib.hid (Blk.new w 28 itemC)
  have HW := Lib.hid (below_alloc (Below.refl w.heap.size w) (.cells itemC 28))
  unfold itemC at HI HW
  have HT := Lib.hid tell_calls
  go_enter Try.func4, Try.ntmps4
  go_upto_region 2 with (first | (go_at_call 8; refine (new_calls _).mono ?_; rintro e w2 ⟨gF, rfl, hF, hb⟩; have HF := Lib.hid hF; have HW := Lib.hid (below_then HW.out hb); have HI := Lib.hid (HI.out.below hb HI.out.lt); clear hF hb) | (go_at_call 7; refine (break_calls HT.out gF w.heap.size 1 w2 HI.out HF.out).mono ?_; rintro e w3 ⟨g, cp, gp, cc, gp2, cc2, rfl, hO, hP, hb⟩; have HO := Lib.hid hO; have HP := Lib.hid hP; have HW := Lib.hid (below_then HW.out hb); clear hO hP hb))
  have c1 : w3.cell? ⟨g, 8, none⟩ = some (.int .i64 80) := (row_at HO.out).1 8 _ rfl
  have c2 : w3.cell? ⟨g, 5, none⟩ = some (.slice (some ⟨gp, 0, none⟩) 1 cc) := (row_at HO.out).1 5 _ rfl
  have c3 : w3.cell? ⟨gp, 3, none⟩ = some (.string ⟨#[97, 97]⟩) := (row_at HP.out).1 3 _ rfl
  go_wp2_with fail
  go_ret
  exact ⟨rfl, HW.out⟩
set_option maxRecDepth 100000 in
set_option maxHeartbeats 2000000 in
theorem linesAbove_walk (W : World) (a : Int) (wa : (Lit.int .i64 a).wf = true) (b : Int) (wb : (Lit.int .i64 b).wf = true) :
    Calls Try.prog 3 #[.int .i64 a, .int .i64 b] W fun e w' => e = .returned (.bool true) ∧ Below W.heap.size W w' := by
  clear wa wb
  have A1 : -4294967296 ≤ wrap64 (wrap32 a) := by unfold wrap64 wrap32; omega
  have A2 : wrap64 (wrap32 a) ≤ 4294967296 := by unfold wrap64 wrap32; omega
  have B1 : -4294967296 ≤ wrap64 (wrap32 b) := by unfold wrap64 wrap32; omega
  have B2 : wrap64 (wrap32 b) ≤ 4294967296 := by unfold wrap64 wrap32; omega
  go_enter Try.func3, Try.ntmps3
  go_upto_region 2 with fail
  generalize wrap64 (wrap32 a) = x at A1 A2 ⊢
  generalize wrap64 (wrap32 b) = y at B1 B2 ⊢
  go_wp2_with (first | (go_at_call 4; refine (lined_calls _).mono ?_; rintro e w1 ⟨rfl, hb⟩; have HW := Lib.hid hb; clear hb) | (go_at_call 5; refine (above_calls x y w1 A1 A2 B1 B2).mono ?_; rintro e w2 ⟨rfl, rfl⟩) | (go_at_call 6; refine (rabove_calls x y _ A1 A2 B1 B2).mono ?_; rintro e w3 ⟨rfl, rfl⟩))
  go_ret
  exact ⟨rfl, HW.out⟩
end Go.Proofs.Ytabbpdlnlibngaa
