/- The closed fact 'itemed'. -/
import Derived.Test.YtpamfhplklhnpaaDoorItmB
namespace Go.Proofs.YtpamfhplklhnpaaDoor
open Go.RowKit
set_option linter.unusedVariables false
set_option linter.unusedSimpArgs false
def zsI : List Int := (List.range 118).map (fun i => if i = 74 then 2 else if i = 75 then 800 else if i = 76 then 4 else if i = 77 then 1500 else 0)
set_option maxRecDepth 100000 in
theorem exec_styI (ρ : Operand → Value) (o : Oper) (x0 x1 : Operand) (w : World) (ho : o.op = .build 28 #[(37, x0), (38, x1)]) (h0 : ρ x0 = .agg #[.int .i64 2, .int .i64 800]) (h1 : ρ x1 = .agg #[.int .i64 4, .int .i64 1500]) :
    (execOp ρ o).run Tryd.prog w = .ok (.value (.agg (sty zsI))) w := by
  have hb : (Instr.build 28 #[(37, .agg #[.int .i64 2, .int .i64 800]), (38, .agg #[.int .i64 4, .int .i64 1500])]).run Tryd.prog w = .ok (.agg (sty zsI)) w := by kernel_rfl
  unfold execOp
  rw [ho]
  simp only [List.map_toArray, List.map_cons, List.map_nil, h0, h1, Sem.run_bind, hb, Result.andThen_ok, Sem.run_pure]
theorem itemed_high : highN zsI = 1200 := by decide
set_option maxRecDepth 100000 in
set_option maxHeartbeats 1000000 in
theorem itemed_calls (w : World) :
    Calls Tryd.prog 5 #[] w fun e w' => e = .returned (.bool true) ∧ Below w.heap.size w w' := by
  have hc := high_calls zsI w (by kernel_rfl)
  rw [itemed_high] at hc
  have HC := Lib.hid hc
  clear hc
  go_enter Tryd.func5, Tryd.ntmps5
  go_wp2_with (first | (refine wpList_runTo rfl _ rfl _ _ (exec_styI _ _ _ _ _ rfl rfl rfl) ?_; simp only [Act.put, List.setIfInBounds_toArray, List.set_cons_zero, List.set_cons_succ]) | (go_at_call 6; refine HC.out.mono ?_; rintro e w1 ⟨rfl, hb⟩))
  go_ret
  exact ⟨rfl, hb⟩
end Go.Proofs.YtpamfhplklhnpaaDoor
