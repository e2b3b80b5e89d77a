/- The walk of FixParts: whatever the input, it returns true. -/
import Derived.Test.YtpinfaoeggipmaaFix
namespace Go.Proofs.Ytpinfaoeggipmaa
open Go.RowKit
set_option linter.unusedVariables false
set_option maxHeartbeats 400000 in
theorem fixed_calls (w : World) :
    Calls Try.prog 18 #[] w fun e w' => e = .returned (.bool true) ∧ w = w' := by
  have e1 : (part 7 1 2 == 3) = true := by decide
  have e2 : (part (-7) 1 2 == -4) = true := by decide
  go_enter Try.func18, Try.ntmps18
  go_wp2_with (go_at_call 21; refine (part_calls _ _ _ _).mono ?_; rintro e w' ⟨rfl, rfl⟩)
  go_ret
  exact ⟨rfl, rfl⟩
set_option maxHeartbeats 400000 in
theorem fixParts_calls (n u d l m : Int) (w : World) :
    Calls Try.prog 4 #[.int .i64 n, .int .i64 u, .int .i64 d, .int .i64 l, .int .i64 m] w fun e w' => e = .returned (.bool true) ∧ w = w' := by
  go_enter Try.func4, Try.ntmps4
  go_wp2_with (first | (go_at_call 18; refine (fixed_calls _).mono ?_; rintro e w' ⟨rfl, rfl⟩) | (go_at_call 21; refine (part_calls _ _ _ _).mono ?_; rintro e w' ⟨rfl, rfl⟩) | (go_at_call 22; refine (rpart_calls _ _ _ _).mono ?_; rintro e w' ⟨rfl, rfl⟩) | (go_at_call 23; refine (between_calls _ _ _ _).mono ?_; rintro e w' ⟨rfl, rfl⟩) | (go_at_call 24; refine (rbetween_calls _ _ _ _).mono ?_; rintro e w' ⟨rfl, rfl⟩) | (go_at_call 19; refine (cut_calls _ _).mono ?_; rintro e w' ⟨rfl, rfl⟩) | (go_at_call 20; refine (rcut_calls _ _).mono ?_; rintro e w' ⟨rfl, rfl⟩))
  go_ret
  exact ⟨rfl, rfl⟩
end Go.Proofs.Ytpinfaoeggipmaa
