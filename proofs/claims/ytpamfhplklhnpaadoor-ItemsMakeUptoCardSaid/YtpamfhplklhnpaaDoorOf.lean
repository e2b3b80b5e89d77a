/- Contracts of fix.Of and of the reference's Of; the walk of FixOfs. -/
import Derived.Test.YtpamfhplklhnpaaDoorFix
import Derived.Test.YtpamfhplklhnpaaDoorMem
import Derived.Outline
namespace Go.Proofs.YtpamfhplklhnpaaDoor
open Go.RowKit
set_option linter.unusedVariables false

/-- P302: a length of a value: kind, number, what it is a part of. -/
def ofN (k n base : Int) : Int := if k = 2 then cut n else if k = 3 then part base n 10000 else 0
def ofIs (k : Int) : Bool := decide (k = 2) || decide (k = 3)
theorem ofN_bd (k n base : Int) : -16777216 ≤ ofN k n base ∧ ofN k n base ≤ 16777216 := by
  unfold ofN
  have h1 := cut_lo n
  have h2 := cut_hi n
  have h3 := part_lo base n 10000
  have h4 := part_hi base n 10000
  split <;> (try split) <;> omega

theorem ret_of {a b : Int} {c d : Bool} (h : a = b) (h' : c = d) : Ending.returned (.tuple #[.int .i64 a, .bool c]) = .returned (.tuple #[.int .i64 b, .bool d]) := by rw [h, h']
set_option maxHeartbeats 400000 in
theorem of_calls (k n base : Int) (w : World) :
    Calls Tryd.prog 69 #[.agg #[.int .i64 k, .int .i64 n], .int .i64 base] w fun e w' => e = .returned (.tuple #[.int .i64 (ofN k n base), .bool (ofIs k)]) ∧ w.alloc (.cells #[.int .i64 k, .int .i64 n] 26) = w' := by
  by_cases h2 : k = 2
  · subst h2
    go_enter Tryd.func69, Tryd.ntmps69
    go_wp2_with (first | (go_at_call 19; refine (cut_calls _ _).mono ?_; rintro e w' ⟨rfl, rfl⟩) | (go_at_call 20; refine (part_calls _ _ _ _).mono ?_; rintro e w' ⟨rfl, rfl⟩))
    go_ret2
    exact ⟨rfl, rfl⟩
  · by_cases h3 : k = 3
    · subst h3
      go_enter Tryd.func69, Tryd.ntmps69
      go_wp2_with (first | (go_at_call 19; refine (cut_calls _ _).mono ?_; rintro e w' ⟨rfl, rfl⟩) | (go_at_call 20; refine (part_calls _ _ _ _).mono ?_; rintro e w' ⟨rfl, rfl⟩))
      go_ret2
      exact ⟨rfl, rfl⟩
    · have e2 : (k == 2) = false := by simpa using h2
      have e3 : (k == 3) = false := by simpa using h3
      go_enter Tryd.func69, Tryd.ntmps69
      go_wp2_with (first | (go_at_call 19; refine (cut_calls _ _).mono ?_; rintro e w' ⟨rfl, rfl⟩) | (go_at_call 20; refine (part_calls _ _ _ _).mono ?_; rintro e w' ⟨rfl, rfl⟩))
      go_ret2
      exact ⟨ret_of (by unfold ofN; rw [if_neg h2, if_neg h3]) (by unfold ofIs; simp [h2, h3]), rfl⟩
set_option maxHeartbeats 400000 in
theorem rof_calls (k n base : Int) (w : World) :
    Calls Tryd.prog 30 #[.agg #[.int .i64 k, .int .i64 n], .int .i64 base] w fun e w' => e = .returned (.tuple #[.int .i64 (ofN k n base), .bool (ofIs k)]) ∧ w.alloc (.cells #[.int .i64 k, .int .i64 n] 26) = w' := by
  by_cases h2 : k = 2
  · subst h2
    go_enter Tryd.func30, Tryd.ntmps30
    go_wp2_with (first | (go_at_call 29; refine (rcut_calls _ _).mono ?_; rintro e w' ⟨rfl, rfl⟩) | (go_at_call 23; refine (rpart_calls _ _ _ _).mono ?_; rintro e w' ⟨rfl, rfl⟩))
    go_ret2
    exact ⟨rfl, rfl⟩
  · by_cases h3 : k = 3
    · subst h3
      go_enter Tryd.func30, Tryd.ntmps30
      go_wp2_with (first | (go_at_call 29; refine (rcut_calls _ _).mono ?_; rintro e w' ⟨rfl, rfl⟩) | (go_at_call 23; refine (rpart_calls _ _ _ _).mono ?_; rintro e w' ⟨rfl, rfl⟩))
      go_ret2
      exact ⟨rfl, rfl⟩
    · have e2 : (k == 2) = false := by simpa using h2
      have e3 : (k == 3) = false := by simpa using h3
      go_enter Tryd.func30, Tryd.ntmps30
      go_wp2_with (first | (go_at_call 29; refine (rcut_calls _ _).mono ?_; rintro e w' ⟨rfl, rfl⟩) | (go_at_call 23; refine (rpart_calls _ _ _ _).mono ?_; rintro e w' ⟨rfl, rfl⟩))
      go_ret2
      exact ⟨ret_of (by unfold ofN; rw [if_neg h2, if_neg h3]) (by unfold ofIs; simp [h2, h3]), rfl⟩
end Go.Proofs.YtpamfhplklhnpaaDoor
