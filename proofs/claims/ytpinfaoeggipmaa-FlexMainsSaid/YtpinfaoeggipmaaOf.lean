/- Contracts of fix.Of and of the reference's Of; the walk of FixOfs. -/
import Derived.Test.YtpinfaoeggipmaaFixParts
import Derived.Test.YtpinfaoeggipmaaFix
import Derived.Test.YtpinfaoeggipmaaMem
import Derived.Outline
namespace Go.Proofs.Ytpinfaoeggipmaa
open Go.RowKit
set_option linter.unusedVariables false

/-- P302: a length of a value: kind, number, what it is a part of. -/
def ofN (k n base : Int) : Int := if k = 2 then cut n else if k = 3 then part base n 10000 else 0
def ofIs (k : Int) : Bool := decide (k = 2) || decide (k = 3)
theorem ofN_bd (k n base : Int) : -16777216 ≤ ofN k n base ∧ ofN k n base ≤ 16777216 := by
  unfold ofN
  have h1 := cut_lo n
  have h2 := cut_hi n
  have h3 := part_lo base n 10000
  have h4 := part_hi base n 10000
  split <;> (try split) <;> omega

theorem ret_of {a b : Int} {c d : Bool} (h : a = b) (h' : c = d) : Ending.returned (.tuple #[.int .i64 a, .bool c]) = .returned (.tuple #[.int .i64 b, .bool d]) := by rw [h, h']
set_option maxHeartbeats 400000 in
theorem of_calls (k n base : Int) (w : World) :
    Calls Try.prog 25 #[.agg #[.int .i64 k, .int .i64 n], .int .i64 base] w fun e w' => e = .returned (.tuple #[.int .i64 (ofN k n base), .bool (ofIs k)]) ∧ w.alloc (.cells #[.int .i64 k, .int .i64 n] 30) = w' := by
  by_cases h2 : k = 2
  · subst h2
    go_enter Try.func25, Try.ntmps25
    go_wp2_with (first | (go_at_call 19; refine (cut_calls _ _).mono ?_; rintro e w' ⟨rfl, rfl⟩) | (go_at_call 21; refine (part_calls _ _ _ _).mono ?_; rintro e w' ⟨rfl, rfl⟩))
    go_ret2
    exact ⟨rfl, rfl⟩
  · by_cases h3 : k = 3
    · subst h3
      go_enter Try.func25, Try.ntmps25
      go_wp2_with (first | (go_at_call 19; refine (cut_calls _ _).mono ?_; rintro e w' ⟨rfl, rfl⟩) | (go_at_call 21; refine (part_calls _ _ _ _).mono ?_; rintro e w' ⟨rfl, rfl⟩))
      go_ret2
      exact ⟨rfl, rfl⟩
    · have e2 : (k == 2) = false := by simpa using h2
      have e3 : (k == 3) = false := by simpa using h3
      go_enter Try.func25, Try.ntmps25
      go_wp2_with (first | (go_at_call 19; refine (cut_calls _ _).mono ?_; rintro e w' ⟨rfl, rfl⟩) | (go_at_call 21; refine (part_calls _ _ _ _).mono ?_; rintro e w' ⟨rfl, rfl⟩))
      go_ret2
      exact ⟨ret_of (by unfold ofN; rw [if_neg h2, if_neg h3]) (by unfold ofIs; simp [h2, h3]), rfl⟩
set_option maxHeartbeats 400000 in
theorem rof_calls (k n base : Int) (w : World) :
    Calls Try.prog 26 #[.agg #[.int .i64 k, .int .i64 n], .int .i64 base] w fun e w' => e = .returned (.tuple #[.int .i64 (ofN k n base), .bool (ofIs k)]) ∧ w.alloc (.cells #[.int .i64 k, .int .i64 n] 30) = w' := by
  by_cases h2 : k = 2
  · subst h2
    go_enter Try.func26, Try.ntmps26
    go_wp2_with (first | (go_at_call 20; refine (rcut_calls _ _).mono ?_; rintro e w' ⟨rfl, rfl⟩) | (go_at_call 22; refine (rpart_calls _ _ _ _).mono ?_; rintro e w' ⟨rfl, rfl⟩))
    go_ret2
    exact ⟨rfl, rfl⟩
  · by_cases h3 : k = 3
    · subst h3
      go_enter Try.func26, Try.ntmps26
      go_wp2_with (first | (go_at_call 20; refine (rcut_calls _ _).mono ?_; rintro e w' ⟨rfl, rfl⟩) | (go_at_call 22; refine (rpart_calls _ _ _ _).mono ?_; rintro e w' ⟨rfl, rfl⟩))
      go_ret2
      exact ⟨rfl, rfl⟩
    · have e2 : (k == 2) = false := by simpa using h2
      have e3 : (k == 3) = false := by simpa using h3
      go_enter Try.func26, Try.ntmps26
      go_wp2_with (first | (go_at_call 20; refine (rcut_calls _ _).mono ?_; rintro e w' ⟨rfl, rfl⟩) | (go_at_call 22; refine (rpart_calls _ _ _ _).mono ?_; rintro e w' ⟨rfl, rfl⟩))
      go_ret2
      exact ⟨ret_of (by unfold ofN; rw [if_neg h2, if_neg h3]) (by unfold ofIs; simp [h2, h3]), rfl⟩
set_option maxHeartbeats 400000 in
theorem fixOfs_calls (k n base : Int) (w : World) :
    Calls Try.prog 5 #[.agg #[.int .i64 k, .int .i64 n], .int .i64 base] w fun e w' => e = .returned (.bool true) ∧ Below w.heap.size w w' := by
  go_enter Try.func5, Try.ntmps5
  go_wp2_with (first | (go_at_call 25; refine (of_calls _ _ _ _).mono ?_; rintro e w' ⟨rfl, rfl⟩) | (go_at_call 26; refine (rof_calls _ _ _ _).mono ?_; rintro e w' ⟨rfl, rfl⟩) | (go_at_call 18; refine (fixed_calls _).mono ?_; rintro e w' ⟨rfl, rfl⟩))
  go_ret
  exact ⟨rfl, by repeat (first | exact Below.refl _ _ | refine below_alloc ?_ _)⟩
theorem fixOfs_walk (W : World) (zs : List Int) (hz : zs.length = 2) (hw : ∀ z ∈ zs, (Lit.int .i64 z).wf = true) (base : Int) (hb : (Lit.int .i64 base).wf = true) :
    Calls Try.prog 5 #[.agg (zs.map (Value.int .i64)).toArray, .int .i64 base] W fun e w' => e = .returned (.bool true) ∧ Below W.heap.size W w' := by
  match zs, hz with
  | [k, n], _ => exact fixOfs_calls k n base W
end Go.Proofs.Ytpinfaoeggipmaa
