/- Contracts for the closed fact lined: the font's widths of letters a and blanks, Above. -/
import Derived.Test.YtabbpdlnlibngaaShelf
import Derived.Test.YtabbpdlnlibngaaFix
import Derived.Test.YtabbpdlnlibngaaEqBrk
import Derived.Shelf.Abstract
import Derived.Deep.Cut
import Derived.Deep.CutRange
namespace Go.Proofs.Ytabbpdlnlibngaa
open Go.RowKit
set_option linter.unusedVariables false
set_option linter.unusedSimpArgs false
attribute [local go_sem high] run_min2 run_max2

theorem fcut_calls (n : Int) (w : World) : Calls Try.prog 19 #[.int .i64 n] w fun e w' => e = .returned (.int .i64 (max 0 (cut n))) ∧ w = w' := by
  go_enter Try.func19, Try.ntmps19
  go_wp2_with (go_at_call 13; refine (cut_calls _ _).mono ?_; rintro e w' ⟨rfl, rfl⟩)
  go_ret
  exact ⟨rfl, rfl⟩
theorem ascent_calls (n : Int) (w : World) : Calls Try.prog 9 #[.int .i64 n] w fun e w' => e = .returned (.int .i64 (part (max 0 (cut n)) 3 4)) ∧ w = w' := by
  go_enter Try.func9, Try.ntmps9
  go_wp2_with (first | (go_at_call 19; refine (fcut_calls _ _).mono ?_; rintro e w' ⟨rfl, rfl⟩) | (go_at_call 10; refine (part_calls _ _ _ _).mono ?_; rintro e w' ⟨rfl, rfl⟩))
  go_ret
  exact ⟨rfl, rfl⟩
theorem rszL_calls (n : Int) (w : World) : Calls Try.prog 21 #[.int .i64 n] w fun e w' => e = .returned (.int .i64 (max 0 (cut n))) ∧ w = w' := by
  go_enter Try.func21, Try.ntmps21
  go_wp2_with (go_at_call 22; refine (rcut_calls _ _).mono ?_; rintro e w' ⟨rfl, rfl⟩)
  all_goals (go_ret; exact ⟨ret_int (by omega), rfl⟩)
theorem rascent_calls (n : Int) (w : World) : Calls Try.prog 11 #[.int .i64 n] w fun e w' => e = .returned (.int .i64 (part (max 0 (cut n)) 3 4)) ∧ w = w' := by
  go_enter Try.func11, Try.ntmps11
  go_wp2_with (first | (go_at_call 21; refine (rszL_calls _ _).mono ?_; rintro e w' ⟨rfl, rfl⟩) | (go_at_call 12; refine (rpart_calls _ _ _ _).mono ?_; rintro e w' ⟨rfl, rfl⟩))
  go_ret
  exact ⟨rfl, rfl⟩
def aboveF (n h : Int) : Int := part (max 0 (cut n)) 3 4 + part (h - n) 1 2
theorem above_calls (n h : Int) (w : World) (h1 : -4294967296 ≤ n) (h2 : n ≤ 4294967296) (h3 : -4294967296 ≤ h) (h4 : h ≤ 4294967296) : Calls Try.prog 5 #[.int .i64 n, .int .i64 h] w fun e w' => e = .returned (.int .i64 (aboveF n h)) ∧ w = w' := by
  have r1 : IntKind.i64.wrap (h - n) = h - n := by rw [IntKind.wrap_i64]; omega
  have a1 := part_lo (max 0 (cut n)) 3 4
  have a2 := part_hi (max 0 (cut n)) 3 4
  have b1 := part_lo (h - n) 1 2
  have b2 := part_hi (h - n) 1 2
  go_enter Try.func5, Try.ntmps5
  go_wp2_with (first | (go_at_call 9; refine (ascent_calls _ _).mono ?_; rintro e w' ⟨rfl, rfl⟩) | (go_at_call 10; refine (part_calls _ _ _ _).mono ?_; rintro e w' ⟨rfl, rfl⟩))
  go_ret
  exact ⟨rfl, rfl⟩
theorem rabove_calls (n h : Int) (w : World) (h1 : -4294967296 ≤ n) (h2 : n ≤ 4294967296) (h3 : -4294967296 ≤ h) (h4 : h ≤ 4294967296) : Calls Try.prog 6 #[.int .i64 n, .int .i64 h] w fun e w' => e = .returned (.int .i64 (aboveF n h)) ∧ w = w' := by
  have r1 : IntKind.i64.wrap (h - n) = h - n := by rw [IntKind.wrap_i64]; omega
  have a1 := part_lo (max 0 (cut n)) 3 4
  have a2 := part_hi (max 0 (cut n)) 3 4
  have b1 := part_lo (h - n) 1 2
  have b2 := part_hi (h - n) 1 2
  go_enter Try.func6, Try.ntmps6
  go_wp2_with (first | (go_at_call 11; refine (rascent_calls _ _).mono ?_; rintro e w' ⟨rfl, rfl⟩) | (go_at_call 12; refine (rpart_calls _ _ _ _).mono ?_; rintro e w' ⟨rfl, rfl⟩))
  go_ret
  exact ⟨rfl, rfl⟩

/-- The texts of the closed fact. -/
def tAA : ByteArray := ⟨#[97, 97]⟩
def tAAB : ByteArray := ⟨#[97, 97, 32]⟩
theorem narrow_a : decide (0 ≤ Lib.indexByte (⟨#[32, 105, 108, 106, 46, 44, 39, 33, 124, 58]⟩ : ByteArray).data.toList (97 : Int).toNat.toUInt8) = false := by decide +kernel
theorem narrow_b : decide (0 ≤ Lib.indexByte (⟨#[32, 105, 108, 106, 46, 44, 39, 33, 124, 58]⟩ : ByteArray).data.toList (32 : Int).toNat.toUInt8) = true := by decide +kernel
theorem wide_a : decide (0 ≤ Lib.indexByte (⟨#[109, 119, 77, 87, 64]⟩ : ByteArray).data.toList (97 : Int).toNat.toUInt8) = false := by decide +kernel
theorem fourths_a (w : World) : Calls Try.prog 56 #[.int .i32 97] w fun e w' => e = .returned (.int .i64 2) ∧ w = w' := by
  have hN : ∀ w, Calls Try.prog 64 #[.string ⟨#[32, 105, 108, 106, 46, 44, 39, 33, 124, 58]⟩, .int .i32 97] w fun e w' => e = .returned (.bool false) ∧ w' = w := fun w => by
    have := Try.strings_ContainsRune_ascii ⟨#[32, 105, 108, 106, 46, 44, 39, 33, 124, 58]⟩ 97 w (by omega) (by omega)
    rw [narrow_a] at this
    exact this
  have hW : ∀ w, Calls Try.prog 64 #[.string ⟨#[109, 119, 77, 87, 64]⟩, .int .i32 97] w fun e w' => e = .returned (.bool false) ∧ w' = w := fun w => by
    have := Try.strings_ContainsRune_ascii ⟨#[109, 119, 77, 87, 64]⟩ 97 w (by omega) (by omega)
    rw [wide_a] at this
    exact this
  have HN := Lib.hid hN
  have HW := Lib.hid hW
  clear hN hW
  go_enter Try.func56, Try.ntmps56
  go_upto_region 7 with (go_at_call 64; refine (HN.out _).mono ?_; rintro e w' ⟨rfl, rfl⟩)
  go_wp2_with (go_at_call 64; refine (HW.out _).mono ?_; rintro e w' ⟨rfl, rfl⟩)
  go_ret
  exact ⟨rfl, rfl⟩
theorem fourths_b (w : World) : Calls Try.prog 56 #[.int .i32 32] w fun e w' => e = .returned (.int .i64 1) ∧ w = w' := by
  have hN : ∀ w, Calls Try.prog 64 #[.string ⟨#[32, 105, 108, 106, 46, 44, 39, 33, 124, 58]⟩, .int .i32 32] w fun e w' => e = .returned (.bool true) ∧ w' = w := fun w => by
    have := Try.strings_ContainsRune_ascii ⟨#[32, 105, 108, 106, 46, 44, 39, 33, 124, 58]⟩ 32 w (by omega) (by omega)
    rw [narrow_b] at this
    exact this
  have HN := Lib.hid hN
  clear hN
  go_enter Try.func56, Try.ntmps56
  go_wp2_with (go_at_call 64; refine (HN.out _).mono ?_; rintro e w' ⟨rfl, rfl⟩)
  go_ret
  exact ⟨rfl, rfl⟩
def advR (r : Int) : Int := if r = 97 then 32 else 16
theorem advance_calls (r : Int) (hr : r = 97 ∨ r = 32) (w : World) : Calls Try.prog 41 #[.int .i32 r, .int .i64 64] w fun e w' => e = .returned (.int .i64 (advR r)) ∧ w = w' := by
  rcases hr with rfl | rfl
  · go_enter Try.func41, Try.ntmps41
    go_wp2_with (first | (go_at_call 19; refine (fcut_calls _ _).mono ?_; rintro e w' ⟨rfl, rfl⟩) | (go_at_call 56; refine (fourths_a _).mono ?_; rintro e w' ⟨rfl, rfl⟩) | (go_at_call 10; refine (part_calls _ _ _ _).mono ?_; rintro e w' ⟨rfl, rfl⟩))
    go_ret
    exact ⟨ret_int (by decide +kernel), rfl⟩
  · go_enter Try.func41, Try.ntmps41
    go_wp2_with (first | (go_at_call 19; refine (fcut_calls _ _).mono ?_; rintro e w' ⟨rfl, rfl⟩) | (go_at_call 56; refine (fourths_b _).mono ?_; rintro e w' ⟨rfl, rfl⟩) | (go_at_call 10; refine (part_calls _ _ _ _).mono ?_; rintro e w' ⟨rfl, rfl⟩))
    go_ret
    exact ⟨ret_int (by decide +kernel), rfl⟩
end Go.Proofs.Ytabbpdlnlibngaa
