/- Plain law of P328: widths of a table's columns. -/
import Derived.Test.YtkppignoomnmdaaSpreadPlain
namespace Go.Proofs.Ytkppignoomnmdaa
open Go.RowKit
set_option linter.unusedVariables false

def tLow (least : List Int) (i : Nat) : Int := max 0 (cut (least.getD i 0))
def tMore (least most : List Int) (i : Nat) : Int := max 0 (cut (most.getD i 0) - tLow least i)
theorem tLow_bd (least : List Int) (i : Nat) : 0 ≤ tLow least i ∧ tLow least i ≤ 16777216 := by
  have := cut_hi (least.getD i 0); unfold tLow; omega
theorem tMore_bd (least most : List Int) (i : Nat) : 0 ≤ tMore least most i ∧ tMore least most i ≤ 16777216 := by
  have := cut_hi (most.getD i 0); have := tLow_bd least i; unfold tMore; omega
def fnL (n : Nat) (f : Nat → Int) : List Int := (List.range n).map f
theorem fnL_len (n : Nat) (f : Nat → Int) : (fnL n f).length = n := by simp [fnL]
theorem fnL_getD (n : Nat) (f : Nat → Int) (i : Nat) (h : i < n) : (fnL n f).getD i 0 = f i := by simp [fnL, List.getD, h]
theorem fnL_congr {n : Nat} {f g : Nat → Int} (h : ∀ i, i < n → f i = g i) : fnL n f = fnL n g := by
  unfold fnL; apply List.map_congr_left; intro i hi; exact h i (by simpa using hi)
def tFree (room spacing : Int) (n : Nat) : Int := max 0 (cut room - max 0 (cut spacing) * ((n : Int) + 1))
theorem tFree_bd (room spacing : Int) (n : Nat) (hn : n ≤ 1000) : 0 ≤ tFree room spacing n ∧ tFree room spacing n ≤ 16777216 := by
  have h1 := cut_hi room
  have : 0 ≤ max 0 (cut spacing) * ((n : Int) + 1) := Int.mul_nonneg (by omega) (by omega)
  unfold tFree; omega
theorem tMul_bd (spacing : Int) (n : Nat) (hn : n ≤ 1000) : 0 ≤ max 0 (cut spacing) * ((n : Int) + 1) ∧ max 0 (cut spacing) * ((n : Int) + 1) ≤ 16777216 * 1001 := by
  have h1 := cut_hi spacing
  refine ⟨Int.mul_nonneg (by omega) (by omega), ?_⟩
  exact Int.mul_le_mul (by omega) (by omega) (by omega) (by omega)
theorem sumTo_le (f : Nat → Int) (n : Nat) (h : ∀ i, 0 ≤ f i ∧ f i ≤ 16777216) : 0 ≤ sumTo f n ∧ sumTo f n ≤ 16777216 * n := by
  induction n with
  | zero => simp [sumTo]
  | succ n ih => have := h n; simp only [sumTo]; omega
theorem sumTo_add2 (f g : Nat → Int) (n : Nat) : sumTo (fun i => f i + g i) n = sumTo f n + sumTo g n := by
  induction n with
  | zero => rfl
  | succ n ih => simp only [sumTo]; rw [ih]; omega
theorem sumTo_none (f : Nat → Int) (n : Nat) (h : ∀ i, 0 ≤ f i) (hs : sumTo f n ≤ 0) : ∀ i, i < n → f i = 0 := by
  induction n with
  | zero => intro i hi; omega
  | succ n ih =>
    have hn : 0 ≤ sumTo f n := by
      clear ih hs
      induction n with
      | zero => simp [sumTo]
      | succ n ih => have := h n; simp only [sumTo]; omega
    have := h n
    simp only [sumTo] at hs
    intro i hi
    by_cases e : i = n
    · subst e; omega
    · exact ih (by omega) i (by omega)
theorem psum_fn (f : Nat → Int) (n : Nat) (hn : n ≤ 1000) (h : ∀ i, 0 ≤ f i ∧ f i ≤ 16777216) : ∀ k, k ≤ n → psum (fnL n f) k = sumTo f k
  | 0, _ => rfl
  | k + 1, hk => by
    simp only [psum, sumTo]
    rw [psum_fn f n hn h k (by omega), fnL_getD n f k (by omega)]
    have := h k
    unfold wt
    rw [if_neg (by omega), cut_id _ (by omega) (by omega)]
    omega
/-- What is shared out wholly. -/
theorem share_all (f : Nat → Int) (n : Nat) (hn : n ≤ 1000) (h : ∀ i, 0 ≤ f i ∧ f i ≤ 16777216) (hs : sumTo f n ≤ 16777216) (i : Nat) (hi : i < n) : (share (sumTo f n) (fnL n f)).getD i 0 = f i := by
  have hl := fnL_len n f
  have hS := psum_fn f n hn h n (Nat.le_refl _)
  have h0 := (sumTo_le f n h).1
  have e : (share (sumTo f n) (fnL n f)).getD i 0 = shareAt (sumTo f n) (fnL n f) i := by simp [share, List.getD, hl, hi]
  rw [e]
  unfold shareAt
  rw [hl, hS]
  by_cases hz : sumTo f n = 0
  · rw [if_pos hz]
    exact (sumTo_none f n (fun i => (h i).1) (by omega) i hi).symm
  · rw [if_neg hz]
    unfold upto
    rw [hl, hS, cut_id _ (by omega) hs, psum_fn f n hn h i (by omega), psum_fn f n hn h (i + 1) (by omega), Int.mul_fdiv_cancel_left _ hz, Int.mul_fdiv_cancel_left _ hz]
    simp only [sumTo]
    omega
/-- P328. -/
def widthsF (room spacing : Int) (least most : List Int) (fixed : Bool) (n : Nat) : List Int :=
  if fixed then fnL n (fun i => max (tLow least i) ((share (tFree room spacing n) (onesL n)).getD i 0))
  else if tFree room spacing n ≤ sumTo (tLow least) n then fnL n (tLow least)
  else fnL n (fun i => tLow least i + (share (min (tFree room spacing n - sumTo (tLow least) n) (sumTo (tMore least most) n)) (fnL n (tMore least most))).getD i 0)
theorem wid_fixed (room spacing : Int) (least most : List Int) (n : Nat) : widthsF room spacing least most true n = fnL n (fun i => max (tLow least i) ((share (tFree room spacing n) (onesL n)).getD i 0)) := rfl
theorem wid_low {room spacing : Int} {least most : List Int} {n : Nat} (h : tFree room spacing n ≤ sumTo (tLow least) n) : widthsF room spacing least most false n = fnL n (tLow least) := by
  unfold widthsF; rw [if_neg (by simp), if_pos h]
theorem wid_share {room spacing : Int} {least most : List Int} {n : Nat} (h : sumTo (tLow least) n < tFree room spacing n) : widthsF room spacing least most false n = fnL n (fun i => tLow least i + (share (min (tFree room spacing n - sumTo (tLow least) n) (sumTo (tMore least most) n)) (fnL n (tMore least most))).getD i 0) := by
  unfold widthsF; rw [if_neg (by simp), if_neg (by omega)]
/-- As the reference has it. -/
theorem wid_high {room spacing : Int} {least most : List Int} {n : Nat} (hn : n ≤ 1000) (h : sumTo (tLow least) n + sumTo (tMore least most) n ≤ tFree room spacing n) : widthsF room spacing least most false n = fnL n (fun i => tLow least i + tMore least most i) := by
  have hm := (sumTo_le (tMore least most) n (tMore_bd least most)).1
  have hf := tFree_bd room spacing n hn
  have hw := (sumTo_le (tLow least) n (tLow_bd least)).1
  by_cases h1 : tFree room spacing n ≤ sumTo (tLow least) n
  · rw [wid_low h1]
    apply fnL_congr
    intro i hi
    have := sumTo_none (tMore least most) n (fun i => (tMore_bd least most i).1) (by omega) i hi
    omega
  · rw [wid_share (by omega)]
    apply fnL_congr
    intro i hi
    rw [Int.min_eq_right (by omega), share_all _ n hn (tMore_bd least most) (by omega) i hi]
theorem wid_mid {room spacing : Int} {least most : List Int} {n : Nat} (h : tFree room spacing n < sumTo (tLow least) n + sumTo (tMore least most) n) (h1 : sumTo (tLow least) n < tFree room spacing n) : widthsF room spacing least most false n = fnL n (fun i => tLow least i + (share (tFree room spacing n - sumTo (tLow least) n) (fnL n (tMore least most))).getD i 0) := by
  rw [wid_share h1, Int.min_eq_left (by omega)]
theorem widthsF_len (room spacing : Int) (least most : List Int) (fixed : Bool) (n : Nat) : (widthsF room spacing least most fixed n).length = n := by
  unfold widthsF
  split
  · exact fnL_len _ _
  · split <;> exact fnL_len _ _
end Go.Proofs.Ytkppignoomnmdaa
