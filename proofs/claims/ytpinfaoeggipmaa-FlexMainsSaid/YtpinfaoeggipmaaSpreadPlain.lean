/- Plain law of P326: what stands ahead of each item of a flexible row. -/
import Derived.Test.YtpinfaoeggipmaaShare
import Derived.Test.YtpinfaoeggipmaaFlexTurn
import Derived.Test.YtpinfaoeggipmaaOwn
namespace Go.Proofs.Ytpinfaoeggipmaa
open Go.RowKit
set_option linter.unusedVariables false

def onesL (m : Nat) : List Int := List.replicate m 1
theorem ones_len (m : Nat) : (onesL m).length = m := by simp [onesL]
/-- What the first i of the parts make at place k. -/
def accS (s : Nat → Int) (i k : Nat) : Int := (if 2 * k < i then s (2 * k) else 0) + (if 0 < k ∧ 2 * k - 1 < i then s (2 * k - 1) else 0)
def accL (s : Nat → Int) (n i : Nat) : List Int := (List.range n).map (accS s i)
theorem accL_zero (s : Nat → Int) (n : Nat) : accL s n 0 = List.replicate n 0 := by
  apply List.ext_getElem
  · simp [accL]
  · intro i h1 h2; simp [accL, accS]
theorem accL_len (s : Nat → Int) (n i : Nat) : (accL s n i).length = n := by simp [accL]
theorem accL_at (s : Nat → Int) (n i k : Nat) (hk : k < n) : (ints (accL s n i))[k]? = some (.int .i64 (accS s i k)) := by simp [ints, accL, hk]
theorem accL_step (s : Nat → Int) (n i : Nat) (hk : (i + 1) / 2 < n) : (ints (accL s n i)).set ((i + 1) / 2) (.int .i64 (accS s i ((i + 1) / 2) + s i)) = ints (accL s n (i + 1)) := by
  unfold ints accL
  apply List.ext_getElem
  · simp
  · intro j h1 h2
    simp only [List.getElem_set, List.getElem_map, List.getElem_range]
    by_cases e : (i + 1) / 2 = j
    · rw [if_pos e, ← e]
      congr 1
      unfold accS
      clear h1 h2
      rcases Nat.mod_two_eq_zero_or_one i with h | h
      · have e1 : 2 * ((i + 1) / 2) = i := by omega
        simp only [e1]
        (repeat' split) <;> omega
      · have e1 : 2 * ((i + 1) / 2) = i + 1 := by omega
        simp only [e1, Nat.add_sub_cancel]
        (repeat' split) <;> omega
    · rw [if_neg e]
      congr 1
      unfold accS
      congr 1
      · by_cases h : 2 * j < i
        · rw [if_pos h, if_pos (by omega)]
        · rw [if_neg h, if_neg (by omega)]
      · by_cases h : 0 < j ∧ 2 * j - 1 < i
        · rw [if_pos h, if_pos (by omega)]
        · rw [if_neg h, if_neg (by omega)]
def totS (s : Nat → Int) (k : Nat) : Int := s (2 * k) + (if 0 < k then s (2 * k - 1) else 0)
theorem accL_all (s : Nat → Int) (n : Nat) (hn : 0 < n) : accL s n (2 * n - 1) = (List.range n).map (totS s) := by
  unfold accL
  apply List.map_congr_left
  intro k hk
  have hk : k < n := by simpa using hk
  unfold accS totS
  rw [if_pos (by omega)]
  by_cases h : 0 < k
  · rw [if_pos ⟨h, by omega⟩, if_pos h]
  · rw [if_neg (by omega), if_neg h]
def firstL (n : Nat) (x : Int) : List Int := (List.replicate n 0).set 0 x
theorem firstL_len (n : Nat) (x : Int) : (firstL n x).length = n := by simp [firstL]
/-- P326. -/
def spreadF (mode free : Int) (n : Int) : List Int :=
  if n < 1 ∨ 500 < n then []
  else if mode = 1 then firstL n.toNat (cut free)
  else if mode = 2 ∨ (mode = 5 ∧ cut free ≤ 0) then firstL n.toNat (part (cut free) 1 2)
  else if mode = 4 ∧ 0 < cut free then 0 :: share (cut free) (onesL (n.toNat - 1))
  else if mode = 5 then (List.range n.toNat).map (totS (fun i => (share (cut free) (onesL (2 * n.toNat))).getD i 0))
  else List.replicate n.toNat 0
theorem sp_bad {mode free n : Int} (h : n < 1 ∨ 500 < n) : spreadF mode free n = [] := if_pos h
theorem sp_one {N : Nat} {free : Int} (h1 : 1 ≤ N) (h2 : N ≤ 500) : spreadF 1 free N = firstL N (cut free) := by
  unfold spreadF
  rw [if_neg (by omega), if_pos rfl]
  rfl
theorem sp_two {N : Nat} {mode free : Int} (h1 : 1 ≤ N) (h2 : N ≤ 500) (h : mode = 2 ∨ (mode = 5 ∧ cut free ≤ 0)) : spreadF mode free N = firstL N (part (cut free) 1 2) := by
  unfold spreadF
  rw [if_neg (by omega), if_neg (by omega), if_pos h]
  rfl
theorem sp_four {N : Nat} {free : Int} (h1 : 1 ≤ N) (h2 : N ≤ 500) (h : 0 < cut free) : spreadF 4 free N = 0 :: share (cut free) (onesL (N - 1)) := by
  unfold spreadF
  rw [if_neg (by omega), if_neg (by omega), if_neg (by omega), if_pos ⟨rfl, h⟩]
  rfl
theorem sp_five {N : Nat} {free : Int} (h1 : 1 ≤ N) (h2 : N ≤ 500) (h : 0 < cut free) : spreadF 5 free N = (List.range N).map (totS (fun i => (share (cut free) (onesL (2 * N))).getD i 0)) := by
  unfold spreadF
  rw [if_neg (by omega), if_neg (by omega), if_neg (by omega), if_neg (by omega), if_pos rfl]
  rfl
theorem sp_none {N : Nat} {mode free : Int} (h1 : 1 ≤ N) (h2 : N ≤ 500) (e1 : ¬ mode = 1) (e2 : ¬ mode = 2) (e4 : ¬ (mode = 4 ∧ 0 < cut free)) (e5 : ¬ mode = 5) : spreadF mode free N = List.replicate N 0 := by
  unfold spreadF
  rw [if_neg (by omega), if_neg e1, if_neg (by omega), if_neg e4, if_neg e5]
  rfl
theorem first_ints (N : Nat) (x : Int) : (ints (List.replicate N 0)).set 0 (.int .i64 x) = ints (firstL N x) := by simp [ints, firstL, List.map_set]
theorem spreadF_len (mode free n : Int) : (spreadF mode free n).length ≤ 500 := by
  unfold spreadF
  split
  · simp
  · split
    · simp [firstL_len]; omega
    · split
      · simp [firstL_len]; omega
      · split
        · simp [share_length, ones_len]; omega
        · split
          · simp; omega
          · simp; omega
end Go.Proofs.Ytpinfaoeggipmaa
