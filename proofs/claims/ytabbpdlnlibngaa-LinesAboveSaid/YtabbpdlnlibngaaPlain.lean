/- Plain arithmetic: floor division, cut, part, between. -/
import Derived.IntWalk
namespace Go.Proofs.Ytabbpdlnlibngaa
def cut (n : Int) : Int := max (min n 16777216) (-16777216)
theorem cut_lo (n : Int) : -16777216 ≤ cut n := by unfold cut; omega
theorem cut_hi (n : Int) : cut n ≤ 16777216 := by unfold cut; omega
theorem cut_id (n : Int) (h1 : -16777216 ≤ n) (h2 : n ≤ 16777216) : cut n = n := by unfold cut; omega
theorem min_eq (x y : Int) : (if y < x then y else x) = min x y := by split <;> omega
theorem max_eq (x y : Int) : (if x < y then y else x) = max x y := by split <;> omega

theorem tdiv_natAbs (n d : Int) : (n.tdiv d).natAbs ≤ n.natAbs := by
  rw [Int.natAbs_tdiv]; exact Nat.div_le_self _ _
theorem tdiv_in (n d : Int) (h1 : -4611686018427387904 ≤ n) (h2 : n ≤ 4611686018427387904) : -4611686018427387904 ≤ n.tdiv d ∧ n.tdiv d ≤ 4611686018427387904 := by
  have := tdiv_natAbs n d; omega
theorem sign_pos (d : Int) (h : 0 < d) : d.sign = 1 := Int.sign_eq_one_of_pos h
theorem sign_neg (d : Int) (h : d < 0) : d.sign = -1 := Int.sign_eq_neg_one_of_neg h
theorem floor_exact (n d : Int) (h : n.tmod d = 0) : n.tdiv d = n.fdiv d := by
  rw [Int.fdiv_eq_tdiv, if_pos (Int.dvd_of_tmod_eq_zero h)]; omega
theorem floor_keep (n d : Int) (_h3 : d ≠ 0) (hs : (n < 0 ↔ d < 0)) : n.tdiv d = n.fdiv d := by
  rw [Int.fdiv_eq_tdiv]
  by_cases hdvd : d ∣ n
  · rw [if_pos hdvd]; omega
  · rw [if_neg hdvd]
    by_cases hd : d < 0
    · have := sign_neg d hd
      rw [if_neg (by omega), if_neg (by omega)]; omega
    · rw [if_pos (by omega), if_pos (by omega)]; omega
theorem floor_down (n d : Int) (h3 : d ≠ 0) (h : n.tmod d ≠ 0) (hs : ¬ (n < 0 ↔ d < 0)) : n.tdiv d - 1 = n.fdiv d := by
  have hdvd : ¬ d ∣ n := fun hd => h (Int.tmod_eq_zero_of_dvd hd)
  rw [Int.fdiv_eq_tdiv, if_neg hdvd]
  by_cases hd : d < 0
  · have := sign_neg d hd
    rw [if_pos (by omega), if_neg (by omega)]
  · have := sign_pos d (by omega)
    rw [if_neg (by omega), if_pos (by omega)]; omega
theorem tmod_neg_iff (n d : Int) (_hd : 0 < d) : n.tmod d < 0 ↔ (n < 0 ∧ n.tmod d ≠ 0) := by
  constructor
  · intro h
    refine ⟨?_, by omega⟩
    by_cases hn : n < 0
    · exact hn
    · have := Int.tmod_nonneg d (show 0 ≤ n by omega); omega
  · rintro ⟨h1, h2⟩
    have : n.tmod d ≤ 0 := by
      have e := Int.neg_tmod (-n) d
      rw [Int.neg_neg] at e
      have := Int.tmod_nonneg d (show 0 ≤ -n by omega)
      omega
    omega
theorem rdown_down (n d : Int) (hd : 0 < d) (h : n.tmod d < 0) : n.tdiv d - 1 = n.fdiv d := by
  have h' := (tmod_neg_iff n d hd).1 h
  exact floor_down n d (by omega) h'.2 (by omega)
theorem rdown_keep (n d : Int) (hd : 0 < d) (h : 0 ≤ n.tmod d) : n.tdiv d = n.fdiv d := by
  have h' := tmod_neg_iff n d hd
  by_cases e : n.tmod d = 0
  · exact floor_exact n d e
  · have : ¬ n < 0 := fun hn => by have := h'.2 ⟨hn, e⟩; omega
    exact floor_keep n d (by omega) (by omega)

/-- P300: a part of a number. -/
def part (n up down : Int) : Int := if cut down = 0 then 0 else cut ((cut n * cut up).fdiv (cut down))
theorem mul_cut (a b : Int) (h1 : -16777216 ≤ a) (h2 : a ≤ 16777216) (h3 : -16777216 ≤ b) (h4 : b ≤ 16777216) : -281474976710656 ≤ a * b ∧ a * b ≤ 281474976710656 := by
  have h : (a * b).natAbs ≤ 16777216 * 16777216 := by
    rw [Int.natAbs_mul]; exact Nat.mul_le_mul (by omega) (by omega)
  omega
theorem part_lo (n u d : Int) : -16777216 ≤ part n u d := by unfold part; split; omega; exact cut_lo _
theorem part_hi (n u d : Int) : part n u d ≤ 16777216 := by unfold part; split; omega; exact cut_hi _
theorem fdiv_neg_neg (a d : Int) : (-a).fdiv (-d) = a.fdiv d := Int.neg_fdiv_neg ..
/-- P300: between two bounds. -/
def between (n least most : Int) : Int := max (if 0 ≤ most then min (cut n) (cut most) else cut n) (cut least)
theorem between_lo (n l m : Int) : -16777216 ≤ between n l m := by unfold between; have := cut_lo l; omega
theorem between_hi (n l m : Int) : between n l m ≤ 16777216 := by unfold between; have := cut_hi l; have := cut_hi n; split <;> omega
end Go.Proofs.Ytabbpdlnlibngaa
