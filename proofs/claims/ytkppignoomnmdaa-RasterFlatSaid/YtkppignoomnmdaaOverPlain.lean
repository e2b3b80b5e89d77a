/- Plain law of P346: a color over another. -/
import Derived.Laws.BitsLemmas
import Derived.IntWalk
namespace Go.Proofs.Ytkppignoomnmdaa
set_option linter.unusedVariables false
def alphaV (top n : Int) : Int := top % 256 * min (max n 0) 1000 / 1000
def laneV (top under a u : Int) : Int := (top / u % 256 * a + under / u % 256 * (255 - a) + 127) / 255
def overV (top under n : Int) : Int := 255 + laneV top under (alphaV top n) 256 * 256 + laneV top under (alphaV top n) 65536 * 65536 + laneV top under (alphaV top n) 16777216 * 16777216
theorem mul_bd (x a b c : Int) (h0 : 0 ≤ x) (h1 : x ≤ b) (h2 : 0 ≤ a) (h3 : a ≤ c) (h4 : 0 ≤ b) : 0 ≤ x * a ∧ x * a ≤ b * c :=
  ⟨Int.mul_nonneg h0 h2, Int.le_trans (Int.mul_le_mul_of_nonneg_right h1 h2) (Int.mul_le_mul_of_nonneg_left h3 h4)⟩
theorem alpha_bd (top n : Int) : 0 ≤ alphaV top n ∧ alphaV top n ≤ 255 := by
  have h := mul_bd (top % 256) (min (max n 0) 1000) 255 1000 (by omega) (by omega) (by omega) (by omega) (by omega)
  unfold alphaV; omega
theorem lane_mid (x y a : Int) (hx0 : 0 ≤ x) (hx1 : x ≤ 255) (hy0 : 0 ≤ y) (hy1 : y ≤ 255) (ha0 : 0 ≤ a) (ha1 : a ≤ 255) : 0 ≤ x * a ∧ x * a ≤ 65025 ∧ 0 ≤ y * (255 - a) ∧ y * (255 - a) ≤ 65025 ∧ x * a + y * (255 - a) ≤ 65025 := by
  have h1 := mul_bd x a 255 255 hx0 hx1 ha0 ha1 (by omega)
  have h2 := mul_bd y (255 - a) 255 255 hy0 hy1 (by omega) (by omega) (by omega)
  have h3 : x * a ≤ 255 * a := Int.mul_le_mul_of_nonneg_right hx1 ha0
  have h4 : y * (255 - a) ≤ 255 * (255 - a) := Int.mul_le_mul_of_nonneg_right hy1 (by omega)
  exact ⟨h1.1, by omega, h2.1, by omega, by omega⟩
theorem lane_bd (top under a u : Int) (ha0 : 0 ≤ a) (ha1 : a ≤ 255) : 0 ≤ laneV top under a u ∧ laneV top under a u ≤ 255 := by
  have h := lane_mid (top / u % 256) (under / u % 256) a (by omega) (by omega) (by omega) (by omega) ha0 ha1
  unfold laneV; omega
theorem wraps_i64 (j : Nat) (hj : j ≤ 62) (n : Int) (h0 : 0 ≤ n) (h1 : n < 2 ^ j) : IntKind.i64.wrap n = n := by
  have h : (2 : Int) ^ j ≤ 2 ^ 62 := by exact_mod_cast Nat.pow_le_pow_right (by decide) hj
  have h2 : (2 : Int) ^ 62 = 4611686018427387904 := by decide
  rw [IntKind.wrap_i64]; omega
theorem or_comm64 (x y : Int) : bits .or .i64 x y = bits .or .i64 y x := by
  show IntKind.i64.wrap (((BitVec.ofInt 64 x) ||| (BitVec.ofInt 64 y)).toNat : Int) = IntKind.i64.wrap (((BitVec.ofInt 64 y) ||| (BitVec.ofInt 64 x)).toNat : Int)
  rw [BitVec.or_comm]
theorem or_add (i : Nat) (hi : i ≤ 24) (x l : Int) (hx0 : 0 ≤ x) (hx1 : x < 2 ^ i) (hl0 : 0 ≤ l) (hl1 : l ≤ 255) : bits .or .i64 x (l * 2 ^ i) = x + l * 2 ^ i := by
  have hp : (0 : Int) < 2 ^ i := by exact_mod_cast Nat.two_pow_pos i
  have hpi : (2 : Int) ^ i ≤ 2 ^ 24 := by exact_mod_cast Nat.pow_le_pow_right (by decide) hi
  have h24 : (2 : Int) ^ 24 = 16777216 := by decide
  have h32 : (2 : Int) ^ 32 = 4294967296 := by decide
  have hm : l * 2 ^ i ≤ 255 * 2 ^ i := Int.mul_le_mul_of_nonneg_right hl1 (by omega)
  rw [or_comm64, bits_join .i64 32 (by decide) (fun n h0 h1 => wraps_i64 32 (by decide) n h0 h1) i (l * 2 ^ i) x (Int.mul_nonneg hl0 (by omega)) (Int.mul_emod_left _ _) (by omega) hx0 hx1 (by omega), Int.add_comm]
theorem rest_eq (n m : Int) (hm : 0 < m) : (n.tmod m < 0 → n.tmod m + m = n % m) ∧ (0 ≤ n.tmod m → n.tmod m = n % m) := by
  have h0 : n.tmod m % m = n % m := by rw [Int.tmod_def, Int.sub_mul_emod_self_left]
  have h1 := Int.lt_tmod_of_pos n hm
  have h2 := Int.tmod_lt_of_pos n hm
  constructor
  · intro h
    rw [← h0, ← Int.add_emod_right (n.tmod m) m]
    exact (Int.emod_eq_of_lt (by omega) (by omega)).symm
  · intro h
    rw [← h0]
    exact (Int.emod_eq_of_lt h h2).symm
end Go.Proofs.Ytkppignoomnmdaa
