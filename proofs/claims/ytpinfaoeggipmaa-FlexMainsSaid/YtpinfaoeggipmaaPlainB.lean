/- Plain arithmetic: margins that meet, shares. -/
import Derived.Test.YtpinfaoeggipmaaPlain
namespace Go.Proofs.Ytpinfaoeggipmaa
set_option linter.unusedVariables false
def meetHi (zs : List Int) : Int := zs.foldl (fun m n => max m (cut n)) 0
def meetLo (zs : List Int) : Int := zs.foldl (fun m n => min m (cut n)) 0
def meet (zs : List Int) : Int := cut (meetHi zs + meetLo zs)
theorem meetHi_snoc (l : List Int) (x : Int) : meetHi (l ++ [x]) = max (meetHi l) (cut x) := by simp [meetHi]
theorem meetLo_snoc (l : List Int) (x : Int) : meetLo (l ++ [x]) = min (meetLo l) (cut x) := by simp [meetLo]
theorem meetHi_bd (l : List Int) : 0 ≤ meetHi l ∧ meetHi l ≤ 16777216 := by
  have h : ∀ (l : List Int) (m : Int), 0 ≤ m → m ≤ 16777216 → 0 ≤ l.foldl (fun m n => max m (cut n)) m ∧ l.foldl (fun m n => max m (cut n)) m ≤ 16777216 := by
    intro l
    induction l with
    | nil => intro m h1 h2; exact ⟨h1, h2⟩
    | cons x l ih =>
      intro m h1 h2
      have := cut_hi x
      exact ih _ (by show _ ≤ _; simp only []; omega) (by simp only []; omega)
  exact h l 0 (by omega) (by omega)
theorem meetLo_bd (l : List Int) : -16777216 ≤ meetLo l ∧ meetLo l ≤ 0 := by
  have h : ∀ (l : List Int) (m : Int), -16777216 ≤ m → m ≤ 0 → -16777216 ≤ l.foldl (fun m n => min m (cut n)) m ∧ l.foldl (fun m n => min m (cut n)) m ≤ 0 := by
    intro l
    induction l with
    | nil => intro m h1 h2; exact ⟨h1, h2⟩
    | cons x l ih =>
      intro m h1 h2
      have := cut_lo x
      exact ih _ (by show _ ≤ _; simp only []; omega) (by simp only []; omega)
  exact h l 0 (by omega) (by omega)

/-- P301: a weight; the sum of the first k; the shares. -/
def wt (k : Nat) (w : Int) : Int := if 1000 ≤ k then 0 else max 0 (cut w)
def psum (ws : List Int) : Nat → Int
  | 0 => 0
  | k + 1 => psum ws k + wt k (ws.getD k 0)
theorem wt_bd (k : Nat) (w : Int) : 0 ≤ wt k w ∧ wt k w ≤ 16777216 := by
  unfold wt; have := cut_hi w; split <;> omega
theorem psum_bd (ws : List Int) (k : Nat) : 0 ≤ psum ws k ∧ psum ws k ≤ 16777216 * (min k 1000 : Nat) := by
  induction k with
  | zero => simp [psum]
  | succ k ih =>
    simp only [psum]
    have h1 := wt_bd k (ws.getD k 0)
    have h2 : 1000 ≤ k → wt k (ws.getD k 0) = 0 := fun h => by simp [wt, h]
    by_cases hk : 1000 ≤ k
    · rw [h2 hk]; omega
    · omega
theorem psum_hi (ws : List Int) (k : Nat) : psum ws k ≤ 16777216000 := by have := psum_bd ws k; omega
theorem psum_mono (ws : List Int) (j k : Nat) (h : j ≤ k) : psum ws j ≤ psum ws k := by
  induction k with
  | zero => have : j = 0 := by omega
            subst this; omega
  | succ k ih =>
    by_cases e : j = k + 1
    · subst e; omega
    · have := ih (by omega)
      have h1 := wt_bd k (ws.getD k 0)
      simp only [psum]; omega
theorem mul_psum (n s : Int) (h1 : -16777216 ≤ n) (h2 : n ≤ 16777216) (h3 : 0 ≤ s) (h4 : s ≤ 16777216000) : -281474976710656000 ≤ n * s ∧ n * s ≤ 281474976710656000 := by
  have h : (n * s).natAbs ≤ 16777216 * 16777216000 := by
    rw [Int.natAbs_mul]; exact Nat.mul_le_mul (by omega) (by omega)
  omega
theorem fdiv_bd (a d b : Int) (hd : 0 < d) (h1 : -b ≤ a) (h2 : a ≤ b) : -b ≤ a.fdiv d ∧ a.fdiv d ≤ b := by
  have hb : 0 ≤ b := by omega
  rw [Int.fdiv_eq_ediv_of_nonneg a (by omega : 0 ≤ d)]
  constructor
  · apply Int.le_ediv_of_mul_le hd
    have : b * 1 ≤ b * d := Int.mul_le_mul_of_nonneg_left (by omega) hb
    have e : -b * d = -(b * d) := Int.neg_mul ..
    rw [e]; omega
  · have : a / d ≤ a.natAbs := by
      by_cases ha : 0 ≤ a
      · have := Int.ediv_le_self d ha
        omega
      · have := Int.ediv_neg_of_neg_of_pos (by omega : a < 0) hd
        omega
    by_cases ha : 0 ≤ a
    · omega
    · have := Int.ediv_neg_of_neg_of_pos (by omega : a < 0) hd
      omega
/-- What is told of the shares up to k. -/
def upto (n : Int) (ws : List Int) (k : Nat) : Int := (cut n * psum ws k).fdiv (psum ws ws.length)
def shareAt (n : Int) (ws : List Int) (k : Nat) : Int := if psum ws ws.length = 0 then 0 else upto n ws (k + 1) - upto n ws k
def share (n : Int) (ws : List Int) : List Int := (List.range ws.length).map (shareAt n ws)
theorem upto_bd (n : Int) (ws : List Int) (k : Nat) (h : 0 < psum ws ws.length) : -281474976710656000 ≤ upto n ws k ∧ upto n ws k ≤ 281474976710656000 := by
  have := mul_psum (cut n) (psum ws k) (cut_lo n) (cut_hi n) (psum_bd ws k).1 (psum_hi ws k)
  exact fdiv_bd _ _ 281474976710656000 h this.1 this.2
theorem upto_zero (n : Int) (ws : List Int) : upto n ws 0 = 0 := by simp [upto, psum]
theorem share_length (n : Int) (ws : List Int) : (share n ws).length = ws.length := by simp [share]
end Go.Proofs.Ytpinfaoeggipmaa
