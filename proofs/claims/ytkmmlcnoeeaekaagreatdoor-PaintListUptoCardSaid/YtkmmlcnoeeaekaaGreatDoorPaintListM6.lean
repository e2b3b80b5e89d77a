/- Several texts in one: HitA, Plain, Fix, Of. -/
import Derived.Test.YtkmmlcnoeeaekaaGreatDoorPaintListM1
import Derived.Test.YtkmmlcnoeeaekaaGreatDoorRows
import Derived.WalkKit
import Derived.Lib.Hide
import Derived.IntWalk
import Derived.WalkSpells
import Derived.WalkLawsBesides
import Derived.Outline
/- Contracts: is a place within a rectangle? -/
namespace Go.Proofs.YtkmmlcnoeeaekaaGreatDoor
open Go.RowKit
set_option linter.unusedVariables false
set_option linter.unusedSimpArgs false

theorem retB2 {a b : Bool} (h : a = b) : Ending.returned (.bool a) = .returned (.bool b) := by rw [h]
/-- A rectangle: left, top, width, height. -/
structure RectV where
  x : Int
  y : Int
  w : Int
  h : Int
def rectC (r : RectV) : Array Value := #[.int .i64 r.x, .int .i64 r.y, .int .i64 r.w, .int .i64 r.h]
structure RectOk (r : RectV) : Prop where
  x0 : -1099511627776 ≤ r.x
  x1 : r.x ≤ 1099511627776
  y0 : -1099511627776 ≤ r.y
  y1 : r.y ≤ 1099511627776
  w0 : -1099511627776 ≤ r.w
  w1 : r.w ≤ 1099511627776
  h0 : -1099511627776 ≤ r.h
  h1 : r.h ≤ 1099511627776
def inR (r : RectV) (x y : Int) : Bool := decide (r.x ≤ x) && decide (x < r.x + r.w) && decide (r.y ≤ y) && decide (y < r.y + r.h)
theorem within_calls (r : RectV) (x y : Int) (hr : RectOk r) (w : World) :
    Calls Tryz.prog 41 #[.agg #[.int .i64 r.x, .int .i64 r.y, .int .i64 r.w, .int .i64 r.h], .int .i64 x, .int .i64 y] w fun e w' => e = .returned (.bool (inR r x y)) ∧ Below w.heap.size w w' := by
  obtain ⟨rx, ry, rW, rH⟩ := r
  obtain ⟨a0, a1, b0, b1, c0, c1, d0, d1⟩ := hr
  simp only at a0 a1 b0 b1 c0 c1 d0 d1
  have hw1 : wrap64 (rx + rW) = rx + rW := by unfold wrap64; omega
  have hw2 : wrap64 (ry + rH) = ry + rH := by unfold wrap64; omega
  have HB := Lib.hid (below_alloc (Below.refl w.heap.size w) (.cells #[.int .i64 rx, .int .i64 ry, .int .i64 rW, .int .i64 rH] 96))
  obtain ⟨q, hq⟩ : ∃ q, q = inR ⟨rx, ry, rW, rH⟩ x y := ⟨_, rfl⟩
  rw [← hq]
  unfold inR at hq
  have HQ := Lib.hid hq
  clear hq a0 a1 b0 b1 c0 c1 d0 d1
  by_cases g0 : rx ≤ x
  · have q0 : decide (rx ≤ x) = true := decide_eq_true g0
    by_cases g1 : x < rx + rW
    · have q1 : decide (x < rx + rW) = true := decide_eq_true g1
      by_cases g2 : ry ≤ y
      · have q2 : decide (ry ≤ y) = true := decide_eq_true g2
        by_cases g3 : y < ry + rH
        · have q3 : decide (y < ry + rH) = true := decide_eq_true g3
          go_enter Tryz.func41, Tryz.ntmps41
          go_wp2_with fail
          go_ret
          exact ⟨retB2 (by rw [HQ.out]; simp only [q0, q1, q2, q3]; rfl), HB.out⟩
        · have q3 : decide (y < ry + rH) = false := decide_eq_false g3
          go_enter Tryz.func41, Tryz.ntmps41
          go_wp2_with fail
          go_ret
          exact ⟨retB2 (by rw [HQ.out]; simp only [q3, Bool.and_false, Bool.false_and]), HB.out⟩
      · have q2 : decide (ry ≤ y) = false := decide_eq_false g2
        go_enter Tryz.func41, Tryz.ntmps41
        go_wp2_with fail
        go_ret
        exact ⟨retB2 (by rw [HQ.out]; simp only [q2, Bool.and_false, Bool.false_and]), HB.out⟩
    · have q1 : decide (x < rx + rW) = false := decide_eq_false g1
      go_enter Tryz.func41, Tryz.ntmps41
      go_wp2_with fail
      go_ret
      exact ⟨retB2 (by rw [HQ.out]; simp only [q1, Bool.and_false, Bool.false_and]), HB.out⟩
  · have q0 : decide (rx ≤ x) = false := decide_eq_false g0
    go_enter Tryz.func41, Tryz.ntmps41
    go_wp2_with fail
    go_ret
    exact ⟨retB2 (by rw [HQ.out]; simp only [q0, Bool.and_false, Bool.false_and]), HB.out⟩
theorem holds_calls (r : RectV) (x y : Int) (hr : RectOk r) (w : World) (en : Int) :
    Calls Tryz.prog 42 #[.agg #[.int .i64 r.x, .int .i64 r.y, .int .i64 r.w, .int .i64 r.h, .int .i64 en], .int .i64 x, .int .i64 y] w fun e w' => e = .returned (.bool (inR r x y)) ∧ Below w.heap.size w w' := by
  obtain ⟨rx, ry, rW, rH⟩ := r
  obtain ⟨a0, a1, b0, b1, c0, c1, d0, d1⟩ := hr
  simp only at a0 a1 b0 b1 c0 c1 d0 d1
  have hw1 : wrap64 (rx + rW) = rx + rW := by unfold wrap64; omega
  have hw2 : wrap64 (ry + rH) = ry + rH := by unfold wrap64; omega
  have HB := Lib.hid (below_alloc (Below.refl w.heap.size w) (.cells #[.int .i64 rx, .int .i64 ry, .int .i64 rW, .int .i64 rH, .int .i64 en] 98))
  obtain ⟨q, hq⟩ : ∃ q, q = inR ⟨rx, ry, rW, rH⟩ x y := ⟨_, rfl⟩
  rw [← hq]
  unfold inR at hq
  have HQ := Lib.hid hq
  clear hq a0 a1 b0 b1 c0 c1 d0 d1
  by_cases g0 : rx ≤ x
  · have q0 : decide (rx ≤ x) = true := decide_eq_true g0
    by_cases g1 : x < rx + rW
    · have q1 : decide (x < rx + rW) = true := decide_eq_true g1
      by_cases g2 : ry ≤ y
      · have q2 : decide (ry ≤ y) = true := decide_eq_true g2
        by_cases g3 : y < ry + rH
        · have q3 : decide (y < ry + rH) = true := decide_eq_true g3
          go_enter Tryz.func42, Tryz.ntmps42
          go_wp2_with fail
          go_ret
          exact ⟨retB2 (by rw [HQ.out]; simp only [q0, q1, q2, q3]; rfl), HB.out⟩
        · have q3 : decide (y < ry + rH) = false := decide_eq_false g3
          go_enter Tryz.func42, Tryz.ntmps42
          go_wp2_with fail
          go_ret
          exact ⟨retB2 (by rw [HQ.out]; simp only [q3, Bool.and_false, Bool.false_and]), HB.out⟩
      · have q2 : decide (ry ≤ y) = false := decide_eq_false g2
        go_enter Tryz.func42, Tryz.ntmps42
        go_wp2_with fail
        go_ret
        exact ⟨retB2 (by rw [HQ.out]; simp only [q2, Bool.and_false, Bool.false_and]), HB.out⟩
    · have q1 : decide (x < rx + rW) = false := decide_eq_false g1
      go_enter Tryz.func42, Tryz.ntmps42
      go_wp2_with fail
      go_ret
      exact ⟨retB2 (by rw [HQ.out]; simp only [q1, Bool.and_false, Bool.false_and]), HB.out⟩
  · have q0 : decide (rx ≤ x) = false := decide_eq_false g0
    go_enter Tryz.func42, Tryz.ntmps42
    go_wp2_with fail
    go_ret
    exact ⟨retB2 (by rw [HQ.out]; simp only [q0, Bool.and_false, Bool.false_and]), HB.out⟩
theorem rin_calls (r : RectV) (x y : Int) (hr : RectOk r) (w : World) :
    Calls Tryz.prog 49 #[.agg #[.int .i64 r.x, .int .i64 r.y, .int .i64 r.w, .int .i64 r.h], .int .i64 x, .int .i64 y] w fun e w' => e = .returned (.bool (inR r x y)) ∧ Below w.heap.size w w' := by
  obtain ⟨rx, ry, rW, rH⟩ := r
  obtain ⟨a0, a1, b0, b1, c0, c1, d0, d1⟩ := hr
  simp only at a0 a1 b0 b1 c0 c1 d0 d1
  have hw1 : wrap64 (rx + rW) = rx + rW := by unfold wrap64; omega
  have hw2 : wrap64 (ry + rH) = ry + rH := by unfold wrap64; omega
  have HB := Lib.hid (below_alloc (Below.refl w.heap.size w) (.cells #[.int .i64 rx, .int .i64 ry, .int .i64 rW, .int .i64 rH] 96))
  obtain ⟨q, hq⟩ : ∃ q, q = inR ⟨rx, ry, rW, rH⟩ x y := ⟨_, rfl⟩
  rw [← hq]
  unfold inR at hq
  have HQ := Lib.hid hq
  clear hq a0 a1 b0 b1 c0 c1 d0 d1
  by_cases g0 : rx ≤ x
  · have q0 : decide (rx ≤ x) = true := decide_eq_true g0
    by_cases g1 : ry ≤ y
    · have q1 : decide (ry ≤ y) = true := decide_eq_true g1
      by_cases g2 : x < rx + rW
      · have q2 : decide (x < rx + rW) = true := decide_eq_true g2
        by_cases g3 : y < ry + rH
        · have q3 : decide (y < ry + rH) = true := decide_eq_true g3
          go_enter Tryz.func49, Tryz.ntmps49
          go_wp2_with fail
          go_ret
          exact ⟨retB2 (by rw [HQ.out]; simp only [q0, q1, q2, q3]; rfl), HB.out⟩
        · have q3 : decide (y < ry + rH) = false := decide_eq_false g3
          go_enter Tryz.func49, Tryz.ntmps49
          go_wp2_with fail
          go_ret
          exact ⟨retB2 (by rw [HQ.out]; simp only [q3, Bool.and_false, Bool.false_and]), HB.out⟩
      · have q2 : decide (x < rx + rW) = false := decide_eq_false g2
        go_enter Tryz.func49, Tryz.ntmps49
        go_wp2_with fail
        go_ret
        exact ⟨retB2 (by rw [HQ.out]; simp only [q2, Bool.and_false, Bool.false_and]), HB.out⟩
    · have q1 : decide (ry ≤ y) = false := decide_eq_false g1
      go_enter Tryz.func49, Tryz.ntmps49
      go_wp2_with fail
      go_ret
      exact ⟨retB2 (by rw [HQ.out]; simp only [q1, Bool.and_false, Bool.false_and]), HB.out⟩
  · have q0 : decide (rx ≤ x) = false := decide_eq_false g0
    go_enter Tryz.func49, Tryz.ntmps49
    go_wp2_with fail
    go_ret
    exact ⟨retB2 (by rw [HQ.out]; simp only [q0, Bool.and_false, Bool.false_and]), HB.out⟩
end Go.Proofs.YtkmmlcnoeeaekaaGreatDoor
/- Plain arithmetic: floor division, cut, part, between. -/
namespace Go.Proofs.YtkmmlcnoeeaekaaGreatDoor
def cut (n : Int) : Int := max (min n 16777216) (-16777216)
theorem cut_lo (n : Int) : -16777216 ≤ cut n := by unfold cut; omega
theorem cut_hi (n : Int) : cut n ≤ 16777216 := by unfold cut; omega
theorem cut_id (n : Int) (h1 : -16777216 ≤ n) (h2 : n ≤ 16777216) : cut n = n := by unfold cut; omega
theorem min_eq (x y : Int) : (if y < x then y else x) = min x y := by split <;> omega
theorem max_eq (x y : Int) : (if x < y then y else x) = max x y := by split <;> omega

theorem tdiv_natAbs (n d : Int) : (n.tdiv d).natAbs ≤ n.natAbs := by
  rw [Int.natAbs_tdiv]; exact Nat.div_le_self _ _
theorem tdiv_in (n d : Int) (h1 : -4611686018427387904 ≤ n) (h2 : n ≤ 4611686018427387904) : -4611686018427387904 ≤ n.tdiv d ∧ n.tdiv d ≤ 4611686018427387904 := by
  have := tdiv_natAbs n d; omega
theorem sign_pos (d : Int) (h : 0 < d) : d.sign = 1 := Int.sign_eq_one_of_pos h
theorem sign_neg (d : Int) (h : d < 0) : d.sign = -1 := Int.sign_eq_neg_one_of_neg h
theorem floor_exact (n d : Int) (h : n.tmod d = 0) : n.tdiv d = n.fdiv d := by
  rw [Int.fdiv_eq_tdiv, if_pos (Int.dvd_of_tmod_eq_zero h)]; omega
theorem floor_keep (n d : Int) (_h3 : d ≠ 0) (hs : (n < 0 ↔ d < 0)) : n.tdiv d = n.fdiv d := by
  rw [Int.fdiv_eq_tdiv]
  by_cases hdvd : d ∣ n
  · rw [if_pos hdvd]; omega
  · rw [if_neg hdvd]
    by_cases hd : d < 0
    · have := sign_neg d hd
      rw [if_neg (by omega), if_neg (by omega)]; omega
    · rw [if_pos (by omega), if_pos (by omega)]; omega
theorem floor_down (n d : Int) (h3 : d ≠ 0) (h : n.tmod d ≠ 0) (hs : ¬ (n < 0 ↔ d < 0)) : n.tdiv d - 1 = n.fdiv d := by
  have hdvd : ¬ d ∣ n := fun hd => h (Int.tmod_eq_zero_of_dvd hd)
  rw [Int.fdiv_eq_tdiv, if_neg hdvd]
  by_cases hd : d < 0
  · have := sign_neg d hd
    rw [if_pos (by omega), if_neg (by omega)]
  · have := sign_pos d (by omega)
    rw [if_neg (by omega), if_pos (by omega)]; omega
theorem tmod_neg_iff (n d : Int) (_hd : 0 < d) : n.tmod d < 0 ↔ (n < 0 ∧ n.tmod d ≠ 0) := by
  constructor
  · intro h
    refine ⟨?_, by omega⟩
    by_cases hn : n < 0
    · exact hn
    · have := Int.tmod_nonneg d (show 0 ≤ n by omega); omega
  · rintro ⟨h1, h2⟩
    have : n.tmod d ≤ 0 := by
      have e := Int.neg_tmod (-n) d
      rw [Int.neg_neg] at e
      have := Int.tmod_nonneg d (show 0 ≤ -n by omega)
      omega
    omega
theorem rdown_down (n d : Int) (hd : 0 < d) (h : n.tmod d < 0) : n.tdiv d - 1 = n.fdiv d := by
  have h' := (tmod_neg_iff n d hd).1 h
  exact floor_down n d (by omega) h'.2 (by omega)
theorem rdown_keep (n d : Int) (hd : 0 < d) (h : 0 ≤ n.tmod d) : n.tdiv d = n.fdiv d := by
  have h' := tmod_neg_iff n d hd
  by_cases e : n.tmod d = 0
  · exact floor_exact n d e
  · have : ¬ n < 0 := fun hn => by have := h'.2 ⟨hn, e⟩; omega
    exact floor_keep n d (by omega) (by omega)

/-- P300: a part of a number. -/
def part (n up down : Int) : Int := if cut down = 0 then 0 else cut ((cut n * cut up).fdiv (cut down))
theorem mul_cut (a b : Int) (h1 : -16777216 ≤ a) (h2 : a ≤ 16777216) (h3 : -16777216 ≤ b) (h4 : b ≤ 16777216) : -281474976710656 ≤ a * b ∧ a * b ≤ 281474976710656 := by
  have h : (a * b).natAbs ≤ 16777216 * 16777216 := by
    rw [Int.natAbs_mul]; exact Nat.mul_le_mul (by omega) (by omega)
  omega
theorem part_lo (n u d : Int) : -16777216 ≤ part n u d := by unfold part; split; omega; exact cut_lo _
theorem part_hi (n u d : Int) : part n u d ≤ 16777216 := by unfold part; split; omega; exact cut_hi _
theorem fdiv_neg_neg (a d : Int) : (-a).fdiv (-d) = a.fdiv d := Int.neg_fdiv_neg ..
/-- P300: between two bounds. -/
def between (n least most : Int) : Int := max (if 0 ≤ most then min (cut n) (cut most) else cut n) (cut least)
theorem between_lo (n l m : Int) : -16777216 ≤ between n l m := by unfold between; have := cut_lo l; omega
theorem between_hi (n l m : Int) : between n l m ≤ 16777216 := by unfold between; have := cut_hi l; have := cut_hi n; split <;> omega
end Go.Proofs.YtkmmlcnoeeaekaaGreatDoor
/- Contracts of fix.Cut, floor, Part, Between and of the reference's Cut, down, Part, Between. -/
namespace Go.Proofs.YtkmmlcnoeeaekaaGreatDoor
open Go.RowKit
set_option linter.unusedVariables false

theorem run_min2 (ts : Array TypeId) (t : TypeId) (x y : Int) (w : World) : (Builtin.min_ ts t #[.int .i64 x, .int .i64 y]).run Tryz.prog w = .ok (.int .i64 (min x y)) w := by
  rw [run_min_int2, min_eq]
theorem run_max2 (ts : Array TypeId) (t : TypeId) (x y : Int) (w : World) : (Builtin.max_ ts t #[.int .i64 x, .int .i64 y]).run Tryz.prog w = .ok (.int .i64 (max x y)) w := by
  rw [run_max_int2, max_eq]
attribute [local go_sem high] run_min2 run_max2

theorem ret_int {k : IntKind} {a b : Int} (h : a = b) : Ending.returned (.int k a) = .returned (.int k b) := by rw [h]

set_option maxHeartbeats 400000 in
theorem cut_calls (n : Int) (w : World) :
    Calls Tryz.prog 40 #[.int .i64 n] w fun e w' => e = .returned (.int .i64 (cut n)) ∧ w = w' := by
  go_enter Tryz.func40, Tryz.ntmps40
  go_wp2
  go_ret
  exact ⟨ret_int (by unfold cut; omega), rfl⟩
set_option maxHeartbeats 400000 in
theorem rcut_calls (n : Int) (w : World) :
    Calls Tryz.prog 38 #[.int .i64 n] w fun e w' => e = .returned (.int .i64 (cut n)) ∧ w = w' := by
  go_enter Tryz.func38, Tryz.ntmps38
  go_wp2
  all_goals (go_ret; exact ⟨ret_int (by unfold cut; omega), rfl⟩)

set_option maxHeartbeats 400000 in
theorem floor_calls (n d : Int) (w : World) (h1 : -4611686018427387904 ≤ n) (h2 : n ≤ 4611686018427387904) (h3 : d ≠ 0) (h4 : -4611686018427387904 ≤ d) (h5 : d ≤ 4611686018427387904) :
    Calls Tryz.prog 170 #[.int .i64 n, .int .i64 d] w fun e w' => e = .returned (.int .i64 (n.fdiv d)) ∧ w = w' := by
  have h6 : (d == 0) = false := by simpa using h3
  have h7 := tdiv_in n d h1 h2
  have h8 : wrap64 (n.tdiv d) = n.tdiv d := IntWalk.wrap64_in _ ⟨by omega, by omega⟩
  have h9 : wrap64 (n.tdiv d - 1) = n.tdiv d - 1 := IntWalk.wrap64_in _ ⟨by omega, by omega⟩
  have H8 := Lib.hid h8
  have H9 := Lib.hid h9
  clear h8 h9 h7
  go_enter Tryz.func170, Tryz.ntmps170
  go_wp2
  · have e : n.tmod d = 0 := by assumption
    go_ret
    exact ⟨ret_int (by rw [H8.out]; exact floor_exact n d e), rfl⟩
  · rename_i e1 e2
    go_ret
    refine ⟨ret_int ?_, rfl⟩
    rw [H8.out, H9.out]
    exact floor_down n d h3 e1 (by simp at e2; omega)
  · rename_i e1 e2
    go_ret
    refine ⟨ret_int ?_, rfl⟩
    rw [H8.out]
    exact floor_keep n d h3 (by simp [e1] at e2; omega)

set_option maxHeartbeats 400000 in
theorem rdown_calls (n d : Int) (w : World) (h1 : -4611686018427387904 ≤ n) (h2 : n ≤ 4611686018427387904) (h3 : 0 < d) (h5 : d ≤ 4611686018427387904) :
    Calls Tryz.prog 171 #[.int .i64 n, .int .i64 d] w fun e w' => e = .returned (.int .i64 (n.fdiv d)) ∧ w = w' := by
  have h6 : (d == 0) = false := by simp; omega
  have h7 := tdiv_in n d h1 h2
  have h8 : wrap64 (n.tdiv d) = n.tdiv d := IntWalk.wrap64_in _ ⟨by omega, by omega⟩
  have h9 : wrap64 (n.tdiv d - 1) = n.tdiv d - 1 := IntWalk.wrap64_in _ ⟨by omega, by omega⟩
  have H8 := Lib.hid h8
  have H9 := Lib.hid h9
  clear h8 h9 h7
  go_enter Tryz.func171, Tryz.ntmps171
  go_wp2
  · have e : n.tmod d < 0 := by assumption
    go_ret
    exact ⟨ret_int (by rw [H9.out]; exact rdown_down n d h3 e), rfl⟩
  · have e : 0 ≤ n.tmod d := by assumption
    go_ret
    exact ⟨ret_int (rdown_keep n d h3 e), rfl⟩

set_option maxHeartbeats 400000 in
theorem part_calls (n u d : Int) (w : World) :
    Calls Tryz.prog 137 #[.int .i64 n, .int .i64 u, .int .i64 d] w fun e w' => e = .returned (.int .i64 (part n u d)) ∧ w = w' := by
  have a1 := cut_lo n
  have a2 := cut_hi n
  have b1 := cut_lo u
  have b2 := cut_hi u
  have c1 := cut_lo d
  have c2 := cut_hi d
  have m := mul_cut (cut n) (cut u) a1 a2 b1 b2
  obtain ⟨p, hp⟩ : ∃ p, cut n * cut u = p := ⟨_, rfl⟩
  have hpart : part n u d = if cut d = 0 then 0 else cut (p.fdiv (cut d)) := by unfold part; rw [hp]
  have HP := Lib.hid hpart
  clear hpart
  have m1 : IntKind.i64.wrap (cut n * cut u) = p := by rw [hp]; exact IntWalk.i64_in _ (by omega)
  rw [hp] at m
  clear hp
  by_cases hd : cut d = 0
  · go_enter Tryz.func137, Tryz.ntmps137
    go_wp2_with (go_at_call 40; refine (cut_calls _ _).mono ?_; rintro e w' ⟨rfl, rfl⟩)
    go_ret
    exact ⟨ret_int (by rw [HP.out, if_pos hd]), rfl⟩
  · go_enter Tryz.func137, Tryz.ntmps137
    go_wp2_with (first | (go_at_call 40; refine (cut_calls _ _).mono ?_; rintro e w' ⟨rfl, rfl⟩) | (go_at_call 170; refine (floor_calls _ _ _ (by omega) (by omega) hd (by omega) (by omega)).mono ?_; rintro e w' ⟨rfl, rfl⟩))
    go_ret
    exact ⟨ret_int (by rw [HP.out, if_neg hd]), rfl⟩

set_option maxHeartbeats 400000 in
theorem rpart_calls (n u d : Int) (w : World) :
    Calls Tryz.prog 143 #[.int .i64 n, .int .i64 u, .int .i64 d] w fun e w' => e = .returned (.int .i64 (part n u d)) ∧ w = w' := by
  have a1 := cut_lo n
  have a2 := cut_hi n
  have b1 := cut_lo u
  have b2 := cut_hi u
  have c1 := cut_lo d
  have c2 := cut_hi d
  have m := mul_cut (cut n) (cut u) a1 a2 b1 b2
  have m' := mul_cut (cut n) (-cut u) a1 a2 (by omega) (by omega)
  obtain ⟨p, hp⟩ : ∃ p, cut n * cut u = p := ⟨_, rfl⟩
  have hn : cut n * -cut u = -p := by rw [← hp, Int.mul_neg]
  have hpart : part n u d = if cut d = 0 then 0 else cut (p.fdiv (cut d)) := by unfold part; rw [hp]
  have HP := Lib.hid hpart
  clear hpart
  have m1 : IntKind.i64.wrap (cut n * cut u) = p := by rw [hp]; exact IntWalk.i64_in _ (by omega)
  have m2 : IntKind.i64.wrap (cut n * -cut u) = -p := by rw [hn]; exact IntWalk.i64_in _ (by omega)
  rw [hp] at m
  rw [hn] at m'
  clear hp hn
  by_cases hd : cut d = 0
  · go_enter Tryz.func143, Tryz.ntmps143
    go_wp2_with (go_at_call 38; refine (rcut_calls _ _).mono ?_; rintro e w' ⟨rfl, rfl⟩)
    go_ret
    exact ⟨ret_int (by rw [HP.out, if_pos hd]), rfl⟩
  · by_cases hs : cut d < 0
    · go_enter Tryz.func143, Tryz.ntmps143
      go_wp2_with (first | (go_at_call 38; refine (rcut_calls _ _).mono ?_; rintro e w' ⟨rfl, rfl⟩) | (go_at_call 171; refine (rdown_calls _ _ _ (by omega) (by omega) (by omega) (by omega)).mono ?_; rintro e w' ⟨rfl, rfl⟩))
      go_ret
      exact ⟨ret_int (by rw [HP.out, if_neg hd]), rfl⟩
    · go_enter Tryz.func143, Tryz.ntmps143
      go_wp2_with (first | (go_at_call 38; refine (rcut_calls _ _).mono ?_; rintro e w' ⟨rfl, rfl⟩) | (go_at_call 171; refine (rdown_calls _ _ _ (by omega) (by omega) (by omega) (by omega)).mono ?_; rintro e w' ⟨rfl, rfl⟩))
      go_ret
      exact ⟨ret_int (by rw [HP.out, if_neg hd]), rfl⟩

end Go.Proofs.YtkmmlcnoeeaekaaGreatDoor
/- Contracts of fix.Of and of the reference's Of; the walk of FixOfs. -/
namespace Go.Proofs.YtkmmlcnoeeaekaaGreatDoor
open Go.RowKit
set_option linter.unusedVariables false

/-- P302: a length of a value: kind, number, what it is a part of. -/
def ofN (k n base : Int) : Int := if k = 2 then cut n else if k = 3 then part base n 10000 else 0
def ofIs (k : Int) : Bool := decide (k = 2) || decide (k = 3)
theorem ofN_bd (k n base : Int) : -16777216 ≤ ofN k n base ∧ ofN k n base ≤ 16777216 := by
  unfold ofN
  have h1 := cut_lo n
  have h2 := cut_hi n
  have h3 := part_lo base n 10000
  have h4 := part_hi base n 10000
  split <;> (try split) <;> omega

theorem ret_of {a b : Int} {c d : Bool} (h : a = b) (h' : c = d) : Ending.returned (.tuple #[.int .i64 a, .bool c]) = .returned (.tuple #[.int .i64 b, .bool d]) := by rw [h, h']
set_option maxHeartbeats 400000 in
theorem of_calls (k n base : Int) (w : World) :
    Calls Tryz.prog 81 #[.agg #[.int .i64 k, .int .i64 n], .int .i64 base] w fun e w' => e = .returned (.tuple #[.int .i64 (ofN k n base), .bool (ofIs k)]) ∧ w.alloc (.cells #[.int .i64 k, .int .i64 n] 33) = w' := by
  by_cases h2 : k = 2
  · subst h2
    go_enter Tryz.func81, Tryz.ntmps81
    go_wp2_with (first | (go_at_call 40; refine (cut_calls _ _).mono ?_; rintro e w' ⟨rfl, rfl⟩) | (go_at_call 137; refine (part_calls _ _ _ _).mono ?_; rintro e w' ⟨rfl, rfl⟩))
    go_ret2
    exact ⟨rfl, rfl⟩
  · by_cases h3 : k = 3
    · subst h3
      go_enter Tryz.func81, Tryz.ntmps81
      go_wp2_with (first | (go_at_call 40; refine (cut_calls _ _).mono ?_; rintro e w' ⟨rfl, rfl⟩) | (go_at_call 137; refine (part_calls _ _ _ _).mono ?_; rintro e w' ⟨rfl, rfl⟩))
      go_ret2
      exact ⟨rfl, rfl⟩
    · have e2 : (k == 2) = false := by simpa using h2
      have e3 : (k == 3) = false := by simpa using h3
      go_enter Tryz.func81, Tryz.ntmps81
      go_wp2_with (first | (go_at_call 40; refine (cut_calls _ _).mono ?_; rintro e w' ⟨rfl, rfl⟩) | (go_at_call 137; refine (part_calls _ _ _ _).mono ?_; rintro e w' ⟨rfl, rfl⟩))
      go_ret2
      exact ⟨ret_of (by unfold ofN; rw [if_neg h2, if_neg h3]) (by unfold ofIs; simp [h2, h3]), rfl⟩
set_option maxHeartbeats 400000 in
theorem rof_calls (k n base : Int) (w : World) :
    Calls Tryz.prog 92 #[.agg #[.int .i64 k, .int .i64 n], .int .i64 base] w fun e w' => e = .returned (.tuple #[.int .i64 (ofN k n base), .bool (ofIs k)]) ∧ w.alloc (.cells #[.int .i64 k, .int .i64 n] 33) = w' := by
  by_cases h2 : k = 2
  · subst h2
    go_enter Tryz.func92, Tryz.ntmps92
    go_wp2_with (first | (go_at_call 38; refine (rcut_calls _ _).mono ?_; rintro e w' ⟨rfl, rfl⟩) | (go_at_call 143; refine (rpart_calls _ _ _ _).mono ?_; rintro e w' ⟨rfl, rfl⟩))
    go_ret2
    exact ⟨rfl, rfl⟩
  · by_cases h3 : k = 3
    · subst h3
      go_enter Tryz.func92, Tryz.ntmps92
      go_wp2_with (first | (go_at_call 38; refine (rcut_calls _ _).mono ?_; rintro e w' ⟨rfl, rfl⟩) | (go_at_call 143; refine (rpart_calls _ _ _ _).mono ?_; rintro e w' ⟨rfl, rfl⟩))
      go_ret2
      exact ⟨rfl, rfl⟩
    · have e2 : (k == 2) = false := by simpa using h2
      have e3 : (k == 3) = false := by simpa using h3
      go_enter Tryz.func92, Tryz.ntmps92
      go_wp2_with (first | (go_at_call 38; refine (rcut_calls _ _).mono ?_; rintro e w' ⟨rfl, rfl⟩) | (go_at_call 143; refine (rpart_calls _ _ _ _).mono ?_; rintro e w' ⟨rfl, rfl⟩))
      go_ret2
      exact ⟨ret_of (by unfold ofN; rw [if_neg h2, if_neg h3]) (by unfold ofIs; simp [h2, h3]), rfl⟩
end Go.Proofs.YtkmmlcnoeeaekaaGreatDoor
