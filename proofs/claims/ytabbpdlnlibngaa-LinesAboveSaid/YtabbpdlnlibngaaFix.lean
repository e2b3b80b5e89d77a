/- Contracts of fix.Cut, floor, Part, Between and of the reference's Cut, down, Part, Between. -/
import Derived.Test.YtabbpdlnlibngaaRows
import Derived.Test.YtabbpdlnlibngaaPlain
import Derived.WalkKit
import Derived.WalkSpells
import Derived.WalkLawsBesides
import Derived.Lib.Hide
namespace Go.Proofs.Ytabbpdlnlibngaa
open Go.RowKit
set_option linter.unusedVariables false

theorem run_min2 (ts : Array TypeId) (t : TypeId) (x y : Int) (w : World) : (Builtin.min_ ts t #[.int .i64 x, .int .i64 y]).run Try.prog w = .ok (.int .i64 (min x y)) w := by
  rw [run_min_int2, min_eq]
theorem run_max2 (ts : Array TypeId) (t : TypeId) (x y : Int) (w : World) : (Builtin.max_ ts t #[.int .i64 x, .int .i64 y]).run Try.prog w = .ok (.int .i64 (max x y)) w := by
  rw [run_max_int2, max_eq]
attribute [local go_sem high] run_min2 run_max2

theorem ret_int {k : IntKind} {a b : Int} (h : a = b) : Ending.returned (.int k a) = .returned (.int k b) := by rw [h]

set_option maxHeartbeats 400000 in
theorem cut_calls (n : Int) (w : World) :
    Calls Try.prog 13 #[.int .i64 n] w fun e w' => e = .returned (.int .i64 (cut n)) ∧ w = w' := by
  go_enter Try.func13, Try.ntmps13
  go_wp2
  go_ret
  exact ⟨ret_int (by unfold cut; omega), rfl⟩
set_option maxHeartbeats 400000 in
theorem rcut_calls (n : Int) (w : World) :
    Calls Try.prog 22 #[.int .i64 n] w fun e w' => e = .returned (.int .i64 (cut n)) ∧ w = w' := by
  go_enter Try.func22, Try.ntmps22
  go_wp2
  all_goals (go_ret; exact ⟨ret_int (by unfold cut; omega), rfl⟩)

set_option maxHeartbeats 400000 in
theorem floor_calls (n d : Int) (w : World) (h1 : -4611686018427387904 ≤ n) (h2 : n ≤ 4611686018427387904) (h3 : d ≠ 0) (h4 : -4611686018427387904 ≤ d) (h5 : d ≤ 4611686018427387904) :
    Calls Try.prog 20 #[.int .i64 n, .int .i64 d] w fun e w' => e = .returned (.int .i64 (n.fdiv d)) ∧ w = w' := by
  have h6 : (d == 0) = false := by simpa using h3
  have h7 := tdiv_in n d h1 h2
  have h8 : wrap64 (n.tdiv d) = n.tdiv d := IntWalk.wrap64_in _ ⟨by omega, by omega⟩
  have h9 : wrap64 (n.tdiv d - 1) = n.tdiv d - 1 := IntWalk.wrap64_in _ ⟨by omega, by omega⟩
  have H8 := Lib.hid h8
  have H9 := Lib.hid h9
  clear h8 h9 h7
  go_enter Try.func20, Try.ntmps20
  go_wp2
  · have e : n.tmod d = 0 := by assumption
    go_ret
    exact ⟨ret_int (by rw [H8.out]; exact floor_exact n d e), rfl⟩
  · rename_i e1 e2
    go_ret
    refine ⟨ret_int ?_, rfl⟩
    rw [H8.out, H9.out]
    exact floor_down n d h3 e1 (by simp at e2; omega)
  · rename_i e1 e2
    go_ret
    refine ⟨ret_int ?_, rfl⟩
    rw [H8.out]
    exact floor_keep n d h3 (by simp [e1] at e2; omega)

set_option maxHeartbeats 400000 in
theorem rdown_calls (n d : Int) (w : World) (h1 : -4611686018427387904 ≤ n) (h2 : n ≤ 4611686018427387904) (h3 : 0 < d) (h5 : d ≤ 4611686018427387904) :
    Calls Try.prog 23 #[.int .i64 n, .int .i64 d] w fun e w' => e = .returned (.int .i64 (n.fdiv d)) ∧ w = w' := by
  have h6 : (d == 0) = false := by simp; omega
  have h7 := tdiv_in n d h1 h2
  have h8 : wrap64 (n.tdiv d) = n.tdiv d := IntWalk.wrap64_in _ ⟨by omega, by omega⟩
  have h9 : wrap64 (n.tdiv d - 1) = n.tdiv d - 1 := IntWalk.wrap64_in _ ⟨by omega, by omega⟩
  have H8 := Lib.hid h8
  have H9 := Lib.hid h9
  clear h8 h9 h7
  go_enter Try.func23, Try.ntmps23
  go_wp2
  · have e : n.tmod d < 0 := by assumption
    go_ret
    exact ⟨ret_int (by rw [H9.out]; exact rdown_down n d h3 e), rfl⟩
  · have e : 0 ≤ n.tmod d := by assumption
    go_ret
    exact ⟨ret_int (rdown_keep n d h3 e), rfl⟩

set_option maxHeartbeats 400000 in
theorem part_calls (n u d : Int) (w : World) :
    Calls Try.prog 10 #[.int .i64 n, .int .i64 u, .int .i64 d] w fun e w' => e = .returned (.int .i64 (part n u d)) ∧ w = w' := by
  have a1 := cut_lo n
  have a2 := cut_hi n
  have b1 := cut_lo u
  have b2 := cut_hi u
  have c1 := cut_lo d
  have c2 := cut_hi d
  have m := mul_cut (cut n) (cut u) a1 a2 b1 b2
  obtain ⟨p, hp⟩ : ∃ p, cut n * cut u = p := ⟨_, rfl⟩
  have hpart : part n u d = if cut d = 0 then 0 else cut (p.fdiv (cut d)) := by unfold part; rw [hp]
  have HP := Lib.hid hpart
  clear hpart
  have m1 : IntKind.i64.wrap (cut n * cut u) = p := by rw [hp]; exact IntWalk.i64_in _ (by omega)
  rw [hp] at m
  clear hp
  by_cases hd : cut d = 0
  · go_enter Try.func10, Try.ntmps10
    go_wp2_with (go_at_call 13; refine (cut_calls _ _).mono ?_; rintro e w' ⟨rfl, rfl⟩)
    go_ret
    exact ⟨ret_int (by rw [HP.out, if_pos hd]), rfl⟩
  · go_enter Try.func10, Try.ntmps10
    go_wp2_with (first | (go_at_call 13; refine (cut_calls _ _).mono ?_; rintro e w' ⟨rfl, rfl⟩) | (go_at_call 20; refine (floor_calls _ _ _ (by omega) (by omega) hd (by omega) (by omega)).mono ?_; rintro e w' ⟨rfl, rfl⟩))
    go_ret
    exact ⟨ret_int (by rw [HP.out, if_neg hd]), rfl⟩

set_option maxHeartbeats 400000 in
theorem rpart_calls (n u d : Int) (w : World) :
    Calls Try.prog 12 #[.int .i64 n, .int .i64 u, .int .i64 d] w fun e w' => e = .returned (.int .i64 (part n u d)) ∧ w = w' := by
  have a1 := cut_lo n
  have a2 := cut_hi n
  have b1 := cut_lo u
  have b2 := cut_hi u
  have c1 := cut_lo d
  have c2 := cut_hi d
  have m := mul_cut (cut n) (cut u) a1 a2 b1 b2
  have m' := mul_cut (cut n) (-cut u) a1 a2 (by omega) (by omega)
  obtain ⟨p, hp⟩ : ∃ p, cut n * cut u = p := ⟨_, rfl⟩
  have hn : cut n * -cut u = -p := by rw [← hp, Int.mul_neg]
  have hpart : part n u d = if cut d = 0 then 0 else cut (p.fdiv (cut d)) := by unfold part; rw [hp]
  have HP := Lib.hid hpart
  clear hpart
  have m1 : IntKind.i64.wrap (cut n * cut u) = p := by rw [hp]; exact IntWalk.i64_in _ (by omega)
  have m2 : IntKind.i64.wrap (cut n * -cut u) = -p := by rw [hn]; exact IntWalk.i64_in _ (by omega)
  rw [hp] at m
  rw [hn] at m'
  clear hp hn
  by_cases hd : cut d = 0
  · go_enter Try.func12, Try.ntmps12
    go_wp2_with (go_at_call 22; refine (rcut_calls _ _).mono ?_; rintro e w' ⟨rfl, rfl⟩)
    go_ret
    exact ⟨ret_int (by rw [HP.out, if_pos hd]), rfl⟩
  · by_cases hs : cut d < 0
    · go_enter Try.func12, Try.ntmps12
      go_wp2_with (first | (go_at_call 22; refine (rcut_calls _ _).mono ?_; rintro e w' ⟨rfl, rfl⟩) | (go_at_call 23; refine (rdown_calls _ _ _ (by omega) (by omega) (by omega) (by omega)).mono ?_; rintro e w' ⟨rfl, rfl⟩))
      go_ret
      exact ⟨ret_int (by rw [HP.out, if_neg hd]), rfl⟩
    · go_enter Try.func12, Try.ntmps12
      go_wp2_with (first | (go_at_call 22; refine (rcut_calls _ _).mono ?_; rintro e w' ⟨rfl, rfl⟩) | (go_at_call 23; refine (rdown_calls _ _ _ (by omega) (by omega) (by omega) (by omega)).mono ?_; rintro e w' ⟨rfl, rfl⟩))
      go_ret
      exact ⟨ret_int (by rw [HP.out, if_neg hd]), rfl⟩

end Go.Proofs.Ytabbpdlnlibngaa
