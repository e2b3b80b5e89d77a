/- Several texts in one: DomD. -/
import Derived.Test.YtkmmlcnoeeaekaaGreatDoorHitAllM14
/- Contracts of dom: a node by itself. -/
namespace Go.Proofs.YtkmmlcnoeeaekaaGreatDoor
open Go.RowKit
set_option linter.unusedVariables false
set_option linter.unusedSimpArgs false

theorem parent_calls (k : Int) (w : World) : Calls Tryz.prog 145 #[.int .i64 k] w fun e w' => e = .returned (.bool ((k == 1) || (k == 2))) ∧ w = w' := by
  cases h : (k == 1)
  · go_enter Tryz.func145, Tryz.ntmps145
    go_wp2_with fail
    go_ret
    exact ⟨rfl, rfl⟩
  · go_enter Tryz.func145, Tryz.ntmps145
    go_wp2_with fail
    go_ret
    exact ⟨rfl, rfl⟩
/-- A node has nothing that its kind has not: by kind, and by whether name, attributes, text, kids are empty. -/
def bareQ (k : Int) (a b c d : Bool) : Bool := ((k == 2) || (k == 5) || a) && ((k == 2) || b) && ((k == 3) || (k == 4) || c) && ((k == 1) || (k == 2) || d)
set_option maxRecDepth 100000 in
set_option maxHeartbeats 8000000 in
theorem bare_calls (k : Int) (name text : ByteArray) (aA kA : Option Addr) (an ac kn kc : Nat) (par : Int) (h1 : 1 ≤ k) (h2 : k ≤ 5) (w : World) :
    Calls Tryz.prog 96 #[.agg #[.int .i64 k, .string name, .slice aA an ac, .string text, .int .i64 par, .slice kA kn kc]] w fun e w' => e = .returned (.bool (bareQ k name.toList.isEmpty ((an : Int) == 0) text.toList.isEmpty ((kn : Int) == 0))) ∧ Below w.heap.size w w' := by
  have hb := below_alloc (Below.refl w.heap.size w) (.cells #[.int .i64 k, .string name, .slice aA an ac, .string text, .int .i64 par, .slice kA kn kc] 117)
  have hb := below_drewN hb 1
  have hk : k = 1 ∨ k = 2 ∨ k = 3 ∨ k = 4 ∨ k = 5 := by omega
  clear h1 h2
  rcases hk with rfl | rfl | rfl | rfl | rfl
  · skip
    cases hN : name.toList.isEmpty
    · skip
      go_enter Tryz.func96, Tryz.ntmps96
      go_upto_region 1 with fail
      go_quiet (fail)
      go_wp2_with (first | (go_at_call 145; refine (parent_calls _ _).mono ?_; rintro e w' ⟨rfl, rfl⟩))
      go_ret
      exact ⟨retB (by first | rfl | decide | simp [bareQ]), below_drewN (below_alloc (Below.refl w.heap.size w) _) _⟩
    · skip
      cases hA : ((an : Int) == 0)
      · skip
        go_enter Tryz.func96, Tryz.ntmps96
        go_upto_region 1 with fail
        go_quiet (fail)
        go_wp2_with (first | (go_at_call 145; refine (parent_calls _ _).mono ?_; rintro e w' ⟨rfl, rfl⟩))
        go_ret
        exact ⟨retB (by first | rfl | decide | simp [bareQ]), below_drewN (below_alloc (Below.refl w.heap.size w) _) _⟩
      · skip
        cases hT : text.toList.isEmpty
        · skip
          go_enter Tryz.func96, Tryz.ntmps96
          go_upto_region 1 with fail
          go_quiet (fail)
          go_wp2_with (first | (go_at_call 145; refine (parent_calls _ _).mono ?_; rintro e w' ⟨rfl, rfl⟩))
          go_ret
          exact ⟨retB (by first | rfl | decide | simp [bareQ]), below_drewN (below_alloc (Below.refl w.heap.size w) _) _⟩
        · skip
          go_enter Tryz.func96, Tryz.ntmps96
          go_upto_region 1 with fail
          go_quiet (fail)
          go_wp2_with (first | (go_at_call 145; refine (parent_calls _ _).mono ?_; rintro e w' ⟨rfl, rfl⟩))
          go_ret
          exact ⟨retB (by first | rfl | decide | simp [bareQ]), below_drewN (below_alloc (Below.refl w.heap.size w) _) _⟩
  · skip
    cases hT : text.toList.isEmpty
    · skip
      go_enter Tryz.func96, Tryz.ntmps96
      go_upto_region 1 with fail
      go_quiet (fail)
      go_wp2_with (first | (go_at_call 145; refine (parent_calls _ _).mono ?_; rintro e w' ⟨rfl, rfl⟩))
      go_ret
      exact ⟨retB (by first | rfl | decide | simp [bareQ]), below_drewN (below_alloc (Below.refl w.heap.size w) _) _⟩
    · skip
      go_enter Tryz.func96, Tryz.ntmps96
      go_upto_region 1 with fail
      go_quiet (fail)
      go_wp2_with (first | (go_at_call 145; refine (parent_calls _ _).mono ?_; rintro e w' ⟨rfl, rfl⟩))
      go_ret
      exact ⟨retB (by first | rfl | decide | simp [bareQ]), below_drewN (below_alloc (Below.refl w.heap.size w) _) _⟩
  · skip
    cases hN : name.toList.isEmpty
    · skip
      go_enter Tryz.func96, Tryz.ntmps96
      go_upto_region 1 with fail
      go_quiet (fail)
      go_wp2_with (first | (go_at_call 145; refine (parent_calls _ _).mono ?_; rintro e w' ⟨rfl, rfl⟩))
      go_ret
      exact ⟨retB (by first | rfl | decide | simp [bareQ]), below_drewN (below_alloc (Below.refl w.heap.size w) _) _⟩
    · skip
      cases hA : ((an : Int) == 0)
      · skip
        go_enter Tryz.func96, Tryz.ntmps96
        go_upto_region 1 with fail
        go_quiet (fail)
        go_wp2_with (first | (go_at_call 145; refine (parent_calls _ _).mono ?_; rintro e w' ⟨rfl, rfl⟩))
        go_ret
        exact ⟨retB (by first | rfl | decide | simp [bareQ]), below_drewN (below_alloc (Below.refl w.heap.size w) _) _⟩
      · skip
        cases hK : ((kn : Int) == 0)
        · skip
          go_enter Tryz.func96, Tryz.ntmps96
          go_upto_region 1 with fail
          go_quiet (fail)
          go_wp2_with (first | (go_at_call 145; refine (parent_calls _ _).mono ?_; rintro e w' ⟨rfl, rfl⟩))
          go_ret
          exact ⟨retB (by first | rfl | decide | simp [bareQ]), below_drewN (below_alloc (Below.refl w.heap.size w) _) _⟩
        · skip
          go_enter Tryz.func96, Tryz.ntmps96
          go_upto_region 1 with fail
          go_quiet (fail)
          go_wp2_with (first | (go_at_call 145; refine (parent_calls _ _).mono ?_; rintro e w' ⟨rfl, rfl⟩))
          go_ret
          exact ⟨retB (by first | rfl | decide | simp [bareQ]), below_drewN (below_alloc (Below.refl w.heap.size w) _) _⟩
  · skip
    cases hN : name.toList.isEmpty
    · skip
      go_enter Tryz.func96, Tryz.ntmps96
      go_upto_region 1 with fail
      go_quiet (fail)
      go_wp2_with (first | (go_at_call 145; refine (parent_calls _ _).mono ?_; rintro e w' ⟨rfl, rfl⟩))
      go_ret
      exact ⟨retB (by first | rfl | decide | simp [bareQ]), below_drewN (below_alloc (Below.refl w.heap.size w) _) _⟩
    · skip
      cases hA : ((an : Int) == 0)
      · skip
        go_enter Tryz.func96, Tryz.ntmps96
        go_upto_region 1 with fail
        go_quiet (fail)
        go_wp2_with (first | (go_at_call 145; refine (parent_calls _ _).mono ?_; rintro e w' ⟨rfl, rfl⟩))
        go_ret
        exact ⟨retB (by first | rfl | decide | simp [bareQ]), below_drewN (below_alloc (Below.refl w.heap.size w) _) _⟩
      · skip
        cases hK : ((kn : Int) == 0)
        · skip
          go_enter Tryz.func96, Tryz.ntmps96
          go_upto_region 1 with fail
          go_quiet (fail)
          go_wp2_with (first | (go_at_call 145; refine (parent_calls _ _).mono ?_; rintro e w' ⟨rfl, rfl⟩))
          go_ret
          exact ⟨retB (by first | rfl | decide | simp [bareQ]), below_drewN (below_alloc (Below.refl w.heap.size w) _) _⟩
        · skip
          go_enter Tryz.func96, Tryz.ntmps96
          go_upto_region 1 with fail
          go_quiet (fail)
          go_wp2_with (first | (go_at_call 145; refine (parent_calls _ _).mono ?_; rintro e w' ⟨rfl, rfl⟩))
          go_ret
          exact ⟨retB (by first | rfl | decide | simp [bareQ]), below_drewN (below_alloc (Below.refl w.heap.size w) _) _⟩
  · skip
    cases hA : ((an : Int) == 0)
    · skip
      go_enter Tryz.func96, Tryz.ntmps96
      go_upto_region 1 with fail
      go_quiet (fail)
      go_wp2_with (first | (go_at_call 145; refine (parent_calls _ _).mono ?_; rintro e w' ⟨rfl, rfl⟩))
      go_ret
      exact ⟨retB (by first | rfl | decide | simp [bareQ]), below_drewN (below_alloc (Below.refl w.heap.size w) _) _⟩
    · skip
      cases hT : text.toList.isEmpty
      · skip
        go_enter Tryz.func96, Tryz.ntmps96
        go_upto_region 1 with fail
        go_quiet (fail)
        go_wp2_with (first | (go_at_call 145; refine (parent_calls _ _).mono ?_; rintro e w' ⟨rfl, rfl⟩))
        go_ret
        exact ⟨retB (by first | rfl | decide | simp [bareQ]), below_drewN (below_alloc (Below.refl w.heap.size w) _) _⟩
      · skip
        cases hK : ((kn : Int) == 0)
        · skip
          go_enter Tryz.func96, Tryz.ntmps96
          go_upto_region 1 with fail
          go_quiet (fail)
          go_wp2_with (first | (go_at_call 145; refine (parent_calls _ _).mono ?_; rintro e w' ⟨rfl, rfl⟩))
          go_ret
          exact ⟨retB (by first | rfl | decide | simp [bareQ]), below_drewN (below_alloc (Below.refl w.heap.size w) _) _⟩
        · skip
          go_enter Tryz.func96, Tryz.ntmps96
          go_upto_region 1 with fail
          go_quiet (fail)
          go_wp2_with (first | (go_at_call 145; refine (parent_calls _ _).mono ?_; rintro e w' ⟨rfl, rfl⟩))
          go_ret
          exact ⟨retB (by first | rfl | decide | simp [bareQ]), below_drewN (below_alloc (Below.refl w.heap.size w) _) _⟩
end Go.Proofs.YtkmmlcnoeeaekaaGreatDoor
