/- Contract of the reference's Eq at steps; the closed fact 'stacked'. -/
import Derived.Test.YtpamfhplklhnpaaDoorStkG
import Derived.Test.YtpamfhplklhnpaaDoorStkA
import Derived.Deep.QuietTactic
import Derived.BigQuiet
import Derived.Laws.StructEq
namespace Go.Proofs.YtpamfhplklhnpaaDoor
open Go.RowKit
set_option linter.unusedVariables false
set_option linter.unusedSimpArgs false

set_option maxRecDepth 100000 in
set_option maxHeartbeats 1000000 in
theorem eqStep_calls (A A' : Option Addr) (n c c' B B' : Nat) (l : List (Nat × Nat)) (w : World) (hn : l.length = n) (h : Holds w B A (steps l)) (h' : Holds w B' A' (steps l)) (hm : n ≤ 9223372036854775807) (hB : B ≤ w.heap.size) (hB' : B' ≤ w.heap.size) :
    Calls Tryd.prog 17 #[.slice A n c, .slice A' n c'] w fun e w' => e = .returned (.bool true) ∧ Below w.heap.size w w' := by
  have H := Lib.hid h
  have H' := Lib.hid h'
  have HN := Lib.hid hn
  clear h h' hn
  go_enter Tryd.func17, Tryd.ntmps17
  go_wp2_with fail
  go_loopw [14] (fun i wr => ∃ k : Nat, k ≤ n ∧ i = .int .i64 k ∧ Below w.heap.size w wr) (fun i _ => n - (intOf i).toNat)
  case atStart => exact ⟨0, Nat.zero_le _, rfl, Below.refl _ _⟩
  case round =>
    obtain ⟨k, hk, rfl, hbel⟩ := hrel
    by_cases hlt : k < n
    · obtain ⟨b, off, rfl, hb, hc⟩ := Holds.flatL (f := stepF) (H.out.below hbel hB) 2 (fun _ => rfl) (by decide) (0, 0) (by rw [HN.out]; exact hlt)
      obtain ⟨b', off', rfl, hb', hc'⟩ := Holds.flatL (f := stepF) (H'.out.below hbel hB') 2 (fun _ => rfl) (by decide) (0, 0) (by rw [HN.out]; exact hlt)
      obtain ⟨⟨x, y⟩, hx⟩ : ∃ x, x = l.getD k (0, 0) := ⟨_, rfl⟩
      rw [← hx] at hc hc'
      have c0 := hc 0 _ rfl
      have c1 := hc 1 _ rfl
      have d0 := hc' 0 _ rfl
      have d1 := hc' 1 _ rfl
      have hw := hbel.size
      clear hc hc' hx
      simp only [Nat.add_zero] at c0 d0
      have KK := Lib.hid (show k ≤ n ∧ k < n from ⟨hk, hlt⟩)
      go_wp2_with fail
      have hb1 := (Below.refl wr.heap.size wr).alloc (Nat.le_refl _) (.cells #[.int .i64 (x : Nat), .int .i64 (y : Nat)] 55)
      have e0 := (hb1.cell (p := ⟨b', off' + k * 2, none⟩) (by show b' < _; omega)).trans d0
      have e1 := (hb1.cell (p := ⟨b', off' + k * 2 + 1, none⟩) (by show b' < _; omega)).trans d1
      have f0 : (wr.alloc (.cells #[.int .i64 (x : Nat), .int .i64 (y : Nat)] 55)).cell? ⟨wr.heap.size, 0, none⟩ = some (.int .i64 (x : Nat)) := new_cell wr _ _ 0
      have f1 : (wr.alloc (.cells #[.int .i64 (x : Nat), .int .i64 (y : Nat)] 55)).cell? ⟨wr.heap.size, 1, none⟩ = some (.int .i64 (y : Nat)) := new_cell wr _ _ 1
      have hbel := below_alloc hbel (.cells #[.int .i64 (x : Nat), .int .i64 (y : Nat)] 55)
      clear hb1 c0 c1 d0 d1
      generalize hW2 : World.alloc wr _ = w2 at e0 e1 f0 f1 hbel ⊢
      go_quiet (fail)
      go_wp2_with fail
      go_roundw
      case rel => exact ⟨k + 1, by have := KK.out; omega, by go_num, below_drewN hbel _⟩
      case measure => have := KK.out; simp [intOf]; omega
    · go_wp2_with fail
      go_ret
      exact ⟨rfl, hbel⟩
theorem layE_nil : layE [] [] = 3 := layE_no (fun h => absurd h.2.2.1 (by simp))
set_option maxRecDepth 100000 in
set_option maxHeartbeats 1000000 in
theorem stacked_calls (w : World) :
    Calls Tryd.prog 14 #[] w fun e w' => e = .returned (.bool true) ∧ Below w.heap.size w w' := by
  have hc := scheck_calls none 0 0 [] none 0 0 [] 0 0 w.heap.size w rfl rfl (fun i hi => absurd hi (by simp)) (fun hi => absurd hi (by simp)) (Nat.le_refl _) (by omega) (by omega)
  rw [layE_nil] at hc
  have HC := Lib.hid hc
  clear hc
  go_enter Tryd.func14, Tryd.ntmps14
  go_wp2_with (go_at_call 15; refine HC.out.mono ?_; rintro e w1 ⟨rfl, hb1⟩)
  go_ret
  exact ⟨rfl, hb1⟩
end Go.Proofs.YtpamfhplklhnpaaDoor
