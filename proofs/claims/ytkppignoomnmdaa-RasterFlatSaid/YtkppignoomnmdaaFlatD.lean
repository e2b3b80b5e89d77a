/- What is drawn of one fill: contracts at closed arguments. -/
import Derived.Test.YtkppignoomnmdaaFlatB
import Derived.Test.YtkppignoomnmdaaShare
namespace Go.Proofs.Ytkppignoomnmdaa
open Go.RowKit
set_option linter.unusedVariables false
set_option linter.unusedSimpArgs false
attribute [local go_sem high] run_min2 run_max2

theorem holds_set {w : World} {B : Nat} {A : Option Addr} {xs : List Value} (h : Holds w B A xs) {g : Nat} (hg : B ≤ g) (j : Nat) (u : Value) : Holds (w.setCell ⟨g, j, none⟩ u) B A xs := fun hn => by
  obtain ⟨b, off, e, hlt, hc⟩ := h hn
  refine ⟨b, off, e, hlt, fun k hk => ?_⟩
  rw [World.cell?_of_block (Below.heap_setCell w ⟨g, j, none⟩ u b (by show b ≠ g; omega))]
  exact hc k hk
set_option maxRecDepth 100000 in
set_option maxHeartbeats 1000000 in
theorem within_w0 (w : World) :
    Calls Try.prog 132 #[.agg #[.int .i64 (-16777216), .int .i64 (-16777216), .int .i64 33554432, .int .i64 33554432], .int .i64 32, .int .i64 32] w fun e w' => e = .returned (.bool true) ∧ Below w.heap.size w w' := by
  have hbel := below_alloc (Below.refl _ w) (.cells #[.int .i64 (-16777216), .int .i64 (-16777216), .int .i64 33554432, .int .i64 33554432] 57)
  go_enter Try.func132, Try.ntmps132
  go_wp2_with fail
  go_ret
  exact ⟨rfl, hbel⟩
set_option maxRecDepth 100000 in
set_option maxHeartbeats 1000000 in
theorem within_w1 (w : World) :
    Calls Try.prog 132 #[.agg #[.int .i64 (-16777216), .int .i64 (-16777216), .int .i64 33554432, .int .i64 33554432], .int .i64 96, .int .i64 32] w fun e w' => e = .returned (.bool true) ∧ Below w.heap.size w w' := by
  have hbel := below_alloc (Below.refl _ w) (.cells #[.int .i64 (-16777216), .int .i64 (-16777216), .int .i64 33554432, .int .i64 33554432] 57)
  go_enter Try.func132, Try.ntmps132
  go_wp2_with fail
  go_ret
  exact ⟨rfl, hbel⟩
set_option maxRecDepth 100000 in
set_option maxHeartbeats 1000000 in
theorem within_z0 (w : World) :
    Calls Try.prog 132 #[.agg #[.int .i64 0, .int .i64 0, .int .i64 64, .int .i64 64], .int .i64 32, .int .i64 32] w fun e w' => e = .returned (.bool true) ∧ Below w.heap.size w w' := by
  have hbel := below_alloc (Below.refl _ w) (.cells #[.int .i64 0, .int .i64 0, .int .i64 64, .int .i64 64] 57)
  go_enter Try.func132, Try.ntmps132
  go_wp2_with fail
  go_ret
  exact ⟨rfl, hbel⟩
set_option maxRecDepth 100000 in
set_option maxHeartbeats 1000000 in
theorem within_z1 (w : World) :
    Calls Try.prog 132 #[.agg #[.int .i64 0, .int .i64 0, .int .i64 64, .int .i64 64], .int .i64 96, .int .i64 32] w fun e w' => e = .returned (.bool false) ∧ Below w.heap.size w w' := by
  have hbel := below_alloc (Below.refl _ w) (.cells #[.int .i64 0, .int .i64 0, .int .i64 64, .int .i64 64] 57)
  go_enter Try.func132, Try.ntmps132
  go_wp2_with fail
  go_ret
  exact ⟨rfl, hbel⟩
set_option maxRecDepth 100000 in
set_option maxHeartbeats 1000000 in
theorem covers_0 (w : World) :
    Calls Try.prog 114 #[.agg #[.int .i64 1, .int .i64 0, .int .i64 0, .int .i64 0, .int .i64 64, .int .i64 64, .int .i64 255, .int .i64 0, .string ⟨#[]⟩, .int .i64 (-16777216), .int .i64 (-16777216), .int .i64 33554432, .int .i64 33554432, .int .i64 1000], .int .i64 32, .int .i64 32] w fun e w' => e = .returned (.bool true) ∧ Below w.heap.size w w' := by
  have b3 := Blk.new w 59 #[.int .i64 1, .int .i64 0, .int .i64 0, .int .i64 0, .int .i64 64, .int .i64 64, .int .i64 255, .int .i64 0, .string ⟨#[]⟩, .int .i64 (-16777216), .int .i64 (-16777216), .int .i64 33554432, .int .i64 33554432, .int .i64 1000]
  have hbel := below_alloc (Below.refl _ w) (.cells #[.int .i64 1, .int .i64 0, .int .i64 0, .int .i64 0, .int .i64 64, .int .i64 64, .int .i64 255, .int .i64 0, .string ⟨#[]⟩, .int .i64 (-16777216), .int .i64 (-16777216), .int .i64 33554432, .int .i64 33554432, .int .i64 1000] 59)
  have hr := fun w => rect_calls ⟨1, 0, 0, 0, 64, 64, 255, 0, ⟨#[]⟩⟩ w
  simp only [show cut 0 = 0 from by decide, show cut 64 = 64 from by decide] at hr
  have HR := Lib.hid hr
  clear hr
  go_enter Try.func114, Try.ntmps114
  go_wp2_with (first | (go_at_call 67; refine (HR.out _).mono ?_; rintro e w2 ⟨rfl, hb2⟩) | (go_at_call 132; (first | ((with_reducible refine (within_w0 _).mono ?_); rintro e w1 ⟨rfl, hb1⟩; have b4 := b3.below hb1 b3.lt; have hbel := below_then hbel hb1; have q0 : w1.cell? ⟨w.heap.size, 0, none⟩ = some (.int .i64 1) := b4.cell 0; have q1 : w1.cell? ⟨w.heap.size, 1, none⟩ = some (.int .i64 0) := b4.cell 1; have q2 : w1.cell? ⟨w.heap.size, 2, none⟩ = some (.int .i64 0) := b4.cell 2; have q3 : w1.cell? ⟨w.heap.size, 3, none⟩ = some (.int .i64 0) := b4.cell 3; have q4 : w1.cell? ⟨w.heap.size, 4, none⟩ = some (.int .i64 64) := b4.cell 4; have q5 : w1.cell? ⟨w.heap.size, 5, none⟩ = some (.int .i64 64) := b4.cell 5; have q6 : w1.cell? ⟨w.heap.size, 6, none⟩ = some (.int .i64 255) := b4.cell 6; have q7 : w1.cell? ⟨w.heap.size, 7, none⟩ = some (.int .i64 0) := b4.cell 7; have q8 : w1.cell? ⟨w.heap.size, 8, none⟩ = some (.string ⟨#[]⟩) := b4.cell 8; clear b4) | ((with_reducible refine (within_z0 _).mono ?_); rintro e w3 ⟨rfl, hb3⟩))))
  go_ret
  exact ⟨rfl, below_then (below_then hbel hb2) hb3⟩
set_option maxRecDepth 100000 in
set_option maxHeartbeats 1000000 in
theorem covers_1 (w : World) :
    Calls Try.prog 114 #[.agg #[.int .i64 1, .int .i64 0, .int .i64 0, .int .i64 0, .int .i64 64, .int .i64 64, .int .i64 255, .int .i64 0, .string ⟨#[]⟩, .int .i64 (-16777216), .int .i64 (-16777216), .int .i64 33554432, .int .i64 33554432, .int .i64 1000], .int .i64 96, .int .i64 32] w fun e w' => e = .returned (.bool false) ∧ Below w.heap.size w w' := by
  have b3 := Blk.new w 59 #[.int .i64 1, .int .i64 0, .int .i64 0, .int .i64 0, .int .i64 64, .int .i64 64, .int .i64 255, .int .i64 0, .string ⟨#[]⟩, .int .i64 (-16777216), .int .i64 (-16777216), .int .i64 33554432, .int .i64 33554432, .int .i64 1000]
  have hbel := below_alloc (Below.refl _ w) (.cells #[.int .i64 1, .int .i64 0, .int .i64 0, .int .i64 0, .int .i64 64, .int .i64 64, .int .i64 255, .int .i64 0, .string ⟨#[]⟩, .int .i64 (-16777216), .int .i64 (-16777216), .int .i64 33554432, .int .i64 33554432, .int .i64 1000] 59)
  have hr := fun w => rect_calls ⟨1, 0, 0, 0, 64, 64, 255, 0, ⟨#[]⟩⟩ w
  simp only [show cut 0 = 0 from by decide, show cut 64 = 64 from by decide] at hr
  have HR := Lib.hid hr
  clear hr
  go_enter Try.func114, Try.ntmps114
  go_wp2_with (first | (go_at_call 67; refine (HR.out _).mono ?_; rintro e w2 ⟨rfl, hb2⟩) | (go_at_call 132; (first | ((with_reducible refine (within_w1 _).mono ?_); rintro e w1 ⟨rfl, hb1⟩; have b4 := b3.below hb1 b3.lt; have hbel := below_then hbel hb1; have q0 : w1.cell? ⟨w.heap.size, 0, none⟩ = some (.int .i64 1) := b4.cell 0; have q1 : w1.cell? ⟨w.heap.size, 1, none⟩ = some (.int .i64 0) := b4.cell 1; have q2 : w1.cell? ⟨w.heap.size, 2, none⟩ = some (.int .i64 0) := b4.cell 2; have q3 : w1.cell? ⟨w.heap.size, 3, none⟩ = some (.int .i64 0) := b4.cell 3; have q4 : w1.cell? ⟨w.heap.size, 4, none⟩ = some (.int .i64 64) := b4.cell 4; have q5 : w1.cell? ⟨w.heap.size, 5, none⟩ = some (.int .i64 64) := b4.cell 5; have q6 : w1.cell? ⟨w.heap.size, 6, none⟩ = some (.int .i64 255) := b4.cell 6; have q7 : w1.cell? ⟨w.heap.size, 7, none⟩ = some (.int .i64 0) := b4.cell 7; have q8 : w1.cell? ⟨w.heap.size, 8, none⟩ = some (.string ⟨#[]⟩) := b4.cell 8; clear b4) | ((with_reducible refine (within_z1 _).mono ?_); rintro e w3 ⟨rfl, hb3⟩))))
  go_ret
  exact ⟨rfl, below_then (below_then hbel hb2) hb3⟩
set_option maxRecDepth 100000 in
set_option maxHeartbeats 1000000 in
theorem pixel_0 (A : Option Addr) (c B : Nat) (w : World) (h : Holds w B A (draws [⟨⟨1, 0, 0, 0, 64, 64, 255, 0, ⟨#[]⟩⟩, wholeSt⟩])) (hB : B ≤ w.heap.size) :
    Calls Try.prog 101 #[.slice A 1 c, .int .i64 32, .int .i64 32, .int .i64 4294967295] w fun e w' => e = .returned (.int .i64 255) ∧ Below w.heap.size w w' := by
  obtain ⟨b, off, rfl, hb, hc⟩ := h (by decide)
  have c0 : w.cell? ⟨b, off, none⟩ = some (.int .i64 1) := hc 0 (by decide)
  have c1 : w.cell? ⟨b, off + 1, none⟩ = some (.int .i64 0) := hc 1 (by decide)
  have c2 : w.cell? ⟨b, off + 2, none⟩ = some (.int .i64 0) := hc 2 (by decide)
  have c3 : w.cell? ⟨b, off + 3, none⟩ = some (.int .i64 0) := hc 3 (by decide)
  have c4 : w.cell? ⟨b, off + 4, none⟩ = some (.int .i64 64) := hc 4 (by decide)
  have c5 : w.cell? ⟨b, off + 5, none⟩ = some (.int .i64 64) := hc 5 (by decide)
  have c6 : w.cell? ⟨b, off + 6, none⟩ = some (.int .i64 255) := hc 6 (by decide)
  have c7 : w.cell? ⟨b, off + 7, none⟩ = some (.int .i64 0) := hc 7 (by decide)
  have c8 : w.cell? ⟨b, off + 8, none⟩ = some (.string ⟨#[]⟩) := hc 8 (by decide)
  have c9 : w.cell? ⟨b, off + 9, none⟩ = some (.int .i64 (-16777216)) := hc 9 (by decide)
  have c10 : w.cell? ⟨b, off + 10, none⟩ = some (.int .i64 (-16777216)) := hc 10 (by decide)
  have c11 : w.cell? ⟨b, off + 11, none⟩ = some (.int .i64 33554432) := hc 11 (by decide)
  have c12 : w.cell? ⟨b, off + 12, none⟩ = some (.int .i64 33554432) := hc 12 (by decide)
  have c13 : w.cell? ⟨b, off + 13, none⟩ = some (.int .i64 1000) := hc 13 (by decide)
  have HC := Lib.hid (fun w => covers_0 w)
  have HV := Lib.hid (fun w => over_calls 255 4294967295 1000 w)
  rw [show overK 255 4294967295 1000 3 = 255 from by decide] at HV
  clear hc h
  go_enter Try.func101, Try.ntmps101
  go_wp2_with fail
  go_loopw [3, 13] (fun v i wr => ((i = .int .i64 0 ∧ v = .int .i64 4294967295 ∧ wr = w) ∨ (i = .int .i64 1 ∧ v = .int .i64 255 ∧ Below w.heap.size w wr))) (fun _ i _ => 1 - (intOf i).toNat)
  case atStart => exact Or.inl ⟨rfl, rfl, rfl⟩
  case round =>
    rcases hrel with ⟨rfl, rfl, rfl⟩ | ⟨rfl, rfl, hbel⟩
    · have b10 := Blk.new wr 59 #[.int .i64 1, .int .i64 0, .int .i64 0, .int .i64 0, .int .i64 64, .int .i64 64, .int .i64 255, .int .i64 0, .string ⟨#[]⟩, .int .i64 (-16777216), .int .i64 (-16777216), .int .i64 33554432, .int .i64 33554432, .int .i64 1000]
      have hbel := below_alloc (Below.refl _ wr) (.cells #[.int .i64 1, .int .i64 0, .int .i64 0, .int .i64 0, .int .i64 64, .int .i64 64, .int .i64 255, .int .i64 0, .string ⟨#[]⟩, .int .i64 (-16777216), .int .i64 (-16777216), .int .i64 33554432, .int .i64 33554432, .int .i64 1000] 59)
      go_wp2_with (go_at_call 114; refine (HC.out _).mono ?_; rintro e w2 ⟨rfl, hb2⟩; have b10 := b10.below hb2 b10.lt; have hbel := below_then hbel hb2; have q6 : w2.cell? ⟨wr.heap.size, 6, none⟩ = some (.int .i64 255) := b10.cell 6; have q13 : w2.cell? ⟨wr.heap.size, 13, none⟩ = some (.int .i64 1000) := b10.cell 13)
      go_wp2_with (go_at_call 35; refine (HV.out _).mono ?_; rintro e w3 ⟨rfl, hb3⟩)
      go_roundw
      case rel => exact Or.inr ⟨rfl, rfl, below_then hbel hb3⟩
      case measure => simp [intOf]
    · go_wp2_with fail
      go_ret
      exact ⟨rfl, hbel⟩
set_option maxRecDepth 100000 in
set_option maxHeartbeats 1000000 in
theorem pixel_1 (A : Option Addr) (c B : Nat) (w : World) (h : Holds w B A (draws [⟨⟨1, 0, 0, 0, 64, 64, 255, 0, ⟨#[]⟩⟩, wholeSt⟩])) (hB : B ≤ w.heap.size) :
    Calls Try.prog 101 #[.slice A 1 c, .int .i64 96, .int .i64 32, .int .i64 4294967295] w fun e w' => e = .returned (.int .i64 4294967295) ∧ Below w.heap.size w w' := by
  obtain ⟨b, off, rfl, hb, hc⟩ := h (by decide)
  have c0 : w.cell? ⟨b, off, none⟩ = some (.int .i64 1) := hc 0 (by decide)
  have c1 : w.cell? ⟨b, off + 1, none⟩ = some (.int .i64 0) := hc 1 (by decide)
  have c2 : w.cell? ⟨b, off + 2, none⟩ = some (.int .i64 0) := hc 2 (by decide)
  have c3 : w.cell? ⟨b, off + 3, none⟩ = some (.int .i64 0) := hc 3 (by decide)
  have c4 : w.cell? ⟨b, off + 4, none⟩ = some (.int .i64 64) := hc 4 (by decide)
  have c5 : w.cell? ⟨b, off + 5, none⟩ = some (.int .i64 64) := hc 5 (by decide)
  have c6 : w.cell? ⟨b, off + 6, none⟩ = some (.int .i64 255) := hc 6 (by decide)
  have c7 : w.cell? ⟨b, off + 7, none⟩ = some (.int .i64 0) := hc 7 (by decide)
  have c8 : w.cell? ⟨b, off + 8, none⟩ = some (.string ⟨#[]⟩) := hc 8 (by decide)
  have c9 : w.cell? ⟨b, off + 9, none⟩ = some (.int .i64 (-16777216)) := hc 9 (by decide)
  have c10 : w.cell? ⟨b, off + 10, none⟩ = some (.int .i64 (-16777216)) := hc 10 (by decide)
  have c11 : w.cell? ⟨b, off + 11, none⟩ = some (.int .i64 33554432) := hc 11 (by decide)
  have c12 : w.cell? ⟨b, off + 12, none⟩ = some (.int .i64 33554432) := hc 12 (by decide)
  have c13 : w.cell? ⟨b, off + 13, none⟩ = some (.int .i64 1000) := hc 13 (by decide)
  have HC := Lib.hid (fun w => covers_1 w)
  have HV := Lib.hid (fun w => over_calls 255 4294967295 1000 w)
  rw [show overK 255 4294967295 1000 3 = 255 from by decide] at HV
  clear hc h
  go_enter Try.func101, Try.ntmps101
  go_wp2_with fail
  go_loopw [3, 13] (fun v i wr => ((i = .int .i64 0 ∧ v = .int .i64 4294967295 ∧ wr = w) ∨ (i = .int .i64 1 ∧ v = .int .i64 4294967295 ∧ Below w.heap.size w wr))) (fun _ i _ => 1 - (intOf i).toNat)
  case atStart => exact Or.inl ⟨rfl, rfl, rfl⟩
  case round =>
    rcases hrel with ⟨rfl, rfl, rfl⟩ | ⟨rfl, rfl, hbel⟩
    · have b10 := Blk.new wr 59 #[.int .i64 1, .int .i64 0, .int .i64 0, .int .i64 0, .int .i64 64, .int .i64 64, .int .i64 255, .int .i64 0, .string ⟨#[]⟩, .int .i64 (-16777216), .int .i64 (-16777216), .int .i64 33554432, .int .i64 33554432, .int .i64 1000]
      have hbel := below_alloc (Below.refl _ wr) (.cells #[.int .i64 1, .int .i64 0, .int .i64 0, .int .i64 0, .int .i64 64, .int .i64 64, .int .i64 255, .int .i64 0, .string ⟨#[]⟩, .int .i64 (-16777216), .int .i64 (-16777216), .int .i64 33554432, .int .i64 33554432, .int .i64 1000] 59)
      go_wp2_with (go_at_call 114; refine (HC.out _).mono ?_; rintro e w2 ⟨rfl, hb2⟩; have b10 := b10.below hb2 b10.lt; have hbel := below_then hbel hb2; have q6 : w2.cell? ⟨wr.heap.size, 6, none⟩ = some (.int .i64 255) := b10.cell 6; have q13 : w2.cell? ⟨wr.heap.size, 13, none⟩ = some (.int .i64 1000) := b10.cell 13)
      go_roundw
      case rel => exact Or.inr ⟨rfl, rfl, hbel⟩
      case measure => simp [intOf]
    · go_wp2_with fail
      go_ret
      exact ⟨rfl, hbel⟩
set_option maxRecDepth 100000 in
set_option maxHeartbeats 2000000 in
theorem draw_calls (b : Nat) (w : World) (hb : b < w.heap.size) (h : Blk w b 48 #[.int .i64 1, .int .i64 0, .int .i64 0, .int .i64 0, .int .i64 64, .int .i64 64, .int .i64 255, .int .i64 0, .string ⟨#[]⟩]) :
    Calls Try.prog 71 #[.slice (some ⟨b, 0, none⟩) 1 1, .int .i64 2, .int .i64 1] w fun e w' => ∃ g c, e = .returned (.tuple #[.slice (some ⟨g, 0, none⟩) 2 c, .int .i64 0]) ∧ Blk w' g 3 #[.int .i64 255, .int .i64 4294967295] ∧ Below w.heap.size w w' := by
  have hl : Holds w w.heap.size (some ⟨b, 0, none⟩) (cmds [⟨1, 0, 0, 0, 64, 64, 255, 0, ⟨#[]⟩⟩]) := fun _ => ⟨b, 0, rfl, hb, fun j hj => by
    rw [Nat.zero_add, h.cell]
    have hj : j < 9 := hj
    match j, hj with
    | 0, _ => rfl
    | 1, _ => rfl
    | 2, _ => rfl
    | 3, _ => rfl
    | 4, _ => rfl
    | 5, _ => rfl
    | 6, _ => rfl
    | 7, _ => rfl
    | 8, _ => rfl⟩
  have HFL := Lib.hid (flat_calls (some ⟨b, 0, none⟩) 1 1 w.heap.size [⟨1, 0, 0, 0, 64, 64, 255, 0, ⟨#[]⟩⟩] w rfl hl (by omega) (Nat.le_refl _))
  rw [show flatGo [⟨1, 0, 0, 0, 64, 64, 255, 0, ⟨#[]⟩⟩] [] [] = ([⟨⟨1, 0, 0, 0, 64, 64, 255, 0, ⟨#[]⟩⟩, wholeSt⟩], 0) from rfl] at HFL
  clear hl h
  have hmk : ∀ w, (Instr.makeSlice 64 (.int .i64 2) (.int .i64 2)).run Try.prog w = .ok (.slice (some ⟨w.heap.size, 0, none⟩) 2 2) (w.alloc (.cells #[.int .i64 0, .int .i64 0] 3)) := fun _ => by kernel_rfl
  go_enter Try.func71, Try.ntmps71
  go_wp2_with (go_at_call 31; refine HFL.out.mono ?_; rintro e w1 ⟨v, rfl, hv, hb1⟩; obtain ⟨A, c, rfl⟩ := own_open hv; have hF := Holds.of_own hv)
  obtain ⟨gO, hgO⟩ : ∃ g, g = w1.heap.size := ⟨_, rfl⟩
  have hO := Blk.new w1 3 #[.int .i64 0, .int .i64 0]
  have hbel := below_alloc hb1 (.cells #[.int .i64 0, .int .i64 0] 3)
  have hF := hF.below (below_alloc (Below.refl _ w1) (.cells #[.int .i64 0, .int .i64 0] 3)) (Nat.le_refl _)
  have hFB : w1.heap.size ≤ (w1.alloc (.cells #[.int .i64 0, .int .i64 0] 3)).heap.size := by simp
  have hOb := hb1.size
  rw [← hgO] at hO hOb ⊢
  generalize hwa : World.alloc w1 _ = wa at hO hbel hF hFB ⊢
  have HO := Lib.hid hO
  have HB := Lib.hid hbel
  have HF := Lib.hid hF
  have HFB := Lib.hid hFB
  obtain ⟨B1, hB1⟩ : ∃ n, n = w1.heap.size := ⟨_, rfl⟩
  rw [← hB1] at HF HFB
  have hgB : B1 ≤ gO := by omega
  clear hO hbel hF hFB hv hb1 hwa hgO hB1 hmk
  go_loopw [40] (fun i wr => ((i = .int .i64 0 ∧ Blk wr gO 3 #[.int .i64 0, .int .i64 0]) ∨ (i = .int .i64 1 ∧ Blk wr gO 3 #[.int .i64 255, .int .i64 0]) ∨ (i = .int .i64 2 ∧ Blk wr gO 3 #[.int .i64 255, .int .i64 4294967295])) ∧ Below w.heap.size w wr ∧ Holds wr B1 A (draws [⟨⟨1, 0, 0, 0, 64, 64, 255, 0, ⟨#[]⟩⟩, wholeSt⟩]) ∧ B1 ≤ wr.heap.size) (fun i _ => 2 - (intOf i).toNat)
  case atStart => exact ⟨Or.inl ⟨rfl, HO.out⟩, HB.out, HF.out, HFB.out⟩
  case round =>
    obtain ⟨hcase, hbel, hF, hFB⟩ := hrel
    rcases hcase with ⟨rfl, hO⟩ | ⟨rfl, hO⟩ | ⟨rfl, hO⟩
    · go_wp2_with fail
      have hS0 : (fun w' : World => True) wr.drew := True.intro
      have hbel := hbel.drew
      have hO := hO.drew
      have hF : Holds wr.drew B1 A _ := hF
      have hFB : B1 ≤ wr.drew.heap.size := hFB
      refine wp_region_noPanic ?_
      refine region_M (S := fun w' => True) (T := []) (by kernel_rfl) ?_
      refine anyM_free (i := 0) (oi := { dst := some 43, op := _, type := _, pos := _, after := _, guard := _ }) (v := ?_) rfl (by kernel_rfl) (fun _ _ _ h => h) (Or.inl ⟨by kernel_rfl, ?_⟩) (fun _ => hS0) ?_
      rotate_left 1
      · (intro w hSw; (try dsimp only at hSw); go_simp; try with_reducible rfl)
      try simp only [Act.put, Array.toArray_toList, List.setIfInBounds_toArray, List.set_cons_zero, List.set_cons_succ]
      refine anyM_free (i := 1) (oi := { dst := some 44, op := _, type := _, pos := _, after := _, guard := _ }) (v := ?_) rfl (by kernel_rfl) (fun _ _ _ h => h) (Or.inl ⟨by kernel_rfl, ?_⟩) (fun _ => hS0) ?_
      rotate_left 1
      · (intro w hSw; (try dsimp only at hSw); go_simp; try with_reducible rfl)
      try simp only [Act.put, Array.toArray_toList, List.setIfInBounds_toArray, List.set_cons_zero, List.set_cons_succ]
      refine anyM_free (i := 2) (oi := { dst := some 45, op := _, type := _, pos := _, after := _, guard := _ }) (v := ?_) rfl (by kernel_rfl) (fun _ _ _ h => h) (Or.inl ⟨by kernel_rfl, ?_⟩) (fun _ => hS0) ?_
      rotate_left 1
      · (intro w hSw; (try dsimp only at hSw); go_simp; try with_reducible rfl)
      try simp only [Act.put, Array.toArray_toList, List.setIfInBounds_toArray, List.set_cons_zero, List.set_cons_succ]
      refine anyM_free (i := 3) (oi := { dst := some 46, op := _, type := _, pos := _, after := _, guard := _ }) (v := ?_) rfl (by kernel_rfl) (fun _ _ _ h => h) (Or.inl ⟨by kernel_rfl, ?_⟩) (fun _ => hS0) ?_
      rotate_left 1
      · (intro w hSw; (try dsimp only at hSw); go_simp; try with_reducible rfl)
      try simp only [Act.put, Array.toArray_toList, List.setIfInBounds_toArray, List.set_cons_zero, List.set_cons_succ]
      refine anyM_free (i := 4) (oi := { dst := some 47, op := _, type := _, pos := _, after := _, guard := _ }) (v := ?_) rfl (by kernel_rfl) (fun _ _ _ h => h) (Or.inl ⟨by kernel_rfl, ?_⟩) (fun _ => hS0) ?_
      rotate_left 1
      · (intro w hSw; (try dsimp only at hSw); go_simp; try with_reducible rfl)
      try simp only [Act.put, Array.toArray_toList, List.setIfInBounds_toArray, List.set_cons_zero, List.set_cons_succ]
      refine anyM_free (i := 5) (oi := { dst := some 48, op := _, type := _, pos := _, after := _, guard := _ }) (v := ?_) rfl (by kernel_rfl) (fun _ _ _ h => h) (Or.inl ⟨by kernel_rfl, ?_⟩) (fun _ => hS0) ?_
      rotate_left 1
      · (intro w hSw; (try dsimp only at hSw); go_simp; try with_reducible rfl)
      try simp only [Act.put, Array.toArray_toList, List.setIfInBounds_toArray, List.set_cons_zero, List.set_cons_succ]
      refine anyM_free (i := 6) (oi := { dst := some 49, op := _, type := _, pos := _, after := _, guard := _ }) (v := ?_) rfl (by kernel_rfl) (fun _ _ _ h => h) (Or.inl ⟨by kernel_rfl, ?_⟩) (fun _ => hS0) ?_
      rotate_left 1
      · (intro w hSw; (try dsimp only at hSw); go_simp; try with_reducible rfl)
      try simp only [Act.put, Array.toArray_toList, List.setIfInBounds_toArray, List.set_cons_zero, List.set_cons_succ]
      refine anyM_free (i := 7) (oi := { dst := some 50, op := _, type := _, pos := _, after := _, guard := _ }) (v := ?_) rfl (by kernel_rfl) (fun _ _ _ h => h) (Or.inl ⟨by kernel_rfl, ?_⟩) (fun _ => hS0) ?_
      rotate_left 1
      · (intro w hSw; (try dsimp only at hSw); go_simp; try with_reducible rfl)
      try simp only [Act.put, Array.toArray_toList, List.setIfInBounds_toArray, List.set_cons_zero, List.set_cons_succ]
      refine anyM_free (i := 8) (oi := { dst := some 51, op := _, type := _, pos := _, after := _, guard := _ }) (v := ?_) rfl (by kernel_rfl) (fun _ _ _ h => h) (Or.inl ⟨by kernel_rfl, ?_⟩) (fun _ => hS0) ?_
      rotate_left 1
      · (intro w hSw; (try dsimp only at hSw); go_simp; try with_reducible rfl)
      try simp only [Act.put, Array.toArray_toList, List.setIfInBounds_toArray, List.set_cons_zero, List.set_cons_succ]
      refine anyM_free (i := 9) (oi := { dst := some 52, op := _, type := _, pos := _, after := _, guard := _ }) (v := ?_) rfl (by kernel_rfl) (fun _ _ _ h => h) (Or.inl ⟨by kernel_rfl, ?_⟩) (fun _ => hS0) ?_
      rotate_left 1
      · (intro w hSw; (try dsimp only at hSw); go_simp; try with_reducible rfl)
      try simp only [Act.put, Array.toArray_toList, List.setIfInBounds_toArray, List.set_cons_zero, List.set_cons_succ]
      refine anyM_free (i := 10) (oi := { dst := some 53, op := _, type := _, pos := _, after := _, guard := _ }) (v := ?_) rfl (by kernel_rfl) (fun _ _ _ h => h) (Or.inl ⟨by kernel_rfl, ?_⟩) (fun _ => hS0) ?_
      rotate_left 1
      · (intro w hSw; (try dsimp only at hSw); go_simp; try with_reducible rfl)
      try simp only [Act.put, Array.toArray_toList, List.setIfInBounds_toArray, List.set_cons_zero, List.set_cons_succ]
      refine anyM_free (i := 11) (oi := { dst := some 54, op := _, type := _, pos := _, after := _, guard := _ }) (v := ?_) rfl (by kernel_rfl) (fun _ _ _ h => h) (Or.inl ⟨by kernel_rfl, ?_⟩) (fun _ => hS0) ?_
      rotate_left 1
      · (intro w hSw; (try dsimp only at hSw); go_simp; try with_reducible rfl)
      try simp only [Act.put, Array.toArray_toList, List.setIfInBounds_toArray, List.set_cons_zero, List.set_cons_succ]
      refine anyM_free (i := 12) (oi := { dst := some 55, op := _, type := _, pos := _, after := _, guard := _ }) (v := ?_) rfl (by kernel_rfl) (fun _ _ _ h => h) (Or.inl ⟨by kernel_rfl, ?_⟩) (fun _ => hS0) ?_
      rotate_left 1
      · (intro w hSw; (try dsimp only at hSw); go_simp; try with_reducible rfl)
      try simp only [Act.put, Array.toArray_toList, List.setIfInBounds_toArray, List.set_cons_zero, List.set_cons_succ]
      refine anyM_one (i := 13) (by kernel_rfl) rfl (fun K hK => ?_)
      go_simp
      refine (pixel_0 A c _ _ hF hFB).mono ?_
      rintro e w2 ⟨rfl, hb2⟩
      have hO := hO.below hb2 hO.lt
      have hF := hF.below hb2 hFB
      have hFB := Nat.le_trans hFB hb2.size
      have hbel := below_then hbel hb2
      have o0 : w2.cell? ⟨gO, 0, none⟩ = some (.int .i64 0) := hO.cell 0
      have f0 := hO.free 0
      refine hK.out _ _ (fun _ => hS0) ?_
      clear hK K
      try simp only [Act.put, Array.toArray_toList, List.setIfInBounds_toArray, List.set_cons_zero, List.set_cons_succ]
      refine anyM_free (i := 14) (oi := { dst := some 57, op := _, type := _, pos := _, after := _, guard := _ }) (v := ?_) rfl (by kernel_rfl) (fun _ _ _ h => h) (Or.inl ⟨by kernel_rfl, ?_⟩) (fun _ => hS0) ?_
      rotate_left 1
      · (intro w hSw; (try dsimp only at hSw); go_simp; try with_reducible rfl)
      try simp only [Act.put, Array.toArray_toList, List.setIfInBounds_toArray, List.set_cons_zero, List.set_cons_succ]
      refine anyM_one (i := 15) (by kernel_rfl) rfl (fun K hK => ?_)
      go_simp
      refine hK.out _ _ (fun _ => hS0) ?_
      clear hK K
      try simp only [Act.put, Array.toArray_toList, List.setIfInBounds_toArray, List.set_cons_zero, List.set_cons_succ]
      refine anyM_done (by kernel_rfl) ?_ _
      refine NoPanic.normal ?_
      have hO := hO.stored 0 (.int .i64 255)
      have hbel := below_set hbel (b := gO) (off := 0) hOb (.int .i64 255)
      have hF := holds_set hF (show B1 ≤ gO from hgB) 0 (.int .i64 255)
      have HO := Lib.hid hO
      have HB := Lib.hid hbel
      have HF := Lib.hid hF
      have HFB := Lib.hid hFB
      clear hO hbel hF hFB o0 f0 hb2
      go_wp2_with fail
      go_roundw
      case rel => exact ⟨Or.inr (Or.inl ⟨rfl, HO.out⟩), HB.out, HF.out, by rw [World.size_setCell]; exact HFB.out⟩
      case measure => simp [intOf]
    · go_wp2_with fail
      have hS0 : (fun w' : World => True) wr.drew := True.intro
      have hbel := hbel.drew
      have hO := hO.drew
      have hF : Holds wr.drew B1 A _ := hF
      have hFB : B1 ≤ wr.drew.heap.size := hFB
      refine wp_region_noPanic ?_
      refine region_M (S := fun w' => True) (T := []) (by kernel_rfl) ?_
      refine anyM_free (i := 0) (oi := { dst := some 43, op := _, type := _, pos := _, after := _, guard := _ }) (v := ?_) rfl (by kernel_rfl) (fun _ _ _ h => h) (Or.inl ⟨by kernel_rfl, ?_⟩) (fun _ => hS0) ?_
      rotate_left 1
      · (intro w hSw; (try dsimp only at hSw); go_simp; try with_reducible rfl)
      try simp only [Act.put, Array.toArray_toList, List.setIfInBounds_toArray, List.set_cons_zero, List.set_cons_succ]
      refine anyM_free (i := 1) (oi := { dst := some 44, op := _, type := _, pos := _, after := _, guard := _ }) (v := ?_) rfl (by kernel_rfl) (fun _ _ _ h => h) (Or.inl ⟨by kernel_rfl, ?_⟩) (fun _ => hS0) ?_
      rotate_left 1
      · (intro w hSw; (try dsimp only at hSw); go_simp; try with_reducible rfl)
      try simp only [Act.put, Array.toArray_toList, List.setIfInBounds_toArray, List.set_cons_zero, List.set_cons_succ]
      refine anyM_free (i := 2) (oi := { dst := some 45, op := _, type := _, pos := _, after := _, guard := _ }) (v := ?_) rfl (by kernel_rfl) (fun _ _ _ h => h) (Or.inl ⟨by kernel_rfl, ?_⟩) (fun _ => hS0) ?_
      rotate_left 1
      · (intro w hSw; (try dsimp only at hSw); go_simp; try with_reducible rfl)
      try simp only [Act.put, Array.toArray_toList, List.setIfInBounds_toArray, List.set_cons_zero, List.set_cons_succ]
      refine anyM_free (i := 3) (oi := { dst := some 46, op := _, type := _, pos := _, after := _, guard := _ }) (v := ?_) rfl (by kernel_rfl) (fun _ _ _ h => h) (Or.inl ⟨by kernel_rfl, ?_⟩) (fun _ => hS0) ?_
      rotate_left 1
      · (intro w hSw; (try dsimp only at hSw); go_simp; try with_reducible rfl)
      try simp only [Act.put, Array.toArray_toList, List.setIfInBounds_toArray, List.set_cons_zero, List.set_cons_succ]
      refine anyM_free (i := 4) (oi := { dst := some 47, op := _, type := _, pos := _, after := _, guard := _ }) (v := ?_) rfl (by kernel_rfl) (fun _ _ _ h => h) (Or.inl ⟨by kernel_rfl, ?_⟩) (fun _ => hS0) ?_
      rotate_left 1
      · (intro w hSw; (try dsimp only at hSw); go_simp; try with_reducible rfl)
      try simp only [Act.put, Array.toArray_toList, List.setIfInBounds_toArray, List.set_cons_zero, List.set_cons_succ]
      refine anyM_free (i := 5) (oi := { dst := some 48, op := _, type := _, pos := _, after := _, guard := _ }) (v := ?_) rfl (by kernel_rfl) (fun _ _ _ h => h) (Or.inl ⟨by kernel_rfl, ?_⟩) (fun _ => hS0) ?_
      rotate_left 1
      · (intro w hSw; (try dsimp only at hSw); go_simp; try with_reducible rfl)
      try simp only [Act.put, Array.toArray_toList, List.setIfInBounds_toArray, List.set_cons_zero, List.set_cons_succ]
      refine anyM_free (i := 6) (oi := { dst := some 49, op := _, type := _, pos := _, after := _, guard := _ }) (v := ?_) rfl (by kernel_rfl) (fun _ _ _ h => h) (Or.inl ⟨by kernel_rfl, ?_⟩) (fun _ => hS0) ?_
      rotate_left 1
      · (intro w hSw; (try dsimp only at hSw); go_simp; try with_reducible rfl)
      try simp only [Act.put, Array.toArray_toList, List.setIfInBounds_toArray, List.set_cons_zero, List.set_cons_succ]
      refine anyM_free (i := 7) (oi := { dst := some 50, op := _, type := _, pos := _, after := _, guard := _ }) (v := ?_) rfl (by kernel_rfl) (fun _ _ _ h => h) (Or.inl ⟨by kernel_rfl, ?_⟩) (fun _ => hS0) ?_
      rotate_left 1
      · (intro w hSw; (try dsimp only at hSw); go_simp; try with_reducible rfl)
      try simp only [Act.put, Array.toArray_toList, List.setIfInBounds_toArray, List.set_cons_zero, List.set_cons_succ]
      refine anyM_free (i := 8) (oi := { dst := some 51, op := _, type := _, pos := _, after := _, guard := _ }) (v := ?_) rfl (by kernel_rfl) (fun _ _ _ h => h) (Or.inl ⟨by kernel_rfl, ?_⟩) (fun _ => hS0) ?_
      rotate_left 1
      · (intro w hSw; (try dsimp only at hSw); go_simp; try with_reducible rfl)
      try simp only [Act.put, Array.toArray_toList, List.setIfInBounds_toArray, List.set_cons_zero, List.set_cons_succ]
      refine anyM_free (i := 9) (oi := { dst := some 52, op := _, type := _, pos := _, after := _, guard := _ }) (v := ?_) rfl (by kernel_rfl) (fun _ _ _ h => h) (Or.inl ⟨by kernel_rfl, ?_⟩) (fun _ => hS0) ?_
      rotate_left 1
      · (intro w hSw; (try dsimp only at hSw); go_simp; try with_reducible rfl)
      try simp only [Act.put, Array.toArray_toList, List.setIfInBounds_toArray, List.set_cons_zero, List.set_cons_succ]
      refine anyM_free (i := 10) (oi := { dst := some 53, op := _, type := _, pos := _, after := _, guard := _ }) (v := ?_) rfl (by kernel_rfl) (fun _ _ _ h => h) (Or.inl ⟨by kernel_rfl, ?_⟩) (fun _ => hS0) ?_
      rotate_left 1
      · (intro w hSw; (try dsimp only at hSw); go_simp; try with_reducible rfl)
      try simp only [Act.put, Array.toArray_toList, List.setIfInBounds_toArray, List.set_cons_zero, List.set_cons_succ]
      refine anyM_free (i := 11) (oi := { dst := some 54, op := _, type := _, pos := _, after := _, guard := _ }) (v := ?_) rfl (by kernel_rfl) (fun _ _ _ h => h) (Or.inl ⟨by kernel_rfl, ?_⟩) (fun _ => hS0) ?_
      rotate_left 1
      · (intro w hSw; (try dsimp only at hSw); go_simp; try with_reducible rfl)
      try simp only [Act.put, Array.toArray_toList, List.setIfInBounds_toArray, List.set_cons_zero, List.set_cons_succ]
      refine anyM_free (i := 12) (oi := { dst := some 55, op := _, type := _, pos := _, after := _, guard := _ }) (v := ?_) rfl (by kernel_rfl) (fun _ _ _ h => h) (Or.inl ⟨by kernel_rfl, ?_⟩) (fun _ => hS0) ?_
      rotate_left 1
      · (intro w hSw; (try dsimp only at hSw); go_simp; try with_reducible rfl)
      try simp only [Act.put, Array.toArray_toList, List.setIfInBounds_toArray, List.set_cons_zero, List.set_cons_succ]
      refine anyM_one (i := 13) (by kernel_rfl) rfl (fun K hK => ?_)
      go_simp
      refine (pixel_1 A c _ _ hF hFB).mono ?_
      rintro e w2 ⟨rfl, hb2⟩
      have hO := hO.below hb2 hO.lt
      have hF := hF.below hb2 hFB
      have hFB := Nat.le_trans hFB hb2.size
      have hbel := below_then hbel hb2
      have o1 : w2.cell? ⟨gO, 1, none⟩ = some (.int .i64 0) := hO.cell 1
      have f1 := hO.free 1
      refine hK.out _ _ (fun _ => hS0) ?_
      clear hK K
      try simp only [Act.put, Array.toArray_toList, List.setIfInBounds_toArray, List.set_cons_zero, List.set_cons_succ]
      refine anyM_free (i := 14) (oi := { dst := some 57, op := _, type := _, pos := _, after := _, guard := _ }) (v := ?_) rfl (by kernel_rfl) (fun _ _ _ h => h) (Or.inl ⟨by kernel_rfl, ?_⟩) (fun _ => hS0) ?_
      rotate_left 1
      · (intro w hSw; (try dsimp only at hSw); go_simp; try with_reducible rfl)
      try simp only [Act.put, Array.toArray_toList, List.setIfInBounds_toArray, List.set_cons_zero, List.set_cons_succ]
      refine anyM_one (i := 15) (by kernel_rfl) rfl (fun K hK => ?_)
      go_simp
      refine hK.out _ _ (fun _ => hS0) ?_
      clear hK K
      try simp only [Act.put, Array.toArray_toList, List.setIfInBounds_toArray, List.set_cons_zero, List.set_cons_succ]
      refine anyM_done (by kernel_rfl) ?_ _
      refine NoPanic.normal ?_
      have hO := hO.stored 1 (.int .i64 4294967295)
      have hbel := below_set hbel (b := gO) (off := 1) hOb (.int .i64 4294967295)
      have hF := holds_set hF (show B1 ≤ gO from hgB) 1 (.int .i64 4294967295)
      have HO := Lib.hid hO
      have HB := Lib.hid hbel
      have HF := Lib.hid hF
      have HFB := Lib.hid hFB
      clear hO hbel hF hFB o1 f1 hb2
      go_wp2_with fail
      go_roundw
      case rel => exact ⟨Or.inr (Or.inr ⟨rfl, HO.out⟩), HB.out, HF.out, by rw [World.size_setCell]; exact HFB.out⟩
      case measure => simp [intOf]
    · go_wp2_with fail
      go_ret2
      exact ⟨_, _, rfl, hO, hbel⟩
end Go.Proofs.Ytkppignoomnmdaa
