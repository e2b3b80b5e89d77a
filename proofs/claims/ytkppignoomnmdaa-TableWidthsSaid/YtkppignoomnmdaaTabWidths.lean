/- The walk of TableWidths. -/
import Derived.Test.YtkppignoomnmdaaTabT
namespace Go.Proofs.Ytkppignoomnmdaa
open Go.RowKit
set_option linter.unusedVariables false
set_option linter.unusedSimpArgs false
attribute [local go_sem high] run_min2 run_max2

set_option maxRecDepth 100000 in
set_option maxHeartbeats 1000000 in
theorem tableWidths_walk (W : World) (room : Int) (w0 : (Lit.int .i64 room).wf = true) (spacing : Int) (w1 : (Lit.int .i64 spacing).wf = true) (a : Option Addr) (len cap : Nat) (zs : List Int) (hz : zs.length = len * 1) (hh : Holds W W.heap.size a (zs.map (Value.int .i64))) (hr : len * Try.prog.bytesOf 3 ≤ 140737488351232) (hc : len ≤ cap) (hm : cap ≤ maxLen) (hw : ∀ z ∈ zs, (Lit.int .i64 z).wf = true)
    (a' : Option Addr) (len' cap' : Nat) (zs' : List Int) (hz' : zs'.length = len' * 1) (hh' : Holds W W.heap.size a' (zs'.map (Value.int .i64))) (hr' : len' * Try.prog.bytesOf 3 ≤ 140737488351232) (hc' : len' ≤ cap') (hm' : cap' ≤ maxLen) (hw' : ∀ z ∈ zs', (Lit.int .i64 z).wf = true) (fixed : Bool) :
    Calls Try.prog 11 #[.int .i64 room, .int .i64 spacing, .slice a len cap, .slice a' len' cap', .bool fixed] W fun e w' => e = .returned (.bool true) ∧ Below W.heap.size W w' := by
  have hb8 : Try.prog.bytesOf 3 = 8 := by kernel_rfl
  rw [hb8] at hr hr'
  unfold maxLen at hm hm'
  obtain ⟨m, hmm⟩ : ∃ m, m = min len 100 := ⟨_, rfl⟩
  have hm1 : min (len : Int) 100 = (m : Int) := by omega
  have hm2 : m ≤ cap := by omega
  have hm3 : m ≤ 100 := by omega
  have hm4 : (0 : Int) ≤ (m : Int) := by omega
  have hT : Holds W W.heap.size a (ints (zs.take m)) := by
    have := hh.take m
    rw [← List.map_take] at this
    exact this
  have hL : (zs.take m).length = m := by rw [List.length_take]; omega
  have hl' : zs'.length = len' := by omega
  have hbel := Below.refl W.heap.size W
  have H1 := Lib.hid (fun (w : World) (hb : Below W.heap.size W w) => widths_calls room spacing fixed a a' m cap len' cap' (min m len') W.heap.size (zs.take m) zs' w hL hl' rfl (hT.below hb (Nat.le_refl _)) (hh'.below hb (Nat.le_refl _)) hb.size (by omega) (by omega))
  have H2 := Lib.hid (fun (w : World) (hb : Below W.heap.size W w) => rwidths_calls room spacing fixed a a' m cap len' cap' (min m len') W.heap.size (zs.take m) zs' w hL hl' rfl (hT.below hb (Nat.le_refl _)) (hh'.below hb (Nat.le_refl _)) hb.size (by omega) (by omega))
  have hlen := widthsF_len room spacing (zs.take m) zs' fixed (min m len')
  obtain ⟨R, hR⟩ : ∃ R, R = widthsF room spacing (zs.take m) zs' fixed (min m len') := ⟨_, rfl⟩
  obtain ⟨q, hq⟩ : ∃ q, q = min m len' := ⟨_, rfl⟩
  rw [← hR, ← hq] at H1 H2
  rw [← hR, ← hq] at hlen
  have hq1 : q ≤ 100 := by omega
  have HM := Lib.hid hm1
  have HLEN := Lib.hid hlen
  clear hR hT hL hh hmm hm1 hw hz hr hlen w0 w1 hz' hh' hr' hw' hl' hb8 hq
  go_enter Try.func11, Try.ntmps11
  have hm1 := HM.out
  go_wp2_with (first | (go_at_call 39; refine (tabled_calls _).mono ?_; rintro e w3 ⟨rfl, hb3⟩; have hbel := below_then hbel hb3) | (go_at_call 41; refine (H1.out _ hbel).mono ?_; rintro e w4 ⟨v, rfl, hv, hb4⟩; obtain ⟨A1, c1, rfl⟩ := own_open hv; have hbel := below_then hbel hb4; have R1 := Lib.hid (Holds.of_own hv); clear hv) | (go_at_call 42; refine (H2.out _ hbel).mono ?_; rintro e w5 ⟨v2, rfl, hv2, hb5⟩; obtain ⟨A2, c2, rfl⟩ := own_open hv2; have hbel := below_then hbel hb5; have R2 := Lib.hid (Holds.of_own hv2); have R3 := Lib.hid (R1.out.below hb5 (Nat.le_refl _)); clear hv2) | (go_at_call 40; refine (eqInt_calls _ _ _ _ _ _ _ R _ HLEN.out R3.out R2.out (by omega)).mono ?_; rintro e w' ⟨rfl, rfl⟩))
  go_ret
  exact ⟨rfl, hbel⟩
end Go.Proofs.Ytkppignoomnmdaa
