/- The walks of RasterOver and RasterFlat. -/
import Derived.Test.YtkppignoomnmdaaFlatC
import Derived.Test.YtkppignoomnmdaaFlatD
import Derived.OpenShut
namespace Go.Proofs.Ytkppignoomnmdaa
open Go.RowKit
set_option linter.unusedVariables false
set_option linter.unusedSimpArgs false
attribute [local go_sem high] run_min2 run_max2

theorem holds_two {w : World} {g : Nat} {x y : Int} (h : Blk w g 3 #[.int .i64 x, .int .i64 y]) : Holds w w.heap.size (some ⟨g, 0, none⟩) (ints [x, y]) := fun _ => ⟨g, 0, rfl, h.lt, fun j hj => by
  rw [Nat.zero_add, h.cell]
  have hj : j < 2 := hj
  match j, hj with
  | 0, _ => rfl
  | 1, _ => rfl⟩
set_option maxRecDepth 100000 in
set_option maxHeartbeats 1000000 in
theorem drawn_calls (w : World) :
    Calls Try.prog 33 #[] w fun e w' => e = .returned (.bool true) ∧ Below w.heap.size w w' := by
  have HD := Lib.hid (draw_calls w.heap.size (w.alloc (.cells #[.int .i64 1, .int .i64 0, .int .i64 0, .int .i64 0, .int .i64 64, .int .i64 64, .int .i64 255, .int .i64 0, .string ⟨#[]⟩] 48)) (by simp) (Blk.new _ _ _))
  have hbel := below_alloc (Below.refl _ w) (.cells #[.int .i64 1, .int .i64 0, .int .i64 0, .int .i64 0, .int .i64 64, .int .i64 64, .int .i64 255, .int .i64 0, .string ⟨#[]⟩] 48)
  go_enter Try.func33, Try.ntmps33
  go_wp2_with (go_at_call 71; refine HD.out.mono ?_; rintro e w1 ⟨g, c, rfl, hg, hb1⟩; have hbel := below_then hbel hb1; have h1 := holds_two (hg.alloc (.cells #[.int .i64 255, .int .i64 4294967295] 3)); have h2 := holds_two (Blk.new w1 3 #[.int .i64 255, .int .i64 4294967295]); have hbel := below_alloc hbel (.cells #[.int .i64 255, .int .i64 4294967295] 3); have HE := Lib.hid (eqInt_calls (some ⟨g, 0, none⟩) (some ⟨w1.heap.size, 0, none⟩) 2 c 2 _ _ [255, 4294967295] (w1.alloc (.cells #[.int .i64 255, .int .i64 4294967295] 3)) rfl h1 h2 (by omega)); clear h1 h2 hg)
  refine HE.out.mono ?_
  rintro e w' ⟨rfl, rfl⟩
  go_wp2_with fail
  go_ret
  exact ⟨rfl, hbel⟩
theorem wf_bd {x : Int} (h : (Lit.int .i64 x).wf = true) : -9223372036854775808 ≤ x ∧ x ≤ 9223372036854775807 := bounds_i64 h
set_option maxRecDepth 100000 in
set_option maxHeartbeats 1000000 in
theorem rasterOver_walk (W : World) (a : Int) (wa : (Lit.int .i64 a).wf = true) (b : Int) (wb : (Lit.int .i64 b).wf = true) (n : Int) (wn : (Lit.int .i64 n).wf = true) :
    Calls Try.prog 9 #[.int .i64 a, .int .i64 b, .int .i64 n] W fun e w' => e = .returned (.bool true) ∧ Below W.heap.size W w' := by
  have HA := Lib.hid (fun w => over_calls a b n w)
  have HB := Lib.hid (fun w => rover_calls a b n w (wf_bd wa) (wf_bd wb))
  obtain ⟨z, hz⟩ : ∃ z, z = overK a b n 3 := ⟨_, rfl⟩
  rw [← hz] at HA HB
  clear hz wa wb wn
  go_enter Try.func9, Try.ntmps9
  go_wp2_with (first | (go_at_call 33; refine (drawn_calls _).mono ?_; rintro e w1 ⟨rfl, hb1⟩) | (go_at_call 35; refine (HA.out _).mono ?_; rintro e w2 ⟨rfl, hb2⟩) | (go_at_call 36; refine (HB.out _).mono ?_; rintro e w3 ⟨rfl, hb3⟩))
  go_ret
  exact ⟨rfl, below_then (below_then hb1 hb2) hb3⟩
set_option maxRecDepth 100000 in
set_option maxHeartbeats 1000000 in
theorem eqDraw_calls (A A' : Option Addr) (n c c' B B' : Nat) (l : List DrawV) (w : World) (hn : l.length = n) (h : Holds w B A (draws l)) (h' : Holds w B' A' (draws l)) (hm : n ≤ 9223372036854775807) (hB : B ≤ w.heap.size) (hB' : B' ≤ w.heap.size) :
    Calls Try.prog 34 #[.slice A n c, .slice A' n c'] w fun e w' => e = .returned (.bool true) ∧ Below w.heap.size w w' := by
  have H := Lib.hid h
  have H' := Lib.hid h'
  have HN := Lib.hid hn
  clear h h' hn
  go_enter Try.func34, Try.ntmps34
  go_wp2_with fail
  go_loopw [14] (fun i wr => ∃ k : Nat, k ≤ n ∧ i = .int .i64 k ∧ Below w.heap.size w wr) (fun i _ => n - (intOf i).toNat)
  case atStart => exact ⟨0, Nat.zero_le _, rfl, Below.refl _ _⟩
  case round =>
    obtain ⟨k, hk, rfl, hbel⟩ := hrel
    by_cases hlt : k < n
    · obtain ⟨b, off, rfl, hb, hc⟩ := (H.out.below hbel hB).flat (f := drawF) 14 (fun _ => rfl) (by omega) DrawV.zero (by rw [HN.out]; exact hlt)
      obtain ⟨b', off', rfl, hb', hc'⟩ := (H'.out.below hbel hB').flat (f := drawF) 14 (fun _ => rfl) (by omega) DrawV.zero (by rw [HN.out]; exact hlt)
      obtain ⟨⟨⟨d, node, x, y, cw, ch, color, cn, text⟩, ⟨sx, sy, sw, sh, sn⟩⟩, hx⟩ : ∃ x, x = l.getD k DrawV.zero := ⟨_, rfl⟩
      rw [← hx] at hc hc'
      have c0 := hc 0 _ rfl
      have c1 := hc 1 _ rfl
      have c2 := hc 2 _ rfl
      have c3 := hc 3 _ rfl
      have c4 := hc 4 _ rfl
      have c5 := hc 5 _ rfl
      have c6 := hc 6 _ rfl
      have c7 := hc 7 _ rfl
      have c8 := hc 8 _ rfl
      have c9 := hc 9 _ rfl
      have c10 := hc 10 _ rfl
      have c11 := hc 11 _ rfl
      have c12 := hc 12 _ rfl
      have c13 := hc 13 _ rfl
      have hw := hbel.size
      have KK := Lib.hid (show k ≤ n ∧ k < n from ⟨hk, hlt⟩)
      have hcX := Lib.hid hc'
      clear hc hc' hx
      simp only [Nat.add_zero] at c0
      go_wp2_with fail
      have hb1 := (Below.refl wr.heap.size wr).alloc (Nat.le_refl _) (.cells #[.int .i64 d, .int .i64 node, .int .i64 x, .int .i64 y, .int .i64 cw, .int .i64 ch, .int .i64 color, .int .i64 cn, .string text, .int .i64 sx, .int .i64 sy, .int .i64 sw, .int .i64 sh, .int .i64 sn] 59)
      have hbn := Blk.new wr 59 #[.int .i64 d, .int .i64 node, .int .i64 x, .int .i64 y, .int .i64 cw, .int .i64 ch, .int .i64 color, .int .i64 cn, .string text, .int .i64 sx, .int .i64 sy, .int .i64 sw, .int .i64 sh, .int .i64 sn]
      have hbel := below_alloc hbel (.cells #[.int .i64 d, .int .i64 node, .int .i64 x, .int .i64 y, .int .i64 cw, .int .i64 ch, .int .i64 color, .int .i64 cn, .string text, .int .i64 sx, .int .i64 sy, .int .i64 sw, .int .i64 sh, .int .i64 sn] 59)
      have e0 := (hb1.cell (p := ⟨b', off' + k * 14 + 0, none⟩) (by show b' < _; omega)).trans (hcX.out 0 _ rfl)
      have e1 := (hb1.cell (p := ⟨b', off' + k * 14 + 1, none⟩) (by show b' < _; omega)).trans (hcX.out 1 _ rfl)
      have e2 := (hb1.cell (p := ⟨b', off' + k * 14 + 2, none⟩) (by show b' < _; omega)).trans (hcX.out 2 _ rfl)
      have e3 := (hb1.cell (p := ⟨b', off' + k * 14 + 3, none⟩) (by show b' < _; omega)).trans (hcX.out 3 _ rfl)
      have e4 := (hb1.cell (p := ⟨b', off' + k * 14 + 4, none⟩) (by show b' < _; omega)).trans (hcX.out 4 _ rfl)
      have e5 := (hb1.cell (p := ⟨b', off' + k * 14 + 5, none⟩) (by show b' < _; omega)).trans (hcX.out 5 _ rfl)
      have e6 := (hb1.cell (p := ⟨b', off' + k * 14 + 6, none⟩) (by show b' < _; omega)).trans (hcX.out 6 _ rfl)
      have e7 := (hb1.cell (p := ⟨b', off' + k * 14 + 7, none⟩) (by show b' < _; omega)).trans (hcX.out 7 _ rfl)
      have e8 := (hb1.cell (p := ⟨b', off' + k * 14 + 8, none⟩) (by show b' < _; omega)).trans (hcX.out 8 _ rfl)
      have e9 := (hb1.cell (p := ⟨b', off' + k * 14 + 9, none⟩) (by show b' < _; omega)).trans (hcX.out 9 _ rfl)
      have e10 := (hb1.cell (p := ⟨b', off' + k * 14 + 10, none⟩) (by show b' < _; omega)).trans (hcX.out 10 _ rfl)
      have e11 := (hb1.cell (p := ⟨b', off' + k * 14 + 11, none⟩) (by show b' < _; omega)).trans (hcX.out 11 _ rfl)
      have e12 := (hb1.cell (p := ⟨b', off' + k * 14 + 12, none⟩) (by show b' < _; omega)).trans (hcX.out 12 _ rfl)
      have e13 := (hb1.cell (p := ⟨b', off' + k * 14 + 13, none⟩) (by show b' < _; omega)).trans (hcX.out 13 _ rfl)
      simp only [Nat.add_zero] at e0
      clear hb1 c0 c1 c2 c3 c4 c5 c6 c7 c8 c9 c10 c11 c12 c13 hcX
      generalize hW2 : World.alloc wr _ = w2 at e0 e1 e2 e3 e4 e5 e6 e7 e8 e9 e10 e11 e12 e13 hbn hbel ⊢
      have f0 : w2.cell? ⟨wr.heap.size, 0, none⟩ = some (.int .i64 d) := hbn.cell 0
      have f1 : w2.cell? ⟨wr.heap.size, 1, none⟩ = some (.int .i64 node) := hbn.cell 1
      have f2 : w2.cell? ⟨wr.heap.size, 2, none⟩ = some (.int .i64 x) := hbn.cell 2
      have f3 : w2.cell? ⟨wr.heap.size, 3, none⟩ = some (.int .i64 y) := hbn.cell 3
      have f4 : w2.cell? ⟨wr.heap.size, 4, none⟩ = some (.int .i64 cw) := hbn.cell 4
      have f5 : w2.cell? ⟨wr.heap.size, 5, none⟩ = some (.int .i64 ch) := hbn.cell 5
      have f6 : w2.cell? ⟨wr.heap.size, 6, none⟩ = some (.int .i64 color) := hbn.cell 6
      have f7 : w2.cell? ⟨wr.heap.size, 7, none⟩ = some (.int .i64 cn) := hbn.cell 7
      have f8 : w2.cell? ⟨wr.heap.size, 8, none⟩ = some (.string text) := hbn.cell 8
      have f9 : w2.cell? ⟨wr.heap.size, 9, none⟩ = some (.int .i64 sx) := hbn.cell 9
      have f10 : w2.cell? ⟨wr.heap.size, 10, none⟩ = some (.int .i64 sy) := hbn.cell 10
      have f11 : w2.cell? ⟨wr.heap.size, 11, none⟩ = some (.int .i64 sw) := hbn.cell 11
      have f12 : w2.cell? ⟨wr.heap.size, 12, none⟩ = some (.int .i64 sh) := hbn.cell 12
      have f13 : w2.cell? ⟨wr.heap.size, 13, none⟩ = some (.int .i64 sn) := hbn.cell 13
      clear hbn hW2
      go_quiet (fail)
      go_wp2_with fail
      go_roundw
      case rel => exact ⟨k + 1, by have := KK.out; omega, by go_num, below_drewN hbel _⟩
      case measure => have := KK.out; simp [intOf]; omega
    · go_wp2_with fail
      go_ret
      exact ⟨rfl, hbel⟩
theorem cmds_taken (l : List CmdV) (w : World) (B : Nat) (A : Option Addr) (k : Nat) (h : Holds w B A (cmds l)) : Holds w B A (cmds (l.take k)) := by
  rw [← cmds_take]; exact h.take _
set_option maxRecDepth 100000 in
set_option maxHeartbeats 1000000 in
theorem rasterFlat_walk (W : World) (a : Option Addr) (len cap : Nat) (l : List CmdV) (hl : l.length = len) (hh : Holds W W.heap.size a (cmds l)) (hc : len ≤ cap) (hm : cap ≤ maxLen) :
    Calls Try.prog 8 #[.slice a len cap] W fun e w' => e = .returned (.bool true) ∧ Below W.heap.size W w' := by
  unfold maxLen at hm
  obtain ⟨m, hmm⟩ : ∃ m, m = min len 60 := ⟨_, rfl⟩
  have hm1 : min (len : Int) 60 = (m : Int) := by omega
  have hm2 : m ≤ cap := by omega
  have hm3 : m ≤ 60 := by omega
  have hm4 : (0 : Int) ≤ (m : Int) := by omega
  have hL : (l.take m).length = m := by rw [List.length_take]; omega
  have hT := cmds_taken l W W.heap.size a m hh
  have hbel := Below.refl W.heap.size W
  have H1 := Lib.hid (fun (w : World) (hb : Below W.heap.size W w) => flat_calls a m cap W.heap.size (l.take m) w hL (hT.below hb (Nat.le_refl _)) (by omega) hb.size)
  have H2 := Lib.hid (fun (w : World) (hb : Below W.heap.size W w) => rflat_calls a m cap W.heap.size (l.take m) w hL (hT.below hb (Nat.le_refl _)) (by omega) hb.size)
  have hlen := flatGo_len (l.take m) [] []
  rw [hL] at hlen
  obtain ⟨⟨R, er⟩, hR⟩ : ∃ R, R = flatGo (l.take m) [] [] := ⟨_, rfl⟩
  rw [← hR] at H1 H2 hlen
  simp only [List.length_nil, Nat.zero_add] at hlen
  have HM := Lib.hid hm1
  clear hR hT hL hl hh hmm hm1
  go_enter Try.func8, Try.ntmps8
  have hm1 := HM.out
  go_wp2_with (first | (go_at_call 31; refine (H1.out _ hbel).mono ?_; rintro e w1 ⟨v, rfl, hv, hb1⟩; obtain ⟨A1, c1, rfl⟩ := own_open hv; have hbel := below_then hbel hb1; have R1 := Lib.hid (Holds.of_own hv); have hs1 := hb1.size; clear hv) | (go_at_call 32; refine (H2.out _ hbel).mono ?_; rintro e w2 ⟨v2, rfl, hv2, hb2⟩; obtain ⟨A2, c2, rfl⟩ := own_open hv2; have hbel := below_then hbel hb2; have R2 := Lib.hid (Holds.of_own hv2); have R3 := Lib.hid (R1.out.below hb2 (Nat.le_refl _)); have hs2 := hb2.size; clear hv2) | (go_at_call 33; refine (drawn_calls _).mono ?_; rintro e w3 ⟨rfl, hb3⟩; have hbel := below_then hbel hb3; have R4 := Lib.hid (R3.out.below hb3 hs2); have R5 := Lib.hid (R2.out.below hb3 (Nat.le_refl _)); have hs3 := hb3.size) | (go_at_call 34; refine (eqDraw_calls _ _ _ _ _ _ _ R _ rfl R4.out R5.out (by omega) (by omega) hs3).mono ?_; rintro e w4 ⟨rfl, hb4⟩))
  go_ret
  exact ⟨rfl, below_then hbel hb4⟩
end Go.Proofs.Ytkppignoomnmdaa
