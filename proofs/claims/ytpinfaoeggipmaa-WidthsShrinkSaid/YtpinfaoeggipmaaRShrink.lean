/- The reference's Shrink and High. -/
import Derived.Test.YtpinfaoeggipmaaHigh
namespace Go.Proofs.Ytpinfaoeggipmaa
open Go.RowKit
set_option linter.unusedVariables false
set_option linter.unusedSimpArgs false
attribute [local go_sem high] run_min2 run_max2

set_option maxRecDepth 100000 in
set_option maxHeartbeats 4000000 in
theorem rshrink0_calls (zs : List Int) (room least most r rim rimh mt mr mb ml N : Int) (w : World) (hz : zs.length = 118) (hr : r = cut room)
    (hri : ∀ w, Calls Try.prog 67 #[.agg (sty zs), .int .i64 r] w fun e w' => e = .returned (.tuple #[.int .i64 rim, .int .i64 rimh]) ∧ Below w.heap.size w w')
    (hed : ∀ w, Calls Try.prog 32 #[.agg (sty zs), .int .i64 11, .int .i64 r, .bool false] w fun e w' => e = .returned (.agg #[.int .i64 mt, .int .i64 mr, .int .i64 mb, .int .i64 ml]) ∧ Below w.heap.size w w')
    (hbd : ∀ w, Calls Try.prog 68 #[.agg (sty zs), .int .i64 5, .int .i64 7, .int .i64 9, .int .i64 r, .int .i64 rim, .int .i64 (min (cut most) (max (cut least) (r - ml - mr - rim))), .bool true] w fun e w' => e = .returned (.int .i64 N) ∧ Below w.heap.size w w')
    (r0 : -16777216 ≤ r) (r1 : r ≤ 16777216) (l0 : -16777216 ≤ ml) (l1 : ml ≤ 16777216) (m0 : -16777216 ≤ mr) (m1 : mr ≤ 16777216) (i0 : 0 ≤ rim) (i1 : rim ≤ 67108864) :
    Calls Try.prog 37 #[.agg (sty zs), .int .i64 room, .int .i64 least, .int .i64 most] w fun e w' => e = .returned (.int .i64 (cut N)) ∧ Below w.heap.size w w' := by
  have HSZ : Hid ((Try.prog.info? 38).map (·.size) = some (sty zs).size) := by show _ = _; rw [sty_size, hz]; kernel_rfl
  have b0 := Blk.new w 38 (sty zs)
  have hbel := below_alloc (Below.refl _ w) (.cells (sty zs) 38)
  have HRI := Lib.hid hri
  have HED := Lib.hid hed
  have HBD := Lib.hid hbd
  have HR := Lib.hid hr
  clear hri hed hbd hr
  go_enter Try.func37, Try.ntmps37
  go_wp2_with (first | (go_at_call 20; refine (rcut_calls _ _).mono ?_; rintro e w' ⟨rfl, rfl⟩; try rw [← HR.out]) | (refine wpList_load_row rfl 38 _ rfl w.heap.size rfl 38 (sty zs) (0, 0) _ (by repeat (first | exact b0 | refine Blk.alloc ?_ _)) Try.underlying38 rfl HSZ.out ?_) | (go_at_call 67; refine (HRI.out _).mono ?_; rintro e w1 ⟨rfl, hb1⟩; have b0 := b0.below hb1 b0.lt; have hbel := below_then hbel hb1) | (go_at_call 32; refine (HED.out _).mono ?_; rintro e w3 ⟨rfl, hb3⟩; have b0 := b0.below hb3 b0.lt; have hbel := below_then hbel hb3))
  have be := (Blk.new w3 41 #[.int .i64 mt, .int .i64 mr, .int .i64 mb, .int .i64 ml]).drew
  have b0 := (b0.alloc (.cells #[.int .i64 mt, .int .i64 mr, .int .i64 mb, .int .i64 ml] 41)).drew
  have hbel := (below_alloc hbel (.cells #[.int .i64 mt, .int .i64 mr, .int .i64 mb, .int .i64 ml] 41)).drew
  refine wp_region_noPanic ?_
  refine wp_region_held_drew (S := fun w' => w'.cell? ⟨w3.heap.size, 1, none⟩ = some (.int .i64 mr) ∧ w'.cell? ⟨w3.heap.size, 3, none⟩ = some (.int .i64 ml)) (by kernel_rfl) (⟨be.cell 1, be.cell 3⟩) (fun hHeld => ?_)
  refine wpAnyH_take (i := 0) (oi := { dst := some 24, op := _, type := _, pos := _, after := _, guard := _ }) (v := ?_) rfl (by kernel_rfl) (by kernel_rfl) (by kernel_rfl) (fun _ _ _ h => h) (Or.inl ⟨by kernel_rfl, ?_⟩) (by assumption) ?_
  rotate_left 1
  · (intro w hSw; (try dsimp only at hSw); go_simp; try with_reducible rfl)
  try simp only [Act.put, Array.toArray_toList, List.setIfInBounds_toArray, List.set_cons_zero, List.set_cons_succ]
  refine wpAnyH_take (i := 2) (oi := { dst := some 26, op := _, type := _, pos := _, after := _, guard := _ }) (v := ?_) rfl (by kernel_rfl) (by kernel_rfl) (by kernel_rfl) (fun _ _ _ h => h) (Or.inl ⟨by kernel_rfl, ?_⟩) (by assumption) ?_
  rotate_left 1
  · (intro w hSw; (try dsimp only at hSw); go_simp; try with_reducible rfl)
  try simp only [Act.put, Array.toArray_toList, List.setIfInBounds_toArray, List.set_cons_zero, List.set_cons_succ]
  refine wpAnyH_take (i := 4) (oi := { dst := some 28, op := _, type := _, pos := _, after := _, guard := _ }) (v := ?_) rfl (by kernel_rfl) (by kernel_rfl) (by kernel_rfl) (fun _ _ _ h => h) (Or.inl ⟨by kernel_rfl, ?_⟩) (by assumption) ?_
  rotate_left 1
  · (intro w hSw; (try dsimp only at hSw); go_simp; try with_reducible rfl)
  try simp only [Act.put, Array.toArray_toList, List.setIfInBounds_toArray, List.set_cons_zero, List.set_cons_succ]
  refine wpAnyH_take (i := 5) (oi := { dst := some 29, op := _, type := _, pos := _, after := _, guard := _ }) (v := ?_) rfl (by kernel_rfl) (by kernel_rfl) (by kernel_rfl) (fun _ _ _ h => h) (Or.inl ⟨by kernel_rfl, ?_⟩) (by assumption) ?_
  rotate_left 1
  · (intro w hSw; (try dsimp only at hSw); go_simp; try with_reducible rfl)
  try simp only [Act.put, Array.toArray_toList, List.setIfInBounds_toArray, List.set_cons_zero, List.set_cons_succ]
  refine wpAnyH_take (i := 6) (oi := { dst := some 30, op := _, type := _, pos := _, after := _, guard := _ }) (v := ?_) rfl (by kernel_rfl) (by kernel_rfl) (by kernel_rfl) (fun _ _ _ h => h) (Or.inl ⟨by kernel_rfl, ?_⟩) (by assumption) ?_
  rotate_left 1
  · (intro w hSw; (try dsimp only at hSw); go_simp; try with_reducible rfl)
  try simp only [Act.put, Array.toArray_toList, List.setIfInBounds_toArray, List.set_cons_zero, List.set_cons_succ]
  refine wpAnyH_take (i := 7) (oi := { dst := some 31, op := _, type := _, pos := _, after := _, guard := _ }) (v := ?_) rfl (by kernel_rfl) (by kernel_rfl) (by kernel_rfl) (fun _ _ _ h => h) (Or.inl ⟨by kernel_rfl, ?_⟩) (by assumption) ?_
  rotate_left 1
  · (intro w hSw; (try dsimp only at hSw); go_simp; try with_reducible rfl)
  try simp only [Act.put, Array.toArray_toList, List.setIfInBounds_toArray, List.set_cons_zero, List.set_cons_succ]
  refine wpAnyH_take (i := 8) (oi := { dst := some 32, op := _, type := _, pos := _, after := _, guard := _ }) (v := ?_) rfl (by kernel_rfl) (by kernel_rfl) (by kernel_rfl) (fun _ _ _ h => h) (Or.inl ⟨by kernel_rfl, ?_⟩) (by assumption) ?_
  rotate_left 1
  · (intro w hSw; (try dsimp only at hSw); go_simp; try with_reducible rfl)
  try simp only [Act.put, Array.toArray_toList, List.setIfInBounds_toArray, List.set_cons_zero, List.set_cons_succ]
  refine wpAnyH_take (i := 9) (oi := { dst := some 33, op := _, type := _, pos := _, after := _, guard := _ }) (v := ?_) rfl (by kernel_rfl) (by kernel_rfl) (by kernel_rfl) (fun _ _ _ h => h) (Or.inl ⟨by kernel_rfl, ?_⟩) (by assumption) ?_
  rotate_left 1
  · (intro w hSw; (try dsimp only at hSw); go_simp; try with_reducible rfl)
  try simp only [Act.put, Array.toArray_toList, List.setIfInBounds_toArray, List.set_cons_zero, List.set_cons_succ]
  refine wpAnyH_take (i := 10) (oi := { dst := some 34, op := _, type := _, pos := _, after := _, guard := _ }) (v := ?_) rfl (by kernel_rfl) (by kernel_rfl) (by kernel_rfl) (fun _ _ _ h => h) (Or.inl ⟨by kernel_rfl, ?_⟩) (by assumption) ?_
  rotate_left 1
  · (intro w hSw; (try dsimp only at hSw); go_simp; try with_reducible rfl)
  try simp only [Act.put, Array.toArray_toList, List.setIfInBounds_toArray, List.set_cons_zero, List.set_cons_succ]
  refine wpAnyH_take (i := 11) (oi := { dst := some 35, op := _, type := _, pos := _, after := _, guard := _ }) (v := ?_) rfl (by kernel_rfl) (by kernel_rfl) (by kernel_rfl) (fun _ _ _ h => h) (Or.inl ⟨by kernel_rfl, ?_⟩) (by assumption) ?_
  rotate_left 1
  · (intro w hSw; (try dsimp only at hSw); go_simp; try with_reducible rfl)
  try simp only [Act.put, Array.toArray_toList, List.setIfInBounds_toArray, List.set_cons_zero, List.set_cons_succ]
  refine wpAnyH_take (i := 12) (oi := { dst := some 36, op := _, type := _, pos := _, after := _, guard := _ }) (v := ?_) rfl (by kernel_rfl) (by kernel_rfl) (by kernel_rfl) (fun _ _ _ h => h) (Or.inl ⟨by kernel_rfl, ?_⟩) (by assumption) ?_
  rotate_left 1
  · (intro w hSw; (try dsimp only at hSw); go_simp; try with_reducible rfl)
  try simp only [Act.put, Array.toArray_toList, List.setIfInBounds_toArray, List.set_cons_zero, List.set_cons_succ]
  refine wpAnyH_ready (rs := [1]) (by kernel_rfl) (by simp) ?_
  refine AllReadyH.cons rfl (fun K hK => ?_) AllReadyH.nil
  go_simp
  refine (rcut_calls _ _).mono ?_
  rintro e w' ⟨rfl, rfl⟩
  refine hK.out _ _ (⟨be.cell 1, be.cell 3⟩) (fun hHeld => ?_)
  clear hK K
  try simp only [Act.put, Array.toArray_toList, List.setIfInBounds_toArray, List.set_cons_zero, List.set_cons_succ]
  refine wpAnyH_ready (rs := [3]) (by kernel_rfl) (by simp) ?_
  refine AllReadyH.cons rfl (fun K hK => ?_) AllReadyH.nil
  go_simp
  refine (rcut_calls _ _).mono ?_
  rintro e w' ⟨rfl, rfl⟩
  refine hK.out _ _ (⟨be.cell 1, be.cell 3⟩) (fun hHeld => ?_)
  clear hK K
  try simp only [Act.put, Array.toArray_toList, List.setIfInBounds_toArray, List.set_cons_zero, List.set_cons_succ]
  refine wpAnyH_take (i := 13) (oi := { dst := some 37, op := _, type := _, pos := _, after := _, guard := _ }) (v := ?_) rfl (by kernel_rfl) (by kernel_rfl) (by kernel_rfl) (fun _ _ _ h => h) (Or.inl ⟨by kernel_rfl, ?_⟩) (by assumption) ?_
  rotate_left 1
  · (intro w hSw; (try dsimp only at hSw); go_simp; try with_reducible rfl)
  try simp only [Act.put, Array.toArray_toList, List.setIfInBounds_toArray, List.set_cons_zero, List.set_cons_succ]
  refine wpAnyH_take (i := 14) (oi := { dst := some 38, op := _, type := _, pos := _, after := _, guard := _ }) (v := ?_) rfl (by kernel_rfl) (by kernel_rfl) (by kernel_rfl) (fun _ _ _ h => h) (Or.inl ⟨by kernel_rfl, ?_⟩) (by assumption) ?_
  rotate_left 1
  · (intro w hSw; (try dsimp only at hSw); go_simp; try with_reducible rfl)
  try simp only [Act.put, Array.toArray_toList, List.setIfInBounds_toArray, List.set_cons_zero, List.set_cons_succ]
  refine wpAnyH_take (i := 15) (oi := { dst := some 12, op := _, type := _, pos := _, after := _, guard := _ }) (v := ?_) rfl (by kernel_rfl) (by kernel_rfl) (by kernel_rfl) (fun _ _ _ h => h) (Or.inl ⟨by kernel_rfl, ?_⟩) (by assumption) ?_
  rotate_left 1
  · (intro w hSw; (try dsimp only at hSw); go_simp; try with_reducible rfl)
  try simp only [Act.put, Array.toArray_toList, List.setIfInBounds_toArray, List.set_cons_zero, List.set_cons_succ]
  refine wpAnyH_done (by kernel_rfl) ?_ _
  refine NoPanic.normal ?_
  go_wp2_with (first | (go_at_call 20; refine (rcut_calls _ _).mono ?_; rintro e w' ⟨rfl, rfl⟩; try rw [← HR.out]) | (refine wpList_load_row rfl 38 _ rfl w.heap.size rfl 38 (sty zs) (0, 0) _ (by repeat (first | exact b0 | refine Blk.alloc ?_ _)) Try.underlying38 rfl HSZ.out ?_) | (go_at_call 68; refine (HBD.out _).mono ?_; rintro e w4 ⟨rfl, hb4⟩; have hbel := below_then hbel hb4))
  go_ret
  exact ⟨rfl, hbel⟩

set_option maxRecDepth 100000 in
set_option maxHeartbeats 4000000 in
theorem rhigh0a_calls (zs : List Int) (room high r rim rimh N : Int) (w : World) (hz : zs.length = 118) (hr : r = cut room) (h0 : 0 ≤ r)
    (hri : ∀ w, Calls Try.prog 67 #[.agg (sty zs), .int .i64 r] w fun e w' => e = .returned (.tuple #[.int .i64 rimh, .int .i64 rim]) ∧ Below w.heap.size w w')
    (hbd : ∀ w, Calls Try.prog 68 #[.agg (sty zs), .int .i64 6, .int .i64 8, .int .i64 10, .int .i64 r, .int .i64 rim, .int .i64 (cut high), .bool true] w fun e w' => e = .returned (.int .i64 N) ∧ Below w.heap.size w w') :
    Calls Try.prog 39 #[.agg (sty zs), .int .i64 room, .int .i64 high] w fun e w' => e = .returned (.int .i64 (cut N)) ∧ Below w.heap.size w w' := by
  have HSZ : Hid ((Try.prog.info? 38).map (·.size) = some (sty zs).size) := by show _ = _; rw [sty_size, hz]; kernel_rfl
  have b0 := Blk.new w 38 (sty zs)
  have hbel := below_alloc (Below.refl _ w) (.cells (sty zs) 38)
  have hd0 : decide (0 ≤ r) = true := by simp; omega
  have HRI := Lib.hid hri
  have HBD := Lib.hid hbd
  have HR := Lib.hid hr
  clear hri hbd hr
  go_enter Try.func39, Try.ntmps39
  go_wp2_with (first | (go_at_call 20; refine (rcut_calls _ _).mono ?_; rintro e w' ⟨rfl, rfl⟩; try rw [← HR.out]) | (refine wpList_load_row rfl 38 _ rfl w.heap.size rfl 38 (sty zs) (0, 0) _ (by repeat (first | exact b0 | refine Blk.alloc ?_ _)) Try.underlying38 rfl HSZ.out ?_) | (go_at_call 67; refine (HRI.out _).mono ?_; rintro e w1 ⟨rfl, hb1⟩; have b0 := b0.below hb1 b0.lt; have hbel := below_then hbel hb1))
  have hu := Try.underlying38
  have hlen : (Try.prog.info? 38).map (·.size) = some (sty zs).toList.length := by rw [Array.length_toList]; exact HSZ.out
  have KEEP : ∀ w', Blk w' w.heap.size 38 (sty zs) → w'.rangeAt w.heap.size 0 (sty zs).toList := fun w' h1 => fun j v hv => by rw [Nat.zero_add, h1.cell]; simpa using hv
  have KEEP' := Lib.hid KEEP
  have b0 := b0.drew
  have hbel := hbel.drew
  clear KEEP
  refine wp_region_noPanic ?_
  refine wp_region_held_drew (S := fun w' => w'.rangeAt w.heap.size 0 (sty zs).toList) (by kernel_rfl) (KEEP'.out _ b0) (fun hHeld => ?_)
  refine wpAnyH_take (i := 0) (oi := { dst := some 17, op := _, type := _, pos := _, after := _, guard := _ }) (v := _) rfl (by kernel_rfl) (by kernel_rfl) (by kernel_rfl) (fun _ _ _ h => h) (yieldsIf_load_mid (by kernel_rfl) _ _ rfl _ _ rfl _ _ (fun w hSw => by (try dsimp only at hSw); exact hSw) hu rfl hlen) (by assumption) ?_
  try simp only [Act.put, Array.toArray_toList, List.setIfInBounds_toArray, List.set_cons_zero, List.set_cons_succ]
  refine wpAnyH_take (i := 1) (oi := { dst := some 18, op := _, type := _, pos := _, after := _, guard := _ }) (v := ?_) rfl (by kernel_rfl) (by kernel_rfl) (by kernel_rfl) (fun _ _ _ h => h) (Or.inl ⟨by kernel_rfl, ?_⟩) (by assumption) ?_
  rotate_left 1
  · (intro w hSw; (try dsimp only at hSw); go_simp; try with_reducible rfl)
  try simp only [Act.put, Array.toArray_toList, List.setIfInBounds_toArray, List.set_cons_zero, List.set_cons_succ]
  refine wpAnyH_take (i := 2) (oi := { dst := some 19, op := _, type := _, pos := _, after := _, guard := _ }) (v := ?_) rfl (by kernel_rfl) (by kernel_rfl) (by kernel_rfl) (fun _ _ _ h => h) (Or.inl ⟨by kernel_rfl, ?_⟩) (by assumption) ?_
  rotate_left 1
  · (intro w hSw; (try dsimp only at hSw); go_simp; try with_reducible rfl)
  try simp only [Act.put, Array.toArray_toList, List.setIfInBounds_toArray, List.set_cons_zero, List.set_cons_succ]
  refine wpAnyH_take (i := 3) (oi := { dst := some 20, op := _, type := _, pos := _, after := _, guard := _ }) (v := ?_) rfl (by kernel_rfl) (by kernel_rfl) (by kernel_rfl) (fun _ _ _ h => h) (Or.inl ⟨by kernel_rfl, ?_⟩) (by assumption) ?_
  rotate_left 1
  · (intro w hSw; (try dsimp only at hSw); go_simp; try with_reducible rfl)
  try simp only [Act.put, Array.toArray_toList, List.setIfInBounds_toArray, List.set_cons_zero, List.set_cons_succ]
  refine wpAnyH_take (i := 5) (oi := { dst := some 22, op := _, type := _, pos := _, after := _, guard := _ }) (v := ?_) rfl (by kernel_rfl) (by kernel_rfl) (by kernel_rfl) (fun _ _ _ h => h) (Or.inl ⟨by kernel_rfl, ?_⟩) (by assumption) ?_
  rotate_left 1
  · (intro w hSw; (try dsimp only at hSw); go_simp; try with_reducible rfl)
  try simp only [Act.put, Array.toArray_toList, List.setIfInBounds_toArray, List.set_cons_zero, List.set_cons_succ]
  refine wpAnyH_take (i := 6) (oi := { dst := some 23, op := _, type := _, pos := _, after := _, guard := _ }) (v := ?_) rfl (by kernel_rfl) (by kernel_rfl) (by kernel_rfl) (fun _ _ _ h => h) (Or.inl ⟨by kernel_rfl, ?_⟩) (by assumption) ?_
  rotate_left 1
  · (intro w hSw; (try dsimp only at hSw); go_simp; try with_reducible rfl)
  try simp only [Act.put, Array.toArray_toList, List.setIfInBounds_toArray, List.set_cons_zero, List.set_cons_succ]
  refine wpAnyH_ready (rs := [4]) (by kernel_rfl) (by simp) ?_
  refine AllReadyH.cons rfl (fun K hK => ?_) AllReadyH.nil
  go_simp
  refine (rcut_calls _ _).mono ?_
  rintro e w' ⟨rfl, rfl⟩
  refine hK.out _ _ (KEEP'.out _ b0) (fun hHeld => ?_)
  clear hK K
  try simp only [Act.put, Array.toArray_toList, List.setIfInBounds_toArray, List.set_cons_zero, List.set_cons_succ]
  refine wpAnyH_ready (rs := [7]) (by kernel_rfl) (by simp) ?_
  refine AllReadyH.cons rfl (fun K hK => ?_) AllReadyH.nil
  go_simp
  refine (HBD.out _).mono ?_
  rintro e w4 ⟨rfl, hb4⟩
  have b0 := b0.below hb4 b0.lt
  have hbel := below_then hbel hb4
  refine hK.out _ _ (KEEP'.out _ b0) (fun hHeld => ?_)
  clear hK K
  try simp only [Act.put, Array.toArray_toList, List.setIfInBounds_toArray, List.set_cons_zero, List.set_cons_succ]
  refine wpAnyH_ready (rs := [8]) (by kernel_rfl) (by simp) ?_
  refine AllReadyH.cons rfl (fun K hK => ?_) AllReadyH.nil
  go_simp
  refine (rcut_calls _ _).mono ?_
  rintro e w' ⟨rfl, rfl⟩
  refine hK.out _ _ (KEEP'.out _ b0) (fun hHeld => ?_)
  clear hK K
  try simp only [Act.put, Array.toArray_toList, List.setIfInBounds_toArray, List.set_cons_zero, List.set_cons_succ]
  refine wpAnyH_take (i := 9) (oi := { dst := some 6, op := _, type := _, pos := _, after := _, guard := _ }) (v := ?_) rfl (by kernel_rfl) (by kernel_rfl) (by kernel_rfl) (fun _ _ _ h => h) (Or.inl ⟨by kernel_rfl, ?_⟩) (by assumption) ?_
  rotate_left 1
  · (intro w hSw; (try dsimp only at hSw); go_simp; try with_reducible rfl)
  try simp only [Act.put, Array.toArray_toList, List.setIfInBounds_toArray, List.set_cons_zero, List.set_cons_succ]
  refine wpAnyH_done (by kernel_rfl) ?_ _
  refine NoPanic.normal ?_
  go_wp2_with fail
  go_ret
  exact ⟨rfl, hbel⟩

set_option maxRecDepth 100000 in
set_option maxHeartbeats 4000000 in
theorem rhigh0b_calls (zs : List Int) (room high r rim rimh N : Int) (w : World) (hz : zs.length = 118) (hr : r = cut room) (h0 : r < 0)
    (hri : ∀ w, Calls Try.prog 67 #[.agg (sty zs), .int .i64 r] w fun e w' => e = .returned (.tuple #[.int .i64 rimh, .int .i64 rim]) ∧ Below w.heap.size w w')
    (hbd : ∀ w, Calls Try.prog 68 #[.agg (sty zs), .int .i64 6, .int .i64 8, .int .i64 10, .int .i64 r, .int .i64 rim, .int .i64 (cut high), .bool false] w fun e w' => e = .returned (.int .i64 N) ∧ Below w.heap.size w w') :
    Calls Try.prog 39 #[.agg (sty zs), .int .i64 room, .int .i64 high] w fun e w' => e = .returned (.int .i64 (cut N)) ∧ Below w.heap.size w w' := by
  have HSZ : Hid ((Try.prog.info? 38).map (·.size) = some (sty zs).size) := by show _ = _; rw [sty_size, hz]; kernel_rfl
  have b0 := Blk.new w 38 (sty zs)
  have hbel := below_alloc (Below.refl _ w) (.cells (sty zs) 38)
  have hd0 : decide (0 ≤ r) = false := by simp; omega
  have HRI := Lib.hid hri
  have HBD := Lib.hid hbd
  have HR := Lib.hid hr
  clear hri hbd hr
  go_enter Try.func39, Try.ntmps39
  go_wp2_with (first | (go_at_call 20; refine (rcut_calls _ _).mono ?_; rintro e w' ⟨rfl, rfl⟩; try rw [← HR.out]) | (refine wpList_load_row rfl 38 _ rfl w.heap.size rfl 38 (sty zs) (0, 0) _ (by repeat (first | exact b0 | refine Blk.alloc ?_ _)) Try.underlying38 rfl HSZ.out ?_) | (go_at_call 67; refine (HRI.out _).mono ?_; rintro e w1 ⟨rfl, hb1⟩; have b0 := b0.below hb1 b0.lt; have hbel := below_then hbel hb1))
  have hu := Try.underlying38
  have hlen : (Try.prog.info? 38).map (·.size) = some (sty zs).toList.length := by rw [Array.length_toList]; exact HSZ.out
  have KEEP : ∀ w', Blk w' w.heap.size 38 (sty zs) → w'.rangeAt w.heap.size 0 (sty zs).toList := fun w' h1 => fun j v hv => by rw [Nat.zero_add, h1.cell]; simpa using hv
  have KEEP' := Lib.hid KEEP
  have b0 := b0.drew
  have hbel := hbel.drew
  clear KEEP
  refine wp_region_noPanic ?_
  refine wp_region_held_drew (S := fun w' => w'.rangeAt w.heap.size 0 (sty zs).toList) (by kernel_rfl) (KEEP'.out _ b0) (fun hHeld => ?_)
  refine wpAnyH_take (i := 0) (oi := { dst := some 17, op := _, type := _, pos := _, after := _, guard := _ }) (v := _) rfl (by kernel_rfl) (by kernel_rfl) (by kernel_rfl) (fun _ _ _ h => h) (yieldsIf_load_mid (by kernel_rfl) _ _ rfl _ _ rfl _ _ (fun w hSw => by (try dsimp only at hSw); exact hSw) hu rfl hlen) (by assumption) ?_
  try simp only [Act.put, Array.toArray_toList, List.setIfInBounds_toArray, List.set_cons_zero, List.set_cons_succ]
  refine wpAnyH_take (i := 1) (oi := { dst := some 18, op := _, type := _, pos := _, after := _, guard := _ }) (v := ?_) rfl (by kernel_rfl) (by kernel_rfl) (by kernel_rfl) (fun _ _ _ h => h) (Or.inl ⟨by kernel_rfl, ?_⟩) (by assumption) ?_
  rotate_left 1
  · (intro w hSw; (try dsimp only at hSw); go_simp; try with_reducible rfl)
  try simp only [Act.put, Array.toArray_toList, List.setIfInBounds_toArray, List.set_cons_zero, List.set_cons_succ]
  refine wpAnyH_take (i := 2) (oi := { dst := some 19, op := _, type := _, pos := _, after := _, guard := _ }) (v := ?_) rfl (by kernel_rfl) (by kernel_rfl) (by kernel_rfl) (fun _ _ _ h => h) (Or.inl ⟨by kernel_rfl, ?_⟩) (by assumption) ?_
  rotate_left 1
  · (intro w hSw; (try dsimp only at hSw); go_simp; try with_reducible rfl)
  try simp only [Act.put, Array.toArray_toList, List.setIfInBounds_toArray, List.set_cons_zero, List.set_cons_succ]
  refine wpAnyH_take (i := 3) (oi := { dst := some 20, op := _, type := _, pos := _, after := _, guard := _ }) (v := ?_) rfl (by kernel_rfl) (by kernel_rfl) (by kernel_rfl) (fun _ _ _ h => h) (Or.inl ⟨by kernel_rfl, ?_⟩) (by assumption) ?_
  rotate_left 1
  · (intro w hSw; (try dsimp only at hSw); go_simp; try with_reducible rfl)
  try simp only [Act.put, Array.toArray_toList, List.setIfInBounds_toArray, List.set_cons_zero, List.set_cons_succ]
  refine wpAnyH_take (i := 5) (oi := { dst := some 22, op := _, type := _, pos := _, after := _, guard := _ }) (v := ?_) rfl (by kernel_rfl) (by kernel_rfl) (by kernel_rfl) (fun _ _ _ h => h) (Or.inl ⟨by kernel_rfl, ?_⟩) (by assumption) ?_
  rotate_left 1
  · (intro w hSw; (try dsimp only at hSw); go_simp; try with_reducible rfl)
  try simp only [Act.put, Array.toArray_toList, List.setIfInBounds_toArray, List.set_cons_zero, List.set_cons_succ]
  refine wpAnyH_take (i := 6) (oi := { dst := some 23, op := _, type := _, pos := _, after := _, guard := _ }) (v := ?_) rfl (by kernel_rfl) (by kernel_rfl) (by kernel_rfl) (fun _ _ _ h => h) (Or.inl ⟨by kernel_rfl, ?_⟩) (by assumption) ?_
  rotate_left 1
  · (intro w hSw; (try dsimp only at hSw); go_simp; try with_reducible rfl)
  try simp only [Act.put, Array.toArray_toList, List.setIfInBounds_toArray, List.set_cons_zero, List.set_cons_succ]
  refine wpAnyH_ready (rs := [4]) (by kernel_rfl) (by simp) ?_
  refine AllReadyH.cons rfl (fun K hK => ?_) AllReadyH.nil
  go_simp
  refine (rcut_calls _ _).mono ?_
  rintro e w' ⟨rfl, rfl⟩
  refine hK.out _ _ (KEEP'.out _ b0) (fun hHeld => ?_)
  clear hK K
  try simp only [Act.put, Array.toArray_toList, List.setIfInBounds_toArray, List.set_cons_zero, List.set_cons_succ]
  refine wpAnyH_ready (rs := [7]) (by kernel_rfl) (by simp) ?_
  refine AllReadyH.cons rfl (fun K hK => ?_) AllReadyH.nil
  go_simp
  refine (HBD.out _).mono ?_
  rintro e w4 ⟨rfl, hb4⟩
  have b0 := b0.below hb4 b0.lt
  have hbel := below_then hbel hb4
  refine hK.out _ _ (KEEP'.out _ b0) (fun hHeld => ?_)
  clear hK K
  try simp only [Act.put, Array.toArray_toList, List.setIfInBounds_toArray, List.set_cons_zero, List.set_cons_succ]
  refine wpAnyH_ready (rs := [8]) (by kernel_rfl) (by simp) ?_
  refine AllReadyH.cons rfl (fun K hK => ?_) AllReadyH.nil
  go_simp
  refine (rcut_calls _ _).mono ?_
  rintro e w' ⟨rfl, rfl⟩
  refine hK.out _ _ (KEEP'.out _ b0) (fun hHeld => ?_)
  clear hK K
  try simp only [Act.put, Array.toArray_toList, List.setIfInBounds_toArray, List.set_cons_zero, List.set_cons_succ]
  refine wpAnyH_take (i := 9) (oi := { dst := some 6, op := _, type := _, pos := _, after := _, guard := _ }) (v := ?_) rfl (by kernel_rfl) (by kernel_rfl) (by kernel_rfl) (fun _ _ _ h => h) (Or.inl ⟨by kernel_rfl, ?_⟩) (by assumption) ?_
  rotate_left 1
  · (intro w hSw; (try dsimp only at hSw); go_simp; try with_reducible rfl)
  try simp only [Act.put, Array.toArray_toList, List.setIfInBounds_toArray, List.set_cons_zero, List.set_cons_succ]
  refine wpAnyH_done (by kernel_rfl) ?_ _
  refine NoPanic.normal ?_
  go_wp2_with fail
  go_ret
  exact ⟨rfl, hbel⟩

theorem rimH_bd (zs : List Int) (r : Int) : 0 ≤ rimH zs r ∧ rimH zs r ≤ 67108864 := by
  have h1 := abt_bd (len4_bd zs 19 r)
  have h2 := abt_bd (len4_bd zs 21 r)
  have h3 := abt_bd (len4_bd zs 15 r)
  have h4 := abt_bd (len4_bd zs 17 r)
  unfold rimH; omega
theorem rhigh_calls (zs : List Int) (room high : Int) (w : World) (hz : zs.length = 118) :
    Calls Try.prog 39 #[.agg (sty zs), .int .i64 room, .int .i64 high] w fun e w' => e = .returned (.int .i64 (cut (toldN zs (cut room) (rimH zs (cut room)) (decide (0 ≤ cut room)) 6 8 10 (cut high)))) ∧ Below w.heap.size w w' := by
  have hb := fun b w => rbound_calls zs 6 8 10 (cut room) (rimH zs (cut room)) (cut high) b w hz (by omega) (by omega) (by omega) (by omega) (by omega) (by omega) (rimH_bd _ _).1 (rimH_bd _ _).2
  by_cases h : 0 ≤ cut room
  · rw [decide_eq_true h]; exact rhigh0a_calls zs room high (cut room) (rimH zs (cut room)) (rimW zs (cut room)) _ w hz rfl h (fun w => rim_calls zs (cut room) w hz) (hb true)
  · rw [decide_eq_false h]; exact rhigh0b_calls zs room high (cut room) (rimH zs (cut room)) (rimW zs (cut room)) _ w hz rfl (by omega) (fun w => rim_calls zs (cut room) w hz) (hb false)
theorem rshrink_calls (zs : List Int) (room least most : Int) (w : World) (hz : zs.length = 118) :
    Calls Try.prog 37 #[.agg (sty zs), .int .i64 room, .int .i64 least, .int .i64 most] w fun e w' => e = .returned (.int .i64 (cut (sN zs (cut room) least most))) ∧ Below w.heap.size w w' :=
  rshrink0_calls zs room least most (cut room) (rimW zs (cut room)) (rimH zs (cut room)) (ml4 zs 11 (cut room)) (ml4 zs 12 (cut room)) (ml4 zs 13 (cut room)) (ml4 zs 14 (cut room)) (sN zs (cut room) least most) w hz rfl
    (fun w => rim_calls zs (cut room) w hz) (fun w => redges_calls zs 11 (cut room) false w hz (by omega) (by omega)) (fun w => rbound_calls zs 5 7 9 (cut room) _ _ true w hz (by omega) (by omega) (by omega) (by omega) (by omega) (by omega) (rimW_bd _ _).1 (rimW_bd _ _).2)
    (cut_lo _) (cut_hi _) (ml4_bd _ _ _).1 (ml4_bd _ _ _).2 (ml4_bd _ _ _).1 (ml4_bd _ _ _).2 (rimW_bd _ _).1 (rimW_bd _ _).2
end Go.Proofs.Ytpinfaoeggipmaa
