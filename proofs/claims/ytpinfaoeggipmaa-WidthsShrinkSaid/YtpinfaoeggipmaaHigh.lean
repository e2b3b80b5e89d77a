/- widths.High. -/
import Derived.Test.YtpinfaoeggipmaaShrink
import Derived.Great.Walk
import Derived.Deep.Cut
namespace Go.Proofs.Ytpinfaoeggipmaa
open Go.RowKit Go.Great
set_option linter.unusedVariables false
set_option linter.unusedSimpArgs false
attribute [local go_sem high] run_min2 run_max2

set_option maxRecDepth 100000 in
set_option maxHeartbeats 2000000 in
theorem high0a_calls (zs : List Int) (room r : Int) (high : Int) (w : World) (hz : zs.length = 118) (hr : r = cut room) (h0 : 0 ≤ r) :
    Calls Try.prog 38 #[.agg (sty zs), .int .i64 room, .int .i64 high] w fun e w' => e = .returned (.int .i64 (cut (toldN zs r (ab true (len4 zs 19 r) + ab true (len4 zs 21 r) + ab true (len4 zs 15 r) + ab true (len4 zs 17 r)) true 6 8 10 (cut high)))) ∧ Below w.heap.size w w' := by
  have HSZ : Hid ((Try.prog.info? 38).map (·.size) = some (sty zs).size) := by show _ = _; rw [sty_size, hz]; kernel_rfl
  have hf : ∀ b z p r, four b z p r = #[.int .i64 (ab b (len4 z p r)), .int .i64 (ab b (len4 z (p + 1) r)), .int .i64 (ab b (len4 z (p + 2) r)), .int .i64 (ab b (len4 z (p + 3) r))] := fun _ _ _ _ => rfl
  have b0 := Blk.new w 38 (sty zs)
  have hbel := below_alloc (Below.refl _ w) (.cells (sty zs) 38)
  have h19 := abt_bd (len4_bd zs 19 r)
  have h21 := abt_bd (len4_bd zs 21 r)
  have h15 := abt_bd (len4_bd zs 15 r)
  have h17 := abt_bd (len4_bd zs 17 r)
  have hd0 : decide (0 ≤ r) = true := by simp; omega
  have HR := Lib.hid hr
  have HT := Lib.hid (fun n w => told_calls zs r (ab true (len4 zs 19 r) + ab true (len4 zs 21 r) + ab true (len4 zs 15 r) + ab true (len4 zs 17 r)) true 6 8 10 n w hz (by omega) (by omega) (by omega) (by omega) (by omega) (by omega) (by omega) (by omega))
  have HSB : Hid ((Try.prog.info? 84).map (·.size) = some ((bnd zs r (ab true (len4 zs 19 r) + ab true (len4 zs 21 r) + ab true (len4 zs 15 r) + ab true (len4 zs 17 r)) true 6 8 10)).size) := by show _ = _; rw [bnd_size, hz]; kernel_rfl
  have HSB0 : Hid (((bnd zs r (ab true (len4 zs 19 r) + ab true (len4 zs 21 r) + ab true (len4 zs 15 r) + ab true (len4 zs 17 r)) true 6 8 10)).size = 124) := by show _ = _; rw [bnd_size, hz]
  have hbl := build_bnd zs hz r (ab true (len4 zs 19 r) + ab true (len4 zs 21 r) + ab true (len4 zs 15 r) + ab true (len4 zs 17 r)) true 6 8 10
  clear hr
  go_enter Try.func38, Try.ntmps38
  go_upto_region 4 with (first | (go_at_call 19; refine (cut_calls _ _).mono ?_; rintro e w' ⟨rfl, rfl⟩; try rw [← HR.out]) | (refine wpList_load_row rfl 38 _ rfl w.heap.size rfl 38 (sty zs) (0, 0) _ (by repeat (first | exact b0 | refine Blk.alloc ?_ _)) Try.underlying38 rfl HSZ.out ?_) | (go_at_call 30; refine (frame_calls _ _ _ hz).mono ?_; rintro e w1 ⟨rfl, hb1⟩; have b0 := b0.below hb1 b0.lt; have hbel := below_then hbel hb1; have hlw := hb1.size; simp only [alloc_size] at hlw))
  go_wp2_with (first | (refine wpList_allocTo rfl _ rfl _ _ (alloc_bnd _ _ rfl _) ?_; simp only [Act.put, List.setIfInBounds_toArray, List.set_cons_zero, List.set_cons_succ, alloc_size]; have ba := Blk.new (((w1.alloc (.cells #[.int .i64 (ab false (len4 zs 11 r)), .int .i64 (ab false (len4 zs 12 r)), .int .i64 (ab false (len4 zs 13 r)), .int .i64 (ab false (len4 zs 14 r))] 41)).alloc (.cells #[.int .i64 (ab true (len4 zs 19 r)), .int .i64 (ab true (len4 zs 20 r)), .int .i64 (ab true (len4 zs 21 r)), .int .i64 (ab true (len4 zs 22 r))] 41)).alloc (.cells #[.int .i64 (ab true (len4 zs 15 r)), .int .i64 (ab true (len4 zs 16 r)), .int .i64 (ab true (len4 zs 17 r)), .int .i64 (ab true (len4 zs 18 r))] 41)) 84 Try.zeroCells84; simp only [alloc_size] at ba; have b0 := ((((b0.alloc (.cells #[.int .i64 (ab false (len4 zs 11 r)), .int .i64 (ab false (len4 zs 12 r)), .int .i64 (ab false (len4 zs 13 r)), .int .i64 (ab false (len4 zs 14 r))] 41)).alloc (.cells #[.int .i64 (ab true (len4 zs 19 r)), .int .i64 (ab true (len4 zs 20 r)), .int .i64 (ab true (len4 zs 21 r)), .int .i64 (ab true (len4 zs 22 r))] 41)).alloc (.cells #[.int .i64 (ab true (len4 zs 15 r)), .int .i64 (ab true (len4 zs 16 r)), .int .i64 (ab true (len4 zs 17 r)), .int .i64 (ab true (len4 zs 18 r))] 41)).alloc (.cells Try.zeroCells84 84)); have hbel := below_alloc (below_alloc (below_alloc (below_alloc hbel (.cells #[.int .i64 (ab false (len4 zs 11 r)), .int .i64 (ab false (len4 zs 12 r)), .int .i64 (ab false (len4 zs 13 r)), .int .i64 (ab false (len4 zs 14 r))] 41)) (.cells #[.int .i64 (ab true (len4 zs 19 r)), .int .i64 (ab true (len4 zs 20 r)), .int .i64 (ab true (len4 zs 21 r)), .int .i64 (ab true (len4 zs 22 r))] 41)) (.cells #[.int .i64 (ab true (len4 zs 15 r)), .int .i64 (ab true (len4 zs 16 r)), .int .i64 (ab true (len4 zs 17 r)), .int .i64 (ab true (len4 zs 18 r))] 41)) (.cells Try.zeroCells84 84)) | (refine wpList_load_row rfl 38 _ rfl w.heap.size rfl 38 (sty zs) (0, 0) _ (by repeat (first | exact b0 | refine Blk.alloc ?_ _)) Try.underlying38 rfl HSZ.out ?_) | (refine wpList_runTo rfl _ rfl _ _ (exec_bnd zs hz r (ab true (len4 zs 19 r) + ab true (len4 zs 21 r) + ab true (len4 zs 15 r) + ab true (len4 zs 17 r)) true 6 8 10 _ _ _ _ _ _ _ _ _ _ rfl rfl rfl rfl rfl rfl rfl rfl) ?_; simp only [Act.put, Array.toArray_toList, List.setIfInBounds_toArray, List.set_cons_zero, List.set_cons_succ]) | (refine wpList_store_mid rfl 84 _ _ rfl (w1.heap.size + 1 + 1 + 1) 0 (bnd zs r (ab true (len4 zs 19 r) + ab true (len4 zs 21 r) + ab true (len4 zs 15 r) + ab true (len4 zs 17 r)) true 6 8 10) rfl rfl (ba.there _ (by rw [HSB0.out, zero_bnd]; omega)) (by exact HSB.out) (bnd_one _ _ _ _ _ _ _) ?_; simp only [Act.put, Array.toArray_toList, List.setIfInBounds_toArray, List.set_cons_zero, List.set_cons_succ]; have hbel := below_setCells (b := w1.heap.size + 1 + 1 + 1) (by omega) ((bnd zs r (ab true (len4 zs 19 r) + ab true (len4 zs 21 r) + ab true (len4 zs 15 r) + ab true (len4 zs 17 r)) true 6 8 10)).toList 0 _ hbel; have ba := ba.setAll (bnd zs r (ab true (len4 zs 19 r) + ab true (len4 zs 21 r) + ab true (len4 zs 15 r) + ab true (len4 zs 17 r)) true 6 8 10) (by rw [HSB0.out, zero_bnd]); generalize hW2 : World.setCells _ (w1.heap.size + 1 + 1 + 1) _ _ = w2 at ba hbel ⊢))
  have hu := Try.underlying84
  have hlen : (Try.prog.info? 84).map (·.size) = some ((bnd zs r (ab true (len4 zs 19 r) + ab true (len4 zs 21 r) + ab true (len4 zs 15 r) + ab true (len4 zs 17 r)) true 6 8 10)).toList.length := by rw [Array.length_toList]; exact HSB.out
  have KEEP : ∀ w', Blk w' (w1.heap.size + 1 + 1 + 1) 84 (bnd zs r (ab true (len4 zs 19 r) + ab true (len4 zs 21 r) + ab true (len4 zs 15 r) + ab true (len4 zs 17 r)) true 6 8 10) → w'.rangeAt (w1.heap.size + 1 + 1 + 1) 0 ((bnd zs r (ab true (len4 zs 19 r) + ab true (len4 zs 21 r) + ab true (len4 zs 15 r) + ab true (len4 zs 17 r)) true 6 8 10)).toList := fun w' h1 => fun j v hv => by rw [Nat.zero_add, h1.cell]; simpa using hv
  have KEEP' := Lib.hid KEEP
  have ba := ba.drew
  have hbel := hbel.drew
  clear KEEP
  refine wp_region_noPanic ?_
  refine wp_region_held_drew (S := fun w' => w'.rangeAt (w1.heap.size + 1 + 1 + 1) 0 ((bnd zs r (ab true (len4 zs 19 r) + ab true (len4 zs 21 r) + ab true (len4 zs 15 r) + ab true (len4 zs 17 r)) true 6 8 10)).toList) (by kernel_rfl) (KEEP'.out _ ba) (fun hHeld => ?_)
  refine wpAnyH_take (i := 0) (oi := { dst := some 38, op := _, type := _, pos := _, after := _, guard := _ }) (v := _) rfl (by kernel_rfl) (by kernel_rfl) (by kernel_rfl) (fun _ _ _ h => h) (yieldsIf_load_mid (by kernel_rfl) _ _ rfl _ _ rfl _ _ (fun w hSw => by (try dsimp only at hSw); exact hSw) hu rfl hlen) (by assumption) ?_
  try simp only [Act.put, Array.toArray_toList, List.setIfInBounds_toArray, List.set_cons_zero, List.set_cons_succ]
  refine wpAnyH_take (i := 1) (oi := { dst := some 39, op := _, type := _, pos := _, after := _, guard := _ }) (v := ?_) rfl (by kernel_rfl) (by kernel_rfl) (by kernel_rfl) (fun _ _ _ h => h) (Or.inl ⟨by kernel_rfl, ?_⟩) (by assumption) ?_
  rotate_left 1
  · (intro w hSw; (try dsimp only at hSw); go_simp; try with_reducible rfl)
  try simp only [Act.put, Array.toArray_toList, List.setIfInBounds_toArray, List.set_cons_zero, List.set_cons_succ]
  refine wpAnyH_ready (rs := [2]) (by kernel_rfl) (by simp) ?_
  refine AllReadyH.cons rfl (fun K hK => ?_) AllReadyH.nil
  go_simp
  refine (cut_calls _ _).mono ?_
  rintro e w' ⟨rfl, rfl⟩
  refine hK.out _ _ (KEEP'.out _ ba) (fun hHeld => ?_)
  clear hK K
  try simp only [Act.put, Array.toArray_toList, List.setIfInBounds_toArray, List.set_cons_zero, List.set_cons_succ]
  refine wpAnyH_ready (rs := [3]) (by kernel_rfl) (by simp) ?_
  refine AllReadyH.cons rfl (fun K hK => ?_) AllReadyH.nil
  go_simp
  refine (HT.out _ _).mono ?_
  rintro e w3 ⟨rfl, hb3⟩
  have ba := ba.below hb3 ba.lt
  have hbel := below_then hbel hb3
  refine hK.out _ _ (KEEP'.out _ ba) (fun hHeld => ?_)
  clear hK K
  try simp only [Act.put, Array.toArray_toList, List.setIfInBounds_toArray, List.set_cons_zero, List.set_cons_succ]
  refine wpAnyH_ready (rs := [4]) (by kernel_rfl) (by simp) ?_
  refine AllReadyH.cons rfl (fun K hK => ?_) AllReadyH.nil
  go_simp
  refine (cut_calls _ _).mono ?_
  rintro e w' ⟨rfl, rfl⟩
  refine hK.out _ _ (KEEP'.out _ ba) (fun hHeld => ?_)
  clear hK K
  try simp only [Act.put, Array.toArray_toList, List.setIfInBounds_toArray, List.set_cons_zero, List.set_cons_succ]
  refine wpAnyH_take (i := 5) (oi := { dst := some 6, op := _, type := _, pos := _, after := _, guard := _ }) (v := ?_) rfl (by kernel_rfl) (by kernel_rfl) (by kernel_rfl) (fun _ _ _ h => h) (Or.inl ⟨by kernel_rfl, ?_⟩) (by assumption) ?_
  rotate_left 1
  · (intro w hSw; (try dsimp only at hSw); go_simp; try with_reducible rfl)
  try simp only [Act.put, Array.toArray_toList, List.setIfInBounds_toArray, List.set_cons_zero, List.set_cons_succ]
  refine wpAnyH_done (by kernel_rfl) ?_ _
  refine NoPanic.normal ?_
  go_wp2_with fail
  go_ret
  exact ⟨rfl, hbel⟩

set_option maxRecDepth 100000 in
set_option maxHeartbeats 2000000 in
theorem high0b_calls (zs : List Int) (room r : Int) (high : Int) (w : World) (hz : zs.length = 118) (hr : r = cut room) (h0 : r < 0) :
    Calls Try.prog 38 #[.agg (sty zs), .int .i64 room, .int .i64 high] w fun e w' => e = .returned (.int .i64 (cut (toldN zs r (ab true (len4 zs 19 r) + ab true (len4 zs 21 r) + ab true (len4 zs 15 r) + ab true (len4 zs 17 r)) false 6 8 10 (cut high)))) ∧ Below w.heap.size w w' := by
  have HSZ : Hid ((Try.prog.info? 38).map (·.size) = some (sty zs).size) := by show _ = _; rw [sty_size, hz]; kernel_rfl
  have hf : ∀ b z p r, four b z p r = #[.int .i64 (ab b (len4 z p r)), .int .i64 (ab b (len4 z (p + 1) r)), .int .i64 (ab b (len4 z (p + 2) r)), .int .i64 (ab b (len4 z (p + 3) r))] := fun _ _ _ _ => rfl
  have b0 := Blk.new w 38 (sty zs)
  have hbel := below_alloc (Below.refl _ w) (.cells (sty zs) 38)
  have h19 := abt_bd (len4_bd zs 19 r)
  have h21 := abt_bd (len4_bd zs 21 r)
  have h15 := abt_bd (len4_bd zs 15 r)
  have h17 := abt_bd (len4_bd zs 17 r)
  have hd0 : decide (0 ≤ r) = false := by simp; omega
  have HR := Lib.hid hr
  have HT := Lib.hid (fun n w => told_calls zs r (ab true (len4 zs 19 r) + ab true (len4 zs 21 r) + ab true (len4 zs 15 r) + ab true (len4 zs 17 r)) false 6 8 10 n w hz (by omega) (by omega) (by omega) (by omega) (by omega) (by omega) (by omega) (by omega))
  have HSB : Hid ((Try.prog.info? 84).map (·.size) = some ((bnd zs r (ab true (len4 zs 19 r) + ab true (len4 zs 21 r) + ab true (len4 zs 15 r) + ab true (len4 zs 17 r)) false 6 8 10)).size) := by show _ = _; rw [bnd_size, hz]; kernel_rfl
  have HSB0 : Hid (((bnd zs r (ab true (len4 zs 19 r) + ab true (len4 zs 21 r) + ab true (len4 zs 15 r) + ab true (len4 zs 17 r)) false 6 8 10)).size = 124) := by show _ = _; rw [bnd_size, hz]
  have hbl := build_bnd zs hz r (ab true (len4 zs 19 r) + ab true (len4 zs 21 r) + ab true (len4 zs 15 r) + ab true (len4 zs 17 r)) false 6 8 10
  clear hr
  go_enter Try.func38, Try.ntmps38
  go_upto_region 4 with (first | (go_at_call 19; refine (cut_calls _ _).mono ?_; rintro e w' ⟨rfl, rfl⟩; try rw [← HR.out]) | (refine wpList_load_row rfl 38 _ rfl w.heap.size rfl 38 (sty zs) (0, 0) _ (by repeat (first | exact b0 | refine Blk.alloc ?_ _)) Try.underlying38 rfl HSZ.out ?_) | (go_at_call 30; refine (frame_calls _ _ _ hz).mono ?_; rintro e w1 ⟨rfl, hb1⟩; have b0 := b0.below hb1 b0.lt; have hbel := below_then hbel hb1; have hlw := hb1.size; simp only [alloc_size] at hlw))
  go_wp2_with (first | (refine wpList_allocTo rfl _ rfl _ _ (alloc_bnd _ _ rfl _) ?_; simp only [Act.put, List.setIfInBounds_toArray, List.set_cons_zero, List.set_cons_succ, alloc_size]; have ba := Blk.new (((w1.alloc (.cells #[.int .i64 (ab false (len4 zs 11 r)), .int .i64 (ab false (len4 zs 12 r)), .int .i64 (ab false (len4 zs 13 r)), .int .i64 (ab false (len4 zs 14 r))] 41)).alloc (.cells #[.int .i64 (ab true (len4 zs 19 r)), .int .i64 (ab true (len4 zs 20 r)), .int .i64 (ab true (len4 zs 21 r)), .int .i64 (ab true (len4 zs 22 r))] 41)).alloc (.cells #[.int .i64 (ab true (len4 zs 15 r)), .int .i64 (ab true (len4 zs 16 r)), .int .i64 (ab true (len4 zs 17 r)), .int .i64 (ab true (len4 zs 18 r))] 41)) 84 Try.zeroCells84; simp only [alloc_size] at ba; have b0 := ((((b0.alloc (.cells #[.int .i64 (ab false (len4 zs 11 r)), .int .i64 (ab false (len4 zs 12 r)), .int .i64 (ab false (len4 zs 13 r)), .int .i64 (ab false (len4 zs 14 r))] 41)).alloc (.cells #[.int .i64 (ab true (len4 zs 19 r)), .int .i64 (ab true (len4 zs 20 r)), .int .i64 (ab true (len4 zs 21 r)), .int .i64 (ab true (len4 zs 22 r))] 41)).alloc (.cells #[.int .i64 (ab true (len4 zs 15 r)), .int .i64 (ab true (len4 zs 16 r)), .int .i64 (ab true (len4 zs 17 r)), .int .i64 (ab true (len4 zs 18 r))] 41)).alloc (.cells Try.zeroCells84 84)); have hbel := below_alloc (below_alloc (below_alloc (below_alloc hbel (.cells #[.int .i64 (ab false (len4 zs 11 r)), .int .i64 (ab false (len4 zs 12 r)), .int .i64 (ab false (len4 zs 13 r)), .int .i64 (ab false (len4 zs 14 r))] 41)) (.cells #[.int .i64 (ab true (len4 zs 19 r)), .int .i64 (ab true (len4 zs 20 r)), .int .i64 (ab true (len4 zs 21 r)), .int .i64 (ab true (len4 zs 22 r))] 41)) (.cells #[.int .i64 (ab true (len4 zs 15 r)), .int .i64 (ab true (len4 zs 16 r)), .int .i64 (ab true (len4 zs 17 r)), .int .i64 (ab true (len4 zs 18 r))] 41)) (.cells Try.zeroCells84 84)) | (refine wpList_load_row rfl 38 _ rfl w.heap.size rfl 38 (sty zs) (0, 0) _ (by repeat (first | exact b0 | refine Blk.alloc ?_ _)) Try.underlying38 rfl HSZ.out ?_) | (refine wpList_runTo rfl _ rfl _ _ (exec_bnd zs hz r (ab true (len4 zs 19 r) + ab true (len4 zs 21 r) + ab true (len4 zs 15 r) + ab true (len4 zs 17 r)) false 6 8 10 _ _ _ _ _ _ _ _ _ _ rfl rfl rfl rfl rfl rfl rfl rfl) ?_; simp only [Act.put, Array.toArray_toList, List.setIfInBounds_toArray, List.set_cons_zero, List.set_cons_succ]) | (refine wpList_store_mid rfl 84 _ _ rfl (w1.heap.size + 1 + 1 + 1) 0 (bnd zs r (ab true (len4 zs 19 r) + ab true (len4 zs 21 r) + ab true (len4 zs 15 r) + ab true (len4 zs 17 r)) false 6 8 10) rfl rfl (ba.there _ (by rw [HSB0.out, zero_bnd]; omega)) (by exact HSB.out) (bnd_one _ _ _ _ _ _ _) ?_; simp only [Act.put, Array.toArray_toList, List.setIfInBounds_toArray, List.set_cons_zero, List.set_cons_succ]; have hbel := below_setCells (b := w1.heap.size + 1 + 1 + 1) (by omega) ((bnd zs r (ab true (len4 zs 19 r) + ab true (len4 zs 21 r) + ab true (len4 zs 15 r) + ab true (len4 zs 17 r)) false 6 8 10)).toList 0 _ hbel; have ba := ba.setAll (bnd zs r (ab true (len4 zs 19 r) + ab true (len4 zs 21 r) + ab true (len4 zs 15 r) + ab true (len4 zs 17 r)) false 6 8 10) (by rw [HSB0.out, zero_bnd]); generalize hW2 : World.setCells _ (w1.heap.size + 1 + 1 + 1) _ _ = w2 at ba hbel ⊢))
  have hu := Try.underlying84
  have hlen : (Try.prog.info? 84).map (·.size) = some ((bnd zs r (ab true (len4 zs 19 r) + ab true (len4 zs 21 r) + ab true (len4 zs 15 r) + ab true (len4 zs 17 r)) false 6 8 10)).toList.length := by rw [Array.length_toList]; exact HSB.out
  have KEEP : ∀ w', Blk w' (w1.heap.size + 1 + 1 + 1) 84 (bnd zs r (ab true (len4 zs 19 r) + ab true (len4 zs 21 r) + ab true (len4 zs 15 r) + ab true (len4 zs 17 r)) false 6 8 10) → w'.rangeAt (w1.heap.size + 1 + 1 + 1) 0 ((bnd zs r (ab true (len4 zs 19 r) + ab true (len4 zs 21 r) + ab true (len4 zs 15 r) + ab true (len4 zs 17 r)) false 6 8 10)).toList := fun w' h1 => fun j v hv => by rw [Nat.zero_add, h1.cell]; simpa using hv
  have KEEP' := Lib.hid KEEP
  have ba := ba.drew
  have hbel := hbel.drew
  clear KEEP
  refine wp_region_noPanic ?_
  refine wp_region_held_drew (S := fun w' => w'.rangeAt (w1.heap.size + 1 + 1 + 1) 0 ((bnd zs r (ab true (len4 zs 19 r) + ab true (len4 zs 21 r) + ab true (len4 zs 15 r) + ab true (len4 zs 17 r)) false 6 8 10)).toList) (by kernel_rfl) (KEEP'.out _ ba) (fun hHeld => ?_)
  refine wpAnyH_take (i := 0) (oi := { dst := some 38, op := _, type := _, pos := _, after := _, guard := _ }) (v := _) rfl (by kernel_rfl) (by kernel_rfl) (by kernel_rfl) (fun _ _ _ h => h) (yieldsIf_load_mid (by kernel_rfl) _ _ rfl _ _ rfl _ _ (fun w hSw => by (try dsimp only at hSw); exact hSw) hu rfl hlen) (by assumption) ?_
  try simp only [Act.put, Array.toArray_toList, List.setIfInBounds_toArray, List.set_cons_zero, List.set_cons_succ]
  refine wpAnyH_take (i := 1) (oi := { dst := some 39, op := _, type := _, pos := _, after := _, guard := _ }) (v := ?_) rfl (by kernel_rfl) (by kernel_rfl) (by kernel_rfl) (fun _ _ _ h => h) (Or.inl ⟨by kernel_rfl, ?_⟩) (by assumption) ?_
  rotate_left 1
  · (intro w hSw; (try dsimp only at hSw); go_simp; try with_reducible rfl)
  try simp only [Act.put, Array.toArray_toList, List.setIfInBounds_toArray, List.set_cons_zero, List.set_cons_succ]
  refine wpAnyH_ready (rs := [2]) (by kernel_rfl) (by simp) ?_
  refine AllReadyH.cons rfl (fun K hK => ?_) AllReadyH.nil
  go_simp
  refine (cut_calls _ _).mono ?_
  rintro e w' ⟨rfl, rfl⟩
  refine hK.out _ _ (KEEP'.out _ ba) (fun hHeld => ?_)
  clear hK K
  try simp only [Act.put, Array.toArray_toList, List.setIfInBounds_toArray, List.set_cons_zero, List.set_cons_succ]
  refine wpAnyH_ready (rs := [3]) (by kernel_rfl) (by simp) ?_
  refine AllReadyH.cons rfl (fun K hK => ?_) AllReadyH.nil
  go_simp
  refine (HT.out _ _).mono ?_
  rintro e w3 ⟨rfl, hb3⟩
  have ba := ba.below hb3 ba.lt
  have hbel := below_then hbel hb3
  refine hK.out _ _ (KEEP'.out _ ba) (fun hHeld => ?_)
  clear hK K
  try simp only [Act.put, Array.toArray_toList, List.setIfInBounds_toArray, List.set_cons_zero, List.set_cons_succ]
  refine wpAnyH_ready (rs := [4]) (by kernel_rfl) (by simp) ?_
  refine AllReadyH.cons rfl (fun K hK => ?_) AllReadyH.nil
  go_simp
  refine (cut_calls _ _).mono ?_
  rintro e w' ⟨rfl, rfl⟩
  refine hK.out _ _ (KEEP'.out _ ba) (fun hHeld => ?_)
  clear hK K
  try simp only [Act.put, Array.toArray_toList, List.setIfInBounds_toArray, List.set_cons_zero, List.set_cons_succ]
  refine wpAnyH_take (i := 5) (oi := { dst := some 6, op := _, type := _, pos := _, after := _, guard := _ }) (v := ?_) rfl (by kernel_rfl) (by kernel_rfl) (by kernel_rfl) (fun _ _ _ h => h) (Or.inl ⟨by kernel_rfl, ?_⟩) (by assumption) ?_
  rotate_left 1
  · (intro w hSw; (try dsimp only at hSw); go_simp; try with_reducible rfl)
  try simp only [Act.put, Array.toArray_toList, List.setIfInBounds_toArray, List.set_cons_zero, List.set_cons_succ]
  refine wpAnyH_done (by kernel_rfl) ?_ _
  refine NoPanic.normal ?_
  go_wp2_with fail
  go_ret
  exact ⟨rfl, hbel⟩

theorem high_calls (zs : List Int) (room high : Int) (w : World) (hz : zs.length = 118) :
    Calls Try.prog 38 #[.agg (sty zs), .int .i64 room, .int .i64 high] w fun e w' => e = .returned (.int .i64 (cut (toldN zs (cut room) (rimH zs (cut room)) (decide (0 ≤ cut room)) 6 8 10 (cut high)))) ∧ Below w.heap.size w w' := by
  by_cases h : 0 ≤ cut room
  · rw [decide_eq_true h]; exact high0a_calls zs room (cut room) high w hz rfl h
  · rw [decide_eq_false h]; exact high0b_calls zs room (cut room) high w hz rfl (by omega)
def sN (zs : List Int) (r least most : Int) : Int := toldN zs r (rimW zs r) true 5 7 9 (min (cut most) (max (cut least) (r - ml4 zs 14 r - ml4 zs 12 r - rimW zs r)))
theorem shrink_calls (zs : List Int) (room least most : Int) (w : World) (hz : zs.length = 118) :
    Calls Try.prog 36 #[.agg (sty zs), .int .i64 room, .int .i64 least, .int .i64 most] w fun e w' => e = .returned (.int .i64 (cut (sN zs (cut room) least most))) ∧ Below w.heap.size w w' :=
  shrink0_calls zs room least most (cut room) (rimW zs (cut room)) (ml4 zs 11 (cut room)) (ml4 zs 12 (cut room)) (ml4 zs 13 (cut room)) (ml4 zs 14 (cut room)) (sN zs (cut room) least most) w hz rfl
    (fun w => across_calls zs (cut room) w hz) (fun w => told_calls zs (cut room) _ true 5 7 9 _ w hz (by omega) (by omega) (by omega) (by omega) (by omega) (by omega) (rimW_bd _ _).1 (rimW_bd _ _).2)
    (cut_lo _) (cut_hi _) (ml4_bd _ _ _).1 (ml4_bd _ _ _).2 (ml4_bd _ _ _).1 (ml4_bd _ _ _).2 (rimW_bd _ _).1 (rimW_bd _ _).2
end Go.Proofs.Ytpinfaoeggipmaa
