/- widths.Shrink. -/
import Derived.Test.YtpinfaoeggipmaaWidthsWide
namespace Go.Proofs.Ytpinfaoeggipmaa
open Go.RowKit
set_option linter.unusedVariables false
set_option linter.unusedSimpArgs false
attribute [local go_sem high] run_min2 run_max2

set_option maxRecDepth 100000 in
set_option maxHeartbeats 2000000 in
theorem shrink0_calls (zs : List Int) (room least most r rim mt mr mb ml N : Int) (w : World) (hz : zs.length = 118) (hr : r = cut room)
    (hac : ∀ w, Calls Try.prog 65 #[.agg (sty zs), .int .i64 r] w fun e w' => e = .returned (.tuple #[.agg (bnd zs r rim true 5 7 9), .agg #[.int .i64 mt, .int .i64 mr, .int .i64 mb, .int .i64 ml]]) ∧ Below w.heap.size w w')
    (ht : ∀ w, Calls Try.prog 66 #[.agg (bnd zs r rim true 5 7 9), .int .i64 (min (cut most) (max (cut least) (r - ml - mr - rim)))] w fun e w' => e = .returned (.int .i64 N) ∧ Below w.heap.size w w')
    (r0 : -16777216 ≤ r) (r1 : r ≤ 16777216) (l0 : -16777216 ≤ ml) (l1 : ml ≤ 16777216) (m0 : -16777216 ≤ mr) (m1 : mr ≤ 16777216) (i0 : 0 ≤ rim) (i1 : rim ≤ 67108864) :
    Calls Try.prog 36 #[.agg (sty zs), .int .i64 room, .int .i64 least, .int .i64 most] w fun e w' => e = .returned (.int .i64 (cut N)) ∧ Below w.heap.size w w' := by
  have HSZ : Hid ((Try.prog.info? 38).map (·.size) = some (sty zs).size) := by show _ = _; rw [sty_size, hz]; kernel_rfl
  have HSB : Hid ((Try.prog.info? 84).map (·.size) = some ((bnd zs r rim true 5 7 9)).size) := by show _ = _; rw [bnd_size, hz]; kernel_rfl
  have HSB0 : Hid (((bnd zs r rim true 5 7 9)).size = 124) := by show _ = _; rw [bnd_size, hz]
  have b0 := Blk.new w 38 (sty zs)
  have hbel := below_alloc (Below.refl _ w) (.cells (sty zs) 38)
  have HAC := Lib.hid hac
  have HT := Lib.hid ht
  have HR := Lib.hid hr
  clear hac ht hr
  go_enter Try.func36, Try.ntmps36
  go_wp2_with (first | (go_at_call 19; refine (cut_calls _ _).mono ?_; rintro e w' ⟨rfl, rfl⟩; try rw [← HR.out]) | (refine wpList_allocTo rfl _ rfl _ _ (alloc_bnd _ _ rfl _) ?_; simp only [Act.put, List.setIfInBounds_toArray, List.set_cons_zero, List.set_cons_succ, World.heap_size_alloc]) | (refine wpList_load_row rfl 38 _ rfl w.heap.size rfl 38 (sty zs) (0, 0) _ b0 Try.underlying38 rfl HSZ.out ?_) | (go_at_call 65; refine (HAC.out _).mono ?_; rintro e w1 ⟨rfl, hb1⟩; have hbel := below_alloc (below_alloc (below_then hbel hb1) (.cells Try.zeroCells84 84)) (.cells #[.int .i64 0, .int .i64 0, .int .i64 0, .int .i64 0] 41); have hlt := hb1.size; have hlw := b0.lt; have b0 := ((b0.below hb1 b0.lt).alloc (.cells Try.zeroCells84 84)).alloc (.cells #[.int .i64 0, .int .i64 0, .int .i64 0, .int .i64 0] 41); have ba := (Blk.new w1 84 Try.zeroCells84).alloc (.cells #[.int .i64 0, .int .i64 0, .int .i64 0, .int .i64 0] 41); have be := Blk.new (w1.alloc (.cells Try.zeroCells84 84)) 41 #[.int .i64 0, .int .i64 0, .int .i64 0, .int .i64 0]; simp only [alloc_size] at be hlt) | (refine wpList_store_mid rfl 84 _ _ rfl w1.heap.size 0 (bnd zs r rim true 5 7 9) rfl rfl (ba.there _ (by rw [HSB0.out, zero_bnd]; omega)) (by exact HSB.out) (bnd_one _ _ _ _ _ _ _) ?_; simp only [Act.put, Array.toArray_toList, List.setIfInBounds_toArray, List.set_cons_zero, List.set_cons_succ]; have hbel := below_setCells (b := w1.heap.size) (by omega) ((bnd zs r rim true 5 7 9)).toList 0 _ hbel; have b0 := Blk.farCells (b := w1.heap.size) (by omega) ((bnd zs r rim true 5 7 9)).toList 0 _ _ b0; have be := Blk.farCells (b := w1.heap.size) (by omega) ((bnd zs r rim true 5 7 9)).toList 0 _ _ be; have ba := ba.setAll (bnd zs r rim true 5 7 9) (by rw [HSB0.out, zero_bnd])) | (refine wpList_store_mid rfl 41 _ _ rfl (w1.heap.size + 1) 0 #[.int .i64 mt, .int .i64 mr, .int .i64 mb, .int .i64 ml] rfl rfl (be.there _ (by simp)) (by kernel_rfl) (by simp [Value.oneCell']) ?_; simp only [Act.put, Array.toArray_toList, List.setIfInBounds_toArray, List.set_cons_zero, List.set_cons_succ]; have hbel := below_setCells (b := w1.heap.size + 1) (by omega) (#[.int .i64 mt, .int .i64 mr, .int .i64 mb, .int .i64 ml] : Array Value).toList 0 _ hbel; have b0 := Blk.farCells (b := w1.heap.size + 1) (by omega) (#[.int .i64 mt, .int .i64 mr, .int .i64 mb, .int .i64 ml] : Array Value).toList 0 _ _ b0; have ba := Blk.farCells (b := w1.heap.size + 1) (by omega) (#[.int .i64 mt, .int .i64 mr, .int .i64 mb, .int .i64 ml] : Array Value).toList 0 _ _ ba; have be := be.setAll #[.int .i64 mt, .int .i64 mr, .int .i64 mb, .int .i64 ml] rfl; generalize hW2 : World.setCells _ (w1.heap.size + 1) _ _ = w2 at b0 ba be hbel ⊢; have e1 : w2.cell? ⟨w1.heap.size + 1, 1, none⟩ = some (.int .i64 mr) := be.cell 1; have e3 : w2.cell? ⟨w1.heap.size + 1, 3, none⟩ = some (.int .i64 ml) := be.cell 3; have c119 : w2.cell? ⟨w1.heap.size, 119, none⟩ = some (.int .i64 rim) := (ba.cell _).trans (bnd_tail zs r rim true 5 7 9 hz 1)))
  have hu := Try.underlying84
  have hlen : (Try.prog.info? 84).map (·.size) = some ((bnd zs r rim true 5 7 9)).toList.length := by rw [Array.length_toList]; exact HSB.out
  have KEEP : ∀ w', Blk w' w1.heap.size 84 (bnd zs r rim true 5 7 9) → w'.rangeAt w1.heap.size 0 ((bnd zs r rim true 5 7 9)).toList := fun w' h1 => fun j v hv => by rw [Nat.zero_add, h1.cell]; simpa using hv
  have KEEP' := Lib.hid KEEP
  have ba := ba.drew
  have hbel := hbel.drew
  clear KEEP
  refine wp_region_noPanic ?_
  refine wp_region_held_drew (S := fun w' => w'.rangeAt w1.heap.size 0 ((bnd zs r rim true 5 7 9)).toList) (by kernel_rfl) (KEEP'.out _ ba) (fun hHeld => ?_)
  refine wpAnyH_take (i := 0) (oi := { dst := some 30, op := _, type := _, pos := _, after := _, guard := _ }) (v := _) rfl (by kernel_rfl) (by kernel_rfl) (by kernel_rfl) (fun _ _ _ h => h) (yieldsIf_load_mid (by kernel_rfl) _ _ rfl _ _ rfl _ _ (fun w hSw => by (try dsimp only at hSw); exact hSw) hu rfl hlen) (by assumption) ?_
  try simp only [Act.put, Array.toArray_toList, List.setIfInBounds_toArray, List.set_cons_zero, List.set_cons_succ]
  refine wpAnyH_take (i := 1) (oi := { dst := some 31, op := _, type := _, pos := _, after := _, guard := _ }) (v := ?_) rfl (by kernel_rfl) (by kernel_rfl) (by kernel_rfl) (fun _ _ _ h => h) (Or.inl ⟨by kernel_rfl, ?_⟩) (by assumption) ?_
  rotate_left 1
  · (intro w hSw; (try dsimp only at hSw); go_simp; try with_reducible rfl)
  try simp only [Act.put, Array.toArray_toList, List.setIfInBounds_toArray, List.set_cons_zero, List.set_cons_succ]
  refine wpAnyH_take (i := 3) (oi := { dst := some 33, op := _, type := _, pos := _, after := _, guard := _ }) (v := ?_) rfl (by kernel_rfl) (by kernel_rfl) (by kernel_rfl) (fun _ _ _ h => h) (Or.inl ⟨by kernel_rfl, ?_⟩) (by assumption) ?_
  rotate_left 1
  · (intro w hSw; (try dsimp only at hSw); go_simp; try with_reducible rfl)
  try simp only [Act.put, Array.toArray_toList, List.setIfInBounds_toArray, List.set_cons_zero, List.set_cons_succ]
  refine wpAnyH_take (i := 5) (oi := { dst := some 35, op := _, type := _, pos := _, after := _, guard := _ }) (v := ?_) rfl (by kernel_rfl) (by kernel_rfl) (by kernel_rfl) (fun _ _ _ h => h) (Or.inl ⟨by kernel_rfl, ?_⟩) (by assumption) ?_
  rotate_left 1
  · (intro w hSw; (try dsimp only at hSw); go_simp; try with_reducible rfl)
  try simp only [Act.put, Array.toArray_toList, List.setIfInBounds_toArray, List.set_cons_zero, List.set_cons_succ]
  refine wpAnyH_ready (rs := [2]) (by kernel_rfl) (by simp) ?_
  refine AllReadyH.cons rfl (fun K hK => ?_) AllReadyH.nil
  go_simp
  refine (cut_calls _ _).mono ?_
  rintro e w' ⟨rfl, rfl⟩
  refine hK.out _ _ (KEEP'.out _ ba) (fun hHeld => ?_)
  clear hK K
  try simp only [Act.put, Array.toArray_toList, List.setIfInBounds_toArray, List.set_cons_zero, List.set_cons_succ]
  refine wpAnyH_ready (rs := [4]) (by kernel_rfl) (by simp) ?_
  refine AllReadyH.cons rfl (fun K hK => ?_) AllReadyH.nil
  go_simp
  refine (cut_calls _ _).mono ?_
  rintro e w' ⟨rfl, rfl⟩
  refine hK.out _ _ (KEEP'.out _ ba) (fun hHeld => ?_)
  clear hK K
  try simp only [Act.put, Array.toArray_toList, List.setIfInBounds_toArray, List.set_cons_zero, List.set_cons_succ]
  refine wpAnyH_take (i := 6) (oi := { dst := some 36, op := _, type := _, pos := _, after := _, guard := _ }) (v := ?_) rfl (by kernel_rfl) (by kernel_rfl) (by kernel_rfl) (fun _ _ _ h => h) (Or.inl ⟨by kernel_rfl, ?_⟩) (by assumption) ?_
  rotate_left 1
  · (intro w hSw; (try dsimp only at hSw); go_simp; try with_reducible rfl)
  try simp only [Act.put, Array.toArray_toList, List.setIfInBounds_toArray, List.set_cons_zero, List.set_cons_succ]
  refine wpAnyH_take (i := 7) (oi := { dst := some 37, op := _, type := _, pos := _, after := _, guard := _ }) (v := ?_) rfl (by kernel_rfl) (by kernel_rfl) (by kernel_rfl) (fun _ _ _ h => h) (Or.inl ⟨by kernel_rfl, ?_⟩) (by assumption) ?_
  rotate_left 1
  · (intro w hSw; (try dsimp only at hSw); go_simp; try with_reducible rfl)
  try simp only [Act.put, Array.toArray_toList, List.setIfInBounds_toArray, List.set_cons_zero, List.set_cons_succ]
  refine wpAnyH_ready (rs := [8]) (by kernel_rfl) (by simp) ?_
  refine AllReadyH.cons rfl (fun K hK => ?_) AllReadyH.nil
  go_simp
  refine (HT.out _).mono ?_
  rintro e w3 ⟨rfl, hb3⟩
  have ba := ba.below hb3 ba.lt
  have hbel := below_then hbel hb3
  refine hK.out _ _ (KEEP'.out _ ba) (fun hHeld => ?_)
  clear hK K
  try simp only [Act.put, Array.toArray_toList, List.setIfInBounds_toArray, List.set_cons_zero, List.set_cons_succ]
  refine wpAnyH_ready (rs := [9]) (by kernel_rfl) (by simp) ?_
  refine AllReadyH.cons rfl (fun K hK => ?_) AllReadyH.nil
  go_simp
  refine (cut_calls _ _).mono ?_
  rintro e w' ⟨rfl, rfl⟩
  refine hK.out _ _ (KEEP'.out _ ba) (fun hHeld => ?_)
  clear hK K
  try simp only [Act.put, Array.toArray_toList, List.setIfInBounds_toArray, List.set_cons_zero, List.set_cons_succ]
  refine wpAnyH_take (i := 10) (oi := { dst := some 8, op := _, type := _, pos := _, after := _, guard := _ }) (v := ?_) rfl (by kernel_rfl) (by kernel_rfl) (by kernel_rfl) (fun _ _ _ h => h) (Or.inl ⟨by kernel_rfl, ?_⟩) (by assumption) ?_
  rotate_left 1
  · (intro w hSw; (try dsimp only at hSw); go_simp; try with_reducible rfl)
  try simp only [Act.put, Array.toArray_toList, List.setIfInBounds_toArray, List.set_cons_zero, List.set_cons_succ]
  refine wpAnyH_done (by kernel_rfl) ?_ _
  refine NoPanic.normal ?_
  go_wp2_with fail
  go_ret
  exact ⟨rfl, hbel⟩
end Go.Proofs.Ytpinfaoeggipmaa
