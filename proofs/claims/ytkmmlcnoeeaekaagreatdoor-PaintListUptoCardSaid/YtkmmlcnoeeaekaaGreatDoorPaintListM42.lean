/- Several texts in one: PaintF. -/
import Derived.Test.YtkmmlcnoeeaekaaGreatDoorPaintListM41
/- Contract of the reference's FragCmds: what is hidden, and texts. -/
namespace Go.Proofs.YtkmmlcnoeeaekaaGreatDoor
open Go.RowKit
set_option linter.unusedVariables false
set_option linter.unusedSimpArgs false
attribute [local go_sem high] run_min2 run_max2

set_option maxRecDepth 100000 in
set_option maxHeartbeats 1000000 in
theorem rfrag_hid (zs : List Int) (kind : Int) (f : FragV) (w : World) (hz : zs.length = 118) (hok : FragOk f) (hv : stN zs 33 = 1) :
    Calls Tryz.prog 56 #[.agg (fragC f), .int .i64 kind, .agg (sty zs)] w fun e w' => ∃ v, e = .returned v ∧ w'.ownsRow w.heap.size 64 9 v 0 [] ∧ Below w.heap.size w w' := by
  have HSZ : Hid ((Tryz.prog.info? 35).map (·.size) = some (sty zs).size) := by show _ = _; rw [sty_size, hz]; kernel_rfl
  have hF := (Blk.new w 88 (fragC f)).alloc (.cells (sty zs) 35)
  have hS := Blk.new (w.alloc (.cells (fragC f) 88)) 35 (sty zs)
  simp only [alloc_size] at hS
  have hbel := below_alloc (below_alloc (Below.refl _ w) (.cells (fragC f) 88)) (.cells (sty zs) 35)
  obtain ⟨box, node, par, x, y, cw, ch, text⟩ := f
  obtain ⟨ox0, ox1, oy0, oy1, ow0, ow1, oh0, oh1⟩ := hok
  simp only at ox0 ox1 oy0 oy1 ow0 ow1 oh0 oh1
  have c67 : ((w.alloc (.cells (fragC ⟨box, node, par, x, y, cw, ch, text⟩) 88)).alloc (.cells (sty zs) 35)).cell? ⟨w.heap.size + 1, 67, none⟩ = some (.int .i64 (stN zs 33)) := (hS.cell _).trans (sty_at zs _ (by omega))
  rw [hv] at c67
  have hnil : ∀ w' : World, w'.ownsRow w.heap.size 64 9 (.slice none 0 0) 0 [] := fun w' => World.ownsRow_nil _ _ _ _
  have HNIL := Lib.hid hnil
  clear hnil hF hS HSZ hv
  unfold fragC at *
  go_enter Tryz.func56, Tryz.ntmps56
  go_wp2_with fail
  go_ret
  exact ⟨_, rfl, HNIL.out _, hbel⟩
set_option maxRecDepth 100000 in
set_option maxHeartbeats 1000000 in
theorem rfrag_blank (zs : List Int) (f : FragV) (w : World) (hz : zs.length = 118) (hok : FragOk f) (hv : ¬ stN zs 33 = 1) (ht : f.text.toList = []) :
    Calls Tryz.prog 56 #[.agg (fragC f), .int .i64 4, .agg (sty zs)] w fun e w' => ∃ v, e = .returned v ∧ w'.ownsRow w.heap.size 64 9 v 0 [] ∧ Below w.heap.size w w' := by
  have HSZ : Hid ((Tryz.prog.info? 35).map (·.size) = some (sty zs).size) := by show _ = _; rw [sty_size, hz]; kernel_rfl
  have hF := (Blk.new w 88 (fragC f)).alloc (.cells (sty zs) 35)
  have hS := Blk.new (w.alloc (.cells (fragC f) 88)) 35 (sty zs)
  simp only [alloc_size] at hS
  have hbel := below_alloc (below_alloc (Below.refl _ w) (.cells (fragC f) 88)) (.cells (sty zs) 35)
  obtain ⟨box, node, par, x, y, cw, ch, text⟩ := f
  obtain ⟨ox0, ox1, oy0, oy1, ow0, ow1, oh0, oh1⟩ := hok
  simp only at ox0 ox1 oy0 oy1 ow0 ow1 oh0 oh1
  have c67 : ((w.alloc (.cells (fragC ⟨box, node, par, x, y, cw, ch, text⟩) 88)).alloc (.cells (sty zs) 35)).cell? ⟨w.heap.size + 1, 67, none⟩ = some (.int .i64 (stN zs 33)) := (hS.cell _).trans (sty_at zs _ (by omega))
  have e33 : (stN zs 33 == 1) = false := by simpa using hv
  obtain ⟨vv, hvv⟩ : ∃ v, v = stN zs 33 := ⟨_, rfl⟩
  rw [← hvv] at c67 e33
  clear hvv hv
  have hnil : ∀ w' : World, w'.ownsRow w.heap.size 64 9 (.slice none 0 0) 0 [] := fun w' => World.ownsRow_nil _ _ _ _
  have HNIL := Lib.hid hnil
  have hte : text.toList.isEmpty = true := by show text.toList.isEmpty = true; rw [show text.toList = [] from ht]; rfl
  clear hnil hF hS HSZ ht
  unfold fragC at *
  go_enter Tryz.func56, Tryz.ntmps56
  go_wp2_with fail
  go_ret
  exact ⟨_, rfl, HNIL.out _, hbel⟩
set_option maxRecDepth 100000 in
set_option maxHeartbeats 4000000 in
theorem rfrag_text (zs : List Int) (f : FragV) (w : World) (hz : zs.length = 118) (hok : FragOk f) (hv : ¬ stN zs 33 = 1) (ht : ¬ f.text.toList = []) :
    Calls Tryz.prog 56 #[.agg (fragC f), .int .i64 4, .agg (sty zs)] w fun e w' => ∃ v, e = .returned v ∧ w'.ownsRow w.heap.size 64 9 v 1 (cmdF (textC f zs)) ∧ Below w.heap.size w w' := by
  have HSZ : Hid ((Tryz.prog.info? 35).map (·.size) = some (sty zs).size) := by show _ = _; rw [sty_size, hz]; kernel_rfl
  have hF := (Blk.new w 88 (fragC f)).alloc (.cells (sty zs) 35)
  have hS := Blk.new (w.alloc (.cells (fragC f) 88)) 35 (sty zs)
  simp only [alloc_size] at hS
  have hbel := below_alloc (below_alloc (Below.refl _ w) (.cells (fragC f) 88)) (.cells (sty zs) 35)
  obtain ⟨box, node, par, x, y, cw, ch, text⟩ := f
  obtain ⟨ox0, ox1, oy0, oy1, ow0, ow1, oh0, oh1⟩ := hok
  simp only at ox0 ox1 oy0 oy1 ow0 ow1 oh0 oh1
  have c67 : ((w.alloc (.cells (fragC ⟨box, node, par, x, y, cw, ch, text⟩) 88)).alloc (.cells (sty zs) 35)).cell? ⟨w.heap.size + 1, 67, none⟩ = some (.int .i64 (stN zs 33)) := (hS.cell _).trans (sty_at zs _ (by omega))
  have e33 : (stN zs 33 == 1) = false := by simpa using hv
  obtain ⟨vv, hvv⟩ : ∃ v, v = stN zs 33 := ⟨_, rfl⟩
  rw [← hvv] at c67 e33
  clear hvv hv
  have hte : text.toList.isEmpty = false := by
    have h0 : ¬ text.toList = [] := ht
    cases hl : text.toList with
    | nil => exact absurd hl h0
    | cons a r => rfl
  have hte2 : (!text.toList.isEmpty) = true := by rw [hte]; rfl
  have c88 : ((w.alloc (.cells (fragC ⟨box, node, par, x, y, cw, ch, text⟩) 88)).alloc (.cells (sty zs) 35)).cell? ⟨w.heap.size + 1, 88, none⟩ = some (.int .i64 (stK zs 44)) := (hS.cell _).trans (sty_at zs _ (by omega))
  have c89 : ((w.alloc (.cells (fragC ⟨box, node, par, x, y, cw, ch, text⟩) 88)).alloc (.cells (sty zs) 35)).cell? ⟨w.heap.size + 1, 89, none⟩ = some (.int .i64 (stN zs 44)) := (hS.cell _).trans (sty_at zs _ (by omega))
  have HTC : Hid (textC ⟨box, node, par, x, y, cw, ch, text⟩ zs = ⟨2, node, x, y + part (sz (sz (stN zs 37))) 3 4, cw, ofN (stK zs 44) (stN zs 44) 0, stN zs 35, sz (stN zs 37), text⟩) := rfl
  have HAS := Lib.hid (fun w => rascent_calls (sz (stN zs 37)) w)
  have HSI := Lib.hid (fun w => rsizeS_calls zs w hz)
  have HOF := Lib.hid (fun w => rof_calls (stK zs 44) (stN zs 44) 0 w)
  have pa0 := part_lo (sz (sz (stN zs 37))) 3 4
  have pa1 := part_hi (sz (sz (stN zs 37))) 3 4
  have hu := Tryz.underlying35
  have hlen : (Tryz.prog.info? 35).map (·.size) = some (sty zs).toList.length := by rw [Array.length_toList]; exact HSZ.out
  have KEEP : ∀ w', Blk w' w.heap.size 88 (fragC ⟨box, node, par, x, y, cw, ch, text⟩) → Blk w' (w.heap.size + 1) 35 (sty zs) → w'.rangeAt (w.heap.size + 1) 0 (sty zs).toList ∧ w'.cell? ⟨w.heap.size, 1, none⟩ = some (.int .i64 node) ∧ w'.cell? ⟨w.heap.size, 3, none⟩ = some (.int .i64 x) ∧ w'.cell? ⟨w.heap.size, 4, none⟩ = some (.int .i64 y) ∧ w'.cell? ⟨w.heap.size, 5, none⟩ = some (.int .i64 cw) ∧ w'.cell? ⟨w.heap.size, 7, none⟩ = some (.string text) ∧ w'.cell? ⟨w.heap.size + 1, 71, none⟩ = some (.int .i64 (stN zs 35)) := fun w' h1 h2 => ⟨fun j v hv => by rw [Nat.zero_add, h2.cell]; simpa using hv, h1.cell 1, h1.cell 3, h1.cell 4, h1.cell 5, h1.cell 7, (h2.cell _).trans (sty_at zs _ (by omega))⟩
  obtain ⟨av, hav⟩ : ∃ a, a = part (sz (sz (stN zs 37))) 3 4 := ⟨_, rfl⟩
  obtain ⟨sv, hsv⟩ : ∃ a, a = sz (stN zs 37) := ⟨_, rfl⟩
  obtain ⟨ov, hov⟩ : ∃ a, a = ofN (stK zs 44) (stN zs 44) 0 := ⟨_, rfl⟩
  obtain ⟨oi, hoi⟩ : ∃ a, a = ofIs (stK zs 44) := ⟨_, rfl⟩
  obtain ⟨cv, hcv⟩ : ∃ a, a = stN zs 35 := ⟨_, rfl⟩
  obtain ⟨k44, hk44⟩ : ∃ a, a = stK zs 44 := ⟨_, rfl⟩
  obtain ⟨n44, hn44⟩ : ∃ a, a = stN zs 44 := ⟨_, rfl⟩
  rw [← hav] at HAS HTC pa0 pa1
  rw [← hsv] at HAS HTC HSI
  rw [← hov] at HTC HOF
  rw [← hoi] at HOF
  rw [← hk44] at c88 HOF
  rw [← hn44] at c89 HOF
  rw [← hcv] at HTC KEEP
  rw [HTC.out]
  have KEEP' := Lib.hid KEEP
  clear KEEP hav hsv hov hoi hcv hk44 hn44 ht HTC
  unfold fragC at *
  go_enter Tryz.func56, Tryz.ntmps56
  go_wp2_with (first | (go_at_call 92; refine (HOF.out _).mono ?_; rintro e w' ⟨rfl, rfl⟩; have hF := hF.alloc (.cells #[.int .i64 k44, .int .i64 n44] 33); have hS := hS.alloc (.cells #[.int .i64 k44, .int .i64 n44] 33); have hbel := below_alloc hbel (.cells #[.int .i64 k44, .int .i64 n44] 33)))
  have hsum : IntKind.i64.wrap (y + av) = y + av := IntWalk.i64_in _ (by omega)
  have hF := hF.drew
  have hS := hS.drew
  have hbel := hbel.drew
  refine wp_region_noPanic ?_
  refine wp_region_held_drew (S := fun w' => w'.rangeAt (w.heap.size + 1) 0 (sty zs).toList ∧ w'.cell? ⟨w.heap.size, 1, none⟩ = some (.int .i64 node) ∧ w'.cell? ⟨w.heap.size, 3, none⟩ = some (.int .i64 x) ∧ w'.cell? ⟨w.heap.size, 4, none⟩ = some (.int .i64 y) ∧ w'.cell? ⟨w.heap.size, 5, none⟩ = some (.int .i64 cw) ∧ w'.cell? ⟨w.heap.size, 7, none⟩ = some (.string text) ∧ w'.cell? ⟨w.heap.size + 1, 71, none⟩ = some (.int .i64 cv)) (by kernel_rfl) (KEEP'.out _ hF hS) (fun hHeld => ?_)
  refine wpAnyH_take (i := 0) (oi := { dst := some 27, op := _, type := _, pos := _, after := _, guard := _ }) (v := ?_) rfl (by kernel_rfl) (by kernel_rfl) (by kernel_rfl) (fun _ _ _ h => h) (Or.inl ⟨by kernel_rfl, ?_⟩) (by assumption) ?_
  rotate_left 1
  · (intro w hSw; (try dsimp only at hSw); go_simp; try with_reducible rfl)
  try simp only [Act.put, Array.toArray_toList, List.setIfInBounds_toArray, List.set_cons_zero, List.set_cons_succ]
  refine wpAnyH_take (i := 1) (oi := { dst := some 28, op := _, type := _, pos := _, after := _, guard := _ }) (v := ?_) rfl (by kernel_rfl) (by kernel_rfl) (by kernel_rfl) (fun _ _ _ h => h) (Or.inl ⟨by kernel_rfl, ?_⟩) (by assumption) ?_
  rotate_left 1
  · (intro w hSw; (try dsimp only at hSw); go_simp; try with_reducible rfl)
  try simp only [Act.put, Array.toArray_toList, List.setIfInBounds_toArray, List.set_cons_zero, List.set_cons_succ]
  refine wpAnyH_take (i := 2) (oi := { dst := some 29, op := _, type := _, pos := _, after := _, guard := _ }) (v := ?_) rfl (by kernel_rfl) (by kernel_rfl) (by kernel_rfl) (fun _ _ _ h => h) (Or.inl ⟨by kernel_rfl, ?_⟩) (by assumption) ?_
  rotate_left 1
  · (intro w hSw; (try dsimp only at hSw); go_simp; try with_reducible rfl)
  try simp only [Act.put, Array.toArray_toList, List.setIfInBounds_toArray, List.set_cons_zero, List.set_cons_succ]
  refine wpAnyH_take (i := 3) (oi := { dst := some 30, op := _, type := _, pos := _, after := _, guard := _ }) (v := ?_) rfl (by kernel_rfl) (by kernel_rfl) (by kernel_rfl) (fun _ _ _ h => h) (Or.inl ⟨by kernel_rfl, ?_⟩) (by assumption) ?_
  rotate_left 1
  · (intro w hSw; (try dsimp only at hSw); go_simp; try with_reducible rfl)
  try simp only [Act.put, Array.toArray_toList, List.setIfInBounds_toArray, List.set_cons_zero, List.set_cons_succ]
  refine wpAnyH_take (i := 4) (oi := { dst := some 31, op := _, type := _, pos := _, after := _, guard := _ }) (v := ?_) rfl (by kernel_rfl) (by kernel_rfl) (by kernel_rfl) (fun _ _ _ h => h) (Or.inl ⟨by kernel_rfl, ?_⟩) (by assumption) ?_
  rotate_left 1
  · (intro w hSw; (try dsimp only at hSw); go_simp; try with_reducible rfl)
  try simp only [Act.put, Array.toArray_toList, List.setIfInBounds_toArray, List.set_cons_zero, List.set_cons_succ]
  refine wpAnyH_take (i := 5) (oi := { dst := some 32, op := _, type := _, pos := _, after := _, guard := _ }) (v := ?_) rfl (by kernel_rfl) (by kernel_rfl) (by kernel_rfl) (fun _ _ _ h => h) (Or.inl ⟨by kernel_rfl, ?_⟩) (by assumption) ?_
  rotate_left 1
  · (intro w hSw; (try dsimp only at hSw); go_simp; try with_reducible rfl)
  try simp only [Act.put, Array.toArray_toList, List.setIfInBounds_toArray, List.set_cons_zero, List.set_cons_succ]
  refine wpAnyH_take (i := 6) (oi := { dst := some 33, op := _, type := _, pos := _, after := _, guard := _ }) (v := _) rfl (by kernel_rfl) (by kernel_rfl) (by kernel_rfl) (fun _ _ _ h => h) (yieldsIf_load_mid (by kernel_rfl) _ _ rfl _ _ rfl _ _ (fun w hSw => by (try dsimp only at hSw); exact hSw.1) hu rfl hlen) (by assumption) ?_
  try simp only [Act.put, Array.toArray_toList, List.setIfInBounds_toArray, List.set_cons_zero, List.set_cons_succ]
  refine wpAnyH_take (i := 10) (oi := { dst := some 37, op := _, type := _, pos := _, after := _, guard := _ }) (v := ?_) rfl (by kernel_rfl) (by kernel_rfl) (by kernel_rfl) (fun _ _ _ h => h) (Or.inl ⟨by kernel_rfl, ?_⟩) (by assumption) ?_
  rotate_left 1
  · (intro w hSw; (try dsimp only at hSw); go_simp; try with_reducible rfl)
  try simp only [Act.put, Array.toArray_toList, List.setIfInBounds_toArray, List.set_cons_zero, List.set_cons_succ]
  refine wpAnyH_take (i := 11) (oi := { dst := some 38, op := _, type := _, pos := _, after := _, guard := _ }) (v := ?_) rfl (by kernel_rfl) (by kernel_rfl) (by kernel_rfl) (fun _ _ _ h => h) (Or.inl ⟨by kernel_rfl, ?_⟩) (by assumption) ?_
  rotate_left 1
  · (intro w hSw; (try dsimp only at hSw); go_simp; try with_reducible rfl)
  try simp only [Act.put, Array.toArray_toList, List.setIfInBounds_toArray, List.set_cons_zero, List.set_cons_succ]
  refine wpAnyH_take (i := 12) (oi := { dst := some 39, op := _, type := _, pos := _, after := _, guard := _ }) (v := ?_) rfl (by kernel_rfl) (by kernel_rfl) (by kernel_rfl) (fun _ _ _ h => h) (Or.inl ⟨by kernel_rfl, ?_⟩) (by assumption) ?_
  rotate_left 1
  · (intro w hSw; (try dsimp only at hSw); go_simp; try with_reducible rfl)
  try simp only [Act.put, Array.toArray_toList, List.setIfInBounds_toArray, List.set_cons_zero, List.set_cons_succ]
  refine wpAnyH_take (i := 13) (oi := { dst := some 40, op := _, type := _, pos := _, after := _, guard := _ }) (v := _) rfl (by kernel_rfl) (by kernel_rfl) (by kernel_rfl) (fun _ _ _ h => h) (yieldsIf_load_mid (by kernel_rfl) _ _ rfl _ _ rfl _ _ (fun w hSw => by (try dsimp only at hSw); exact hSw.1) hu rfl hlen) (by assumption) ?_
  try simp only [Act.put, Array.toArray_toList, List.setIfInBounds_toArray, List.set_cons_zero, List.set_cons_succ]
  refine wpAnyH_take (i := 15) (oi := { dst := some 42, op := _, type := _, pos := _, after := _, guard := _ }) (v := ?_) rfl (by kernel_rfl) (by kernel_rfl) (by kernel_rfl) (fun _ _ _ h => h) (Or.inl ⟨by kernel_rfl, ?_⟩) (by assumption) ?_
  rotate_left 1
  · (intro w hSw; (try dsimp only at hSw); go_simp; try with_reducible rfl)
  try simp only [Act.put, Array.toArray_toList, List.setIfInBounds_toArray, List.set_cons_zero, List.set_cons_succ]
  refine wpAnyH_take (i := 16) (oi := { dst := some 43, op := _, type := _, pos := _, after := _, guard := _ }) (v := ?_) rfl (by kernel_rfl) (by kernel_rfl) (by kernel_rfl) (fun _ _ _ h => h) (Or.inl ⟨by kernel_rfl, ?_⟩) (by assumption) ?_
  rotate_left 1
  · (intro w hSw; (try dsimp only at hSw); go_simp; try with_reducible rfl)
  try simp only [Act.put, Array.toArray_toList, List.setIfInBounds_toArray, List.set_cons_zero, List.set_cons_succ]
  refine wpAnyH_take (i := 17) (oi := { dst := some 44, op := _, type := _, pos := _, after := _, guard := _ }) (v := ?_) rfl (by kernel_rfl) (by kernel_rfl) (by kernel_rfl) (fun _ _ _ h => h) (Or.inl ⟨by kernel_rfl, ?_⟩) (by assumption) ?_
  rotate_left 1
  · (intro w hSw; (try dsimp only at hSw); go_simp; try with_reducible rfl)
  try simp only [Act.put, Array.toArray_toList, List.setIfInBounds_toArray, List.set_cons_zero, List.set_cons_succ]
  refine wpAnyH_take (i := 18) (oi := { dst := some 45, op := _, type := _, pos := _, after := _, guard := _ }) (v := ?_) rfl (by kernel_rfl) (by kernel_rfl) (by kernel_rfl) (fun _ _ _ h => h) (Or.inl ⟨by kernel_rfl, ?_⟩) (by assumption) ?_
  rotate_left 1
  · (intro w hSw; (try dsimp only at hSw); go_simp; try with_reducible rfl)
  try simp only [Act.put, Array.toArray_toList, List.setIfInBounds_toArray, List.set_cons_zero, List.set_cons_succ]
  refine wpAnyH_take (i := 19) (oi := { dst := some 46, op := _, type := _, pos := _, after := _, guard := _ }) (v := ?_) rfl (by kernel_rfl) (by kernel_rfl) (by kernel_rfl) (fun _ _ _ h => h) (Or.inl ⟨by kernel_rfl, ?_⟩) (by assumption) ?_
  rotate_left 1
  · (intro w hSw; (try dsimp only at hSw); go_simp; try with_reducible rfl)
  try simp only [Act.put, Array.toArray_toList, List.setIfInBounds_toArray, List.set_cons_zero, List.set_cons_succ]
  refine wpAnyH_ready (rs := [7]) (by kernel_rfl) (by simp) ?_
  refine AllReadyH.cons rfl (fun K hK => ?_) AllReadyH.nil
  go_simp
  refine (HSI.out _).mono ?_
  rintro e x1 ⟨rfl, hbx⟩
  have hF := hF.below hbx hF.lt
  have hS := hS.below hbx hS.lt
  have hbel := below_then hbel hbx
  refine hK.out _ _ (KEEP'.out _ hF hS) (fun hHeld => ?_)
  clear hK K
  try simp only [Act.put, Array.toArray_toList, List.setIfInBounds_toArray, List.set_cons_zero, List.set_cons_succ]
  refine wpAnyH_ready (rs := [8]) (by kernel_rfl) (by simp) ?_
  refine AllReadyH.cons rfl (fun K hK => ?_) AllReadyH.nil
  go_simp
  refine (HAS.out _).mono ?_
  rintro e w' ⟨rfl, rfl⟩
  refine hK.out _ _ (KEEP'.out _ hF hS) (fun hHeld => ?_)
  clear hK K
  try simp only [Act.put, Array.toArray_toList, List.setIfInBounds_toArray, List.set_cons_zero, List.set_cons_succ]
  refine wpAnyH_take (i := 9) (oi := { dst := some 36, op := _, type := _, pos := _, after := _, guard := _ }) (v := ?_) rfl (by kernel_rfl) (by kernel_rfl) (by kernel_rfl) (fun _ _ _ h => h) (Or.inl ⟨by kernel_rfl, ?_⟩) (by assumption) ?_
  rotate_left 1
  · (intro w hSw; (try dsimp only at hSw); go_simp; try with_reducible rfl)
  try simp only [Act.put, Array.toArray_toList, List.setIfInBounds_toArray, List.set_cons_zero, List.set_cons_succ]
  refine wpAnyH_ready (rs := [14]) (by kernel_rfl) (by simp) ?_
  refine AllReadyH.cons rfl (fun K hK => ?_) AllReadyH.nil
  go_simp
  refine (HSI.out _).mono ?_
  rintro e x2 ⟨rfl, hbx⟩
  have hF := hF.below hbx hF.lt
  have hS := hS.below hbx hS.lt
  have hbel := below_then hbel hbx
  refine hK.out _ _ (KEEP'.out _ hF hS) (fun hHeld => ?_)
  clear hK K
  try simp only [Act.put, Array.toArray_toList, List.setIfInBounds_toArray, List.set_cons_zero, List.set_cons_succ]
  refine wpAnyH_take (i := 20) (oi := { dst := some 47, op := _, type := _, pos := _, after := _, guard := _ }) (v := ?_) rfl (by kernel_rfl) (by kernel_rfl) (by kernel_rfl) (fun _ _ _ h => h) (Or.inl ⟨by kernel_rfl, ?_⟩) (by assumption) ?_
  rotate_left 1
  · (intro w hSw; (try dsimp only at hSw); go_simp; try with_reducible rfl)
  try simp only [Act.put, Array.toArray_toList, List.setIfInBounds_toArray, List.set_cons_zero, List.set_cons_succ]
  refine wpAnyH_ready (rs := [21]) (by kernel_rfl) (by simp) ?_
  refine AllReadyH.cons rfl (fun K hK => ?_) AllReadyH.nil
  go_simp
  have hl := Blk.new x2 64 #[.int .i64 2, .int .i64 node, .int .i64 x, .int .i64 (y + av), .int .i64 cw, .int .i64 ov, .int .i64 cv, .int .i64 sv, .string text]
  have hF := hF.alloc (.cells #[.int .i64 2, .int .i64 node, .int .i64 x, .int .i64 (y + av), .int .i64 cw, .int .i64 ov, .int .i64 cv, .int .i64 sv, .string text] 64)
  have hS := hS.alloc (.cells #[.int .i64 2, .int .i64 node, .int .i64 x, .int .i64 (y + av), .int .i64 cw, .int .i64 ov, .int .i64 cv, .int .i64 sv, .string text] 64)
  have hbel2 := below_alloc hbel (.cells #[.int .i64 2, .int .i64 node, .int .i64 x, .int .i64 (y + av), .int .i64 cw, .int .i64 ov, .int .i64 cv, .int .i64 sv, .string text] 64)
  refine hK.out _ _ (KEEP'.out _ hF hS) (fun hHeld => ?_)
  clear hK K
  try simp only [Act.put, Array.toArray_toList, List.setIfInBounds_toArray, List.set_cons_zero, List.set_cons_succ]
  refine wpAnyH_take (i := 22) (oi := { dst := some 6, op := _, type := _, pos := _, after := _, guard := _ }) (v := ?_) rfl (by kernel_rfl) (by kernel_rfl) (by kernel_rfl) (fun _ _ _ h => h) (Or.inl ⟨by kernel_rfl, ?_⟩) (by assumption) ?_
  rotate_left 1
  · (intro w hSw; (try dsimp only at hSw); go_simp; try with_reducible rfl)
  try simp only [Act.put, Array.toArray_toList, List.setIfInBounds_toArray, List.set_cons_zero, List.set_cons_succ]
  refine wpAnyH_done (by kernel_rfl) ?_ _
  refine NoPanic.normal ?_
  clear hsum
  go_wp2_with fail
  go_ret
  exact ⟨_, rfl, own_of_blk (n := 1) hl (by have := hbel.size; omega) (by decide) rfl, hbel2⟩
end Go.Proofs.YtkmmlcnoeeaekaaGreatDoor
