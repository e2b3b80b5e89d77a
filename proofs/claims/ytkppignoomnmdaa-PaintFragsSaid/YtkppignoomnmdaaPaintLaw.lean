/- The walk of PaintFrags. -/
import Derived.Test.YtkppignoomnmdaaPaintH
import Derived.Test.YtkppignoomnmdaaRegionL
namespace Go.Proofs.Ytkppignoomnmdaa
open Go.RowKit
set_option linter.unusedVariables false
set_option linter.unusedSimpArgs false

theorem own_any2 {w : World} {base : Nat} {e : TypeId} {size n : Nat} {v : Value} {xs : List Value} (h : w.ownsRow base e size v n xs) : ∃ A c, v = .slice A n c := by
  rcases h.2 with ⟨rfl, rfl⟩ | ⟨g, cap, cur, hv, hb, hh, _⟩
  · exact ⟨_, _, rfl⟩
  · exact ⟨_, _, hv⟩
set_option maxRecDepth 100000 in
set_option maxHeartbeats 4000000 in
theorem paintFrags_walk (W : World) (f : FragV) (kind : Int) (zs : List Int) (hz : zs.length = 118) :
    Calls Try.prog 7 #[.agg (fragC f), .int .i64 kind, .agg (sty zs)] W fun e w' => e = .returned (.bool true) ∧ Below W.heap.size W w' := by
  have HSZ : Hid ((Try.prog.info? 44).map (·.size) = some (sty zs).size) := by show _ = _; rw [sty_size, hz]; kernel_rfl
  obtain ⟨box, node, par, x, y, cw, ch, text⟩ := f
  have hF := (Blk.new W 40 (fragC ⟨box, node, par, x, y, cw, ch, text⟩)).alloc (.cells (sty zs) 44)
  have hS := Blk.new (W.alloc (.cells (fragC ⟨box, node, par, x, y, cw, ch, text⟩) 40)) 44 (sty zs)
  simp only [alloc_size] at hS
  have hbel := below_alloc (below_alloc (Below.refl _ W) (.cells (fragC ⟨box, node, par, x, y, cw, ch, text⟩) 40)) (.cells (sty zs) 44)
  have hok : FragOk ⟨box, node, par, cut x, cut y, cut cw, cut ch, text⟩ := ⟨cut_lo _, cut_hi _, cut_lo _, cut_hi _, cut_lo _, cut_hi _, cut_lo _, cut_hi _⟩
  have HA := Lib.hid (fun w => frag_calls zs kind ⟨box, node, par, cut x, cut y, cut cw, cut ch, text⟩ w hz hok)
  have HR := Lib.hid (fun w => rfrag_calls zs kind ⟨box, node, par, cut x, cut y, cut cw, cut ch, text⟩ w hz hok)
  have hLl := fragCmds_len ⟨box, node, par, cut x, cut y, cut cw, cut ch, text⟩ kind zs
  obtain ⟨L, hL⟩ : ∃ L, L = fragCmds ⟨box, node, par, cut x, cut y, cut cw, cut ch, text⟩ kind zs := ⟨_, rfl⟩
  rw [← hL] at HA HR hLl
  clear hL hok
  go_enter Try.func7, Try.ntmps7
  go_wp2_with fail
  generalize hw0 : World.alloc (World.alloc W _) _ = w0 at hF hS hbel ⊢
  clear hw0
  have HFu := Lib.hid hF
  have HSu := Lib.hid hS
  have HBu := Lib.hid hbel
  have hF := hF.drew
  have hS := hS.drew
  have hbel := hbel.drew
  have hS0 : w0.drew.cell? ⟨W.heap.size, 3, none⟩ = some (.int .i64 x) ∧ w0.drew.cell? ⟨W.heap.size, 4, none⟩ = some (.int .i64 y) ∧ w0.drew.cell? ⟨W.heap.size, 5, none⟩ = some (.int .i64 cw) ∧ w0.drew.cell? ⟨W.heap.size, 6, none⟩ = some (.int .i64 ch) := ⟨hF.cell 3, hF.cell 4, hF.cell 5, hF.cell 6⟩
  have c3 := hS0.1
  have c4 := hS0.2.1
  have c5 := hS0.2.2.1
  have c6 := hS0.2.2.2
  have f3 := hF.free 3
  have f4 := hF.free 4
  have f5 := hF.free 5
  have f6 := hF.free 6
  have d3 : w0.cell? ⟨W.heap.size, 3, none⟩ = some (.int .i64 x) := c3
  have d4 : w0.cell? ⟨W.heap.size, 4, none⟩ = some (.int .i64 y) := c4
  have d5 : w0.cell? ⟨W.heap.size, 5, none⟩ = some (.int .i64 cw) := c5
  have d6 : w0.cell? ⟨W.heap.size, 6, none⟩ = some (.int .i64 ch) := c6
  have g3 : w0.frozen? ⟨W.heap.size, 3, none⟩ = false := f3
  have g4 : w0.frozen? ⟨W.heap.size, 4, none⟩ = false := f4
  have g5 : w0.frozen? ⟨W.heap.size, 5, none⟩ = false := f5
  have g6 : w0.frozen? ⟨W.heap.size, 6, none⟩ = false := f6
  have HF := Lib.hid hF
  have HS := Lib.hid hS
  have HB := Lib.hid hbel
  clear hF hS hbel
  refine wp_region_noPanic ?_
  refine region_L (S := fun w' => w'.cell? ⟨W.heap.size, 3, none⟩ = some (.int .i64 x) ∧ w'.cell? ⟨W.heap.size, 4, none⟩ = some (.int .i64 y) ∧ w'.cell? ⟨W.heap.size, 5, none⟩ = some (.int .i64 cw) ∧ w'.cell? ⟨W.heap.size, 6, none⟩ = some (.int .i64 ch)) (T := [13, 14, 15, 16, 17, 18, 19]) (by kernel_rfl) ?_
  refine anyL_take (i := 0) (oi := { dst := some 7, op := _, type := _, pos := _, after := _, guard := _ }) (v := ?_) rfl (by kernel_rfl) (by kernel_rfl) (by kernel_rfl) (by kernel_rfl) (fun _ _ _ h => h) (Or.inl ⟨by kernel_rfl, ?_⟩) hS0 ?_
  rotate_left 1
  · (intro w hSw; (try dsimp only at hSw); go_simp; try with_reducible rfl)
  try simp only [Act.put, Array.toArray_toList, List.setIfInBounds_toArray, List.set_cons_zero, List.set_cons_succ]
  refine anyL_take (i := 1) (oi := { dst := some 8, op := _, type := _, pos := _, after := _, guard := _ }) (v := ?_) rfl (by kernel_rfl) (by kernel_rfl) (by kernel_rfl) (by kernel_rfl) (fun _ _ _ h => h) (Or.inl ⟨by kernel_rfl, ?_⟩) hS0 ?_
  rotate_left 1
  · (intro w hSw; (try dsimp only at hSw); go_simp; try with_reducible rfl)
  try simp only [Act.put, Array.toArray_toList, List.setIfInBounds_toArray, List.set_cons_zero, List.set_cons_succ]
  refine anyL_take (i := 3) (oi := { dst := some 10, op := _, type := _, pos := _, after := _, guard := _ }) (v := ?_) rfl (by kernel_rfl) (by kernel_rfl) (by kernel_rfl) (by kernel_rfl) (fun _ _ _ h => h) (Or.inl ⟨by kernel_rfl, ?_⟩) hS0 ?_
  rotate_left 1
  · (intro w hSw; (try dsimp only at hSw); go_simp; try with_reducible rfl)
  try simp only [Act.put, Array.toArray_toList, List.setIfInBounds_toArray, List.set_cons_zero, List.set_cons_succ]
  refine anyL_take (i := 4) (oi := { dst := some 11, op := _, type := _, pos := _, after := _, guard := _ }) (v := ?_) rfl (by kernel_rfl) (by kernel_rfl) (by kernel_rfl) (by kernel_rfl) (fun _ _ _ h => h) (Or.inl ⟨by kernel_rfl, ?_⟩) hS0 ?_
  rotate_left 1
  · (intro w hSw; (try dsimp only at hSw); go_simp; try with_reducible rfl)
  try simp only [Act.put, Array.toArray_toList, List.setIfInBounds_toArray, List.set_cons_zero, List.set_cons_succ]
  refine anyL_take (i := 6) (oi := { dst := some 13, op := _, type := _, pos := _, after := _, guard := _ }) (v := ?_) rfl (by kernel_rfl) (by kernel_rfl) (by kernel_rfl) (by kernel_rfl) (fun _ _ _ h => h) (Or.inl ⟨by kernel_rfl, ?_⟩) hS0 ?_
  rotate_left 1
  · (intro w hSw; (try dsimp only at hSw); go_simp; try with_reducible rfl)
  try simp only [Act.put, Array.toArray_toList, List.setIfInBounds_toArray, List.set_cons_zero, List.set_cons_succ]
  refine anyL_take (i := 7) (oi := { dst := some 14, op := _, type := _, pos := _, after := _, guard := _ }) (v := ?_) rfl (by kernel_rfl) (by kernel_rfl) (by kernel_rfl) (by kernel_rfl) (fun _ _ _ h => h) (Or.inl ⟨by kernel_rfl, ?_⟩) hS0 ?_
  rotate_left 1
  · (intro w hSw; (try dsimp only at hSw); go_simp; try with_reducible rfl)
  try simp only [Act.put, Array.toArray_toList, List.setIfInBounds_toArray, List.set_cons_zero, List.set_cons_succ]
  refine anyL_take (i := 9) (oi := { dst := some 16, op := _, type := _, pos := _, after := _, guard := _ }) (v := ?_) rfl (by kernel_rfl) (by kernel_rfl) (by kernel_rfl) (by kernel_rfl) (fun _ _ _ h => h) (Or.inl ⟨by kernel_rfl, ?_⟩) hS0 ?_
  rotate_left 1
  · (intro w hSw; (try dsimp only at hSw); go_simp; try with_reducible rfl)
  try simp only [Act.put, Array.toArray_toList, List.setIfInBounds_toArray, List.set_cons_zero, List.set_cons_succ]
  refine anyL_take (i := 10) (oi := { dst := some 17, op := _, type := _, pos := _, after := _, guard := _ }) (v := ?_) rfl (by kernel_rfl) (by kernel_rfl) (by kernel_rfl) (by kernel_rfl) (fun _ _ _ h => h) (Or.inl ⟨by kernel_rfl, ?_⟩) hS0 ?_
  rotate_left 1
  · (intro w hSw; (try dsimp only at hSw); go_simp; try with_reducible rfl)
  try simp only [Act.put, Array.toArray_toList, List.setIfInBounds_toArray, List.set_cons_zero, List.set_cons_succ]
  refine anyL_one (i := 2) (by kernel_rfl) rfl (fun K hK => ?_)
  go_simp
  refine (rcut_calls _ _).mono ?_
  rintro e w' ⟨rfl, rfl⟩
  refine hK.out _ _ (fun _ => hS0) ?_
  clear hK K
  try simp only [Act.put, Array.toArray_toList, List.setIfInBounds_toArray, List.set_cons_zero, List.set_cons_succ]
  refine anyL_take (i := 12) (oi := { dst := some 19, op := _, type := _, pos := _, after := _, guard := _ }) (v := ?_) rfl (by kernel_rfl) (by kernel_rfl) (by kernel_rfl) (by kernel_rfl) (fun _ _ _ h => h) (Or.inl ⟨by kernel_rfl, ?_⟩) hS0 ?_
  rotate_left 1
  · (intro w hSw; (try dsimp only at hSw); go_simp; try with_reducible rfl)
  try simp only [Act.put, Array.toArray_toList, List.setIfInBounds_toArray, List.set_cons_zero, List.set_cons_succ]
  refine anyL_one (i := 5) (by kernel_rfl) rfl (fun K hK => ?_)
  go_simp
  refine (rcut_calls _ _).mono ?_
  rintro e w' ⟨rfl, rfl⟩
  refine hK.out _ _ (fun _ => hS0) ?_
  clear hK K
  try simp only [Act.put, Array.toArray_toList, List.setIfInBounds_toArray, List.set_cons_zero, List.set_cons_succ]
  refine anyL_one (i := 8) (by kernel_rfl) rfl (fun K hK => ?_)
  go_simp
  refine (rcut_calls _ _).mono ?_
  rintro e w' ⟨rfl, rfl⟩
  refine hK.out _ _ (fun _ => hS0) ?_
  clear hK K
  try simp only [Act.put, Array.toArray_toList, List.setIfInBounds_toArray, List.set_cons_zero, List.set_cons_succ]
  refine anyL_one (i := 11) (by kernel_rfl) rfl (fun K hK => ?_)
  go_simp
  refine (rcut_calls _ _).mono ?_
  rintro e w' ⟨rfl, rfl⟩
  refine hK.out _ _ (fun _ => hS0) ?_
  clear hK K
  try simp only [Act.put, Array.toArray_toList, List.setIfInBounds_toArray, List.set_cons_zero, List.set_cons_succ]
  refine anyL_one (i := 13) (by kernel_rfl) rfl (fun K hK => ?_)
  go_simp
  refine hK.out _ _ (fun h => absurd (by decide) h) ?_
  clear hK K
  try simp only [Act.put, Array.toArray_toList, List.setIfInBounds_toArray, List.set_cons_zero, List.set_cons_succ]
  refine anyL_one (i := 14) (by kernel_rfl) rfl (fun K hK => ?_)
  go_simp
  refine hK.out _ _ (fun h => absurd (by decide) h) ?_
  clear hK K
  try simp only [Act.put, Array.toArray_toList, List.setIfInBounds_toArray, List.set_cons_zero, List.set_cons_succ]
  refine anyL_one (i := 15) (by kernel_rfl) rfl (fun K hK => ?_)
  go_simp
  refine hK.out _ _ (fun h => absurd (by decide) h) ?_
  clear hK K
  try simp only [Act.put, Array.toArray_toList, List.setIfInBounds_toArray, List.set_cons_zero, List.set_cons_succ]
  refine anyL_one (i := 16) (by kernel_rfl) rfl (fun K hK => ?_)
  go_simp
  refine hK.out _ _ (fun h => absurd (by decide) h) ?_
  clear hK K
  try simp only [Act.put, Array.toArray_toList, List.setIfInBounds_toArray, List.set_cons_zero, List.set_cons_succ]
  refine anyL_one (i := 17) (by kernel_rfl) rfl (fun K hK => ?_)
  go_simp
  refine hK.out _ _ (fun h => absurd (by decide) h) ?_
  clear hK K
  try simp only [Act.put, Array.toArray_toList, List.setIfInBounds_toArray, List.set_cons_zero, List.set_cons_succ]
  refine anyL_one (i := 18) (by kernel_rfl) rfl (fun K hK => ?_)
  go_simp
  refine hK.out _ _ (fun h => absurd (by decide) h) ?_
  clear hK K
  try simp only [Act.put, Array.toArray_toList, List.setIfInBounds_toArray, List.set_cons_zero, List.set_cons_succ]
  refine anyL_one (i := 19) (by kernel_rfl) rfl (fun K hK => ?_)
  go_simp
  refine hK.out _ _ (fun h => absurd (by decide) h) ?_
  clear hK K
  try simp only [Act.put, Array.toArray_toList, List.setIfInBounds_toArray, List.set_cons_zero, List.set_cons_succ]
  refine anyL_done (by kernel_rfl) ?_ _
  refine NoPanic.normal ?_
  have hF := ((((HFu.out.stored 3 (.int .i64 (cut x))).stored 4 (.int .i64 (cut y))).stored 5 (.int .i64 (cut cw))).stored 6 (.int .i64 (cut ch))).drew
  have hS := ((((HSu.out.far (b := W.heap.size) (i := 3) (by omega) (.int .i64 (cut x))).far (b := W.heap.size) (i := 4) (by omega) (.int .i64 (cut y))).far (b := W.heap.size) (i := 5) (by omega) (.int .i64 (cut cw))).far (b := W.heap.size) (i := 6) (by omega) (.int .i64 (cut ch))).drew
  have hbel := (below_set (below_set (below_set (below_set HBu.out (b := W.heap.size) (off := 3) (Nat.le_refl _) (.int .i64 (cut x))) (b := W.heap.size) (off := 4) (Nat.le_refl _) (.int .i64 (cut y))) (b := W.heap.size) (off := 5) (Nat.le_refl _) (.int .i64 (cut cw))) (b := W.heap.size) (off := 6) (Nat.le_refl _) (.int .i64 (cut ch))).drew
  clear hS0 c3 c4 c5 c6 f3 f4 f5 f6 d3 d4 d5 d6 g3 g4 g5 g6 HF HS HB HFu HSu HBu
  generalize hw5 : World.drew _ = w5 at hF hS hbel ⊢
  clear hw5
  have hF : Blk w5 W.heap.size 40 (fragC ⟨box, node, par, cut x, cut y, cut cw, cut ch, text⟩) := hF
  go_wp2_with fail
  have hu := Try.underlying44
  have hu1 := Try.underlying40
  have hlen : (Try.prog.info? 44).map (·.size) = some (sty zs).toList.length := by rw [Array.length_toList]; exact HSZ.out
  have hlen1 : (Try.prog.info? 40).map (·.size) = some (fragC ⟨box, node, par, cut x, cut y, cut cw, cut ch, text⟩).toList.length := by kernel_rfl
  have KEEP : ∀ w', Blk w' W.heap.size 40 (fragC ⟨box, node, par, cut x, cut y, cut cw, cut ch, text⟩) → Blk w' (W.heap.size + 1) 44 (sty zs) → w'.rangeAt W.heap.size 0 (fragC ⟨box, node, par, cut x, cut y, cut cw, cut ch, text⟩).toList ∧ w'.rangeAt (W.heap.size + 1) 0 (sty zs).toList := fun w' h1 h2 => ⟨fun j v hv => by rw [Nat.zero_add, h1.cell]; simpa using hv, fun j v hv => by rw [Nat.zero_add, h2.cell]; simpa using hv⟩
  have KEEP' := Lib.hid KEEP
  have hF := hF.drew
  have hS := hS.drew
  have hbel := hbel.drew
  clear KEEP
  refine wp_region_noPanic ?_
  refine wp_region_held_drew (S := fun w' => w'.rangeAt W.heap.size 0 (fragC ⟨box, node, par, cut x, cut y, cut cw, cut ch, text⟩).toList ∧ w'.rangeAt (W.heap.size + 1) 0 (sty zs).toList) (by kernel_rfl) (KEEP'.out _ hF hS) (fun hHeld => ?_)
  refine wpAnyH_ready (rs := [0]) (by kernel_rfl) (by simp) ?_
  refine AllReadyH.cons rfl (fun K hK => ?_) AllReadyH.nil
  go_simp
  refine (painted_calls _).mono ?_
  rintro e w1 ⟨rfl, hb⟩
  have hF := hF.below hb hF.lt
  have hS := hS.below hb hS.lt
  have hbel := below_then hbel hb
  clear hb
  refine hK.out _ _ (KEEP'.out _ hF hS) (fun hHeld => ?_)
  clear hK K
  try simp only [Act.put, Array.toArray_toList, List.setIfInBounds_toArray, List.set_cons_zero, List.set_cons_succ]
  refine wpAnyH_take (i := 1) (oi := { dst := some 24, op := _, type := _, pos := _, after := _, guard := _ }) (v := ?_) rfl (by kernel_rfl) (by kernel_rfl) (by kernel_rfl) (fun _ _ _ h => h) (Or.inl ⟨by kernel_rfl, ?_⟩) (by assumption) ?_
  rotate_left 1
  · (intro w hSw; (try dsimp only at hSw); go_simp; try with_reducible rfl)
  try simp only [Act.put, Array.toArray_toList, List.setIfInBounds_toArray, List.set_cons_zero, List.set_cons_succ]
  refine wpAnyH_take (i := 2) (oi := { dst := some 25, op := _, type := _, pos := _, after := _, guard := _ }) (v := _) rfl (by kernel_rfl) (by kernel_rfl) (by kernel_rfl) (fun _ _ _ h => h) (yieldsIf_load_mid (by kernel_rfl) _ _ rfl _ _ rfl _ _ (fun w hSw => by (try dsimp only at hSw); exact hSw.1) hu1 rfl hlen1) (by assumption) ?_
  try simp only [Act.put, Array.toArray_toList, List.setIfInBounds_toArray, List.set_cons_zero, List.set_cons_succ]
  refine wpAnyH_take (i := 3) (oi := { dst := some 26, op := _, type := _, pos := _, after := _, guard := _ }) (v := ?_) rfl (by kernel_rfl) (by kernel_rfl) (by kernel_rfl) (fun _ _ _ h => h) (Or.inl ⟨by kernel_rfl, ?_⟩) (by assumption) ?_
  rotate_left 1
  · (intro w hSw; (try dsimp only at hSw); go_simp; try with_reducible rfl)
  try simp only [Act.put, Array.toArray_toList, List.setIfInBounds_toArray, List.set_cons_zero, List.set_cons_succ]
  refine wpAnyH_take (i := 4) (oi := { dst := some 27, op := _, type := _, pos := _, after := _, guard := _ }) (v := _) rfl (by kernel_rfl) (by kernel_rfl) (by kernel_rfl) (fun _ _ _ h => h) (yieldsIf_load_mid (by kernel_rfl) _ _ rfl _ _ rfl _ _ (fun w hSw => by (try dsimp only at hSw); exact hSw.2) hu rfl hlen) (by assumption) ?_
  try simp only [Act.put, Array.toArray_toList, List.setIfInBounds_toArray, List.set_cons_zero, List.set_cons_succ]
  refine wpAnyH_take (i := 6) (oi := { dst := some 29, op := _, type := _, pos := _, after := _, guard := _ }) (v := _) rfl (by kernel_rfl) (by kernel_rfl) (by kernel_rfl) (fun _ _ _ h => h) (yieldsIf_load_mid (by kernel_rfl) _ _ rfl _ _ rfl _ _ (fun w hSw => by (try dsimp only at hSw); exact hSw.1) hu1 rfl hlen1) (by assumption) ?_
  try simp only [Act.put, Array.toArray_toList, List.setIfInBounds_toArray, List.set_cons_zero, List.set_cons_succ]
  refine wpAnyH_take (i := 7) (oi := { dst := some 30, op := _, type := _, pos := _, after := _, guard := _ }) (v := ?_) rfl (by kernel_rfl) (by kernel_rfl) (by kernel_rfl) (fun _ _ _ h => h) (Or.inl ⟨by kernel_rfl, ?_⟩) (by assumption) ?_
  rotate_left 1
  · (intro w hSw; (try dsimp only at hSw); go_simp; try with_reducible rfl)
  try simp only [Act.put, Array.toArray_toList, List.setIfInBounds_toArray, List.set_cons_zero, List.set_cons_succ]
  refine wpAnyH_take (i := 8) (oi := { dst := some 31, op := _, type := _, pos := _, after := _, guard := _ }) (v := _) rfl (by kernel_rfl) (by kernel_rfl) (by kernel_rfl) (fun _ _ _ h => h) (yieldsIf_load_mid (by kernel_rfl) _ _ rfl _ _ rfl _ _ (fun w hSw => by (try dsimp only at hSw); exact hSw.2) hu rfl hlen) (by assumption) ?_
  try simp only [Act.put, Array.toArray_toList, List.setIfInBounds_toArray, List.set_cons_zero, List.set_cons_succ]
  refine wpAnyH_ready (rs := [5]) (by kernel_rfl) (by simp) ?_
  refine AllReadyH.cons rfl (fun K hK => ?_) AllReadyH.nil
  go_simp
  refine (HA.out _).mono ?_
  rintro e w2 ⟨v, rfl, hown, hb⟩
  obtain ⟨A1, c1, rfl⟩ := own_any2 hown
  have H1 := Lib.hid (Holds.of_own hown)
  have hF := hF.below hb hF.lt
  have hS := hS.below hb hS.lt
  have hbel := below_then hbel hb
  clear hown hb
  refine hK.out _ _ (KEEP'.out _ hF hS) (fun hHeld => ?_)
  clear hK K
  try simp only [Act.put, Array.toArray_toList, List.setIfInBounds_toArray, List.set_cons_zero, List.set_cons_succ]
  refine wpAnyH_ready (rs := [9]) (by kernel_rfl) (by simp) ?_
  refine AllReadyH.cons rfl (fun K hK => ?_) AllReadyH.nil
  go_simp
  refine (HR.out _).mono ?_
  rintro e w3 ⟨v, rfl, hown, hb⟩
  obtain ⟨A2, c2, rfl⟩ := own_any2 hown
  have H2 := Lib.hid (Holds.of_own hown)
  have H3 := Lib.hid (H1.out.below hb (Nat.le_refl _))
  have hw3 := hb.size
  have hF := hF.below hb hF.lt
  have hS := hS.below hb hS.lt
  have hbel := below_then hbel hb
  clear hown hb
  refine hK.out _ _ (KEEP'.out _ hF hS) (fun hHeld => ?_)
  clear hK K
  try simp only [Act.put, Array.toArray_toList, List.setIfInBounds_toArray, List.set_cons_zero, List.set_cons_succ]
  refine wpAnyH_ready (rs := [10]) (by kernel_rfl) (by simp) ?_
  refine AllReadyH.cons rfl (fun K hK => ?_) AllReadyH.nil
  go_simp
  refine (eqCmd_calls _ _ _ _ _ _ _ L _ rfl H3.out H2.out (by omega) hw3 (Nat.le_refl _)).mono ?_
  rintro e w4 ⟨rfl, hb⟩
  have hF := hF.below hb hF.lt
  have hS := hS.below hb hS.lt
  have hbel := below_then hbel hb
  clear hb
  refine hK.out _ _ (KEEP'.out _ hF hS) (fun hHeld => ?_)
  clear hK K
  try simp only [Act.put, Array.toArray_toList, List.setIfInBounds_toArray, List.set_cons_zero, List.set_cons_succ]
  refine wpAnyH_take (i := 11) (oi := { dst := some 34, op := _, type := _, pos := _, after := _, guard := _ }) (v := ?_) rfl (by kernel_rfl) (by kernel_rfl) (by kernel_rfl) (fun _ _ _ h => h) (Or.inl ⟨by kernel_rfl, ?_⟩) (by assumption) ?_
  rotate_left 1
  · (intro w hSw; (try dsimp only at hSw); go_simp; try with_reducible rfl)
  try simp only [Act.put, Array.toArray_toList, List.setIfInBounds_toArray, List.set_cons_zero, List.set_cons_succ]
  refine wpAnyH_take (i := 12) (oi := { dst := some 6, op := _, type := _, pos := _, after := _, guard := _ }) (v := ?_) rfl (by kernel_rfl) (by kernel_rfl) (by kernel_rfl) (fun _ _ _ h => h) (Or.inl ⟨by kernel_rfl, ?_⟩) (by assumption) ?_
  rotate_left 1
  · (intro w hSw; (try dsimp only at hSw); go_simp; try with_reducible rfl)
  try simp only [Act.put, Array.toArray_toList, List.setIfInBounds_toArray, List.set_cons_zero, List.set_cons_succ]
  refine wpAnyH_done (by kernel_rfl) ?_ _
  refine NoPanic.normal ?_
  go_wp2_with fail
  go_ret
  exact ⟨rfl, hbel⟩
end Go.Proofs.Ytkppignoomnmdaa
