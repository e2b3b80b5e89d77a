/- widths.across, Wide, Shrink, High. -/
import Derived.Test.YtpinfaoeggipmaaBounds
import Derived.Test.YtpinfaoeggipmaaFrame
import Derived.Test.YtpinfaoeggipmaaRow
import Derived.Deep.RegionHeld3
import Derived.Deep.WholeRow
namespace Go.Proofs.Ytpinfaoeggipmaa
open Go.RowKit
set_option linter.unusedVariables false
set_option linter.unusedSimpArgs false
attribute [local go_sem high] run_min2 run_max2

theorem bnd_one (zs : List Int) (room rim : Int) (parts : Bool) (size least most : Int) : (bnd zs room rim parts size least most).all (·.oneCell') = true := by
  unfold bnd; simp [sty, Value.oneCell']
set_option maxRecDepth 100000 in
theorem build_bnd0 (f : Nat → Int) (room rim : Int) (parts : Bool) (size least most : Int) (w : World) :
    (Instr.build 84 #[(0, .agg (sty ((List.range 118).map f))), (1, .int .i64 room), (2, .int .i64 rim), (3, .bool parts), (4, .int .i64 size), (5, .int .i64 least), (6, .int .i64 most)]).run Try.prog w = .ok (.agg (bnd ((List.range 118).map f) room rim parts size least most)) w := by kernel_rfl
theorem build_bnd (zs : List Int) (hz : zs.length = 118) (room rim : Int) (parts : Bool) (size least most : Int) (w : World) :
    (Instr.build 84 #[(0, .agg (sty zs)), (1, .int .i64 room), (2, .int .i64 rim), (3, .bool parts), (4, .int .i64 size), (5, .int .i64 least), (6, .int .i64 most)]).run Try.prog w = .ok (.agg (bnd zs room rim parts size least most)) w := by
  have := build_bnd0 (fun i => zs.getD i 0) room rim parts size least most w
  rwa [← zs_range zs 118 hz] at this
theorem alloc_bnd (ρ : Operand → Value) (o : Oper) (ho : o.op = .alloc 84) (w : World) :
    (execOp ρ o).run Try.prog w = .ok (.value (.pointer (some ⟨w.heap.size, 0, none⟩))) (w.alloc (.cells Try.zeroCells84 84)) := by
  simp [execOp, ho, Instr.alloc, newVar, newRow]
  rfl
theorem len4_bd (zs : List Int) (p room : Int) : -16777216 ≤ len4 zs p room ∧ len4 zs p room ≤ 16777216 := by
  unfold len4; split
  · exact ofN_bd _ _ _
  · omega
theorem abt_bd {x : Int} (h : -16777216 ≤ x ∧ x ≤ 16777216) : 0 ≤ ab true x ∧ ab true x ≤ 16777216 := by unfold ab; simp; omega
set_option maxRecDepth 100000 in
theorem exec_bnd (zs : List Int) (hz : zs.length = 118) (room rim : Int) (parts : Bool) (size least most : Int) (ρ : Operand → Value) (o : Oper) (x0 x1 x2 x3 x4 x5 x6 : Operand) (w : World)
    (ho : o.op = .build 84 #[(0, x0), (1, x1), (2, x2), (3, x3), (4, x4), (5, x5), (6, x6)]) (h0 : ρ x0 = .agg (sty zs)) (h1 : ρ x1 = .int .i64 room) (h2 : ρ x2 = .int .i64 rim) (h3 : ρ x3 = .bool parts) (h4 : ρ x4 = .int .i64 size) (h5 : ρ x5 = .int .i64 least) (h6 : ρ x6 = .int .i64 most) :
    (execOp ρ o).run Try.prog w = .ok (.value (.agg (bnd zs room rim parts size least most))) w := by
  unfold execOp
  rw [ho]
  simp only [List.map_toArray, List.map_cons, List.map_nil, h0, h1, h2, h3, h4, h5, h6, Sem.run_bind, build_bnd zs hz, Result.andThen_ok, Sem.run_pure]
theorem zero_bnd : Try.zeroCells84.size = 124 := by kernel_rfl

set_option maxRecDepth 100000 in
set_option maxHeartbeats 1000000 in
theorem across_calls (zs : List Int) (room : Int) (w : World) (hz : zs.length = 118) :
    Calls Try.prog 65 #[.agg (sty zs), .int .i64 room] w fun e w' => e = .returned (.tuple #[.agg (bnd zs room (ab true (len4 zs 22 room) + ab true (len4 zs 20 room) + ab true (len4 zs 18 room) + ab true (len4 zs 16 room)) true 5 7 9), .agg (four false zs 11 room)]) ∧ Below w.heap.size w w' := by
  have HSZ : Hid ((Try.prog.info? 38).map (·.size) = some (sty zs).size) := by show _ = _; rw [sty_size, hz]; kernel_rfl
  have b0 := Blk.new w 38 (sty zs)
  have bz := Blk.new (w.alloc (.cells (sty zs) 38)) 84 Try.zeroCells84
  have bd := Blk.new ((w.alloc (.cells (sty zs) 38)).alloc (.cells Try.zeroCells84 84)) 41 #[.int .i64 0, .int .i64 0, .int .i64 0, .int .i64 0]
  simp only [alloc_size] at bz bd
  have bz := bz.alloc (.cells #[.int .i64 0, .int .i64 0, .int .i64 0, .int .i64 0] 41)
  have b0 := (b0.alloc (.cells Try.zeroCells84 84)).alloc (.cells #[.int .i64 0, .int .i64 0, .int .i64 0, .int .i64 0] 41)
  have hf : ∀ b z p r, four b z p r = #[.int .i64 (ab b (len4 z p r)), .int .i64 (ab b (len4 z (p + 1) r)), .int .i64 (ab b (len4 z (p + 2) r)), .int .i64 (ab b (len4 z (p + 3) r))] := fun _ _ _ _ => rfl
  have hab : ∀ p, -16777216 ≤ len4 zs p room ∧ len4 zs p room ≤ 16777216 := fun p => len4_bd zs p room
  have h22 := abt_bd (hab 22)
  have h20 := abt_bd (hab 20)
  have h18 := abt_bd (hab 18)
  have h16 := abt_bd (hab 16)
  clear hab
  go_enter Try.func65, Try.ntmps65
  go_wp2_with (first | (refine wpList_allocTo rfl _ rfl _ _ (alloc_bnd _ _ rfl _) ?_; simp only [Act.put, List.setIfInBounds_toArray, List.set_cons_zero, List.set_cons_succ, World.heap_size_alloc]) | (refine wpList_load_row rfl 38 _ rfl w.heap.size rfl 38 (sty zs) (0, 0) _ b0 Try.underlying38 rfl HSZ.out ?_) | (go_at_call 30; refine (frame_calls _ _ _ hz).mono ?_; rintro e w1 ⟨rfl, hb1⟩))
  have hbel := below_alloc (below_alloc (below_alloc (below_then (below_alloc (below_alloc (below_alloc (Below.refl _ w) _) _) _) hb1) (.cells #[.int .i64 (ab false (len4 zs 11 room)), .int .i64 (ab false (len4 zs 12 room)), .int .i64 (ab false (len4 zs 13 room)), .int .i64 (ab false (len4 zs 14 room))] 41)) (.cells #[.int .i64 (ab true (len4 zs 19 room)), .int .i64 (ab true (len4 zs 20 room)), .int .i64 (ab true (len4 zs 21 room)), .int .i64 (ab true (len4 zs 22 room))] 41)) (.cells #[.int .i64 (ab true (len4 zs 15 room)), .int .i64 (ab true (len4 zs 16 room)), .int .i64 (ab true (len4 zs 17 room)), .int .i64 (ab true (len4 zs 18 room))] 41)
  have b0 := (((b0.below hb1 b0.lt).alloc (.cells #[.int .i64 (ab false (len4 zs 11 room)), .int .i64 (ab false (len4 zs 12 room)), .int .i64 (ab false (len4 zs 13 room)), .int .i64 (ab false (len4 zs 14 room))] 41)).alloc (.cells #[.int .i64 (ab true (len4 zs 19 room)), .int .i64 (ab true (len4 zs 20 room)), .int .i64 (ab true (len4 zs 21 room)), .int .i64 (ab true (len4 zs 22 room))] 41)).alloc (.cells #[.int .i64 (ab true (len4 zs 15 room)), .int .i64 (ab true (len4 zs 16 room)), .int .i64 (ab true (len4 zs 17 room)), .int .i64 (ab true (len4 zs 18 room))] 41)
  have bz := (((bz.below hb1 bz.lt).alloc (.cells #[.int .i64 (ab false (len4 zs 11 room)), .int .i64 (ab false (len4 zs 12 room)), .int .i64 (ab false (len4 zs 13 room)), .int .i64 (ab false (len4 zs 14 room))] 41)).alloc (.cells #[.int .i64 (ab true (len4 zs 19 room)), .int .i64 (ab true (len4 zs 20 room)), .int .i64 (ab true (len4 zs 21 room)), .int .i64 (ab true (len4 zs 22 room))] 41)).alloc (.cells #[.int .i64 (ab true (len4 zs 15 room)), .int .i64 (ab true (len4 zs 16 room)), .int .i64 (ab true (len4 zs 17 room)), .int .i64 (ab true (len4 zs 18 room))] 41)
  have bd := (((bd.below hb1 bd.lt).alloc (.cells #[.int .i64 (ab false (len4 zs 11 room)), .int .i64 (ab false (len4 zs 12 room)), .int .i64 (ab false (len4 zs 13 room)), .int .i64 (ab false (len4 zs 14 room))] 41)).alloc (.cells #[.int .i64 (ab true (len4 zs 19 room)), .int .i64 (ab true (len4 zs 20 room)), .int .i64 (ab true (len4 zs 21 room)), .int .i64 (ab true (len4 zs 22 room))] 41)).alloc (.cells #[.int .i64 (ab true (len4 zs 15 room)), .int .i64 (ab true (len4 zs 16 room)), .int .i64 (ab true (len4 zs 17 room)), .int .i64 (ab true (len4 zs 18 room))] 41)
  have be := ((Blk.new w1 41 #[.int .i64 (ab false (len4 zs 11 room)), .int .i64 (ab false (len4 zs 12 room)), .int .i64 (ab false (len4 zs 13 room)), .int .i64 (ab false (len4 zs 14 room))]).alloc (.cells #[.int .i64 (ab true (len4 zs 19 room)), .int .i64 (ab true (len4 zs 20 room)), .int .i64 (ab true (len4 zs 21 room)), .int .i64 (ab true (len4 zs 22 room))] 41)).alloc (.cells #[.int .i64 (ab true (len4 zs 15 room)), .int .i64 (ab true (len4 zs 16 room)), .int .i64 (ab true (len4 zs 17 room)), .int .i64 (ab true (len4 zs 18 room))] 41)
  have hlt := hb1.size
  simp only [alloc_size] at hlt
  have KEEP : ∀ w', Blk w' w.heap.size 38 (sty zs) → Blk w' w1.heap.size 41 #[.int .i64 (ab false (len4 zs 11 room)), .int .i64 (ab false (len4 zs 12 room)), .int .i64 (ab false (len4 zs 13 room)), .int .i64 (ab false (len4 zs 14 room))] → w'.rangeAt w.heap.size 0 (sty zs).toList ∧ w'.cell? ⟨w1.heap.size, 0, none⟩ = some (.int .i64 (ab false (len4 zs 11 room))) ∧ w'.cell? ⟨w1.heap.size, 1, none⟩ = some (.int .i64 (ab false (len4 zs 12 room))) ∧ w'.cell? ⟨w1.heap.size, 2, none⟩ = some (.int .i64 (ab false (len4 zs 13 room))) ∧ w'.cell? ⟨w1.heap.size, 3, none⟩ = some (.int .i64 (ab false (len4 zs 14 room))) := fun w' h1 h2 => ⟨fun j v hv => by rw [Nat.zero_add, h1.cell]; simpa using hv, h2.cell 0, h2.cell 1, h2.cell 2, h2.cell 3⟩
  have KEEP' := Lib.hid KEEP
  have B0 := Lib.hid b0
  have BZ := Lib.hid bz
  have BD := Lib.hid bd
  have BE := Lib.hid be
  have HBEL := Lib.hid hbel
  have hu := Try.underlying38
  have hlen : (Try.prog.info? 38).map (·.size) = some (sty zs).toList.length := by rw [Array.length_toList]; exact HSZ.out
  have hbl := build_bnd zs hz room (ab true (len4 zs 22 room) + ab true (len4 zs 20 room) + ab true (len4 zs 18 room) + ab true (len4 zs 16 room)) true 5 7 9
  clear KEEP b0 bz bd be hbel hb1
  refine wp_region_noPanic ?_
  refine wp_region_held_drew (S := fun w' => w'.rangeAt w.heap.size 0 (sty zs).toList ∧ w'.cell? ⟨w1.heap.size, 0, none⟩ = some (.int .i64 (ab false (len4 zs 11 room))) ∧ w'.cell? ⟨w1.heap.size, 1, none⟩ = some (.int .i64 (ab false (len4 zs 12 room))) ∧ w'.cell? ⟨w1.heap.size, 2, none⟩ = some (.int .i64 (ab false (len4 zs 13 room))) ∧ w'.cell? ⟨w1.heap.size, 3, none⟩ = some (.int .i64 (ab false (len4 zs 14 room)))) (by kernel_rfl) (KEEP'.out _ B0.out BE.out) (fun hHeld => ?_)
  refine wpAnyH_take (i := 0) (oi := { dst := some 28, op := _, type := _, pos := _, after := _, guard := _ }) (v := _) rfl (by kernel_rfl) (by kernel_rfl) (by kernel_rfl) (fun _ _ _ h => h) (yieldsIf_load_mid (by kernel_rfl) _ _ rfl _ _ rfl _ _ (fun w hSw => by (try dsimp only at hSw); exact hSw.1) hu rfl hlen) (by assumption) ?_
  try simp only [Act.put, Array.toArray_toList, List.setIfInBounds_toArray, List.set_cons_zero, List.set_cons_succ]
  refine wpAnyH_take (i := 1) (oi := { dst := some 29, op := _, type := _, pos := _, after := _, guard := _ }) (v := ?_) rfl (by kernel_rfl) (by kernel_rfl) (by kernel_rfl) (fun _ _ _ h => h) (Or.inl ⟨by kernel_rfl, ?_⟩) (by assumption) ?_
  rotate_left 1
  · (intro w hSw; (try dsimp only at hSw); go_simp; try with_reducible rfl)
  try simp only [Act.put, Array.toArray_toList, List.setIfInBounds_toArray, List.set_cons_zero, List.set_cons_succ]
  refine wpAnyH_take (i := 2) (oi := { dst := some 30, op := _, type := _, pos := _, after := _, guard := _ }) (v := ?_) rfl (by kernel_rfl) (by kernel_rfl) (by kernel_rfl) (fun _ _ _ h => h) (Or.inl ⟨by kernel_rfl, ?_⟩) (by assumption) ?_
  rotate_left 1
  · (intro w hSw; (try dsimp only at hSw); go_simp; try with_reducible rfl)
  try simp only [Act.put, Array.toArray_toList, List.setIfInBounds_toArray, List.set_cons_zero, List.set_cons_succ]
  refine wpAnyH_take (i := 3) (oi := { dst := some 31, op := _, type := _, pos := _, after := _, guard := _ }) (v := .agg (bnd zs room (ab true (len4 zs 22 room) + ab true (len4 zs 20 room) + ab true (len4 zs 18 room) + ab true (len4 zs 16 room)) true 5 7 9)) rfl (by kernel_rfl) (by kernel_rfl) (by kernel_rfl) (fun _ _ _ h => h) (Or.inl ⟨by kernel_rfl, ?_⟩) (by assumption) ?_
  · exact fun w hSw => exec_bnd _ hz _ _ _ _ _ _ _ _ _ _ _ _ _ _ _ _ rfl rfl rfl rfl rfl rfl rfl rfl
  try simp only [Act.put, Array.toArray_toList, List.setIfInBounds_toArray, List.set_cons_zero, List.set_cons_succ]
  refine wpAnyH_take (i := 4) (oi := { dst := some 32, op := _, type := _, pos := _, after := _, guard := _ }) (v := ?_) rfl (by kernel_rfl) (by kernel_rfl) (by kernel_rfl) (fun _ _ _ h => h) (Or.inl ⟨by kernel_rfl, ?_⟩) (by assumption) ?_
  rotate_left 1
  · (intro w hSw; (try dsimp only at hSw); go_simp; try with_reducible rfl)
  try simp only [Act.put, Array.toArray_toList, List.setIfInBounds_toArray, List.set_cons_zero, List.set_cons_succ]
  refine wpAnyH_ready (rs := [5]) (by kernel_rfl) (by simp) ?_
  refine AllReadyH.cons rfl (fun K hK => ?_) AllReadyH.nil
  rw [if_pos (by kernel_rfl)]
  refine wp_store_mid _ _ _ rfl (w.heap.size + 1) 0 (bnd zs room (ab true (len4 zs 22 room) + ab true (len4 zs 20 room) + ab true (len4 zs 18 room) + ab true (len4 zs 16 room)) true 5 7 9) rfl rfl (BZ.out.there _ (by rw [bnd_size, hz, zero_bnd]; omega)) (by rw [bnd_size, hz]; kernel_rfl) (bnd_one _ _ _ _ _ _ _) ?_
  replace HBEL := Lib.hid (below_setCells (b := w.heap.size + 1) (by omega) (bnd zs room (ab true (len4 zs 22 room) + ab true (len4 zs 20 room) + ab true (len4 zs 18 room) + ab true (len4 zs 16 room)) true 5 7 9).toList 0 _ HBEL.out.drew)
  replace B0 := Lib.hid (Blk.farCells (b := w.heap.size + 1) (by omega) (bnd zs room (ab true (len4 zs 22 room) + ab true (len4 zs 20 room) + ab true (len4 zs 18 room) + ab true (len4 zs 16 room)) true 5 7 9).toList 0 _ _ B0.out.drew)
  replace BE := Lib.hid (Blk.farCells (b := w.heap.size + 1) (by omega) (bnd zs room (ab true (len4 zs 22 room) + ab true (len4 zs 20 room) + ab true (len4 zs 18 room) + ab true (len4 zs 16 room)) true 5 7 9).toList 0 _ _ BE.out.drew)
  replace BD := Lib.hid (Blk.farCells (b := w.heap.size + 1) (by omega) (bnd zs room (ab true (len4 zs 22 room) + ab true (len4 zs 20 room) + ab true (len4 zs 18 room) + ab true (len4 zs 16 room)) true 5 7 9).toList 0 _ _ BD.out.drew)
  replace BZ := Lib.hid (BZ.out.drew.setAll (bnd zs room (ab true (len4 zs 22 room) + ab true (len4 zs 20 room) + ab true (len4 zs 18 room) + ab true (len4 zs 16 room)) true 5 7 9) (by rw [bnd_size, hz, zero_bnd]))
  refine hK.out _ _ (KEEP'.out _ B0.out BE.out) (fun hHeld => ?_)
  clear hK K
  try simp only [Act.put, Array.toArray_toList, List.setIfInBounds_toArray, List.set_cons_zero, List.set_cons_succ]
  refine wpAnyH_ready (rs := [6]) (by kernel_rfl) (by simp) ?_
  refine AllReadyH.cons rfl (fun K hK => ?_) AllReadyH.nil
  rw [if_pos (by kernel_rfl)]
  refine wp_store_mid _ _ _ rfl (w.heap.size + 1 + 1) 0 #[.int .i64 (ab false (len4 zs 11 room)), .int .i64 (ab false (len4 zs 12 room)), .int .i64 (ab false (len4 zs 13 room)), .int .i64 (ab false (len4 zs 14 room))] rfl rfl (BD.out.there _ (by simp)) (by kernel_rfl) (by simp [Value.oneCell']) ?_
  replace HBEL := Lib.hid (below_setCells (b := w.heap.size + 1 + 1) (by omega) (#[.int .i64 (ab false (len4 zs 11 room)), .int .i64 (ab false (len4 zs 12 room)), .int .i64 (ab false (len4 zs 13 room)), .int .i64 (ab false (len4 zs 14 room))]).toList 0 _ HBEL.out)
  replace B0 := Lib.hid (Blk.farCells (b := w.heap.size + 1 + 1) (by omega) (#[.int .i64 (ab false (len4 zs 11 room)), .int .i64 (ab false (len4 zs 12 room)), .int .i64 (ab false (len4 zs 13 room)), .int .i64 (ab false (len4 zs 14 room))]).toList 0 _ _ B0.out)
  replace BE := Lib.hid (Blk.farCells (b := w.heap.size + 1 + 1) (by omega) (#[.int .i64 (ab false (len4 zs 11 room)), .int .i64 (ab false (len4 zs 12 room)), .int .i64 (ab false (len4 zs 13 room)), .int .i64 (ab false (len4 zs 14 room))]).toList 0 _ _ BE.out)
  replace BZ := Lib.hid (Blk.farCells (b := w.heap.size + 1 + 1) (by omega) (#[.int .i64 (ab false (len4 zs 11 room)), .int .i64 (ab false (len4 zs 12 room)), .int .i64 (ab false (len4 zs 13 room)), .int .i64 (ab false (len4 zs 14 room))]).toList 0 _ _ BZ.out)
  replace BD := Lib.hid (BD.out.setAll #[.int .i64 (ab false (len4 zs 11 room)), .int .i64 (ab false (len4 zs 12 room)), .int .i64 (ab false (len4 zs 13 room)), .int .i64 (ab false (len4 zs 14 room))] rfl)
  refine hK.out _ _ (KEEP'.out _ B0.out BE.out) (fun hHeld => ?_)
  clear hK K
  try simp only [Act.put, Array.toArray_toList, List.setIfInBounds_toArray, List.set_cons_zero, List.set_cons_succ]
  refine wpAnyH_done (by kernel_rfl) ?_ _
  refine NoPanic.normal ?_
  go_wp2_with fail
  refine bodyPost_ret (v := .tuple #[.agg (bnd zs room (ab true (len4 zs 22 room) + ab true (len4 zs 20 room) + ab true (len4 zs 18 room) + ab true (len4 zs 16 room)) true 5 7 9), .agg (four false zs 11 room)]) ?_ rfl ⟨rfl, HBEL.out⟩
  have l2 := run_loadVar_row (P := Try.prog) _ _ _ 84 _ _ _ BZ.out Try.underlying84 rfl (by rw [bnd_size, hz]; kernel_rfl)
  have l3 := run_loadVar_row (P := Try.prog) _ _ _ 41 _ _ _ BD.out Try.underlying41 rfl (by kernel_rfl)
  simp [results, Try.results65, asAddr, l2, l3]
  exact rfl
end Go.Proofs.Ytpinfaoeggipmaa
