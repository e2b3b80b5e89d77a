/- The reference's Rim. -/
import Derived.Test.YtpinfaoeggipmaaRBound
namespace Go.Proofs.Ytpinfaoeggipmaa
open Go.RowKit
set_option linter.unusedVariables false
set_option linter.unusedSimpArgs false
attribute [local go_sem high] run_min2 run_max2

def rimW (zs : List Int) (room : Int) : Int := ab true (len4 zs 22 room) + ab true (len4 zs 20 room) + ab true (len4 zs 18 room) + ab true (len4 zs 16 room)
def rimH (zs : List Int) (room : Int) : Int := ab true (len4 zs 19 room) + ab true (len4 zs 21 room) + ab true (len4 zs 15 room) + ab true (len4 zs 17 room)
theorem drew_size (w : World) : w.drew.heap.size = w.heap.size := rfl
set_option maxRecDepth 100000 in
set_option maxHeartbeats 8000000 in
theorem rim_calls (zs : List Int) (room : Int) (w : World) (hz : zs.length = 118) :
    Calls Try.prog 67 #[.agg (sty zs), .int .i64 room] w fun e w' => e = .returned (.tuple #[.int .i64 (rimW zs room), .int .i64 (rimH zs room)]) ∧ Below w.heap.size w w' := by
  have HSZ : Hid ((Try.prog.info? 38).map (·.size) = some (sty zs).size) := by show _ = _; rw [sty_size, hz]; kernel_rfl
  have b0 := Blk.new w 38 (sty zs)
  have hbel := (below_alloc (Below.refl _ w) (.cells (sty zs) 38)).drew
  have b0 : Blk (w.alloc (.cells (sty zs) 38)).drew w.heap.size 38 (sty zs) := b0.drew
  have KEEP : ∀ w', Blk w' w.heap.size 38 (sty zs) → w'.rangeAt w.heap.size 0 (sty zs).toList := fun w' h1 => fun j v hv => by rw [Nat.zero_add, h1.cell]; simpa using hv
  have KEEP' := Lib.hid KEEP
  have hu := Try.underlying38
  have hlen : (Try.prog.info? 38).map (·.size) = some (sty zs).toList.length := by rw [Array.length_toList]; exact HSZ.out
  have hab : ∀ p, -16777216 ≤ len4 zs p room ∧ len4 zs p room ≤ 16777216 := fun p => len4_bd zs p room
  have h15 := abt_bd (hab 15)
  have h16 := abt_bd (hab 16)
  have h17 := abt_bd (hab 17)
  have h18 := abt_bd (hab 18)
  have h19 := abt_bd (hab 19)
  have h20 := abt_bd (hab 20)
  have h21 := abt_bd (hab 21)
  have h22 := abt_bd (hab 22)
  clear hab KEEP
  go_enter Try.func67, Try.ntmps67
  go_wp2_with fail
  refine wp_region_noPanic ?_
  refine wp_region_held_drew (S := fun w' => w'.rangeAt w.heap.size 0 (sty zs).toList) (by kernel_rfl) (KEEP'.out _ b0) (fun hHeld => ?_)
  refine wpAnyH_take (i := 0) (oi := { dst := some 8, op := _, type := _, pos := _, after := _, guard := _ }) (v := _) rfl (by kernel_rfl) (by kernel_rfl) (by kernel_rfl) (fun _ _ _ h => h) (yieldsIf_load_mid (by kernel_rfl) _ _ rfl _ _ rfl _ _ (fun w hSw => by (try dsimp only at hSw); exact hSw) hu rfl hlen) (by assumption) ?_
  try simp only [Act.put, Array.toArray_toList, List.setIfInBounds_toArray, List.set_cons_zero, List.set_cons_succ]
  refine wpAnyH_take (i := 1) (oi := { dst := some 9, op := _, type := _, pos := _, after := _, guard := _ }) (v := ?_) rfl (by kernel_rfl) (by kernel_rfl) (by kernel_rfl) (fun _ _ _ h => h) (Or.inl ⟨by kernel_rfl, ?_⟩) (by assumption) ?_
  rotate_left 1
  · (intro w hSw; (try dsimp only at hSw); go_simp; try with_reducible rfl)
  try simp only [Act.put, Array.toArray_toList, List.setIfInBounds_toArray, List.set_cons_zero, List.set_cons_succ]
  refine wpAnyH_take (i := 3) (oi := { dst := some 11, op := _, type := _, pos := _, after := _, guard := _ }) (v := _) rfl (by kernel_rfl) (by kernel_rfl) (by kernel_rfl) (fun _ _ _ h => h) (yieldsIf_load_mid (by kernel_rfl) _ _ rfl _ _ rfl _ _ (fun w hSw => by (try dsimp only at hSw); exact hSw) hu rfl hlen) (by assumption) ?_
  try simp only [Act.put, Array.toArray_toList, List.setIfInBounds_toArray, List.set_cons_zero, List.set_cons_succ]
  refine wpAnyH_take (i := 4) (oi := { dst := some 12, op := _, type := _, pos := _, after := _, guard := _ }) (v := ?_) rfl (by kernel_rfl) (by kernel_rfl) (by kernel_rfl) (fun _ _ _ h => h) (Or.inl ⟨by kernel_rfl, ?_⟩) (by assumption) ?_
  rotate_left 1
  · (intro w hSw; (try dsimp only at hSw); go_simp; try with_reducible rfl)
  try simp only [Act.put, Array.toArray_toList, List.setIfInBounds_toArray, List.set_cons_zero, List.set_cons_succ]
  refine wpAnyH_ready (rs := [2, 6, 7]) (by kernel_rfl) (by simp) ?_
  refine AllReadyH.cons rfl (fun K hK => ?_) (AllReadyH.cons rfl (fun K hK => ?_) (AllReadyH.cons rfl (fun K hK => ?_) AllReadyH.nil))
  · skip
    go_simp
    refine (redges_calls zs 19 room true _ hz (by omega) (by omega)).mono ?_
    rintro e wx1 ⟨rfl, hbz⟩
    have hs1 : w.heap.size + 1 ≤ wx1.heap.size := by have h := hbz.size; simpa using h
    have hbel := below_then hbel hbz
    have b0 := b0.below hbz b0.lt
    refine hK.out _ _ (KEEP'.out _ b0) (fun hHeld => ?_)
    clear hK K
    try simp only [Act.put, Array.toArray_toList, List.setIfInBounds_toArray, List.set_cons_zero, List.set_cons_succ]
    refine wpAnyH_ready (rs := [5, 6, 7]) (by kernel_rfl) (by simp) ?_
    refine AllReadyH.cons rfl (fun K hK => ?_) (AllReadyH.cons rfl (fun K hK => ?_) (AllReadyH.cons rfl (fun K hK => ?_) AllReadyH.nil))
    · skip
      go_simp
      refine (redges_calls zs 15 room true _ hz (by omega) (by omega)).mono ?_
      rintro e wx2 ⟨rfl, hbz⟩
      have hs2 : wx1.heap.size ≤ wx2.heap.size := by have h := hbz.size; simpa using h
      have hbel := below_then hbel hbz
      have b0 := b0.below hbz b0.lt
      refine hK.out _ _ (KEEP'.out _ b0) (fun hHeld => ?_)
      clear hK K
      try simp only [Act.put, Array.toArray_toList, List.setIfInBounds_toArray, List.set_cons_zero, List.set_cons_succ]
      refine wpAnyH_ready (rs := [6, 7]) (by kernel_rfl) (by simp) ?_
      refine AllReadyH.cons rfl (fun K hK => ?_) (AllReadyH.cons rfl (fun K hK => ?_) AllReadyH.nil)
      · skip
        go_simp
        have b0 := b0.alloc (.cells #[Value.int .i64 0, .int .i64 0, .int .i64 0, .int .i64 0] 41)
        have hbel := below_alloc hbel (.cells #[Value.int .i64 0, .int .i64 0, .int .i64 0, .int .i64 0] 41)
        have b6 := Blk.new wx2 41 #[Value.int .i64 0, .int .i64 0, .int .i64 0, .int .i64 0]
        try simp only [alloc_size, drew_size] at b6
        refine hK.out _ _ (KEEP'.out _ b0) (fun hHeld => ?_)
        clear hK K
        try simp only [Act.put, Array.toArray_toList, List.setIfInBounds_toArray, List.set_cons_zero, List.set_cons_succ]
        refine wpAnyH_ready (rs := [7]) (by kernel_rfl) (by simp) ?_
        refine AllReadyH.cons rfl (fun K hK => ?_) AllReadyH.nil
        · skip
          go_simp
          have b0 := b0.alloc (.cells #[Value.int .i64 0, .int .i64 0, .int .i64 0, .int .i64 0] 41)
          have b6 := b6.alloc (.cells #[Value.int .i64 0, .int .i64 0, .int .i64 0, .int .i64 0] 41)
          have hbel := below_alloc hbel (.cells #[Value.int .i64 0, .int .i64 0, .int .i64 0, .int .i64 0] 41)
          have b7 := Blk.new (wx2.alloc (.cells #[Value.int .i64 0, .int .i64 0, .int .i64 0, .int .i64 0] 41)) 41 #[Value.int .i64 0, .int .i64 0, .int .i64 0, .int .i64 0]
          try simp only [alloc_size, drew_size] at b7
          refine hK.out _ _ (KEEP'.out _ b0) (fun hHeld => ?_)
          clear hK K
          try simp only [Act.put, Array.toArray_toList, List.setIfInBounds_toArray, List.set_cons_zero, List.set_cons_succ]
          refine wpAnyH_ready (rs := [8]) (by kernel_rfl) (by simp) ?_
          refine AllReadyH.cons rfl (fun K hK => ?_) AllReadyH.nil
          rw [if_pos (by kernel_rfl)]
          refine wp_store_mid _ _ _ rfl (wx2.heap.size) 0 #[Value.int .i64 (ab true (len4 zs 19 room)), Value.int .i64 (ab true (len4 zs 20 room)), Value.int .i64 (ab true (len4 zs 21 room)), Value.int .i64 (ab true (len4 zs 22 room))] rfl rfl (b6.there _ (by simp)) (by kernel_rfl) (by simp [Value.oneCell']) ?_
          have hbel := below_setCells (b := wx2.heap.size) (by omega) (#[Value.int .i64 (ab true (len4 zs 19 room)), Value.int .i64 (ab true (len4 zs 20 room)), Value.int .i64 (ab true (len4 zs 21 room)), Value.int .i64 (ab true (len4 zs 22 room))] : Array Value).toList 0 _ hbel
          have b0 := Blk.farCells (b := wx2.heap.size) (by omega) (#[Value.int .i64 (ab true (len4 zs 19 room)), Value.int .i64 (ab true (len4 zs 20 room)), Value.int .i64 (ab true (len4 zs 21 room)), Value.int .i64 (ab true (len4 zs 22 room))] : Array Value).toList 0 _ _ b0
          have b7 := Blk.farCells (b := wx2.heap.size) (by omega) (#[Value.int .i64 (ab true (len4 zs 19 room)), Value.int .i64 (ab true (len4 zs 20 room)), Value.int .i64 (ab true (len4 zs 21 room)), Value.int .i64 (ab true (len4 zs 22 room))] : Array Value).toList 0 _ _ b7
          have b6 := b6.setAll #[Value.int .i64 (ab true (len4 zs 19 room)), Value.int .i64 (ab true (len4 zs 20 room)), Value.int .i64 (ab true (len4 zs 21 room)), Value.int .i64 (ab true (len4 zs 22 room))] rfl
          refine hK.out _ _ (KEEP'.out _ b0) (fun hHeld => ?_)
          clear hK K
          try simp only [Act.put, Array.toArray_toList, List.setIfInBounds_toArray, List.set_cons_zero, List.set_cons_succ]
          refine wpAnyH_ready (rs := [9]) (by kernel_rfl) (by simp) ?_
          refine AllReadyH.cons rfl (fun K hK => ?_) AllReadyH.nil
          rw [if_pos (by kernel_rfl)]
          refine wp_store_mid _ _ _ rfl (wx2.heap.size + 1) 0 #[Value.int .i64 (ab true (len4 zs 15 room)), Value.int .i64 (ab true (len4 zs 16 room)), Value.int .i64 (ab true (len4 zs 17 room)), Value.int .i64 (ab true (len4 zs 18 room))] rfl rfl (b7.there _ (by simp)) (by kernel_rfl) (by simp [Value.oneCell']) ?_
          have hbel := below_setCells (b := wx2.heap.size + 1) (by omega) (#[Value.int .i64 (ab true (len4 zs 15 room)), Value.int .i64 (ab true (len4 zs 16 room)), Value.int .i64 (ab true (len4 zs 17 room)), Value.int .i64 (ab true (len4 zs 18 room))] : Array Value).toList 0 _ hbel
          have b0 := Blk.farCells (b := wx2.heap.size + 1) (by omega) (#[Value.int .i64 (ab true (len4 zs 15 room)), Value.int .i64 (ab true (len4 zs 16 room)), Value.int .i64 (ab true (len4 zs 17 room)), Value.int .i64 (ab true (len4 zs 18 room))] : Array Value).toList 0 _ _ b0
          have b6 := Blk.farCells (b := wx2.heap.size + 1) (by omega) (#[Value.int .i64 (ab true (len4 zs 15 room)), Value.int .i64 (ab true (len4 zs 16 room)), Value.int .i64 (ab true (len4 zs 17 room)), Value.int .i64 (ab true (len4 zs 18 room))] : Array Value).toList 0 _ _ b6
          have b7 := b7.setAll #[Value.int .i64 (ab true (len4 zs 15 room)), Value.int .i64 (ab true (len4 zs 16 room)), Value.int .i64 (ab true (len4 zs 17 room)), Value.int .i64 (ab true (len4 zs 18 room))] rfl
          refine hK.out _ _ (KEEP'.out _ b0) (fun hHeld => ?_)
          clear hK K
          try simp only [Act.put, Array.toArray_toList, List.setIfInBounds_toArray, List.set_cons_zero, List.set_cons_succ]
          refine wpAnyH_done (by kernel_rfl) ?_ _
          refine NoPanic.normal ?_
          generalize World.setCells _ (wx2.heap.size + 1) _ _ = wz at b6 b7 hbel ⊢
          have cb60 : wz.cell? ⟨wx2.heap.size, 0, none⟩ = some (.int .i64 (ab true (len4 zs 19 room))) := b6.cell 0
          have cb61 : wz.cell? ⟨wx2.heap.size, 1, none⟩ = some (.int .i64 (ab true (len4 zs 20 room))) := b6.cell 1
          have cb62 : wz.cell? ⟨wx2.heap.size, 2, none⟩ = some (.int .i64 (ab true (len4 zs 21 room))) := b6.cell 2
          have cb63 : wz.cell? ⟨wx2.heap.size, 3, none⟩ = some (.int .i64 (ab true (len4 zs 22 room))) := b6.cell 3
          have cb70 : wz.cell? ⟨wx2.heap.size + 1, 0, none⟩ = some (.int .i64 (ab true (len4 zs 15 room))) := b7.cell 0
          have cb71 : wz.cell? ⟨wx2.heap.size + 1, 1, none⟩ = some (.int .i64 (ab true (len4 zs 16 room))) := b7.cell 1
          have cb72 : wz.cell? ⟨wx2.heap.size + 1, 2, none⟩ = some (.int .i64 (ab true (len4 zs 17 room))) := b7.cell 2
          have cb73 : wz.cell? ⟨wx2.heap.size + 1, 3, none⟩ = some (.int .i64 (ab true (len4 zs 18 room))) := b7.cell 3
          clear b0 b6 b7 KEEP' hHeld
          go_wp2_with fail
          go_quiet (fail)
          go_wp2_with fail
          go_ret2
          exact ⟨rfl, below_drewN hbel _⟩
      · skip
        go_simp
        have b0 := b0.alloc (.cells #[Value.int .i64 0, .int .i64 0, .int .i64 0, .int .i64 0] 41)
        have hbel := below_alloc hbel (.cells #[Value.int .i64 0, .int .i64 0, .int .i64 0, .int .i64 0] 41)
        have b7 := Blk.new wx2 41 #[Value.int .i64 0, .int .i64 0, .int .i64 0, .int .i64 0]
        try simp only [alloc_size, drew_size] at b7
        refine hK.out _ _ (KEEP'.out _ b0) (fun hHeld => ?_)
        clear hK K
        try simp only [Act.put, Array.toArray_toList, List.setIfInBounds_toArray, List.set_cons_zero, List.set_cons_succ]
        refine wpAnyH_ready (rs := [6]) (by kernel_rfl) (by simp) ?_
        refine AllReadyH.cons rfl (fun K hK => ?_) AllReadyH.nil
        · skip
          go_simp
          have b0 := b0.alloc (.cells #[Value.int .i64 0, .int .i64 0, .int .i64 0, .int .i64 0] 41)
          have b7 := b7.alloc (.cells #[Value.int .i64 0, .int .i64 0, .int .i64 0, .int .i64 0] 41)
          have hbel := below_alloc hbel (.cells #[Value.int .i64 0, .int .i64 0, .int .i64 0, .int .i64 0] 41)
          have b6 := Blk.new (wx2.alloc (.cells #[Value.int .i64 0, .int .i64 0, .int .i64 0, .int .i64 0] 41)) 41 #[Value.int .i64 0, .int .i64 0, .int .i64 0, .int .i64 0]
          try simp only [alloc_size, drew_size] at b6
          refine hK.out _ _ (KEEP'.out _ b0) (fun hHeld => ?_)
          clear hK K
          try simp only [Act.put, Array.toArray_toList, List.setIfInBounds_toArray, List.set_cons_zero, List.set_cons_succ]
          refine wpAnyH_ready (rs := [8]) (by kernel_rfl) (by simp) ?_
          refine AllReadyH.cons rfl (fun K hK => ?_) AllReadyH.nil
          rw [if_pos (by kernel_rfl)]
          refine wp_store_mid _ _ _ rfl (wx2.heap.size + 1) 0 #[Value.int .i64 (ab true (len4 zs 19 room)), Value.int .i64 (ab true (len4 zs 20 room)), Value.int .i64 (ab true (len4 zs 21 room)), Value.int .i64 (ab true (len4 zs 22 room))] rfl rfl (b6.there _ (by simp)) (by kernel_rfl) (by simp [Value.oneCell']) ?_
          have hbel := below_setCells (b := wx2.heap.size + 1) (by omega) (#[Value.int .i64 (ab true (len4 zs 19 room)), Value.int .i64 (ab true (len4 zs 20 room)), Value.int .i64 (ab true (len4 zs 21 room)), Value.int .i64 (ab true (len4 zs 22 room))] : Array Value).toList 0 _ hbel
          have b0 := Blk.farCells (b := wx2.heap.size + 1) (by omega) (#[Value.int .i64 (ab true (len4 zs 19 room)), Value.int .i64 (ab true (len4 zs 20 room)), Value.int .i64 (ab true (len4 zs 21 room)), Value.int .i64 (ab true (len4 zs 22 room))] : Array Value).toList 0 _ _ b0
          have b7 := Blk.farCells (b := wx2.heap.size + 1) (by omega) (#[Value.int .i64 (ab true (len4 zs 19 room)), Value.int .i64 (ab true (len4 zs 20 room)), Value.int .i64 (ab true (len4 zs 21 room)), Value.int .i64 (ab true (len4 zs 22 room))] : Array Value).toList 0 _ _ b7
          have b6 := b6.setAll #[Value.int .i64 (ab true (len4 zs 19 room)), Value.int .i64 (ab true (len4 zs 20 room)), Value.int .i64 (ab true (len4 zs 21 room)), Value.int .i64 (ab true (len4 zs 22 room))] rfl
          refine hK.out _ _ (KEEP'.out _ b0) (fun hHeld => ?_)
          clear hK K
          try simp only [Act.put, Array.toArray_toList, List.setIfInBounds_toArray, List.set_cons_zero, List.set_cons_succ]
          refine wpAnyH_ready (rs := [9]) (by kernel_rfl) (by simp) ?_
          refine AllReadyH.cons rfl (fun K hK => ?_) AllReadyH.nil
          rw [if_pos (by kernel_rfl)]
          refine wp_store_mid _ _ _ rfl (wx2.heap.size) 0 #[Value.int .i64 (ab true (len4 zs 15 room)), Value.int .i64 (ab true (len4 zs 16 room)), Value.int .i64 (ab true (len4 zs 17 room)), Value.int .i64 (ab true (len4 zs 18 room))] rfl rfl (b7.there _ (by simp)) (by kernel_rfl) (by simp [Value.oneCell']) ?_
          have hbel := below_setCells (b := wx2.heap.size) (by omega) (#[Value.int .i64 (ab true (len4 zs 15 room)), Value.int .i64 (ab true (len4 zs 16 room)), Value.int .i64 (ab true (len4 zs 17 room)), Value.int .i64 (ab true (len4 zs 18 room))] : Array Value).toList 0 _ hbel
          have b0 := Blk.farCells (b := wx2.heap.size) (by omega) (#[Value.int .i64 (ab true (len4 zs 15 room)), Value.int .i64 (ab true (len4 zs 16 room)), Value.int .i64 (ab true (len4 zs 17 room)), Value.int .i64 (ab true (len4 zs 18 room))] : Array Value).toList 0 _ _ b0
          have b6 := Blk.farCells (b := wx2.heap.size) (by omega) (#[Value.int .i64 (ab true (len4 zs 15 room)), Value.int .i64 (ab true (len4 zs 16 room)), Value.int .i64 (ab true (len4 zs 17 room)), Value.int .i64 (ab true (len4 zs 18 room))] : Array Value).toList 0 _ _ b6
          have b7 := b7.setAll #[Value.int .i64 (ab true (len4 zs 15 room)), Value.int .i64 (ab true (len4 zs 16 room)), Value.int .i64 (ab true (len4 zs 17 room)), Value.int .i64 (ab true (len4 zs 18 room))] rfl
          refine hK.out _ _ (KEEP'.out _ b0) (fun hHeld => ?_)
          clear hK K
          try simp only [Act.put, Array.toArray_toList, List.setIfInBounds_toArray, List.set_cons_zero, List.set_cons_succ]
          refine wpAnyH_done (by kernel_rfl) ?_ _
          refine NoPanic.normal ?_
          generalize World.setCells _ (wx2.heap.size) _ _ = wz at b6 b7 hbel ⊢
          have cb60 : wz.cell? ⟨wx2.heap.size + 1, 0, none⟩ = some (.int .i64 (ab true (len4 zs 19 room))) := b6.cell 0
          have cb61 : wz.cell? ⟨wx2.heap.size + 1, 1, none⟩ = some (.int .i64 (ab true (len4 zs 20 room))) := b6.cell 1
          have cb62 : wz.cell? ⟨wx2.heap.size + 1, 2, none⟩ = some (.int .i64 (ab true (len4 zs 21 room))) := b6.cell 2
          have cb63 : wz.cell? ⟨wx2.heap.size + 1, 3, none⟩ = some (.int .i64 (ab true (len4 zs 22 room))) := b6.cell 3
          have cb70 : wz.cell? ⟨wx2.heap.size, 0, none⟩ = some (.int .i64 (ab true (len4 zs 15 room))) := b7.cell 0
          have cb71 : wz.cell? ⟨wx2.heap.size, 1, none⟩ = some (.int .i64 (ab true (len4 zs 16 room))) := b7.cell 1
          have cb72 : wz.cell? ⟨wx2.heap.size, 2, none⟩ = some (.int .i64 (ab true (len4 zs 17 room))) := b7.cell 2
          have cb73 : wz.cell? ⟨wx2.heap.size, 3, none⟩ = some (.int .i64 (ab true (len4 zs 18 room))) := b7.cell 3
          clear b0 b6 b7 KEEP' hHeld
          go_wp2_with fail
          go_quiet (fail)
          go_wp2_with fail
          go_ret2
          exact ⟨rfl, below_drewN hbel _⟩
    · skip
      go_simp
      have b0 := b0.alloc (.cells #[Value.int .i64 0, .int .i64 0, .int .i64 0, .int .i64 0] 41)
      have hbel := below_alloc hbel (.cells #[Value.int .i64 0, .int .i64 0, .int .i64 0, .int .i64 0] 41)
      have b6 := Blk.new wx1 41 #[Value.int .i64 0, .int .i64 0, .int .i64 0, .int .i64 0]
      try simp only [alloc_size, drew_size] at b6
      refine hK.out _ _ (KEEP'.out _ b0) (fun hHeld => ?_)
      clear hK K
      try simp only [Act.put, Array.toArray_toList, List.setIfInBounds_toArray, List.set_cons_zero, List.set_cons_succ]
      refine wpAnyH_ready (rs := [5, 7]) (by kernel_rfl) (by simp) ?_
      refine AllReadyH.cons rfl (fun K hK => ?_) (AllReadyH.cons rfl (fun K hK => ?_) AllReadyH.nil)
      · skip
        go_simp
        refine (redges_calls zs 15 room true _ hz (by omega) (by omega)).mono ?_
        rintro e wx3 ⟨rfl, hbz⟩
        have hs3 : wx1.heap.size + 1 ≤ wx3.heap.size := by have h := hbz.size; simpa using h
        have hbel := below_then hbel hbz
        have b0 := b0.below hbz b0.lt
        have b6 := b6.below hbz b6.lt
        refine hK.out _ _ (KEEP'.out _ b0) (fun hHeld => ?_)
        clear hK K
        try simp only [Act.put, Array.toArray_toList, List.setIfInBounds_toArray, List.set_cons_zero, List.set_cons_succ]
        refine wpAnyH_ready (rs := [7]) (by kernel_rfl) (by simp) ?_
        refine AllReadyH.cons rfl (fun K hK => ?_) AllReadyH.nil
        · skip
          go_simp
          have b0 := b0.alloc (.cells #[Value.int .i64 0, .int .i64 0, .int .i64 0, .int .i64 0] 41)
          have b6 := b6.alloc (.cells #[Value.int .i64 0, .int .i64 0, .int .i64 0, .int .i64 0] 41)
          have hbel := below_alloc hbel (.cells #[Value.int .i64 0, .int .i64 0, .int .i64 0, .int .i64 0] 41)
          have b7 := Blk.new wx3 41 #[Value.int .i64 0, .int .i64 0, .int .i64 0, .int .i64 0]
          try simp only [alloc_size, drew_size] at b7
          refine hK.out _ _ (KEEP'.out _ b0) (fun hHeld => ?_)
          clear hK K
          try simp only [Act.put, Array.toArray_toList, List.setIfInBounds_toArray, List.set_cons_zero, List.set_cons_succ]
          refine wpAnyH_ready (rs := [8]) (by kernel_rfl) (by simp) ?_
          refine AllReadyH.cons rfl (fun K hK => ?_) AllReadyH.nil
          rw [if_pos (by kernel_rfl)]
          refine wp_store_mid _ _ _ rfl (wx1.heap.size) 0 #[Value.int .i64 (ab true (len4 zs 19 room)), Value.int .i64 (ab true (len4 zs 20 room)), Value.int .i64 (ab true (len4 zs 21 room)), Value.int .i64 (ab true (len4 zs 22 room))] rfl rfl (b6.there _ (by simp)) (by kernel_rfl) (by simp [Value.oneCell']) ?_
          have hbel := below_setCells (b := wx1.heap.size) (by omega) (#[Value.int .i64 (ab true (len4 zs 19 room)), Value.int .i64 (ab true (len4 zs 20 room)), Value.int .i64 (ab true (len4 zs 21 room)), Value.int .i64 (ab true (len4 zs 22 room))] : Array Value).toList 0 _ hbel
          have b0 := Blk.farCells (b := wx1.heap.size) (by omega) (#[Value.int .i64 (ab true (len4 zs 19 room)), Value.int .i64 (ab true (len4 zs 20 room)), Value.int .i64 (ab true (len4 zs 21 room)), Value.int .i64 (ab true (len4 zs 22 room))] : Array Value).toList 0 _ _ b0
          have b7 := Blk.farCells (b := wx1.heap.size) (by omega) (#[Value.int .i64 (ab true (len4 zs 19 room)), Value.int .i64 (ab true (len4 zs 20 room)), Value.int .i64 (ab true (len4 zs 21 room)), Value.int .i64 (ab true (len4 zs 22 room))] : Array Value).toList 0 _ _ b7
          have b6 := b6.setAll #[Value.int .i64 (ab true (len4 zs 19 room)), Value.int .i64 (ab true (len4 zs 20 room)), Value.int .i64 (ab true (len4 zs 21 room)), Value.int .i64 (ab true (len4 zs 22 room))] rfl
          refine hK.out _ _ (KEEP'.out _ b0) (fun hHeld => ?_)
          clear hK K
          try simp only [Act.put, Array.toArray_toList, List.setIfInBounds_toArray, List.set_cons_zero, List.set_cons_succ]
          refine wpAnyH_ready (rs := [9]) (by kernel_rfl) (by simp) ?_
          refine AllReadyH.cons rfl (fun K hK => ?_) AllReadyH.nil
          rw [if_pos (by kernel_rfl)]
          refine wp_store_mid _ _ _ rfl (wx3.heap.size) 0 #[Value.int .i64 (ab true (len4 zs 15 room)), Value.int .i64 (ab true (len4 zs 16 room)), Value.int .i64 (ab true (len4 zs 17 room)), Value.int .i64 (ab true (len4 zs 18 room))] rfl rfl (b7.there _ (by simp)) (by kernel_rfl) (by simp [Value.oneCell']) ?_
          have hbel := below_setCells (b := wx3.heap.size) (by omega) (#[Value.int .i64 (ab true (len4 zs 15 room)), Value.int .i64 (ab true (len4 zs 16 room)), Value.int .i64 (ab true (len4 zs 17 room)), Value.int .i64 (ab true (len4 zs 18 room))] : Array Value).toList 0 _ hbel
          have b0 := Blk.farCells (b := wx3.heap.size) (by omega) (#[Value.int .i64 (ab true (len4 zs 15 room)), Value.int .i64 (ab true (len4 zs 16 room)), Value.int .i64 (ab true (len4 zs 17 room)), Value.int .i64 (ab true (len4 zs 18 room))] : Array Value).toList 0 _ _ b0
          have b6 := Blk.farCells (b := wx3.heap.size) (by omega) (#[Value.int .i64 (ab true (len4 zs 15 room)), Value.int .i64 (ab true (len4 zs 16 room)), Value.int .i64 (ab true (len4 zs 17 room)), Value.int .i64 (ab true (len4 zs 18 room))] : Array Value).toList 0 _ _ b6
          have b7 := b7.setAll #[Value.int .i64 (ab true (len4 zs 15 room)), Value.int .i64 (ab true (len4 zs 16 room)), Value.int .i64 (ab true (len4 zs 17 room)), Value.int .i64 (ab true (len4 zs 18 room))] rfl
          refine hK.out _ _ (KEEP'.out _ b0) (fun hHeld => ?_)
          clear hK K
          try simp only [Act.put, Array.toArray_toList, List.setIfInBounds_toArray, List.set_cons_zero, List.set_cons_succ]
          refine wpAnyH_done (by kernel_rfl) ?_ _
          refine NoPanic.normal ?_
          generalize World.setCells _ (wx3.heap.size) _ _ = wz at b6 b7 hbel ⊢
          have cb60 : wz.cell? ⟨wx1.heap.size, 0, none⟩ = some (.int .i64 (ab true (len4 zs 19 room))) := b6.cell 0
          have cb61 : wz.cell? ⟨wx1.heap.size, 1, none⟩ = some (.int .i64 (ab true (len4 zs 20 room))) := b6.cell 1
          have cb62 : wz.cell? ⟨wx1.heap.size, 2, none⟩ = some (.int .i64 (ab true (len4 zs 21 room))) := b6.cell 2
          have cb63 : wz.cell? ⟨wx1.heap.size, 3, none⟩ = some (.int .i64 (ab true (len4 zs 22 room))) := b6.cell 3
          have cb70 : wz.cell? ⟨wx3.heap.size, 0, none⟩ = some (.int .i64 (ab true (len4 zs 15 room))) := b7.cell 0
          have cb71 : wz.cell? ⟨wx3.heap.size, 1, none⟩ = some (.int .i64 (ab true (len4 zs 16 room))) := b7.cell 1
          have cb72 : wz.cell? ⟨wx3.heap.size, 2, none⟩ = some (.int .i64 (ab true (len4 zs 17 room))) := b7.cell 2
          have cb73 : wz.cell? ⟨wx3.heap.size, 3, none⟩ = some (.int .i64 (ab true (len4 zs 18 room))) := b7.cell 3
          clear b0 b6 b7 KEEP' hHeld
          go_wp2_with fail
          go_quiet (fail)
          go_wp2_with fail
          go_ret2
          exact ⟨rfl, below_drewN hbel _⟩
      · skip
        go_simp
        have b0 := b0.alloc (.cells #[Value.int .i64 0, .int .i64 0, .int .i64 0, .int .i64 0] 41)
        have b6 := b6.alloc (.cells #[Value.int .i64 0, .int .i64 0, .int .i64 0, .int .i64 0] 41)
        have hbel := below_alloc hbel (.cells #[Value.int .i64 0, .int .i64 0, .int .i64 0, .int .i64 0] 41)
        have b7 := Blk.new (wx1.alloc (.cells #[Value.int .i64 0, .int .i64 0, .int .i64 0, .int .i64 0] 41)) 41 #[Value.int .i64 0, .int .i64 0, .int .i64 0, .int .i64 0]
        try simp only [alloc_size, drew_size] at b7
        refine hK.out _ _ (KEEP'.out _ b0) (fun hHeld => ?_)
        clear hK K
        try simp only [Act.put, Array.toArray_toList, List.setIfInBounds_toArray, List.set_cons_zero, List.set_cons_succ]
        refine wpAnyH_ready (rs := [5]) (by kernel_rfl) (by simp) ?_
        refine AllReadyH.cons rfl (fun K hK => ?_) AllReadyH.nil
        · skip
          go_simp
          refine (redges_calls zs 15 room true _ hz (by omega) (by omega)).mono ?_
          rintro e wx4 ⟨rfl, hbz⟩
          have hs4 : wx1.heap.size + 1 + 1 ≤ wx4.heap.size := by have h := hbz.size; simpa using h
          have hbel := below_then hbel hbz
          have b0 := b0.below hbz b0.lt
          have b6 := b6.below hbz b6.lt
          have b7 := b7.below hbz b7.lt
          refine hK.out _ _ (KEEP'.out _ b0) (fun hHeld => ?_)
          clear hK K
          try simp only [Act.put, Array.toArray_toList, List.setIfInBounds_toArray, List.set_cons_zero, List.set_cons_succ]
          refine wpAnyH_ready (rs := [8]) (by kernel_rfl) (by simp) ?_
          refine AllReadyH.cons rfl (fun K hK => ?_) AllReadyH.nil
          rw [if_pos (by kernel_rfl)]
          refine wp_store_mid _ _ _ rfl (wx1.heap.size) 0 #[Value.int .i64 (ab true (len4 zs 19 room)), Value.int .i64 (ab true (len4 zs 20 room)), Value.int .i64 (ab true (len4 zs 21 room)), Value.int .i64 (ab true (len4 zs 22 room))] rfl rfl (b6.there _ (by simp)) (by kernel_rfl) (by simp [Value.oneCell']) ?_
          have hbel := below_setCells (b := wx1.heap.size) (by omega) (#[Value.int .i64 (ab true (len4 zs 19 room)), Value.int .i64 (ab true (len4 zs 20 room)), Value.int .i64 (ab true (len4 zs 21 room)), Value.int .i64 (ab true (len4 zs 22 room))] : Array Value).toList 0 _ hbel
          have b0 := Blk.farCells (b := wx1.heap.size) (by omega) (#[Value.int .i64 (ab true (len4 zs 19 room)), Value.int .i64 (ab true (len4 zs 20 room)), Value.int .i64 (ab true (len4 zs 21 room)), Value.int .i64 (ab true (len4 zs 22 room))] : Array Value).toList 0 _ _ b0
          have b7 := Blk.farCells (b := wx1.heap.size) (by omega) (#[Value.int .i64 (ab true (len4 zs 19 room)), Value.int .i64 (ab true (len4 zs 20 room)), Value.int .i64 (ab true (len4 zs 21 room)), Value.int .i64 (ab true (len4 zs 22 room))] : Array Value).toList 0 _ _ b7
          have b6 := b6.setAll #[Value.int .i64 (ab true (len4 zs 19 room)), Value.int .i64 (ab true (len4 zs 20 room)), Value.int .i64 (ab true (len4 zs 21 room)), Value.int .i64 (ab true (len4 zs 22 room))] rfl
          refine hK.out _ _ (KEEP'.out _ b0) (fun hHeld => ?_)
          clear hK K
          try simp only [Act.put, Array.toArray_toList, List.setIfInBounds_toArray, List.set_cons_zero, List.set_cons_succ]
          refine wpAnyH_ready (rs := [9]) (by kernel_rfl) (by simp) ?_
          refine AllReadyH.cons rfl (fun K hK => ?_) AllReadyH.nil
          rw [if_pos (by kernel_rfl)]
          refine wp_store_mid _ _ _ rfl (wx1.heap.size + 1) 0 #[Value.int .i64 (ab true (len4 zs 15 room)), Value.int .i64 (ab true (len4 zs 16 room)), Value.int .i64 (ab true (len4 zs 17 room)), Value.int .i64 (ab true (len4 zs 18 room))] rfl rfl (b7.there _ (by simp)) (by kernel_rfl) (by simp [Value.oneCell']) ?_
          have hbel := below_setCells (b := wx1.heap.size + 1) (by omega) (#[Value.int .i64 (ab true (len4 zs 15 room)), Value.int .i64 (ab true (len4 zs 16 room)), Value.int .i64 (ab true (len4 zs 17 room)), Value.int .i64 (ab true (len4 zs 18 room))] : Array Value).toList 0 _ hbel
          have b0 := Blk.farCells (b := wx1.heap.size + 1) (by omega) (#[Value.int .i64 (ab true (len4 zs 15 room)), Value.int .i64 (ab true (len4 zs 16 room)), Value.int .i64 (ab true (len4 zs 17 room)), Value.int .i64 (ab true (len4 zs 18 room))] : Array Value).toList 0 _ _ b0
          have b6 := Blk.farCells (b := wx1.heap.size + 1) (by omega) (#[Value.int .i64 (ab true (len4 zs 15 room)), Value.int .i64 (ab true (len4 zs 16 room)), Value.int .i64 (ab true (len4 zs 17 room)), Value.int .i64 (ab true (len4 zs 18 room))] : Array Value).toList 0 _ _ b6
          have b7 := b7.setAll #[Value.int .i64 (ab true (len4 zs 15 room)), Value.int .i64 (ab true (len4 zs 16 room)), Value.int .i64 (ab true (len4 zs 17 room)), Value.int .i64 (ab true (len4 zs 18 room))] rfl
          refine hK.out _ _ (KEEP'.out _ b0) (fun hHeld => ?_)
          clear hK K
          try simp only [Act.put, Array.toArray_toList, List.setIfInBounds_toArray, List.set_cons_zero, List.set_cons_succ]
          refine wpAnyH_done (by kernel_rfl) ?_ _
          refine NoPanic.normal ?_
          generalize World.setCells _ (wx1.heap.size + 1) _ _ = wz at b6 b7 hbel ⊢
          have cb60 : wz.cell? ⟨wx1.heap.size, 0, none⟩ = some (.int .i64 (ab true (len4 zs 19 room))) := b6.cell 0
          have cb61 : wz.cell? ⟨wx1.heap.size, 1, none⟩ = some (.int .i64 (ab true (len4 zs 20 room))) := b6.cell 1
          have cb62 : wz.cell? ⟨wx1.heap.size, 2, none⟩ = some (.int .i64 (ab true (len4 zs 21 room))) := b6.cell 2
          have cb63 : wz.cell? ⟨wx1.heap.size, 3, none⟩ = some (.int .i64 (ab true (len4 zs 22 room))) := b6.cell 3
          have cb70 : wz.cell? ⟨wx1.heap.size + 1, 0, none⟩ = some (.int .i64 (ab true (len4 zs 15 room))) := b7.cell 0
          have cb71 : wz.cell? ⟨wx1.heap.size + 1, 1, none⟩ = some (.int .i64 (ab true (len4 zs 16 room))) := b7.cell 1
          have cb72 : wz.cell? ⟨wx1.heap.size + 1, 2, none⟩ = some (.int .i64 (ab true (len4 zs 17 room))) := b7.cell 2
          have cb73 : wz.cell? ⟨wx1.heap.size + 1, 3, none⟩ = some (.int .i64 (ab true (len4 zs 18 room))) := b7.cell 3
          clear b0 b6 b7 KEEP' hHeld
          go_wp2_with fail
          go_quiet (fail)
          go_wp2_with fail
          go_ret2
          exact ⟨rfl, below_drewN hbel _⟩
    · skip
      go_simp
      have b0 := b0.alloc (.cells #[Value.int .i64 0, .int .i64 0, .int .i64 0, .int .i64 0] 41)
      have hbel := below_alloc hbel (.cells #[Value.int .i64 0, .int .i64 0, .int .i64 0, .int .i64 0] 41)
      have b7 := Blk.new wx1 41 #[Value.int .i64 0, .int .i64 0, .int .i64 0, .int .i64 0]
      try simp only [alloc_size, drew_size] at b7
      refine hK.out _ _ (KEEP'.out _ b0) (fun hHeld => ?_)
      clear hK K
      try simp only [Act.put, Array.toArray_toList, List.setIfInBounds_toArray, List.set_cons_zero, List.set_cons_succ]
      refine wpAnyH_ready (rs := [5, 6]) (by kernel_rfl) (by simp) ?_
      refine AllReadyH.cons rfl (fun K hK => ?_) (AllReadyH.cons rfl (fun K hK => ?_) AllReadyH.nil)
      · skip
        go_simp
        refine (redges_calls zs 15 room true _ hz (by omega) (by omega)).mono ?_
        rintro e wx5 ⟨rfl, hbz⟩
        have hs5 : wx1.heap.size + 1 ≤ wx5.heap.size := by have h := hbz.size; simpa using h
        have hbel := below_then hbel hbz
        have b0 := b0.below hbz b0.lt
        have b7 := b7.below hbz b7.lt
        refine hK.out _ _ (KEEP'.out _ b0) (fun hHeld => ?_)
        clear hK K
        try simp only [Act.put, Array.toArray_toList, List.setIfInBounds_toArray, List.set_cons_zero, List.set_cons_succ]
        refine wpAnyH_ready (rs := [6]) (by kernel_rfl) (by simp) ?_
        refine AllReadyH.cons rfl (fun K hK => ?_) AllReadyH.nil
        · skip
          go_simp
          have b0 := b0.alloc (.cells #[Value.int .i64 0, .int .i64 0, .int .i64 0, .int .i64 0] 41)
          have b7 := b7.alloc (.cells #[Value.int .i64 0, .int .i64 0, .int .i64 0, .int .i64 0] 41)
          have hbel := below_alloc hbel (.cells #[Value.int .i64 0, .int .i64 0, .int .i64 0, .int .i64 0] 41)
          have b6 := Blk.new wx5 41 #[Value.int .i64 0, .int .i64 0, .int .i64 0, .int .i64 0]
          try simp only [alloc_size, drew_size] at b6
          refine hK.out _ _ (KEEP'.out _ b0) (fun hHeld => ?_)
          clear hK K
          try simp only [Act.put, Array.toArray_toList, List.setIfInBounds_toArray, List.set_cons_zero, List.set_cons_succ]
          refine wpAnyH_ready (rs := [8]) (by kernel_rfl) (by simp) ?_
          refine AllReadyH.cons rfl (fun K hK => ?_) AllReadyH.nil
          rw [if_pos (by kernel_rfl)]
          refine wp_store_mid _ _ _ rfl (wx5.heap.size) 0 #[Value.int .i64 (ab true (len4 zs 19 room)), Value.int .i64 (ab true (len4 zs 20 room)), Value.int .i64 (ab true (len4 zs 21 room)), Value.int .i64 (ab true (len4 zs 22 room))] rfl rfl (b6.there _ (by simp)) (by kernel_rfl) (by simp [Value.oneCell']) ?_
          have hbel := below_setCells (b := wx5.heap.size) (by omega) (#[Value.int .i64 (ab true (len4 zs 19 room)), Value.int .i64 (ab true (len4 zs 20 room)), Value.int .i64 (ab true (len4 zs 21 room)), Value.int .i64 (ab true (len4 zs 22 room))] : Array Value).toList 0 _ hbel
          have b0 := Blk.farCells (b := wx5.heap.size) (by omega) (#[Value.int .i64 (ab true (len4 zs 19 room)), Value.int .i64 (ab true (len4 zs 20 room)), Value.int .i64 (ab true (len4 zs 21 room)), Value.int .i64 (ab true (len4 zs 22 room))] : Array Value).toList 0 _ _ b0
          have b7 := Blk.farCells (b := wx5.heap.size) (by omega) (#[Value.int .i64 (ab true (len4 zs 19 room)), Value.int .i64 (ab true (len4 zs 20 room)), Value.int .i64 (ab true (len4 zs 21 room)), Value.int .i64 (ab true (len4 zs 22 room))] : Array Value).toList 0 _ _ b7
          have b6 := b6.setAll #[Value.int .i64 (ab true (len4 zs 19 room)), Value.int .i64 (ab true (len4 zs 20 room)), Value.int .i64 (ab true (len4 zs 21 room)), Value.int .i64 (ab true (len4 zs 22 room))] rfl
          refine hK.out _ _ (KEEP'.out _ b0) (fun hHeld => ?_)
          clear hK K
          try simp only [Act.put, Array.toArray_toList, List.setIfInBounds_toArray, List.set_cons_zero, List.set_cons_succ]
          refine wpAnyH_ready (rs := [9]) (by kernel_rfl) (by simp) ?_
          refine AllReadyH.cons rfl (fun K hK => ?_) AllReadyH.nil
          rw [if_pos (by kernel_rfl)]
          refine wp_store_mid _ _ _ rfl (wx1.heap.size) 0 #[Value.int .i64 (ab true (len4 zs 15 room)), Value.int .i64 (ab true (len4 zs 16 room)), Value.int .i64 (ab true (len4 zs 17 room)), Value.int .i64 (ab true (len4 zs 18 room))] rfl rfl (b7.there _ (by simp)) (by kernel_rfl) (by simp [Value.oneCell']) ?_
          have hbel := below_setCells (b := wx1.heap.size) (by omega) (#[Value.int .i64 (ab true (len4 zs 15 room)), Value.int .i64 (ab true (len4 zs 16 room)), Value.int .i64 (ab true (len4 zs 17 room)), Value.int .i64 (ab true (len4 zs 18 room))] : Array Value).toList 0 _ hbel
          have b0 := Blk.farCells (b := wx1.heap.size) (by omega) (#[Value.int .i64 (ab true (len4 zs 15 room)), Value.int .i64 (ab true (len4 zs 16 room)), Value.int .i64 (ab true (len4 zs 17 room)), Value.int .i64 (ab true (len4 zs 18 room))] : Array Value).toList 0 _ _ b0
          have b6 := Blk.farCells (b := wx1.heap.size) (by omega) (#[Value.int .i64 (ab true (len4 zs 15 room)), Value.int .i64 (ab true (len4 zs 16 room)), Value.int .i64 (ab true (len4 zs 17 room)), Value.int .i64 (ab true (len4 zs 18 room))] : Array Value).toList 0 _ _ b6
          have b7 := b7.setAll #[Value.int .i64 (ab true (len4 zs 15 room)), Value.int .i64 (ab true (len4 zs 16 room)), Value.int .i64 (ab true (len4 zs 17 room)), Value.int .i64 (ab true (len4 zs 18 room))] rfl
          refine hK.out _ _ (KEEP'.out _ b0) (fun hHeld => ?_)
          clear hK K
          try simp only [Act.put, Array.toArray_toList, List.setIfInBounds_toArray, List.set_cons_zero, List.set_cons_succ]
          refine wpAnyH_done (by kernel_rfl) ?_ _
          refine NoPanic.normal ?_
          generalize World.setCells _ (wx1.heap.size) _ _ = wz at b6 b7 hbel ⊢
          have cb60 : wz.cell? ⟨wx5.heap.size, 0, none⟩ = some (.int .i64 (ab true (len4 zs 19 room))) := b6.cell 0
          have cb61 : wz.cell? ⟨wx5.heap.size, 1, none⟩ = some (.int .i64 (ab true (len4 zs 20 room))) := b6.cell 1
          have cb62 : wz.cell? ⟨wx5.heap.size, 2, none⟩ = some (.int .i64 (ab true (len4 zs 21 room))) := b6.cell 2
          have cb63 : wz.cell? ⟨wx5.heap.size, 3, none⟩ = some (.int .i64 (ab true (len4 zs 22 room))) := b6.cell 3
          have cb70 : wz.cell? ⟨wx1.heap.size, 0, none⟩ = some (.int .i64 (ab true (len4 zs 15 room))) := b7.cell 0
          have cb71 : wz.cell? ⟨wx1.heap.size, 1, none⟩ = some (.int .i64 (ab true (len4 zs 16 room))) := b7.cell 1
          have cb72 : wz.cell? ⟨wx1.heap.size, 2, none⟩ = some (.int .i64 (ab true (len4 zs 17 room))) := b7.cell 2
          have cb73 : wz.cell? ⟨wx1.heap.size, 3, none⟩ = some (.int .i64 (ab true (len4 zs 18 room))) := b7.cell 3
          clear b0 b6 b7 KEEP' hHeld
          go_wp2_with fail
          go_quiet (fail)
          go_wp2_with fail
          go_ret2
          exact ⟨rfl, below_drewN hbel _⟩
      · skip
        go_simp
        have b0 := b0.alloc (.cells #[Value.int .i64 0, .int .i64 0, .int .i64 0, .int .i64 0] 41)
        have b7 := b7.alloc (.cells #[Value.int .i64 0, .int .i64 0, .int .i64 0, .int .i64 0] 41)
        have hbel := below_alloc hbel (.cells #[Value.int .i64 0, .int .i64 0, .int .i64 0, .int .i64 0] 41)
        have b6 := Blk.new (wx1.alloc (.cells #[Value.int .i64 0, .int .i64 0, .int .i64 0, .int .i64 0] 41)) 41 #[Value.int .i64 0, .int .i64 0, .int .i64 0, .int .i64 0]
        try simp only [alloc_size, drew_size] at b6
        refine hK.out _ _ (KEEP'.out _ b0) (fun hHeld => ?_)
        clear hK K
        try simp only [Act.put, Array.toArray_toList, List.setIfInBounds_toArray, List.set_cons_zero, List.set_cons_succ]
        refine wpAnyH_ready (rs := [5]) (by kernel_rfl) (by simp) ?_
        refine AllReadyH.cons rfl (fun K hK => ?_) AllReadyH.nil
        · skip
          go_simp
          refine (redges_calls zs 15 room true _ hz (by omega) (by omega)).mono ?_
          rintro e wx6 ⟨rfl, hbz⟩
          have hs6 : wx1.heap.size + 1 + 1 ≤ wx6.heap.size := by have h := hbz.size; simpa using h
          have hbel := below_then hbel hbz
          have b0 := b0.below hbz b0.lt
          have b6 := b6.below hbz b6.lt
          have b7 := b7.below hbz b7.lt
          refine hK.out _ _ (KEEP'.out _ b0) (fun hHeld => ?_)
          clear hK K
          try simp only [Act.put, Array.toArray_toList, List.setIfInBounds_toArray, List.set_cons_zero, List.set_cons_succ]
          refine wpAnyH_ready (rs := [8]) (by kernel_rfl) (by simp) ?_
          refine AllReadyH.cons rfl (fun K hK => ?_) AllReadyH.nil
          rw [if_pos (by kernel_rfl)]
          refine wp_store_mid _ _ _ rfl (wx1.heap.size + 1) 0 #[Value.int .i64 (ab true (len4 zs 19 room)), Value.int .i64 (ab true (len4 zs 20 room)), Value.int .i64 (ab true (len4 zs 21 room)), Value.int .i64 (ab true (len4 zs 22 room))] rfl rfl (b6.there _ (by simp)) (by kernel_rfl) (by simp [Value.oneCell']) ?_
          have hbel := below_setCells (b := wx1.heap.size + 1) (by omega) (#[Value.int .i64 (ab true (len4 zs 19 room)), Value.int .i64 (ab true (len4 zs 20 room)), Value.int .i64 (ab true (len4 zs 21 room)), Value.int .i64 (ab true (len4 zs 22 room))] : Array Value).toList 0 _ hbel
          have b0 := Blk.farCells (b := wx1.heap.size + 1) (by omega) (#[Value.int .i64 (ab true (len4 zs 19 room)), Value.int .i64 (ab true (len4 zs 20 room)), Value.int .i64 (ab true (len4 zs 21 room)), Value.int .i64 (ab true (len4 zs 22 room))] : Array Value).toList 0 _ _ b0
          have b7 := Blk.farCells (b := wx1.heap.size + 1) (by omega) (#[Value.int .i64 (ab true (len4 zs 19 room)), Value.int .i64 (ab true (len4 zs 20 room)), Value.int .i64 (ab true (len4 zs 21 room)), Value.int .i64 (ab true (len4 zs 22 room))] : Array Value).toList 0 _ _ b7
          have b6 := b6.setAll #[Value.int .i64 (ab true (len4 zs 19 room)), Value.int .i64 (ab true (len4 zs 20 room)), Value.int .i64 (ab true (len4 zs 21 room)), Value.int .i64 (ab true (len4 zs 22 room))] rfl
          refine hK.out _ _ (KEEP'.out _ b0) (fun hHeld => ?_)
          clear hK K
          try simp only [Act.put, Array.toArray_toList, List.setIfInBounds_toArray, List.set_cons_zero, List.set_cons_succ]
          refine wpAnyH_ready (rs := [9]) (by kernel_rfl) (by simp) ?_
          refine AllReadyH.cons rfl (fun K hK => ?_) AllReadyH.nil
          rw [if_pos (by kernel_rfl)]
          refine wp_store_mid _ _ _ rfl (wx1.heap.size) 0 #[Value.int .i64 (ab true (len4 zs 15 room)), Value.int .i64 (ab true (len4 zs 16 room)), Value.int .i64 (ab true (len4 zs 17 room)), Value.int .i64 (ab true (len4 zs 18 room))] rfl rfl (b7.there _ (by simp)) (by kernel_rfl) (by simp [Value.oneCell']) ?_
          have hbel := below_setCells (b := wx1.heap.size) (by omega) (#[Value.int .i64 (ab true (len4 zs 15 room)), Value.int .i64 (ab true (len4 zs 16 room)), Value.int .i64 (ab true (len4 zs 17 room)), Value.int .i64 (ab true (len4 zs 18 room))] : Array Value).toList 0 _ hbel
          have b0 := Blk.farCells (b := wx1.heap.size) (by omega) (#[Value.int .i64 (ab true (len4 zs 15 room)), Value.int .i64 (ab true (len4 zs 16 room)), Value.int .i64 (ab true (len4 zs 17 room)), Value.int .i64 (ab true (len4 zs 18 room))] : Array Value).toList 0 _ _ b0
          have b6 := Blk.farCells (b := wx1.heap.size) (by omega) (#[Value.int .i64 (ab true (len4 zs 15 room)), Value.int .i64 (ab true (len4 zs 16 room)), Value.int .i64 (ab true (len4 zs 17 room)), Value.int .i64 (ab true (len4 zs 18 room))] : Array Value).toList 0 _ _ b6
          have b7 := b7.setAll #[Value.int .i64 (ab true (len4 zs 15 room)), Value.int .i64 (ab true (len4 zs 16 room)), Value.int .i64 (ab true (len4 zs 17 room)), Value.int .i64 (ab true (len4 zs 18 room))] rfl
          refine hK.out _ _ (KEEP'.out _ b0) (fun hHeld => ?_)
          clear hK K
          try simp only [Act.put, Array.toArray_toList, List.setIfInBounds_toArray, List.set_cons_zero, List.set_cons_succ]
          refine wpAnyH_done (by kernel_rfl) ?_ _
          refine NoPanic.normal ?_
          generalize World.setCells _ (wx1.heap.size) _ _ = wz at b6 b7 hbel ⊢
          have cb60 : wz.cell? ⟨wx1.heap.size + 1, 0, none⟩ = some (.int .i64 (ab true (len4 zs 19 room))) := b6.cell 0
          have cb61 : wz.cell? ⟨wx1.heap.size + 1, 1, none⟩ = some (.int .i64 (ab true (len4 zs 20 room))) := b6.cell 1
          have cb62 : wz.cell? ⟨wx1.heap.size + 1, 2, none⟩ = some (.int .i64 (ab true (len4 zs 21 room))) := b6.cell 2
          have cb63 : wz.cell? ⟨wx1.heap.size + 1, 3, none⟩ = some (.int .i64 (ab true (len4 zs 22 room))) := b6.cell 3
          have cb70 : wz.cell? ⟨wx1.heap.size, 0, none⟩ = some (.int .i64 (ab true (len4 zs 15 room))) := b7.cell 0
          have cb71 : wz.cell? ⟨wx1.heap.size, 1, none⟩ = some (.int .i64 (ab true (len4 zs 16 room))) := b7.cell 1
          have cb72 : wz.cell? ⟨wx1.heap.size, 2, none⟩ = some (.int .i64 (ab true (len4 zs 17 room))) := b7.cell 2
          have cb73 : wz.cell? ⟨wx1.heap.size, 3, none⟩ = some (.int .i64 (ab true (len4 zs 18 room))) := b7.cell 3
          clear b0 b6 b7 KEEP' hHeld
          go_wp2_with fail
          go_quiet (fail)
          go_wp2_with fail
          go_ret2
          exact ⟨rfl, below_drewN hbel _⟩
  · skip
    go_simp
    have b0 := b0.alloc (.cells #[Value.int .i64 0, .int .i64 0, .int .i64 0, .int .i64 0] 41)
    have hbel := below_alloc hbel (.cells #[Value.int .i64 0, .int .i64 0, .int .i64 0, .int .i64 0] 41)
    have b6 := Blk.new (w.alloc (.cells (sty zs) 38)).drew 41 #[Value.int .i64 0, .int .i64 0, .int .i64 0, .int .i64 0]
    try simp only [alloc_size, drew_size] at b6
    refine hK.out _ _ (KEEP'.out _ b0) (fun hHeld => ?_)
    clear hK K
    try simp only [Act.put, Array.toArray_toList, List.setIfInBounds_toArray, List.set_cons_zero, List.set_cons_succ]
    refine wpAnyH_ready (rs := [2, 7]) (by kernel_rfl) (by simp) ?_
    refine AllReadyH.cons rfl (fun K hK => ?_) (AllReadyH.cons rfl (fun K hK => ?_) AllReadyH.nil)
    · skip
      go_simp
      refine (redges_calls zs 19 room true _ hz (by omega) (by omega)).mono ?_
      rintro e wx7 ⟨rfl, hbz⟩
      have hs7 : w.heap.size + 1 + 1 ≤ wx7.heap.size := by have h := hbz.size; simpa using h
      have hbel := below_then hbel hbz
      have b0 := b0.below hbz b0.lt
      have b6 := b6.below hbz b6.lt
      refine hK.out _ _ (KEEP'.out _ b0) (fun hHeld => ?_)
      clear hK K
      try simp only [Act.put, Array.toArray_toList, List.setIfInBounds_toArray, List.set_cons_zero, List.set_cons_succ]
      refine wpAnyH_ready (rs := [5, 7]) (by kernel_rfl) (by simp) ?_
      refine AllReadyH.cons rfl (fun K hK => ?_) (AllReadyH.cons rfl (fun K hK => ?_) AllReadyH.nil)
      · skip
        go_simp
        refine (redges_calls zs 15 room true _ hz (by omega) (by omega)).mono ?_
        rintro e wx8 ⟨rfl, hbz⟩
        have hs8 : wx7.heap.size ≤ wx8.heap.size := by have h := hbz.size; simpa using h
        have hbel := below_then hbel hbz
        have b0 := b0.below hbz b0.lt
        have b6 := b6.below hbz b6.lt
        refine hK.out _ _ (KEEP'.out _ b0) (fun hHeld => ?_)
        clear hK K
        try simp only [Act.put, Array.toArray_toList, List.setIfInBounds_toArray, List.set_cons_zero, List.set_cons_succ]
        refine wpAnyH_ready (rs := [7]) (by kernel_rfl) (by simp) ?_
        refine AllReadyH.cons rfl (fun K hK => ?_) AllReadyH.nil
        · skip
          go_simp
          have b0 := b0.alloc (.cells #[Value.int .i64 0, .int .i64 0, .int .i64 0, .int .i64 0] 41)
          have b6 := b6.alloc (.cells #[Value.int .i64 0, .int .i64 0, .int .i64 0, .int .i64 0] 41)
          have hbel := below_alloc hbel (.cells #[Value.int .i64 0, .int .i64 0, .int .i64 0, .int .i64 0] 41)
          have b7 := Blk.new wx8 41 #[Value.int .i64 0, .int .i64 0, .int .i64 0, .int .i64 0]
          try simp only [alloc_size, drew_size] at b7
          refine hK.out _ _ (KEEP'.out _ b0) (fun hHeld => ?_)
          clear hK K
          try simp only [Act.put, Array.toArray_toList, List.setIfInBounds_toArray, List.set_cons_zero, List.set_cons_succ]
          refine wpAnyH_ready (rs := [8]) (by kernel_rfl) (by simp) ?_
          refine AllReadyH.cons rfl (fun K hK => ?_) AllReadyH.nil
          rw [if_pos (by kernel_rfl)]
          refine wp_store_mid _ _ _ rfl (w.heap.size + 1) 0 #[Value.int .i64 (ab true (len4 zs 19 room)), Value.int .i64 (ab true (len4 zs 20 room)), Value.int .i64 (ab true (len4 zs 21 room)), Value.int .i64 (ab true (len4 zs 22 room))] rfl rfl (b6.there _ (by simp)) (by kernel_rfl) (by simp [Value.oneCell']) ?_
          have hbel := below_setCells (b := w.heap.size + 1) (by omega) (#[Value.int .i64 (ab true (len4 zs 19 room)), Value.int .i64 (ab true (len4 zs 20 room)), Value.int .i64 (ab true (len4 zs 21 room)), Value.int .i64 (ab true (len4 zs 22 room))] : Array Value).toList 0 _ hbel
          have b0 := Blk.farCells (b := w.heap.size + 1) (by omega) (#[Value.int .i64 (ab true (len4 zs 19 room)), Value.int .i64 (ab true (len4 zs 20 room)), Value.int .i64 (ab true (len4 zs 21 room)), Value.int .i64 (ab true (len4 zs 22 room))] : Array Value).toList 0 _ _ b0
          have b7 := Blk.farCells (b := w.heap.size + 1) (by omega) (#[Value.int .i64 (ab true (len4 zs 19 room)), Value.int .i64 (ab true (len4 zs 20 room)), Value.int .i64 (ab true (len4 zs 21 room)), Value.int .i64 (ab true (len4 zs 22 room))] : Array Value).toList 0 _ _ b7
          have b6 := b6.setAll #[Value.int .i64 (ab true (len4 zs 19 room)), Value.int .i64 (ab true (len4 zs 20 room)), Value.int .i64 (ab true (len4 zs 21 room)), Value.int .i64 (ab true (len4 zs 22 room))] rfl
          refine hK.out _ _ (KEEP'.out _ b0) (fun hHeld => ?_)
          clear hK K
          try simp only [Act.put, Array.toArray_toList, List.setIfInBounds_toArray, List.set_cons_zero, List.set_cons_succ]
          refine wpAnyH_ready (rs := [9]) (by kernel_rfl) (by simp) ?_
          refine AllReadyH.cons rfl (fun K hK => ?_) AllReadyH.nil
          rw [if_pos (by kernel_rfl)]
          refine wp_store_mid _ _ _ rfl (wx8.heap.size) 0 #[Value.int .i64 (ab true (len4 zs 15 room)), Value.int .i64 (ab true (len4 zs 16 room)), Value.int .i64 (ab true (len4 zs 17 room)), Value.int .i64 (ab true (len4 zs 18 room))] rfl rfl (b7.there _ (by simp)) (by kernel_rfl) (by simp [Value.oneCell']) ?_
          have hbel := below_setCells (b := wx8.heap.size) (by omega) (#[Value.int .i64 (ab true (len4 zs 15 room)), Value.int .i64 (ab true (len4 zs 16 room)), Value.int .i64 (ab true (len4 zs 17 room)), Value.int .i64 (ab true (len4 zs 18 room))] : Array Value).toList 0 _ hbel
          have b0 := Blk.farCells (b := wx8.heap.size) (by omega) (#[Value.int .i64 (ab true (len4 zs 15 room)), Value.int .i64 (ab true (len4 zs 16 room)), Value.int .i64 (ab true (len4 zs 17 room)), Value.int .i64 (ab true (len4 zs 18 room))] : Array Value).toList 0 _ _ b0
          have b6 := Blk.farCells (b := wx8.heap.size) (by omega) (#[Value.int .i64 (ab true (len4 zs 15 room)), Value.int .i64 (ab true (len4 zs 16 room)), Value.int .i64 (ab true (len4 zs 17 room)), Value.int .i64 (ab true (len4 zs 18 room))] : Array Value).toList 0 _ _ b6
          have b7 := b7.setAll #[Value.int .i64 (ab true (len4 zs 15 room)), Value.int .i64 (ab true (len4 zs 16 room)), Value.int .i64 (ab true (len4 zs 17 room)), Value.int .i64 (ab true (len4 zs 18 room))] rfl
          refine hK.out _ _ (KEEP'.out _ b0) (fun hHeld => ?_)
          clear hK K
          try simp only [Act.put, Array.toArray_toList, List.setIfInBounds_toArray, List.set_cons_zero, List.set_cons_succ]
          refine wpAnyH_done (by kernel_rfl) ?_ _
          refine NoPanic.normal ?_
          generalize World.setCells _ (wx8.heap.size) _ _ = wz at b6 b7 hbel ⊢
          have cb60 : wz.cell? ⟨w.heap.size + 1, 0, none⟩ = some (.int .i64 (ab true (len4 zs 19 room))) := b6.cell 0
          have cb61 : wz.cell? ⟨w.heap.size + 1, 1, none⟩ = some (.int .i64 (ab true (len4 zs 20 room))) := b6.cell 1
          have cb62 : wz.cell? ⟨w.heap.size + 1, 2, none⟩ = some (.int .i64 (ab true (len4 zs 21 room))) := b6.cell 2
          have cb63 : wz.cell? ⟨w.heap.size + 1, 3, none⟩ = some (.int .i64 (ab true (len4 zs 22 room))) := b6.cell 3
          have cb70 : wz.cell? ⟨wx8.heap.size, 0, none⟩ = some (.int .i64 (ab true (len4 zs 15 room))) := b7.cell 0
          have cb71 : wz.cell? ⟨wx8.heap.size, 1, none⟩ = some (.int .i64 (ab true (len4 zs 16 room))) := b7.cell 1
          have cb72 : wz.cell? ⟨wx8.heap.size, 2, none⟩ = some (.int .i64 (ab true (len4 zs 17 room))) := b7.cell 2
          have cb73 : wz.cell? ⟨wx8.heap.size, 3, none⟩ = some (.int .i64 (ab true (len4 zs 18 room))) := b7.cell 3
          clear b0 b6 b7 KEEP' hHeld
          go_wp2_with fail
          go_quiet (fail)
          go_wp2_with fail
          go_ret2
          exact ⟨rfl, below_drewN hbel _⟩
      · skip
        go_simp
        have b0 := b0.alloc (.cells #[Value.int .i64 0, .int .i64 0, .int .i64 0, .int .i64 0] 41)
        have b6 := b6.alloc (.cells #[Value.int .i64 0, .int .i64 0, .int .i64 0, .int .i64 0] 41)
        have hbel := below_alloc hbel (.cells #[Value.int .i64 0, .int .i64 0, .int .i64 0, .int .i64 0] 41)
        have b7 := Blk.new wx7 41 #[Value.int .i64 0, .int .i64 0, .int .i64 0, .int .i64 0]
        try simp only [alloc_size, drew_size] at b7
        refine hK.out _ _ (KEEP'.out _ b0) (fun hHeld => ?_)
        clear hK K
        try simp only [Act.put, Array.toArray_toList, List.setIfInBounds_toArray, List.set_cons_zero, List.set_cons_succ]
        refine wpAnyH_ready (rs := [5]) (by kernel_rfl) (by simp) ?_
        refine AllReadyH.cons rfl (fun K hK => ?_) AllReadyH.nil
        · skip
          go_simp
          refine (redges_calls zs 15 room true _ hz (by omega) (by omega)).mono ?_
          rintro e wx9 ⟨rfl, hbz⟩
          have hs9 : wx7.heap.size + 1 ≤ wx9.heap.size := by have h := hbz.size; simpa using h
          have hbel := below_then hbel hbz
          have b0 := b0.below hbz b0.lt
          have b6 := b6.below hbz b6.lt
          have b7 := b7.below hbz b7.lt
          refine hK.out _ _ (KEEP'.out _ b0) (fun hHeld => ?_)
          clear hK K
          try simp only [Act.put, Array.toArray_toList, List.setIfInBounds_toArray, List.set_cons_zero, List.set_cons_succ]
          refine wpAnyH_ready (rs := [8]) (by kernel_rfl) (by simp) ?_
          refine AllReadyH.cons rfl (fun K hK => ?_) AllReadyH.nil
          rw [if_pos (by kernel_rfl)]
          refine wp_store_mid _ _ _ rfl (w.heap.size + 1) 0 #[Value.int .i64 (ab true (len4 zs 19 room)), Value.int .i64 (ab true (len4 zs 20 room)), Value.int .i64 (ab true (len4 zs 21 room)), Value.int .i64 (ab true (len4 zs 22 room))] rfl rfl (b6.there _ (by simp)) (by kernel_rfl) (by simp [Value.oneCell']) ?_
          have hbel := below_setCells (b := w.heap.size + 1) (by omega) (#[Value.int .i64 (ab true (len4 zs 19 room)), Value.int .i64 (ab true (len4 zs 20 room)), Value.int .i64 (ab true (len4 zs 21 room)), Value.int .i64 (ab true (len4 zs 22 room))] : Array Value).toList 0 _ hbel
          have b0 := Blk.farCells (b := w.heap.size + 1) (by omega) (#[Value.int .i64 (ab true (len4 zs 19 room)), Value.int .i64 (ab true (len4 zs 20 room)), Value.int .i64 (ab true (len4 zs 21 room)), Value.int .i64 (ab true (len4 zs 22 room))] : Array Value).toList 0 _ _ b0
          have b7 := Blk.farCells (b := w.heap.size + 1) (by omega) (#[Value.int .i64 (ab true (len4 zs 19 room)), Value.int .i64 (ab true (len4 zs 20 room)), Value.int .i64 (ab true (len4 zs 21 room)), Value.int .i64 (ab true (len4 zs 22 room))] : Array Value).toList 0 _ _ b7
          have b6 := b6.setAll #[Value.int .i64 (ab true (len4 zs 19 room)), Value.int .i64 (ab true (len4 zs 20 room)), Value.int .i64 (ab true (len4 zs 21 room)), Value.int .i64 (ab true (len4 zs 22 room))] rfl
          refine hK.out _ _ (KEEP'.out _ b0) (fun hHeld => ?_)
          clear hK K
          try simp only [Act.put, Array.toArray_toList, List.setIfInBounds_toArray, List.set_cons_zero, List.set_cons_succ]
          refine wpAnyH_ready (rs := [9]) (by kernel_rfl) (by simp) ?_
          refine AllReadyH.cons rfl (fun K hK => ?_) AllReadyH.nil
          rw [if_pos (by kernel_rfl)]
          refine wp_store_mid _ _ _ rfl (wx7.heap.size) 0 #[Value.int .i64 (ab true (len4 zs 15 room)), Value.int .i64 (ab true (len4 zs 16 room)), Value.int .i64 (ab true (len4 zs 17 room)), Value.int .i64 (ab true (len4 zs 18 room))] rfl rfl (b7.there _ (by simp)) (by kernel_rfl) (by simp [Value.oneCell']) ?_
          have hbel := below_setCells (b := wx7.heap.size) (by omega) (#[Value.int .i64 (ab true (len4 zs 15 room)), Value.int .i64 (ab true (len4 zs 16 room)), Value.int .i64 (ab true (len4 zs 17 room)), Value.int .i64 (ab true (len4 zs 18 room))] : Array Value).toList 0 _ hbel
          have b0 := Blk.farCells (b := wx7.heap.size) (by omega) (#[Value.int .i64 (ab true (len4 zs 15 room)), Value.int .i64 (ab true (len4 zs 16 room)), Value.int .i64 (ab true (len4 zs 17 room)), Value.int .i64 (ab true (len4 zs 18 room))] : Array Value).toList 0 _ _ b0
          have b6 := Blk.farCells (b := wx7.heap.size) (by omega) (#[Value.int .i64 (ab true (len4 zs 15 room)), Value.int .i64 (ab true (len4 zs 16 room)), Value.int .i64 (ab true (len4 zs 17 room)), Value.int .i64 (ab true (len4 zs 18 room))] : Array Value).toList 0 _ _ b6
          have b7 := b7.setAll #[Value.int .i64 (ab true (len4 zs 15 room)), Value.int .i64 (ab true (len4 zs 16 room)), Value.int .i64 (ab true (len4 zs 17 room)), Value.int .i64 (ab true (len4 zs 18 room))] rfl
          refine hK.out _ _ (KEEP'.out _ b0) (fun hHeld => ?_)
          clear hK K
          try simp only [Act.put, Array.toArray_toList, List.setIfInBounds_toArray, List.set_cons_zero, List.set_cons_succ]
          refine wpAnyH_done (by kernel_rfl) ?_ _
          refine NoPanic.normal ?_
          generalize World.setCells _ (wx7.heap.size) _ _ = wz at b6 b7 hbel ⊢
          have cb60 : wz.cell? ⟨w.heap.size + 1, 0, none⟩ = some (.int .i64 (ab true (len4 zs 19 room))) := b6.cell 0
          have cb61 : wz.cell? ⟨w.heap.size + 1, 1, none⟩ = some (.int .i64 (ab true (len4 zs 20 room))) := b6.cell 1
          have cb62 : wz.cell? ⟨w.heap.size + 1, 2, none⟩ = some (.int .i64 (ab true (len4 zs 21 room))) := b6.cell 2
          have cb63 : wz.cell? ⟨w.heap.size + 1, 3, none⟩ = some (.int .i64 (ab true (len4 zs 22 room))) := b6.cell 3
          have cb70 : wz.cell? ⟨wx7.heap.size, 0, none⟩ = some (.int .i64 (ab true (len4 zs 15 room))) := b7.cell 0
          have cb71 : wz.cell? ⟨wx7.heap.size, 1, none⟩ = some (.int .i64 (ab true (len4 zs 16 room))) := b7.cell 1
          have cb72 : wz.cell? ⟨wx7.heap.size, 2, none⟩ = some (.int .i64 (ab true (len4 zs 17 room))) := b7.cell 2
          have cb73 : wz.cell? ⟨wx7.heap.size, 3, none⟩ = some (.int .i64 (ab true (len4 zs 18 room))) := b7.cell 3
          clear b0 b6 b7 KEEP' hHeld
          go_wp2_with fail
          go_quiet (fail)
          go_wp2_with fail
          go_ret2
          exact ⟨rfl, below_drewN hbel _⟩
    · skip
      go_simp
      have b0 := b0.alloc (.cells #[Value.int .i64 0, .int .i64 0, .int .i64 0, .int .i64 0] 41)
      have b6 := b6.alloc (.cells #[Value.int .i64 0, .int .i64 0, .int .i64 0, .int .i64 0] 41)
      have hbel := below_alloc hbel (.cells #[Value.int .i64 0, .int .i64 0, .int .i64 0, .int .i64 0] 41)
      have b7 := Blk.new ((w.alloc (.cells (sty zs) 38)).drew.alloc (.cells #[Value.int .i64 0, .int .i64 0, .int .i64 0, .int .i64 0] 41)) 41 #[Value.int .i64 0, .int .i64 0, .int .i64 0, .int .i64 0]
      try simp only [alloc_size, drew_size] at b7
      refine hK.out _ _ (KEEP'.out _ b0) (fun hHeld => ?_)
      clear hK K
      try simp only [Act.put, Array.toArray_toList, List.setIfInBounds_toArray, List.set_cons_zero, List.set_cons_succ]
      refine wpAnyH_ready (rs := [2]) (by kernel_rfl) (by simp) ?_
      refine AllReadyH.cons rfl (fun K hK => ?_) AllReadyH.nil
      · skip
        go_simp
        refine (redges_calls zs 19 room true _ hz (by omega) (by omega)).mono ?_
        rintro e wx10 ⟨rfl, hbz⟩
        have hs10 : w.heap.size + 1 + 1 + 1 ≤ wx10.heap.size := by have h := hbz.size; simpa using h
        have hbel := below_then hbel hbz
        have b0 := b0.below hbz b0.lt
        have b6 := b6.below hbz b6.lt
        have b7 := b7.below hbz b7.lt
        refine hK.out _ _ (KEEP'.out _ b0) (fun hHeld => ?_)
        clear hK K
        try simp only [Act.put, Array.toArray_toList, List.setIfInBounds_toArray, List.set_cons_zero, List.set_cons_succ]
        refine wpAnyH_ready (rs := [5]) (by kernel_rfl) (by simp) ?_
        refine AllReadyH.cons rfl (fun K hK => ?_) AllReadyH.nil
        · skip
          go_simp
          refine (redges_calls zs 15 room true _ hz (by omega) (by omega)).mono ?_
          rintro e wx11 ⟨rfl, hbz⟩
          have hs11 : wx10.heap.size ≤ wx11.heap.size := by have h := hbz.size; simpa using h
          have hbel := below_then hbel hbz
          have b0 := b0.below hbz b0.lt
          have b6 := b6.below hbz b6.lt
          have b7 := b7.below hbz b7.lt
          refine hK.out _ _ (KEEP'.out _ b0) (fun hHeld => ?_)
          clear hK K
          try simp only [Act.put, Array.toArray_toList, List.setIfInBounds_toArray, List.set_cons_zero, List.set_cons_succ]
          refine wpAnyH_ready (rs := [8]) (by kernel_rfl) (by simp) ?_
          refine AllReadyH.cons rfl (fun K hK => ?_) AllReadyH.nil
          rw [if_pos (by kernel_rfl)]
          refine wp_store_mid _ _ _ rfl (w.heap.size + 1) 0 #[Value.int .i64 (ab true (len4 zs 19 room)), Value.int .i64 (ab true (len4 zs 20 room)), Value.int .i64 (ab true (len4 zs 21 room)), Value.int .i64 (ab true (len4 zs 22 room))] rfl rfl (b6.there _ (by simp)) (by kernel_rfl) (by simp [Value.oneCell']) ?_
          have hbel := below_setCells (b := w.heap.size + 1) (by omega) (#[Value.int .i64 (ab true (len4 zs 19 room)), Value.int .i64 (ab true (len4 zs 20 room)), Value.int .i64 (ab true (len4 zs 21 room)), Value.int .i64 (ab true (len4 zs 22 room))] : Array Value).toList 0 _ hbel
          have b0 := Blk.farCells (b := w.heap.size + 1) (by omega) (#[Value.int .i64 (ab true (len4 zs 19 room)), Value.int .i64 (ab true (len4 zs 20 room)), Value.int .i64 (ab true (len4 zs 21 room)), Value.int .i64 (ab true (len4 zs 22 room))] : Array Value).toList 0 _ _ b0
          have b7 := Blk.farCells (b := w.heap.size + 1) (by omega) (#[Value.int .i64 (ab true (len4 zs 19 room)), Value.int .i64 (ab true (len4 zs 20 room)), Value.int .i64 (ab true (len4 zs 21 room)), Value.int .i64 (ab true (len4 zs 22 room))] : Array Value).toList 0 _ _ b7
          have b6 := b6.setAll #[Value.int .i64 (ab true (len4 zs 19 room)), Value.int .i64 (ab true (len4 zs 20 room)), Value.int .i64 (ab true (len4 zs 21 room)), Value.int .i64 (ab true (len4 zs 22 room))] rfl
          refine hK.out _ _ (KEEP'.out _ b0) (fun hHeld => ?_)
          clear hK K
          try simp only [Act.put, Array.toArray_toList, List.setIfInBounds_toArray, List.set_cons_zero, List.set_cons_succ]
          refine wpAnyH_ready (rs := [9]) (by kernel_rfl) (by simp) ?_
          refine AllReadyH.cons rfl (fun K hK => ?_) AllReadyH.nil
          rw [if_pos (by kernel_rfl)]
          refine wp_store_mid _ _ _ rfl (w.heap.size + 1 + 1) 0 #[Value.int .i64 (ab true (len4 zs 15 room)), Value.int .i64 (ab true (len4 zs 16 room)), Value.int .i64 (ab true (len4 zs 17 room)), Value.int .i64 (ab true (len4 zs 18 room))] rfl rfl (b7.there _ (by simp)) (by kernel_rfl) (by simp [Value.oneCell']) ?_
          have hbel := below_setCells (b := w.heap.size + 1 + 1) (by omega) (#[Value.int .i64 (ab true (len4 zs 15 room)), Value.int .i64 (ab true (len4 zs 16 room)), Value.int .i64 (ab true (len4 zs 17 room)), Value.int .i64 (ab true (len4 zs 18 room))] : Array Value).toList 0 _ hbel
          have b0 := Blk.farCells (b := w.heap.size + 1 + 1) (by omega) (#[Value.int .i64 (ab true (len4 zs 15 room)), Value.int .i64 (ab true (len4 zs 16 room)), Value.int .i64 (ab true (len4 zs 17 room)), Value.int .i64 (ab true (len4 zs 18 room))] : Array Value).toList 0 _ _ b0
          have b6 := Blk.farCells (b := w.heap.size + 1 + 1) (by omega) (#[Value.int .i64 (ab true (len4 zs 15 room)), Value.int .i64 (ab true (len4 zs 16 room)), Value.int .i64 (ab true (len4 zs 17 room)), Value.int .i64 (ab true (len4 zs 18 room))] : Array Value).toList 0 _ _ b6
          have b7 := b7.setAll #[Value.int .i64 (ab true (len4 zs 15 room)), Value.int .i64 (ab true (len4 zs 16 room)), Value.int .i64 (ab true (len4 zs 17 room)), Value.int .i64 (ab true (len4 zs 18 room))] rfl
          refine hK.out _ _ (KEEP'.out _ b0) (fun hHeld => ?_)
          clear hK K
          try simp only [Act.put, Array.toArray_toList, List.setIfInBounds_toArray, List.set_cons_zero, List.set_cons_succ]
          refine wpAnyH_done (by kernel_rfl) ?_ _
          refine NoPanic.normal ?_
          generalize World.setCells _ (w.heap.size + 1 + 1) _ _ = wz at b6 b7 hbel ⊢
          have cb60 : wz.cell? ⟨w.heap.size + 1, 0, none⟩ = some (.int .i64 (ab true (len4 zs 19 room))) := b6.cell 0
          have cb61 : wz.cell? ⟨w.heap.size + 1, 1, none⟩ = some (.int .i64 (ab true (len4 zs 20 room))) := b6.cell 1
          have cb62 : wz.cell? ⟨w.heap.size + 1, 2, none⟩ = some (.int .i64 (ab true (len4 zs 21 room))) := b6.cell 2
          have cb63 : wz.cell? ⟨w.heap.size + 1, 3, none⟩ = some (.int .i64 (ab true (len4 zs 22 room))) := b6.cell 3
          have cb70 : wz.cell? ⟨w.heap.size + 1 + 1, 0, none⟩ = some (.int .i64 (ab true (len4 zs 15 room))) := b7.cell 0
          have cb71 : wz.cell? ⟨w.heap.size + 1 + 1, 1, none⟩ = some (.int .i64 (ab true (len4 zs 16 room))) := b7.cell 1
          have cb72 : wz.cell? ⟨w.heap.size + 1 + 1, 2, none⟩ = some (.int .i64 (ab true (len4 zs 17 room))) := b7.cell 2
          have cb73 : wz.cell? ⟨w.heap.size + 1 + 1, 3, none⟩ = some (.int .i64 (ab true (len4 zs 18 room))) := b7.cell 3
          clear b0 b6 b7 KEEP' hHeld
          go_wp2_with fail
          go_quiet (fail)
          go_wp2_with fail
          go_ret2
          exact ⟨rfl, below_drewN hbel _⟩
  · skip
    go_simp
    have b0 := b0.alloc (.cells #[Value.int .i64 0, .int .i64 0, .int .i64 0, .int .i64 0] 41)
    have hbel := below_alloc hbel (.cells #[Value.int .i64 0, .int .i64 0, .int .i64 0, .int .i64 0] 41)
    have b7 := Blk.new (w.alloc (.cells (sty zs) 38)).drew 41 #[Value.int .i64 0, .int .i64 0, .int .i64 0, .int .i64 0]
    try simp only [alloc_size, drew_size] at b7
    refine hK.out _ _ (KEEP'.out _ b0) (fun hHeld => ?_)
    clear hK K
    try simp only [Act.put, Array.toArray_toList, List.setIfInBounds_toArray, List.set_cons_zero, List.set_cons_succ]
    refine wpAnyH_ready (rs := [2, 6]) (by kernel_rfl) (by simp) ?_
    refine AllReadyH.cons rfl (fun K hK => ?_) (AllReadyH.cons rfl (fun K hK => ?_) AllReadyH.nil)
    · skip
      go_simp
      refine (redges_calls zs 19 room true _ hz (by omega) (by omega)).mono ?_
      rintro e wx12 ⟨rfl, hbz⟩
      have hs12 : w.heap.size + 1 + 1 ≤ wx12.heap.size := by have h := hbz.size; simpa using h
      have hbel := below_then hbel hbz
      have b0 := b0.below hbz b0.lt
      have b7 := b7.below hbz b7.lt
      refine hK.out _ _ (KEEP'.out _ b0) (fun hHeld => ?_)
      clear hK K
      try simp only [Act.put, Array.toArray_toList, List.setIfInBounds_toArray, List.set_cons_zero, List.set_cons_succ]
      refine wpAnyH_ready (rs := [5, 6]) (by kernel_rfl) (by simp) ?_
      refine AllReadyH.cons rfl (fun K hK => ?_) (AllReadyH.cons rfl (fun K hK => ?_) AllReadyH.nil)
      · skip
        go_simp
        refine (redges_calls zs 15 room true _ hz (by omega) (by omega)).mono ?_
        rintro e wx13 ⟨rfl, hbz⟩
        have hs13 : wx12.heap.size ≤ wx13.heap.size := by have h := hbz.size; simpa using h
        have hbel := below_then hbel hbz
        have b0 := b0.below hbz b0.lt
        have b7 := b7.below hbz b7.lt
        refine hK.out _ _ (KEEP'.out _ b0) (fun hHeld => ?_)
        clear hK K
        try simp only [Act.put, Array.toArray_toList, List.setIfInBounds_toArray, List.set_cons_zero, List.set_cons_succ]
        refine wpAnyH_ready (rs := [6]) (by kernel_rfl) (by simp) ?_
        refine AllReadyH.cons rfl (fun K hK => ?_) AllReadyH.nil
        · skip
          go_simp
          have b0 := b0.alloc (.cells #[Value.int .i64 0, .int .i64 0, .int .i64 0, .int .i64 0] 41)
          have b7 := b7.alloc (.cells #[Value.int .i64 0, .int .i64 0, .int .i64 0, .int .i64 0] 41)
          have hbel := below_alloc hbel (.cells #[Value.int .i64 0, .int .i64 0, .int .i64 0, .int .i64 0] 41)
          have b6 := Blk.new wx13 41 #[Value.int .i64 0, .int .i64 0, .int .i64 0, .int .i64 0]
          try simp only [alloc_size, drew_size] at b6
          refine hK.out _ _ (KEEP'.out _ b0) (fun hHeld => ?_)
          clear hK K
          try simp only [Act.put, Array.toArray_toList, List.setIfInBounds_toArray, List.set_cons_zero, List.set_cons_succ]
          refine wpAnyH_ready (rs := [8]) (by kernel_rfl) (by simp) ?_
          refine AllReadyH.cons rfl (fun K hK => ?_) AllReadyH.nil
          rw [if_pos (by kernel_rfl)]
          refine wp_store_mid _ _ _ rfl (wx13.heap.size) 0 #[Value.int .i64 (ab true (len4 zs 19 room)), Value.int .i64 (ab true (len4 zs 20 room)), Value.int .i64 (ab true (len4 zs 21 room)), Value.int .i64 (ab true (len4 zs 22 room))] rfl rfl (b6.there _ (by simp)) (by kernel_rfl) (by simp [Value.oneCell']) ?_
          have hbel := below_setCells (b := wx13.heap.size) (by omega) (#[Value.int .i64 (ab true (len4 zs 19 room)), Value.int .i64 (ab true (len4 zs 20 room)), Value.int .i64 (ab true (len4 zs 21 room)), Value.int .i64 (ab true (len4 zs 22 room))] : Array Value).toList 0 _ hbel
          have b0 := Blk.farCells (b := wx13.heap.size) (by omega) (#[Value.int .i64 (ab true (len4 zs 19 room)), Value.int .i64 (ab true (len4 zs 20 room)), Value.int .i64 (ab true (len4 zs 21 room)), Value.int .i64 (ab true (len4 zs 22 room))] : Array Value).toList 0 _ _ b0
          have b7 := Blk.farCells (b := wx13.heap.size) (by omega) (#[Value.int .i64 (ab true (len4 zs 19 room)), Value.int .i64 (ab true (len4 zs 20 room)), Value.int .i64 (ab true (len4 zs 21 room)), Value.int .i64 (ab true (len4 zs 22 room))] : Array Value).toList 0 _ _ b7
          have b6 := b6.setAll #[Value.int .i64 (ab true (len4 zs 19 room)), Value.int .i64 (ab true (len4 zs 20 room)), Value.int .i64 (ab true (len4 zs 21 room)), Value.int .i64 (ab true (len4 zs 22 room))] rfl
          refine hK.out _ _ (KEEP'.out _ b0) (fun hHeld => ?_)
          clear hK K
          try simp only [Act.put, Array.toArray_toList, List.setIfInBounds_toArray, List.set_cons_zero, List.set_cons_succ]
          refine wpAnyH_ready (rs := [9]) (by kernel_rfl) (by simp) ?_
          refine AllReadyH.cons rfl (fun K hK => ?_) AllReadyH.nil
          rw [if_pos (by kernel_rfl)]
          refine wp_store_mid _ _ _ rfl (w.heap.size + 1) 0 #[Value.int .i64 (ab true (len4 zs 15 room)), Value.int .i64 (ab true (len4 zs 16 room)), Value.int .i64 (ab true (len4 zs 17 room)), Value.int .i64 (ab true (len4 zs 18 room))] rfl rfl (b7.there _ (by simp)) (by kernel_rfl) (by simp [Value.oneCell']) ?_
          have hbel := below_setCells (b := w.heap.size + 1) (by omega) (#[Value.int .i64 (ab true (len4 zs 15 room)), Value.int .i64 (ab true (len4 zs 16 room)), Value.int .i64 (ab true (len4 zs 17 room)), Value.int .i64 (ab true (len4 zs 18 room))] : Array Value).toList 0 _ hbel
          have b0 := Blk.farCells (b := w.heap.size + 1) (by omega) (#[Value.int .i64 (ab true (len4 zs 15 room)), Value.int .i64 (ab true (len4 zs 16 room)), Value.int .i64 (ab true (len4 zs 17 room)), Value.int .i64 (ab true (len4 zs 18 room))] : Array Value).toList 0 _ _ b0
          have b6 := Blk.farCells (b := w.heap.size + 1) (by omega) (#[Value.int .i64 (ab true (len4 zs 15 room)), Value.int .i64 (ab true (len4 zs 16 room)), Value.int .i64 (ab true (len4 zs 17 room)), Value.int .i64 (ab true (len4 zs 18 room))] : Array Value).toList 0 _ _ b6
          have b7 := b7.setAll #[Value.int .i64 (ab true (len4 zs 15 room)), Value.int .i64 (ab true (len4 zs 16 room)), Value.int .i64 (ab true (len4 zs 17 room)), Value.int .i64 (ab true (len4 zs 18 room))] rfl
          refine hK.out _ _ (KEEP'.out _ b0) (fun hHeld => ?_)
          clear hK K
          try simp only [Act.put, Array.toArray_toList, List.setIfInBounds_toArray, List.set_cons_zero, List.set_cons_succ]
          refine wpAnyH_done (by kernel_rfl) ?_ _
          refine NoPanic.normal ?_
          generalize World.setCells _ (w.heap.size + 1) _ _ = wz at b6 b7 hbel ⊢
          have cb60 : wz.cell? ⟨wx13.heap.size, 0, none⟩ = some (.int .i64 (ab true (len4 zs 19 room))) := b6.cell 0
          have cb61 : wz.cell? ⟨wx13.heap.size, 1, none⟩ = some (.int .i64 (ab true (len4 zs 20 room))) := b6.cell 1
          have cb62 : wz.cell? ⟨wx13.heap.size, 2, none⟩ = some (.int .i64 (ab true (len4 zs 21 room))) := b6.cell 2
          have cb63 : wz.cell? ⟨wx13.heap.size, 3, none⟩ = some (.int .i64 (ab true (len4 zs 22 room))) := b6.cell 3
          have cb70 : wz.cell? ⟨w.heap.size + 1, 0, none⟩ = some (.int .i64 (ab true (len4 zs 15 room))) := b7.cell 0
          have cb71 : wz.cell? ⟨w.heap.size + 1, 1, none⟩ = some (.int .i64 (ab true (len4 zs 16 room))) := b7.cell 1
          have cb72 : wz.cell? ⟨w.heap.size + 1, 2, none⟩ = some (.int .i64 (ab true (len4 zs 17 room))) := b7.cell 2
          have cb73 : wz.cell? ⟨w.heap.size + 1, 3, none⟩ = some (.int .i64 (ab true (len4 zs 18 room))) := b7.cell 3
          clear b0 b6 b7 KEEP' hHeld
          go_wp2_with fail
          go_quiet (fail)
          go_wp2_with fail
          go_ret2
          exact ⟨rfl, below_drewN hbel _⟩
      · skip
        go_simp
        have b0 := b0.alloc (.cells #[Value.int .i64 0, .int .i64 0, .int .i64 0, .int .i64 0] 41)
        have b7 := b7.alloc (.cells #[Value.int .i64 0, .int .i64 0, .int .i64 0, .int .i64 0] 41)
        have hbel := below_alloc hbel (.cells #[Value.int .i64 0, .int .i64 0, .int .i64 0, .int .i64 0] 41)
        have b6 := Blk.new wx12 41 #[Value.int .i64 0, .int .i64 0, .int .i64 0, .int .i64 0]
        try simp only [alloc_size, drew_size] at b6
        refine hK.out _ _ (KEEP'.out _ b0) (fun hHeld => ?_)
        clear hK K
        try simp only [Act.put, Array.toArray_toList, List.setIfInBounds_toArray, List.set_cons_zero, List.set_cons_succ]
        refine wpAnyH_ready (rs := [5]) (by kernel_rfl) (by simp) ?_
        refine AllReadyH.cons rfl (fun K hK => ?_) AllReadyH.nil
        · skip
          go_simp
          refine (redges_calls zs 15 room true _ hz (by omega) (by omega)).mono ?_
          rintro e wx14 ⟨rfl, hbz⟩
          have hs14 : wx12.heap.size + 1 ≤ wx14.heap.size := by have h := hbz.size; simpa using h
          have hbel := below_then hbel hbz
          have b0 := b0.below hbz b0.lt
          have b6 := b6.below hbz b6.lt
          have b7 := b7.below hbz b7.lt
          refine hK.out _ _ (KEEP'.out _ b0) (fun hHeld => ?_)
          clear hK K
          try simp only [Act.put, Array.toArray_toList, List.setIfInBounds_toArray, List.set_cons_zero, List.set_cons_succ]
          refine wpAnyH_ready (rs := [8]) (by kernel_rfl) (by simp) ?_
          refine AllReadyH.cons rfl (fun K hK => ?_) AllReadyH.nil
          rw [if_pos (by kernel_rfl)]
          refine wp_store_mid _ _ _ rfl (wx12.heap.size) 0 #[Value.int .i64 (ab true (len4 zs 19 room)), Value.int .i64 (ab true (len4 zs 20 room)), Value.int .i64 (ab true (len4 zs 21 room)), Value.int .i64 (ab true (len4 zs 22 room))] rfl rfl (b6.there _ (by simp)) (by kernel_rfl) (by simp [Value.oneCell']) ?_
          have hbel := below_setCells (b := wx12.heap.size) (by omega) (#[Value.int .i64 (ab true (len4 zs 19 room)), Value.int .i64 (ab true (len4 zs 20 room)), Value.int .i64 (ab true (len4 zs 21 room)), Value.int .i64 (ab true (len4 zs 22 room))] : Array Value).toList 0 _ hbel
          have b0 := Blk.farCells (b := wx12.heap.size) (by omega) (#[Value.int .i64 (ab true (len4 zs 19 room)), Value.int .i64 (ab true (len4 zs 20 room)), Value.int .i64 (ab true (len4 zs 21 room)), Value.int .i64 (ab true (len4 zs 22 room))] : Array Value).toList 0 _ _ b0
          have b7 := Blk.farCells (b := wx12.heap.size) (by omega) (#[Value.int .i64 (ab true (len4 zs 19 room)), Value.int .i64 (ab true (len4 zs 20 room)), Value.int .i64 (ab true (len4 zs 21 room)), Value.int .i64 (ab true (len4 zs 22 room))] : Array Value).toList 0 _ _ b7
          have b6 := b6.setAll #[Value.int .i64 (ab true (len4 zs 19 room)), Value.int .i64 (ab true (len4 zs 20 room)), Value.int .i64 (ab true (len4 zs 21 room)), Value.int .i64 (ab true (len4 zs 22 room))] rfl
          refine hK.out _ _ (KEEP'.out _ b0) (fun hHeld => ?_)
          clear hK K
          try simp only [Act.put, Array.toArray_toList, List.setIfInBounds_toArray, List.set_cons_zero, List.set_cons_succ]
          refine wpAnyH_ready (rs := [9]) (by kernel_rfl) (by simp) ?_
          refine AllReadyH.cons rfl (fun K hK => ?_) AllReadyH.nil
          rw [if_pos (by kernel_rfl)]
          refine wp_store_mid _ _ _ rfl (w.heap.size + 1) 0 #[Value.int .i64 (ab true (len4 zs 15 room)), Value.int .i64 (ab true (len4 zs 16 room)), Value.int .i64 (ab true (len4 zs 17 room)), Value.int .i64 (ab true (len4 zs 18 room))] rfl rfl (b7.there _ (by simp)) (by kernel_rfl) (by simp [Value.oneCell']) ?_
          have hbel := below_setCells (b := w.heap.size + 1) (by omega) (#[Value.int .i64 (ab true (len4 zs 15 room)), Value.int .i64 (ab true (len4 zs 16 room)), Value.int .i64 (ab true (len4 zs 17 room)), Value.int .i64 (ab true (len4 zs 18 room))] : Array Value).toList 0 _ hbel
          have b0 := Blk.farCells (b := w.heap.size + 1) (by omega) (#[Value.int .i64 (ab true (len4 zs 15 room)), Value.int .i64 (ab true (len4 zs 16 room)), Value.int .i64 (ab true (len4 zs 17 room)), Value.int .i64 (ab true (len4 zs 18 room))] : Array Value).toList 0 _ _ b0
          have b6 := Blk.farCells (b := w.heap.size + 1) (by omega) (#[Value.int .i64 (ab true (len4 zs 15 room)), Value.int .i64 (ab true (len4 zs 16 room)), Value.int .i64 (ab true (len4 zs 17 room)), Value.int .i64 (ab true (len4 zs 18 room))] : Array Value).toList 0 _ _ b6
          have b7 := b7.setAll #[Value.int .i64 (ab true (len4 zs 15 room)), Value.int .i64 (ab true (len4 zs 16 room)), Value.int .i64 (ab true (len4 zs 17 room)), Value.int .i64 (ab true (len4 zs 18 room))] rfl
          refine hK.out _ _ (KEEP'.out _ b0) (fun hHeld => ?_)
          clear hK K
          try simp only [Act.put, Array.toArray_toList, List.setIfInBounds_toArray, List.set_cons_zero, List.set_cons_succ]
          refine wpAnyH_done (by kernel_rfl) ?_ _
          refine NoPanic.normal ?_
          generalize World.setCells _ (w.heap.size + 1) _ _ = wz at b6 b7 hbel ⊢
          have cb60 : wz.cell? ⟨wx12.heap.size, 0, none⟩ = some (.int .i64 (ab true (len4 zs 19 room))) := b6.cell 0
          have cb61 : wz.cell? ⟨wx12.heap.size, 1, none⟩ = some (.int .i64 (ab true (len4 zs 20 room))) := b6.cell 1
          have cb62 : wz.cell? ⟨wx12.heap.size, 2, none⟩ = some (.int .i64 (ab true (len4 zs 21 room))) := b6.cell 2
          have cb63 : wz.cell? ⟨wx12.heap.size, 3, none⟩ = some (.int .i64 (ab true (len4 zs 22 room))) := b6.cell 3
          have cb70 : wz.cell? ⟨w.heap.size + 1, 0, none⟩ = some (.int .i64 (ab true (len4 zs 15 room))) := b7.cell 0
          have cb71 : wz.cell? ⟨w.heap.size + 1, 1, none⟩ = some (.int .i64 (ab true (len4 zs 16 room))) := b7.cell 1
          have cb72 : wz.cell? ⟨w.heap.size + 1, 2, none⟩ = some (.int .i64 (ab true (len4 zs 17 room))) := b7.cell 2
          have cb73 : wz.cell? ⟨w.heap.size + 1, 3, none⟩ = some (.int .i64 (ab true (len4 zs 18 room))) := b7.cell 3
          clear b0 b6 b7 KEEP' hHeld
          go_wp2_with fail
          go_quiet (fail)
          go_wp2_with fail
          go_ret2
          exact ⟨rfl, below_drewN hbel _⟩
    · skip
      go_simp
      have b0 := b0.alloc (.cells #[Value.int .i64 0, .int .i64 0, .int .i64 0, .int .i64 0] 41)
      have b7 := b7.alloc (.cells #[Value.int .i64 0, .int .i64 0, .int .i64 0, .int .i64 0] 41)
      have hbel := below_alloc hbel (.cells #[Value.int .i64 0, .int .i64 0, .int .i64 0, .int .i64 0] 41)
      have b6 := Blk.new ((w.alloc (.cells (sty zs) 38)).drew.alloc (.cells #[Value.int .i64 0, .int .i64 0, .int .i64 0, .int .i64 0] 41)) 41 #[Value.int .i64 0, .int .i64 0, .int .i64 0, .int .i64 0]
      try simp only [alloc_size, drew_size] at b6
      refine hK.out _ _ (KEEP'.out _ b0) (fun hHeld => ?_)
      clear hK K
      try simp only [Act.put, Array.toArray_toList, List.setIfInBounds_toArray, List.set_cons_zero, List.set_cons_succ]
      refine wpAnyH_ready (rs := [2]) (by kernel_rfl) (by simp) ?_
      refine AllReadyH.cons rfl (fun K hK => ?_) AllReadyH.nil
      · skip
        go_simp
        refine (redges_calls zs 19 room true _ hz (by omega) (by omega)).mono ?_
        rintro e wx15 ⟨rfl, hbz⟩
        have hs15 : w.heap.size + 1 + 1 + 1 ≤ wx15.heap.size := by have h := hbz.size; simpa using h
        have hbel := below_then hbel hbz
        have b0 := b0.below hbz b0.lt
        have b6 := b6.below hbz b6.lt
        have b7 := b7.below hbz b7.lt
        refine hK.out _ _ (KEEP'.out _ b0) (fun hHeld => ?_)
        clear hK K
        try simp only [Act.put, Array.toArray_toList, List.setIfInBounds_toArray, List.set_cons_zero, List.set_cons_succ]
        refine wpAnyH_ready (rs := [5]) (by kernel_rfl) (by simp) ?_
        refine AllReadyH.cons rfl (fun K hK => ?_) AllReadyH.nil
        · skip
          go_simp
          refine (redges_calls zs 15 room true _ hz (by omega) (by omega)).mono ?_
          rintro e wx16 ⟨rfl, hbz⟩
          have hs16 : wx15.heap.size ≤ wx16.heap.size := by have h := hbz.size; simpa using h
          have hbel := below_then hbel hbz
          have b0 := b0.below hbz b0.lt
          have b6 := b6.below hbz b6.lt
          have b7 := b7.below hbz b7.lt
          refine hK.out _ _ (KEEP'.out _ b0) (fun hHeld => ?_)
          clear hK K
          try simp only [Act.put, Array.toArray_toList, List.setIfInBounds_toArray, List.set_cons_zero, List.set_cons_succ]
          refine wpAnyH_ready (rs := [8]) (by kernel_rfl) (by simp) ?_
          refine AllReadyH.cons rfl (fun K hK => ?_) AllReadyH.nil
          rw [if_pos (by kernel_rfl)]
          refine wp_store_mid _ _ _ rfl (w.heap.size + 1 + 1) 0 #[Value.int .i64 (ab true (len4 zs 19 room)), Value.int .i64 (ab true (len4 zs 20 room)), Value.int .i64 (ab true (len4 zs 21 room)), Value.int .i64 (ab true (len4 zs 22 room))] rfl rfl (b6.there _ (by simp)) (by kernel_rfl) (by simp [Value.oneCell']) ?_
          have hbel := below_setCells (b := w.heap.size + 1 + 1) (by omega) (#[Value.int .i64 (ab true (len4 zs 19 room)), Value.int .i64 (ab true (len4 zs 20 room)), Value.int .i64 (ab true (len4 zs 21 room)), Value.int .i64 (ab true (len4 zs 22 room))] : Array Value).toList 0 _ hbel
          have b0 := Blk.farCells (b := w.heap.size + 1 + 1) (by omega) (#[Value.int .i64 (ab true (len4 zs 19 room)), Value.int .i64 (ab true (len4 zs 20 room)), Value.int .i64 (ab true (len4 zs 21 room)), Value.int .i64 (ab true (len4 zs 22 room))] : Array Value).toList 0 _ _ b0
          have b7 := Blk.farCells (b := w.heap.size + 1 + 1) (by omega) (#[Value.int .i64 (ab true (len4 zs 19 room)), Value.int .i64 (ab true (len4 zs 20 room)), Value.int .i64 (ab true (len4 zs 21 room)), Value.int .i64 (ab true (len4 zs 22 room))] : Array Value).toList 0 _ _ b7
          have b6 := b6.setAll #[Value.int .i64 (ab true (len4 zs 19 room)), Value.int .i64 (ab true (len4 zs 20 room)), Value.int .i64 (ab true (len4 zs 21 room)), Value.int .i64 (ab true (len4 zs 22 room))] rfl
          refine hK.out _ _ (KEEP'.out _ b0) (fun hHeld => ?_)
          clear hK K
          try simp only [Act.put, Array.toArray_toList, List.setIfInBounds_toArray, List.set_cons_zero, List.set_cons_succ]
          refine wpAnyH_ready (rs := [9]) (by kernel_rfl) (by simp) ?_
          refine AllReadyH.cons rfl (fun K hK => ?_) AllReadyH.nil
          rw [if_pos (by kernel_rfl)]
          refine wp_store_mid _ _ _ rfl (w.heap.size + 1) 0 #[Value.int .i64 (ab true (len4 zs 15 room)), Value.int .i64 (ab true (len4 zs 16 room)), Value.int .i64 (ab true (len4 zs 17 room)), Value.int .i64 (ab true (len4 zs 18 room))] rfl rfl (b7.there _ (by simp)) (by kernel_rfl) (by simp [Value.oneCell']) ?_
          have hbel := below_setCells (b := w.heap.size + 1) (by omega) (#[Value.int .i64 (ab true (len4 zs 15 room)), Value.int .i64 (ab true (len4 zs 16 room)), Value.int .i64 (ab true (len4 zs 17 room)), Value.int .i64 (ab true (len4 zs 18 room))] : Array Value).toList 0 _ hbel
          have b0 := Blk.farCells (b := w.heap.size + 1) (by omega) (#[Value.int .i64 (ab true (len4 zs 15 room)), Value.int .i64 (ab true (len4 zs 16 room)), Value.int .i64 (ab true (len4 zs 17 room)), Value.int .i64 (ab true (len4 zs 18 room))] : Array Value).toList 0 _ _ b0
          have b6 := Blk.farCells (b := w.heap.size + 1) (by omega) (#[Value.int .i64 (ab true (len4 zs 15 room)), Value.int .i64 (ab true (len4 zs 16 room)), Value.int .i64 (ab true (len4 zs 17 room)), Value.int .i64 (ab true (len4 zs 18 room))] : Array Value).toList 0 _ _ b6
          have b7 := b7.setAll #[Value.int .i64 (ab true (len4 zs 15 room)), Value.int .i64 (ab true (len4 zs 16 room)), Value.int .i64 (ab true (len4 zs 17 room)), Value.int .i64 (ab true (len4 zs 18 room))] rfl
          refine hK.out _ _ (KEEP'.out _ b0) (fun hHeld => ?_)
          clear hK K
          try simp only [Act.put, Array.toArray_toList, List.setIfInBounds_toArray, List.set_cons_zero, List.set_cons_succ]
          refine wpAnyH_done (by kernel_rfl) ?_ _
          refine NoPanic.normal ?_
          generalize World.setCells _ (w.heap.size + 1) _ _ = wz at b6 b7 hbel ⊢
          have cb60 : wz.cell? ⟨w.heap.size + 1 + 1, 0, none⟩ = some (.int .i64 (ab true (len4 zs 19 room))) := b6.cell 0
          have cb61 : wz.cell? ⟨w.heap.size + 1 + 1, 1, none⟩ = some (.int .i64 (ab true (len4 zs 20 room))) := b6.cell 1
          have cb62 : wz.cell? ⟨w.heap.size + 1 + 1, 2, none⟩ = some (.int .i64 (ab true (len4 zs 21 room))) := b6.cell 2
          have cb63 : wz.cell? ⟨w.heap.size + 1 + 1, 3, none⟩ = some (.int .i64 (ab true (len4 zs 22 room))) := b6.cell 3
          have cb70 : wz.cell? ⟨w.heap.size + 1, 0, none⟩ = some (.int .i64 (ab true (len4 zs 15 room))) := b7.cell 0
          have cb71 : wz.cell? ⟨w.heap.size + 1, 1, none⟩ = some (.int .i64 (ab true (len4 zs 16 room))) := b7.cell 1
          have cb72 : wz.cell? ⟨w.heap.size + 1, 2, none⟩ = some (.int .i64 (ab true (len4 zs 17 room))) := b7.cell 2
          have cb73 : wz.cell? ⟨w.heap.size + 1, 3, none⟩ = some (.int .i64 (ab true (len4 zs 18 room))) := b7.cell 3
          clear b0 b6 b7 KEEP' hHeld
          go_wp2_with fail
          go_quiet (fail)
          go_wp2_with fail
          go_ret2
          exact ⟨rfl, below_drewN hbel _⟩
end Go.Proofs.Ytpinfaoeggipmaa
