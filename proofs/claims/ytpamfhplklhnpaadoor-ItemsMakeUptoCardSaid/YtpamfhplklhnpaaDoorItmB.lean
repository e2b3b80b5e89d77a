/- Contracts of items.High and of the reference's LineHigh. -/
import Derived.Test.YtpamfhplklhnpaaDoorItmA
import Derived.Test.YtpamfhplklhnpaaDoorRegionM
namespace Go.Proofs.YtpamfhplklhnpaaDoor
open Go.RowKit
set_option linter.unusedVariables false
set_option linter.unusedSimpArgs false
attribute [local go_sem high] run_min2 run_max2

theorem part_pos (z : Int) (h : 0 ≤ z) : 0 ≤ part z 5 4 := by
  unfold part
  have c4 : cut 4 = 4 := by decide
  have c5 : cut 5 = 5 := by decide
  rw [c4, c5, if_neg (by decide)]
  have h1 : 0 ≤ cut z := by unfold cut; omega
  have h2 : 0 ≤ (cut z * 5).fdiv 4 := by rw [Int.fdiv_eq_ediv_of_nonneg _ (by decide)]; exact Int.ediv_nonneg (by omega) (by decide)
  unfold cut at h2 ⊢
  omega
set_option maxRecDepth 100000 in
set_option maxHeartbeats 2000000 in
theorem high_calls (zs : List Int) (w : World) (hz : zs.length = 118) : Calls Tryd.prog 6 #[.agg (sty zs)] w fun e w' => e = .returned (.int .i64 (highN zs)) ∧ Below w.heap.size w w' := by
  have d0 : (w.alloc (.cells (sty zs) 28)).cell? ⟨w.heap.size, 76, none⟩ = some (.int .i64 (stK zs 38)) := (new_cell w (sty zs) 28 76).trans (sty_at zs 76 (by omega))
  have d1 : (w.alloc (.cells (sty zs) 28)).cell? ⟨w.heap.size, 77, none⟩ = some (.int .i64 (stN zs 38)) := (new_cell w (sty zs) 28 77).trans (sty_at zs 77 (by omega))
  have HSZL : Hid ((Tryd.prog.info? 28).map (·.size) = some (sty zs).toList.length) := by show _ = _; rw [Array.length_toList, sty_size, hz]; kernel_rfl
  have HSZ : Hid ((Tryd.prog.info? 28).map (·.size) = some (sty zs).size) := by show _ = _; rw [sty_size, hz]; kernel_rfl
  have HSI := Lib.hid (fun w => isize_calls zs w hz)
  have hs0 : 0 ≤ szN zs := by unfold szN; omega
  obtain ⟨z, hzz⟩ : ∃ x, x = szN zs := ⟨_, rfl⟩
  have HH : Hid (highN zs = max 0 (if stK zs 38 = 2 then cut (stN zs 38) else if stK zs 38 = 4 then part z (stN zs 38) 1000 else part z 5 4)) := by rw [hzz]; rfl
  rw [← hzz] at HSI hs0
  obtain ⟨n, hn⟩ : ∃ n, n = stN zs 38 := ⟨_, rfl⟩
  obtain ⟨k, hk⟩ : ∃ n, n = stK zs 38 := ⟨_, rfl⟩
  rw [← hn] at d1
  rw [← hk] at d0
  rw [← hn, ← hk] at HH
  have HBS := Lib.hid (Blk.new w 28 (sty zs))
  have HB0 := Lib.hid (below_alloc (Below.refl w.heap.size w) (.cells (sty zs) 28))
  have HS0 := Lib.hid hs0
  clear hn hk hzz hz hs0
  rw [HH.out]
  clear HH
  by_cases h2 : k = 2
  · have q : (k == 2) = true := by simpa using h2
    rw [if_pos h2]
    clear h2
    go_enter Tryd.func6, Tryd.ntmps6
    go_wp2_with (go_at_call 19; refine (cut_calls _ _).mono ?_; rintro e w1 ⟨rfl, rfl⟩)
    go_ret
    exact ⟨rfl, below_alloc HB0.out _⟩
  · have q : (k == 2) = false := by simpa using h2
    rw [if_neg h2]
    clear h2
    by_cases h4 : k = 4
    · have q4 : (k == 4) = true := by simpa using h4
      rw [if_pos h4]
      clear h4
      go_enter Tryd.func6, Tryd.ntmps6
      go_wp2_with fail
      have HBX : Hid (Below w.heap.size w ((w.alloc (.cells (sty zs) 28)).alloc (.cells #[.int .i64 k, .int .i64 n] 26))) := below_alloc HB0.out _
      have BS2 : Blk ((w.alloc (.cells (sty zs) 28)).alloc (.cells #[.int .i64 k, .int .i64 n] 26)) w.heap.size 28 (sty zs) := HBS.out.alloc _
      have BV2 : Blk ((w.alloc (.cells (sty zs) 28)).alloc (.cells #[.int .i64 k, .int .i64 n] 26)) (w.heap.size + 1) 26 #[.int .i64 k, .int .i64 n] := by
        have h1 := Blk.new (w.alloc (.cells (sty zs) 28)) 26 #[.int .i64 k, .int .i64 n]
        rwa [alloc_size] at h1
      clear d0 d1
      generalize World.alloc _ _ = wx at HBX BS2 BV2 ⊢
      have HBX := Lib.hid HBX.out.drew
      have HSB : Hid (∀ w', Below wx.drew.heap.size wx.drew w' → w'.rangeAt w.heap.size 0 (sty zs).toList ∧ w'.cell? ⟨w.heap.size + 1, 1, none⟩ = some (.int .i64 n)) := fun w' hb => ⟨fun j v hv => by
        have h1 := (BS2.drew.below hb BS2.drew.lt).cell j
        rw [Nat.zero_add, h1]
        simpa using hv, (BV2.drew.below hb BV2.drew.lt).cell 1⟩
      have hS0 : (fun w' : World => w'.rangeAt w.heap.size 0 (sty zs).toList ∧ w'.cell? ⟨w.heap.size + 1, 1, none⟩ = some (.int .i64 n)) wx.drew := HSB.out _ (Below.refl _ _)
      clear BS2 BV2
      refine wp_region_noPanic ?_
      refine region_M (S := fun w' => w'.rangeAt w.heap.size 0 (sty zs).toList ∧ w'.cell? ⟨w.heap.size + 1, 1, none⟩ = some (.int .i64 n)) (T := []) (by kernel_rfl) ?_
      generalize World.drew wx = wd at HSB HBX hS0 ⊢
      refine anyM_take (i := 0) (oi := { dst := some 19, op := _, type := _, pos := _, after := _, guard := _ }) (v := _) rfl (by kernel_rfl) (fun _ _ _ h => h) (yieldsIf_load_mid (by kernel_rfl) _ _ rfl _ _ rfl (sty zs).toList _ (fun w' h => by simpa using h.1) Tryd.underlying28 rfl HSZL.out) hS0 ?_
      try simp only [Act.put, Array.toArray_toList, List.setIfInBounds_toArray, List.set_cons_zero, List.set_cons_succ]
      refine anyM_free (i := 2) (oi := { dst := some 21, op := _, type := _, pos := _, after := _, guard := _ }) (v := ?_) rfl (by kernel_rfl) (fun _ _ _ h => h) (Or.inl ⟨by kernel_rfl, ?_⟩) (fun _ => hS0) ?_
      rotate_left 1
      · (intro w hSw; (try dsimp only at hSw); go_simp; try with_reducible rfl)
      try simp only [Act.put, Array.toArray_toList, List.setIfInBounds_toArray, List.set_cons_zero, List.set_cons_succ]
      refine anyM_take (i := 3) (oi := { dst := some 22, op := _, type := _, pos := _, after := _, guard := _ }) (v := ?_) rfl (by kernel_rfl) (fun _ _ _ h => h) (Or.inl ⟨by kernel_rfl, ?_⟩) hS0 ?_
      rotate_left 1
      · (intro w hSw; (try dsimp only at hSw); go_simp; try with_reducible rfl)
      try simp only [Act.put, Array.toArray_toList, List.setIfInBounds_toArray, List.set_cons_zero, List.set_cons_succ]
      refine anyM_one (i := 1) (by kernel_rfl) rfl (fun K hK => ?_)
      go_simp
      refine (HSI.out _).mono ?_
      rintro e w1 ⟨rfl, hb1⟩
      have hS0 : (fun w' : World => w'.rangeAt w.heap.size 0 (sty zs).toList ∧ w'.cell? ⟨w.heap.size + 1, 1, none⟩ = some (.int .i64 n)) w1 := HSB.out w1 hb1
      have HB1 := Lib.hid (below_then HBX.out hb1)
      clear hb1
      refine hK.out _ _ (fun _ => hS0) ?_
      clear hK K
      try simp only [Act.put, Array.toArray_toList, List.setIfInBounds_toArray, List.set_cons_zero, List.set_cons_succ]
      refine anyM_one (i := 4) (by kernel_rfl) rfl (fun K hK => ?_)
      go_simp
      refine (part_calls _ _ _ _).mono ?_
      rintro e w2 ⟨rfl, rfl⟩
      refine hK.out _ _ (fun _ => hS0) ?_
      clear hK K
      try simp only [Act.put, Array.toArray_toList, List.setIfInBounds_toArray, List.set_cons_zero, List.set_cons_succ]
      refine anyM_free (i := 5) (oi := { dst := some 3, op := _, type := _, pos := _, after := _, guard := _ }) (v := ?_) rfl (by kernel_rfl) (fun _ _ _ h => h) (Or.inl ⟨by kernel_rfl, ?_⟩) (fun _ => hS0) ?_
      rotate_left 1
      · (intro w hSw; (try dsimp only at hSw); go_simp; try with_reducible rfl)
      try simp only [Act.put, Array.toArray_toList, List.setIfInBounds_toArray, List.set_cons_zero, List.set_cons_succ]
      refine anyM_done (by kernel_rfl) ?_ _
      refine NoPanic.normal ?_
      clear hS0

      go_wp2_with fail
      go_ret
      exact ⟨rfl, HB1.out⟩
    · have q4 : (k == 4) = false := by simpa using h4
      rw [if_neg h4]
      clear h4
      go_enter Tryd.func6, Tryd.ntmps6
      go_wp2_with (first | (refine wpList_load_rowI _ _ rfl w.heap.size rfl 28 (sty zs) (0, 0) _ (HBS.out.alloc _) Tryd.underlying28 rfl HSZ.out (by kernel_rfl) ?_) | (go_at_call 21; refine (HSI.out _).mono ?_; rintro e w1 ⟨rfl, hb1⟩; have HB1 := Lib.hid (below_then (below_alloc HB0.out _) hb1); clear hb1) | (go_at_call 20; refine (part_calls _ _ _ _).mono ?_; rintro e w2 ⟨rfl, rfl⟩))
      go_ret
      exact ⟨rfl, HB1.out⟩
set_option maxRecDepth 100000 in
set_option maxHeartbeats 2000000 in
theorem rhigh_calls (zs : List Int) (w : World) (hz : zs.length = 118) : Calls Tryd.prog 7 #[.agg (sty zs)] w fun e w' => e = .returned (.int .i64 (highN zs)) ∧ Below w.heap.size w w' := by
  have d0 : (w.alloc (.cells (sty zs) 28)).cell? ⟨w.heap.size, 76, none⟩ = some (.int .i64 (stK zs 38)) := (new_cell w (sty zs) 28 76).trans (sty_at zs 76 (by omega))
  have d1 : (w.alloc (.cells (sty zs) 28)).cell? ⟨w.heap.size, 77, none⟩ = some (.int .i64 (stN zs 38)) := (new_cell w (sty zs) 28 77).trans (sty_at zs 77 (by omega))
  have HSZL : Hid ((Tryd.prog.info? 28).map (·.size) = some (sty zs).toList.length) := by show _ = _; rw [Array.length_toList, sty_size, hz]; kernel_rfl
  have HSZ : Hid ((Tryd.prog.info? 28).map (·.size) = some (sty zs).size) := by show _ = _; rw [sty_size, hz]; kernel_rfl
  have HSR := Lib.hid (fun w => rsize_calls zs w hz)
  have hs0 : 0 ≤ szN zs := by unfold szN; omega
  obtain ⟨z, hzz⟩ : ∃ x, x = szN zs := ⟨_, rfl⟩
  have HH : Hid (highN zs = max 0 (if stK zs 38 = 2 then cut (stN zs 38) else if stK zs 38 = 4 then part z (stN zs 38) 1000 else part z 5 4)) := by rw [hzz]; rfl
  rw [← hzz] at HSR hs0
  obtain ⟨n, hn⟩ : ∃ n, n = stN zs 38 := ⟨_, rfl⟩
  obtain ⟨k, hk⟩ : ∃ n, n = stK zs 38 := ⟨_, rfl⟩
  rw [← hn] at d1
  rw [← hk] at d0
  rw [← hn, ← hk] at HH
  have HBS := Lib.hid (Blk.new w 28 (sty zs))
  have HB0 := Lib.hid (below_alloc (Below.refl w.heap.size w) (.cells (sty zs) 28))
  have HS0 := Lib.hid hs0
  clear hn hk hzz hz hs0
  rw [HH.out]
  clear HH
  by_cases h2 : k = 2
  · have q : (k == 2) = true := by simpa using h2
    rw [if_pos h2]
    clear h2
    go_enter Tryd.func7, Tryd.ntmps7
    go_wp2_with (go_at_call 22; refine (rsz_calls _ _).mono ?_; rintro e w1 ⟨rfl, hb1⟩)
    go_ret
    exact ⟨rfl, below_then (below_alloc HB0.out _) hb1⟩
  · have q : (k == 2) = false := by simpa using h2
    rw [if_neg h2]
    clear h2
    by_cases h4 : k = 4
    · have q4 : (k == 4) = true := by simpa using h4
      rw [if_pos h4]
      clear h4
      go_enter Tryd.func7, Tryd.ntmps7
      go_wp2_with fail
      have HBX : Hid (Below w.heap.size w ((w.alloc (.cells (sty zs) 28)).alloc (.cells #[.int .i64 k, .int .i64 n] 26))) := below_alloc HB0.out _
      have BS2 : Blk ((w.alloc (.cells (sty zs) 28)).alloc (.cells #[.int .i64 k, .int .i64 n] 26)) w.heap.size 28 (sty zs) := HBS.out.alloc _
      have BV2 : Blk ((w.alloc (.cells (sty zs) 28)).alloc (.cells #[.int .i64 k, .int .i64 n] 26)) (w.heap.size + 1) 26 #[.int .i64 k, .int .i64 n] := by
        have h1 := Blk.new (w.alloc (.cells (sty zs) 28)) 26 #[.int .i64 k, .int .i64 n]
        rwa [alloc_size] at h1
      clear d0 d1
      generalize World.alloc _ _ = wx at HBX BS2 BV2 ⊢
      have HBX := Lib.hid HBX.out.drew
      have HSB : Hid (∀ w', Below wx.drew.heap.size wx.drew w' → w'.rangeAt w.heap.size 0 (sty zs).toList ∧ w'.cell? ⟨w.heap.size + 1, 1, none⟩ = some (.int .i64 n)) := fun w' hb => ⟨fun j v hv => by
        have h1 := (BS2.drew.below hb BS2.drew.lt).cell j
        rw [Nat.zero_add, h1]
        simpa using hv, (BV2.drew.below hb BV2.drew.lt).cell 1⟩
      have hS0 : (fun w' : World => w'.rangeAt w.heap.size 0 (sty zs).toList ∧ w'.cell? ⟨w.heap.size + 1, 1, none⟩ = some (.int .i64 n)) wx.drew := HSB.out _ (Below.refl _ _)
      clear BS2 BV2
      refine wp_region_noPanic ?_
      refine region_M (S := fun w' => w'.rangeAt w.heap.size 0 (sty zs).toList ∧ w'.cell? ⟨w.heap.size + 1, 1, none⟩ = some (.int .i64 n)) (T := []) (by kernel_rfl) ?_
      generalize World.drew wx = wd at HSB HBX hS0 ⊢
      refine anyM_take (i := 0) (oi := { dst := some 15, op := _, type := _, pos := _, after := _, guard := _ }) (v := _) rfl (by kernel_rfl) (fun _ _ _ h => h) (yieldsIf_load_mid (by kernel_rfl) _ _ rfl _ _ rfl (sty zs).toList _ (fun w' h => by simpa using h.1) Tryd.underlying28 rfl HSZL.out) hS0 ?_
      try simp only [Act.put, Array.toArray_toList, List.setIfInBounds_toArray, List.set_cons_zero, List.set_cons_succ]
      refine anyM_free (i := 2) (oi := { dst := some 17, op := _, type := _, pos := _, after := _, guard := _ }) (v := ?_) rfl (by kernel_rfl) (fun _ _ _ h => h) (Or.inl ⟨by kernel_rfl, ?_⟩) (fun _ => hS0) ?_
      rotate_left 1
      · (intro w hSw; (try dsimp only at hSw); go_simp; try with_reducible rfl)
      try simp only [Act.put, Array.toArray_toList, List.setIfInBounds_toArray, List.set_cons_zero, List.set_cons_succ]
      refine anyM_take (i := 3) (oi := { dst := some 18, op := _, type := _, pos := _, after := _, guard := _ }) (v := ?_) rfl (by kernel_rfl) (fun _ _ _ h => h) (Or.inl ⟨by kernel_rfl, ?_⟩) hS0 ?_
      rotate_left 1
      · (intro w hSw; (try dsimp only at hSw); go_simp; try with_reducible rfl)
      try simp only [Act.put, Array.toArray_toList, List.setIfInBounds_toArray, List.set_cons_zero, List.set_cons_succ]
      refine anyM_one (i := 1) (by kernel_rfl) rfl (fun K hK => ?_)
      go_simp
      refine (HSR.out _).mono ?_
      rintro e w1 ⟨rfl, hb1⟩
      have hS0 : (fun w' : World => w'.rangeAt w.heap.size 0 (sty zs).toList ∧ w'.cell? ⟨w.heap.size + 1, 1, none⟩ = some (.int .i64 n)) w1 := HSB.out w1 hb1
      have HB1 := Lib.hid (below_then HBX.out hb1)
      clear hb1
      refine hK.out _ _ (fun _ => hS0) ?_
      clear hK K
      try simp only [Act.put, Array.toArray_toList, List.setIfInBounds_toArray, List.set_cons_zero, List.set_cons_succ]
      refine anyM_one (i := 4) (by kernel_rfl) rfl (fun K hK => ?_)
      go_simp
      refine (rpart_calls _ _ _ _).mono ?_
      rintro e w2 ⟨rfl, rfl⟩
      refine hK.out _ _ (fun _ => hS0) ?_
      clear hK K
      try simp only [Act.put, Array.toArray_toList, List.setIfInBounds_toArray, List.set_cons_zero, List.set_cons_succ]
      refine anyM_free (i := 5) (oi := { dst := some 20, op := _, type := _, pos := _, after := _, guard := _ }) (v := ?_) rfl (by kernel_rfl) (fun _ _ _ h => h) (Or.inl ⟨by kernel_rfl, ?_⟩) (fun _ => hS0) ?_
      rotate_left 1
      · (intro w hSw; (try dsimp only at hSw); go_simp; try with_reducible rfl)
      try simp only [Act.put, Array.toArray_toList, List.setIfInBounds_toArray, List.set_cons_zero, List.set_cons_succ]
      refine anyM_free (i := 6) (oi := { dst := some 2, op := _, type := _, pos := _, after := _, guard := _ }) (v := ?_) rfl (by kernel_rfl) (fun _ _ _ h => h) (Or.inl ⟨by kernel_rfl, ?_⟩) (fun _ => hS0) ?_
      rotate_left 1
      · (intro w hSw; (try dsimp only at hSw); go_simp; try with_reducible rfl)
      try simp only [Act.put, Array.toArray_toList, List.setIfInBounds_toArray, List.set_cons_zero, List.set_cons_succ]
      refine anyM_done (by kernel_rfl) ?_ _
      refine NoPanic.normal ?_
      clear hS0

      go_wp2_with fail
      go_ret
      exact ⟨rfl, HB1.out⟩
    · have q4 : (k == 4) = false := by simpa using h4
      rw [if_neg h4]
      clear h4
      go_enter Tryd.func7, Tryd.ntmps7
      go_wp2_with (first | (refine wpList_load_rowI _ _ rfl w.heap.size rfl 28 (sty zs) (0, 0) _ (HBS.out.alloc _) Tryd.underlying28 rfl HSZ.out (by kernel_rfl) ?_) | (go_at_call 24; refine (HSR.out _).mono ?_; rintro e w1 ⟨rfl, hb1⟩; have HB1 := Lib.hid (below_then (below_alloc HB0.out _) hb1); clear hb1) | (go_at_call 23; refine (rpart_calls _ _ _ _).mono ?_; rintro e w2 ⟨rfl, rfl⟩))
      go_ret
      exact ⟨ret_i (by have := part_pos z HS0.out; omega), HB1.out⟩
end Go.Proofs.YtpamfhplklhnpaaDoor
