/- The reference's bound, Rim, Wide. -/
import Derived.Test.YtpinfaoeggipmaaWide
namespace Go.Proofs.Ytpinfaoeggipmaa
open Go.RowKit
set_option linter.unusedVariables false
set_option linter.unusedSimpArgs false
attribute [local go_sem high] run_min2 run_max2

set_option maxRecDepth 100000 in
set_option maxHeartbeats 1000000 in
theorem rtold_calls (zs : List Int) (p room rim : Int) (parts : Bool) (gs gr gp gm : Nat) (w : World) (hz : zs.length = 118) (h0 : 0 ≤ p) (h1 : p < 59) (hr0 : 0 ≤ rim) (hr1 : rim ≤ 67108864)
    (hS : Blk w gs 38 (sty zs)) (hR : Blk w gr 3 #[.int .i64 room]) (hP : Blk w gp 4 #[.bool parts]) (hM : Blk w gm 3 #[.int .i64 rim]) :
    Calls Try.prog 88 #[.int .i64 p, .pointer (some ⟨gs, 0, none⟩), .pointer (some ⟨gr, 0, none⟩), .pointer (some ⟨gp, 0, none⟩), .pointer (some ⟨gm, 0, none⟩)] w fun e w' => e = .returned (.tuple #[.int .i64 (tv zs p room rim parts), .bool (ti zs p parts)]) ∧ Below w.heap.size w w' := by
  show Calls _ _ _ _ fun e w' => e = .returned (.tuple #[.int .i64 (tellV (stK zs p.toNat) (stN zs p.toNat) (stN zs 4) room rim parts), .bool (tellIs (stK zs p.toNat) parts)]) ∧ Below w.heap.size w w'
  obtain ⟨m, rfl⟩ : ∃ m : Nat, p = m := ⟨p.toNat, by omega⟩
  have hm : m * 2 + 1 < zs.length := by omega
  have hm0 : (0 : Int) ≤ (m : Int) := h0
  rw [Int.toNat_natCast]
  obtain ⟨o0, o1⟩ := ofN_bd (stK zs m) (stN zs m) room
  have KEEP : ∀ w', Below w.heap.size w w' → w'.cell? ⟨gs, m * 2, none⟩ = some (.int .i64 (stK zs m)) ∧ w'.cell? ⟨gs, m * 2 + 1, none⟩ = some (.int .i64 (stN zs m)) ∧ w'.cell? ⟨gr, 0, none⟩ = some (.int .i64 room) := fun w' hb => ⟨((hS.below hb hS.lt).cell _).trans (sty_at zs _ (by omega)), ((hS.below hb hS.lt).cell _).trans (sty_at zs _ (by omega)), (hR.below hb hR.lt).cell 0⟩
  have KEEP' := Lib.hid KEEP
  clear KEEP
  have hbx := (Below.refl w.heap.size w).drew
  have HS := Lib.hid hS
  have HR := Lib.hid hR
  have HP := Lib.hid hP
  have HM := Lib.hid hM
  clear hS hR hP hM
  go_enter Try.func88, Try.ntmps88
  go_wp2_with fail
  refine wp_region_noPanic ?_
  refine wp_region_held_drew (S := fun w' => w'.cell? ⟨gs, m * 2, none⟩ = some (.int .i64 (stK zs m)) ∧ w'.cell? ⟨gs, m * 2 + 1, none⟩ = some (.int .i64 (stN zs m)) ∧ w'.cell? ⟨gr, 0, none⟩ = some (.int .i64 room)) (by kernel_rfl) (KEEP'.out _ hbx) (fun hHeld => ?_)
  refine wpAnyH_take (i := 0) (oi := { dst := some 11, op := _, type := _, pos := _, after := _, guard := _ }) (v := ?_) rfl (by kernel_rfl) (by kernel_rfl) (by kernel_rfl) (fun _ _ _ h => h) (Or.inl ⟨by kernel_rfl, ?_⟩) (by assumption) ?_
  rotate_left 1
  · (intro w hSw; (try dsimp only at hSw); go_simp; try with_reducible rfl)
  try simp only [Act.put, Array.toArray_toList, List.setIfInBounds_toArray, List.set_cons_zero, List.set_cons_succ]
  refine wpAnyH_take (i := 1) (oi := { dst := some 12, op := _, type := _, pos := _, after := _, guard := _ }) (v := ?_) rfl (by kernel_rfl) (by kernel_rfl) (by kernel_rfl) (fun _ _ _ h => h) (Or.inl ⟨by kernel_rfl, ?_⟩) (by assumption) ?_
  rotate_left 1
  · (intro w hSw; (try dsimp only at hSw); go_simp; try with_reducible rfl)
  try simp only [Act.put, Array.toArray_toList, List.setIfInBounds_toArray, List.set_cons_zero, List.set_cons_succ]
  refine wpAnyH_take (i := 2) (oi := { dst := some 13, op := _, type := _, pos := _, after := _, guard := _ }) (v := ?_) rfl (by kernel_rfl) (by kernel_rfl) (by kernel_rfl) (fun _ _ _ h => h) (Or.inl ⟨by kernel_rfl, ?_⟩) (by assumption) ?_
  rotate_left 1
  · (intro w hSw; (try dsimp only at hSw); go_simp; try with_reducible rfl)
  try simp only [Act.put, Array.toArray_toList, List.setIfInBounds_toArray, List.set_cons_zero, List.set_cons_succ]
  refine wpAnyH_take (i := 3) (oi := { dst := some 14, op := _, type := _, pos := _, after := _, guard := _ }) (v := ?_) rfl (by kernel_rfl) (by kernel_rfl) (by kernel_rfl) (fun _ _ _ h => h) (Or.inl ⟨by kernel_rfl, ?_⟩) (by assumption) ?_
  rotate_left 1
  · (intro w hSw; (try dsimp only at hSw); go_simp; try with_reducible rfl)
  try simp only [Act.put, Array.toArray_toList, List.setIfInBounds_toArray, List.set_cons_zero, List.set_cons_succ]
  refine wpAnyH_ready (rs := [4]) (by kernel_rfl) (by simp) ?_
  refine AllReadyH.cons rfl (fun K hK => ?_) AllReadyH.nil
  go_simp
  refine (rof_calls _ _ _ _).mono ?_
  rintro e w' ⟨rfl, rfl⟩
  have hbx := hbx.alloc hbx.size (.cells #[.int .i64 (stK zs m), .int .i64 (stN zs m)] 30)
  refine hK.out _ _ (KEEP'.out _ hbx) (fun hHeld => ?_)
  clear hK K
  try simp only [Act.put, Array.toArray_toList, List.setIfInBounds_toArray, List.set_cons_zero, List.set_cons_succ]
  refine wpAnyH_take (i := 5) (oi := { dst := some 10, op := _, type := _, pos := _, after := _, guard := _ }) (v := ?_) rfl (by kernel_rfl) (by kernel_rfl) (by kernel_rfl) (fun _ _ _ h => h) (Or.inl ⟨by kernel_rfl, ?_⟩) (by assumption) ?_
  rotate_left 1
  · (intro w hSw; (try dsimp only at hSw); go_simp; try with_reducible rfl)
  try simp only [Act.put, Array.toArray_toList, List.setIfInBounds_toArray, List.set_cons_zero, List.set_cons_succ]
  refine wpAnyH_take (i := 6) (oi := { dst := some 16, op := _, type := _, pos := _, after := _, guard := _ }) (v := ?_) rfl (by kernel_rfl) (by kernel_rfl) (by kernel_rfl) (fun _ _ _ h => h) (Or.inl ⟨by kernel_rfl, ?_⟩) (by assumption) ?_
  rotate_left 1
  · (intro w hSw; (try dsimp only at hSw); go_simp; try with_reducible rfl)
  try simp only [Act.put, Array.toArray_toList, List.setIfInBounds_toArray, List.set_cons_zero, List.set_cons_succ]
  refine wpAnyH_take (i := 7) (oi := { dst := some 17, op := _, type := _, pos := _, after := _, guard := _ }) (v := ?_) rfl (by kernel_rfl) (by kernel_rfl) (by kernel_rfl) (fun _ _ _ h => h) (Or.inl ⟨by kernel_rfl, ?_⟩) (by assumption) ?_
  rotate_left 1
  · (intro w hSw; (try dsimp only at hSw); go_simp; try with_reducible rfl)
  try simp only [Act.put, Array.toArray_toList, List.setIfInBounds_toArray, List.set_cons_zero, List.set_cons_succ]
  refine wpAnyH_take (i := 8) (oi := { dst := some 8, op := _, type := _, pos := _, after := _, guard := _ }) (v := ?_) rfl (by kernel_rfl) (by kernel_rfl) (by kernel_rfl) (fun _ _ _ h => h) (Or.inl ⟨by kernel_rfl, ?_⟩) (by assumption) ?_
  rotate_left 1
  · (intro w hSw; (try dsimp only at hSw); go_simp; try with_reducible rfl)
  try simp only [Act.put, Array.toArray_toList, List.setIfInBounds_toArray, List.set_cons_zero, List.set_cons_succ]
  refine wpAnyH_take (i := 9) (oi := { dst := some 9, op := _, type := _, pos := _, after := _, guard := _ }) (v := ?_) rfl (by kernel_rfl) (by kernel_rfl) (by kernel_rfl) (fun _ _ _ h => h) (Or.inl ⟨by kernel_rfl, ?_⟩) (by assumption) ?_
  rotate_left 1
  · (intro w hSw; (try dsimp only at hSw); go_simp; try with_reducible rfl)
  try simp only [Act.put, Array.toArray_toList, List.setIfInBounds_toArray, List.set_cons_zero, List.set_cons_succ]
  refine wpAnyH_done (by kernel_rfl) ?_ _
  refine NoPanic.normal ?_
  generalize hW : World.alloc (World.drew _) _ = w2 at hbx ⊢
  have c0 : w2.cell? ⟨gs, m * 2, none⟩ = some (.int .i64 (stK zs m)) := ((HS.out.below hbx HS.out.lt).cell _).trans (sty_at zs _ (by omega))
  have c2 : w2.cell? ⟨gs, 9, none⟩ = some (.int .i64 (stN zs 4)) := ((HS.out.below hbx HS.out.lt).cell _).trans (sty_at zs 9 (by omega))
  have c4 : w2.cell? ⟨gm, 0, none⟩ = some (.int .i64 rim) := (HM.out.below hbx HM.out.lt).cell 0
  have c5 : w2.cell? ⟨gp, 0, none⟩ = some (.bool parts) := (HP.out.below hbx HP.out.lt).cell 0
  have hbel := Lib.hid hbx
  clear hbx KEEP' hW
  obtain ⟨k, hk⟩ : ∃ k, k = stK zs m := ⟨_, rfl⟩
  obtain ⟨n, hn⟩ : ∃ n, n = stN zs m := ⟨_, rfl⟩
  obtain ⟨sz, hs⟩ : ∃ sz, sz = stN zs 4 := ⟨_, rfl⟩
  rw [← hk] at c0
  rw [← hs] at c2
  rw [← hk, ← hn] at o0 o1
  rw [← hk, ← hn]
  have HK := Lib.hid hk
  have HN := Lib.hid hn
  have HZ := Lib.hid hs
  clear hk hn hs
  by_cases h2 : k = 2
  · subst h2
    have hI : ofIs 2 = true := rfl
    by_cases hsz : sz = 1
    · subst hsz
      go_wp2_with fail
      go_ret2
      exact ⟨ret_ib (by simp [tellV, ← HK.out, ← HN.out, ← HZ.out, tellIs, tellN]) (by simp [← HK.out, tellIs]), hbel.out⟩
    · have esz : (sz == 1) = false := by simpa using hsz
      go_wp2_with fail
      go_ret2
      exact ⟨ret_ib (by simp [tellV, ← HK.out, ← HN.out, ← HZ.out, tellIs, tellN, hsz]) (by simp [← HK.out, tellIs, hsz]), hbel.out⟩
  · by_cases h3 : k = 3
    · subst h3
      have hI : ofIs 3 = true := rfl
      cases parts
      · skip
        go_wp2_with fail
        go_ret2
        exact ⟨ret_ib (by simp [tellV, ← HK.out, ← HN.out, ← HZ.out, tellIs, tellN]) (by simp [← HK.out, tellIs]), hbel.out⟩
      · skip
        by_cases hsz : sz = 1
        · subst hsz
          go_wp2_with fail
          go_ret2
          exact ⟨ret_ib (by simp [tellV, ← HK.out, ← HN.out, ← HZ.out, tellIs, tellN]) (by simp [← HK.out, tellIs]), hbel.out⟩
        · have esz : (sz == 1) = false := by simpa using hsz
          go_wp2_with fail
          go_ret2
          exact ⟨ret_ib (by simp [tellV, ← HK.out, ← HN.out, ← HZ.out, tellIs, tellN, hsz]) (by simp [← HK.out, tellIs, hsz]), hbel.out⟩
    · have hI : ofIs k = false := by simp [ofIs, h2, h3]
      go_wp2_with fail
      go_ret2
      exact ⟨ret_ib (by simp [tellV, ← HK.out, ← HN.out, ← HZ.out, tellIs, tellN, h2, h3]) (by simp [← HK.out, tellIs, h2, h3]), hbel.out⟩

theorem bnd2_r (a b c d n : Int) (i j : Bool) : bnd2 i a j b n = max 0 (if j = true ∧ (if i = true ∧ a < n then a else n) < b then b else if i = true ∧ a < n then a else n) := by
  unfold bnd2
  cases i <;> cases j <;> simp <;> omega
set_option maxRecDepth 100000 in
set_option maxHeartbeats 2000000 in
theorem rbound_calls (zs : List Int) (size least most room rim other : Int) (parts : Bool) (w : World) (hz : zs.length = 118) (hs0 : 0 ≤ size) (hs1 : size < 59) (hl0 : 0 ≤ least) (hl1 : least < 59) (hm0 : 0 ≤ most) (hm1 : most < 59) (hr0 : 0 ≤ rim) (hr1 : rim ≤ 67108864) :
    Calls Try.prog 68 #[.agg (sty zs), .int .i64 size, .int .i64 least, .int .i64 most, .int .i64 room, .int .i64 rim, .int .i64 other, .bool parts] w fun e w' => e = .returned (.int .i64 (toldN zs room rim parts size least most other)) ∧ Below w.heap.size w w' := by
  have hS := Blk.new w 38 (sty zs)
  have hR := Blk.new (w.alloc (.cells (sty zs) 38)) 3 #[.int .i64 room]
  have hM := Blk.new ((w.alloc (.cells (sty zs) 38)).alloc (.cells #[.int .i64 room] 3)) 3 #[.int .i64 rim]
  have hP := Blk.new (((w.alloc (.cells (sty zs) 38)).alloc (.cells #[.int .i64 room] 3)).alloc (.cells #[.int .i64 rim] 3)) 4 #[.bool parts]
  simp only [alloc_size] at hR hM hP
  have hS := ((hS.alloc (.cells #[.int .i64 room] 3)).alloc (.cells #[.int .i64 rim] 3)).alloc (.cells #[.bool parts] 4)
  have hR := (hR.alloc (.cells #[.int .i64 rim] 3)).alloc (.cells #[.bool parts] 4)
  have hM := hM.alloc (.cells #[.bool parts] 4)
  have hbel := below_alloc (below_alloc (below_alloc (below_alloc (Below.refl _ w) (.cells (sty zs) 38)) (.cells #[.int .i64 room] 3)) (.cells #[.int .i64 rim] 3)) (.cells #[.bool parts] 4)
  have HT := Lib.hid (fun p w gs gr gp gm h0 h1 hS hR hP hM => rtold_calls zs p room rim parts gs gr gp gm w hz h0 h1 hr0 hr1 hS hR hP hM)
  obtain ⟨i1, hi1⟩ : ∃ x, x = ti zs size parts := ⟨_, rfl⟩
  obtain ⟨i2, hi2⟩ : ∃ x, x = ti zs most parts := ⟨_, rfl⟩
  obtain ⟨i3, hi3⟩ : ∃ x, x = ti zs least parts := ⟨_, rfl⟩
  obtain ⟨v1, hv1⟩ : ∃ x, x = tv zs size room rim parts := ⟨_, rfl⟩
  obtain ⟨v2, hv2⟩ : ∃ x, x = tv zs most room rim parts := ⟨_, rfl⟩
  obtain ⟨v3, hv3⟩ : ∃ x, x = tv zs least room rim parts := ⟨_, rfl⟩
  have hb1 := tv_bd zs size room rim parts hr0 hr1
  have HI := Lib.hid (show (tv zs size room rim parts = v1 ∧ ti zs size parts = i1) ∧ (tv zs most room rim parts = v2 ∧ ti zs most parts = i2) ∧ (tv zs least room rim parts = v3 ∧ ti zs least parts = i3) from ⟨⟨hv1.symm, hi1.symm⟩, ⟨hv2.symm, hi2.symm⟩, ⟨hv3.symm, hi3.symm⟩⟩)
  clear hi1 hi2 hi3 hv1 hv2 hv3 hb1
  go_enter Try.func68, Try.ntmps68
  go_wp2_with (first | (go_at_call 88; refine (HT.out _ _ _ _ _ _ (by omega) (by omega) hS hR hP hM).mono ?_; rintro e w1 ⟨rfl, hb1⟩; have hS := hS.below hb1 hS.lt; have hR := hR.below hb1 hR.lt; have hP := hP.below hb1 hP.lt; have hM := hM.below hb1 hM.lt; have hbel := below_then hbel hb1))
  all_goals (go_ret; exact ⟨ret_int (by clear HT HI hS hR hP hM; unfold toldN boundN bnd2; simp [*]; try omega), hbel⟩)
end Go.Proofs.Ytpinfaoeggipmaa
