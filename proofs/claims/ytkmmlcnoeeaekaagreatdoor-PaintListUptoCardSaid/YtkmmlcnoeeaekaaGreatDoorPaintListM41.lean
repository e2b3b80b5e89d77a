/- Several texts in one: PaintE. -/
import Derived.Test.YtkmmlcnoeeaekaaGreatDoorPaintListM40
/- Contract of the reference's fill. -/
namespace Go.Proofs.YtkmmlcnoeeaekaaGreatDoor
open Go.RowKit
set_option linter.unusedVariables false
set_option linter.unusedSimpArgs false
attribute [local go_sem high] run_min2 run_max2

theorem and_bd (c : Int) : 0 ≤ bits .and .i64 c 255 := by rw [and255]; omega
theorem own_setP {w : World} {base : Nat} {e : TypeId} {size n : Nat} {v : Value} {xs : List Value} (h : w.ownsRow base e size v n xs) {b o : Nat} (hb : b < base) (u : Value) : (w.setCell ⟨b, o, none⟩ u).ownsRow base e size v n xs := by
  refine ⟨h.1, ?_⟩
  rcases h.2 with h' | ⟨g, cap, cur, hv, h1, h2, h3⟩
  · exact .inl h'
  · exact .inr ⟨g, cap, cur, hv, h1, (Below.heap_setCell w ⟨b, o, none⟩ u g (by show g ≠ b; omega)).trans h2, h3⟩
/-- What the fill leaves. -/
def RFill (go : Nat) (w : World) (l : List CmdV) (e : Ending) (w' : World) : Prop :=
  e = .returned (.tuple #[]) ∧ ∃ v, Blk w' go 57 #[v] ∧ w'.ownsRow (go + 1) 64 9 v l.length (cmds l) ∧ Below go w w'
set_option maxRecDepth 100000 in
set_option maxHeartbeats 2000000 in
theorem rfill_calls (zs : List Int) (p : Nat) (pI : Int) (hpI : (p : Int) = pI) (x y cw ch : Int) (f : FragV) (gf gs go : Nat) (v : Value) (l : List CmdV) (w : World) (hz : zs.length = 118) (hp : p < 59) (hgf : gf < go) (hgs : gs < go) (hl : l.length ≤ 10) (hF : Blk w gf 88 (fragC f)) (hS : Blk w gs 35 (sty zs)) (hO : Blk w go 57 #[v]) (hown : w.ownsRow (go + 1) 64 9 v l.length (cmds l)) :
    Calls Tryz.prog 95 #[.int .i64 x, .int .i64 y, .int .i64 cw, .int .i64 ch, .int .i64 pI, .pointer (some ⟨gs, 0, none⟩), .pointer (some ⟨go, 0, none⟩), .pointer (some ⟨gf, 0, none⟩)] w (RFill go w (l ++ [fillC f.node x y cw ch (stN zs p)].filter seen)) := by
  subst hpI
  obtain ⟨node, hn⟩ : ∃ n, n = f.node := ⟨_, rfl⟩
  obtain ⟨color, hcol⟩ : ∃ n, n = stN zs p := ⟨_, rfl⟩
  have hpi : (p : Int) < 59 := by omega
  have hp0 : (0 : Int) ≤ (p : Int) := by omega
  have hc0 : w.cell? ⟨gs, p * 2 + 1, none⟩ = some (.int .i64 color) := by rw [hcol]; exact (hS.cell _).trans (sty_at zs _ (by omega))
  have KEEP : ∀ w', Blk w' gf 88 (fragC f) → Blk w' gs 35 (sty zs) → w'.cell? ⟨gf, 1, none⟩ = some (.int .i64 node) ∧ w'.cell? ⟨gs, p * 2 + 1, none⟩ = some (.int .i64 color) := fun w' h1 h2 => ⟨by rw [hn]; exact h1.cell 1, by rw [hcol]; exact (h2.cell _).trans (sty_at zs _ (by omega))⟩
  rw [← hn, ← hcol]
  have KEEP' := Lib.hid KEEP
  have HO := Lib.hid hO
  have HF0 := Lib.hid hF
  have HS0 := Lib.hid hS
  have HOWN := Lib.hid hown
  have hab := and_bd color
  have HSAME : Hid (seen (fillC node x y cw ch color) = false → RFill go w (l ++ [(fillC node x y cw ch color)].filter seen) (.returned (.tuple #[])) w) := fun h => by
    refine ⟨rfl, v, HO.out, ?_, Below.refl _ _⟩
    rw [show [(fillC node x y cw ch color)].filter seen = [] from by simp [h], List.append_nil]; exact HOWN.out
  obtain ⟨i0, hi, hz0, hz1, hz2⟩ := info_parts info_cmd
  clear KEEP hn hcol
  by_cases h1 : 0 < cw
  · by_cases h2 : 0 < ch
    · by_cases h3 : 0 < bits BinOp.and IntKind.i64 color 255
      · have hse : seen (fillC node x y cw ch color) = true := by unfold seen fillC; simp [h1, h2]; omega
        have HFI : Hid ([(fillC node x y cw ch color)].filter seen = [(fillC node x y cw ch color)]) := by show _ = _; simp [hse]
        have hF := hF.drew
        have hS := hS.drew
        have hO := hO.drew
        have hown := hown.drew
        have hbel := (Below.refl go w).drew
        clear hse
        go_enter Tryz.func95, Tryz.ntmps95
        go_wp2_with fail
        refine wp_region_noPanic ?_
        refine wp_region_held_drew (S := fun w' => w'.cell? ⟨gf, 1, none⟩ = some (.int .i64 node) ∧ w'.cell? ⟨gs, p * 2 + 1, none⟩ = some (.int .i64 color)) (by kernel_rfl) (KEEP'.out _ hF hS) (fun hHeld => ?_)
        refine wpAnyH_take (i := 1) (oi := { dst := some 28, op := _, type := _, pos := _, after := _, guard := _ }) (v := ?_) rfl (by kernel_rfl) (by kernel_rfl) (by kernel_rfl) (fun _ _ _ h => h) (Or.inl ⟨by kernel_rfl, ?_⟩) (by assumption) ?_
        rotate_left 1
        · (intro w hSw; (try dsimp only at hSw); go_simp; try with_reducible rfl)
        try simp only [Act.put, Array.toArray_toList, List.setIfInBounds_toArray, List.set_cons_zero, List.set_cons_succ]
        refine wpAnyH_take (i := 2) (oi := { dst := some 29, op := _, type := _, pos := _, after := _, guard := _ }) (v := ?_) rfl (by kernel_rfl) (by kernel_rfl) (by kernel_rfl) (fun _ _ _ h => h) (Or.inl ⟨by kernel_rfl, ?_⟩) (by assumption) ?_
        rotate_left 1
        · (intro w hSw; (try dsimp only at hSw); go_simp; try with_reducible rfl)
        try simp only [Act.put, Array.toArray_toList, List.setIfInBounds_toArray, List.set_cons_zero, List.set_cons_succ]
        refine wpAnyH_take (i := 3) (oi := { dst := some 30, op := _, type := _, pos := _, after := _, guard := _ }) (v := ?_) rfl (by kernel_rfl) (by kernel_rfl) (by kernel_rfl) (fun _ _ _ h => h) (Or.inl ⟨by kernel_rfl, ?_⟩) (by assumption) ?_
        rotate_left 1
        · (intro w hSw; (try dsimp only at hSw); go_simp; try with_reducible rfl)
        try simp only [Act.put, Array.toArray_toList, List.setIfInBounds_toArray, List.set_cons_zero, List.set_cons_succ]
        refine wpAnyH_take (i := 4) (oi := { dst := some 31, op := _, type := _, pos := _, after := _, guard := _ }) (v := ?_) rfl (by kernel_rfl) (by kernel_rfl) (by kernel_rfl) (fun _ _ _ h => h) (Or.inl ⟨by kernel_rfl, ?_⟩) (by assumption) ?_
        rotate_left 1
        · (intro w hSw; (try dsimp only at hSw); go_simp; try with_reducible rfl)
        try simp only [Act.put, Array.toArray_toList, List.setIfInBounds_toArray, List.set_cons_zero, List.set_cons_succ]
        refine wpAnyH_take (i := 5) (oi := { dst := some 32, op := _, type := _, pos := _, after := _, guard := _ }) (v := ?_) rfl (by kernel_rfl) (by kernel_rfl) (by kernel_rfl) (fun _ _ _ h => h) (Or.inl ⟨by kernel_rfl, ?_⟩) (by assumption) ?_
        rotate_left 1
        · (intro w hSw; (try dsimp only at hSw); go_simp; try with_reducible rfl)
        try simp only [Act.put, Array.toArray_toList, List.setIfInBounds_toArray, List.set_cons_zero, List.set_cons_succ]
        refine wpAnyH_take (i := 6) (oi := { dst := some 33, op := _, type := _, pos := _, after := _, guard := _ }) (v := ?_) rfl (by kernel_rfl) (by kernel_rfl) (by kernel_rfl) (fun _ _ _ h => h) (Or.inl ⟨by kernel_rfl, ?_⟩) (by assumption) ?_
        rotate_left 1
        · (intro w hSw; (try dsimp only at hSw); go_simp; try with_reducible rfl)
        try simp only [Act.put, Array.toArray_toList, List.setIfInBounds_toArray, List.set_cons_zero, List.set_cons_succ]
        refine wpAnyH_take (i := 7) (oi := { dst := some 34, op := _, type := _, pos := _, after := _, guard := _ }) (v := ?_) rfl (by kernel_rfl) (by kernel_rfl) (by kernel_rfl) (fun _ _ _ h => h) (Or.inl ⟨by kernel_rfl, ?_⟩) (by assumption) ?_
        rotate_left 1
        · (intro w hSw; (try dsimp only at hSw); go_simp; try with_reducible rfl)
        try simp only [Act.put, Array.toArray_toList, List.setIfInBounds_toArray, List.set_cons_zero, List.set_cons_succ]
        refine wpAnyH_take (i := 8) (oi := { dst := some 35, op := _, type := _, pos := _, after := _, guard := _ }) (v := ?_) rfl (by kernel_rfl) (by kernel_rfl) (by kernel_rfl) (fun _ _ _ h => h) (Or.inl ⟨by kernel_rfl, ?_⟩) (by assumption) ?_
        rotate_left 1
        · (intro w hSw; (try dsimp only at hSw); go_simp; try with_reducible rfl)
        try simp only [Act.put, Array.toArray_toList, List.setIfInBounds_toArray, List.set_cons_zero, List.set_cons_succ]
        refine wpAnyH_take (i := 9) (oi := { dst := some 36, op := _, type := _, pos := _, after := _, guard := _ }) (v := ?_) rfl (by kernel_rfl) (by kernel_rfl) (by kernel_rfl) (fun _ _ _ h => h) (Or.inl ⟨by kernel_rfl, ?_⟩) (by assumption) ?_
        rotate_left 1
        · (intro w hSw; (try dsimp only at hSw); go_simp; try with_reducible rfl)
        try simp only [Act.put, Array.toArray_toList, List.setIfInBounds_toArray, List.set_cons_zero, List.set_cons_succ]
        refine wpAnyH_take (i := 10) (oi := { dst := some 37, op := _, type := _, pos := _, after := _, guard := _ }) (v := ?_) rfl (by kernel_rfl) (by kernel_rfl) (by kernel_rfl) (fun _ _ _ h => h) (Or.inl ⟨by kernel_rfl, ?_⟩) (by assumption) ?_
        rotate_left 1
        · (intro w hSw; (try dsimp only at hSw); go_simp; try with_reducible rfl)
        try simp only [Act.put, Array.toArray_toList, List.setIfInBounds_toArray, List.set_cons_zero, List.set_cons_succ]
        refine wpAnyH_take (i := 11) (oi := { dst := some 38, op := _, type := _, pos := _, after := _, guard := _ }) (v := ?_) rfl (by kernel_rfl) (by kernel_rfl) (by kernel_rfl) (fun _ _ _ h => h) (Or.inl ⟨by kernel_rfl, ?_⟩) (by assumption) ?_
        rotate_left 1
        · (intro w hSw; (try dsimp only at hSw); go_simp; try with_reducible rfl)
        try simp only [Act.put, Array.toArray_toList, List.setIfInBounds_toArray, List.set_cons_zero, List.set_cons_succ]
        refine wpAnyH_ready (rs := [0, 12]) (by kernel_rfl) (by simp) ?_
        refine AllReadyH.cons rfl (fun K hK => ?_) (AllReadyH.cons rfl (fun K hK => ?_) AllReadyH.nil)
        · have q0 : w.drew.cell? ⟨go, 0, none⟩ = some v := hO.cell 0
          go_simp
          refine hK.out _ _ (KEEP'.out _ hF hS) (fun hHeld => ?_)
          clear hK K
          try simp only [Act.put, Array.toArray_toList, List.setIfInBounds_toArray, List.set_cons_zero, List.set_cons_succ]
          clear q0
          refine wpAnyH_ready (rs := [12]) (by kernel_rfl) (by simp) ?_
          refine AllReadyH.cons rfl (fun K hK => ?_) AllReadyH.nil
          go_simp
          have hF := (HF0.out.alloc (.cells #[.int .i64 1, .int .i64 node, .int .i64 x, .int .i64 y, .int .i64 cw, .int .i64 ch, .int .i64 color, .int .i64 0, .string ⟨#[]⟩] 64)).drew
          have hS := (HS0.out.alloc (.cells #[.int .i64 1, .int .i64 node, .int .i64 x, .int .i64 y, .int .i64 cw, .int .i64 ch, .int .i64 color, .int .i64 0, .string ⟨#[]⟩] 64)).drew
          have hO := (HO.out.alloc (.cells #[.int .i64 1, .int .i64 node, .int .i64 x, .int .i64 y, .int .i64 cw, .int .i64 ch, .int .i64 color, .int .i64 0, .string ⟨#[]⟩] 64)).drew
          have hown := (HOWN.out.alloc (.cells #[.int .i64 1, .int .i64 node, .int .i64 x, .int .i64 y, .int .i64 cw, .int .i64 ch, .int .i64 color, .int .i64 0, .string ⟨#[]⟩] 64)).drew
          have hbel := ((Below.refl go w).alloc (Nat.le_of_lt HO.out.lt) (.cells #[.int .i64 1, .int .i64 node, .int .i64 x, .int .i64 y, .int .i64 cw, .int .i64 ch, .int .i64 color, .int .i64 0, .string ⟨#[]⟩] 64)).drew
          refine hK.out _ _ (KEEP'.out _ hF hS) (fun hHeld => ?_)
          clear hK K
          try simp only [Act.put, Array.toArray_toList, List.setIfInBounds_toArray, List.set_cons_zero, List.set_cons_succ]
          refine wpAnyH_ready (rs := [13]) (by kernel_rfl) (by simp) ?_
          refine AllReadyH.cons rfl (fun K hK => ?_) AllReadyH.nil
          refine step_append_lies _ (by rfl) _ _ _ (by rfl) (go + 1) 64 i0 _ 9 80 Tryz.underlying57 hi hz0 hz1 hz2 rfl (by decide) _ _ _ (by rfl) hown ⟨w.heap.size, 0, none⟩ 1 1 (cmdF (fillC node x y cw ch color)) (by rfl) (by rfl) (cells_at w (cmdF (fillC node x y cw ch color)) 64 w.heap.size rfl) (cmdF_one _) (by omega) (by unfold maxLen; omega) (by omega) (by have := HO.out.lt; simp; omega) (w.heap.size + 1) (by simp) ?_
          intro gg cap1 w7 hown7 hgrow hat hlt7
          have hne : ∀ b, b < go + 1 → some b ≠ v.ownBlock := fun b hb e => by have := (hown.lt b e.symm).1; omega
          have hF := hF.grown hgrow (hne _ (by omega))
          have hS := hS.grown hgrow (hne _ (by omega))
          have hO := hO.grown hgrow (hne _ (by omega))
          have hbel := hbel.grown hgrow (by have := HO.out.lt; simp; omega) (fun k hk => by have := (hown.lt k hk).1; omega)
          have q0 : w7.cell? ⟨go, 0, none⟩ = some v := hO.cell 0
          have f0 : w7.frozen? ⟨go, 0, none⟩ = false := hO.free 0
          have HOWN7 := Lib.hid hown7
          clear hgrow hat hne hown hown7
          refine hK.out _ _ (KEEP'.out _ hF hS) (fun hHeld => ?_)
          clear hK K
          try simp only [Act.put, Array.toArray_toList, List.setIfInBounds_toArray, List.set_cons_zero, List.set_cons_succ]
          refine wpAnyH_ready (rs := [14]) (by kernel_rfl) (by simp) ?_
          refine AllReadyH.cons rfl (fun K hK => ?_) AllReadyH.nil
          go_simp
          have hF := hF.far (b := go) (i := 0) (by omega) (.slice (some ⟨gg, 0, none⟩) (l.length + 1) cap1)
          have hS := hS.far (b := go) (i := 0) (by omega) (.slice (some ⟨gg, 0, none⟩) (l.length + 1) cap1)
          have hO := hO.stored 0 (.slice (some ⟨gg, 0, none⟩) (l.length + 1) cap1)
          have hown8 := own_setP HOWN7.out (b := go) (o := 0) (Nat.lt_succ_self _) (.slice (some ⟨gg, 0, none⟩) (l.length + 1) cap1)
          have hbel := hbel.setCell (p := ⟨go, 0, none⟩) (Nat.le_refl _) (.slice (some ⟨gg, 0, none⟩) (l.length + 1) cap1)
          refine hK.out _ _ (KEEP'.out _ hF hS) (fun hHeld => ?_)
          clear hK K
          try simp only [Act.put, Array.toArray_toList, List.setIfInBounds_toArray, List.set_cons_zero, List.set_cons_succ]
          refine wpAnyH_done (by kernel_rfl) ?_ _
          refine NoPanic.normal ?_
          clear q0 f0
          go_wp2_with fail
          go_end0
          refine ⟨rfl, _, hO, ?_, hbel⟩
          rw [HFI.out, List.length_append, cmds_snoc]
          exact hown8
        · go_simp
          have hF := (HF0.out.alloc (.cells #[.int .i64 1, .int .i64 node, .int .i64 x, .int .i64 y, .int .i64 cw, .int .i64 ch, .int .i64 color, .int .i64 0, .string ⟨#[]⟩] 64)).drew
          have hS := (HS0.out.alloc (.cells #[.int .i64 1, .int .i64 node, .int .i64 x, .int .i64 y, .int .i64 cw, .int .i64 ch, .int .i64 color, .int .i64 0, .string ⟨#[]⟩] 64)).drew
          have hO := (HO.out.alloc (.cells #[.int .i64 1, .int .i64 node, .int .i64 x, .int .i64 y, .int .i64 cw, .int .i64 ch, .int .i64 color, .int .i64 0, .string ⟨#[]⟩] 64)).drew
          have hown := (HOWN.out.alloc (.cells #[.int .i64 1, .int .i64 node, .int .i64 x, .int .i64 y, .int .i64 cw, .int .i64 ch, .int .i64 color, .int .i64 0, .string ⟨#[]⟩] 64)).drew
          have hbel := ((Below.refl go w).alloc (Nat.le_of_lt HO.out.lt) (.cells #[.int .i64 1, .int .i64 node, .int .i64 x, .int .i64 y, .int .i64 cw, .int .i64 ch, .int .i64 color, .int .i64 0, .string ⟨#[]⟩] 64)).drew
          refine hK.out _ _ (KEEP'.out _ hF hS) (fun hHeld => ?_)
          clear hK K
          try simp only [Act.put, Array.toArray_toList, List.setIfInBounds_toArray, List.set_cons_zero, List.set_cons_succ]
          refine wpAnyH_ready (rs := [0]) (by kernel_rfl) (by simp) ?_
          refine AllReadyH.cons rfl (fun K hK => ?_) AllReadyH.nil
          have q0 : ((w.alloc (.cells #[.int .i64 1, .int .i64 node, .int .i64 x, .int .i64 y, .int .i64 cw, .int .i64 ch, .int .i64 color, .int .i64 0, .string ⟨#[]⟩] 64)).drew).cell? ⟨go, 0, none⟩ = some v := hO.cell 0
          go_simp
          refine hK.out _ _ (KEEP'.out _ hF hS) (fun hHeld => ?_)
          clear hK K
          try simp only [Act.put, Array.toArray_toList, List.setIfInBounds_toArray, List.set_cons_zero, List.set_cons_succ]
          clear q0
          refine wpAnyH_ready (rs := [13]) (by kernel_rfl) (by simp) ?_
          refine AllReadyH.cons rfl (fun K hK => ?_) AllReadyH.nil
          refine step_append_lies _ (by rfl) _ _ _ (by rfl) (go + 1) 64 i0 _ 9 80 Tryz.underlying57 hi hz0 hz1 hz2 rfl (by decide) _ _ _ (by rfl) hown ⟨w.heap.size, 0, none⟩ 1 1 (cmdF (fillC node x y cw ch color)) (by rfl) (by rfl) (cells_at w (cmdF (fillC node x y cw ch color)) 64 w.heap.size rfl) (cmdF_one _) (by omega) (by unfold maxLen; omega) (by omega) (by have := HO.out.lt; simp; omega) (w.heap.size + 1) (by simp) ?_
          intro gg cap1 w7 hown7 hgrow hat hlt7
          have hne : ∀ b, b < go + 1 → some b ≠ v.ownBlock := fun b hb e => by have := (hown.lt b e.symm).1; omega
          have hF := hF.grown hgrow (hne _ (by omega))
          have hS := hS.grown hgrow (hne _ (by omega))
          have hO := hO.grown hgrow (hne _ (by omega))
          have hbel := hbel.grown hgrow (by have := HO.out.lt; simp; omega) (fun k hk => by have := (hown.lt k hk).1; omega)
          have q0 : w7.cell? ⟨go, 0, none⟩ = some v := hO.cell 0
          have f0 : w7.frozen? ⟨go, 0, none⟩ = false := hO.free 0
          have HOWN7 := Lib.hid hown7
          clear hgrow hat hne hown hown7
          refine hK.out _ _ (KEEP'.out _ hF hS) (fun hHeld => ?_)
          clear hK K
          try simp only [Act.put, Array.toArray_toList, List.setIfInBounds_toArray, List.set_cons_zero, List.set_cons_succ]
          refine wpAnyH_ready (rs := [14]) (by kernel_rfl) (by simp) ?_
          refine AllReadyH.cons rfl (fun K hK => ?_) AllReadyH.nil
          go_simp
          have hF := hF.far (b := go) (i := 0) (by omega) (.slice (some ⟨gg, 0, none⟩) (l.length + 1) cap1)
          have hS := hS.far (b := go) (i := 0) (by omega) (.slice (some ⟨gg, 0, none⟩) (l.length + 1) cap1)
          have hO := hO.stored 0 (.slice (some ⟨gg, 0, none⟩) (l.length + 1) cap1)
          have hown8 := own_setP HOWN7.out (b := go) (o := 0) (Nat.lt_succ_self _) (.slice (some ⟨gg, 0, none⟩) (l.length + 1) cap1)
          have hbel := hbel.setCell (p := ⟨go, 0, none⟩) (Nat.le_refl _) (.slice (some ⟨gg, 0, none⟩) (l.length + 1) cap1)
          refine hK.out _ _ (KEEP'.out _ hF hS) (fun hHeld => ?_)
          clear hK K
          try simp only [Act.put, Array.toArray_toList, List.setIfInBounds_toArray, List.set_cons_zero, List.set_cons_succ]
          refine wpAnyH_done (by kernel_rfl) ?_ _
          refine NoPanic.normal ?_
          clear q0 f0
          go_wp2_with fail
          go_end0
          refine ⟨rfl, _, hO, ?_, hbel⟩
          rw [HFI.out, List.length_append, cmds_snoc]
          exact hown8
      · have h3' : bits BinOp.and IntKind.i64 color 255 ≤ 0 := by omega
        have hse : seen (fillC node x y cw ch color) = false := by
          have : bits BinOp.and IntKind.i64 color 255 = 0 := by omega
          unfold seen fillC; simp [this]
        have HS2 := Lib.hid (HSAME.out hse)
        clear hse hF hS hO hown h3
        go_enter Tryz.func95, Tryz.ntmps95
        go_wp2_with fail
        go_end0
        exact HS2.out
    · have hse : seen (fillC node x y cw ch color) = false := by unfold seen fillC; simp [h2]
      have HS2 := Lib.hid (HSAME.out hse)
      clear hse hF hS hO hown
      go_enter Tryz.func95, Tryz.ntmps95
      go_wp2_with fail
      go_end0
      exact HS2.out
  · have hse : seen (fillC node x y cw ch color) = false := by unfold seen fillC; simp [h1]
    have HS2 := Lib.hid (HSAME.out hse)
    clear hse hF hS hO hown
    go_enter Tryz.func95, Tryz.ntmps95
    go_wp2_with fail
    go_end0
    exact HS2.out
end Go.Proofs.YtkmmlcnoeeaekaaGreatDoor
