/- Contract of table.cells. -/
import Derived.Test.YtkppignoomnmdaaCellPlain
import Derived.Test.YtkppignoomnmdaaTabA
import Derived.Test.YtkppignoomnmdaaApart
import Derived.Deep.QuietTactic
import Derived.BigQuiet
namespace Go.Proofs.Ytkppignoomnmdaa
open Go.RowKit
set_option linter.unusedVariables false
set_option linter.unusedSimpArgs false
attribute [local go_sem high] run_min2 run_max2

theorem info_cell : (Try.prog.info? 107).map (fun i => (i.zero, i.size, i.bytes)) = some (some (.agg (cellF CellV.zero).toArray), 4, 32) := by kernel_rfl
theorem cells_atT (w : World) (cs : List Value) (t : TypeId) (g : Nat) (hg : w.heap.size = g) : ∀ j u, cs[j]? = some u → (w.alloc (.cells cs.toArray t)).cell? ((⟨g, 0, none⟩ : Addr).add j) = some u := by
  subst hg
  intro j u hj
  have e : (⟨w.heap.size, 0, none⟩ : Addr).add j = ⟨w.heap.size, j, none⟩ := by unfold Addr.add; split <;> simp_all
  rw [e, new_cell]; simpa using hj
theorem cells_snoc (out : List CellV) (c : CellV) : (out ++ [c]).flatMap cellF = out.flatMap cellF ++ cellF c := by simp
theorem cells_fl (out : List CellV) : (out.flatMap cellF).length = out.length * 4 := by
  induction out with
  | nil => rfl
  | cons c out ih => simp only [List.flatMap_cons, List.length_append, ih, List.length_cons]; show 4 + _ = _; omega
theorem cellF_one (c : CellV) : ∀ u ∈ cellF c, u.oneCell' = true := by simp [cellF, Value.oneCell']
/-- Before row k. -/
def LoopO (w : World) (rs : List RowV) (T : List CellV) (M : Nat) (v m i : Value) (wr : World) : Prop :=
  ∃ (k mm : Nat) (out : List CellV), k ≤ rs.length ∧ i = .int .i64 k ∧ m = .int .i64 mm ∧ wr.ownsRow w.heap.size 107 4 v out.length (out.flatMap cellF) ∧ out.length ≤ 100 * k ∧ mm ≤ 100 ∧
    Hid (out ++ cellsOf ((rs.map RowV.cells).drop k) = T ∧ max mm (manyOf ((rs.map RowV.cells).drop k)) = M) ∧ Below w.heap.size w wr
/-- Within row k, before its cell j. -/
def LoopI (w : World) (k : Nat) (r : List LCellV) (T : List CellV) (E : Nat) (v a i : Value) (wr : World) : Prop :=
  ∃ (j p : Nat) (out : List CellV), j ≤ r.length ∧ i = .int .i64 j ∧ a = .int .i64 p ∧ wr.ownsRow w.heap.size 107 4 v out.length (out.flatMap cellF) ∧ out.length ≤ 100 * k + p ∧ p ≤ 100 ∧
    Hid (out ++ rowCells p (r.drop j) = T ∧ rowEnd p (r.drop j) = E) ∧ Below w.heap.size w wr
set_option maxRecDepth 100000 in
set_option maxHeartbeats 4000000 in
theorem cells_calls (A : Option Addr) (n c B : Nat) (rs : List RowV) (w : World) (hn : rs.length = n) (h : RowsAt w B A rs) (hB : B ≤ w.heap.size) (hm : n ≤ 1000) :
    Calls Try.prog 74 #[.slice A n c] w fun e w' => ∃ v, e = .returned (.tuple #[v, .int .i64 (manyOf (rs.map RowV.cells))]) ∧ w'.ownsRow w.heap.size 107 4 v (cellsOf (rs.map RowV.cells)).length ((cellsOf (rs.map RowV.cells)).flatMap cellF) ∧ Below w.heap.size w w' := by
  subst hn
  obtain ⟨i0, hi, hz0, hz1, hz2⟩ := info_parts info_cell
  have H := Lib.hid h
  obtain ⟨T, hT⟩ : ∃ T, T = cellsOf (rs.map RowV.cells) := ⟨_, rfl⟩
  obtain ⟨M, hM⟩ : ∃ M, M = manyOf (rs.map RowV.cells) := ⟨_, rfl⟩
  rw [← hT, ← hM]
  have HST : Hid (([] : List CellV) ++ cellsOf ((rs.map RowV.cells).drop 0) = T ∧ max 0 (manyOf ((rs.map RowV.cells).drop 0)) = M) := ⟨by rw [List.drop_zero, ← hT]; rfl, by rw [List.drop_zero, ← hM]; omega⟩
  clear h hT hM
  go_enter Try.func74, Try.ntmps74
  go_wp2_with fail
  go_loopw [2, 3, 12] (fun v m i wr => LoopO w rs T M v m i wr) (fun _ _ i _ => rs.length - (intOf i).toNat)
  case atStart => exact ⟨0, 0, [], Nat.zero_le _, rfl, rfl, World.ownsRow_nil _ _ _ _, by simp, by omega, HST.out, Below.refl _ _⟩
  case round =>
    obtain ⟨k, mm, out, hk, rfl, rfl, hown, hlen, hmm, HTT, hbel⟩ := hrel
    obtain ⟨A1, C1, rfl⟩ := own_open hown
    by_cases hlt : k < rs.length
    · obtain ⟨b', off', e', hb', c', hrow, hl'⟩ := H.out k hlt
      clear e' hb' c' hl'
      obtain ⟨b, off, rfl, hb, c0, _, hrl⟩ := H.out.below hbel hB k hlt
      have HE : Hid ((rs.map RowV.cells).getD k [] = (rowOf rs k).cells) := by show _ = _; simp [rowOf, List.getD, hlt]
      obtain ⟨⟨ra, rc, r⟩, hr⟩ : ∃ r, r = rowOf rs k := ⟨_, rfl⟩
      rw [← hr] at c0 hrow hrl HE
      simp only at c0 hrow hrl HE
      have hR := Lib.hid hrow
      have hkl : k < (rs.map RowV.cells).length := by simpa using hlt
      have HC2 : Hid (cellsOf ((rs.map RowV.cells).drop k) = rowCells 0 r ++ cellsOf ((rs.map RowV.cells).drop (k + 1))) := by show _ = _; rw [cellsOf_drop _ hkl, HE.out]
      have HM2 : Hid (manyOf ((rs.map RowV.cells).drop k) = max (rowEnd 0 r) (manyOf ((rs.map RowV.cells).drop (k + 1)))) := by show _ = _; rw [manyOf_drop _ hkl, HE.out]
      obtain ⟨T2, hT2⟩ : ∃ x, x = out ++ rowCells 0 r := ⟨_, rfl⟩
      obtain ⟨E2, hE2⟩ : ∃ x, x = rowEnd 0 r := ⟨_, rfl⟩
      have HSI : Hid (out ++ rowCells 0 (r.drop 0) = T2 ∧ rowEnd 0 (r.drop 0) = E2) := ⟨by rw [List.drop_zero, hT2], by rw [List.drop_zero, hE2]⟩
      have hE9 : E2 ≤ 100 := by rw [hE2]; exact (rowEnd_le r 0 (by omega)).2
      have HTN : Hid (T2 ++ cellsOf ((rs.map RowV.cells).drop (k + 1)) = T) := by show _ = _; rw [hT2, List.append_assoc, ← HC2.out]; exact HTT.out.1
      have HMN : Hid (max (max mm E2) (manyOf ((rs.map RowV.cells).drop (k + 1))) = M) := by show _ = _; rw [← HTT.out.2, HM2.out, hE2]; omega
      have HOW := Lib.hid hown
      have HB1 := Lib.hid hbel
      have KK := Lib.hid (show k ≤ rs.length ∧ k < rs.length from ⟨hk, hlt⟩)
      have hk9 : k ≤ 1000 := by omega
      clear hown hbel hr hrow hT2 hE2 HTT HC2 HM2 HE
      go_wp2_with fail
      clear c0
      go_loopw [2, 6, 18] (fun v a i wr => LoopI w k r T2 E2 v a i wr) (fun _ _ i _ => r.length - (intOf i).toNat)
      case atStart => exact ⟨0, 0, out, Nat.zero_le _, rfl, rfl, HOW.out, by omega, by omega, HSI.out, HB1.out⟩
      case round =>
        obtain ⟨j, p, out, hj, rfl, rfl, hown, hlen, hp, HTT, hbel⟩ := hrel
        obtain ⟨A1, C1, rfl⟩ := own_open hown
        have hw := hbel.size
        by_cases hlt2 : j < r.length
        · obtain ⟨b2, off2, rfl, hb2, hc⟩ := lcells_flat r wr B ra (hR.out.below hbel hB) hlt2
          obtain ⟨⟨xl, xm, xs⟩, hx⟩ : ∃ x, x = r.getD j LCellV.zero := ⟨_, rfl⟩
          rw [← hx] at hc
          have t0 : wr.cell? ⟨b2, off2 + j * 3, none⟩ = some (.int .i64 xl) := hc 0 _ rfl
          have t1 : wr.cell? ⟨b2, off2 + j * 3 + 1, none⟩ = some (.int .i64 xm) := hc 1 _ rfl
          have t2 : wr.cell? ⟨b2, off2 + j * 3 + 2, none⟩ = some (.int .i64 xs) := hc 2 _ rfl
          clear hc
          by_cases hfull : 100 ≤ p
          · have HRE : Hid (out = T2 ∧ p = E2) := ⟨by rw [← HTT.out.1, rowCells_full hfull, List.append_nil], by rw [← HTT.out.2, rowEnd_full hfull]⟩
            have HX := Lib.hid hx
            clear hx
            go_wp2_with fail
            exact ⟨⟨k + 1, max mm p, out, by have := KK.out; omega, by go_num, by rw [show ((max mm p : Nat) : Int) = max (mm : Int) (p : Int) by omega], hown.alloc _, by omega, by omega, ⟨by rw [HRE.out.1]; exact HTN.out, by rw [HRE.out.2]; exact HMN.out⟩, below_alloc hbel _⟩, by have := KK.out; simp [intOf]; omega⟩
          · have hpl : p < 100 := by omega
            have HCD := Lib.hid (rowCells_drop r hlt2 hpl)
            have HED := Lib.hid (rowEnd_drop r hlt2 hpl)
            rw [← hx] at HCD HED
            have hsb := spanAt_bd p xs hpl
            have hsi := spanAt_int p xs hpl
            have HMK : Hid (mkCell p ⟨xl, xm, xs⟩ = ⟨max 0 (cut xl), max (cut xm) (max 0 (cut xl)), p, spanAt p xs⟩) := rfl
            simp only at HCD HED
            obtain ⟨sp, hsp⟩ : ∃ x, x = spanAt p xs := ⟨_, rfl⟩
            rw [← hsp] at HCD HED HMK hsb hsi
            have QQ := Lib.hid (show j ≤ r.length ∧ j < r.length from ⟨hj, hlt2⟩)
            have HOW2 := Lib.hid hown
            have HB2 := Lib.hid hbel
            have hX := (Blk.new wr 114 #[.int .i64 xl, .int .i64 xm, .int .i64 xs]).drew
            have hS0 : (fun w' : World => w'.cell? ⟨wr.heap.size, 0, none⟩ = some (.int .i64 xl) ∧ w'.cell? ⟨wr.heap.size, 1, none⟩ = some (.int .i64 xm) ∧ w'.cell? ⟨wr.heap.size, 2, none⟩ = some (.int .i64 xs)) (wr.alloc (.cells #[.int .i64 xl, .int .i64 xm, .int .i64 xs] 114)).drew := ⟨hX.cell 0, hX.cell 1, hX.cell 2⟩
            have hX0 := Blk.new wr 114 #[.int .i64 xl, .int .i64 xm, .int .i64 xs]
            have hYS : ∀ o, (fun w' : World => w'.cell? ⟨wr.heap.size, 0, none⟩ = some (.int .i64 xl) ∧ w'.cell? ⟨wr.heap.size, 1, none⟩ = some (.int .i64 xm) ∧ w'.cell? ⟨wr.heap.size, 2, none⟩ = some (.int .i64 xs)) (((wr.alloc (.cells #[.int .i64 xl, .int .i64 xm, .int .i64 xs] 114)).alloc o)).drew := fun o => ⟨(hX0.alloc o).drew.cell 0, (hX0.alloc o).drew.cell 1, (hX0.alloc o).drew.cell 2⟩
            have HYS := Lib.hid hYS
            have hsi2 : (if 100 - (p : Int) < if 50 < max 1 xs then 50 else max 1 xs then 100 - (p : Int) else if 50 < max 1 xs then 50 else max 1 xs) = (sp : Int) := by rw [hsi]; omega
            have HSI2 := Lib.hid hsi2
            have e100 : IntKind.i64.wrap (100 - (p : Int)) = 100 - (p : Int) := IntWalk.i64_in _ (by omega)
            clear hx hsp hown hbel hX hX0 hYS hsi hsi2
            go_wp2_with fail
            refine wp_region_noPanic ?_
            refine region_M (S := fun w' => w'.cell? ⟨wr.heap.size, 0, none⟩ = some (.int .i64 xl) ∧ w'.cell? ⟨wr.heap.size, 1, none⟩ = some (.int .i64 xm) ∧ w'.cell? ⟨wr.heap.size, 2, none⟩ = some (.int .i64 xs)) (T := [16]) (by kernel_rfl) ?_
            refine anyM_free (i := 0) (oi := { dst := some 24, op := _, type := _, pos := _, after := _, guard := _ }) (v := ?_) rfl (by kernel_rfl) (fun _ _ _ h => h) (Or.inl ⟨by kernel_rfl, ?_⟩) (fun _ => hS0) ?_
            rotate_left 1
            · (intro w hSw; (try dsimp only at hSw); go_simp; try with_reducible rfl)
            try simp only [Act.put, Array.toArray_toList, List.setIfInBounds_toArray, List.set_cons_zero, List.set_cons_succ]
            refine anyM_take (i := 1) (oi := { dst := some 25, op := _, type := _, pos := _, after := _, guard := _ }) (v := ?_) rfl (by kernel_rfl) (fun _ _ _ h => h) (Or.inl ⟨by kernel_rfl, ?_⟩) hS0 ?_
            rotate_left 1
            · (intro w hSw; (try dsimp only at hSw); go_simp; try with_reducible rfl)
            try simp only [Act.put, Array.toArray_toList, List.setIfInBounds_toArray, List.set_cons_zero, List.set_cons_succ]
            refine anyM_free (i := 4) (oi := { dst := some 28, op := _, type := _, pos := _, after := _, guard := _ }) (v := ?_) rfl (by kernel_rfl) (fun _ _ _ h => h) (Or.inl ⟨by kernel_rfl, ?_⟩) (fun _ => hS0) ?_
            rotate_left 1
            · (intro w hSw; (try dsimp only at hSw); go_simp; try with_reducible rfl)
            try simp only [Act.put, Array.toArray_toList, List.setIfInBounds_toArray, List.set_cons_zero, List.set_cons_succ]
            refine anyM_take (i := 5) (oi := { dst := some 29, op := _, type := _, pos := _, after := _, guard := _ }) (v := ?_) rfl (by kernel_rfl) (fun _ _ _ h => h) (Or.inl ⟨by kernel_rfl, ?_⟩) hS0 ?_
            rotate_left 1
            · (intro w hSw; (try dsimp only at hSw); go_simp; try with_reducible rfl)
            try simp only [Act.put, Array.toArray_toList, List.setIfInBounds_toArray, List.set_cons_zero, List.set_cons_succ]
            refine anyM_free (i := 7) (oi := { dst := some 31, op := _, type := _, pos := _, after := _, guard := _ }) (v := ?_) rfl (by kernel_rfl) (fun _ _ _ h => h) (Or.inl ⟨by kernel_rfl, ?_⟩) (fun _ => hS0) ?_
            rotate_left 1
            · (intro w hSw; (try dsimp only at hSw); go_simp; try with_reducible rfl)
            try simp only [Act.put, Array.toArray_toList, List.setIfInBounds_toArray, List.set_cons_zero, List.set_cons_succ]
            refine anyM_free (i := 8) (oi := { dst := some 32, op := _, type := _, pos := _, after := _, guard := _ }) (v := ?_) rfl (by kernel_rfl) (fun _ _ _ h => h) (Or.inl ⟨by kernel_rfl, ?_⟩) (fun _ => hS0) ?_
            rotate_left 1
            · (intro w hSw; (try dsimp only at hSw); go_simp; try with_reducible rfl)
            try simp only [Act.put, Array.toArray_toList, List.setIfInBounds_toArray, List.set_cons_zero, List.set_cons_succ]
            refine anyM_take (i := 9) (oi := { dst := some 33, op := _, type := _, pos := _, after := _, guard := _ }) (v := ?_) rfl (by kernel_rfl) (fun _ _ _ h => h) (Or.inl ⟨by kernel_rfl, ?_⟩) hS0 ?_
            rotate_left 1
            · (intro w hSw; (try dsimp only at hSw); go_simp; try with_reducible rfl)
            try simp only [Act.put, Array.toArray_toList, List.setIfInBounds_toArray, List.set_cons_zero, List.set_cons_succ]
            refine anyM_free (i := 10) (oi := { dst := some 34, op := _, type := _, pos := _, after := _, guard := _ }) (v := ?_) rfl (by kernel_rfl) (fun _ _ _ h => h) (Or.inl ⟨by kernel_rfl, ?_⟩) (fun _ => hS0) ?_
            rotate_left 1
            · (intro w hSw; (try dsimp only at hSw); go_simp; try with_reducible rfl)
            try simp only [Act.put, Array.toArray_toList, List.setIfInBounds_toArray, List.set_cons_zero, List.set_cons_succ]
            refine anyM_free (i := 11) (oi := { dst := some 35, op := _, type := _, pos := _, after := _, guard := _ }) (v := ?_) rfl (by kernel_rfl) (fun _ _ _ h => h) (Or.inl ⟨by kernel_rfl, ?_⟩) (fun _ => hS0) ?_
            rotate_left 1
            · (intro w hSw; (try dsimp only at hSw); go_simp; try with_reducible rfl)
            try simp only [Act.put, Array.toArray_toList, List.setIfInBounds_toArray, List.set_cons_zero, List.set_cons_succ]
            refine anyM_free (i := 12) (oi := { dst := some 36, op := _, type := _, pos := _, after := _, guard := _ }) (v := ?_) rfl (by kernel_rfl) (fun _ _ _ h => h) (Or.inl ⟨by kernel_rfl, ?_⟩) (fun _ => hS0) ?_
            rotate_left 1
            · (intro w hSw; (try dsimp only at hSw); go_simp; try with_reducible rfl)
            try simp only [Act.put, Array.toArray_toList, List.setIfInBounds_toArray, List.set_cons_zero, List.set_cons_succ]
            refine anyM_free (i := 13) (oi := { dst := some 37, op := _, type := _, pos := _, after := _, guard := _ }) (v := ?_) rfl (by kernel_rfl) (fun _ _ _ h => h) (Or.inl ⟨by kernel_rfl, ?_⟩) (fun _ => hS0) ?_
            rotate_left 1
            · (intro w hSw; (try dsimp only at hSw); go_simp; try with_reducible rfl)
            try simp only [Act.put, Array.toArray_toList, List.setIfInBounds_toArray, List.set_cons_zero, List.set_cons_succ]
            refine anyM_two (i := 2) (j := 15) (by kernel_rfl) rfl rfl (fun K hK => ?_) (fun K hK => ?_)
            · skip
              go_simp
              refine (cut_calls _ _).mono ?_
              rintro e' w' ⟨rfl, rfl⟩
              refine hK.out _ _ (fun _ => hS0) ?_
              clear hK K
              try simp only [Act.put, Array.toArray_toList, List.setIfInBounds_toArray, List.set_cons_zero, List.set_cons_succ]
              refine anyM_free (i := 3) (oi := { dst := some 27, op := _, type := _, pos := _, after := _, guard := _ }) (v := ?_) rfl (by kernel_rfl) (fun _ _ _ h => h) (Or.inl ⟨by kernel_rfl, ?_⟩) (fun _ => hS0) ?_
              rotate_left 1
              · (intro w hSw; (try dsimp only at hSw); go_simp; try with_reducible rfl)
              try simp only [Act.put, Array.toArray_toList, List.setIfInBounds_toArray, List.set_cons_zero, List.set_cons_succ]
              refine anyM_two (i := 6) (j := 15) (by kernel_rfl) rfl rfl (fun K hK => ?_) (fun K hK => ?_)
              · skip
                go_simp
                refine (cut_calls _ _).mono ?_
                rintro e' w' ⟨rfl, rfl⟩
                refine hK.out _ _ (fun _ => hS0) ?_
                clear hK K
                try simp only [Act.put, Array.toArray_toList, List.setIfInBounds_toArray, List.set_cons_zero, List.set_cons_succ]
                refine anyM_free (i := 14) (oi := { dst := some 38, op := _, type := _, pos := _, after := _, guard := _ }) (v := ?_) rfl (by kernel_rfl) (fun _ _ _ h => h) (Or.inl ⟨by kernel_rfl, ?_⟩) (fun _ => hS0) ?_
                rotate_left 1
                · (intro w hSw; (try dsimp only at hSw); go_simp; try with_reducible rfl)
                try simp only [Act.put, Array.toArray_toList, List.setIfInBounds_toArray, List.set_cons_zero, List.set_cons_succ]
                refine anyM_one (i := 15) (by kernel_rfl) rfl (fun K hK => ?_)
                go_simp
                have hS0 := HYS.out (.cells #[.int .i64 0, .int .i64 0, .int .i64 0, .int .i64 0] 107)
                refine hK.out _ _ (fun _ => hS0) ?_
                clear hK K
                try simp only [Act.put, Array.toArray_toList, List.setIfInBounds_toArray, List.set_cons_zero, List.set_cons_succ]
                refine anyM_one (i := 16) (by kernel_rfl) rfl (fun K hK => ?_)
                go_simp
                refine hK.out _ _ (fun h => late_no h (by kernel_rfl)) ?_
                clear hK K
                try simp only [Act.put, Array.toArray_toList, List.setIfInBounds_toArray, List.set_cons_zero, List.set_cons_succ]
                refine anyM_done (by kernel_rfl) ?_ _
                refine NoPanic.normal ?_
                rw [HSI2.out]
                have hY := (Blk.new (wr.alloc (.cells #[.int .i64 xl, .int .i64 xm, .int .i64 xs] 114)) 107 #[.int .i64 (max 0 (cut xl)), .int .i64 (cut xm), .int .i64 p, .int .i64 sp]).drew
                have hO := ((HOW2.out.alloc (.cells #[.int .i64 xl, .int .i64 xm, .int .i64 xs] 114)).alloc (.cells #[.int .i64 (max 0 (cut xl)), .int .i64 (cut xm), .int .i64 p, .int .i64 sp] 107)).drew
                have hBq := (below_alloc (below_alloc HB2.out (.cells #[.int .i64 xl, .int .i64 xm, .int .i64 xs] 114)) (.cells #[.int .i64 (max 0 (cut xl)), .int .i64 (cut xm), .int .i64 p, .int .i64 sp] 107)).drew
                simp only [alloc_size] at hY
                clear hS0
                generalize hwq : World.drew (World.alloc (World.alloc wr _) _) = wq at hY hO hBq ⊢
                clear hwq
                obtain ⟨gy, hgy⟩ : ∃ x, x = wr.heap.size + 1 := ⟨_, rfl⟩
                have hne : Value.ownBlock (.slice A1 out.length C1) ≠ some gy := fun e => by have := (HOW2.out.lt _ e).2; omega
                rw [← hgy] at hY ⊢
                have hgw : w.heap.size ≤ gy := by omega
                have y0 : wq.cell? ⟨gy, 0, none⟩ = some (.int .i64 (max 0 (cut xl))) := hY.cell 0
                have y1 : wq.cell? ⟨gy, 1, none⟩ = some (.int .i64 (cut xm)) := hY.cell 1
                have z1 : wq.frozen? ⟨gy, 1, none⟩ = false := hY.free 1
                have hY2 := hY.stored 1 (.int .i64 (max (cut xm) (max 0 (cut xl))))
                have hO2 := own_setFar (b := gy) (j := 1) (u := .int .i64 (max (cut xm) (max 0 (cut xl)))) hO hne
                have hB3 := below_set hBq (b := gy) (off := 1) hgw (.int .i64 (max (cut xm) (max 0 (cut xl))))
                have HNE := Lib.hid hne
                have HY2 := Lib.hid hY2
                have HO2 := Lib.hid hO2
                have HB3 := Lib.hid hB3
                clear hY hO hBq hY2 hO2 hB3 hne hgy t0 t1 t2 e100 HSI2 HOW2 HB2 HYS
                go_upto_region 11 with fail
                clear y0 y1 z1
                have y0 : (wq.setCell ⟨gy, 1, none⟩ (.int .i64 (max (cut xm) (max 0 (cut xl))))).cell? ⟨gy, 0, none⟩ = some (.int .i64 (max 0 (cut xl))) := HY2.out.cell 0
                have y1 : (wq.setCell ⟨gy, 1, none⟩ (.int .i64 (max (cut xm) (max 0 (cut xl))))).cell? ⟨gy, 1, none⟩ = some (.int .i64 (max (cut xm) (max 0 (cut xl)))) := HY2.out.cell 1
                have y2 : (wq.setCell ⟨gy, 1, none⟩ (.int .i64 (max (cut xm) (max 0 (cut xl))))).cell? ⟨gy, 2, none⟩ = some (.int .i64 p) := HY2.out.cell 2
                have y3 : (wq.setCell ⟨gy, 1, none⟩ (.int .i64 (max (cut xm) (max 0 (cut xl))))).cell? ⟨gy, 3, none⟩ = some (.int .i64 sp) := HY2.out.cell 3
                have hls : out.length ≤ 200000 := by omega
                generalize World.setCell wq _ _ = ws at y0 y1 y2 y3 HY2 HO2 HB3 ⊢
                go_upto_region 12 with (at_builtin; refine wpList_append_lies rfl _ _ 102 rfl w.heap.size 107 i0 _ 4 32 Try.underlying102 hi hz0 hz1 hz2 rfl (by decide) _ _ _ rfl (HO2.out.alloc _) ⟨ws.heap.size, 0, none⟩ 1 1 (cellF ⟨max 0 (cut xl), max (cut xm) (max 0 (cut xl)), p, sp⟩) rfl rfl (cells_atT ws (cellF ⟨max 0 (cut xl), max (cut xm) (max 0 (cut xl)), p, sp⟩) 107 ws.heap.size rfl) (cellF_one _) (by decide) (by unfold maxLen; omega) (by omega) (by have := HB3.out.size; simp; omega) _ rfl ?_; intro g9 cap9 w9 ho9 hg9 hat9 hlt9)
                have hb9 := below_grownA (below_alloc HB3.out _) HO2.out hg9
                rw [← cells_snoc] at ho9
                have HO9 := Lib.hid ho9
                have HB9 := Lib.hid hb9
                have hY9 := blk_grown (HY2.out.alloc _) hg9 HNE.out
                have y9 : w9.cell? ⟨gy, 3, none⟩ = some (.int .i64 sp) := hY9.cell 3
                clear y0 y1 y2 y3 ho9 hb9 hg9 hat9 hY9 HY2 HO2 HB3 HNE
                go_wp2_with fail
                exact ⟨⟨j + 1, p + sp, out ++ [mkCell p ⟨xl, xm, xs⟩], by have := QQ.out; omega, by go_num, by go_num, by rw [HMK.out, List.length_append]; exact HO9.out, by rw [List.length_append]; simp; omega, by omega, ⟨by rw [← HTT.out.1, HCD.out, List.append_assoc]; rfl, by rw [← HTT.out.2, HED.out]⟩, HB9.out⟩, by have := QQ.out; simp [intOf]; omega⟩
              · skip
                go_simp
                have hS0 := HYS.out (.cells #[.int .i64 0, .int .i64 0, .int .i64 0, .int .i64 0] 107)
                refine hK.out _ _ (fun _ => hS0) ?_
                clear hK K
                try simp only [Act.put, Array.toArray_toList, List.setIfInBounds_toArray, List.set_cons_zero, List.set_cons_succ]
                refine anyM_one (i := 6) (by kernel_rfl) rfl (fun K hK => ?_)
                go_simp
                refine (cut_calls _ _).mono ?_
                rintro e' w' ⟨rfl, rfl⟩
                refine hK.out _ _ (fun _ => hS0) ?_
                clear hK K
                try simp only [Act.put, Array.toArray_toList, List.setIfInBounds_toArray, List.set_cons_zero, List.set_cons_succ]
                refine anyM_free (i := 14) (oi := { dst := some 38, op := _, type := _, pos := _, after := _, guard := _ }) (v := ?_) rfl (by kernel_rfl) (fun _ _ _ h => h) (Or.inl ⟨by kernel_rfl, ?_⟩) (fun _ => hS0) ?_
                rotate_left 1
                · (intro w hSw; (try dsimp only at hSw); go_simp; try with_reducible rfl)
                try simp only [Act.put, Array.toArray_toList, List.setIfInBounds_toArray, List.set_cons_zero, List.set_cons_succ]
                refine anyM_one (i := 16) (by kernel_rfl) rfl (fun K hK => ?_)
                go_simp
                refine hK.out _ _ (fun h => late_no h (by kernel_rfl)) ?_
                clear hK K
                try simp only [Act.put, Array.toArray_toList, List.setIfInBounds_toArray, List.set_cons_zero, List.set_cons_succ]
                refine anyM_done (by kernel_rfl) ?_ _
                refine NoPanic.normal ?_
                rw [HSI2.out]
                have hY := (Blk.new (wr.alloc (.cells #[.int .i64 xl, .int .i64 xm, .int .i64 xs] 114)) 107 #[.int .i64 (max 0 (cut xl)), .int .i64 (cut xm), .int .i64 p, .int .i64 sp]).drew
                have hO := ((HOW2.out.alloc (.cells #[.int .i64 xl, .int .i64 xm, .int .i64 xs] 114)).alloc (.cells #[.int .i64 (max 0 (cut xl)), .int .i64 (cut xm), .int .i64 p, .int .i64 sp] 107)).drew
                have hBq := (below_alloc (below_alloc HB2.out (.cells #[.int .i64 xl, .int .i64 xm, .int .i64 xs] 114)) (.cells #[.int .i64 (max 0 (cut xl)), .int .i64 (cut xm), .int .i64 p, .int .i64 sp] 107)).drew
                simp only [alloc_size] at hY
                clear hS0
                generalize hwq : World.drew (World.alloc (World.alloc wr _) _) = wq at hY hO hBq ⊢
                clear hwq
                obtain ⟨gy, hgy⟩ : ∃ x, x = wr.heap.size + 1 := ⟨_, rfl⟩
                have hne : Value.ownBlock (.slice A1 out.length C1) ≠ some gy := fun e => by have := (HOW2.out.lt _ e).2; omega
                rw [← hgy] at hY ⊢
                have hgw : w.heap.size ≤ gy := by omega
                have y0 : wq.cell? ⟨gy, 0, none⟩ = some (.int .i64 (max 0 (cut xl))) := hY.cell 0
                have y1 : wq.cell? ⟨gy, 1, none⟩ = some (.int .i64 (cut xm)) := hY.cell 1
                have z1 : wq.frozen? ⟨gy, 1, none⟩ = false := hY.free 1
                have hY2 := hY.stored 1 (.int .i64 (max (cut xm) (max 0 (cut xl))))
                have hO2 := own_setFar (b := gy) (j := 1) (u := .int .i64 (max (cut xm) (max 0 (cut xl)))) hO hne
                have hB3 := below_set hBq (b := gy) (off := 1) hgw (.int .i64 (max (cut xm) (max 0 (cut xl))))
                have HNE := Lib.hid hne
                have HY2 := Lib.hid hY2
                have HO2 := Lib.hid hO2
                have HB3 := Lib.hid hB3
                clear hY hO hBq hY2 hO2 hB3 hne hgy t0 t1 t2 e100 HSI2 HOW2 HB2 HYS
                go_upto_region 11 with fail
                clear y0 y1 z1
                have y0 : (wq.setCell ⟨gy, 1, none⟩ (.int .i64 (max (cut xm) (max 0 (cut xl))))).cell? ⟨gy, 0, none⟩ = some (.int .i64 (max 0 (cut xl))) := HY2.out.cell 0
                have y1 : (wq.setCell ⟨gy, 1, none⟩ (.int .i64 (max (cut xm) (max 0 (cut xl))))).cell? ⟨gy, 1, none⟩ = some (.int .i64 (max (cut xm) (max 0 (cut xl)))) := HY2.out.cell 1
                have y2 : (wq.setCell ⟨gy, 1, none⟩ (.int .i64 (max (cut xm) (max 0 (cut xl))))).cell? ⟨gy, 2, none⟩ = some (.int .i64 p) := HY2.out.cell 2
                have y3 : (wq.setCell ⟨gy, 1, none⟩ (.int .i64 (max (cut xm) (max 0 (cut xl))))).cell? ⟨gy, 3, none⟩ = some (.int .i64 sp) := HY2.out.cell 3
                have hls : out.length ≤ 200000 := by omega
                generalize World.setCell wq _ _ = ws at y0 y1 y2 y3 HY2 HO2 HB3 ⊢
                go_upto_region 12 with (at_builtin; refine wpList_append_lies rfl _ _ 102 rfl w.heap.size 107 i0 _ 4 32 Try.underlying102 hi hz0 hz1 hz2 rfl (by decide) _ _ _ rfl (HO2.out.alloc _) ⟨ws.heap.size, 0, none⟩ 1 1 (cellF ⟨max 0 (cut xl), max (cut xm) (max 0 (cut xl)), p, sp⟩) rfl rfl (cells_atT ws (cellF ⟨max 0 (cut xl), max (cut xm) (max 0 (cut xl)), p, sp⟩) 107 ws.heap.size rfl) (cellF_one _) (by decide) (by unfold maxLen; omega) (by omega) (by have := HB3.out.size; simp; omega) _ rfl ?_; intro g9 cap9 w9 ho9 hg9 hat9 hlt9)
                have hb9 := below_grownA (below_alloc HB3.out _) HO2.out hg9
                rw [← cells_snoc] at ho9
                have HO9 := Lib.hid ho9
                have HB9 := Lib.hid hb9
                have hY9 := blk_grown (HY2.out.alloc _) hg9 HNE.out
                have y9 : w9.cell? ⟨gy, 3, none⟩ = some (.int .i64 sp) := hY9.cell 3
                clear y0 y1 y2 y3 ho9 hb9 hg9 hat9 hY9 HY2 HO2 HB3 HNE
                go_wp2_with fail
                exact ⟨⟨j + 1, p + sp, out ++ [mkCell p ⟨xl, xm, xs⟩], by have := QQ.out; omega, by go_num, by go_num, by rw [HMK.out, List.length_append]; exact HO9.out, by rw [List.length_append]; simp; omega, by omega, ⟨by rw [← HTT.out.1, HCD.out, List.append_assoc]; rfl, by rw [← HTT.out.2, HED.out]⟩, HB9.out⟩, by have := QQ.out; simp [intOf]; omega⟩
            · skip
              go_simp
              have hS0 := HYS.out (.cells #[.int .i64 0, .int .i64 0, .int .i64 0, .int .i64 0] 107)
              refine hK.out _ _ (fun _ => hS0) ?_
              clear hK K
              try simp only [Act.put, Array.toArray_toList, List.setIfInBounds_toArray, List.set_cons_zero, List.set_cons_succ]
              refine anyM_one (i := 2) (by kernel_rfl) rfl (fun K hK => ?_)
              go_simp
              refine (cut_calls _ _).mono ?_
              rintro e' w' ⟨rfl, rfl⟩
              refine hK.out _ _ (fun _ => hS0) ?_
              clear hK K
              try simp only [Act.put, Array.toArray_toList, List.setIfInBounds_toArray, List.set_cons_zero, List.set_cons_succ]
              refine anyM_free (i := 3) (oi := { dst := some 27, op := _, type := _, pos := _, after := _, guard := _ }) (v := ?_) rfl (by kernel_rfl) (fun _ _ _ h => h) (Or.inl ⟨by kernel_rfl, ?_⟩) (fun _ => hS0) ?_
              rotate_left 1
              · (intro w hSw; (try dsimp only at hSw); go_simp; try with_reducible rfl)
              try simp only [Act.put, Array.toArray_toList, List.setIfInBounds_toArray, List.set_cons_zero, List.set_cons_succ]
              refine anyM_one (i := 6) (by kernel_rfl) rfl (fun K hK => ?_)
              go_simp
              refine (cut_calls _ _).mono ?_
              rintro e' w' ⟨rfl, rfl⟩
              refine hK.out _ _ (fun _ => hS0) ?_
              clear hK K
              try simp only [Act.put, Array.toArray_toList, List.setIfInBounds_toArray, List.set_cons_zero, List.set_cons_succ]
              refine anyM_free (i := 14) (oi := { dst := some 38, op := _, type := _, pos := _, after := _, guard := _ }) (v := ?_) rfl (by kernel_rfl) (fun _ _ _ h => h) (Or.inl ⟨by kernel_rfl, ?_⟩) (fun _ => hS0) ?_
              rotate_left 1
              · (intro w hSw; (try dsimp only at hSw); go_simp; try with_reducible rfl)
              try simp only [Act.put, Array.toArray_toList, List.setIfInBounds_toArray, List.set_cons_zero, List.set_cons_succ]
              refine anyM_one (i := 16) (by kernel_rfl) rfl (fun K hK => ?_)
              go_simp
              refine hK.out _ _ (fun h => late_no h (by kernel_rfl)) ?_
              clear hK K
              try simp only [Act.put, Array.toArray_toList, List.setIfInBounds_toArray, List.set_cons_zero, List.set_cons_succ]
              refine anyM_done (by kernel_rfl) ?_ _
              refine NoPanic.normal ?_
              rw [HSI2.out]
              have hY := (Blk.new (wr.alloc (.cells #[.int .i64 xl, .int .i64 xm, .int .i64 xs] 114)) 107 #[.int .i64 (max 0 (cut xl)), .int .i64 (cut xm), .int .i64 p, .int .i64 sp]).drew
              have hO := ((HOW2.out.alloc (.cells #[.int .i64 xl, .int .i64 xm, .int .i64 xs] 114)).alloc (.cells #[.int .i64 (max 0 (cut xl)), .int .i64 (cut xm), .int .i64 p, .int .i64 sp] 107)).drew
              have hBq := (below_alloc (below_alloc HB2.out (.cells #[.int .i64 xl, .int .i64 xm, .int .i64 xs] 114)) (.cells #[.int .i64 (max 0 (cut xl)), .int .i64 (cut xm), .int .i64 p, .int .i64 sp] 107)).drew
              simp only [alloc_size] at hY
              clear hS0
              generalize hwq : World.drew (World.alloc (World.alloc wr _) _) = wq at hY hO hBq ⊢
              clear hwq
              obtain ⟨gy, hgy⟩ : ∃ x, x = wr.heap.size + 1 := ⟨_, rfl⟩
              have hne : Value.ownBlock (.slice A1 out.length C1) ≠ some gy := fun e => by have := (HOW2.out.lt _ e).2; omega
              rw [← hgy] at hY ⊢
              have hgw : w.heap.size ≤ gy := by omega
              have y0 : wq.cell? ⟨gy, 0, none⟩ = some (.int .i64 (max 0 (cut xl))) := hY.cell 0
              have y1 : wq.cell? ⟨gy, 1, none⟩ = some (.int .i64 (cut xm)) := hY.cell 1
              have z1 : wq.frozen? ⟨gy, 1, none⟩ = false := hY.free 1
              have hY2 := hY.stored 1 (.int .i64 (max (cut xm) (max 0 (cut xl))))
              have hO2 := own_setFar (b := gy) (j := 1) (u := .int .i64 (max (cut xm) (max 0 (cut xl)))) hO hne
              have hB3 := below_set hBq (b := gy) (off := 1) hgw (.int .i64 (max (cut xm) (max 0 (cut xl))))
              have HNE := Lib.hid hne
              have HY2 := Lib.hid hY2
              have HO2 := Lib.hid hO2
              have HB3 := Lib.hid hB3
              clear hY hO hBq hY2 hO2 hB3 hne hgy t0 t1 t2 e100 HSI2 HOW2 HB2 HYS
              go_upto_region 11 with fail
              clear y0 y1 z1
              have y0 : (wq.setCell ⟨gy, 1, none⟩ (.int .i64 (max (cut xm) (max 0 (cut xl))))).cell? ⟨gy, 0, none⟩ = some (.int .i64 (max 0 (cut xl))) := HY2.out.cell 0
              have y1 : (wq.setCell ⟨gy, 1, none⟩ (.int .i64 (max (cut xm) (max 0 (cut xl))))).cell? ⟨gy, 1, none⟩ = some (.int .i64 (max (cut xm) (max 0 (cut xl)))) := HY2.out.cell 1
              have y2 : (wq.setCell ⟨gy, 1, none⟩ (.int .i64 (max (cut xm) (max 0 (cut xl))))).cell? ⟨gy, 2, none⟩ = some (.int .i64 p) := HY2.out.cell 2
              have y3 : (wq.setCell ⟨gy, 1, none⟩ (.int .i64 (max (cut xm) (max 0 (cut xl))))).cell? ⟨gy, 3, none⟩ = some (.int .i64 sp) := HY2.out.cell 3
              have hls : out.length ≤ 200000 := by omega
              generalize World.setCell wq _ _ = ws at y0 y1 y2 y3 HY2 HO2 HB3 ⊢
              go_upto_region 12 with (at_builtin; refine wpList_append_lies rfl _ _ 102 rfl w.heap.size 107 i0 _ 4 32 Try.underlying102 hi hz0 hz1 hz2 rfl (by decide) _ _ _ rfl (HO2.out.alloc _) ⟨ws.heap.size, 0, none⟩ 1 1 (cellF ⟨max 0 (cut xl), max (cut xm) (max 0 (cut xl)), p, sp⟩) rfl rfl (cells_atT ws (cellF ⟨max 0 (cut xl), max (cut xm) (max 0 (cut xl)), p, sp⟩) 107 ws.heap.size rfl) (cellF_one _) (by decide) (by unfold maxLen; omega) (by omega) (by have := HB3.out.size; simp; omega) _ rfl ?_; intro g9 cap9 w9 ho9 hg9 hat9 hlt9)
              have hb9 := below_grownA (below_alloc HB3.out _) HO2.out hg9
              rw [← cells_snoc] at ho9
              have HO9 := Lib.hid ho9
              have HB9 := Lib.hid hb9
              have hY9 := blk_grown (HY2.out.alloc _) hg9 HNE.out
              have y9 : w9.cell? ⟨gy, 3, none⟩ = some (.int .i64 sp) := hY9.cell 3
              clear y0 y1 y2 y3 ho9 hb9 hg9 hat9 hY9 HY2 HO2 HB3 HNE
              go_wp2_with fail
              exact ⟨⟨j + 1, p + sp, out ++ [mkCell p ⟨xl, xm, xs⟩], by have := QQ.out; omega, by go_num, by go_num, by rw [HMK.out, List.length_append]; exact HO9.out, by rw [List.length_append]; simp; omega, by omega, ⟨by rw [← HTT.out.1, HCD.out, List.append_assoc]; rfl, by rw [← HTT.out.2, HED.out]⟩, HB9.out⟩, by have := QQ.out; simp [intOf]; omega⟩
        · obtain rfl : j = r.length := by omega
          have HRE : Hid (out = T2 ∧ p = E2) := ⟨by rw [← HTT.out.1, List.drop_length, rowCells, List.append_nil], by rw [← HTT.out.2, List.drop_length, rowEnd]⟩
          go_wp2_with fail
          exact ⟨⟨k + 1, max mm p, out, by have := KK.out; omega, by go_num, by rw [show ((max mm p : Nat) : Int) = max (mm : Int) (p : Int) by omega], hown, by omega, by omega, ⟨by rw [HRE.out.1]; exact HTN.out, by rw [HRE.out.2]; exact HMN.out⟩, hbel⟩, by have := KK.out; simp [intOf]; omega⟩
    · obtain rfl : k = rs.length := by omega
      have HRE : Hid (out = T ∧ mm = M) := ⟨by rw [← HTT.out.1, List.drop_of_length_le (by simp), cellsOf, List.append_nil], by rw [← HTT.out.2, List.drop_of_length_le (by simp), manyOf]; omega⟩
      have HOW := Lib.hid hown
      have HB1 := Lib.hid hbel
      clear hown hbel
      go_wp2_with fail
      go_ret2
      exact ⟨.slice A1 out.length C1, by rw [HRE.out.2]; rfl, by rw [← HRE.out.1]; exact HOW.out, HB1.out⟩
end Go.Proofs.Ytkppignoomnmdaa
