/- Contract of the reference's Columns. -/
import Derived.Test.YtkppignoomnmdaaRColA
import Derived.Test.YtkppignoomnmdaaColB
import Derived.Laws.EntriesVeiled
namespace Go.Proofs.Ytkppignoomnmdaa
open Go.RowKit
set_option linter.unusedVariables false
set_option linter.unusedSimpArgs false
attribute [local go_sem high] run_min2 run_max2

section
variable {P : Program} {ops : Array Oper} {Q : Exit → Act → World → Prop} {md : Region.Mode} {S : World → Prop} {T : List Nat}
theorem anyM_three {fuel : Nat} {listed : Array Bool} {a : Act} {w : World} {i j k : Nat} {o o' o2 : Oper} (hr : Region.ready md ops listed = [i, j, k]) (ho : ops[i]? = some o) (ho' : ops[j]? = some o') (ho2 : ops[k]? = some o2)
    (h : ∀ K' : Act → World → Prop, Shut (∀ a w, (lateL T (listed.setIfInBounds i true) = false → S w) → anyM P md ops Q S T fuel (listed.setIfInBounds i true) a w → K' a w) → if Region.wanted o (yielded ops a.tmps) = true then Oper.wp P o a w K' Q else K' (a.put o.dst undef) w)
    (h' : ∀ K' : Act → World → Prop, Shut (∀ a w, (lateL T (listed.setIfInBounds j true) = false → S w) → anyM P md ops Q S T fuel (listed.setIfInBounds j true) a w → K' a w) → if Region.wanted o' (yielded ops a.tmps) = true then Oper.wp P o' a w K' Q else K' (a.put o'.dst undef) w)
    (h2 : ∀ K' : Act → World → Prop, Shut (∀ a w, (lateL T (listed.setIfInBounds k true) = false → S w) → anyM P md ops Q S T fuel (listed.setIfInBounds k true) a w → K' a w) → if Region.wanted o2 (yielded ops a.tmps) = true then Oper.wp P o2 a w K' Q else K' (a.put o2.dst undef) w) :
    anyM P md ops Q S T (fuel + 1) listed a w := by
  refine And.intro (fun h0 => by rw [h0] at hr; cases hr) (fun l hl => ?_)
  rw [hr] at hl
  rcases (by simpa using hl : l = i ∨ l = j ∨ l = k) with rfl | rfl | rfl
  · exact wpOp_step ho fun K' hK => h K' (fun a w hS hA => hK a w ⟨hS, hA⟩)
  · exact wpOp_step ho' fun K' hK => h' K' (fun a w hS hA => hK a w ⟨hS, hA⟩)
  · exact wpOp_step ho2 fun K' hK => h2 K' (fun a w hS hA => hK a w ⟨hS, hA⟩)
end
theorem info_rcell : (Try.prog.info? 116).map (fun i => (i.zero, i.size, i.bytes)) = some (some (.agg (cellF CellV.zero).toArray), 4, 32) := by kernel_rfl
/-- Before row k. -/
def LoopOR (w : World) (rs : List RowV) (T : List CellV) (M : Nat) (v m i : Value) (wr : World) : Prop :=
  ∃ (k mm : Nat) (out : List CellV), k ≤ rs.length ∧ i = .int .i64 k ∧ m = .int .i64 mm ∧ wr.ownsRow w.heap.size 116 4 v out.length (out.flatMap cellF) ∧ out.length ≤ 100 * k ∧ mm ≤ 100 ∧
    Hid (out ++ cellsOf ((rs.map RowV.cells).drop k) = T ∧ max mm (manyOf ((rs.map RowV.cells).drop k)) = M) ∧ Below w.heap.size w wr
/-- Within row k, before its cell j. -/
def LoopIR (w : World) (k : Nat) (r : List LCellV) (T : List CellV) (E : Nat) (v a i : Value) (wr : World) : Prop :=
  ∃ (j p : Nat) (out : List CellV), j ≤ r.length ∧ i = .int .i64 j ∧ a = .int .i64 p ∧ wr.ownsRow w.heap.size 116 4 v out.length (out.flatMap cellF) ∧ out.length ≤ 100 * k + p ∧ p ≤ 100 ∧
    Hid (out ++ rowCells p (r.drop j) = T ∧ rowEnd p (r.drop j) = E) ∧ Below w.heap.size w wr
/-- Two lists of zeros, the second in a variable. -/
def Made3 (w : World) (n : Nat) (a b : Value) (wx : World) : Prop :=
  ∃ gL gM pM : Nat, a = .slice (some ⟨gL, 0, none⟩) n n ∧ b = .pointer (some ⟨pM, 0, none⟩) ∧ gL ≠ gM ∧ gL ≠ pM ∧ gM ≠ pM ∧ w.heap.size ≤ gL ∧ w.heap.size ≤ gM ∧ w.heap.size ≤ pM ∧ wx.ownsRow w.heap.size 3 1 (.slice (some ⟨gL, 0, none⟩) n n) n (ints (fnL n zeroF)) ∧ wx.ownsRow w.heap.size 3 1 (.slice (some ⟨gM, 0, none⟩) n n) n (ints (fnL n zeroF)) ∧ Blk wx pM 64 #[.slice (some ⟨gM, 0, none⟩) n n] ∧ Below w.heap.size w wx
/-- The cells of the spans up to s, span by span. -/
def pre (T : List CellV) (s : Nat) : List CellV := (List.range s).flatMap (fun s => T.filter (fun c => c.span == s + 1))
theorem pre_step (T : List CellV) (s : Nat) (h : 1 ≤ s) : pre T (s - 1) ++ T.filter (fun c => c.span == s) = pre T s := by
  obtain ⟨t, rfl⟩ : ∃ t, s = t + 1 := ⟨s - 1, by omega⟩
  simp [pre, List.range_succ]
theorem filt_step (T : List CellV) (s k : Nat) (hk : k < T.length) : ((T.getD k CellV.zero).span = s → pre T (s - 1) ++ (T.take (k + 1)).filter (fun c => c.span == s) = (pre T (s - 1) ++ (T.take k).filter (fun c => c.span == s)) ++ [T.getD k CellV.zero]) ∧
    (¬ (T.getD k CellV.zero).span = s → pre T (s - 1) ++ (T.take (k + 1)).filter (fun c => c.span == s) = pre T (s - 1) ++ (T.take k).filter (fun c => c.span == s)) := by
  have e : T.getD k CellV.zero = T[k] := by simp [List.getD, hk]
  rw [e, List.take_succ_eq_append_getElem hk, List.filter_append]
  constructor
  · intro h; simp [h]
  · intro h; simp [h]
theorem pre_mem (T : List CellV) (s k : Nat) (c : CellV) (h : c ∈ pre T (s - 1) ++ (T.take k).filter (fun c => c.span == s)) : c ∈ T := by
  rw [List.mem_append] at h
  rcases h with h | h
  · unfold pre at h
    simp only [List.mem_flatMap, List.mem_filter] at h
    obtain ⟨_, _, h, _⟩ := h
    exact h
  · exact List.mem_of_mem_take (List.mem_filter.1 h).1
def LoopS (w : World) (b1 gL gM pM pT M : Nat) (A1 : Option Addr) (C1 : Nat) (T X : List CellV) (wr : World) : Prop :=
  wr.ownsRow w.heap.size 116 4 (.slice A1 T.length C1) T.length (T.flatMap cellF) ∧ wr.ownsRow b1 3 1 (.slice (some ⟨gL, 0, none⟩) M M) M (ints (fnL M (colsF X).1)) ∧
    wr.ownsRow b1 3 1 (.slice (some ⟨gM, 0, none⟩) M M) M (ints (fnL M (colsF X).2)) ∧ Blk wr pM 64 #[.slice (some ⟨gM, 0, none⟩) M M] ∧ Blk wr pT 117 #[.func (.func 80) #[] #[]] ∧ Below w.heap.size w wr
set_option maxRecDepth 100000 in
set_option maxHeartbeats 8000000 in
theorem rcolumns_calls (A : Option Addr) (n c B : Nat) (rs : List RowV) (w : World) (hn : rs.length = n) (h : RowsAt w B A rs) (hB : B ≤ w.heap.size) (hm : n ≤ 1000) :
    Calls Try.prog 38 #[.slice A n c] w fun e w' => ∃ v1 v2, e = .returned (.tuple #[v1, v2]) ∧ w'.ownsRow w.heap.size 3 1 v1 (manyOf (rs.map RowV.cells)) (ints (leastF (bucket (cellsOf (rs.map RowV.cells))) (manyOf (rs.map RowV.cells)))) ∧ w'.ownsRow w.heap.size 3 1 v2 (manyOf (rs.map RowV.cells)) (ints (mostF (bucket (cellsOf (rs.map RowV.cells))) (manyOf (rs.map RowV.cells)))) ∧ Below w.heap.size w w' := by
  subst hn
  obtain ⟨i0, hi, hz0, hz1, hz2⟩ := info_parts info_rcell
  obtain ⟨j0, hj0, hy0, hy1, hy2⟩ := info_parts info_int
  have H := Lib.hid h
  have hok : ∀ c ∈ cellsOf (rs.map RowV.cells), CellOk c ∧ c.pos + c.span ≤ manyOf (rs.map RowV.cells) := fun c hc => cellsOf_ok _ c hc
  have hmm9 := manyOf_le (rs.map RowV.cells)
  have hcl := cellsOf_len (rs.map RowV.cells)
  rw [List.length_map] at hcl
  obtain ⟨T, hT⟩ : ∃ T, T = cellsOf (rs.map RowV.cells) := ⟨_, rfl⟩
  obtain ⟨M, hM⟩ : ∃ M, M = manyOf (rs.map RowV.cells) := ⟨_, rfl⟩
  rw [← hT, ← hM] at hok ⊢
  rw [← hM] at hmm9
  rw [← hT] at hcl
  have HOK := Lib.hid hok
  have HST : Hid (([] : List CellV) ++ cellsOf ((rs.map RowV.cells).drop 0) = T ∧ max 0 (manyOf ((rs.map RowV.cells).drop 0)) = M) := ⟨by rw [List.drop_zero, ← hT]; rfl, by rw [List.drop_zero, ← hM]; omega⟩
  clear h hT hM hok
  go_enter Try.func38, Try.ntmps38
  go_wp2_with fail
  go_loopw [4, 5, 22] (fun v m i wr => LoopOR w rs T M v m i wr) (fun _ _ i _ => rs.length - (intOf i).toNat)
  case atStart => exact ⟨0, 0, [], Nat.zero_le _, rfl, rfl, World.ownsRow_nil _ _ _ _, by simp, by omega, HST.out, Below.refl _ _⟩
  case round =>
    obtain ⟨k, mm, out, hk, rfl, rfl, hown, hlen, hmm, HTT, hbel⟩ := hrel
    obtain ⟨A1, C1, rfl⟩ := own_open hown
    by_cases hlt : k < rs.length
    · obtain ⟨b', off', e', hb', c', hrow, hl'⟩ := H.out k hlt
      clear e' hb' c' hl'
      obtain ⟨b, off, rfl, hb, c0, _, hrl⟩ := H.out.below hbel hB k hlt
      have HE : Hid ((rs.map RowV.cells).getD k [] = (rowOf rs k).cells) := by show _ = _; simp [rowOf, List.getD, hlt]
      obtain ⟨⟨ra, rc, r⟩, hr⟩ : ∃ r, r = rowOf rs k := ⟨_, rfl⟩
      rw [← hr] at c0 hrow hrl HE
      simp only at c0 hrow hrl HE
      have hR := Lib.hid hrow
      have hkl : k < (rs.map RowV.cells).length := by simpa using hlt
      have HC2 : Hid (cellsOf ((rs.map RowV.cells).drop k) = rowCells 0 r ++ cellsOf ((rs.map RowV.cells).drop (k + 1))) := by show _ = _; rw [cellsOf_drop _ hkl, HE.out]
      have HM2 : Hid (manyOf ((rs.map RowV.cells).drop k) = max (rowEnd 0 r) (manyOf ((rs.map RowV.cells).drop (k + 1)))) := by show _ = _; rw [manyOf_drop _ hkl, HE.out]
      obtain ⟨T2, hT2⟩ : ∃ x, x = out ++ rowCells 0 r := ⟨_, rfl⟩
      obtain ⟨E2, hE2⟩ : ∃ x, x = rowEnd 0 r := ⟨_, rfl⟩
      have HSI : Hid (out ++ rowCells 0 (r.drop 0) = T2 ∧ rowEnd 0 (r.drop 0) = E2) := ⟨by rw [List.drop_zero, hT2], by rw [List.drop_zero, hE2]⟩
      have hE9 : E2 ≤ 100 := by rw [hE2]; exact (rowEnd_le r 0 (by omega)).2
      have HTN : Hid (T2 ++ cellsOf ((rs.map RowV.cells).drop (k + 1)) = T) := by show _ = _; rw [hT2, List.append_assoc, ← HC2.out]; exact HTT.out.1
      have HMN : Hid (max (max mm E2) (manyOf ((rs.map RowV.cells).drop (k + 1))) = M) := by show _ = _; rw [← HTT.out.2, HM2.out, hE2]; omega
      have HOW := Lib.hid hown
      have HB1 := Lib.hid hbel
      have KK := Lib.hid (show k ≤ rs.length ∧ k < rs.length from ⟨hk, hlt⟩)
      have hk9 : k ≤ 1000 := by omega
      clear hown hbel hr hrow hT2 hE2 HTT HC2 HM2 HE
      go_wp2_with fail
      clear c0
      go_loopw [4, 8, 28] (fun v a i wr => LoopIR w k r T2 E2 v a i wr) (fun _ _ i _ => r.length - (intOf i).toNat)
      case atStart => exact ⟨0, 0, out, Nat.zero_le _, rfl, rfl, HOW.out, by omega, by omega, HSI.out, HB1.out⟩
      case round =>
        obtain ⟨j, p, out, hj, rfl, rfl, hown, hlen, hp, HTT, hbel⟩ := hrel
        obtain ⟨A1, C1, rfl⟩ := own_open hown
        have hw := hbel.size
        by_cases hlt2 : j < r.length
        · obtain ⟨b2, off2, rfl, hb2, hc⟩ := lcells_flat r wr B ra (hR.out.below hbel hB) hlt2
          obtain ⟨⟨xl, xm, xs⟩, hx⟩ : ∃ x, x = r.getD j LCellV.zero := ⟨_, rfl⟩
          rw [← hx] at hc
          have t0 : wr.cell? ⟨b2, off2 + j * 3, none⟩ = some (.int .i64 xl) := hc 0 _ rfl
          have t1 : wr.cell? ⟨b2, off2 + j * 3 + 1, none⟩ = some (.int .i64 xm) := hc 1 _ rfl
          have t2 : wr.cell? ⟨b2, off2 + j * 3 + 2, none⟩ = some (.int .i64 xs) := hc 2 _ rfl
          clear hc
          by_cases hfull : 100 ≤ p
          · have HRE : Hid (out = T2 ∧ p = E2) := ⟨by rw [← HTT.out.1, rowCells_full hfull, List.append_nil], by rw [← HTT.out.2, rowEnd_full hfull]⟩
            have HX := Lib.hid hx
            clear hx
            go_wp2_with fail
            exact ⟨⟨j + 1, p, out, by omega, by go_num, rfl, hown.alloc _, hlen, hp, ⟨by rw [rowCells_full hfull, List.append_nil]; exact HRE.out.1, by rw [rowEnd_full hfull]; exact HRE.out.2⟩, below_alloc hbel _⟩, by simp [intOf]; omega⟩
          · have hpl : p < 100 := by omega
            have HCD := Lib.hid (rowCells_drop r hlt2 hpl)
            have HED := Lib.hid (rowEnd_drop r hlt2 hpl)
            rw [← hx] at HCD HED
            have hsb := spanAt_bd p xs hpl
            have hsi := spanAt_int p xs hpl
            have HMK : Hid (mkCell p ⟨xl, xm, xs⟩ = ⟨max 0 (cut xl), max (cut xm) (max 0 (cut xl)), p, spanAt p xs⟩) := rfl
            simp only at HCD HED
            obtain ⟨sp, hsp⟩ : ∃ x, x = spanAt p xs := ⟨_, rfl⟩
            rw [← hsp] at HCD HED HMK hsb hsi
            have QQ := Lib.hid (show j ≤ r.length ∧ j < r.length from ⟨hj, hlt2⟩)
            have HOW2 := Lib.hid hown
            have HB2 := Lib.hid hbel
            have hX := (Blk.new wr 114 #[.int .i64 xl, .int .i64 xm, .int .i64 xs]).drew
            have hS0 : (fun w' : World => w'.cell? ⟨wr.heap.size, 0, none⟩ = some (.int .i64 xl) ∧ w'.cell? ⟨wr.heap.size, 1, none⟩ = some (.int .i64 xm) ∧ w'.cell? ⟨wr.heap.size, 2, none⟩ = some (.int .i64 xs)) (wr.alloc (.cells #[.int .i64 xl, .int .i64 xm, .int .i64 xs] 114)).drew := ⟨hX.cell 0, hX.cell 1, hX.cell 2⟩
            have hX0 := Blk.new wr 114 #[.int .i64 xl, .int .i64 xm, .int .i64 xs]
            have hYS : ∀ o, (fun w' : World => w'.cell? ⟨wr.heap.size, 0, none⟩ = some (.int .i64 xl) ∧ w'.cell? ⟨wr.heap.size, 1, none⟩ = some (.int .i64 xm) ∧ w'.cell? ⟨wr.heap.size, 2, none⟩ = some (.int .i64 xs)) (((wr.alloc (.cells #[.int .i64 xl, .int .i64 xm, .int .i64 xs] 114)).alloc o)).drew := fun o => ⟨(hX0.alloc o).drew.cell 0, (hX0.alloc o).drew.cell 1, (hX0.alloc o).drew.cell 2⟩
            have HYS := Lib.hid hYS
            have hsi2 : (if 100 - (p : Int) < if 50 < max xs 1 then 50 else max xs 1 then 100 - (p : Int) else if 50 < max xs 1 then 50 else max xs 1) = (sp : Int) := by rw [hsi]; omega
            have HSI2 := Lib.hid hsi2
            have e100 : IntKind.i64.wrap (100 - (p : Int)) = 100 - (p : Int) := IntWalk.i64_in _ (by omega)
            clear hx hsp hown hbel hX hX0 hYS hsi hsi2
            go_wp2_with fail
            refine wp_region_noPanic ?_
            refine region_M (S := fun w' => w'.cell? ⟨wr.heap.size, 0, none⟩ = some (.int .i64 xl) ∧ w'.cell? ⟨wr.heap.size, 1, none⟩ = some (.int .i64 xm) ∧ w'.cell? ⟨wr.heap.size, 2, none⟩ = some (.int .i64 xs)) (T := [15]) (by kernel_rfl) ?_
            refine anyM_free (i := 0) (oi := { dst := some 34, op := _, type := _, pos := _, after := _, guard := _ }) (v := ?_) rfl (by kernel_rfl) (fun _ _ _ h => h) (Or.inl ⟨by kernel_rfl, ?_⟩) (fun _ => hS0) ?_
            rotate_left 1
            · (intro w hSw; (try dsimp only at hSw); go_simp; try with_reducible rfl)
            try simp only [Act.put, Array.toArray_toList, List.setIfInBounds_toArray, List.set_cons_zero, List.set_cons_succ]
            refine anyM_take (i := 1) (oi := { dst := some 35, op := _, type := _, pos := _, after := _, guard := _ }) (v := ?_) rfl (by kernel_rfl) (fun _ _ _ h => h) (Or.inl ⟨by kernel_rfl, ?_⟩) hS0 ?_
            rotate_left 1
            · (intro w hSw; (try dsimp only at hSw); go_simp; try with_reducible rfl)
            try simp only [Act.put, Array.toArray_toList, List.setIfInBounds_toArray, List.set_cons_zero, List.set_cons_succ]
            refine anyM_free (i := 3) (oi := { dst := some 37, op := _, type := _, pos := _, after := _, guard := _ }) (v := ?_) rfl (by kernel_rfl) (fun _ _ _ h => h) (Or.inl ⟨by kernel_rfl, ?_⟩) (fun _ => hS0) ?_
            rotate_left 1
            · (intro w hSw; (try dsimp only at hSw); go_simp; try with_reducible rfl)
            try simp only [Act.put, Array.toArray_toList, List.setIfInBounds_toArray, List.set_cons_zero, List.set_cons_succ]
            refine anyM_take (i := 4) (oi := { dst := some 38, op := _, type := _, pos := _, after := _, guard := _ }) (v := ?_) rfl (by kernel_rfl) (fun _ _ _ h => h) (Or.inl ⟨by kernel_rfl, ?_⟩) hS0 ?_
            rotate_left 1
            · (intro w hSw; (try dsimp only at hSw); go_simp; try with_reducible rfl)
            try simp only [Act.put, Array.toArray_toList, List.setIfInBounds_toArray, List.set_cons_zero, List.set_cons_succ]
            refine anyM_free (i := 6) (oi := { dst := some 40, op := _, type := _, pos := _, after := _, guard := _ }) (v := ?_) rfl (by kernel_rfl) (fun _ _ _ h => h) (Or.inl ⟨by kernel_rfl, ?_⟩) (fun _ => hS0) ?_
            rotate_left 1
            · (intro w hSw; (try dsimp only at hSw); go_simp; try with_reducible rfl)
            try simp only [Act.put, Array.toArray_toList, List.setIfInBounds_toArray, List.set_cons_zero, List.set_cons_succ]
            refine anyM_free (i := 7) (oi := { dst := some 41, op := _, type := _, pos := _, after := _, guard := _ }) (v := ?_) rfl (by kernel_rfl) (fun _ _ _ h => h) (Or.inl ⟨by kernel_rfl, ?_⟩) (fun _ => hS0) ?_
            rotate_left 1
            · (intro w hSw; (try dsimp only at hSw); go_simp; try with_reducible rfl)
            try simp only [Act.put, Array.toArray_toList, List.setIfInBounds_toArray, List.set_cons_zero, List.set_cons_succ]
            refine anyM_take (i := 8) (oi := { dst := some 42, op := _, type := _, pos := _, after := _, guard := _ }) (v := ?_) rfl (by kernel_rfl) (fun _ _ _ h => h) (Or.inl ⟨by kernel_rfl, ?_⟩) hS0 ?_
            rotate_left 1
            · (intro w hSw; (try dsimp only at hSw); go_simp; try with_reducible rfl)
            try simp only [Act.put, Array.toArray_toList, List.setIfInBounds_toArray, List.set_cons_zero, List.set_cons_succ]
            refine anyM_free (i := 9) (oi := { dst := some 43, op := _, type := _, pos := _, after := _, guard := _ }) (v := ?_) rfl (by kernel_rfl) (fun _ _ _ h => h) (Or.inl ⟨by kernel_rfl, ?_⟩) (fun _ => hS0) ?_
            rotate_left 1
            · (intro w hSw; (try dsimp only at hSw); go_simp; try with_reducible rfl)
            try simp only [Act.put, Array.toArray_toList, List.setIfInBounds_toArray, List.set_cons_zero, List.set_cons_succ]
            refine anyM_free (i := 10) (oi := { dst := some 44, op := _, type := _, pos := _, after := _, guard := _ }) (v := ?_) rfl (by kernel_rfl) (fun _ _ _ h => h) (Or.inl ⟨by kernel_rfl, ?_⟩) (fun _ => hS0) ?_
            rotate_left 1
            · (intro w hSw; (try dsimp only at hSw); go_simp; try with_reducible rfl)
            try simp only [Act.put, Array.toArray_toList, List.setIfInBounds_toArray, List.set_cons_zero, List.set_cons_succ]
            refine anyM_free (i := 11) (oi := { dst := some 45, op := _, type := _, pos := _, after := _, guard := _ }) (v := ?_) rfl (by kernel_rfl) (fun _ _ _ h => h) (Or.inl ⟨by kernel_rfl, ?_⟩) (fun _ => hS0) ?_
            rotate_left 1
            · (intro w hSw; (try dsimp only at hSw); go_simp; try with_reducible rfl)
            try simp only [Act.put, Array.toArray_toList, List.setIfInBounds_toArray, List.set_cons_zero, List.set_cons_succ]
            refine anyM_free (i := 12) (oi := { dst := some 46, op := _, type := _, pos := _, after := _, guard := _ }) (v := ?_) rfl (by kernel_rfl) (fun _ _ _ h => h) (Or.inl ⟨by kernel_rfl, ?_⟩) (fun _ => hS0) ?_
            rotate_left 1
            · (intro w hSw; (try dsimp only at hSw); go_simp; try with_reducible rfl)
            try simp only [Act.put, Array.toArray_toList, List.setIfInBounds_toArray, List.set_cons_zero, List.set_cons_succ]
            refine anyM_two (i := 2) (j := 14) (by kernel_rfl) rfl rfl (fun K hK => ?_) (fun K hK => ?_)
            · skip
              go_simp
              refine (rsize_calls _ _).mono ?_
              rintro e' w' ⟨rfl, rfl⟩
              refine hK.out _ _ (fun _ => hS0) ?_
              clear hK K
              try simp only [Act.put, Array.toArray_toList, List.setIfInBounds_toArray, List.set_cons_zero, List.set_cons_succ]
              refine anyM_two (i := 5) (j := 14) (by kernel_rfl) rfl rfl (fun K hK => ?_) (fun K hK => ?_)
              · skip
                go_simp
                refine (rcut_calls _ _).mono ?_
                rintro e' w' ⟨rfl, rfl⟩
                refine hK.out _ _ (fun _ => hS0) ?_
                clear hK K
                try simp only [Act.put, Array.toArray_toList, List.setIfInBounds_toArray, List.set_cons_zero, List.set_cons_succ]
                refine anyM_free (i := 13) (oi := { dst := some 47, op := _, type := _, pos := _, after := _, guard := _ }) (v := ?_) rfl (by kernel_rfl) (fun _ _ _ h => h) (Or.inl ⟨by kernel_rfl, ?_⟩) (fun _ => hS0) ?_
                rotate_left 1
                · (intro w hSw; (try dsimp only at hSw); go_simp; try with_reducible rfl)
                try simp only [Act.put, Array.toArray_toList, List.setIfInBounds_toArray, List.set_cons_zero, List.set_cons_succ]
                refine anyM_one (i := 14) (by kernel_rfl) rfl (fun K hK => ?_)
                go_simp
                have hS0 := HYS.out (.cells #[.int .i64 0, .int .i64 0, .int .i64 0, .int .i64 0] 116)
                refine hK.out _ _ (fun _ => hS0) ?_
                clear hK K
                try simp only [Act.put, Array.toArray_toList, List.setIfInBounds_toArray, List.set_cons_zero, List.set_cons_succ]
                refine anyM_one (i := 15) (by kernel_rfl) rfl (fun K hK => ?_)
                go_simp
                refine hK.out _ _ (fun h => late_no h (by kernel_rfl)) ?_
                clear hK K
                try simp only [Act.put, Array.toArray_toList, List.setIfInBounds_toArray, List.set_cons_zero, List.set_cons_succ]
                refine anyM_done (by kernel_rfl) ?_ _
                refine NoPanic.normal ?_
                rw [HSI2.out]
                have hY := (Blk.new (wr.alloc (.cells #[.int .i64 xl, .int .i64 xm, .int .i64 xs] 114)) 116 #[.int .i64 (max 0 (cut xl)), .int .i64 (cut xm), .int .i64 p, .int .i64 sp]).drew
                have hO := ((HOW2.out.alloc (.cells #[.int .i64 xl, .int .i64 xm, .int .i64 xs] 114)).alloc (.cells #[.int .i64 (max 0 (cut xl)), .int .i64 (cut xm), .int .i64 p, .int .i64 sp] 116)).drew
                have hBq := (below_alloc (below_alloc HB2.out (.cells #[.int .i64 xl, .int .i64 xm, .int .i64 xs] 114)) (.cells #[.int .i64 (max 0 (cut xl)), .int .i64 (cut xm), .int .i64 p, .int .i64 sp] 116)).drew
                simp only [alloc_size] at hY
                clear hS0
                generalize hwq : World.drew (World.alloc (World.alloc wr _) _) = wq at hY hO hBq ⊢
                clear hwq
                obtain ⟨gy, hgy⟩ : ∃ x, x = wr.heap.size + 1 := ⟨_, rfl⟩
                have hne : Value.ownBlock (.slice A1 out.length C1) ≠ some gy := fun e => by have := (HOW2.out.lt _ e).2; omega
                rw [← hgy] at hY ⊢
                have hgw : w.heap.size ≤ gy := by omega
                have y0 : wq.cell? ⟨gy, 0, none⟩ = some (.int .i64 (max 0 (cut xl))) := hY.cell 0
                have y1 : wq.cell? ⟨gy, 1, none⟩ = some (.int .i64 (cut xm)) := hY.cell 1
                have z1 : wq.frozen? ⟨gy, 1, none⟩ = false := hY.free 1
                have hY2 := hY.stored 1 (.int .i64 (max (cut xm) (max 0 (cut xl))))
                have hO2 := own_setFar (b := gy) (j := 1) (u := .int .i64 (max (cut xm) (max 0 (cut xl)))) hO hne
                have hB3 := below_set hBq (b := gy) (off := 1) hgw (.int .i64 (max (cut xm) (max 0 (cut xl))))
                have HNE := Lib.hid hne
                have HY2 := Lib.hid hY2
                have HO2 := Lib.hid hO2
                have HB3 := Lib.hid hB3
                clear hY hO hBq hY2 hO2 hB3 hne hgy t0 t1 t2 e100 HSI2 HOW2 HB2 HYS
                go_upto_region 13 with fail
                clear y0 y1 z1
                have y0 : (wq.setCell ⟨gy, 1, none⟩ (.int .i64 (max (cut xm) (max 0 (cut xl))))).cell? ⟨gy, 0, none⟩ = some (.int .i64 (max 0 (cut xl))) := HY2.out.cell 0
                have y1 : (wq.setCell ⟨gy, 1, none⟩ (.int .i64 (max (cut xm) (max 0 (cut xl))))).cell? ⟨gy, 1, none⟩ = some (.int .i64 (max (cut xm) (max 0 (cut xl)))) := HY2.out.cell 1
                have y2 : (wq.setCell ⟨gy, 1, none⟩ (.int .i64 (max (cut xm) (max 0 (cut xl))))).cell? ⟨gy, 2, none⟩ = some (.int .i64 p) := HY2.out.cell 2
                have y3 : (wq.setCell ⟨gy, 1, none⟩ (.int .i64 (max (cut xm) (max 0 (cut xl))))).cell? ⟨gy, 3, none⟩ = some (.int .i64 sp) := HY2.out.cell 3
                have hls : out.length ≤ 200000 := by omega
                generalize World.setCell wq _ _ = ws at y0 y1 y2 y3 HY2 HO2 HB3 ⊢
                go_upto_region 14 with (at_builtin; refine wpList_append_lies rfl _ _ 111 rfl w.heap.size 116 i0 _ 4 32 Try.underlying111 hi hz0 hz1 hz2 rfl (by decide) _ _ _ rfl (HO2.out.alloc _) ⟨ws.heap.size, 0, none⟩ 1 1 (cellF ⟨max 0 (cut xl), max (cut xm) (max 0 (cut xl)), p, sp⟩) rfl rfl (cells_atT ws (cellF ⟨max 0 (cut xl), max (cut xm) (max 0 (cut xl)), p, sp⟩) 116 ws.heap.size rfl) (cellF_one _) (by decide) (by unfold maxLen; omega) (by omega) (by have := HB3.out.size; simp; omega) _ rfl ?_; intro g9 cap9 w9 ho9 hg9 hat9 hlt9)
                have hb9 := below_grownA (below_alloc HB3.out _) HO2.out hg9
                rw [← cells_snoc] at ho9
                have HO9 := Lib.hid ho9
                have HB9 := Lib.hid hb9
                have hY9 := blk_grown (HY2.out.alloc _) hg9 HNE.out
                have y9 : w9.cell? ⟨gy, 3, none⟩ = some (.int .i64 sp) := hY9.cell 3
                clear y0 y1 y2 y3 ho9 hb9 hg9 hat9 hY9 HY2 HO2 HB3 HNE
                go_wp2_with fail
                exact ⟨⟨j + 1, p + sp, out ++ [mkCell p ⟨xl, xm, xs⟩], by have := QQ.out; omega, by go_num, by go_num, by rw [HMK.out, List.length_append]; exact HO9.out, by rw [List.length_append]; simp; omega, by omega, ⟨by rw [← HTT.out.1, HCD.out, List.append_assoc]; rfl, by rw [← HTT.out.2, HED.out]⟩, HB9.out⟩, by have := QQ.out; simp [intOf]; omega⟩
              · skip
                go_simp
                have hS0 := HYS.out (.cells #[.int .i64 0, .int .i64 0, .int .i64 0, .int .i64 0] 116)
                refine hK.out _ _ (fun _ => hS0) ?_
                clear hK K
                try simp only [Act.put, Array.toArray_toList, List.setIfInBounds_toArray, List.set_cons_zero, List.set_cons_succ]
                refine anyM_one (i := 5) (by kernel_rfl) rfl (fun K hK => ?_)
                go_simp
                refine (rcut_calls _ _).mono ?_
                rintro e' w' ⟨rfl, rfl⟩
                refine hK.out _ _ (fun _ => hS0) ?_
                clear hK K
                try simp only [Act.put, Array.toArray_toList, List.setIfInBounds_toArray, List.set_cons_zero, List.set_cons_succ]
                refine anyM_free (i := 13) (oi := { dst := some 47, op := _, type := _, pos := _, after := _, guard := _ }) (v := ?_) rfl (by kernel_rfl) (fun _ _ _ h => h) (Or.inl ⟨by kernel_rfl, ?_⟩) (fun _ => hS0) ?_
                rotate_left 1
                · (intro w hSw; (try dsimp only at hSw); go_simp; try with_reducible rfl)
                try simp only [Act.put, Array.toArray_toList, List.setIfInBounds_toArray, List.set_cons_zero, List.set_cons_succ]
                refine anyM_one (i := 15) (by kernel_rfl) rfl (fun K hK => ?_)
                go_simp
                refine hK.out _ _ (fun h => late_no h (by kernel_rfl)) ?_
                clear hK K
                try simp only [Act.put, Array.toArray_toList, List.setIfInBounds_toArray, List.set_cons_zero, List.set_cons_succ]
                refine anyM_done (by kernel_rfl) ?_ _
                refine NoPanic.normal ?_
                rw [HSI2.out]
                have hY := (Blk.new (wr.alloc (.cells #[.int .i64 xl, .int .i64 xm, .int .i64 xs] 114)) 116 #[.int .i64 (max 0 (cut xl)), .int .i64 (cut xm), .int .i64 p, .int .i64 sp]).drew
                have hO := ((HOW2.out.alloc (.cells #[.int .i64 xl, .int .i64 xm, .int .i64 xs] 114)).alloc (.cells #[.int .i64 (max 0 (cut xl)), .int .i64 (cut xm), .int .i64 p, .int .i64 sp] 116)).drew
                have hBq := (below_alloc (below_alloc HB2.out (.cells #[.int .i64 xl, .int .i64 xm, .int .i64 xs] 114)) (.cells #[.int .i64 (max 0 (cut xl)), .int .i64 (cut xm), .int .i64 p, .int .i64 sp] 116)).drew
                simp only [alloc_size] at hY
                clear hS0
                generalize hwq : World.drew (World.alloc (World.alloc wr _) _) = wq at hY hO hBq ⊢
                clear hwq
                obtain ⟨gy, hgy⟩ : ∃ x, x = wr.heap.size + 1 := ⟨_, rfl⟩
                have hne : Value.ownBlock (.slice A1 out.length C1) ≠ some gy := fun e => by have := (HOW2.out.lt _ e).2; omega
                rw [← hgy] at hY ⊢
                have hgw : w.heap.size ≤ gy := by omega
                have y0 : wq.cell? ⟨gy, 0, none⟩ = some (.int .i64 (max 0 (cut xl))) := hY.cell 0
                have y1 : wq.cell? ⟨gy, 1, none⟩ = some (.int .i64 (cut xm)) := hY.cell 1
                have z1 : wq.frozen? ⟨gy, 1, none⟩ = false := hY.free 1
                have hY2 := hY.stored 1 (.int .i64 (max (cut xm) (max 0 (cut xl))))
                have hO2 := own_setFar (b := gy) (j := 1) (u := .int .i64 (max (cut xm) (max 0 (cut xl)))) hO hne
                have hB3 := below_set hBq (b := gy) (off := 1) hgw (.int .i64 (max (cut xm) (max 0 (cut xl))))
                have HNE := Lib.hid hne
                have HY2 := Lib.hid hY2
                have HO2 := Lib.hid hO2
                have HB3 := Lib.hid hB3
                clear hY hO hBq hY2 hO2 hB3 hne hgy t0 t1 t2 e100 HSI2 HOW2 HB2 HYS
                go_upto_region 13 with fail
                clear y0 y1 z1
                have y0 : (wq.setCell ⟨gy, 1, none⟩ (.int .i64 (max (cut xm) (max 0 (cut xl))))).cell? ⟨gy, 0, none⟩ = some (.int .i64 (max 0 (cut xl))) := HY2.out.cell 0
                have y1 : (wq.setCell ⟨gy, 1, none⟩ (.int .i64 (max (cut xm) (max 0 (cut xl))))).cell? ⟨gy, 1, none⟩ = some (.int .i64 (max (cut xm) (max 0 (cut xl)))) := HY2.out.cell 1
                have y2 : (wq.setCell ⟨gy, 1, none⟩ (.int .i64 (max (cut xm) (max 0 (cut xl))))).cell? ⟨gy, 2, none⟩ = some (.int .i64 p) := HY2.out.cell 2
                have y3 : (wq.setCell ⟨gy, 1, none⟩ (.int .i64 (max (cut xm) (max 0 (cut xl))))).cell? ⟨gy, 3, none⟩ = some (.int .i64 sp) := HY2.out.cell 3
                have hls : out.length ≤ 200000 := by omega
                generalize World.setCell wq _ _ = ws at y0 y1 y2 y3 HY2 HO2 HB3 ⊢
                go_upto_region 14 with (at_builtin; refine wpList_append_lies rfl _ _ 111 rfl w.heap.size 116 i0 _ 4 32 Try.underlying111 hi hz0 hz1 hz2 rfl (by decide) _ _ _ rfl (HO2.out.alloc _) ⟨ws.heap.size, 0, none⟩ 1 1 (cellF ⟨max 0 (cut xl), max (cut xm) (max 0 (cut xl)), p, sp⟩) rfl rfl (cells_atT ws (cellF ⟨max 0 (cut xl), max (cut xm) (max 0 (cut xl)), p, sp⟩) 116 ws.heap.size rfl) (cellF_one _) (by decide) (by unfold maxLen; omega) (by omega) (by have := HB3.out.size; simp; omega) _ rfl ?_; intro g9 cap9 w9 ho9 hg9 hat9 hlt9)
                have hb9 := below_grownA (below_alloc HB3.out _) HO2.out hg9
                rw [← cells_snoc] at ho9
                have HO9 := Lib.hid ho9
                have HB9 := Lib.hid hb9
                have hY9 := blk_grown (HY2.out.alloc _) hg9 HNE.out
                have y9 : w9.cell? ⟨gy, 3, none⟩ = some (.int .i64 sp) := hY9.cell 3
                clear y0 y1 y2 y3 ho9 hb9 hg9 hat9 hY9 HY2 HO2 HB3 HNE
                go_wp2_with fail
                exact ⟨⟨j + 1, p + sp, out ++ [mkCell p ⟨xl, xm, xs⟩], by have := QQ.out; omega, by go_num, by go_num, by rw [HMK.out, List.length_append]; exact HO9.out, by rw [List.length_append]; simp; omega, by omega, ⟨by rw [← HTT.out.1, HCD.out, List.append_assoc]; rfl, by rw [← HTT.out.2, HED.out]⟩, HB9.out⟩, by have := QQ.out; simp [intOf]; omega⟩
            · skip
              go_simp
              have hS0 := HYS.out (.cells #[.int .i64 0, .int .i64 0, .int .i64 0, .int .i64 0] 116)
              refine hK.out _ _ (fun _ => hS0) ?_
              clear hK K
              try simp only [Act.put, Array.toArray_toList, List.setIfInBounds_toArray, List.set_cons_zero, List.set_cons_succ]
              refine anyM_one (i := 2) (by kernel_rfl) rfl (fun K hK => ?_)
              go_simp
              refine (rsize_calls _ _).mono ?_
              rintro e' w' ⟨rfl, rfl⟩
              refine hK.out _ _ (fun _ => hS0) ?_
              clear hK K
              try simp only [Act.put, Array.toArray_toList, List.setIfInBounds_toArray, List.set_cons_zero, List.set_cons_succ]
              refine anyM_one (i := 5) (by kernel_rfl) rfl (fun K hK => ?_)
              go_simp
              refine (rcut_calls _ _).mono ?_
              rintro e' w' ⟨rfl, rfl⟩
              refine hK.out _ _ (fun _ => hS0) ?_
              clear hK K
              try simp only [Act.put, Array.toArray_toList, List.setIfInBounds_toArray, List.set_cons_zero, List.set_cons_succ]
              refine anyM_free (i := 13) (oi := { dst := some 47, op := _, type := _, pos := _, after := _, guard := _ }) (v := ?_) rfl (by kernel_rfl) (fun _ _ _ h => h) (Or.inl ⟨by kernel_rfl, ?_⟩) (fun _ => hS0) ?_
              rotate_left 1
              · (intro w hSw; (try dsimp only at hSw); go_simp; try with_reducible rfl)
              try simp only [Act.put, Array.toArray_toList, List.setIfInBounds_toArray, List.set_cons_zero, List.set_cons_succ]
              refine anyM_one (i := 15) (by kernel_rfl) rfl (fun K hK => ?_)
              go_simp
              refine hK.out _ _ (fun h => late_no h (by kernel_rfl)) ?_
              clear hK K
              try simp only [Act.put, Array.toArray_toList, List.setIfInBounds_toArray, List.set_cons_zero, List.set_cons_succ]
              refine anyM_done (by kernel_rfl) ?_ _
              refine NoPanic.normal ?_
              rw [HSI2.out]
              have hY := (Blk.new (wr.alloc (.cells #[.int .i64 xl, .int .i64 xm, .int .i64 xs] 114)) 116 #[.int .i64 (max 0 (cut xl)), .int .i64 (cut xm), .int .i64 p, .int .i64 sp]).drew
              have hO := ((HOW2.out.alloc (.cells #[.int .i64 xl, .int .i64 xm, .int .i64 xs] 114)).alloc (.cells #[.int .i64 (max 0 (cut xl)), .int .i64 (cut xm), .int .i64 p, .int .i64 sp] 116)).drew
              have hBq := (below_alloc (below_alloc HB2.out (.cells #[.int .i64 xl, .int .i64 xm, .int .i64 xs] 114)) (.cells #[.int .i64 (max 0 (cut xl)), .int .i64 (cut xm), .int .i64 p, .int .i64 sp] 116)).drew
              simp only [alloc_size] at hY
              clear hS0
              generalize hwq : World.drew (World.alloc (World.alloc wr _) _) = wq at hY hO hBq ⊢
              clear hwq
              obtain ⟨gy, hgy⟩ : ∃ x, x = wr.heap.size + 1 := ⟨_, rfl⟩
              have hne : Value.ownBlock (.slice A1 out.length C1) ≠ some gy := fun e => by have := (HOW2.out.lt _ e).2; omega
              rw [← hgy] at hY ⊢
              have hgw : w.heap.size ≤ gy := by omega
              have y0 : wq.cell? ⟨gy, 0, none⟩ = some (.int .i64 (max 0 (cut xl))) := hY.cell 0
              have y1 : wq.cell? ⟨gy, 1, none⟩ = some (.int .i64 (cut xm)) := hY.cell 1
              have z1 : wq.frozen? ⟨gy, 1, none⟩ = false := hY.free 1
              have hY2 := hY.stored 1 (.int .i64 (max (cut xm) (max 0 (cut xl))))
              have hO2 := own_setFar (b := gy) (j := 1) (u := .int .i64 (max (cut xm) (max 0 (cut xl)))) hO hne
              have hB3 := below_set hBq (b := gy) (off := 1) hgw (.int .i64 (max (cut xm) (max 0 (cut xl))))
              have HNE := Lib.hid hne
              have HY2 := Lib.hid hY2
              have HO2 := Lib.hid hO2
              have HB3 := Lib.hid hB3
              clear hY hO hBq hY2 hO2 hB3 hne hgy t0 t1 t2 e100 HSI2 HOW2 HB2 HYS
              go_upto_region 13 with fail
              clear y0 y1 z1
              have y0 : (wq.setCell ⟨gy, 1, none⟩ (.int .i64 (max (cut xm) (max 0 (cut xl))))).cell? ⟨gy, 0, none⟩ = some (.int .i64 (max 0 (cut xl))) := HY2.out.cell 0
              have y1 : (wq.setCell ⟨gy, 1, none⟩ (.int .i64 (max (cut xm) (max 0 (cut xl))))).cell? ⟨gy, 1, none⟩ = some (.int .i64 (max (cut xm) (max 0 (cut xl)))) := HY2.out.cell 1
              have y2 : (wq.setCell ⟨gy, 1, none⟩ (.int .i64 (max (cut xm) (max 0 (cut xl))))).cell? ⟨gy, 2, none⟩ = some (.int .i64 p) := HY2.out.cell 2
              have y3 : (wq.setCell ⟨gy, 1, none⟩ (.int .i64 (max (cut xm) (max 0 (cut xl))))).cell? ⟨gy, 3, none⟩ = some (.int .i64 sp) := HY2.out.cell 3
              have hls : out.length ≤ 200000 := by omega
              generalize World.setCell wq _ _ = ws at y0 y1 y2 y3 HY2 HO2 HB3 ⊢
              go_upto_region 14 with (at_builtin; refine wpList_append_lies rfl _ _ 111 rfl w.heap.size 116 i0 _ 4 32 Try.underlying111 hi hz0 hz1 hz2 rfl (by decide) _ _ _ rfl (HO2.out.alloc _) ⟨ws.heap.size, 0, none⟩ 1 1 (cellF ⟨max 0 (cut xl), max (cut xm) (max 0 (cut xl)), p, sp⟩) rfl rfl (cells_atT ws (cellF ⟨max 0 (cut xl), max (cut xm) (max 0 (cut xl)), p, sp⟩) 116 ws.heap.size rfl) (cellF_one _) (by decide) (by unfold maxLen; omega) (by omega) (by have := HB3.out.size; simp; omega) _ rfl ?_; intro g9 cap9 w9 ho9 hg9 hat9 hlt9)
              have hb9 := below_grownA (below_alloc HB3.out _) HO2.out hg9
              rw [← cells_snoc] at ho9
              have HO9 := Lib.hid ho9
              have HB9 := Lib.hid hb9
              have hY9 := blk_grown (HY2.out.alloc _) hg9 HNE.out
              have y9 : w9.cell? ⟨gy, 3, none⟩ = some (.int .i64 sp) := hY9.cell 3
              clear y0 y1 y2 y3 ho9 hb9 hg9 hat9 hY9 HY2 HO2 HB3 HNE
              go_wp2_with fail
              exact ⟨⟨j + 1, p + sp, out ++ [mkCell p ⟨xl, xm, xs⟩], by have := QQ.out; omega, by go_num, by go_num, by rw [HMK.out, List.length_append]; exact HO9.out, by rw [List.length_append]; simp; omega, by omega, ⟨by rw [← HTT.out.1, HCD.out, List.append_assoc]; rfl, by rw [← HTT.out.2, HED.out]⟩, HB9.out⟩, by have := QQ.out; simp [intOf]; omega⟩
        · obtain rfl : j = r.length := by omega
          have HRE : Hid (out = T2 ∧ p = E2) := ⟨by rw [← HTT.out.1, List.drop_length, rowCells, List.append_nil], by rw [← HTT.out.2, List.drop_length, rowEnd]⟩
          go_wp2_with fail
          exact ⟨⟨k + 1, max mm p, out, by have := KK.out; omega, by go_num, by rw [show ((max mm p : Nat) : Int) = max (mm : Int) (p : Int) by omega], hown, by omega, by omega, ⟨by rw [HRE.out.1]; exact HTN.out, by rw [HRE.out.2]; exact HMN.out⟩, hbel⟩, by have := KK.out; simp [intOf]; omega⟩
    · obtain rfl : k = rs.length := by omega
      have HRE : Hid (out = T ∧ mm = M) := ⟨by rw [← HTT.out.1, List.drop_of_length_le (by simp), cellsOf, List.append_nil], by rw [← HTT.out.2, List.drop_of_length_le (by simp), manyOf]; omega⟩
      have HOW := Lib.hid hown
      have HB1 := Lib.hid hbel
      obtain ⟨e1, e2⟩ := HRE.out
      have e1 := e1.symm
      have e2 := e2.symm
      subst e1
      subst e2
      clear hown hbel HST HTT
      obtain ⟨wq, rfl⟩ : ∃ x, x = wr := ⟨_, rfl⟩
      have hb0 : Below wq.heap.size wq wq.drew := (Below.refl _ wq).drew
      have hS0 := True.intro
      go_upto_region 18 with fail
      go_cut [12, 13] from 67 to 70 (fun a b wx => Made3 wq M a b wx)
      case first =>
        refine wp_region_noPanic ?_
        refine region_M (S := fun w' => True) (T := []) (by kernel_rfl) ?_
        refine anyM_free (i := 0) (oi := { dst := some 67, op := _, type := _, pos := _, after := _, guard := _ }) (v := ?_) rfl (by kernel_rfl) (fun _ _ _ h => h) (Or.inl ⟨by kernel_rfl, ?_⟩) (fun _ => hS0) ?_
        rotate_left 1
        · (intro w hSw; (try dsimp only at hSw); go_simp; try with_reducible rfl)
        try simp only [Act.put, Array.toArray_toList, List.setIfInBounds_toArray, List.set_cons_zero, List.set_cons_succ]
        refine anyM_free (i := 2) (oi := { dst := some 69, op := _, type := _, pos := _, after := _, guard := _ }) (v := ?_) rfl (by kernel_rfl) (fun _ _ _ h => h) (Or.inl ⟨by kernel_rfl, ?_⟩) (fun _ => hS0) ?_
        rotate_left 1
        · (intro w hSw; (try dsimp only at hSw); go_simp; try with_reducible rfl)
        try simp only [Act.put, Array.toArray_toList, List.setIfInBounds_toArray, List.set_cons_zero, List.set_cons_succ]
        refine anyM_three (i := 1) (j := 3) (k := 4) (by kernel_rfl) rfl rfl rfl (fun K hK => ?_) (fun K hK => ?_) (fun K hK => ?_)
        · skip
          generalize World.drew wq = w0 at hb0 ⊢
          have bgL : wq.heap.size ≤ w0.heap.size := hb0.size
          refine step_mk rfl (.tmp 67) (.tmp 67) 64 rfl wq.heap.size 3 j0 (.int .i64 0) 1 Try.underlying64 hj0 hy0 hy1 .i64 .i64 _ _ M rfl rfl rfl rfl (by rw [hy2]; omega) (by unfold maxLen; omega) bgL ?_
          intro w1 hoL hg0
          have hs0 := below_made (Below.refl _ w0) hg0
          have hb1 := below_made hb0 hg0
          clear hs0 hg0 
          generalize w0.heap.size = gL at hoL bgL ⊢
          refine hK.out _ _ (fun _ => hS0) ?_
          clear hK K
          try simp only [Act.put, Array.toArray_toList, List.setIfInBounds_toArray, List.set_cons_zero, List.set_cons_succ]
          refine anyM_two (i := 3) (j := 4) (by kernel_rfl) rfl rfl (fun K hK => ?_) (fun K hK => ?_)
          · skip
            have lgL : gL < w1.heap.size := (hoL.lt _ rfl).2
            have ngLgM : gL ≠ w1.heap.size := Nat.ne_of_lt lgL
            have bgM : wq.heap.size ≤ w1.heap.size := hb1.size
            refine step_mk rfl (.tmp 69) (.tmp 69) 64 rfl wq.heap.size 3 j0 (.int .i64 0) 1 Try.underlying64 hj0 hy0 hy1 .i64 .i64 _ _ M rfl rfl rfl rfl (by rw [hy2]; omega) (by unfold maxLen; omega) bgM ?_
            intro w2 hoM hg1
            have hs1 := below_made (Below.refl _ w1) hg1
            have hb2 := below_made hb1 hg1
            have hoL := own_below hoL hs1
            clear hs1 hg1 lgL
            generalize w1.heap.size = gM at hoM ngLgM bgM ⊢
            refine hK.out _ _ (fun _ => hS0) ?_
            clear hK K
            try simp only [Act.put, Array.toArray_toList, List.setIfInBounds_toArray, List.set_cons_zero, List.set_cons_succ]
            refine anyM_one (i := 4) (by kernel_rfl) rfl (fun K hK => ?_)
            have lgL : gL < w2.heap.size := (hoL.lt _ rfl).2
            have ngLpM : gL ≠ w2.heap.size := Nat.ne_of_lt lgL
            have lgM : gM < w2.heap.size := (hoM.lt _ rfl).2
            have ngMpM : gM ≠ w2.heap.size := Nat.ne_of_lt lgM
            have bpM : wq.heap.size ≤ w2.heap.size := hb2.size
            go_simp
            have hP := Blk.new w2 64 #[.slice none 0 0]
            have hb3 := below_alloc hb2 (.cells #[.slice none 0 0] 64)
            have hoL := hoL.alloc (.cells #[.slice none 0 0] 64)
            have hoM := hoM.alloc (.cells #[.slice none 0 0] 64)
            clear lgL lgM
            generalize World.alloc w2 _ = w3 at hP hb3 hoL hoM ⊢
            generalize w2.heap.size = pM at hP ngLpM ngMpM bpM ⊢
            refine hK.out _ _ (fun _ => hS0) ?_
            clear hK K
            try simp only [Act.put, Array.toArray_toList, List.setIfInBounds_toArray, List.set_cons_zero, List.set_cons_succ]
            refine anyM_free (i := 5) (oi := { dst := some 12, op := _, type := _, pos := _, after := _, guard := _ }) (v := ?_) rfl (by kernel_rfl) (fun _ _ _ h => h) (Or.inl ⟨by kernel_rfl, ?_⟩) (fun _ => hS0) ?_
            rotate_left 1
            · (intro w hSw; (try dsimp only at hSw); go_simp; try with_reducible rfl)
            try simp only [Act.put, Array.toArray_toList, List.setIfInBounds_toArray, List.set_cons_zero, List.set_cons_succ]
            refine anyM_one (i := 6) (by kernel_rfl) rfl (fun K hK => ?_)
            have q0 := hP.cell 0
            have z0 := hP.free 0
            go_simp
            have hP2 := hP.stored 0 (.slice (some ⟨gM, 0, none⟩) M M)
            have hoL := own_setFar (b := pM) (j := 0) (u := .slice (some ⟨gM, 0, none⟩) M M) hoL (by simp [Value.ownBlock]; exact ngLpM)
            have hoM := own_setFar (b := pM) (j := 0) (u := .slice (some ⟨gM, 0, none⟩) M M) hoM (by simp [Value.ownBlock]; exact ngMpM)
            have hb4 := below_set hb3 (b := pM) (off := 0) bpM (.slice (some ⟨gM, 0, none⟩) M M)
            have HMT := Lib.hid (show Made3 wq M (.slice (some ⟨gL, 0, none⟩) M M) (.pointer (some ⟨pM, 0, none⟩)) _ from ⟨gL, gM, pM, rfl, rfl, ngLgM, ngLpM, ngMpM, bgL, bgM, bpM, by rw [fn_zero]; exact hoL, by rw [fn_zero]; exact hoM, hP2, hb4⟩)
            clear q0 z0 hP hP2 hoL hoM hb3 hb4
            refine hK.out _ _ (fun _ => hS0) ?_
            clear hK K
            try simp only [Act.put, Array.toArray_toList, List.setIfInBounds_toArray, List.set_cons_zero, List.set_cons_succ]
            refine anyM_done (by kernel_rfl) ?_ _
            refine NoPanic.normal ?_
            try simp only [Act.put, List.getElem_toArray, List.getElem_cons_succ, List.getElem_cons_zero, Array.toArray_toList, List.setIfInBounds_toArray, List.set_cons_zero, List.set_cons_succ]
            go_wp2_with fail
            go_meet
            case rel => exact HMT.out
          · skip
            have lgL : gL < w1.heap.size := (hoL.lt _ rfl).2
            have ngLpM : gL ≠ w1.heap.size := Nat.ne_of_lt lgL
            have bpM : wq.heap.size ≤ w1.heap.size := hb1.size
            go_simp
            have hP := Blk.new w1 64 #[.slice none 0 0]
            have hb2 := below_alloc hb1 (.cells #[.slice none 0 0] 64)
            have hoL := hoL.alloc (.cells #[.slice none 0 0] 64)
            clear lgL
            generalize World.alloc w1 _ = w2 at hP hb2 hoL ⊢
            generalize w1.heap.size = pM at hP ngLpM bpM ⊢
            refine hK.out _ _ (fun _ => hS0) ?_
            clear hK K
            try simp only [Act.put, Array.toArray_toList, List.setIfInBounds_toArray, List.set_cons_zero, List.set_cons_succ]
            refine anyM_free (i := 5) (oi := { dst := some 12, op := _, type := _, pos := _, after := _, guard := _ }) (v := ?_) rfl (by kernel_rfl) (fun _ _ _ h => h) (Or.inl ⟨by kernel_rfl, ?_⟩) (fun _ => hS0) ?_
            rotate_left 1
            · (intro w hSw; (try dsimp only at hSw); go_simp; try with_reducible rfl)
            try simp only [Act.put, Array.toArray_toList, List.setIfInBounds_toArray, List.set_cons_zero, List.set_cons_succ]
            refine anyM_one (i := 3) (by kernel_rfl) rfl (fun K hK => ?_)
            have lgL : gL < w2.heap.size := (hoL.lt _ rfl).2
            have ngLgM : gL ≠ w2.heap.size := Nat.ne_of_lt lgL
            have lpM : pM < w2.heap.size := hP.lt
            have npMgM : pM ≠ w2.heap.size := Nat.ne_of_lt lpM
            have bgM : wq.heap.size ≤ w2.heap.size := hb2.size
            refine step_mk rfl (.tmp 69) (.tmp 69) 64 rfl wq.heap.size 3 j0 (.int .i64 0) 1 Try.underlying64 hj0 hy0 hy1 .i64 .i64 _ _ M rfl rfl rfl rfl (by rw [hy2]; omega) (by unfold maxLen; omega) bgM ?_
            intro w3 hoM hg2
            have hs2 := below_made (Below.refl _ w2) hg2
            have hb3 := below_made hb2 hg2
            have hoL := own_below hoL hs2
            have hP := hP.below hs2 hP.lt
            clear hs2 hg2 lgL lpM
            generalize w2.heap.size = gM at hoM ngLgM npMgM bgM ⊢
            refine hK.out _ _ (fun _ => hS0) ?_
            clear hK K
            try simp only [Act.put, Array.toArray_toList, List.setIfInBounds_toArray, List.set_cons_zero, List.set_cons_succ]
            refine anyM_one (i := 6) (by kernel_rfl) rfl (fun K hK => ?_)
            have q0 := hP.cell 0
            have z0 := hP.free 0
            go_simp
            have hP2 := hP.stored 0 (.slice (some ⟨gM, 0, none⟩) M M)
            have hoL := own_setFar (b := pM) (j := 0) (u := .slice (some ⟨gM, 0, none⟩) M M) hoL (by simp [Value.ownBlock]; exact ngLpM)
            have hoM := own_setFar (b := pM) (j := 0) (u := .slice (some ⟨gM, 0, none⟩) M M) hoM (by simp [Value.ownBlock]; exact (fun e => npMgM e.symm))
            have hb4 := below_set hb3 (b := pM) (off := 0) bpM (.slice (some ⟨gM, 0, none⟩) M M)
            have HMT := Lib.hid (show Made3 wq M (.slice (some ⟨gL, 0, none⟩) M M) (.pointer (some ⟨pM, 0, none⟩)) _ from ⟨gL, gM, pM, rfl, rfl, ngLgM, ngLpM, (fun e => npMgM e.symm), bgL, bgM, bpM, by rw [fn_zero]; exact hoL, by rw [fn_zero]; exact hoM, hP2, hb4⟩)
            clear q0 z0 hP hP2 hoL hoM hb3 hb4
            refine hK.out _ _ (fun _ => hS0) ?_
            clear hK K
            try simp only [Act.put, Array.toArray_toList, List.setIfInBounds_toArray, List.set_cons_zero, List.set_cons_succ]
            refine anyM_done (by kernel_rfl) ?_ _
            refine NoPanic.normal ?_
            try simp only [Act.put, List.getElem_toArray, List.getElem_cons_succ, List.getElem_cons_zero, Array.toArray_toList, List.setIfInBounds_toArray, List.set_cons_zero, List.set_cons_succ]
            go_wp2_with fail
            go_meet
            case rel => exact HMT.out
        · skip
          generalize World.drew wq = w0 at hb0 ⊢
          have bgM : wq.heap.size ≤ w0.heap.size := hb0.size
          refine step_mk rfl (.tmp 69) (.tmp 69) 64 rfl wq.heap.size 3 j0 (.int .i64 0) 1 Try.underlying64 hj0 hy0 hy1 .i64 .i64 _ _ M rfl rfl rfl rfl (by rw [hy2]; omega) (by unfold maxLen; omega) bgM ?_
          intro w1 hoM hg0
          have hs0 := below_made (Below.refl _ w0) hg0
          have hb1 := below_made hb0 hg0
          clear hs0 hg0 
          generalize w0.heap.size = gM at hoM bgM ⊢
          refine hK.out _ _ (fun _ => hS0) ?_
          clear hK K
          try simp only [Act.put, Array.toArray_toList, List.setIfInBounds_toArray, List.set_cons_zero, List.set_cons_succ]
          refine anyM_two (i := 1) (j := 4) (by kernel_rfl) rfl rfl (fun K hK => ?_) (fun K hK => ?_)
          · skip
            have lgM : gM < w1.heap.size := (hoM.lt _ rfl).2
            have ngMgL : gM ≠ w1.heap.size := Nat.ne_of_lt lgM
            have bgL : wq.heap.size ≤ w1.heap.size := hb1.size
            refine step_mk rfl (.tmp 67) (.tmp 67) 64 rfl wq.heap.size 3 j0 (.int .i64 0) 1 Try.underlying64 hj0 hy0 hy1 .i64 .i64 _ _ M rfl rfl rfl rfl (by rw [hy2]; omega) (by unfold maxLen; omega) bgL ?_
            intro w2 hoL hg1
            have hs1 := below_made (Below.refl _ w1) hg1
            have hb2 := below_made hb1 hg1
            have hoM := own_below hoM hs1
            clear hs1 hg1 lgM
            generalize w1.heap.size = gL at hoL ngMgL bgL ⊢
            refine hK.out _ _ (fun _ => hS0) ?_
            clear hK K
            try simp only [Act.put, Array.toArray_toList, List.setIfInBounds_toArray, List.set_cons_zero, List.set_cons_succ]
            refine anyM_one (i := 4) (by kernel_rfl) rfl (fun K hK => ?_)
            have lgM : gM < w2.heap.size := (hoM.lt _ rfl).2
            have ngMpM : gM ≠ w2.heap.size := Nat.ne_of_lt lgM
            have lgL : gL < w2.heap.size := (hoL.lt _ rfl).2
            have ngLpM : gL ≠ w2.heap.size := Nat.ne_of_lt lgL
            have bpM : wq.heap.size ≤ w2.heap.size := hb2.size
            go_simp
            have hP := Blk.new w2 64 #[.slice none 0 0]
            have hb3 := below_alloc hb2 (.cells #[.slice none 0 0] 64)
            have hoM := hoM.alloc (.cells #[.slice none 0 0] 64)
            have hoL := hoL.alloc (.cells #[.slice none 0 0] 64)
            clear lgM lgL
            generalize World.alloc w2 _ = w3 at hP hb3 hoM hoL ⊢
            generalize w2.heap.size = pM at hP ngMpM ngLpM bpM ⊢
            refine hK.out _ _ (fun _ => hS0) ?_
            clear hK K
            try simp only [Act.put, Array.toArray_toList, List.setIfInBounds_toArray, List.set_cons_zero, List.set_cons_succ]
            refine anyM_free (i := 5) (oi := { dst := some 12, op := _, type := _, pos := _, after := _, guard := _ }) (v := ?_) rfl (by kernel_rfl) (fun _ _ _ h => h) (Or.inl ⟨by kernel_rfl, ?_⟩) (fun _ => hS0) ?_
            rotate_left 1
            · (intro w hSw; (try dsimp only at hSw); go_simp; try with_reducible rfl)
            try simp only [Act.put, Array.toArray_toList, List.setIfInBounds_toArray, List.set_cons_zero, List.set_cons_succ]
            refine anyM_one (i := 6) (by kernel_rfl) rfl (fun K hK => ?_)
            have q0 := hP.cell 0
            have z0 := hP.free 0
            go_simp
            have hP2 := hP.stored 0 (.slice (some ⟨gM, 0, none⟩) M M)
            have hoL := own_setFar (b := pM) (j := 0) (u := .slice (some ⟨gM, 0, none⟩) M M) hoL (by simp [Value.ownBlock]; exact ngLpM)
            have hoM := own_setFar (b := pM) (j := 0) (u := .slice (some ⟨gM, 0, none⟩) M M) hoM (by simp [Value.ownBlock]; exact ngMpM)
            have hb4 := below_set hb3 (b := pM) (off := 0) bpM (.slice (some ⟨gM, 0, none⟩) M M)
            have HMT := Lib.hid (show Made3 wq M (.slice (some ⟨gL, 0, none⟩) M M) (.pointer (some ⟨pM, 0, none⟩)) _ from ⟨gL, gM, pM, rfl, rfl, (fun e => ngMgL e.symm), ngLpM, ngMpM, bgL, bgM, bpM, by rw [fn_zero]; exact hoL, by rw [fn_zero]; exact hoM, hP2, hb4⟩)
            clear q0 z0 hP hP2 hoL hoM hb3 hb4
            refine hK.out _ _ (fun _ => hS0) ?_
            clear hK K
            try simp only [Act.put, Array.toArray_toList, List.setIfInBounds_toArray, List.set_cons_zero, List.set_cons_succ]
            refine anyM_done (by kernel_rfl) ?_ _
            refine NoPanic.normal ?_
            try simp only [Act.put, List.getElem_toArray, List.getElem_cons_succ, List.getElem_cons_zero, Array.toArray_toList, List.setIfInBounds_toArray, List.set_cons_zero, List.set_cons_succ]
            go_wp2_with fail
            go_meet
            case rel => exact HMT.out
          · skip
            have lgM : gM < w1.heap.size := (hoM.lt _ rfl).2
            have ngMpM : gM ≠ w1.heap.size := Nat.ne_of_lt lgM
            have bpM : wq.heap.size ≤ w1.heap.size := hb1.size
            go_simp
            have hP := Blk.new w1 64 #[.slice none 0 0]
            have hb2 := below_alloc hb1 (.cells #[.slice none 0 0] 64)
            have hoM := hoM.alloc (.cells #[.slice none 0 0] 64)
            clear lgM
            generalize World.alloc w1 _ = w2 at hP hb2 hoM ⊢
            generalize w1.heap.size = pM at hP ngMpM bpM ⊢
            refine hK.out _ _ (fun _ => hS0) ?_
            clear hK K
            try simp only [Act.put, Array.toArray_toList, List.setIfInBounds_toArray, List.set_cons_zero, List.set_cons_succ]
            refine anyM_one (i := 1) (by kernel_rfl) rfl (fun K hK => ?_)
            have lgM : gM < w2.heap.size := (hoM.lt _ rfl).2
            have ngMgL : gM ≠ w2.heap.size := Nat.ne_of_lt lgM
            have lpM : pM < w2.heap.size := hP.lt
            have npMgL : pM ≠ w2.heap.size := Nat.ne_of_lt lpM
            have bgL : wq.heap.size ≤ w2.heap.size := hb2.size
            refine step_mk rfl (.tmp 67) (.tmp 67) 64 rfl wq.heap.size 3 j0 (.int .i64 0) 1 Try.underlying64 hj0 hy0 hy1 .i64 .i64 _ _ M rfl rfl rfl rfl (by rw [hy2]; omega) (by unfold maxLen; omega) bgL ?_
            intro w3 hoL hg2
            have hs2 := below_made (Below.refl _ w2) hg2
            have hb3 := below_made hb2 hg2
            have hoM := own_below hoM hs2
            have hP := hP.below hs2 hP.lt
            clear hs2 hg2 lgM lpM
            generalize w2.heap.size = gL at hoL ngMgL npMgL bgL ⊢
            refine hK.out _ _ (fun _ => hS0) ?_
            clear hK K
            try simp only [Act.put, Array.toArray_toList, List.setIfInBounds_toArray, List.set_cons_zero, List.set_cons_succ]
            refine anyM_free (i := 5) (oi := { dst := some 12, op := _, type := _, pos := _, after := _, guard := _ }) (v := ?_) rfl (by kernel_rfl) (fun _ _ _ h => h) (Or.inl ⟨by kernel_rfl, ?_⟩) (fun _ => hS0) ?_
            rotate_left 1
            · (intro w hSw; (try dsimp only at hSw); go_simp; try with_reducible rfl)
            try simp only [Act.put, Array.toArray_toList, List.setIfInBounds_toArray, List.set_cons_zero, List.set_cons_succ]
            refine anyM_one (i := 6) (by kernel_rfl) rfl (fun K hK => ?_)
            have q0 := hP.cell 0
            have z0 := hP.free 0
            go_simp
            have hP2 := hP.stored 0 (.slice (some ⟨gM, 0, none⟩) M M)
            have hoL := own_setFar (b := pM) (j := 0) (u := .slice (some ⟨gM, 0, none⟩) M M) hoL (by simp [Value.ownBlock]; exact (fun e => npMgL e.symm))
            have hoM := own_setFar (b := pM) (j := 0) (u := .slice (some ⟨gM, 0, none⟩) M M) hoM (by simp [Value.ownBlock]; exact ngMpM)
            have hb4 := below_set hb3 (b := pM) (off := 0) bpM (.slice (some ⟨gM, 0, none⟩) M M)
            have HMT := Lib.hid (show Made3 wq M (.slice (some ⟨gL, 0, none⟩) M M) (.pointer (some ⟨pM, 0, none⟩)) _ from ⟨gL, gM, pM, rfl, rfl, (fun e => ngMgL e.symm), (fun e => npMgL e.symm), ngMpM, bgL, bgM, bpM, by rw [fn_zero]; exact hoL, by rw [fn_zero]; exact hoM, hP2, hb4⟩)
            clear q0 z0 hP hP2 hoL hoM hb3 hb4
            refine hK.out _ _ (fun _ => hS0) ?_
            clear hK K
            try simp only [Act.put, Array.toArray_toList, List.setIfInBounds_toArray, List.set_cons_zero, List.set_cons_succ]
            refine anyM_done (by kernel_rfl) ?_ _
            refine NoPanic.normal ?_
            try simp only [Act.put, List.getElem_toArray, List.getElem_cons_succ, List.getElem_cons_zero, Array.toArray_toList, List.setIfInBounds_toArray, List.set_cons_zero, List.set_cons_succ]
            go_wp2_with fail
            go_meet
            case rel => exact HMT.out
        · skip
          generalize World.drew wq = w0 at hb0 ⊢
          have bpM : wq.heap.size ≤ w0.heap.size := hb0.size
          go_simp
          have hP := Blk.new w0 64 #[.slice none 0 0]
          have hb1 := below_alloc hb0 (.cells #[.slice none 0 0] 64)
          generalize World.alloc w0 _ = w1 at hP hb1 ⊢
          generalize w0.heap.size = pM at hP bpM ⊢
          refine hK.out _ _ (fun _ => hS0) ?_
          clear hK K
          try simp only [Act.put, Array.toArray_toList, List.setIfInBounds_toArray, List.set_cons_zero, List.set_cons_succ]
          refine anyM_two (i := 1) (j := 3) (by kernel_rfl) rfl rfl (fun K hK => ?_) (fun K hK => ?_)
          · skip
            have lpM : pM < w1.heap.size := hP.lt
            have npMgL : pM ≠ w1.heap.size := Nat.ne_of_lt lpM
            have bgL : wq.heap.size ≤ w1.heap.size := hb1.size
            refine step_mk rfl (.tmp 67) (.tmp 67) 64 rfl wq.heap.size 3 j0 (.int .i64 0) 1 Try.underlying64 hj0 hy0 hy1 .i64 .i64 _ _ M rfl rfl rfl rfl (by rw [hy2]; omega) (by unfold maxLen; omega) bgL ?_
            intro w2 hoL hg1
            have hs1 := below_made (Below.refl _ w1) hg1
            have hb2 := below_made hb1 hg1
            have hP := hP.below hs1 hP.lt
            clear hs1 hg1 lpM
            generalize w1.heap.size = gL at hoL npMgL bgL ⊢
            refine hK.out _ _ (fun _ => hS0) ?_
            clear hK K
            try simp only [Act.put, Array.toArray_toList, List.setIfInBounds_toArray, List.set_cons_zero, List.set_cons_succ]
            refine anyM_free (i := 5) (oi := { dst := some 12, op := _, type := _, pos := _, after := _, guard := _ }) (v := ?_) rfl (by kernel_rfl) (fun _ _ _ h => h) (Or.inl ⟨by kernel_rfl, ?_⟩) (fun _ => hS0) ?_
            rotate_left 1
            · (intro w hSw; (try dsimp only at hSw); go_simp; try with_reducible rfl)
            try simp only [Act.put, Array.toArray_toList, List.setIfInBounds_toArray, List.set_cons_zero, List.set_cons_succ]
            refine anyM_one (i := 3) (by kernel_rfl) rfl (fun K hK => ?_)
            have lpM : pM < w2.heap.size := hP.lt
            have npMgM : pM ≠ w2.heap.size := Nat.ne_of_lt lpM
            have lgL : gL < w2.heap.size := (hoL.lt _ rfl).2
            have ngLgM : gL ≠ w2.heap.size := Nat.ne_of_lt lgL
            have bgM : wq.heap.size ≤ w2.heap.size := hb2.size
            refine step_mk rfl (.tmp 69) (.tmp 69) 64 rfl wq.heap.size 3 j0 (.int .i64 0) 1 Try.underlying64 hj0 hy0 hy1 .i64 .i64 _ _ M rfl rfl rfl rfl (by rw [hy2]; omega) (by unfold maxLen; omega) bgM ?_
            intro w3 hoM hg2
            have hs2 := below_made (Below.refl _ w2) hg2
            have hb3 := below_made hb2 hg2
            have hP := hP.below hs2 hP.lt
            have hoL := own_below hoL hs2
            clear hs2 hg2 lpM lgL
            generalize w2.heap.size = gM at hoM npMgM ngLgM bgM ⊢
            refine hK.out _ _ (fun _ => hS0) ?_
            clear hK K
            try simp only [Act.put, Array.toArray_toList, List.setIfInBounds_toArray, List.set_cons_zero, List.set_cons_succ]
            refine anyM_one (i := 6) (by kernel_rfl) rfl (fun K hK => ?_)
            have q0 := hP.cell 0
            have z0 := hP.free 0
            go_simp
            have hP2 := hP.stored 0 (.slice (some ⟨gM, 0, none⟩) M M)
            have hoL := own_setFar (b := pM) (j := 0) (u := .slice (some ⟨gM, 0, none⟩) M M) hoL (by simp [Value.ownBlock]; exact (fun e => npMgL e.symm))
            have hoM := own_setFar (b := pM) (j := 0) (u := .slice (some ⟨gM, 0, none⟩) M M) hoM (by simp [Value.ownBlock]; exact (fun e => npMgM e.symm))
            have hb4 := below_set hb3 (b := pM) (off := 0) bpM (.slice (some ⟨gM, 0, none⟩) M M)
            have HMT := Lib.hid (show Made3 wq M (.slice (some ⟨gL, 0, none⟩) M M) (.pointer (some ⟨pM, 0, none⟩)) _ from ⟨gL, gM, pM, rfl, rfl, ngLgM, (fun e => npMgL e.symm), (fun e => npMgM e.symm), bgL, bgM, bpM, by rw [fn_zero]; exact hoL, by rw [fn_zero]; exact hoM, hP2, hb4⟩)
            clear q0 z0 hP hP2 hoL hoM hb3 hb4
            refine hK.out _ _ (fun _ => hS0) ?_
            clear hK K
            try simp only [Act.put, Array.toArray_toList, List.setIfInBounds_toArray, List.set_cons_zero, List.set_cons_succ]
            refine anyM_done (by kernel_rfl) ?_ _
            refine NoPanic.normal ?_
            try simp only [Act.put, List.getElem_toArray, List.getElem_cons_succ, List.getElem_cons_zero, Array.toArray_toList, List.setIfInBounds_toArray, List.set_cons_zero, List.set_cons_succ]
            go_wp2_with fail
            go_meet
            case rel => exact HMT.out
          · skip
            have lpM : pM < w1.heap.size := hP.lt
            have npMgM : pM ≠ w1.heap.size := Nat.ne_of_lt lpM
            have bgM : wq.heap.size ≤ w1.heap.size := hb1.size
            refine step_mk rfl (.tmp 69) (.tmp 69) 64 rfl wq.heap.size 3 j0 (.int .i64 0) 1 Try.underlying64 hj0 hy0 hy1 .i64 .i64 _ _ M rfl rfl rfl rfl (by rw [hy2]; omega) (by unfold maxLen; omega) bgM ?_
            intro w2 hoM hg1
            have hs1 := below_made (Below.refl _ w1) hg1
            have hb2 := below_made hb1 hg1
            have hP := hP.below hs1 hP.lt
            clear hs1 hg1 lpM
            generalize w1.heap.size = gM at hoM npMgM bgM ⊢
            refine hK.out _ _ (fun _ => hS0) ?_
            clear hK K
            try simp only [Act.put, Array.toArray_toList, List.setIfInBounds_toArray, List.set_cons_zero, List.set_cons_succ]
            refine anyM_one (i := 1) (by kernel_rfl) rfl (fun K hK => ?_)
            have lpM : pM < w2.heap.size := hP.lt
            have npMgL : pM ≠ w2.heap.size := Nat.ne_of_lt lpM
            have lgM : gM < w2.heap.size := (hoM.lt _ rfl).2
            have ngMgL : gM ≠ w2.heap.size := Nat.ne_of_lt lgM
            have bgL : wq.heap.size ≤ w2.heap.size := hb2.size
            refine step_mk rfl (.tmp 67) (.tmp 67) 64 rfl wq.heap.size 3 j0 (.int .i64 0) 1 Try.underlying64 hj0 hy0 hy1 .i64 .i64 _ _ M rfl rfl rfl rfl (by rw [hy2]; omega) (by unfold maxLen; omega) bgL ?_
            intro w3 hoL hg2
            have hs2 := below_made (Below.refl _ w2) hg2
            have hb3 := below_made hb2 hg2
            have hP := hP.below hs2 hP.lt
            have hoM := own_below hoM hs2
            clear hs2 hg2 lpM lgM
            generalize w2.heap.size = gL at hoL npMgL ngMgL bgL ⊢
            refine hK.out _ _ (fun _ => hS0) ?_
            clear hK K
            try simp only [Act.put, Array.toArray_toList, List.setIfInBounds_toArray, List.set_cons_zero, List.set_cons_succ]
            refine anyM_free (i := 5) (oi := { dst := some 12, op := _, type := _, pos := _, after := _, guard := _ }) (v := ?_) rfl (by kernel_rfl) (fun _ _ _ h => h) (Or.inl ⟨by kernel_rfl, ?_⟩) (fun _ => hS0) ?_
            rotate_left 1
            · (intro w hSw; (try dsimp only at hSw); go_simp; try with_reducible rfl)
            try simp only [Act.put, Array.toArray_toList, List.setIfInBounds_toArray, List.set_cons_zero, List.set_cons_succ]
            refine anyM_one (i := 6) (by kernel_rfl) rfl (fun K hK => ?_)
            have q0 := hP.cell 0
            have z0 := hP.free 0
            go_simp
            have hP2 := hP.stored 0 (.slice (some ⟨gM, 0, none⟩) M M)
            have hoL := own_setFar (b := pM) (j := 0) (u := .slice (some ⟨gM, 0, none⟩) M M) hoL (by simp [Value.ownBlock]; exact (fun e => npMgL e.symm))
            have hoM := own_setFar (b := pM) (j := 0) (u := .slice (some ⟨gM, 0, none⟩) M M) hoM (by simp [Value.ownBlock]; exact (fun e => npMgM e.symm))
            have hb4 := below_set hb3 (b := pM) (off := 0) bpM (.slice (some ⟨gM, 0, none⟩) M M)
            have HMT := Lib.hid (show Made3 wq M (.slice (some ⟨gL, 0, none⟩) M M) (.pointer (some ⟨pM, 0, none⟩)) _ from ⟨gL, gM, pM, rfl, rfl, (fun e => ngMgL e.symm), (fun e => npMgL e.symm), (fun e => npMgM e.symm), bgL, bgM, bpM, by rw [fn_zero]; exact hoL, by rw [fn_zero]; exact hoM, hP2, hb4⟩)
            clear q0 z0 hP hP2 hoL hoM hb3 hb4
            refine hK.out _ _ (fun _ => hS0) ?_
            clear hK K
            try simp only [Act.put, Array.toArray_toList, List.setIfInBounds_toArray, List.set_cons_zero, List.set_cons_succ]
            refine anyM_done (by kernel_rfl) ?_ _
            refine NoPanic.normal ?_
            try simp only [Act.put, List.getElem_toArray, List.getElem_cons_succ, List.getElem_cons_zero, Array.toArray_toList, List.setIfInBounds_toArray, List.set_cons_zero, List.set_cons_succ]
            go_wp2_with fail
            go_meet
            case rel => exact HMT.out
      case rest =>
        obtain ⟨gL, gM, pM, rfl, rfl, hne, hne2, hne3, hgL, hgM, hpM, hL, hM, hP, hbel⟩ := hcut
        have HOc := Lib.hid (own_below HOW.out hbel)
        have HBc := Lib.hid (below_then HB1.out hbel)
        obtain ⟨b1, hb1⟩ : ∃ x, x = wq.heap.size := ⟨_, rfl⟩
        have hwb : w.heap.size ≤ b1 := by rw [hb1]; exact HB1.out.size
        rw [← hb1] at hL hM hgL hgM hpM
        have HLc := Lib.hid hL
        have HMc := Lib.hid hM
        have HPc := Lib.hid hP
        have HGL := Lib.hid (show w.heap.size ≤ gL from Nat.le_trans hwb hgL)
        have HGM := Lib.hid (show w.heap.size ≤ gM from Nat.le_trans hwb hgM)
        have HNE := Lib.hid (show gL ≠ gM ∧ gL ≠ pM ∧ gM ≠ pM from ⟨hne, hne2, hne3⟩)
        have l1 : gL < wc.heap.size := (hL.lt _ rfl).2
        have l2 : gM < wc.heap.size := (hM.lt _ rfl).2
        have HNT := Lib.hid (show gL ≠ wc.heap.size ∧ gM ≠ wc.heap.size from ⟨Nat.ne_of_lt l1, Nat.ne_of_lt l2⟩)
        have HTL := Lib.hid (show T.length ≤ 100000 by omega)
        clear hL hM hP hbel hne hne2 hne3 hgL hgM hpM hb1 HOW HB1 hb0 hS0 l1 l2 e1 e2 HRE
        go_upto_region 19 with fail
        go_wp2_with fail
        go_loopw [16] (fun i wr => ∃ s : Nat, 1 ≤ s ∧ s ≤ 51 ∧ i = .int .i64 s ∧ LoopS w b1 gL gM pM wc.heap.size M A1 C1 T (pre T (s - 1)) wr) (fun i _ => 51 - (intOf i).toNat)
        case atStart => exact ⟨1, by omega, by omega, rfl, HOc.out.alloc _, by rw [show pre T (1 - 1) = [] from rfl]; exact HLc.out.alloc _, by rw [show pre T (1 - 1) = [] from rfl]; exact HMc.out.alloc _, HPc.out.alloc _, Blk.new _ _ _, below_alloc HBc.out _⟩
        case round =>
          clear HOc HBc HLc HMc HPc
          obtain ⟨s, hs1, hs2, rfl, hST⟩ := hrel
          have HST := Lib.hid hST
          clear hST
          by_cases hlt : s ≤ 50
          · have hlt' : (s : Int) ≤ 50 := by omega
            go_wp2_with fail
            go_loopw [78] (fun i wr => ∃ k : Nat, k ≤ T.length ∧ i = .int .i64 k ∧ LoopS w b1 gL gM pM wc.heap.size M A1 C1 T (pre T (s - 1) ++ (T.take k).filter (fun c => c.span == s)) wr) (fun i _ => T.length - (intOf i).toNat)
            case atStart => exact ⟨0, Nat.zero_le _, rfl, by rw [List.take_zero, List.filter_nil, List.append_nil]; exact HST.out⟩
            case round =>
              clear HST
              obtain ⟨k, hk, rfl, hO, hL, hM, hP, hF, hbel⟩ := hrel
              have hw := hbel.size
              by_cases hlt2 : k < T.length
              · obtain ⟨bA, oA, rfl, hbA, hc⟩ := cells_flat T wr _ A1 (Holds.of_own hO) hlt2
                have hck := HOK.out (T.getD k CellV.zero) (by simp [List.getD, hlt2])
                have HTK := Lib.hid (filt_step T s k hlt2)
                have hfo := colsF_ok (pre T (s - 1) ++ (T.take k).filter (fun c => c.span == s)) (fun c hc => (HOK.out c (pre_mem T s k c hc)).1)
                have HSN := Lib.hid (fun c => colsF_snoc (pre T (s - 1) ++ (T.take k).filter (fun c => c.span == s)) c)
                obtain ⟨⟨cl, cm, pp, sp⟩, hx⟩ : ∃ x, x = T.getD k CellV.zero := ⟨_, rfl⟩
                rw [← hx] at hc hck HTK
                have t0 : wr.cell? ⟨bA, oA + k * 4, none⟩ = some (.int .i64 cl) := hc 0 _ rfl
                have t1 : wr.cell? ⟨bA, oA + k * 4 + 1, none⟩ = some (.int .i64 cm) := hc 1 _ rfl
                have t2 : wr.cell? ⟨bA, oA + k * 4 + 2, none⟩ = some (.int .i64 pp) := hc 2 _ rfl
                have t3 : wr.cell? ⟨bA, oA + k * 4 + 3, none⟩ = some (.int .i64 sp) := hc 3 _ rfl
                obtain ⟨⟨⟨k0, k1, k2, k3, k4, k5⟩, k6⟩, hq⟩ : (CellOk ⟨cl, cm, pp, sp⟩ ∧ pp + sp ≤ M) ∧ True := ⟨hck, trivial⟩
                simp only at k0 k1 k2 k3 k4 k5
                clear hq hck
                obtain ⟨Xk, hXk⟩ : ∃ x, x = pre T (s - 1) ++ (T.take k).filter (fun c => c.span == s) := ⟨_, rfl⟩
                rw [← hXk] at HTK hfo hL hM HSN
                obtain ⟨⟨st1, st2⟩, hst⟩ : ∃ x, x = colsF Xk := ⟨_, rfl⟩
                have HST2 := Lib.hid hst
                rw [← hst] at hfo hL hM HSN
                obtain ⟨f1, f2⟩ := hfo
                simp only at f1 f2 hL hM
                have hpm : pp < M := by omega
                have QQ := Lib.hid (show k ≤ T.length ∧ k < T.length from ⟨hk, hlt2⟩)
                have HF1 := Lib.hid f1
                have HF2 := Lib.hid f2
                have HOk := Lib.hid hO
                have HLk := Lib.hid hL
                have HMk := Lib.hid hM
                have HPk := Lib.hid hP
                have HFk := Lib.hid hF
                have HBk := Lib.hid hbel
                clear hx hc hst hXk f1 f2 hO hL hM hP hF hbel
                by_cases hsp : sp = s
                · subst hsp
                  have HN := Lib.hid (HTK.out.1 rfl)
                  by_cases hone : sp = 1
                  · have hone1 : ((sp : Int) == 1) = true := by rw [hone]; rfl
                    have HS1 := Lib.hid ((HSN.out ⟨cl, cm, pp, sp⟩).trans (colStep_one hone))
                    clear hone
                    go_upto_region 29 with fail
                    have hX := Blk.new wr 116 #[.int .i64 cl, .int .i64 cm, .int .i64 pp, .int .i64 sp]
                    have hLq := HLk.out.alloc (.cells #[.int .i64 cl, .int .i64 cm, .int .i64 pp, .int .i64 sp] 116)
                    have hMq := HMk.out.alloc (.cells #[.int .i64 cl, .int .i64 cm, .int .i64 pp, .int .i64 sp] 116)
                    have hOq := HOk.out.alloc (.cells #[.int .i64 cl, .int .i64 cm, .int .i64 pp, .int .i64 sp] 116)
                    have hPq := HPk.out.alloc (.cells #[.int .i64 cl, .int .i64 cm, .int .i64 pp, .int .i64 sp] 116)
                    have hFq := HFk.out.alloc (.cells #[.int .i64 cl, .int .i64 cm, .int .i64 pp, .int .i64 sp] 116)
                    have hBq := below_alloc HBk.out (.cells #[.int .i64 cl, .int .i64 cm, .int .i64 pp, .int .i64 sp] 116)
                    have hgx1 : gL ≠ wr.heap.size := by have h : gL < wr.heap.size := (HLk.out.lt _ rfl).2; omega
                    have hgx2 : gM ≠ wr.heap.size := by have h : gM < wr.heap.size := (HMk.out.lt _ rfl).2; omega
                    generalize World.alloc wr _ = wy at hX hLq hMq hOq hPq hFq hBq ⊢
                    generalize wr.heap.size = gx at hX hgx1 hgx2 ⊢
                    have hUL := updF_set M st1 pp (max (st1 pp) cl) hpm
                    have hUM := updF_set M st2 pp (max (st2 pp) cm) hpm
                    have cL : wy.cell? ⟨gL, pp, none⟩ = some (.int .i64 (st1 pp)) := own_cell hLq (fnL_at M pp st1 hpm)
                    have cM : wy.cell? ⟨gM, pp, none⟩ = some (.int .i64 (st2 pp)) := own_cell hMq (fnL_at M pp st2 hpm)
                    have zL : wy.drew.frozen? ⟨gL, pp, none⟩ = false := own_free hLq
                    have zM : wy.drew.frozen? ⟨gM, pp, none⟩ = false := own_free hMq
                    obtain ⟨u1, hu1⟩ : ∃ x, x = updF st1 pp (max (st1 pp) cl) := ⟨_, rfl⟩
                    obtain ⟨u2, hu2⟩ : ∃ x, x = updF st2 pp (max (st2 pp) cm) := ⟨_, rfl⟩
                    have HS2 : Hid (colsF (Xk ++ [⟨cl, cm, pp, sp⟩]) = (u1, u2)) := by show _ = _; rw [HS1.out, hu1, hu2]
                    rw [← hu1] at hUL
                    rw [← hu2] at hUM
                    obtain ⟨a1, ha1⟩ : ∃ x, x = st1 pp := ⟨_, rfl⟩
                    obtain ⟨a2, ha2⟩ : ∃ x, x = st2 pp := ⟨_, rfl⟩
                    rw [← ha1] at cL hUL
                    rw [← ha2] at cM hUM
                    have n1 := HNE.out.1
                    have n2 := HNE.out.2.1
                    have n3 := HNE.out.2.2
                    have n4 := HNT.out.1
                    have n5 := HNT.out.2
                    have hL2 := own_set (j := pp) (u := .int .i64 (max a1 cl)) hLq
                    rw [hUL] at hL2
                    have hM2 := own_setFar (b := gL) (j := pp) (u := .int .i64 (max a1 cl)) hMq (by simp [Value.ownBlock]; exact fun e => n1 e.symm)
                    have hO2 := own_setFar (b := gL) (j := pp) (u := .int .i64 (max a1 cl)) hOq ((ap_type hLq hOq (by decide)).far)
                    have hL3 := own_setFar (b := gM) (j := pp) (u := .int .i64 (max a2 cm)) hL2 (by simp [Value.ownBlock]; exact n1)
                    have hM3 := own_set (j := pp) (u := .int .i64 (max a2 cm)) hM2
                    rw [hUM] at hM3
                    have hO3 := own_setFar (b := gM) (j := pp) (u := .int .i64 (max a2 cm)) hO2 ((ap_type hMq hOq (by decide)).far)
                    have hP3 := (hPq.far (b := gL) (i := pp) (fun e => n2 e.symm) (.int .i64 (max a1 cl))).far (b := gM) (i := pp) (fun e => n3 e.symm) (.int .i64 (max a2 cm))
                    have hF3 := (hFq.far (b := gL) (i := pp) (fun e => n4 e.symm) (.int .i64 (max a1 cl))).far (b := gM) (i := pp) (fun e => n5 e.symm) (.int .i64 (max a2 cm))
                    have hB3 := below_set (below_set hBq (b := gL) (off := pp) HGL.out (.int .i64 (max a1 cl))) (b := gM) (off := pp) HGM.out (.int .i64 (max a2 cm))
                    have cM2 : (wy.setCell ⟨gL, pp, none⟩ (.int .i64 (max a1 cl))).drew.cell? ⟨gM, pp, none⟩ = some (.int .i64 a2) := (World.cell?_setCell_other _ _ _ _ (by intro e; injection e with e1; exact n1 e1)).trans cM
                    have zM2 : (wy.setCell ⟨gL, pp, none⟩ (.int .i64 (max a1 cl))).drew.frozen? ⟨gM, pp, none⟩ = false := own_free hM2
                    have HR := Lib.hid (show LoopS w b1 gL gM pM wc.heap.size M (some ⟨bA, oA, none⟩) C1 T (pre T (sp - 1) ++ (T.take (k + 1)).filter (fun c => c.span == sp)) ((wy.setCell ⟨gL, pp, none⟩ (.int .i64 (max a1 cl))).setCell ⟨gM, pp, none⟩ (.int .i64 (max a2 cm))).drew from by rw [HN.out]; refine ⟨hO3, ?_, ?_, hP3, hF3, hB3.drew⟩ <;> rw [HS2.out]; exact hL3; exact hM3)
                    have hS0 : (fun w' : World => w'.cell? ⟨gL, pp, none⟩ = some (.int .i64 a1) ∧ w'.cell? ⟨gM, pp, none⟩ = some (.int .i64 a2)) wy.drew := ⟨cL, cM⟩
                    have hU0 : (fun w' : World => w'.cell? ⟨gx, 0, none⟩ = some (.int .i64 cl) ∧ w'.cell? ⟨gx, 1, none⟩ = some (.int .i64 cm) ∧ w'.cell? ⟨gx, 2, none⟩ = some (.int .i64 pp) ∧ w'.cell? ⟨pM, 0, none⟩ = some (.slice (some ⟨gM, 0, none⟩) M M)) wy.drew := ⟨hX.cell 0, hX.cell 1, hX.cell 2, hPq.cell 0⟩
                    have hU1 : (fun w' : World => w'.cell? ⟨gx, 0, none⟩ = some (.int .i64 cl) ∧ w'.cell? ⟨gx, 1, none⟩ = some (.int .i64 cm) ∧ w'.cell? ⟨gx, 2, none⟩ = some (.int .i64 pp) ∧ w'.cell? ⟨pM, 0, none⟩ = some (.slice (some ⟨gM, 0, none⟩) M M)) (wy.setCell ⟨gL, pp, none⟩ (.int .i64 (max a1 cl))).drew := ⟨(hX.far (fun e => hgx1 e.symm) _).cell 0, (hX.far (fun e => hgx1 e.symm) _).cell 1, (hX.far (fun e => hgx1 e.symm) _).cell 2, (hPq.far (fun e => n2 e.symm) _).cell 0⟩
                    have hU2 : (fun w' : World => w'.cell? ⟨gx, 0, none⟩ = some (.int .i64 cl) ∧ w'.cell? ⟨gx, 1, none⟩ = some (.int .i64 cm) ∧ w'.cell? ⟨gx, 2, none⟩ = some (.int .i64 pp) ∧ w'.cell? ⟨pM, 0, none⟩ = some (.slice (some ⟨gM, 0, none⟩) M M)) ((wy.setCell ⟨gL, pp, none⟩ (.int .i64 (max a1 cl))).setCell ⟨gM, pp, none⟩ (.int .i64 (max a2 cm))).drew := ⟨((hX.far (fun e => hgx1 e.symm) _).far (fun e => hgx2 e.symm) _).cell 0, ((hX.far (fun e => hgx1 e.symm) _).far (fun e => hgx2 e.symm) _).cell 1, ((hX.far (fun e => hgx1 e.symm) _).far (fun e => hgx2 e.symm) _).cell 2, hP3.cell 0⟩
                    have HU1 := Lib.hid hU1
                    have HU2 := Lib.hid hU2
                    clear hX hLq hMq hOq hPq hFq hBq hUL hUM cL cM hu1 hu2 ha1 ha2 hL2 hM2 hO2 hL3 hM3 hO3 hP3 hF3 hB3 hU1 hU2 t0 t1 t2 t3 HS1 HSN HLk HMk HOk HPk HFk HBk n1 n2 n3 n4 n5
                    go_wp2_with fail
                    refine wp_region_noPanic ?_
                    refine region_N (S := fun w' => w'.cell? ⟨gL, pp, none⟩ = some (.int .i64 a1) ∧ w'.cell? ⟨gM, pp, none⟩ = some (.int .i64 a2)) (U := fun w' => w'.cell? ⟨gx, 0, none⟩ = some (.int .i64 cl) ∧ w'.cell? ⟨gx, 1, none⟩ = some (.int .i64 cm) ∧ w'.cell? ⟨gx, 2, none⟩ = some (.int .i64 pp) ∧ w'.cell? ⟨pM, 0, none⟩ = some (.slice (some ⟨gM, 0, none⟩) M M)) (T := [23, 25]) (by kernel_rfl) ?_
                    refine anyN_free (i := 0) (oi := { dst := some 88, op := _, type := _, pos := _, after := _, guard := _ }) (v := ?_) rfl (by kernel_rfl) (fun _ _ _ h => h) (Or.inl ⟨by kernel_rfl, ?_⟩) (fun _ => hS0) hU0 ?_
                    rotate_left 1
                    · (intro w hSw; (try dsimp only at hSw); go_simp; try with_reducible rfl)
                    try simp only [Act.put, Array.toArray_toList, List.setIfInBounds_toArray, List.set_cons_zero, List.set_cons_succ]
                    refine anyN_free (i := 1) (oi := { dst := some 89, op := _, type := _, pos := _, after := _, guard := _ }) (v := ?_) rfl (by kernel_rfl) (fun _ _ _ h => h) (Or.inl ⟨by kernel_rfl, ?_⟩) (fun _ => hS0) hU0 ?_
                    rotate_left 1
                    · (intro w hSw; (try dsimp only at hSw); go_simp; try with_reducible rfl)
                    try simp only [Act.put, Array.toArray_toList, List.setIfInBounds_toArray, List.set_cons_zero, List.set_cons_succ]
                    refine anyN_keep (i := 2) (oi := { dst := some 90, op := _, type := _, pos := _, after := _, guard := _ }) (v := ?_) rfl (by kernel_rfl) (fun _ _ _ h => h) (Or.inl ⟨by kernel_rfl, ?_⟩) (fun _ => hS0) hU0 ?_
                    rotate_left 1
                    · (intro w hSw; (try dsimp only at hSw); go_simp; try with_reducible rfl)
                    try simp only [Act.put, Array.toArray_toList, List.setIfInBounds_toArray, List.set_cons_zero, List.set_cons_succ]
                    refine anyN_keep (i := 3) (oi := { dst := some 91, op := _, type := _, pos := _, after := _, guard := _ }) (v := ?_) rfl (by kernel_rfl) (fun _ _ _ h => h) (Or.inl ⟨by kernel_rfl, ?_⟩) (fun _ => hS0) hU0 ?_
                    rotate_left 1
                    · (intro w hSw; (try dsimp only at hSw); go_simp; try with_reducible rfl)
                    try simp only [Act.put, Array.toArray_toList, List.setIfInBounds_toArray, List.set_cons_zero, List.set_cons_succ]
                    refine anyN_free (i := 4) (oi := { dst := some 92, op := _, type := _, pos := _, after := _, guard := _ }) (v := ?_) rfl (by kernel_rfl) (fun _ _ _ h => h) (Or.inl ⟨by kernel_rfl, ?_⟩) (fun _ => hS0) hU0 ?_
                    rotate_left 1
                    · (intro w hSw; (try dsimp only at hSw); go_simp; try with_reducible rfl)
                    try simp only [Act.put, Array.toArray_toList, List.setIfInBounds_toArray, List.set_cons_zero, List.set_cons_succ]
                    refine anyN_keep (i := 5) (oi := { dst := some 93, op := _, type := _, pos := _, after := _, guard := _ }) (v := ?_) rfl (by kernel_rfl) (fun _ _ _ h => h) (Or.inl ⟨by kernel_rfl, ?_⟩) (fun _ => hS0) hU0 ?_
                    rotate_left 1
                    · (intro w hSw; (try dsimp only at hSw); go_simp; try with_reducible rfl)
                    try simp only [Act.put, Array.toArray_toList, List.setIfInBounds_toArray, List.set_cons_zero, List.set_cons_succ]
                    refine anyN_free (i := 6) (oi := { dst := some 94, op := _, type := _, pos := _, after := _, guard := _ }) (v := ?_) rfl (by kernel_rfl) (fun _ _ _ h => h) (Or.inl ⟨by kernel_rfl, ?_⟩) (fun _ => hS0) hU0 ?_
                    rotate_left 1
                    · (intro w hSw; (try dsimp only at hSw); go_simp; try with_reducible rfl)
                    try simp only [Act.put, Array.toArray_toList, List.setIfInBounds_toArray, List.set_cons_zero, List.set_cons_succ]
                    refine anyN_free (i := 7) (oi := { dst := some 95, op := _, type := _, pos := _, after := _, guard := _ }) (v := ?_) rfl (by kernel_rfl) (fun _ _ _ h => h) (Or.inl ⟨by kernel_rfl, ?_⟩) (fun _ => hS0) hU0 ?_
                    rotate_left 1
                    · (intro w hSw; (try dsimp only at hSw); go_simp; try with_reducible rfl)
                    try simp only [Act.put, Array.toArray_toList, List.setIfInBounds_toArray, List.set_cons_zero, List.set_cons_succ]
                    refine anyN_keep (i := 8) (oi := { dst := some 96, op := _, type := _, pos := _, after := _, guard := _ }) (v := ?_) rfl (by kernel_rfl) (fun _ _ _ h => h) (Or.inl ⟨by kernel_rfl, ?_⟩) (fun _ => hS0) hU0 ?_
                    rotate_left 1
                    · (intro w hSw; (try dsimp only at hSw); go_simp; try with_reducible rfl)
                    try simp only [Act.put, Array.toArray_toList, List.setIfInBounds_toArray, List.set_cons_zero, List.set_cons_succ]
                    refine anyN_free (i := 9) (oi := { dst := some 97, op := _, type := _, pos := _, after := _, guard := _ }) (v := ?_) rfl (by kernel_rfl) (fun _ _ _ h => h) (Or.inl ⟨by kernel_rfl, ?_⟩) (fun _ => hS0) hU0 ?_
                    rotate_left 1
                    · (intro w hSw; (try dsimp only at hSw); go_simp; try with_reducible rfl)
                    try simp only [Act.put, Array.toArray_toList, List.setIfInBounds_toArray, List.set_cons_zero, List.set_cons_succ]
                    refine anyN_take (i := 10) (oi := { dst := some 98, op := _, type := _, pos := _, after := _, guard := _ }) (v := ?_) rfl (by kernel_rfl) (fun _ _ _ h => h) (Or.inl ⟨by kernel_rfl, ?_⟩) hS0 hU0 ?_
                    rotate_left 1
                    · (intro w hSw; (try dsimp only at hSw); go_simp; try with_reducible rfl)
                    try simp only [Act.put, Array.toArray_toList, List.setIfInBounds_toArray, List.set_cons_zero, List.set_cons_succ]
                    refine anyN_free (i := 11) (oi := { dst := some 99, op := _, type := _, pos := _, after := _, guard := _ }) (v := ?_) rfl (by kernel_rfl) (fun _ _ _ h => h) (Or.inl ⟨by kernel_rfl, ?_⟩) (fun _ => hS0) hU0 ?_
                    rotate_left 1
                    · (intro w hSw; (try dsimp only at hSw); go_simp; try with_reducible rfl)
                    try simp only [Act.put, Array.toArray_toList, List.setIfInBounds_toArray, List.set_cons_zero, List.set_cons_succ]
                    refine anyN_keep (i := 12) (oi := { dst := some 100, op := _, type := _, pos := _, after := _, guard := _ }) (v := ?_) rfl (by kernel_rfl) (fun _ _ _ h => h) (Or.inl ⟨by kernel_rfl, ?_⟩) (fun _ => hS0) hU0 ?_
                    rotate_left 1
                    · (intro w hSw; (try dsimp only at hSw); go_simp; try with_reducible rfl)
                    try simp only [Act.put, Array.toArray_toList, List.setIfInBounds_toArray, List.set_cons_zero, List.set_cons_succ]
                    refine anyN_free (i := 13) (oi := { dst := some 101, op := _, type := _, pos := _, after := _, guard := _ }) (v := ?_) rfl (by kernel_rfl) (fun _ _ _ h => h) (Or.inl ⟨by kernel_rfl, ?_⟩) (fun _ => hS0) hU0 ?_
                    rotate_left 1
                    · (intro w hSw; (try dsimp only at hSw); go_simp; try with_reducible rfl)
                    try simp only [Act.put, Array.toArray_toList, List.setIfInBounds_toArray, List.set_cons_zero, List.set_cons_succ]
                    refine anyN_keep (i := 14) (oi := { dst := some 102, op := _, type := _, pos := _, after := _, guard := _ }) (v := ?_) rfl (by kernel_rfl) (fun _ _ _ h => h) (Or.inl ⟨by kernel_rfl, ?_⟩) (fun _ => hS0) hU0 ?_
                    rotate_left 1
                    · (intro w hSw; (try dsimp only at hSw); go_simp; try with_reducible rfl)
                    try simp only [Act.put, Array.toArray_toList, List.setIfInBounds_toArray, List.set_cons_zero, List.set_cons_succ]
                    refine anyN_free (i := 15) (oi := { dst := some 103, op := _, type := _, pos := _, after := _, guard := _ }) (v := ?_) rfl (by kernel_rfl) (fun _ _ _ h => h) (Or.inl ⟨by kernel_rfl, ?_⟩) (fun _ => hS0) hU0 ?_
                    rotate_left 1
                    · (intro w hSw; (try dsimp only at hSw); go_simp; try with_reducible rfl)
                    try simp only [Act.put, Array.toArray_toList, List.setIfInBounds_toArray, List.set_cons_zero, List.set_cons_succ]
                    refine anyN_keep (i := 16) (oi := { dst := some 104, op := _, type := _, pos := _, after := _, guard := _ }) (v := ?_) rfl (by kernel_rfl) (fun _ _ _ h => h) (Or.inl ⟨by kernel_rfl, ?_⟩) (fun _ => hS0) hU0 ?_
                    rotate_left 1
                    · (intro w hSw; (try dsimp only at hSw); go_simp; try with_reducible rfl)
                    try simp only [Act.put, Array.toArray_toList, List.setIfInBounds_toArray, List.set_cons_zero, List.set_cons_succ]
                    refine anyN_free (i := 17) (oi := { dst := some 105, op := _, type := _, pos := _, after := _, guard := _ }) (v := ?_) rfl (by kernel_rfl) (fun _ _ _ h => h) (Or.inl ⟨by kernel_rfl, ?_⟩) (fun _ => hS0) hU0 ?_
                    rotate_left 1
                    · (intro w hSw; (try dsimp only at hSw); go_simp; try with_reducible rfl)
                    try simp only [Act.put, Array.toArray_toList, List.setIfInBounds_toArray, List.set_cons_zero, List.set_cons_succ]
                    refine anyN_take (i := 18) (oi := { dst := some 106, op := _, type := _, pos := _, after := _, guard := _ }) (v := ?_) rfl (by kernel_rfl) (fun _ _ _ h => h) (Or.inl ⟨by kernel_rfl, ?_⟩) hS0 hU0 ?_
                    rotate_left 1
                    · (intro w hSw; (try dsimp only at hSw); go_simp; try with_reducible rfl)
                    try simp only [Act.put, Array.toArray_toList, List.setIfInBounds_toArray, List.set_cons_zero, List.set_cons_succ]
                    refine anyN_free (i := 19) (oi := { dst := some 107, op := _, type := _, pos := _, after := _, guard := _ }) (v := ?_) rfl (by kernel_rfl) (fun _ _ _ h => h) (Or.inl ⟨by kernel_rfl, ?_⟩) (fun _ => hS0) hU0 ?_
                    rotate_left 1
                    · (intro w hSw; (try dsimp only at hSw); go_simp; try with_reducible rfl)
                    try simp only [Act.put, Array.toArray_toList, List.setIfInBounds_toArray, List.set_cons_zero, List.set_cons_succ]
                    refine anyN_keep (i := 20) (oi := { dst := some 108, op := _, type := _, pos := _, after := _, guard := _ }) (v := ?_) rfl (by kernel_rfl) (fun _ _ _ h => h) (Or.inl ⟨by kernel_rfl, ?_⟩) (fun _ => hS0) hU0 ?_
                    rotate_left 1
                    · (intro w hSw; (try dsimp only at hSw); go_simp; try with_reducible rfl)
                    try simp only [Act.put, Array.toArray_toList, List.setIfInBounds_toArray, List.set_cons_zero, List.set_cons_succ]
                    refine anyN_free (i := 21) (oi := { dst := some 109, op := _, type := _, pos := _, after := _, guard := _ }) (v := ?_) rfl (by kernel_rfl) (fun _ _ _ h => h) (Or.inl ⟨by kernel_rfl, ?_⟩) (fun _ => hS0) hU0 ?_
                    rotate_left 1
                    · (intro w hSw; (try dsimp only at hSw); go_simp; try with_reducible rfl)
                    try simp only [Act.put, Array.toArray_toList, List.setIfInBounds_toArray, List.set_cons_zero, List.set_cons_succ]
                    refine anyN_free (i := 22) (oi := { dst := some 110, op := _, type := _, pos := _, after := _, guard := _ }) (v := ?_) rfl (by kernel_rfl) (fun _ _ _ h => h) (Or.inl ⟨by kernel_rfl, ?_⟩) (fun _ => hS0) hU0 ?_
                    rotate_left 1
                    · (intro w hSw; (try dsimp only at hSw); go_simp; try with_reducible rfl)
                    try simp only [Act.put, Array.toArray_toList, List.setIfInBounds_toArray, List.set_cons_zero, List.set_cons_succ]
                    refine anyN_one (i := 23) (by kernel_rfl) rfl (fun K hK => ?_)
                    go_simp
                    have hU0 := HU1.out
                    refine hK.out _ _ ⟨fun h => late_no h (by kernel_rfl), hU0⟩ ?_
                    clear hK K
                    try simp only [Act.put, Array.toArray_toList, List.setIfInBounds_toArray, List.set_cons_zero, List.set_cons_succ]
                    refine anyN_free (i := 24) (oi := { dst := some 111, op := _, type := _, pos := _, after := _, guard := _ }) (v := ?_) rfl (by kernel_rfl) (fun _ _ _ h => h) (Or.inl ⟨by kernel_rfl, ?_⟩) (fun h => late_no h (by kernel_rfl)) hU0 ?_
                    rotate_left 1
                    · (intro w hSw; (try dsimp only at hSw); go_simp; try with_reducible rfl)
                    try simp only [Act.put, Array.toArray_toList, List.setIfInBounds_toArray, List.set_cons_zero, List.set_cons_succ]
                    refine anyN_one (i := 25) (by kernel_rfl) rfl (fun K hK => ?_)
                    go_simp
                    have hU0 := HU2.out
                    refine hK.out _ _ ⟨fun h => late_no h (by kernel_rfl), hU0⟩ ?_
                    clear hK K
                    try simp only [Act.put, Array.toArray_toList, List.setIfInBounds_toArray, List.set_cons_zero, List.set_cons_succ]
                    refine anyN_done (by kernel_rfl) ?_ _
                    refine NoPanic.normal ?_
                    clear hU0 hS0 zL zM
                    go_wp2_with fail
                    go_roundw
                    case rel => exact ⟨k + 1, by have := QQ.out; omega, by go_num, HR.out⟩
                    case measure => have := QQ.out; simp [intOf]; omega
                  · have HS1 := Lib.hid ((HSN.out ⟨cl, cm, pp, sp⟩).trans (colStep_more hone))
                    have hone' : ((sp : Int) == 1) = false := by simp; omega
                    go_upto_region 30 with fail
                    have hX := Blk.new wr 116 #[.int .i64 cl, .int .i64 cm, .int .i64 pp, .int .i64 sp]
                    have hLq := HLk.out.alloc (.cells #[.int .i64 cl, .int .i64 cm, .int .i64 pp, .int .i64 sp] 116)
                    have hMq := HMk.out.alloc (.cells #[.int .i64 cl, .int .i64 cm, .int .i64 pp, .int .i64 sp] 116)
                    have hOq := HOk.out.alloc (.cells #[.int .i64 cl, .int .i64 cm, .int .i64 pp, .int .i64 sp] 116)
                    have hPq := HPk.out.alloc (.cells #[.int .i64 cl, .int .i64 cm, .int .i64 pp, .int .i64 sp] 116)
                    have hFq := HFk.out.alloc (.cells #[.int .i64 cl, .int .i64 cm, .int .i64 pp, .int .i64 sp] 116)
                    have hBq := below_alloc HBk.out (.cells #[.int .i64 cl, .int .i64 cm, .int .i64 pp, .int .i64 sp] 116)
                    have hgx1 : gL ≠ wr.heap.size := by have h : gL < wr.heap.size := (HLk.out.lt _ rfl).2; omega
                    have hgx2 : gM ≠ wr.heap.size := by have h : gM < wr.heap.size := (HMk.out.lt _ rfl).2; omega
                    generalize World.alloc wr _ = wy at hX hLq hMq hOq hPq hFq hBq ⊢
                    generalize wr.heap.size = gx at hX hgx1 hgx2 ⊢
                    have HX := Lib.hid hX
                    have HLq := Lib.hid hLq
                    have HMq := Lib.hid hMq
                    have HOq := Lib.hid hOq
                    have HPq := Lib.hid hPq
                    have HFq := Lib.hid hFq
                    have HBq := Lib.hid hBq
                    have HCALL := Lib.hid (rmore_calls gL gM pM wc.heap.size pp sp M b1 cl cm st1 st2 cl wy hLq hMq hPq hFq k6 hmm9 (by omega) HF1.out HF2.out (by omega) (by omega))
                    have x0 := hX.cell 0
                    have x1 := hX.cell 1
                    have x2 := hX.cell 2
                    have x3 := hX.cell 3
                    clear hX hLq hMq hOq hPq hFq hBq t0 t1 t2 t3 HSN HLk HMk HOk HPk HFk HBk
                    go_upto_region 31 with (go_at_call 81; refine HCALL.out.mono ?_; rintro e5 w5 ⟨rfl, ho5, hg5⟩)
                    have hX5 := blk_grown HX.out hg5 (by intro e; injection e with e; exact hgx1 e)
                    have hM5 := own_grownOther HMq.out (by simp [Value.ownBlock]; exact fun e => HNE.out.1 e.symm) hg5
                    have hO5 := own_grownOther HOq.out (ap_type HLq.out HOq.out (by decide)).far hg5
                    have hP5 := blk_grown HPq.out hg5 (by intro e; injection e with e; exact HNE.out.2.1 e)
                    have hF5 := blk_grown HFq.out hg5 (by intro e; injection e with e; exact HNT.out.1 e)
                    have hB5 := HBq.out.grown hg5 HBq.out.size (fun x hx => by injection hx with hx; subst hx; exact HGL.out)
                    have HL5 := Lib.hid ho5
                    have HM5 := Lib.hid hM5
                    have HO5 := Lib.hid hO5
                    have HP5 := Lib.hid hP5
                    have HF5 := Lib.hid hF5
                    have HB5 := Lib.hid hB5
                    have HC5 := Lib.hid (rmore_calls gM gM pM wc.heap.size pp sp M b1 cl cm st2 st2 cm w5 hM5 hM5 hP5 hF5 k6 hmm9 (by omega) HF2.out HF2.out (by omega) (by omega))
                    clear x0 x1 x2 x3 HCALL
                    have x0 := hX5.cell 0
                    have x1 := hX5.cell 1
                    have x2 := hX5.cell 2
                    have x3 := hX5.cell 3
                    have p0 := hP5.cell 0
                    clear hX5 hM5 hO5 hP5 hF5 hB5 ho5 hg5 HX HLq HMq HOq HPq HFq HBq
                    go_wp2_with (go_at_call 81; refine HC5.out.mono ?_; rintro e7 w7 ⟨rfl, ho7, hg7⟩)
                    have hL9 := own_grownOther HL5.out (by simp [Value.ownBlock]; exact HNE.out.1) hg7
                    have hO9 := own_grownOther HO5.out (ap_type HM5.out HO5.out (by decide)).far hg7
                    have hP9 := blk_grown HP5.out hg7 (by intro e; injection e with e; exact HNE.out.2.2 e)
                    have hF9 := blk_grown HF5.out hg7 (by intro e; injection e with e; exact HNT.out.2 e)
                    have hB9 := HB5.out.grown hg7 HB5.out.size (fun x hx => by injection hx with hx; subst hx; exact HGM.out)
                    have HR := Lib.hid (show LoopS w b1 gL gM pM wc.heap.size M (some ⟨bA, oA, none⟩) C1 T (pre T (sp - 1) ++ (T.take (k + 1)).filter (fun c => c.span == sp)) w7 from by rw [HN.out]; refine ⟨hO9, ?_, ?_, hP9, hF9, hB9⟩ <;> rw [HS1.out]; exact hL9; exact ho7)
                    exact ⟨⟨k + 1, by have := QQ.out; omega, by go_num, HR.out⟩, by have := QQ.out; simp [intOf]; omega⟩
                · have HN := Lib.hid (HTK.out.2 hsp)
                  have hsp' : ((sp : Int) != (s : Int)) = true := by simp; omega
                  have HR := Lib.hid (show LoopS w b1 gL gM pM wc.heap.size M (some ⟨bA, oA, none⟩) C1 T (pre T (s - 1) ++ (T.take (k + 1)).filter (fun c => c.span == s)) (wr.alloc (.cells #[.int .i64 cl, .int .i64 cm, .int .i64 pp, .int .i64 sp] 116)) from by rw [HN.out]; refine ⟨HOk.out.alloc _, ?_, ?_, HPk.out.alloc _, HFk.out.alloc _, below_alloc HBk.out _⟩ <;> rw [← HST2.out]; exact HLk.out.alloc _; exact HMk.out.alloc _)
                  clear HOk HLk HMk HPk HFk HBk
                  go_wp2_with fail
                  exact ⟨⟨k + 1, by have := QQ.out; omega, by go_num, HR.out⟩, by have := QQ.out; simp [intOf]; omega⟩
              · obtain rfl : k = T.length := by omega
                rw [List.take_length] at hL hM
                have HR := Lib.hid (show LoopS w b1 gL gM pM wc.heap.size M A1 C1 T (pre T (s + 1 - 1)) wr from by rw [Nat.add_sub_cancel, ← pre_step T s hs1]; exact ⟨hO, hL, hM, hP, hF, hbel⟩)
                clear hO hL hM hP hF hbel
                go_wp2_with fail
                exact ⟨⟨s + 1, by omega, by omega, by go_num, HR.out⟩, by simp [intOf]; omega⟩
          · have e51 : s = 51 := by omega
            have hB50 : pre T (s - 1) = bucket T := by rw [e51]; rfl
            rw [hB50] at HST
            have hge : ¬ (s : Int) ≤ 50 := by omega
            clear e51 hB50 hlt
            obtain ⟨hO, hL, hM, hP, hF, hbel⟩ := HST.out
            have HLF : Hid (leastF (bucket T) M = fnL M (colsF (bucket T)).1) := rfl
            have HMF : Hid (mostF (bucket T) M = fnL M (fun i => max ((colsF (bucket T)).2 i) ((colsF (bucket T)).1 i))) := rfl
            obtain ⟨⟨f1, f2⟩, hf⟩ : ∃ x, x = colsF (bucket T) := ⟨_, rfl⟩
            rw [← hf] at hL hM HLF HMF
            simp only at hL hM HLF HMF
            have HL3 := Lib.hid hL
            have HM3 := Lib.hid hM
            have HP3 := Lib.hid hP
            have HB3 := Lib.hid hbel
            have p0 := hP.cell 0
            clear hf hO hL hM hP hF hbel HST
            go_wp2_with fail
            clear p0
            go_loopw [127] (fun i wr => ∃ k : Nat, k ≤ M ∧ i = .int .i64 k ∧ wr.ownsRow b1 3 1 (.slice (some ⟨gM, 0, none⟩) M M) M (ints (turT M f2 (fun i => max (f2 i) (f1 i)) k)) ∧ wr.ownsRow b1 3 1 (.slice (some ⟨gL, 0, none⟩) M M) M (ints (fnL M f1)) ∧ Blk wr pM 64 #[.slice (some ⟨gM, 0, none⟩) M M] ∧ Below w.heap.size w wr) (fun i _ => M - (intOf i).toNat)
            case atStart => exact ⟨0, Nat.zero_le _, rfl, by rw [turT_zero]; exact HM3.out, HL3.out, HP3.out, HB3.out⟩
            case round =>
              clear HL3 HM3 HP3 HB3
              obtain ⟨q, hq, rfl, hM, hL, hP, hbel⟩ := hrel
              by_cases hlt2 : q < M
              · have cM : wr.cell? ⟨gM, q, none⟩ = some (.int .i64 (f2 q)) := (hM.cellAt q (by omega)).trans (by rw [turT_at _ _ _ _ _ hlt2, if_neg (by omega)])
                have cL : wr.cell? ⟨gL, q, none⟩ = some (.int .i64 (f1 q)) := (hL.cellAt q (by omega)).trans (fnL_at _ _ _ hlt2)
                have p0 : wr.cell? ⟨pM, 0, none⟩ = some (.slice (some ⟨gM, 0, none⟩) M M) := hP.cell 0
                have zM : wr.drew.frozen? ⟨gM, q, none⟩ = false := own_free hM
                have HST := Lib.hid (turT_set M q f2 (fun i => max (f2 i) (f1 i)) hlt2)
                obtain ⟨a1, ha1⟩ : ∃ z, z = f1 q := ⟨_, rfl⟩
                obtain ⟨a2, ha2⟩ : ∃ z, z = f2 q := ⟨_, rfl⟩
                rw [← ha1] at cL
                rw [← ha2] at cM
                simp only [← ha1, ← ha2] at HST
                have hM2 := own_set (j := q) (u := .int .i64 (max a2 a1)) hM
                rw [HST.out] at hM2
                have hL2 := own_setFar (b := gM) (j := q) (u := .int .i64 (max a2 a1)) hL (by simp [Value.ownBlock]; exact HNE.out.1)
                have HM5 := Lib.hid hM2
                have HL5 := Lib.hid hL2
                have HP5 := Lib.hid (hP.far (b := gM) (i := q) (fun e => HNE.out.2.2 e.symm) (.int .i64 (max a2 a1)))
                have HB5 := Lib.hid (below_set hbel (b := gM) (off := q) HGM.out (.int .i64 (max a2 a1)))
                have QQ := Lib.hid (show q ≤ M ∧ q < M from ⟨hq, hlt2⟩)
                have hS0 : (fun w' : World => w'.cell? ⟨gM, q, none⟩ = some (.int .i64 a2) ∧ w'.cell? ⟨gL, q, none⟩ = some (.int .i64 a1) ∧ w'.cell? ⟨pM, 0, none⟩ = some (.slice (some ⟨gM, 0, none⟩) M M)) wr.drew := ⟨cM, cL, p0⟩
                clear hL hM hP hbel hM2 hL2 ha1 ha2
                go_wp2_with fail
                refine wp_region_noPanic ?_
                refine region_M (S := fun w' => w'.cell? ⟨gM, q, none⟩ = some (.int .i64 a2) ∧ w'.cell? ⟨gL, q, none⟩ = some (.int .i64 a1) ∧ w'.cell? ⟨pM, 0, none⟩ = some (.slice (some ⟨gM, 0, none⟩) M M)) (T := [12]) (by kernel_rfl) ?_
                refine anyM_take (i := 0) (oi := { dst := some 130, op := _, type := _, pos := _, after := _, guard := _ }) (v := ?_) rfl (by kernel_rfl) (fun _ _ _ h => h) (Or.inl ⟨by kernel_rfl, ?_⟩) hS0 ?_
                rotate_left 1
                · (intro w hSw; (try dsimp only at hSw); go_simp; try with_reducible rfl)
                try simp only [Act.put, Array.toArray_toList, List.setIfInBounds_toArray, List.set_cons_zero, List.set_cons_succ]
                refine anyM_free (i := 1) (oi := { dst := some 131, op := _, type := _, pos := _, after := _, guard := _ }) (v := ?_) rfl (by kernel_rfl) (fun _ _ _ h => h) (Or.inl ⟨by kernel_rfl, ?_⟩) (fun _ => hS0) ?_
                rotate_left 1
                · (intro w hSw; (try dsimp only at hSw); go_simp; try with_reducible rfl)
                try simp only [Act.put, Array.toArray_toList, List.setIfInBounds_toArray, List.set_cons_zero, List.set_cons_succ]
                refine anyM_take (i := 2) (oi := { dst := some 132, op := _, type := _, pos := _, after := _, guard := _ }) (v := ?_) rfl (by kernel_rfl) (fun _ _ _ h => h) (Or.inl ⟨by kernel_rfl, ?_⟩) hS0 ?_
                rotate_left 1
                · (intro w hSw; (try dsimp only at hSw); go_simp; try with_reducible rfl)
                try simp only [Act.put, Array.toArray_toList, List.setIfInBounds_toArray, List.set_cons_zero, List.set_cons_succ]
                refine anyM_free (i := 3) (oi := { dst := some 133, op := _, type := _, pos := _, after := _, guard := _ }) (v := ?_) rfl (by kernel_rfl) (fun _ _ _ h => h) (Or.inl ⟨by kernel_rfl, ?_⟩) (fun _ => hS0) ?_
                rotate_left 1
                · (intro w hSw; (try dsimp only at hSw); go_simp; try with_reducible rfl)
                try simp only [Act.put, Array.toArray_toList, List.setIfInBounds_toArray, List.set_cons_zero, List.set_cons_succ]
                refine anyM_free (i := 4) (oi := { dst := some 134, op := _, type := _, pos := _, after := _, guard := _ }) (v := ?_) rfl (by kernel_rfl) (fun _ _ _ h => h) (Or.inl ⟨by kernel_rfl, ?_⟩) (fun _ => hS0) ?_
                rotate_left 1
                · (intro w hSw; (try dsimp only at hSw); go_simp; try with_reducible rfl)
                try simp only [Act.put, Array.toArray_toList, List.setIfInBounds_toArray, List.set_cons_zero, List.set_cons_succ]
                refine anyM_take (i := 5) (oi := { dst := some 135, op := _, type := _, pos := _, after := _, guard := _ }) (v := ?_) rfl (by kernel_rfl) (fun _ _ _ h => h) (Or.inl ⟨by kernel_rfl, ?_⟩) hS0 ?_
                rotate_left 1
                · (intro w hSw; (try dsimp only at hSw); go_simp; try with_reducible rfl)
                try simp only [Act.put, Array.toArray_toList, List.setIfInBounds_toArray, List.set_cons_zero, List.set_cons_succ]
                refine anyM_free (i := 6) (oi := { dst := some 136, op := _, type := _, pos := _, after := _, guard := _ }) (v := ?_) rfl (by kernel_rfl) (fun _ _ _ h => h) (Or.inl ⟨by kernel_rfl, ?_⟩) (fun _ => hS0) ?_
                rotate_left 1
                · (intro w hSw; (try dsimp only at hSw); go_simp; try with_reducible rfl)
                try simp only [Act.put, Array.toArray_toList, List.setIfInBounds_toArray, List.set_cons_zero, List.set_cons_succ]
                refine anyM_free (i := 7) (oi := { dst := some 137, op := _, type := _, pos := _, after := _, guard := _ }) (v := ?_) rfl (by kernel_rfl) (fun _ _ _ h => h) (Or.inl ⟨by kernel_rfl, ?_⟩) (fun _ => hS0) ?_
                rotate_left 1
                · (intro w hSw; (try dsimp only at hSw); go_simp; try with_reducible rfl)
                try simp only [Act.put, Array.toArray_toList, List.setIfInBounds_toArray, List.set_cons_zero, List.set_cons_succ]
                refine anyM_free (i := 8) (oi := { dst := some 138, op := _, type := _, pos := _, after := _, guard := _ }) (v := ?_) rfl (by kernel_rfl) (fun _ _ _ h => h) (Or.inl ⟨by kernel_rfl, ?_⟩) (fun _ => hS0) ?_
                rotate_left 1
                · (intro w hSw; (try dsimp only at hSw); go_simp; try with_reducible rfl)
                try simp only [Act.put, Array.toArray_toList, List.setIfInBounds_toArray, List.set_cons_zero, List.set_cons_succ]
                refine anyM_take (i := 9) (oi := { dst := some 139, op := _, type := _, pos := _, after := _, guard := _ }) (v := ?_) rfl (by kernel_rfl) (fun _ _ _ h => h) (Or.inl ⟨by kernel_rfl, ?_⟩) hS0 ?_
                rotate_left 1
                · (intro w hSw; (try dsimp only at hSw); go_simp; try with_reducible rfl)
                try simp only [Act.put, Array.toArray_toList, List.setIfInBounds_toArray, List.set_cons_zero, List.set_cons_succ]
                refine anyM_free (i := 10) (oi := { dst := some 140, op := _, type := _, pos := _, after := _, guard := _ }) (v := ?_) rfl (by kernel_rfl) (fun _ _ _ h => h) (Or.inl ⟨by kernel_rfl, ?_⟩) (fun _ => hS0) ?_
                rotate_left 1
                · (intro w hSw; (try dsimp only at hSw); go_simp; try with_reducible rfl)
                try simp only [Act.put, Array.toArray_toList, List.setIfInBounds_toArray, List.set_cons_zero, List.set_cons_succ]
                refine anyM_free (i := 11) (oi := { dst := some 141, op := _, type := _, pos := _, after := _, guard := _ }) (v := ?_) rfl (by kernel_rfl) (fun _ _ _ h => h) (Or.inl ⟨by kernel_rfl, ?_⟩) (fun _ => hS0) ?_
                rotate_left 1
                · (intro w hSw; (try dsimp only at hSw); go_simp; try with_reducible rfl)
                try simp only [Act.put, Array.toArray_toList, List.setIfInBounds_toArray, List.set_cons_zero, List.set_cons_succ]
                refine anyM_one (i := 12) (by kernel_rfl) rfl (fun K hK => ?_)
                go_simp
                refine hK.out _ _ (fun h => late_no h (by kernel_rfl)) ?_
                clear hK K
                try simp only [Act.put, Array.toArray_toList, List.setIfInBounds_toArray, List.set_cons_zero, List.set_cons_succ]
                refine anyM_done (by kernel_rfl) ?_ _
                refine NoPanic.normal ?_
                clear hS0 zM cM cL p0
                go_wp2_with fail
                go_roundw
                case rel => exact ⟨q + 1, by have := QQ.out; omega, by go_num, HM5.out, HL5.out, HP5.out, HB5.out.drew⟩
                case measure => have := QQ.out; simp [intOf]; omega
              · obtain rfl : M = q := by omega
                rw [turT_all] at hM
                have HM5 := Lib.hid hM
                have HL5 := Lib.hid hL
                have HB5 := Lib.hid hbel
                have p0 : wr.cell? ⟨pM, 0, none⟩ = some (.slice (some ⟨gM, 0, none⟩) M M) := hP.cell 0
                clear hL hM hP hbel
                go_wp2_with fail
                go_quiet (fail)
                go_wp2_with fail
                go_ret2
                exact ⟨.slice (some ⟨gL, 0, none⟩) M M, .slice (some ⟨gM, 0, none⟩) M M, rfl, by rw [HLF.out]; exact own_low HL5.out hwb, by rw [HMF.out]; exact own_low HM5.out hwb, below_drewN HB5.out _⟩
end Go.Proofs.Ytkppignoomnmdaa
