/- Contract of table.Columns, where the sort's is given. -/
import Derived.Test.YtkppignoomnmdaaColA
import Derived.Test.YtkppignoomnmdaaRegionN
namespace Go.Proofs.Ytkppignoomnmdaa
open Go.RowKit
set_option linter.unusedVariables false
set_option linter.unusedSimpArgs false
attribute [local go_sem high] run_min2 run_max2

theorem fn_zero (n : Nat) : ints (fnL n zeroF) = (madeCells (Value.int IntKind.i64 0).cells (n * 1)).toList := by
  show _ = (madeCells #[Value.int IntKind.i64 0] (n * 1)).toList
  rw [toList_madeCells_one]
  apply List.ext_getElem
  · simp [ints, fnL]
  · intro i h1 h2; simp [ints, fnL, zeroF]
def Made2 (w : World) (n : Nat) (a b : Value) (wx : World) : Prop :=
  ∃ gL gM : Nat, a = .slice (some ⟨gL, 0, none⟩) n n ∧ b = .slice (some ⟨gM, 0, none⟩) n n ∧ gL ≠ gM ∧ w.heap.size ≤ gL ∧ w.heap.size ≤ gM ∧ wx.ownsRow w.heap.size 3 1 (.slice (some ⟨gL, 0, none⟩) n n) n (ints (fnL n zeroF)) ∧ wx.ownsRow w.heap.size 3 1 (.slice (some ⟨gM, 0, none⟩) n n) n (ints (fnL n zeroF)) ∧ Below w.heap.size w wx
theorem ap_type {w : World} {base base' size size' n n' : Nat} {e e' : TypeId} {v v' : Value} {xs xs' : List Value} (h : w.ownsRow base e size v n xs) (h' : w.ownsRow base' e' size' v' n' xs') (hne : e ≠ e') : Ap v v' := fun g h1 h2 => by
  rcases own_far h h' hne with h3 | h3
  · rw [h3] at h1; cases h1
  · rw [h1, h2] at h3; exact h3 rfl
/-- The sort turns the cells L into S, in place. -/
def SortsTo (L S : List CellV) : Prop := ∀ (w : World) (base : Nat) (A : Option Addr) (c : Nat), w.ownsRow base 107 4 (.slice A S.length c) S.length (L.flatMap cellF) →
  Calls Try.prog 75 #[.slice A S.length c, .func (.func 76) #[] #[]] w fun e w' => e = .returned (.tuple #[]) ∧ w'.ownsRow base 107 4 (.slice A S.length c) S.length (S.flatMap cellF) ∧ w.grownBy w' (Value.slice A S.length c).ownBlock
theorem cells_flat (l : List CellV) (w : World) (B : Nat) (A : Option Addr) (h : Holds w B A (l.flatMap cellF)) {k : Nat} (hk : k < l.length) :
    ∃ b off, A = some ⟨b, off, none⟩ ∧ b < B ∧ ∀ j u, (cellF (l.getD k CellV.zero))[j]? = some u → w.cell? ⟨b, off + k * 4 + j, none⟩ = some u :=
  Holds.flatL (f := cellF) h 4 (fun _ => rfl) (by omega) CellV.zero hk
theorem colsF_step (S : List CellV) (k : Nat) (hk : k < S.length) : colsF (S.take (k + 1)) = colStep (colsF (S.take k)) (S.getD k CellV.zero) := by
  rw [List.take_succ_eq_append_getElem hk, colsF_snoc]
  simp [List.getD, hk]
/-- Before cell k. -/
def LoopK (w : World) (b1 gL gM m : Nat) (A1 : Option Addr) (C1 : Nat) (S : List CellV) (i : Value) (wr : World) : Prop :=
  ∃ k : Nat, k ≤ S.length ∧ i = .int .i64 k ∧ wr.ownsRow w.heap.size 107 4 (.slice A1 S.length C1) S.length (S.flatMap cellF) ∧
    wr.ownsRow b1 3 1 (.slice (some ⟨gL, 0, none⟩) m m) m (ints (fnL m (colsF (S.take k)).1)) ∧ wr.ownsRow b1 3 1 (.slice (some ⟨gM, 0, none⟩) m m) m (ints (fnL m (colsF (S.take k)).2)) ∧ Below w.heap.size w wr
set_option maxRecDepth 100000 in
set_option maxHeartbeats 8000000 in
theorem columns_calls (A : Option Addr) (n c B : Nat) (rs : List RowV) (S : List CellV) (w : World) (hn : rs.length = n) (h : RowsAt w B A rs) (hB : B ≤ w.heap.size) (hm : n ≤ 1000) (hsort : SortsTo (cellsOf (rs.map RowV.cells)) S) (hlen : S.length = (cellsOf (rs.map RowV.cells)).length) (hmem : ∀ c ∈ S, c ∈ cellsOf (rs.map RowV.cells)) :
    Calls Try.prog 37 #[.slice A n c] w fun e w' => ∃ v1 v2, e = .returned (.tuple #[v1, v2]) ∧ w'.ownsRow w.heap.size 3 1 v1 (manyOf (rs.map RowV.cells)) (ints (leastF S (manyOf (rs.map RowV.cells)))) ∧ w'.ownsRow w.heap.size 3 1 v2 (manyOf (rs.map RowV.cells)) (ints (mostF S (manyOf (rs.map RowV.cells)))) ∧ Below w.heap.size w w' := by
  obtain ⟨i0, hi, hz0, hz1, hz2⟩ := info_parts info_int
  have HCC := Lib.hid (cells_calls A n c B rs w hn h hB hm)
  have hok : ∀ c ∈ S, CellOk c ∧ c.pos + c.span ≤ manyOf (rs.map RowV.cells) := fun c hc => cellsOf_ok _ c (hmem c hc)
  have hmm := manyOf_le (rs.map RowV.cells)
  have hcl := cellsOf_len (rs.map RowV.cells)
  rw [List.length_map, hn] at hcl
  obtain ⟨T, hT⟩ : ∃ T, T = cellsOf (rs.map RowV.cells) := ⟨_, rfl⟩
  obtain ⟨m, hM⟩ : ∃ M, M = manyOf (rs.map RowV.cells) := ⟨_, rfl⟩
  rw [← hT] at HCC hsort hlen hcl
  rw [← hM] at HCC hok hmm ⊢
  rw [← hlen] at HCC hcl
  have hsl : S.length ≤ 100000 := by omega
  have HSO := Lib.hid hsort
  have HOK := Lib.hid hok
  have HLEN := Lib.hid hlen
  clear hT hM h hn hsort hok hmem hlen hcl
  have hS0 := True.intro
  go_enter Try.func37, Try.ntmps37
  go_upto_region 2 with (go_at_call 74; refine HCC.out.mono ?_; rintro e w1 ⟨v, rfl, ho, hb⟩; obtain ⟨A1, C1, rfl⟩ := own_open ho)
  have HO := Lib.hid ho
  have HB1 := Lib.hid hb
  have hb0 : Below w1.heap.size w1 w1.drew := (Below.refl _ w1).drew
  clear ho hb
  go_cut [6, 7] from 17 to 20 (fun a b wx => Made2 w1 m a b wx)
  case first =>
    refine wp_region_noPanic ?_
    refine region_M (S := fun w' => True) (T := []) (by kernel_rfl) ?_
    refine anyM_free (i := 0) (oi := { dst := some 17, op := _, type := _, pos := _, after := _, guard := _ }) (v := ?_) rfl (by kernel_rfl) (fun _ _ _ h => h) (Or.inl ⟨by kernel_rfl, ?_⟩) (fun _ => hS0) ?_
    rotate_left 1
    · (intro w hSw; (try dsimp only at hSw); go_simp; try with_reducible rfl)
    try simp only [Act.put, Array.toArray_toList, List.setIfInBounds_toArray, List.set_cons_zero, List.set_cons_succ]
    refine anyM_free (i := 2) (oi := { dst := some 19, op := _, type := _, pos := _, after := _, guard := _ }) (v := ?_) rfl (by kernel_rfl) (fun _ _ _ h => h) (Or.inl ⟨by kernel_rfl, ?_⟩) (fun _ => hS0) ?_
    rotate_left 1
    · (intro w hSw; (try dsimp only at hSw); go_simp; try with_reducible rfl)
    try simp only [Act.put, Array.toArray_toList, List.setIfInBounds_toArray, List.set_cons_zero, List.set_cons_succ]
    refine anyM_two (i := 1) (j := 3) (by kernel_rfl) rfl rfl (fun K hK => ?_) (fun K hK => ?_)
    · skip
      refine step_mk rfl (.tmp 17) (.tmp 17) 64 rfl w1.heap.size 3 i0 (.int .i64 0) 1 Try.underlying64 hi hz0 hz1 .i64 .i64 _ _ m rfl rfl rfl rfl (by rw [hz2]; omega) (by unfold maxLen; omega) (Nat.le_refl _) ?_
      intro wa haL hga
      have hba := below_made hb0 hga
      have hlt1 := (haL.lt _ rfl).2
      have hle1 : w1.heap.size ≤ w1.drew.heap.size := Nat.le_refl _
      generalize hg1 : w1.drew.heap.size = gL at haL hlt1 hle1 ⊢
      refine hK.out _ _ (fun _ => hS0) ?_
      clear hK K
      try simp only [Act.put, Array.toArray_toList, List.setIfInBounds_toArray, List.set_cons_zero, List.set_cons_succ]
      refine anyM_free (i := 4) (oi := { dst := some 6, op := _, type := _, pos := _, after := _, guard := _ }) (v := ?_) rfl (by kernel_rfl) (fun _ _ _ h => h) (Or.inl ⟨by kernel_rfl, ?_⟩) (fun _ => hS0) ?_
      rotate_left 1
      · (intro w hSw; (try dsimp only at hSw); go_simp; try with_reducible rfl)
      try simp only [Act.put, Array.toArray_toList, List.setIfInBounds_toArray, List.set_cons_zero, List.set_cons_succ]
      refine anyM_one (i := 3) (by kernel_rfl) rfl (fun K hK => ?_)
      refine step_mk rfl (.tmp 19) (.tmp 19) 64 rfl wa.heap.size 3 i0 (.int .i64 0) 1 Try.underlying64 hi hz0 hz1 .i64 .i64 _ _ m rfl rfl rfl rfl (by rw [hz2]; omega) (by unfold maxLen; omega) (Nat.le_refl _) ?_
      intro wb hbM hgb
      have hbb := below_made (Below.refl _ wa) hgb
      have hbL := own_below haL hbb
      have hbel := below_then hba hbb
      have hle2 := hba.size
      have hbM := own_low hbM hle2
      generalize hg2 : wa.heap.size = gM at hbM hlt1 hle2 ⊢
      have hne : gL ≠ gM := Nat.ne_of_lt hlt1
      refine hK.out _ _ (fun _ => hS0) ?_
      clear hK K
      try simp only [Act.put, Array.toArray_toList, List.setIfInBounds_toArray, List.set_cons_zero, List.set_cons_succ]
      refine anyM_free (i := 5) (oi := { dst := some 7, op := _, type := _, pos := _, after := _, guard := _ }) (v := ?_) rfl (by kernel_rfl) (fun _ _ _ h => h) (Or.inl ⟨by kernel_rfl, ?_⟩) (fun _ => hS0) ?_
      rotate_left 1
      · (intro w hSw; (try dsimp only at hSw); go_simp; try with_reducible rfl)
      try simp only [Act.put, Array.toArray_toList, List.setIfInBounds_toArray, List.set_cons_zero, List.set_cons_succ]
      refine anyM_done (by kernel_rfl) ?_ _
      refine NoPanic.normal ?_
      clear hg1 hg2
      have HMT := Lib.hid (show Made2 w1 m (.slice (some ⟨gL, 0, none⟩) m m) (.slice (some ⟨gM, 0, none⟩) m m) wb from ⟨gL, gM, rfl, rfl, hne, (hbL.lt _ rfl).1, (hbM.lt _ rfl).1, by rw [fn_zero]; exact hbL, by rw [fn_zero]; exact hbM, hbel⟩)
      simp only [Act.put, List.getElem_toArray, List.getElem_cons_succ, List.getElem_cons_zero, Array.toArray_toList, List.setIfInBounds_toArray, List.set_cons_zero, List.set_cons_succ]
      go_wp2_with fail
      go_meet
      case rel => exact HMT.out
    · skip
      refine step_mk rfl (.tmp 19) (.tmp 19) 64 rfl w1.heap.size 3 i0 (.int .i64 0) 1 Try.underlying64 hi hz0 hz1 .i64 .i64 _ _ m rfl rfl rfl rfl (by rw [hz2]; omega) (by unfold maxLen; omega) (Nat.le_refl _) ?_
      intro wa haM hga
      have hba := below_made hb0 hga
      have hlt1 := (haM.lt _ rfl).2
      have hle1 : w1.heap.size ≤ w1.drew.heap.size := Nat.le_refl _
      generalize hg1 : w1.drew.heap.size = gM at haM hlt1 hle1 ⊢
      refine hK.out _ _ (fun _ => hS0) ?_
      clear hK K
      try simp only [Act.put, Array.toArray_toList, List.setIfInBounds_toArray, List.set_cons_zero, List.set_cons_succ]
      refine anyM_one (i := 1) (by kernel_rfl) rfl (fun K hK => ?_)
      refine step_mk rfl (.tmp 17) (.tmp 17) 64 rfl wa.heap.size 3 i0 (.int .i64 0) 1 Try.underlying64 hi hz0 hz1 .i64 .i64 _ _ m rfl rfl rfl rfl (by rw [hz2]; omega) (by unfold maxLen; omega) (Nat.le_refl _) ?_
      intro wb hbL hgb
      have hbb := below_made (Below.refl _ wa) hgb
      have hbM := own_below haM hbb
      have hbel := below_then hba hbb
      have hle2 := hba.size
      have hbL := own_low hbL hle2
      generalize hg2 : wa.heap.size = gL at hbL hlt1 hle2 ⊢
      have hne : gM ≠ gL := Nat.ne_of_lt hlt1
      refine hK.out _ _ (fun _ => hS0) ?_
      clear hK K
      try simp only [Act.put, Array.toArray_toList, List.setIfInBounds_toArray, List.set_cons_zero, List.set_cons_succ]
      refine anyM_free (i := 4) (oi := { dst := some 6, op := _, type := _, pos := _, after := _, guard := _ }) (v := ?_) rfl (by kernel_rfl) (fun _ _ _ h => h) (Or.inl ⟨by kernel_rfl, ?_⟩) (fun _ => hS0) ?_
      rotate_left 1
      · (intro w hSw; (try dsimp only at hSw); go_simp; try with_reducible rfl)
      try simp only [Act.put, Array.toArray_toList, List.setIfInBounds_toArray, List.set_cons_zero, List.set_cons_succ]
      refine anyM_free (i := 5) (oi := { dst := some 7, op := _, type := _, pos := _, after := _, guard := _ }) (v := ?_) rfl (by kernel_rfl) (fun _ _ _ h => h) (Or.inl ⟨by kernel_rfl, ?_⟩) (fun _ => hS0) ?_
      rotate_left 1
      · (intro w hSw; (try dsimp only at hSw); go_simp; try with_reducible rfl)
      try simp only [Act.put, Array.toArray_toList, List.setIfInBounds_toArray, List.set_cons_zero, List.set_cons_succ]
      refine anyM_done (by kernel_rfl) ?_ _
      refine NoPanic.normal ?_
      clear hg1 hg2
      have HMT := Lib.hid (show Made2 w1 m (.slice (some ⟨gL, 0, none⟩) m m) (.slice (some ⟨gM, 0, none⟩) m m) wb from ⟨gL, gM, rfl, rfl, fun e => hne e.symm, (hbL.lt _ rfl).1, (hbM.lt _ rfl).1, by rw [fn_zero]; exact hbL, by rw [fn_zero]; exact hbM, hbel⟩)
      simp only [Act.put, List.getElem_toArray, List.getElem_cons_succ, List.getElem_cons_zero, Array.toArray_toList, List.setIfInBounds_toArray, List.set_cons_zero, List.set_cons_succ]
      go_wp2_with fail
      go_meet
      case rel => exact HMT.out
  case rest =>
    obtain ⟨gL, gM, rfl, rfl, hne, hgL, hgM, hL, hM, hbel⟩ := hcut
    go_upto_region 3 with fail
    have hOl := own_below HO.out hbel
    obtain ⟨b1, hb1⟩ : ∃ x, x = w1.heap.size := ⟨_, rfl⟩
    have hwb : w.heap.size ≤ b1 := by rw [hb1]; exact HB1.out.size
    rw [← hb1] at hL hM hgL hgM
    have HOW := Lib.hid hOl
    have HLW := Lib.hid hL
    have HMW := Lib.hid hM
    have HBW := Lib.hid (below_then HB1.out hbel)
    have HNE := Lib.hid hne
    have HGL := Lib.hid (show w.heap.size ≤ gL from Nat.le_trans hwb hgL)
    have HGM := Lib.hid (show w.heap.size ≤ gM from Nat.le_trans hwb hgM)
    clear hOl hL hM hbel hne hgL hgM hb1 HO HB1 hb0
    go_wp2_with (go_at_call 75; refine (HSO.out _ _ _ _ HOW.out).mono ?_; rintro e w2 ⟨rfl, ho2, hg2⟩)
    have HL2 := Lib.hid (own_grownFar HLW.out (ap_type HOW.out HLW.out (by decide)) hg2)
    have HM2 := Lib.hid (own_grownFar HMW.out (ap_type HOW.out HMW.out (by decide)) hg2)
    have HB2 := Lib.hid (below_grownA HBW.out HOW.out hg2)
    have HO2 := Lib.hid ho2
    clear ho2 hg2 HOW HLW HMW HBW HSO
    go_loopw [25] (fun i wr => LoopK w b1 gL gM m A1 C1 S i wr) (fun i _ => S.length - (intOf i).toNat)
    case atStart => exact ⟨0, Nat.zero_le _, rfl, HO2.out, HL2.out, HM2.out, HB2.out⟩
    case round =>
      obtain ⟨k, hk, rfl, hO, hL, hM, hbel⟩ := hrel
      have hw := hbel.size
      by_cases hlt : k < S.length
      · obtain ⟨bA, oA, rfl, hbA, hc⟩ := cells_flat S wr _ A1 (Holds.of_own hO) hlt
        have HST := Lib.hid (colsF_step S k hlt)
        have hck := HOK.out (S.getD k CellV.zero) (by simp [List.getD, hlt])
        have hfo := colsF_ok (S.take k) (fun c hc => (HOK.out c (List.mem_of_mem_take hc)).1)
        obtain ⟨⟨cl, cm, pp, sp⟩, hx⟩ : ∃ x, x = S.getD k CellV.zero := ⟨_, rfl⟩
        rw [← hx] at hc HST hck
        have t0 : wr.cell? ⟨bA, oA + k * 4, none⟩ = some (.int .i64 cl) := hc 0 _ rfl
        have t1 : wr.cell? ⟨bA, oA + k * 4 + 1, none⟩ = some (.int .i64 cm) := hc 1 _ rfl
        have t2 : wr.cell? ⟨bA, oA + k * 4 + 2, none⟩ = some (.int .i64 pp) := hc 2 _ rfl
        have t3 : wr.cell? ⟨bA, oA + k * 4 + 3, none⟩ = some (.int .i64 sp) := hc 3 _ rfl
        obtain ⟨⟨st1, st2⟩, hst⟩ : ∃ x, x = colsF (S.take k) := ⟨_, rfl⟩
        rw [← hst] at HST hfo hL hM
        obtain ⟨⟨k0, k1, k2, k3, k4, k5⟩, k6⟩ := hck
        obtain ⟨f1, f2⟩ := hfo
        simp only at k0 k1 k2 k3 k4 k5 k6 f1 f2 hL hM
        have hpm : pp < m := by omega
        have QQ := Lib.hid (show k ≤ S.length ∧ k < S.length from ⟨hk, hlt⟩)
        have HF1 := Lib.hid f1
        have HF2 := Lib.hid f2
        have HOk := Lib.hid hO
        have HLk := Lib.hid hL
        have HMk := Lib.hid hM
        have HBk := Lib.hid hbel
        have hX := Blk.new wr 107 #[.int .i64 cl, .int .i64 cm, .int .i64 pp, .int .i64 sp]
        have HX := Lib.hid hX
        have x0 := hX.cell 0
        have x1 := hX.cell 1
        have x2 := hX.cell 2
        have x3 := hX.cell 3
        clear hx hc hst f1 f2 hO hL hM hbel hX x0 x1 x2 x3
        by_cases hone : sp = 1
        · subst hone
          have HS1 := Lib.hid (HST.out.trans (colStep_one rfl))
          go_upto_region 9 with fail
          have hX := Blk.new wr 107 #[.int .i64 cl, .int .i64 cm, .int .i64 pp, .int .i64 1]
          have hLq := HLk.out.alloc (.cells #[.int .i64 cl, .int .i64 cm, .int .i64 pp, .int .i64 1] 107)
          have hMq := HMk.out.alloc (.cells #[.int .i64 cl, .int .i64 cm, .int .i64 pp, .int .i64 1] 107)
          have hOq := HOk.out.alloc (.cells #[.int .i64 cl, .int .i64 cm, .int .i64 pp, .int .i64 1] 107)
          have hBq := below_alloc HBk.out (.cells #[.int .i64 cl, .int .i64 cm, .int .i64 pp, .int .i64 1] 107)
          have hgx1 : gL ≠ wr.heap.size := by have h : gL < wr.heap.size := (HLk.out.lt _ rfl).2; omega
          have hgx2 : gM ≠ wr.heap.size := by have h : gM < wr.heap.size := (HMk.out.lt _ rfl).2; omega
          generalize World.alloc wr _ = wq at hX hLq hMq hOq hBq ⊢
          generalize wr.heap.size = gx at hX hgx1 hgx2 ⊢
          have hUL := updF_set m st1 pp (max (st1 pp) cl) hpm
          have hUM := updF_set m st2 pp (max (st2 pp) cm) hpm
          have cL : wq.cell? ⟨gL, pp, none⟩ = some (.int .i64 (st1 pp)) := own_cell hLq (fnL_at m pp st1 hpm)
          have cM : wq.cell? ⟨gM, pp, none⟩ = some (.int .i64 (st2 pp)) := own_cell hMq (fnL_at m pp st2 hpm)
          have zL : wq.drew.frozen? ⟨gL, pp, none⟩ = false := own_free hLq
          have zM : wq.drew.frozen? ⟨gM, pp, none⟩ = false := own_free hMq
          obtain ⟨u1, hu1⟩ : ∃ x, x = updF st1 pp (max (st1 pp) cl) := ⟨_, rfl⟩
          obtain ⟨u2, hu2⟩ : ∃ x, x = updF st2 pp (max (st2 pp) cm) := ⟨_, rfl⟩
          have HS2 : Hid (colsF (S.take (k + 1)) = (u1, u2)) := by show _ = _; rw [HS1.out, hu1, hu2]
          rw [← hu1] at hUL
          rw [← hu2] at hUM
          obtain ⟨a1, ha1⟩ : ∃ x, x = st1 pp := ⟨_, rfl⟩
          obtain ⟨a2, ha2⟩ : ∃ x, x = st2 pp := ⟨_, rfl⟩
          rw [← ha1] at cL hUL
          rw [← ha2] at cM hUM
          have hL2 := own_set (j := pp) (u := .int .i64 (max a1 cl)) hLq
          rw [hUL] at hL2
          have hM2 := own_setFar (b := gL) (j := pp) (u := .int .i64 (max a1 cl)) hMq (by simp [Value.ownBlock]; exact fun e => HNE.out e.symm)
          have hO2 := own_setFar (b := gL) (j := pp) (u := .int .i64 (max a1 cl)) hOq ((ap_type hLq hOq (by decide)).far)
          have hL3 := own_setFar (b := gM) (j := pp) (u := .int .i64 (max a2 cm)) hL2 (by simp [Value.ownBlock]; exact HNE.out)
          have hM3 := own_set (j := pp) (u := .int .i64 (max a2 cm)) hM2
          rw [hUM] at hM3
          have hO3 := own_setFar (b := gM) (j := pp) (u := .int .i64 (max a2 cm)) hO2 ((ap_type hMq hOq (by decide)).far)
          have hB3 := below_set (below_set hBq (b := gL) (off := pp) HGL.out (.int .i64 (max a1 cl))) (b := gM) (off := pp) HGM.out (.int .i64 (max a2 cm))
          have cM2 : (wq.setCell ⟨gL, pp, none⟩ (.int .i64 (max a1 cl))).drew.cell? ⟨gM, pp, none⟩ = some (.int .i64 a2) := (World.cell?_setCell_other _ _ _ _ (by intro e; injection e with e1; exact HNE.out e1)).trans cM
          have zM2 : (wq.setCell ⟨gL, pp, none⟩ (.int .i64 (max a1 cl))).drew.frozen? ⟨gM, pp, none⟩ = false := own_free hM2
          have HL3 := Lib.hid hL3
          have HM3 := Lib.hid hM3
          have HO3 := Lib.hid hO3
          have HB3 := Lib.hid hB3
          have hS0 : (fun w' : World => w'.cell? ⟨gL, pp, none⟩ = some (.int .i64 a1) ∧ w'.cell? ⟨gM, pp, none⟩ = some (.int .i64 a2)) wq.drew := ⟨cL, cM⟩
          have hU0 : (fun w' : World => w'.cell? ⟨gx, 0, none⟩ = some (.int .i64 cl) ∧ w'.cell? ⟨gx, 1, none⟩ = some (.int .i64 cm) ∧ w'.cell? ⟨gx, 2, none⟩ = some (.int .i64 pp)) wq.drew := ⟨hX.cell 0, hX.cell 1, hX.cell 2⟩
          have hU1 : (fun w' : World => w'.cell? ⟨gx, 0, none⟩ = some (.int .i64 cl) ∧ w'.cell? ⟨gx, 1, none⟩ = some (.int .i64 cm) ∧ w'.cell? ⟨gx, 2, none⟩ = some (.int .i64 pp)) (wq.setCell ⟨gL, pp, none⟩ (.int .i64 (max a1 cl))).drew := ⟨(hX.far (fun e => hgx1 e.symm) _).cell 0, (hX.far (fun e => hgx1 e.symm) _).cell 1, (hX.far (fun e => hgx1 e.symm) _).cell 2⟩
          have hU2 : (fun w' : World => w'.cell? ⟨gx, 0, none⟩ = some (.int .i64 cl) ∧ w'.cell? ⟨gx, 1, none⟩ = some (.int .i64 cm) ∧ w'.cell? ⟨gx, 2, none⟩ = some (.int .i64 pp)) ((wq.setCell ⟨gL, pp, none⟩ (.int .i64 (max a1 cl))).setCell ⟨gM, pp, none⟩ (.int .i64 (max a2 cm))).drew := ⟨((hX.far (fun e => hgx1 e.symm) _).far (fun e => hgx2 e.symm) _).cell 0, ((hX.far (fun e => hgx1 e.symm) _).far (fun e => hgx2 e.symm) _).cell 1, ((hX.far (fun e => hgx1 e.symm) _).far (fun e => hgx2 e.symm) _).cell 2⟩
          have HU1 := Lib.hid hU1
          have HU2 := Lib.hid hU2
          clear hX hLq hMq hOq hBq hUL hUM cL cM hu1 hu2 ha1 ha2 hL2 hM2 hO2 hL3 hM3 hO3 hB3 hU1 hU2 t0 t1 t2 t3 HS1 HST HLk HMk HOk HBk
          go_wp2_with fail
          refine wp_region_noPanic ?_
          refine region_N (S := fun w' => w'.cell? ⟨gL, pp, none⟩ = some (.int .i64 a1) ∧ w'.cell? ⟨gM, pp, none⟩ = some (.int .i64 a2)) (U := fun w' => w'.cell? ⟨gx, 0, none⟩ = some (.int .i64 cl) ∧ w'.cell? ⟨gx, 1, none⟩ = some (.int .i64 cm) ∧ w'.cell? ⟨gx, 2, none⟩ = some (.int .i64 pp)) (T := [23, 25]) (by kernel_rfl) ?_
          refine anyN_free (i := 0) (oi := { dst := some 37, op := _, type := _, pos := _, after := _, guard := _ }) (v := ?_) rfl (by kernel_rfl) (fun _ _ _ h => h) (Or.inl ⟨by kernel_rfl, ?_⟩) (fun _ => hS0) hU0 ?_
          rotate_left 1
          · (intro w hSw; (try dsimp only at hSw); go_simp; try with_reducible rfl)
          try simp only [Act.put, Array.toArray_toList, List.setIfInBounds_toArray, List.set_cons_zero, List.set_cons_succ]
          refine anyN_free (i := 1) (oi := { dst := some 38, op := _, type := _, pos := _, after := _, guard := _ }) (v := ?_) rfl (by kernel_rfl) (fun _ _ _ h => h) (Or.inl ⟨by kernel_rfl, ?_⟩) (fun _ => hS0) hU0 ?_
          rotate_left 1
          · (intro w hSw; (try dsimp only at hSw); go_simp; try with_reducible rfl)
          try simp only [Act.put, Array.toArray_toList, List.setIfInBounds_toArray, List.set_cons_zero, List.set_cons_succ]
          refine anyN_keep (i := 2) (oi := { dst := some 39, op := _, type := _, pos := _, after := _, guard := _ }) (v := ?_) rfl (by kernel_rfl) (fun _ _ _ h => h) (Or.inl ⟨by kernel_rfl, ?_⟩) (fun _ => hS0) hU0 ?_
          rotate_left 1
          · (intro w hSw; (try dsimp only at hSw); go_simp; try with_reducible rfl)
          try simp only [Act.put, Array.toArray_toList, List.setIfInBounds_toArray, List.set_cons_zero, List.set_cons_succ]
          refine anyN_free (i := 3) (oi := { dst := some 40, op := _, type := _, pos := _, after := _, guard := _ }) (v := ?_) rfl (by kernel_rfl) (fun _ _ _ h => h) (Or.inl ⟨by kernel_rfl, ?_⟩) (fun _ => hS0) hU0 ?_
          rotate_left 1
          · (intro w hSw; (try dsimp only at hSw); go_simp; try with_reducible rfl)
          try simp only [Act.put, Array.toArray_toList, List.setIfInBounds_toArray, List.set_cons_zero, List.set_cons_succ]
          refine anyN_free (i := 4) (oi := { dst := some 41, op := _, type := _, pos := _, after := _, guard := _ }) (v := ?_) rfl (by kernel_rfl) (fun _ _ _ h => h) (Or.inl ⟨by kernel_rfl, ?_⟩) (fun _ => hS0) hU0 ?_
          rotate_left 1
          · (intro w hSw; (try dsimp only at hSw); go_simp; try with_reducible rfl)
          try simp only [Act.put, Array.toArray_toList, List.setIfInBounds_toArray, List.set_cons_zero, List.set_cons_succ]
          refine anyN_keep (i := 5) (oi := { dst := some 42, op := _, type := _, pos := _, after := _, guard := _ }) (v := ?_) rfl (by kernel_rfl) (fun _ _ _ h => h) (Or.inl ⟨by kernel_rfl, ?_⟩) (fun _ => hS0) hU0 ?_
          rotate_left 1
          · (intro w hSw; (try dsimp only at hSw); go_simp; try with_reducible rfl)
          try simp only [Act.put, Array.toArray_toList, List.setIfInBounds_toArray, List.set_cons_zero, List.set_cons_succ]
          refine anyN_free (i := 6) (oi := { dst := some 43, op := _, type := _, pos := _, after := _, guard := _ }) (v := ?_) rfl (by kernel_rfl) (fun _ _ _ h => h) (Or.inl ⟨by kernel_rfl, ?_⟩) (fun _ => hS0) hU0 ?_
          rotate_left 1
          · (intro w hSw; (try dsimp only at hSw); go_simp; try with_reducible rfl)
          try simp only [Act.put, Array.toArray_toList, List.setIfInBounds_toArray, List.set_cons_zero, List.set_cons_succ]
          refine anyN_free (i := 7) (oi := { dst := some 44, op := _, type := _, pos := _, after := _, guard := _ }) (v := ?_) rfl (by kernel_rfl) (fun _ _ _ h => h) (Or.inl ⟨by kernel_rfl, ?_⟩) (fun _ => hS0) hU0 ?_
          rotate_left 1
          · (intro w hSw; (try dsimp only at hSw); go_simp; try with_reducible rfl)
          try simp only [Act.put, Array.toArray_toList, List.setIfInBounds_toArray, List.set_cons_zero, List.set_cons_succ]
          refine anyN_keep (i := 8) (oi := { dst := some 45, op := _, type := _, pos := _, after := _, guard := _ }) (v := ?_) rfl (by kernel_rfl) (fun _ _ _ h => h) (Or.inl ⟨by kernel_rfl, ?_⟩) (fun _ => hS0) hU0 ?_
          rotate_left 1
          · (intro w hSw; (try dsimp only at hSw); go_simp; try with_reducible rfl)
          try simp only [Act.put, Array.toArray_toList, List.setIfInBounds_toArray, List.set_cons_zero, List.set_cons_succ]
          refine anyN_free (i := 9) (oi := { dst := some 46, op := _, type := _, pos := _, after := _, guard := _ }) (v := ?_) rfl (by kernel_rfl) (fun _ _ _ h => h) (Or.inl ⟨by kernel_rfl, ?_⟩) (fun _ => hS0) hU0 ?_
          rotate_left 1
          · (intro w hSw; (try dsimp only at hSw); go_simp; try with_reducible rfl)
          try simp only [Act.put, Array.toArray_toList, List.setIfInBounds_toArray, List.set_cons_zero, List.set_cons_succ]
          refine anyN_take (i := 10) (oi := { dst := some 47, op := _, type := _, pos := _, after := _, guard := _ }) (v := ?_) rfl (by kernel_rfl) (fun _ _ _ h => h) (Or.inl ⟨by kernel_rfl, ?_⟩) hS0 hU0 ?_
          rotate_left 1
          · (intro w hSw; (try dsimp only at hSw); go_simp; try with_reducible rfl)
          try simp only [Act.put, Array.toArray_toList, List.setIfInBounds_toArray, List.set_cons_zero, List.set_cons_succ]
          refine anyN_free (i := 11) (oi := { dst := some 48, op := _, type := _, pos := _, after := _, guard := _ }) (v := ?_) rfl (by kernel_rfl) (fun _ _ _ h => h) (Or.inl ⟨by kernel_rfl, ?_⟩) (fun _ => hS0) hU0 ?_
          rotate_left 1
          · (intro w hSw; (try dsimp only at hSw); go_simp; try with_reducible rfl)
          try simp only [Act.put, Array.toArray_toList, List.setIfInBounds_toArray, List.set_cons_zero, List.set_cons_succ]
          refine anyN_keep (i := 12) (oi := { dst := some 49, op := _, type := _, pos := _, after := _, guard := _ }) (v := ?_) rfl (by kernel_rfl) (fun _ _ _ h => h) (Or.inl ⟨by kernel_rfl, ?_⟩) (fun _ => hS0) hU0 ?_
          rotate_left 1
          · (intro w hSw; (try dsimp only at hSw); go_simp; try with_reducible rfl)
          try simp only [Act.put, Array.toArray_toList, List.setIfInBounds_toArray, List.set_cons_zero, List.set_cons_succ]
          refine anyN_free (i := 13) (oi := { dst := some 50, op := _, type := _, pos := _, after := _, guard := _ }) (v := ?_) rfl (by kernel_rfl) (fun _ _ _ h => h) (Or.inl ⟨by kernel_rfl, ?_⟩) (fun _ => hS0) hU0 ?_
          rotate_left 1
          · (intro w hSw; (try dsimp only at hSw); go_simp; try with_reducible rfl)
          try simp only [Act.put, Array.toArray_toList, List.setIfInBounds_toArray, List.set_cons_zero, List.set_cons_succ]
          refine anyN_free (i := 14) (oi := { dst := some 51, op := _, type := _, pos := _, after := _, guard := _ }) (v := ?_) rfl (by kernel_rfl) (fun _ _ _ h => h) (Or.inl ⟨by kernel_rfl, ?_⟩) (fun _ => hS0) hU0 ?_
          rotate_left 1
          · (intro w hSw; (try dsimp only at hSw); go_simp; try with_reducible rfl)
          try simp only [Act.put, Array.toArray_toList, List.setIfInBounds_toArray, List.set_cons_zero, List.set_cons_succ]
          refine anyN_free (i := 15) (oi := { dst := some 52, op := _, type := _, pos := _, after := _, guard := _ }) (v := ?_) rfl (by kernel_rfl) (fun _ _ _ h => h) (Or.inl ⟨by kernel_rfl, ?_⟩) (fun _ => hS0) hU0 ?_
          rotate_left 1
          · (intro w hSw; (try dsimp only at hSw); go_simp; try with_reducible rfl)
          try simp only [Act.put, Array.toArray_toList, List.setIfInBounds_toArray, List.set_cons_zero, List.set_cons_succ]
          refine anyN_keep (i := 16) (oi := { dst := some 53, op := _, type := _, pos := _, after := _, guard := _ }) (v := ?_) rfl (by kernel_rfl) (fun _ _ _ h => h) (Or.inl ⟨by kernel_rfl, ?_⟩) (fun _ => hS0) hU0 ?_
          rotate_left 1
          · (intro w hSw; (try dsimp only at hSw); go_simp; try with_reducible rfl)
          try simp only [Act.put, Array.toArray_toList, List.setIfInBounds_toArray, List.set_cons_zero, List.set_cons_succ]
          refine anyN_free (i := 17) (oi := { dst := some 54, op := _, type := _, pos := _, after := _, guard := _ }) (v := ?_) rfl (by kernel_rfl) (fun _ _ _ h => h) (Or.inl ⟨by kernel_rfl, ?_⟩) (fun _ => hS0) hU0 ?_
          rotate_left 1
          · (intro w hSw; (try dsimp only at hSw); go_simp; try with_reducible rfl)
          try simp only [Act.put, Array.toArray_toList, List.setIfInBounds_toArray, List.set_cons_zero, List.set_cons_succ]
          refine anyN_take (i := 18) (oi := { dst := some 55, op := _, type := _, pos := _, after := _, guard := _ }) (v := ?_) rfl (by kernel_rfl) (fun _ _ _ h => h) (Or.inl ⟨by kernel_rfl, ?_⟩) hS0 hU0 ?_
          rotate_left 1
          · (intro w hSw; (try dsimp only at hSw); go_simp; try with_reducible rfl)
          try simp only [Act.put, Array.toArray_toList, List.setIfInBounds_toArray, List.set_cons_zero, List.set_cons_succ]
          refine anyN_free (i := 19) (oi := { dst := some 56, op := _, type := _, pos := _, after := _, guard := _ }) (v := ?_) rfl (by kernel_rfl) (fun _ _ _ h => h) (Or.inl ⟨by kernel_rfl, ?_⟩) (fun _ => hS0) hU0 ?_
          rotate_left 1
          · (intro w hSw; (try dsimp only at hSw); go_simp; try with_reducible rfl)
          try simp only [Act.put, Array.toArray_toList, List.setIfInBounds_toArray, List.set_cons_zero, List.set_cons_succ]
          refine anyN_keep (i := 20) (oi := { dst := some 57, op := _, type := _, pos := _, after := _, guard := _ }) (v := ?_) rfl (by kernel_rfl) (fun _ _ _ h => h) (Or.inl ⟨by kernel_rfl, ?_⟩) (fun _ => hS0) hU0 ?_
          rotate_left 1
          · (intro w hSw; (try dsimp only at hSw); go_simp; try with_reducible rfl)
          try simp only [Act.put, Array.toArray_toList, List.setIfInBounds_toArray, List.set_cons_zero, List.set_cons_succ]
          refine anyN_free (i := 21) (oi := { dst := some 58, op := _, type := _, pos := _, after := _, guard := _ }) (v := ?_) rfl (by kernel_rfl) (fun _ _ _ h => h) (Or.inl ⟨by kernel_rfl, ?_⟩) (fun _ => hS0) hU0 ?_
          rotate_left 1
          · (intro w hSw; (try dsimp only at hSw); go_simp; try with_reducible rfl)
          try simp only [Act.put, Array.toArray_toList, List.setIfInBounds_toArray, List.set_cons_zero, List.set_cons_succ]
          refine anyN_free (i := 22) (oi := { dst := some 59, op := _, type := _, pos := _, after := _, guard := _ }) (v := ?_) rfl (by kernel_rfl) (fun _ _ _ h => h) (Or.inl ⟨by kernel_rfl, ?_⟩) (fun _ => hS0) hU0 ?_
          rotate_left 1
          · (intro w hSw; (try dsimp only at hSw); go_simp; try with_reducible rfl)
          try simp only [Act.put, Array.toArray_toList, List.setIfInBounds_toArray, List.set_cons_zero, List.set_cons_succ]
          refine anyN_one (i := 23) (by kernel_rfl) rfl (fun K hK => ?_)
          go_simp
          have hU0 := HU1.out
          refine hK.out _ _ ⟨fun h => late_no h (by kernel_rfl), hU0⟩ ?_
          clear hK K
          try simp only [Act.put, Array.toArray_toList, List.setIfInBounds_toArray, List.set_cons_zero, List.set_cons_succ]
          refine anyN_free (i := 24) (oi := { dst := some 60, op := _, type := _, pos := _, after := _, guard := _ }) (v := ?_) rfl (by kernel_rfl) (fun _ _ _ h => h) (Or.inl ⟨by kernel_rfl, ?_⟩) (fun h => late_no h (by kernel_rfl)) hU0 ?_
          rotate_left 1
          · (intro w hSw; (try dsimp only at hSw); go_simp; try with_reducible rfl)
          try simp only [Act.put, Array.toArray_toList, List.setIfInBounds_toArray, List.set_cons_zero, List.set_cons_succ]
          refine anyN_one (i := 25) (by kernel_rfl) rfl (fun K hK => ?_)
          go_simp
          have hU0 := HU2.out
          refine hK.out _ _ ⟨fun h => late_no h (by kernel_rfl), hU0⟩ ?_
          clear hK K
          try simp only [Act.put, Array.toArray_toList, List.setIfInBounds_toArray, List.set_cons_zero, List.set_cons_succ]
          refine anyN_done (by kernel_rfl) ?_ _
          refine NoPanic.normal ?_
          clear hU0 hS0 zL zM
          go_wp2_with fail
          go_roundw
          case rel => exact ⟨k + 1, by have := QQ.out; omega, by go_num, HO3.out, by rw [HS2.out]; exact HL3.out, by rw [HS2.out]; exact HM3.out, HB3.out.drew⟩
          case measure => have := QQ.out; simp [intOf]; omega
        · have HS1 := Lib.hid (HST.out.trans (colStep_more hone))
          have hone' : ((sp : Int) == 1) = false := by simp; omega
          go_upto_region 10 with fail
          have hX := Blk.new wr 107 #[.int .i64 cl, .int .i64 cm, .int .i64 pp, .int .i64 sp]
          have hLq := HLk.out.alloc (.cells #[.int .i64 cl, .int .i64 cm, .int .i64 pp, .int .i64 sp] 107)
          have hMq := HMk.out.alloc (.cells #[.int .i64 cl, .int .i64 cm, .int .i64 pp, .int .i64 sp] 107)
          have hOq := HOk.out.alloc (.cells #[.int .i64 cl, .int .i64 cm, .int .i64 pp, .int .i64 sp] 107)
          have hBq := below_alloc HBk.out (.cells #[.int .i64 cl, .int .i64 cm, .int .i64 pp, .int .i64 sp] 107)
          have hgx1 : gL ≠ wr.heap.size := by have h : gL < wr.heap.size := (HLk.out.lt _ rfl).2; omega
          have hgx2 : gM ≠ wr.heap.size := by have h : gM < wr.heap.size := (HMk.out.lt _ rfl).2; omega
          generalize World.alloc wr _ = wq at hX hLq hMq hOq hBq ⊢
          generalize wr.heap.size = gx at hX hgx1 hgx2 ⊢
          have hX := hX.drew
          have hLq := hLq.drew
          have hMq := hMq.drew
          have hOq := hOq.drew
          have hBq := hBq.drew
          have hS0 : (fun w' : World => w'.cell? ⟨gx, 0, none⟩ = some (.int .i64 cl) ∧ w'.cell? ⟨gx, 1, none⟩ = some (.int .i64 cm) ∧ w'.cell? ⟨gx, 2, none⟩ = some (.int .i64 pp)) wq.drew := ⟨hX.cell 0, hX.cell 1, hX.cell 2⟩
          have i1 : (pp : Int) ≤ (pp : Int) + (sp : Int) := by omega
          have i2 : (pp : Int) + (sp : Int) ≤ (m : Int) := by omega
          have i3 : ((pp : Int) + (sp : Int)).toNat = pp + sp := by omega
          have i4 : (0 : Int) ≤ (pp : Int) + (sp : Int) := by omega
          have i5 : pp + sp - pp = sp := by omega
          have i6 : ¬ m = pp := by omega
          clear t0 t1 t2 t3
          go_wp2_with fail
          refine wp_region_noPanic ?_
          refine region_M (S := fun w' => w'.cell? ⟨gx, 0, none⟩ = some (.int .i64 cl) ∧ w'.cell? ⟨gx, 1, none⟩ = some (.int .i64 cm) ∧ w'.cell? ⟨gx, 2, none⟩ = some (.int .i64 pp)) (T := []) (by kernel_rfl) ?_
          refine anyM_free (i := 0) (oi := { dst := some 61, op := _, type := _, pos := _, after := _, guard := _ }) (v := ?_) rfl (by kernel_rfl) (fun _ _ _ h => h) (Or.inl ⟨by kernel_rfl, ?_⟩) (fun _ => hS0) ?_
          rotate_left 1
          · (intro w hSw; (try dsimp only at hSw); go_simp; try with_reducible rfl)
          try simp only [Act.put, Array.toArray_toList, List.setIfInBounds_toArray, List.set_cons_zero, List.set_cons_succ]
          refine anyM_free (i := 1) (oi := { dst := some 62, op := _, type := _, pos := _, after := _, guard := _ }) (v := ?_) rfl (by kernel_rfl) (fun _ _ _ h => h) (Or.inl ⟨by kernel_rfl, ?_⟩) (fun _ => hS0) ?_
          rotate_left 1
          · (intro w hSw; (try dsimp only at hSw); go_simp; try with_reducible rfl)
          try simp only [Act.put, Array.toArray_toList, List.setIfInBounds_toArray, List.set_cons_zero, List.set_cons_succ]
          refine anyM_take (i := 2) (oi := { dst := some 63, op := _, type := _, pos := _, after := _, guard := _ }) (v := ?_) rfl (by kernel_rfl) (fun _ _ _ h => h) (Or.inl ⟨by kernel_rfl, ?_⟩) hS0 ?_
          rotate_left 1
          · (intro w hSw; (try dsimp only at hSw); go_simp; try with_reducible rfl)
          try simp only [Act.put, Array.toArray_toList, List.setIfInBounds_toArray, List.set_cons_zero, List.set_cons_succ]
          refine anyM_free (i := 3) (oi := { dst := some 64, op := _, type := _, pos := _, after := _, guard := _ }) (v := ?_) rfl (by kernel_rfl) (fun _ _ _ h => h) (Or.inl ⟨by kernel_rfl, ?_⟩) (fun _ => hS0) ?_
          rotate_left 1
          · (intro w hSw; (try dsimp only at hSw); go_simp; try with_reducible rfl)
          try simp only [Act.put, Array.toArray_toList, List.setIfInBounds_toArray, List.set_cons_zero, List.set_cons_succ]
          refine anyM_free (i := 4) (oi := { dst := some 65, op := _, type := _, pos := _, after := _, guard := _ }) (v := ?_) rfl (by kernel_rfl) (fun _ _ _ h => h) (Or.inl ⟨by kernel_rfl, ?_⟩) (fun _ => hS0) ?_
          rotate_left 1
          · (intro w hSw; (try dsimp only at hSw); go_simp; try with_reducible rfl)
          try simp only [Act.put, Array.toArray_toList, List.setIfInBounds_toArray, List.set_cons_zero, List.set_cons_succ]
          refine anyM_free (i := 5) (oi := { dst := some 66, op := _, type := _, pos := _, after := _, guard := _ }) (v := ?_) rfl (by kernel_rfl) (fun _ _ _ h => h) (Or.inl ⟨by kernel_rfl, ?_⟩) (fun _ => hS0) ?_
          rotate_left 1
          · (intro w hSw; (try dsimp only at hSw); go_simp; try with_reducible rfl)
          try simp only [Act.put, Array.toArray_toList, List.setIfInBounds_toArray, List.set_cons_zero, List.set_cons_succ]
          refine anyM_take (i := 6) (oi := { dst := some 67, op := _, type := _, pos := _, after := _, guard := _ }) (v := ?_) rfl (by kernel_rfl) (fun _ _ _ h => h) (Or.inl ⟨by kernel_rfl, ?_⟩) hS0 ?_
          rotate_left 1
          · (intro w hSw; (try dsimp only at hSw); go_simp; try with_reducible rfl)
          try simp only [Act.put, Array.toArray_toList, List.setIfInBounds_toArray, List.set_cons_zero, List.set_cons_succ]
          refine anyM_free (i := 7) (oi := { dst := some 68, op := _, type := _, pos := _, after := _, guard := _ }) (v := ?_) rfl (by kernel_rfl) (fun _ _ _ h => h) (Or.inl ⟨by kernel_rfl, ?_⟩) (fun _ => hS0) ?_
          rotate_left 1
          · (intro w hSw; (try dsimp only at hSw); go_simp; try with_reducible rfl)
          try simp only [Act.put, Array.toArray_toList, List.setIfInBounds_toArray, List.set_cons_zero, List.set_cons_succ]
          refine anyM_free (i := 8) (oi := { dst := some 69, op := _, type := _, pos := _, after := _, guard := _ }) (v := ?_) rfl (by kernel_rfl) (fun _ _ _ h => h) (Or.inl ⟨by kernel_rfl, ?_⟩) (fun _ => hS0) ?_
          rotate_left 1
          · (intro w hSw; (try dsimp only at hSw); go_simp; try with_reducible rfl)
          try simp only [Act.put, Array.toArray_toList, List.setIfInBounds_toArray, List.set_cons_zero, List.set_cons_succ]
          refine anyM_take (i := 9) (oi := { dst := some 70, op := _, type := _, pos := _, after := _, guard := _ }) (v := ?_) rfl (by kernel_rfl) (fun _ _ _ h => h) (Or.inl ⟨by kernel_rfl, ?_⟩) hS0 ?_
          rotate_left 1
          · (intro w hSw; (try dsimp only at hSw); go_simp; try with_reducible rfl)
          try simp only [Act.put, Array.toArray_toList, List.setIfInBounds_toArray, List.set_cons_zero, List.set_cons_succ]
          refine anyM_free (i := 10) (oi := { dst := some 71, op := _, type := _, pos := _, after := _, guard := _ }) (v := ?_) rfl (by kernel_rfl) (fun _ _ _ h => h) (Or.inl ⟨by kernel_rfl, ?_⟩) (fun _ => hS0) ?_
          rotate_left 1
          · (intro w hSw; (try dsimp only at hSw); go_simp; try with_reducible rfl)
          try simp only [Act.put, Array.toArray_toList, List.setIfInBounds_toArray, List.set_cons_zero, List.set_cons_succ]
          refine anyM_free (i := 11) (oi := { dst := some 72, op := _, type := _, pos := _, after := _, guard := _ }) (v := ?_) rfl (by kernel_rfl) (fun _ _ _ h => h) (Or.inl ⟨by kernel_rfl, ?_⟩) (fun _ => hS0) ?_
          rotate_left 1
          · (intro w hSw; (try dsimp only at hSw); go_simp; try with_reducible rfl)
          try simp only [Act.put, Array.toArray_toList, List.setIfInBounds_toArray, List.set_cons_zero, List.set_cons_succ]
          refine anyM_one (i := 12) (by kernel_rfl) rfl (fun K hK => ?_)
          go_simp
          refine (cloneInt_calls (winL st2 pp sp) sp (m - pp) _ ⟨gM, pp, none⟩ _ (fnL_len _ _) (holds_win hMq (by omega)) (Nat.le_refl _) (by omega) (by omega)).mono ?_
          rintro e w4 ⟨g9, c9, rfl, ho9, hb9⟩
          have hX4 := hX.below hb9 hX.lt
          have hS0 : (fun w' : World => w'.cell? ⟨gx, 0, none⟩ = some (.int .i64 cl) ∧ w'.cell? ⟨gx, 1, none⟩ = some (.int .i64 cm) ∧ w'.cell? ⟨gx, 2, none⟩ = some (.int .i64 pp)) w4 := ⟨hX4.cell 0, hX4.cell 1, hX4.cell 2⟩
          refine hK.out _ _ (fun _ => hS0) ?_
          clear hK K
          try simp only [Act.put, Array.toArray_toList, List.setIfInBounds_toArray, List.set_cons_zero, List.set_cons_succ]
          refine anyM_one (i := 13) (by kernel_rfl) rfl (fun K hK => ?_)
          go_simp
          refine (widen_calls gL pp sp m b1 (some ⟨g9, 0, none⟩) c9 st1 st2 cl _ (own_below hLq hb9) (Holds.of_own ho9) (by omega) hmm (by omega) HF1.out HF2.out (by omega) (by omega)).mono ?_
          rintro e w5 ⟨rfl, ho5, hg5⟩
          have hX5 := blk_grown hX4 hg5 (by intro e; injection e with e; exact hgx1 e)
          have hS0 : (fun w' : World => w'.cell? ⟨gx, 0, none⟩ = some (.int .i64 cl) ∧ w'.cell? ⟨gx, 1, none⟩ = some (.int .i64 cm) ∧ w'.cell? ⟨gx, 2, none⟩ = some (.int .i64 pp)) w5 := ⟨hX5.cell 0, hX5.cell 1, hX5.cell 2⟩
          refine hK.out _ _ (fun _ => hS0) ?_
          clear hK K
          try simp only [Act.put, Array.toArray_toList, List.setIfInBounds_toArray, List.set_cons_zero, List.set_cons_succ]
          refine anyM_done (by kernel_rfl) ?_ _
          refine NoPanic.normal ?_
          have hne := HNE.out
          have hL5 := Lib.hid ho5
          have hM5 := own_grownOther (own_below hMq hb9) (by simp [Value.ownBlock]; exact fun e => hne e.symm) hg5
          have hO5 := own_grownOther (own_below hOq hb9) (ap_type hLq hOq (by decide)).far hg5
          have hB5 := (below_then hBq hb9).grown hg5 (below_then hBq hb9).size (fun x hx => by injection hx with hx; subst hx; exact HGL.out)
          clear hX hX4 hS0 hLq hMq hOq hBq ho9 hb9 ho5 hg5
          have hX6 := hX5.drew
          have hM6 := hM5.drew
          have hS0 : (fun w' : World => w'.cell? ⟨gx, 0, none⟩ = some (.int .i64 cl) ∧ w'.cell? ⟨gx, 1, none⟩ = some (.int .i64 cm) ∧ w'.cell? ⟨gx, 2, none⟩ = some (.int .i64 pp)) w5.drew := ⟨hX6.cell 0, hX6.cell 1, hX6.cell 2⟩
          have HO6 := Lib.hid hO5.drew
          have HB6 := Lib.hid hB5.drew
          have HL6 := Lib.hid hL5.out.drew
          clear hX5 hM5 hO5 hB5 hL5
          go_wp2_with fail
          refine wp_region_noPanic ?_
          refine region_M (S := fun w' => w'.cell? ⟨gx, 0, none⟩ = some (.int .i64 cl) ∧ w'.cell? ⟨gx, 1, none⟩ = some (.int .i64 cm) ∧ w'.cell? ⟨gx, 2, none⟩ = some (.int .i64 pp)) (T := []) (by kernel_rfl) ?_
          refine anyM_free (i := 0) (oi := { dst := some 75, op := _, type := _, pos := _, after := _, guard := _ }) (v := ?_) rfl (by kernel_rfl) (fun _ _ _ h => h) (Or.inl ⟨by kernel_rfl, ?_⟩) (fun _ => hS0) ?_
          rotate_left 1
          · (intro w hSw; (try dsimp only at hSw); go_simp; try with_reducible rfl)
          try simp only [Act.put, Array.toArray_toList, List.setIfInBounds_toArray, List.set_cons_zero, List.set_cons_succ]
          refine anyM_free (i := 1) (oi := { dst := some 76, op := _, type := _, pos := _, after := _, guard := _ }) (v := ?_) rfl (by kernel_rfl) (fun _ _ _ h => h) (Or.inl ⟨by kernel_rfl, ?_⟩) (fun _ => hS0) ?_
          rotate_left 1
          · (intro w hSw; (try dsimp only at hSw); go_simp; try with_reducible rfl)
          try simp only [Act.put, Array.toArray_toList, List.setIfInBounds_toArray, List.set_cons_zero, List.set_cons_succ]
          refine anyM_take (i := 2) (oi := { dst := some 77, op := _, type := _, pos := _, after := _, guard := _ }) (v := ?_) rfl (by kernel_rfl) (fun _ _ _ h => h) (Or.inl ⟨by kernel_rfl, ?_⟩) hS0 ?_
          rotate_left 1
          · (intro w hSw; (try dsimp only at hSw); go_simp; try with_reducible rfl)
          try simp only [Act.put, Array.toArray_toList, List.setIfInBounds_toArray, List.set_cons_zero, List.set_cons_succ]
          refine anyM_free (i := 3) (oi := { dst := some 78, op := _, type := _, pos := _, after := _, guard := _ }) (v := ?_) rfl (by kernel_rfl) (fun _ _ _ h => h) (Or.inl ⟨by kernel_rfl, ?_⟩) (fun _ => hS0) ?_
          rotate_left 1
          · (intro w hSw; (try dsimp only at hSw); go_simp; try with_reducible rfl)
          try simp only [Act.put, Array.toArray_toList, List.setIfInBounds_toArray, List.set_cons_zero, List.set_cons_succ]
          refine anyM_free (i := 4) (oi := { dst := some 79, op := _, type := _, pos := _, after := _, guard := _ }) (v := ?_) rfl (by kernel_rfl) (fun _ _ _ h => h) (Or.inl ⟨by kernel_rfl, ?_⟩) (fun _ => hS0) ?_
          rotate_left 1
          · (intro w hSw; (try dsimp only at hSw); go_simp; try with_reducible rfl)
          try simp only [Act.put, Array.toArray_toList, List.setIfInBounds_toArray, List.set_cons_zero, List.set_cons_succ]
          refine anyM_free (i := 5) (oi := { dst := some 80, op := _, type := _, pos := _, after := _, guard := _ }) (v := ?_) rfl (by kernel_rfl) (fun _ _ _ h => h) (Or.inl ⟨by kernel_rfl, ?_⟩) (fun _ => hS0) ?_
          rotate_left 1
          · (intro w hSw; (try dsimp only at hSw); go_simp; try with_reducible rfl)
          try simp only [Act.put, Array.toArray_toList, List.setIfInBounds_toArray, List.set_cons_zero, List.set_cons_succ]
          refine anyM_take (i := 6) (oi := { dst := some 81, op := _, type := _, pos := _, after := _, guard := _ }) (v := ?_) rfl (by kernel_rfl) (fun _ _ _ h => h) (Or.inl ⟨by kernel_rfl, ?_⟩) hS0 ?_
          rotate_left 1
          · (intro w hSw; (try dsimp only at hSw); go_simp; try with_reducible rfl)
          try simp only [Act.put, Array.toArray_toList, List.setIfInBounds_toArray, List.set_cons_zero, List.set_cons_succ]
          refine anyM_free (i := 7) (oi := { dst := some 82, op := _, type := _, pos := _, after := _, guard := _ }) (v := ?_) rfl (by kernel_rfl) (fun _ _ _ h => h) (Or.inl ⟨by kernel_rfl, ?_⟩) (fun _ => hS0) ?_
          rotate_left 1
          · (intro w hSw; (try dsimp only at hSw); go_simp; try with_reducible rfl)
          try simp only [Act.put, Array.toArray_toList, List.setIfInBounds_toArray, List.set_cons_zero, List.set_cons_succ]
          refine anyM_free (i := 8) (oi := { dst := some 83, op := _, type := _, pos := _, after := _, guard := _ }) (v := ?_) rfl (by kernel_rfl) (fun _ _ _ h => h) (Or.inl ⟨by kernel_rfl, ?_⟩) (fun _ => hS0) ?_
          rotate_left 1
          · (intro w hSw; (try dsimp only at hSw); go_simp; try with_reducible rfl)
          try simp only [Act.put, Array.toArray_toList, List.setIfInBounds_toArray, List.set_cons_zero, List.set_cons_succ]
          refine anyM_take (i := 9) (oi := { dst := some 84, op := _, type := _, pos := _, after := _, guard := _ }) (v := ?_) rfl (by kernel_rfl) (fun _ _ _ h => h) (Or.inl ⟨by kernel_rfl, ?_⟩) hS0 ?_
          rotate_left 1
          · (intro w hSw; (try dsimp only at hSw); go_simp; try with_reducible rfl)
          try simp only [Act.put, Array.toArray_toList, List.setIfInBounds_toArray, List.set_cons_zero, List.set_cons_succ]
          refine anyM_free (i := 10) (oi := { dst := some 85, op := _, type := _, pos := _, after := _, guard := _ }) (v := ?_) rfl (by kernel_rfl) (fun _ _ _ h => h) (Or.inl ⟨by kernel_rfl, ?_⟩) (fun _ => hS0) ?_
          rotate_left 1
          · (intro w hSw; (try dsimp only at hSw); go_simp; try with_reducible rfl)
          try simp only [Act.put, Array.toArray_toList, List.setIfInBounds_toArray, List.set_cons_zero, List.set_cons_succ]
          refine anyM_free (i := 11) (oi := { dst := some 86, op := _, type := _, pos := _, after := _, guard := _ }) (v := ?_) rfl (by kernel_rfl) (fun _ _ _ h => h) (Or.inl ⟨by kernel_rfl, ?_⟩) (fun _ => hS0) ?_
          rotate_left 1
          · (intro w hSw; (try dsimp only at hSw); go_simp; try with_reducible rfl)
          try simp only [Act.put, Array.toArray_toList, List.setIfInBounds_toArray, List.set_cons_zero, List.set_cons_succ]
          refine anyM_one (i := 12) (by kernel_rfl) rfl (fun K hK => ?_)
          go_simp
          refine (cloneInt_calls (winL st2 pp sp) sp (m - pp) _ ⟨gM, pp, none⟩ _ (fnL_len _ _) (holds_win hM6 (by omega)) (Nat.le_refl _) (by omega) (by omega)).mono ?_
          rintro e w6 ⟨g8, c8, rfl, ho8, hb8⟩
          have hX7 := hX6.below hb8 hX6.lt
          have hS0 : (fun w' : World => w'.cell? ⟨gx, 0, none⟩ = some (.int .i64 cl) ∧ w'.cell? ⟨gx, 1, none⟩ = some (.int .i64 cm) ∧ w'.cell? ⟨gx, 2, none⟩ = some (.int .i64 pp)) w6 := ⟨hX7.cell 0, hX7.cell 1, hX7.cell 2⟩
          refine hK.out _ _ (fun _ => hS0) ?_
          clear hK K
          try simp only [Act.put, Array.toArray_toList, List.setIfInBounds_toArray, List.set_cons_zero, List.set_cons_succ]
          refine anyM_one (i := 13) (by kernel_rfl) rfl (fun K hK => ?_)
          go_simp
          refine (widen_calls gM pp sp m b1 (some ⟨g8, 0, none⟩) c8 st2 st2 cm _ (own_below hM6 hb8) (Holds.of_own ho8) (by omega) hmm (by omega) HF2.out HF2.out (by omega) (by omega)).mono ?_
          rintro e w7 ⟨rfl, ho7, hg7⟩
          have hX8 := blk_grown hX7 hg7 (by intro e; injection e with e; exact hgx2 e)
          have hS0 : (fun w' : World => w'.cell? ⟨gx, 0, none⟩ = some (.int .i64 cl) ∧ w'.cell? ⟨gx, 1, none⟩ = some (.int .i64 cm) ∧ w'.cell? ⟨gx, 2, none⟩ = some (.int .i64 pp)) w7 := ⟨hX8.cell 0, hX8.cell 1, hX8.cell 2⟩
          refine hK.out _ _ (fun _ => hS0) ?_
          clear hK K
          try simp only [Act.put, Array.toArray_toList, List.setIfInBounds_toArray, List.set_cons_zero, List.set_cons_succ]
          refine anyM_done (by kernel_rfl) ?_ _
          refine NoPanic.normal ?_
          have hL9 := own_grownOther (own_below HL6.out hb8) (by simp [Value.ownBlock]; exact hne) hg7
          have hO9 := own_grownOther (own_below HO6.out hb8) (ap_type hM6 HO6.out (by decide)).far hg7
          have hB9 := (below_then HB6.out hb8).grown hg7 (below_then HB6.out hb8).size (fun x hx => by injection hx with hx; subst hx; exact HGM.out)
          have HL9 := Lib.hid hL9
          have HM9 := Lib.hid ho7
          have HO9 := Lib.hid hO9
          have HB9 := Lib.hid hB9
          clear hX6 hX7 hX8 hM6 hS0 hL9 ho7 hO9 hB9 hb8 ho8 hg7 hne
          go_wp2_with fail
          go_roundw
          case rel => exact ⟨k + 1, by have := QQ.out; omega, by go_num, HO9.out, by rw [HS1.out]; exact HL9.out, by rw [HS1.out]; exact HM9.out, HB9.out⟩
          case measure => have := QQ.out; simp [intOf]; omega
      · obtain rfl : k = S.length := by omega
        rw [List.take_length] at hL hM
        have HLF : Hid (leastF S m = fnL m (colsF S).1) := rfl
        have HMF : Hid (mostF S m = fnL m (fun i => max ((colsF S).2 i) ((colsF S).1 i))) := rfl
        obtain ⟨⟨f1, f2⟩, hf⟩ : ∃ x, x = colsF S := ⟨_, rfl⟩
        rw [← hf] at hL hM HLF HMF
        simp only at hL hM HLF HMF
        have HL3 := Lib.hid hL
        have HM3 := Lib.hid hM
        have HB3 := Lib.hid hbel
        clear hf hO hL hM hbel
        go_wp2_with fail
        obtain ⟨wo, rfl⟩ : ∃ wo : World, wo = wr := ⟨_, rfl⟩
        go_loopw [92] (fun i wr => ∃ k : Nat, k ≤ m ∧ i = .int .i64 k ∧ wr.ownsRow b1 3 1 (.slice (some ⟨gM, 0, none⟩) m m) m (ints (turT m f2 (fun i => max (f2 i) (f1 i)) k)) ∧ wr.ownsRow b1 3 1 (.slice (some ⟨gL, 0, none⟩) m m) m (ints (fnL m f1)) ∧ Below w.heap.size w wr) (fun i _ => m - (intOf i).toNat)
        case atStart => exact ⟨0, Nat.zero_le _, rfl, by rw [turT_zero]; exact HM3.out, HL3.out, HB3.out⟩
        case round =>
          obtain ⟨q, hq, rfl, hM, hL, hbel⟩ := hrel
          by_cases hlt2 : q < m
          · have cM : wr.cell? ⟨gM, q, none⟩ = some (.int .i64 (f2 q)) := (hM.cellAt q (by omega)).trans (by rw [turT_at _ _ _ _ _ hlt2, if_neg (by omega)])
            have cL : wr.cell? ⟨gL, q, none⟩ = some (.int .i64 (f1 q)) := (hL.cellAt q (by omega)).trans (fnL_at _ _ _ hlt2)
            have zM : wr.drew.frozen? ⟨gM, q, none⟩ = false := own_free hM
            have HST := Lib.hid (turT_set m q f2 (fun i => max (f2 i) (f1 i)) hlt2)
            obtain ⟨a1, ha1⟩ : ∃ z, z = f1 q := ⟨_, rfl⟩
            obtain ⟨a2, ha2⟩ : ∃ z, z = f2 q := ⟨_, rfl⟩
            rw [← ha1] at cL
            rw [← ha2] at cM
            simp only [← ha1, ← ha2] at HST
            have hM2 := own_set (j := q) (u := .int .i64 (max a2 a1)) hM
            rw [HST.out] at hM2
            have hL2 := own_setFar (b := gM) (j := q) (u := .int .i64 (max a2 a1)) hL (by simp [Value.ownBlock]; exact HNE.out)
            have HM5 := Lib.hid hM2
            have HL5 := Lib.hid hL2
            have HB5 := Lib.hid (below_set hbel (b := gM) (off := q) HGM.out (.int .i64 (max a2 a1)))
            have QQ := Lib.hid (show q ≤ m ∧ q < m from ⟨hq, hlt2⟩)
            have hS0 : (fun w' : World => w'.cell? ⟨gM, q, none⟩ = some (.int .i64 a2) ∧ w'.cell? ⟨gL, q, none⟩ = some (.int .i64 a1)) wr.drew := ⟨cM, cL⟩
            clear hL hM hbel hM2 hL2 ha1 ha2
            go_wp2_with fail
            refine wp_region_noPanic ?_
            refine region_M (S := fun w' => w'.cell? ⟨gM, q, none⟩ = some (.int .i64 a2) ∧ w'.cell? ⟨gL, q, none⟩ = some (.int .i64 a1)) (T := [12]) (by kernel_rfl) ?_
            refine anyM_free (i := 0) (oi := { dst := some 95, op := _, type := _, pos := _, after := _, guard := _ }) (v := ?_) rfl (by kernel_rfl) (fun _ _ _ h => h) (Or.inl ⟨by kernel_rfl, ?_⟩) (fun _ => hS0) ?_
            rotate_left 1
            · (intro w hSw; (try dsimp only at hSw); go_simp; try with_reducible rfl)
            try simp only [Act.put, Array.toArray_toList, List.setIfInBounds_toArray, List.set_cons_zero, List.set_cons_succ]
            refine anyM_free (i := 1) (oi := { dst := some 96, op := _, type := _, pos := _, after := _, guard := _ }) (v := ?_) rfl (by kernel_rfl) (fun _ _ _ h => h) (Or.inl ⟨by kernel_rfl, ?_⟩) (fun _ => hS0) ?_
            rotate_left 1
            · (intro w hSw; (try dsimp only at hSw); go_simp; try with_reducible rfl)
            try simp only [Act.put, Array.toArray_toList, List.setIfInBounds_toArray, List.set_cons_zero, List.set_cons_succ]
            refine anyM_free (i := 2) (oi := { dst := some 97, op := _, type := _, pos := _, after := _, guard := _ }) (v := ?_) rfl (by kernel_rfl) (fun _ _ _ h => h) (Or.inl ⟨by kernel_rfl, ?_⟩) (fun _ => hS0) ?_
            rotate_left 1
            · (intro w hSw; (try dsimp only at hSw); go_simp; try with_reducible rfl)
            try simp only [Act.put, Array.toArray_toList, List.setIfInBounds_toArray, List.set_cons_zero, List.set_cons_succ]
            refine anyM_free (i := 3) (oi := { dst := some 98, op := _, type := _, pos := _, after := _, guard := _ }) (v := ?_) rfl (by kernel_rfl) (fun _ _ _ h => h) (Or.inl ⟨by kernel_rfl, ?_⟩) (fun _ => hS0) ?_
            rotate_left 1
            · (intro w hSw; (try dsimp only at hSw); go_simp; try with_reducible rfl)
            try simp only [Act.put, Array.toArray_toList, List.setIfInBounds_toArray, List.set_cons_zero, List.set_cons_succ]
            refine anyM_free (i := 4) (oi := { dst := some 99, op := _, type := _, pos := _, after := _, guard := _ }) (v := ?_) rfl (by kernel_rfl) (fun _ _ _ h => h) (Or.inl ⟨by kernel_rfl, ?_⟩) (fun _ => hS0) ?_
            rotate_left 1
            · (intro w hSw; (try dsimp only at hSw); go_simp; try with_reducible rfl)
            try simp only [Act.put, Array.toArray_toList, List.setIfInBounds_toArray, List.set_cons_zero, List.set_cons_succ]
            refine anyM_take (i := 5) (oi := { dst := some 100, op := _, type := _, pos := _, after := _, guard := _ }) (v := ?_) rfl (by kernel_rfl) (fun _ _ _ h => h) (Or.inl ⟨by kernel_rfl, ?_⟩) hS0 ?_
            rotate_left 1
            · (intro w hSw; (try dsimp only at hSw); go_simp; try with_reducible rfl)
            try simp only [Act.put, Array.toArray_toList, List.setIfInBounds_toArray, List.set_cons_zero, List.set_cons_succ]
            refine anyM_free (i := 6) (oi := { dst := some 101, op := _, type := _, pos := _, after := _, guard := _ }) (v := ?_) rfl (by kernel_rfl) (fun _ _ _ h => h) (Or.inl ⟨by kernel_rfl, ?_⟩) (fun _ => hS0) ?_
            rotate_left 1
            · (intro w hSw; (try dsimp only at hSw); go_simp; try with_reducible rfl)
            try simp only [Act.put, Array.toArray_toList, List.setIfInBounds_toArray, List.set_cons_zero, List.set_cons_succ]
            refine anyM_free (i := 7) (oi := { dst := some 102, op := _, type := _, pos := _, after := _, guard := _ }) (v := ?_) rfl (by kernel_rfl) (fun _ _ _ h => h) (Or.inl ⟨by kernel_rfl, ?_⟩) (fun _ => hS0) ?_
            rotate_left 1
            · (intro w hSw; (try dsimp only at hSw); go_simp; try with_reducible rfl)
            try simp only [Act.put, Array.toArray_toList, List.setIfInBounds_toArray, List.set_cons_zero, List.set_cons_succ]
            refine anyM_free (i := 8) (oi := { dst := some 103, op := _, type := _, pos := _, after := _, guard := _ }) (v := ?_) rfl (by kernel_rfl) (fun _ _ _ h => h) (Or.inl ⟨by kernel_rfl, ?_⟩) (fun _ => hS0) ?_
            rotate_left 1
            · (intro w hSw; (try dsimp only at hSw); go_simp; try with_reducible rfl)
            try simp only [Act.put, Array.toArray_toList, List.setIfInBounds_toArray, List.set_cons_zero, List.set_cons_succ]
            refine anyM_take (i := 9) (oi := { dst := some 104, op := _, type := _, pos := _, after := _, guard := _ }) (v := ?_) rfl (by kernel_rfl) (fun _ _ _ h => h) (Or.inl ⟨by kernel_rfl, ?_⟩) hS0 ?_
            rotate_left 1
            · (intro w hSw; (try dsimp only at hSw); go_simp; try with_reducible rfl)
            try simp only [Act.put, Array.toArray_toList, List.setIfInBounds_toArray, List.set_cons_zero, List.set_cons_succ]
            refine anyM_free (i := 10) (oi := { dst := some 105, op := _, type := _, pos := _, after := _, guard := _ }) (v := ?_) rfl (by kernel_rfl) (fun _ _ _ h => h) (Or.inl ⟨by kernel_rfl, ?_⟩) (fun _ => hS0) ?_
            rotate_left 1
            · (intro w hSw; (try dsimp only at hSw); go_simp; try with_reducible rfl)
            try simp only [Act.put, Array.toArray_toList, List.setIfInBounds_toArray, List.set_cons_zero, List.set_cons_succ]
            refine anyM_free (i := 11) (oi := { dst := some 106, op := _, type := _, pos := _, after := _, guard := _ }) (v := ?_) rfl (by kernel_rfl) (fun _ _ _ h => h) (Or.inl ⟨by kernel_rfl, ?_⟩) (fun _ => hS0) ?_
            rotate_left 1
            · (intro w hSw; (try dsimp only at hSw); go_simp; try with_reducible rfl)
            try simp only [Act.put, Array.toArray_toList, List.setIfInBounds_toArray, List.set_cons_zero, List.set_cons_succ]
            refine anyM_one (i := 12) (by kernel_rfl) rfl (fun K hK => ?_)
            go_simp
            refine hK.out _ _ (fun h => late_no h (by kernel_rfl)) ?_
            clear hK K
            try simp only [Act.put, Array.toArray_toList, List.setIfInBounds_toArray, List.set_cons_zero, List.set_cons_succ]
            refine anyM_done (by kernel_rfl) ?_ _
            refine NoPanic.normal ?_
            clear hS0 zM cM cL
            go_wp2_with fail
            go_roundw
            case rel => exact ⟨q + 1, by have := QQ.out; omega, by go_num, HM5.out, HL5.out, HB5.out.drew⟩
            case measure => have := QQ.out; simp [intOf]; omega
          · obtain rfl : m = q := by omega
            rw [turT_all] at hM
            have HM5 := Lib.hid hM
            have HL5 := Lib.hid hL
            have HB5 := Lib.hid hbel
            clear hL hM hbel
            go_wp2_with fail
            go_ret2
            exact ⟨.slice (some ⟨gL, 0, none⟩) m m, .slice (some ⟨gM, 0, none⟩) m m, rfl, by rw [HLF.out]; exact own_low HL5.out hwb, by rw [HMF.out]; exact own_low HM5.out hwb, HB5.out⟩
end Go.Proofs.Ytkppignoomnmdaa
