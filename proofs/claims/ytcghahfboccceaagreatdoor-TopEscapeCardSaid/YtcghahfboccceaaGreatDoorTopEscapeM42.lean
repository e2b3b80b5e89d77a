/- Several texts in one: TfS, TfU. -/
import Derived.Test.YtcghahfboccceaaGreatDoorTopEscapeM41
/- Contract of the parser's done. Printed by genTfS.py. -/
namespace Go.Proofs.YtcghahfboccceaaGreatDoor
open Go.RowKit Go.Shelf
set_option linter.unusedVariables false
set_option linter.unusedSimpArgs false

/-- A document in memory: the slice of its nodes. -/
def DocIn (w : World) (A : Option Addr) (n : Nat) (l : List Nd) : Prop := ∃ base c vo ns op, ns.map NodeV.abs = l ∧ ns.length = n ∧ TreeM w base (.slice A n c) vo ns op ∧ ∀ x ∈ l, x.attrs.length ≤ 1000 ∧ x.kids.length ≤ 1000
theorem DocIn.below {w w' : World} {A : Option Addr} {n : Nat} {l : List Nd} (h : DocIn w A n l) (hb : Below w.heap.size w w') : DocIn w' A n l := by
  obtain ⟨base, c, vo, ns, op, h1, h2, h3, h4⟩ := h
  exact ⟨base, c, vo, ns, op, h1, h2, h3.below hb, h4⟩
theorem DocIn.nodes {w : World} {A : Option Addr} {n : Nat} {l : List Nd} (h : DocIn w A n l) : ∃ ns, ns.map NodeV.abs = l ∧ ns.length = n ∧ Nodes w w.heap.size A ns := by
  obtain ⟨base, c, vo, ns, op, h1, h2, h3, h4⟩ := h
  refine ⟨ns, h1, h2, h3.nodes fun x hx => ?_⟩
  have := h4 x.abs (by rw [← h1]; exact List.mem_map_of_mem hx)
  have e1 : x.abs.attrs = x.attrs := rfl
  have e2 : x.abs.kids = x.kids := rfl
  rw [e1, e2] at this
  omega
theorem RPx.doc {B b : Nat} {m : Int} {S : PS} {A : Option Addr} {n c : Nat} {vo : Value} {ns : List NodeV} {w : World} (h : RPx B b m S (.slice A n c) vo ns w) (hn : ns.length = n) (hf : ∀ x ∈ S.ns, x.attrs.length ≤ 1000 ∧ x.kids.length ≤ 1000) : DocIn w A n S.ns :=
  ⟨B, c, vo, ns, S.op, h.abs, hn, h.tree, hf⟩
/-- A document's own block stored: the nodes stay. -/
theorem DocIn.far {w : World} {A : Option Addr} {n g j : Nat} {l : List Nd} {u : Value} {c2 : Array Value} (h : DocIn w A n l) (h2 : Blk w g 27 c2) : DocIn (w.setCell ⟨g, j, none⟩ u) A n l := by
  obtain ⟨base, c, vo, ns, op, h1, h3, h4, h5⟩ := h
  exact ⟨base, c, vo, ns, op, h1, h3, h4.setFar fun q hq => h4.ne_blk h2 (by decide) (by decide) (by decide) hq, h5⟩
set_option maxRecDepth 100000 in
set_option maxHeartbeats 8000000 in
theorem done_calls (B b : Nat) (m : Int) (S P' : PS) (html s : ByteArray) (ds : List TokD) (w : World) (h : RP B b m S w) (hh : html.size ≤ 1099511627776) (hc : cleaned html = s) (hs : s.size ≤ 4000)
    (hst : ∃ n A A' dd kd D, Stages s n A A' dd kd D ∧ D n = ds)
    (hall : ∀ (W : World) (v : Value) (ts : List TokV) (Br : Nat), B ≤ Br → RP B b m S W → W.ownsRow Br 49 7 v ts.length (ts.flatMap tokL) → ToksOk Br W ds ts → Calls Tryz.prog 36 #[.pointer (some ⟨b, 0, none⟩), v] W fun e w' => e = .returned (.tuple #[]) ∧ RP B b m P' w' ∧ Left B W w')
    (hck : checkE (P'.ns.map conc) = 0) (hf : ∀ x ∈ P'.ns, x.attrs.length ≤ 1000 ∧ x.kids.length ≤ 1000) (hn : P'.ns.length ≤ 1000) :
    Calls Tryz.prog 20 #[.pointer (some ⟨b, 0, none⟩), .string html] w fun e w' => ∃ A n c, e = .returned (.tuple #[.agg #[.slice A n c, .bool P'.quirks], .int .i64 0]) ∧ DocIn w' A n P'.ns ∧ Below B w w' := by
  obtain ⟨g, hg⟩ : ∃ g, g = w.heap.size := ⟨_, rfl⟩
  obtain ⟨wa, hwa⟩ : ∃ wa, wa = w.alloc (.cells #[.slice none 0 0, .bool false] 27) := ⟨_, rfl⟩
  have TB : Hid (Blk wa g 27 #[.slice none 0 0, .bool false]) := by show Blk _ _ _ _; rw [hwa, hg]; exact Blk.new w _ _
  have hb0 : Below w.heap.size w wa := by rw [hwa]; exact (Below.refl _ w).alloc (Nat.le_refl _) _
  have RR := Lib.hid (h.below hb0)
  have LL := Lib.hid (Left.of_below hb0 h.bw)
  have HWA := Lib.hid hwa
  have HG := Lib.hid hg
  have HCL := Lib.hid (fun W => clean_calls' html hh W)
  rw [hc] at HCL
  have HRD := Lib.hid (fun W hW => tRead_calls s ds hst hs m W hW)
  have HALL := Lib.hid hall
  have HF := Lib.hid hf
  have HCK := Lib.hid hck
  have hBw := Lib.hid h.bw
  clear h hg hwa hb0 hc hst hall hf hck
  go_enter Tryz.func20, Tryz.ntmps20
  go_upto_region 1 with fail
  rw [← HWA.out, ← HG.out]
  go_wp2_with (first
    | (go_at_call 14; refine (HCL.out _).mono ?_; rintro e w1 ⟨rfl, hb⟩; (have LL := Lib.hid (LL.out.trans (Left.of_below hb RR.out.bw))); (have RR := Lib.hid (RR.out.below hb)); (have TB := Lib.hid (TB.out.below hb TB.out.lt)); clear hb)
    | (go_at_call 17; refine (HRD.out _ (RP.mx RR.out)).mono ?_; rintro e w2 ⟨v, ts, rfl, ho, ht, hb⟩; (have HA := Lib.hid (HALL.out _ v ts _ RR.out.bw (RR.out.below hb) ho ht)); (have LL := Lib.hid (LL.out.trans (Left.of_below hb RR.out.bw))); (have TB := Lib.hid (TB.out.below hb TB.out.lt)); clear ho ht hb)
    | (go_at_call 36; refine HA.out.mono ?_; rintro e w3 ⟨rfl, hr, hl⟩; (have LL := Lib.hid (LL.out.trans hl)); (have TB := Lib.hid (hl.keep.blk TB.out (by decide) (by decide) (by decide))); (have c9 := hr.cells.2.2.2.2.2.2.2.1); (have RR := Lib.hid hr); clear hr hl))
  obtain ⟨v9, vo9, ns9, hx9⟩ := RR.out
  obtain ⟨n9, hn9⟩ : ∃ n9, n9 = ns9.length := ⟨_, rfl⟩
  have how := hx9.tree.own
  rw [← hn9] at how
  obtain ⟨A9, cp9, rfl⟩ := own_open how
  have RX := Lib.hid hx9
  have HN9 := Lib.hid hn9
  have hn9k : n9 ≤ 1000 := by rw [hn9, hx9.len]; exact hn
  have hS0 : (fun w' : World => w'.cell? ⟨b, 0, none⟩ = some (.slice A9 n9 cp9) ∧ w'.cell? ⟨b, 8, none⟩ = some (.bool P'.quirks)) w3 := ⟨hx9.blk.cell 0, hx9.blk.cell 8⟩
  clear how hx9 hn9 c9
  refine wp_region_noPanic ?_
  refine region_M (S := fun w' => w'.cell? ⟨b, 0, none⟩ = some (.slice A9 n9 cp9) ∧ w'.cell? ⟨b, 8, none⟩ = some (.bool P'.quirks)) (T := [11]) (by kernel_rfl) ?_
  have hS0 : (fun w' : World => w'.cell? ⟨b, 0, none⟩ = some (.slice A9 n9 cp9) ∧ w'.cell? ⟨b, 8, none⟩ = some (.bool P'.quirks)) (World.drew w3) := hS0
  have LL : Hid (Left B w (World.drew w3)) := LL.out.trans (Left.of_below (below_drewN (Below.refl _ _) 1) (by have := RX.out.bw; exact this))
  have RX : Hid (RPx B b m P' (.slice A9 n9 cp9) vo9 ns9 (World.drew w3)) := RX.out.drewN 1
  have TB : Hid (Blk (World.drew w3) g 27 #[.slice none 0 0, .bool false]) := TB.out
  generalize World.drew w3 = wd at LL RX TB hS0 ⊢
  have RX0 := RX
  have TB0 := TB
  refine anyM_free (i := 0) (oi := { dst := some 45, op := _, type := _, pos := _, after := _, guard := _ }) (v := ?_) rfl (by kernel_rfl) (fun _ _ _ h => h) (Or.inl ⟨by kernel_rfl, ?_⟩) (fun _ => hS0) ?_
  rotate_left 1
  · (intro w hSw; (try dsimp only at hSw); go_simp; try with_reducible rfl)
  try simp only [Act.put, Array.toArray_toList, List.setIfInBounds_toArray, List.set_cons_zero, List.set_cons_succ]
  refine anyM_free (i := 1) (oi := { dst := some 46, op := _, type := _, pos := _, after := _, guard := _ }) (v := ?_) rfl (by kernel_rfl) (fun _ _ _ h => h) (Or.inl ⟨by kernel_rfl, ?_⟩) (fun _ => hS0) ?_
  rotate_left 1
  · (intro w hSw; (try dsimp only at hSw); go_simp; try with_reducible rfl)
  try simp only [Act.put, Array.toArray_toList, List.setIfInBounds_toArray, List.set_cons_zero, List.set_cons_succ]
  refine anyM_free (i := 2) (oi := { dst := some 47, op := _, type := _, pos := _, after := _, guard := _ }) (v := ?_) rfl (by kernel_rfl) (fun _ _ _ h => h) (Or.inl ⟨by kernel_rfl, ?_⟩) (fun _ => hS0) ?_
  rotate_left 1
  · (intro w hSw; (try dsimp only at hSw); go_simp; try with_reducible rfl)
  try simp only [Act.put, Array.toArray_toList, List.setIfInBounds_toArray, List.set_cons_zero, List.set_cons_succ]
  refine anyM_free (i := 3) (oi := { dst := some 48, op := _, type := _, pos := _, after := _, guard := _ }) (v := ?_) rfl (by kernel_rfl) (fun _ _ _ h => h) (Or.inl ⟨by kernel_rfl, ?_⟩) (fun _ => hS0) ?_
  rotate_left 1
  · (intro w hSw; (try dsimp only at hSw); go_simp; try with_reducible rfl)
  try simp only [Act.put, Array.toArray_toList, List.setIfInBounds_toArray, List.set_cons_zero, List.set_cons_succ]
  refine anyM_take (i := 4) (oi := { dst := some 49, op := _, type := _, pos := _, after := _, guard := _ }) (v := ?_) rfl (by kernel_rfl) (fun _ _ _ h => h) (Or.inl ⟨by kernel_rfl, ?_⟩) hS0 ?_
  rotate_left 1
  · (intro w hSw; (try dsimp only at hSw); go_simp; try with_reducible rfl)
  try simp only [Act.put, Array.toArray_toList, List.setIfInBounds_toArray, List.set_cons_zero, List.set_cons_succ]
  refine anyM_free (i := 5) (oi := { dst := some 50, op := _, type := _, pos := _, after := _, guard := _ }) (v := ?_) rfl (by kernel_rfl) (fun _ _ _ h => h) (Or.inl ⟨by kernel_rfl, ?_⟩) (fun _ => hS0) ?_
  rotate_left 1
  · (intro w hSw; (try dsimp only at hSw); go_simp; try with_reducible rfl)
  try simp only [Act.put, Array.toArray_toList, List.setIfInBounds_toArray, List.set_cons_zero, List.set_cons_succ]
  refine anyM_free (i := 6) (oi := { dst := some 51, op := _, type := _, pos := _, after := _, guard := _ }) (v := ?_) rfl (by kernel_rfl) (fun _ _ _ h => h) (Or.inl ⟨by kernel_rfl, ?_⟩) (fun _ => hS0) ?_
  rotate_left 1
  · (intro w hSw; (try dsimp only at hSw); go_simp; try with_reducible rfl)
  try simp only [Act.put, Array.toArray_toList, List.setIfInBounds_toArray, List.set_cons_zero, List.set_cons_succ]
  refine anyM_free (i := 7) (oi := { dst := some 52, op := _, type := _, pos := _, after := _, guard := _ }) (v := ?_) rfl (by kernel_rfl) (fun _ _ _ h => h) (Or.inl ⟨by kernel_rfl, ?_⟩) (fun _ => hS0) ?_
  rotate_left 1
  · (intro w hSw; (try dsimp only at hSw); go_simp; try with_reducible rfl)
  try simp only [Act.put, Array.toArray_toList, List.setIfInBounds_toArray, List.set_cons_zero, List.set_cons_succ]
  refine anyM_take (i := 8) (oi := { dst := some 53, op := _, type := _, pos := _, after := _, guard := _ }) (v := ?_) rfl (by kernel_rfl) (fun _ _ _ h => h) (Or.inl ⟨by kernel_rfl, ?_⟩) hS0 ?_
  rotate_left 1
  · (intro w hSw; (try dsimp only at hSw); go_simp; try with_reducible rfl)
  try simp only [Act.put, Array.toArray_toList, List.setIfInBounds_toArray, List.set_cons_zero, List.set_cons_succ]
  refine anyM_free (i := 9) (oi := { dst := some 54, op := _, type := _, pos := _, after := _, guard := _ }) (v := ?_) rfl (by kernel_rfl) (fun _ _ _ h => h) (Or.inl ⟨by kernel_rfl, ?_⟩) (fun _ => hS0) ?_
  rotate_left 1
  · (intro w hSw; (try dsimp only at hSw); go_simp; try with_reducible rfl)
  try simp only [Act.put, Array.toArray_toList, List.setIfInBounds_toArray, List.set_cons_zero, List.set_cons_succ]
  refine anyM_one (i := 10) (by kernel_rfl) rfl (fun K hK => ?_)
  go_simp
  have hbx := below_alloc (Below.refl wd.heap.size wd) (.cells #[.slice none 0 0, .bool false] 27)
  have HNI := Lib.hid (Blk.new wd 27 #[.slice none 0 0, .bool false])
  have RX := Lib.hid (RX.out.below hbx)
  have TB := Lib.hid (TB.out.below hbx TB.out.lt)
  have LX := Lib.hid (LL.out.trans (Left.of_below hbx RX0.out.bw))
  have hS0 : (fun w' : World => w'.cell? ⟨b, 0, none⟩ = some (.slice A9 n9 cp9) ∧ w'.cell? ⟨b, 8, none⟩ = some (.bool P'.quirks)) (wd.alloc (.cells #[.slice none 0 0, .bool false] 27)) := ⟨RX.out.blk.cell 0, RX.out.blk.cell 8⟩
  have z0 : (wd.alloc (.cells #[.slice none 0 0, .bool false] 27)).cell? ⟨wd.heap.size, 0, none⟩ = some (.slice none 0 0) := HNI.out.cell 0
  have z1 : (wd.alloc (.cells #[.slice none 0 0, .bool false] 27)).cell? ⟨wd.heap.size, 1, none⟩ = some (.bool false) := HNI.out.cell 1
  have y0 := HNI.out.free 0
  have y1 := HNI.out.free 1
  clear hbx
  refine hK.out _ _ (fun _ => hS0) ?_
  clear hK K
  try simp only [Act.put, Array.toArray_toList, List.setIfInBounds_toArray, List.set_cons_zero, List.set_cons_succ]
  refine anyM_one (i := 11) (by kernel_rfl) rfl (fun K hK => ?_)
  go_simp
  skip
  refine hK.out _ _ (fun h => late_no h (by kernel_rfl)) ?_
  clear hK K
  try simp only [Act.put, Array.toArray_toList, List.setIfInBounds_toArray, List.set_cons_zero, List.set_cons_succ]
  refine anyM_done (by kernel_rfl) ?_ _
  refine NoPanic.normal ?_
  clear hS0 z0 z1 y0 y1 RX TB LX HNI
  have BX := Lib.hid (below_alloc (Below.refl wd.heap.size wd) (.cells #[.slice A9 n9 cp9, .bool P'.quirks] 27))
  have R2 := Lib.hid (RX0.out.below BX.out)
  have T2 := Lib.hid (TB0.out.below BX.out TB0.out.lt)
  have L2 := Lib.hid (LL.out.trans (Left.of_below BX.out RX0.out.bw))
  have D2 := Lib.hid (Blk.new wd 27 #[.slice A9 n9 cp9, .bool P'.quirks])
  have hgh : g ≠ wd.heap.size := by have := TB0.out.lt; omega
  generalize wd.alloc (.cells #[.slice A9 n9 cp9, .bool P'.quirks] 27) = we at R2 T2 L2 D2 ⊢
  generalize wd.heap.size = h5 at D2 hgh ⊢
  have DI := Lib.hid (R2.out.doc HN9.out.symm HF.out)
  have HCH : Hid (Calls Tryz.prog 24 #[.agg #[.slice A9 n9 cp9, .bool P'.quirks]] we fun e w' => e = .returned (.int .i64 0) ∧ Below we.heap.size we w') := by
    obtain ⟨nsd, hd1, hd2, hd3⟩ := DI.out.nodes
    have h1 := dcheck_calls A9 n9 cp9 _ P'.quirks nsd we hd2 hd3 (Nat.le_refl _) (by omega)
    rw [checkE_abs hd1, HCK.out] at h1
    exact h1
  have d0 : we.cell? ⟨h5, 0, none⟩ = some (.slice A9 n9 cp9) := D2.out.cell 0
  have d1 : we.cell? ⟨h5, 1, none⟩ = some (.bool P'.quirks) := D2.out.cell 1
  go_wp2_with (go_at_call 24; refine HCH.out.mono ?_; rintro e w6 ⟨rfl, hb6⟩; (have D6 := Lib.hid (D2.out.below hb6 D2.out.lt)); (have T6 := Lib.hid (T2.out.below hb6 T2.out.lt)); (have DI6 := Lib.hid (DI.out.below hb6)); (have L6 := Lib.hid (L2.out.trans (Left.of_below hb6 R2.out.bw))); (have x0 : w6.cell? ⟨h5, 0, none⟩ = some (.slice A9 n9 cp9) := D6.out.cell 0); (have x1 : w6.cell? ⟨h5, 1, none⟩ = some (.bool P'.quirks) := D6.out.cell 1); (have y0 : w6.cell? ⟨g, 0, none⟩ = some (.slice none 0 0) := T6.out.cell 0); (have y1 : w6.cell? ⟨g, 1, none⟩ = some (.bool false) := T6.out.cell 1); (have f0 := T6.out.free 0); (have f1 := T6.out.free 1); clear hb6)
  have hBg : B ≤ g := by have := HG.out; have := hBw.out; omega
  exact bodyPost_ret (results_row_tmp rfl _ _ g 27 #[.slice A9 n9 cp9, .bool P'.quirks] _ rfl ((T6.out.stored 0 (.slice A9 n9 cp9)).stored 1 (.bool P'.quirks)) rfl rfl (by kernel_rfl)) rfl ⟨A9, n9, cp9, rfl, (DI6.out.far T6.out (j := 0)).far (T6.out.stored 0 _) (j := 1), (L6.out.below.setCell (p := ⟨g, 0, none⟩) hBg _).setCell (p := ⟨g, 1, none⟩) hBg _⟩
end Go.Proofs.YtcghahfboccceaaGreatDoor
/- Contracts of dom.New, build.Doc at a paragraph's text. -/
namespace Go.Proofs.YtcghahfboccceaaGreatDoor
open Go.RowKit Go.Shelf
set_option linter.unusedVariables false
set_option linter.unusedSimpArgs false

theorem own_of_blkT {w : World} {g base n : Nat} {t : TypeId} {size : Nat} {cs : Array Value} (h : Blk w g t cs) (hb : base ≤ g) (hn : n ≤ maxLen) (hs : cs.size = n * size) : w.ownsRow base t size (.slice (some ⟨g, 0, none⟩) n n) n cs.toList :=
  own_at (by simpa using hs) hb h (Nat.le_refl _) hn hs (by rw [List.take_of_length_le (by simp; omega)])
set_option maxRecDepth 100000 in
set_option maxHeartbeats 1000000 in
theorem new_calls (w : World) : Calls Tryz.prog 19 #[] w fun e w' => ∃ g, e = .returned (.agg #[.slice (some ⟨g, 0, none⟩) 1 1, .bool false]) ∧ Blk w' g 35 #[.int .i64 1, .string ⟨#[]⟩, .slice none 0 0, .string ⟨#[]⟩, .int .i64 (-1), .slice none 0 0] ∧ w.heap.size ≤ g ∧ Below w.heap.size w w' := by
  go_enter Tryz.func19, Tryz.ntmps19
  go_wp2
  exact bodyPost_ret (results_cell_row rfl _ _ w.heap.size 27 #[.slice (some ⟨w.heap.size + 1, 0, none⟩) 1 1, .bool false] (0, 0) _ rfl ((Blk.new w _ _).alloc _) rfl rfl (by kernel_rfl)) rfl
    ⟨w.heap.size + 1, rfl, by
      have := Blk.new (w.alloc (.cells #[.slice (some ⟨w.heap.size + 1, 0, none⟩) 1 1, .bool false] 27)) 35 #[.int .i64 1, .string ⟨#[]⟩, .slice none 0 0, .string ⟨#[]⟩, .int .i64 (-1), .slice none 0 0]
      rw [World.size_alloc] at this
      exact this, by omega, ((Below.refl _ w).alloc (Nat.le_refl _) _).alloc (by simp) _⟩
/-- The parser as it begins. -/
theorem rp_begin {B gN : Nat} {m : Int} {w1 : World} (hN : Blk w1 gN 35 #[.int .i64 1, .string ⟨#[]⟩, .slice none 0 0, .string ⟨#[]⟩, .int .i64 (-1), .slice none 0 0]) (hB : B ≤ gN) (hb0 : 0 < B) (hBw : B ≤ w1.heap.size) (hm : w1.cell? ⟨0, 0, none⟩ = some (.int .i64 m)) :
    RP B (w1.heap.size + 1) m P0 ((w1.alloc (.cells #[.int .i64 0] 3)).alloc (.cells #[.slice (some ⟨gN, 0, none⟩) 1 1, .slice (some ⟨w1.heap.size, 0, none⟩) 1 1, .slice none 0 0, .bool false, .int .i64 0, .int .i64 0, .int .i64 (-1), .int .i64 (-1), .bool false, .string ⟨#[]⟩, .bool false] 56)) := by
  have hb1 := (Below.refl w1.heap.size w1).alloc (Nat.le_refl _) (.cells #[.int .i64 0] 3)
  have hP := Blk.new (w1.alloc (.cells #[.int .i64 0] 3)) 56 #[.slice (some ⟨gN, 0, none⟩) 1 1, .slice (some ⟨w1.heap.size, 0, none⟩) 1 1, .slice none 0 0, .bool false, .int .i64 0, .int .i64 0, .int .i64 (-1), .int .i64 (-1), .bool false, .string ⟨#[]⟩, .bool false]
  rw [World.size_alloc] at hP
  have hI := (Blk.new w1 3 #[.int .i64 0]).alloc (.cells #[.slice (some ⟨gN, 0, none⟩) 1 1, .slice (some ⟨w1.heap.size, 0, none⟩) 1 1, .slice none 0 0, .bool false, .int .i64 0, .int .i64 0, .int .i64 (-1), .int .i64 (-1), .bool false, .string ⟨#[]⟩, .bool false] 56)
  have hN2 := (hN.alloc (.cells #[.int .i64 0] 3)).alloc (.cells #[.slice (some ⟨gN, 0, none⟩) 1 1, .slice (some ⟨w1.heap.size, 0, none⟩) 1 1, .slice none 0 0, .bool false, .int .i64 0, .int .i64 0, .int .i64 (-1), .int .i64 (-1), .bool false, .string ⟨#[]⟩, .bool false] 56)
  have hlt := hN.lt
  refine ⟨_, _, [⟨1, ⟨#[]⟩, none, [], 0, ⟨#[]⟩, -1, none, [], 0⟩], ⟨by omega, hb0, rfl, hP, ⟨own_of_blkT (n := 1) hN2 hB (by decide) rfl, ?_, ?_, List.pairwise_singleton _ _, own_of_blkT (n := 1) hI (by omega) (by decide) rfl, ?_⟩, ?_⟩⟩
  · intro x hx
    rw [List.mem_singleton] at hx
    subst hx
    exact World.ownsRow_nil _ _ _ _
  · intro x hx
    rw [List.mem_singleton] at hx
    subst hx
    exact World.ownsRow_nil _ _ _ _
  · intro x hx
    rw [List.mem_singleton] at hx
    subst hx
    exact ap_none rfl
  · rw [← hm]
    exact (hb1.alloc (by simp) _).cell (p := ⟨0, 0, none⟩) (by show 0 < _; omega)
/-- The parser's state at the end of a paragraph's text. -/
def PEnd (l : List UInt8) : PS := if l = [] then P6 else P7 ⟨l.toArray⟩
theorem pend_ns (l : List UInt8) : (PEnd l).ns = docA ⟨l.toArray⟩ := by
  unfold PEnd
  split
  · rename_i h; subst h; exact P6_ns
  · rename_i h
    exact P7_ns _ (fun e => h (List.eq_nil_of_length_eq_zero e))
theorem pend_q (l : List UInt8) : (PEnd l).quirks = true ∧ (PEnd l).mode = 6 ∧ (PEnd l).fresh = false := by
  unfold PEnd
  split <;> exact ⟨rfl, rfl, rfl⟩
theorem allA (B b : Nat) (m : Int) (l : List UInt8) (hl : l.length ≤ 400) (W : World) (v : Value) (ts : List TokV) (Br : Nat) (hBr : B ≤ Br) (hR : RP B b m P0 W) (ho : W.ownsRow Br 49 7 v ts.length (ts.flatMap tokL)) (ht : ToksOk Br W (paraT l) ts) :
    Calls Tryz.prog 36 #[.pointer (some ⟨b, 0, none⟩), v] W fun e w' => e = .returned (.tuple #[]) ∧ RP B b m (PEnd l) w' ∧ Left B W w' := by
  unfold paraT at ht
  cases ts with
  | nil => exact ht.elim
  | cons t0 ts1 =>
    obtain ⟨h0, h1⟩ := ht
    obtain ⟨kind, nm, av, tx, sf, f9, t9⟩ := t0
    obtain ⟨e1, e2, e3, e4, e5, e6, e7⟩ := h0
    simp only at e1 e2 e3 e4 e5 e6 e7
    subst e1; subst e2; subst e3; subst e4
    obtain ⟨A, c, rfl⟩ := e7.open
    have hat : ∀ W1, Keep W W1 → AttrsAt B (.slice A 0 c) [] W1 := fun W1 hk => own_low (AttrsAt.keep e7 hk) hBr
    by_cases hnil : l = []
    · rw [if_pos hnil] at h1
      cases ts1 with
      | cons => exact h1.elim
      | nil =>
        refine all_calls B Br b m _ (fun i => if i = 0 then P0 else P6) (PEnd l) v W hR ho (by simp) (by simp) (fun t ht => ?_) (fun i hi W1 hR1 hk => ?_) (fun W1 hR1 => ?_)
        · rw [List.mem_singleton] at ht; subst ht; exact ⟨_, _, _, rfl⟩
        · have hi : i < 1 := hi
          obtain rfl : i = 0 := by omega
          exact one_pA B b m f9 t9 A c W1 hR1 (hat W1 hk)
        · have : PEnd l = P6 := by unfold PEnd; rw [if_pos hnil]
          rw [this]
          exact one_over B b m P6 rfl rfl W1 hR1
    · rw [if_neg hnil] at h1
      cases ts1 with
      | nil => exact h1.elim
      | cons t1 ts2 =>
        obtain ⟨h2, h3⟩ := h1
        cases ts2 with
        | cons => exact h3.elim
        | nil =>
          obtain ⟨kind, nm, av, tx, sf, f8, t8⟩ := t1
          obtain ⟨d1, d2, d3, d4, d5, d6, d7⟩ := h2
          simp only at d1 d2 d3 d4 d5 d6 d7
          subst d1; subst d2; subst d3; subst d4
          obtain ⟨A2, c2, rfl⟩ := d7.open
          have hsz : (⟨l.toArray⟩ : ByteArray).size = l.length := rfl
          have hne : (⟨l.toArray⟩ : ByteArray).size ≠ 0 := fun e => hnil (List.eq_nil_of_length_eq_zero (by rw [hsz] at e; exact e))
          have hP : PEnd l = P7 ⟨l.toArray⟩ := by unfold PEnd; rw [if_neg hnil]
          refine all_calls B Br b m _ (fun i => if i = 0 then P0 else if i = 1 then P6 else P7 ⟨l.toArray⟩) (PEnd l) v W hR ho (by simp) (by simp) (fun t ht => ?_) (fun i hi W1 hR1 hk => ?_) (fun W1 hR1 => ?_)
          · rcases List.mem_cons.1 ht with rfl | ht
            · exact ⟨_, _, _, rfl⟩
            · rw [List.mem_singleton] at ht; subst ht; exact ⟨_, _, _, rfl⟩
          · have hi : i < 2 := hi
            have : i = 0 ∨ i = 1 := by omega
            rcases this with rfl | rfl
            · exact one_pA B b m f9 t9 A c W1 hR1 (hat W1 hk)
            · exact one_txA B b m f8 t8 ⟨l.toArray⟩ A2 c2 hne (by omega) W1 hR1 (own_low (AttrsAt.keep d7 hk) hBr)
          · rw [hP]
            exact one_over B b m (P7 ⟨l.toArray⟩) rfl rfl W1 hR1
theorem docA_few (c : ByteArray) : (∀ x ∈ docA c, x.attrs.length ≤ 1000 ∧ x.kids.length ≤ 1000) ∧ (docA c).length ≤ 1000 := by
  unfold docA
  split <;> simp
theorem para_clean (l : List UInt8) (hc : Cl l) (hl : l.length ≤ 400) : cleaned (paraS l) = paraS l := by
  have h1 : Cl (60 :: 112 :: 62 :: esc l) := Cl.append (a := [60, 112, 62]) (Cl.ascii (by intro b hb; simp at hb; rcases hb with rfl | rfl | rfl <;> decide)) hc.esc
  have e : (paraS l).data.toList = 60 :: 112 :: 62 :: esc l := rfl
  unfold cleaned
  rw [e, cleanF_stays h1 0 _ (by decide) (by rw [para_size]; simp; omega)]
  rfl
set_option maxRecDepth 100000 in
set_option maxHeartbeats 4000000 in
theorem docA_calls (l : List UInt8) (hc : Cl l) (hl : l.length ≤ 400) (m : Int) (w : World) (hm : w.cell? ⟨0, 0, none⟩ = some (.int .i64 m)) :
    Calls Tryz.prog 9 #[.string (paraS l)] w fun e w' => ∃ A n c, e = .returned (.tuple #[.agg #[.slice A n c, .bool true], .int .i64 0]) ∧ DocIn w' A n (docA ⟨l.toArray⟩) ∧ Below w.heap.size w w' := by
  have hsz := para_size l
  have h5 := esc_length l
  obtain ⟨s, hs⟩ : ∃ s, s = paraS l := ⟨_, rfl⟩
  have hsl : s.size ≤ 4000 := by rw [hs]; omega
  have h0 : 0 < w.heap.size := block_lt_of_cell hm
  obtain ⟨g, hg⟩ : ∃ g, g = w.heap.size := ⟨_, rfl⟩
  obtain ⟨wa, hwa⟩ : ∃ wa, wa = w.alloc (.cells #[.slice none 0 0, .bool false] 27) := ⟨_, rfl⟩
  have TB : Hid (Blk wa g 27 #[.slice none 0 0, .bool false]) := by show Blk _ _ _ _; rw [hwa, hg]; exact Blk.new w _ _
  have B0 : Hid (Below w.heap.size w wa) := by show Below _ _ _; rw [hwa]; exact (Below.refl _ w).alloc (Nat.le_refl _) _
  have HM := Lib.hid hm
  have HD := Lib.hid (fun (b : Nat) (W : World) (hR : RP wa.heap.size b m P0 W) => done_calls wa.heap.size b m P0 (PEnd l) (paraS l) (paraS l) (paraT l) W hR (by omega) (para_clean l hc hl) (by omega) (para_stages l (by omega)) (fun W1 v ts Br h1 h2 h3 h4 => allA wa.heap.size b m l hl W1 v ts Br h1 h2 h3 h4)
    (by rw [pend_ns]; exact checkA _ hl) (by rw [pend_ns]; exact (docA_few _).1) (by rw [pend_ns]; exact (docA_few _).2))
  rw [← hs, pend_ns, (pend_q l).1] at HD
  rw [← hs]
  have HWA := Lib.hid hwa
  have HG := Lib.hid hg
  clear hsz h5 hs hg hwa hm hc
  have hfd : ∀ (gN : Nat) (w : World), (Instr.field 27 (.agg #[.slice (some ⟨gN, 0, none⟩) 1 1, .bool false]) 0).run Tryz.prog w = .ok (.slice (some ⟨gN, 0, none⟩) 1 1) w := fun _ _ => by kernel_rfl
  go_enter Tryz.func9, Tryz.ntmps9
  go_upto_region 1 with fail
  rw [← HWA.out, ← HG.out]
  go_wp2_with (first
    | (go_at_call 19; refine (new_calls _).mono ?_; rintro e w1 ⟨gN, rfl, hN, hg1, hb1⟩; (have B1 := Lib.hid (B0.out.trans (hb1.mono B0.out.size))); (have T1 := Lib.hid (TB.out.below hb1 TB.out.lt)); (have HR := Lib.hid (rp_begin hN hg1 (Nat.lt_of_lt_of_le h0 B0.out.size) hb1.size ((B1.out.cell (p := ⟨0, 0, none⟩) h0).trans HM.out))); (have T2 := Lib.hid ((T1.out.alloc (.cells #[.int .i64 0] 3)).alloc (.cells #[.slice (some ⟨gN, 0, none⟩) 1 1, .slice (some ⟨w1.heap.size, 0, none⟩) 1 1, .slice none 0 0, .bool false, .int .i64 0, .int .i64 0, .int .i64 (-1), .int .i64 (-1), .bool false, .string ⟨#[]⟩, .bool false] 56))); clear hN hg1 hb1)
    | (go_at_call 20; refine (HD.out _ _ HR.out).mono ?_; rintro e w6 ⟨A9, n9, c9, rfl, hdoc, hb6⟩; (have T6 := Lib.hid (T2.out.below hb6 TB.out.lt)); (have DI := Lib.hid hdoc); (have y0 : w6.cell? ⟨g, 0, none⟩ = some (.slice none 0 0) := T6.out.cell 0); (have y1 : w6.cell? ⟨g, 1, none⟩ = some (.bool false) := T6.out.cell 1); (have f0 := T6.out.free 0); (have f1 := T6.out.free 1); (have B6 := Lib.hid (((B1.out.alloc B1.out.size _).alloc (Nat.le_trans B1.out.size (by simp)) _).trans (hb6.mono B0.out.size))); clear hdoc hb6))
  have hgw : w.heap.size ≤ g := by have := HG.out; omega
  exact bodyPost_ret (results_row_tmp rfl _ _ g 27 #[.slice A9 n9 c9, .bool true] _ rfl ((T6.out.stored 0 (.slice A9 n9 c9)).stored 1 (.bool true)) rfl rfl (by kernel_rfl)) rfl ⟨A9, n9, c9, rfl, (DI.out.far T6.out (j := 0)).far (T6.out.stored 0 _) (j := 1), (B6.out.setCell (p := ⟨g, 0, none⟩) hgw _).setCell (p := ⟨g, 1, none⟩) hgw _⟩
end Go.Proofs.YtcghahfboccceaaGreatDoor
