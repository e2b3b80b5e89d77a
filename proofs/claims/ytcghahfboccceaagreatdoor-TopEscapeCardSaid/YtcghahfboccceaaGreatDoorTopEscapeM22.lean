/- Several texts in one: TgE. -/
import Derived.Test.YtcghahfboccceaaGreatDoorTopEscapeM21
/- Contract of token's attr at an attribute id with a value without quotes. Printed by genTgE.py. -/
namespace Go.Proofs.YtcghahfboccceaaGreatDoor
open Go.RowKit Go.Shelf
set_option linter.unusedVariables false
set_option linter.unusedSimpArgs false

set_option maxRecDepth 100000 in
set_option maxHeartbeats 8000000 in
theorem attr_calls (b : Nat) (s v : ByteArray) (a a1 a2 a3 a4 : Nat) (c2 c3 : Value) (hs : s.size ≤ 1000000) (ha : a + 1 ≤ s.size) (h1 : skipTo attrEnd s.data.toList (a + 1) = a1) (hnm : s.extract a a1 = ⟨#[105, 100]⟩) (haa : a ≤ a1) (h2 : skipTo noBlank s.data.toList a1 = a2)
    (hlt : a2 < s.size) (heq : s[a2].toNat = 61) (h3 : skipTo noBlank s.data.toList (a2 + 1) = a3) (h3l : a3 < s.size) (hq1 : s[a3].toNat ≠ 34) (hq2 : s[a3].toNat ≠ 39) (h4 : skipTo valEnd s.data.toList a3 = a4) (hv : s.extract a3 a4 = v) (hnn : NoNum v.data.toList) (ham : ∀ b ∈ v.data.toList, b ≠ 38) (hrd : (⟨(readF true v.size v.data.toList).toArray⟩ : ByteArray) = v) (hvs : v.size ≤ 1000000)
    (w : World) (hB : Blk w b 82 #[.string s, .int .i64 (a : Int), c2, c3]) :
    Calls Tryz.prog 121 #[.pointer (some ⟨b, 0, none⟩)] w fun e w' => e = .returned (.agg #[.string ⟨#[105, 100]⟩, .string v]) ∧ Blk w' b 82 #[.string s, .int .i64 (a4 : Int), c2, c3] ∧ OnlyN b w w' := by
  have hbl := hB.lt
  obtain ⟨g, hg⟩ : ∃ g, g = w.heap.size := ⟨_, rfl⟩
  have hgb : g ≠ b := by omega
  obtain ⟨wa, hwa⟩ : ∃ wa, wa = w.alloc (.cells #[.string ⟨#[]⟩, .string ⟨#[]⟩] 91) := ⟨_, rfl⟩
  have TB : Hid (Blk wa g 91 #[.string ⟨#[]⟩, .string ⟨#[]⟩]) := by show Blk _ _ _ _; rw [hwa, hg]; exact Blk.new w _ _
  have OO : Hid (OnlyN b w wa) := by show OnlyN _ _ _; rw [hwa]; exact (OnlyN.refl b w).alloc _
  have HB : Hid (Blk wa b 82 #[.string s, .int .i64 (a : Int), c2, c3]) := by show Blk _ _ _ _; rw [hwa]; exact hB.alloc _
  have c0 : wa.cell? ⟨b, 0, none⟩ = some (.string s) := HB.out.cell 0
  have c1 : wa.cell? ⟨b, 1, none⟩ = some (.int .i64 (a : Int)) := HB.out.cell 1
  have f1 : wa.frozen? ⟨b, 1, none⟩ = false := HB.out.free 1
  have H1 := Lib.hid h1
  have H2 := Lib.hid h2
  have H3 := Lib.hid h3
  have H4 := Lib.hid h4
  have HNM := Lib.hid hnm
  have HVC := Lib.hid (fun W (hW : Blk W b 82 #[.string s, .int .i64 ((a2 : Int) + 1), c2, c3]) => value_calls b s v (a2 + 1) a3 a4 c2 c3 (by omega) (by omega) h3 h3l hq1 hq2 h4 hv W hW)
  have HEV := Lib.hid (fun W => evalue_calls v hnn ham (by omega) W)
  rw [hrd] at HEV
  have x1 : ((a2 : Int) < (s.size : Int)) := by omega
  have e1 : ((s[a2].toNat : Int) == 61) = true := by rw [heq]; rfl
  have HWA := Lib.hid hwa
  have HG := Lib.hid hg
  clear h1 h2 h3 h4 hnm hv hnn ham hrd heq hq1 hq2 hB hwa hg
  go_enter Tryz.func121, Tryz.ntmps121
  go_upto_region 1 with fail
  rw [← HWA.out, ← HG.out]
  go_upto_region 4 with (go_at_call 116; (have OB := Lib.hid (OO.out.setCell (p := ⟨b, 1, none⟩) (.inl rfl) (.int .i64 ((a : Int) + 1)))); (have TS := Lib.hid (TB.out.far hgb (i := 1) (.int .i64 ((a : Int) + 1)))); refine (until_calls b s (a + 1) c2 c3 _ ef5 attrEnd attr1_calls (by omega) ha _ (HB.out.stored 1 (.int .i64 ((a : Int) + 1)))).mono ?_; rintro e w1 ⟨a1', ha1, hle1, rfl, hb1, ho1⟩; (obtain rfl := (ha1.trans H1.out).symm); (have P3 := Lib.hid hb1); (have P4 := Lib.hid (OB.out.trans ho1.n)); (have P5 := Lib.hid (ho1.blk hgb TS.out)); clear hb1 ho1 ha1)
  have hS0 : (fun w' : World => w'.cell? ⟨b, 0, none⟩ = some (.string s) ∧ w'.cell? ⟨b, 1, none⟩ = some (.int .i64 (a1 : Int))) (World.drew w1) := ⟨P3.out.cell 0, P3.out.cell 1⟩
  have P3 : Hid (Blk (World.drew w1) b 82 #[.string s, .int .i64 (a1 : Int), c2, c3]) := P3.out
  have P4 : Hid (OnlyN b w (World.drew w1)) := P4.out.drewN 1
  have P5 : Hid (Blk (World.drew w1) g 91 #[.string ⟨#[]⟩, .string ⟨#[]⟩]) := P5.out
  clear c0 c1 f1 OB TS
  refine wp_region_noPanic ?_
  refine region_M (S := fun w' => w'.cell? ⟨b, 0, none⟩ = some (.string s) ∧ w'.cell? ⟨b, 1, none⟩ = some (.int .i64 (a1 : Int))) (T := [13]) (by kernel_rfl) ?_
  generalize World.drew w1 = wd at P3 P4 P5 hS0 ⊢
  refine anyM_free (i := 0) (oi := { dst := some 18, op := _, type := _, pos := _, after := _, guard := _ }) (v := ?_) rfl (by kernel_rfl) (fun _ _ _ h => h) (Or.inl ⟨by kernel_rfl, ?_⟩) (fun _ => hS0) ?_
  rotate_left 1
  · (intro w hSw; (try dsimp only at hSw); go_simp; try with_reducible rfl)
  try simp only [Act.put, Array.toArray_toList, List.setIfInBounds_toArray, List.set_cons_zero, List.set_cons_succ]
  refine anyM_free (i := 1) (oi := { dst := some 19, op := _, type := _, pos := _, after := _, guard := _ }) (v := ?_) rfl (by kernel_rfl) (fun _ _ _ h => h) (Or.inl ⟨by kernel_rfl, ?_⟩) (fun _ => hS0) ?_
  rotate_left 1
  · (intro w hSw; (try dsimp only at hSw); go_simp; try with_reducible rfl)
  try simp only [Act.put, Array.toArray_toList, List.setIfInBounds_toArray, List.set_cons_zero, List.set_cons_succ]
  refine anyM_free (i := 2) (oi := { dst := some 20, op := _, type := _, pos := _, after := _, guard := _ }) (v := ?_) rfl (by kernel_rfl) (fun _ _ _ h => h) (Or.inl ⟨by kernel_rfl, ?_⟩) (fun _ => hS0) ?_
  rotate_left 1
  · (intro w hSw; (try dsimp only at hSw); go_simp; try with_reducible rfl)
  try simp only [Act.put, Array.toArray_toList, List.setIfInBounds_toArray, List.set_cons_zero, List.set_cons_succ]
  refine anyM_take (i := 3) (oi := { dst := some 21, op := _, type := _, pos := _, after := _, guard := _ }) (v := ?_) rfl (by kernel_rfl) (fun _ _ _ h => h) (Or.inl ⟨by kernel_rfl, ?_⟩) hS0 ?_
  rotate_left 1
  · (intro w hSw; (try dsimp only at hSw); go_simp; try with_reducible rfl)
  try simp only [Act.put, Array.toArray_toList, List.setIfInBounds_toArray, List.set_cons_zero, List.set_cons_succ]
  refine anyM_free (i := 4) (oi := { dst := some 22, op := _, type := _, pos := _, after := _, guard := _ }) (v := ?_) rfl (by kernel_rfl) (fun _ _ _ h => h) (Or.inl ⟨by kernel_rfl, ?_⟩) (fun _ => hS0) ?_
  rotate_left 1
  · (intro w hSw; (try dsimp only at hSw); go_simp; try with_reducible rfl)
  try simp only [Act.put, Array.toArray_toList, List.setIfInBounds_toArray, List.set_cons_zero, List.set_cons_succ]
  refine anyM_free (i := 5) (oi := { dst := some 23, op := _, type := _, pos := _, after := _, guard := _ }) (v := ?_) rfl (by kernel_rfl) (fun _ _ _ h => h) (Or.inl ⟨by kernel_rfl, ?_⟩) (fun _ => hS0) ?_
  rotate_left 1
  · (intro w hSw; (try dsimp only at hSw); go_simp; try with_reducible rfl)
  try simp only [Act.put, Array.toArray_toList, List.setIfInBounds_toArray, List.set_cons_zero, List.set_cons_succ]
  refine anyM_free (i := 6) (oi := { dst := some 24, op := _, type := _, pos := _, after := _, guard := _ }) (v := ?_) rfl (by kernel_rfl) (fun _ _ _ h => h) (Or.inl ⟨by kernel_rfl, ?_⟩) (fun _ => hS0) ?_
  rotate_left 1
  · (intro w hSw; (try dsimp only at hSw); go_simp; try with_reducible rfl)
  try simp only [Act.put, Array.toArray_toList, List.setIfInBounds_toArray, List.set_cons_zero, List.set_cons_succ]
  refine anyM_free (i := 7) (oi := { dst := some 25, op := _, type := _, pos := _, after := _, guard := _ }) (v := ?_) rfl (by kernel_rfl) (fun _ _ _ h => h) (Or.inl ⟨by kernel_rfl, ?_⟩) (fun _ => hS0) ?_
  rotate_left 1
  · (intro w hSw; (try dsimp only at hSw); go_simp; try with_reducible rfl)
  try simp only [Act.put, Array.toArray_toList, List.setIfInBounds_toArray, List.set_cons_zero, List.set_cons_succ]
  refine anyM_take (i := 8) (oi := { dst := some 26, op := _, type := _, pos := _, after := _, guard := _ }) (v := ?_) rfl (by kernel_rfl) (fun _ _ _ h => h) (Or.inl ⟨by kernel_rfl, ?_⟩) hS0 ?_
  rotate_left 1
  · (intro w hSw; (try dsimp only at hSw); go_simp; try with_reducible rfl)
  try simp only [Act.put, Array.toArray_toList, List.setIfInBounds_toArray, List.set_cons_zero, List.set_cons_succ]
  refine anyM_free (i := 9) (oi := { dst := some 27, op := _, type := _, pos := _, after := _, guard := _ }) (v := ?_) rfl (by kernel_rfl) (fun _ _ _ h => h) (Or.inl ⟨by kernel_rfl, ?_⟩) (fun _ => hS0) ?_
  rotate_left 1
  · (intro w hSw; (try dsimp only at hSw); go_simp; try with_reducible rfl)
  try simp only [Act.put, Array.toArray_toList, List.setIfInBounds_toArray, List.set_cons_zero, List.set_cons_succ]
  refine anyM_two (i := 10) (j := 12) (by kernel_rfl) rfl rfl (fun K hK => ?_) (fun K hK => ?_)
  · skip
    go_simp
    rw [HNM.out]
    refine (attrName_id _).mono ?_
    rintro e w6 ⟨rfl, hb⟩
    have P3 := Lib.hid (P3.out.below hb P3.out.lt)
    have P4 := Lib.hid (P4.out.trans (.of_below hb))
    have P5 := Lib.hid (P5.out.below hb P5.out.lt)
    have hS0 : (fun w' : World => w'.cell? ⟨b, 0, none⟩ = some (.string s) ∧ w'.cell? ⟨b, 1, none⟩ = some (.int .i64 (a1 : Int))) w6 := ⟨P3.out.cell 0, P3.out.cell 1⟩
    clear hb
    refine hK.out _ _ (fun _ => hS0) ?_
    clear hK K
    try simp only [Act.put, Array.toArray_toList, List.setIfInBounds_toArray, List.set_cons_zero, List.set_cons_succ]
    refine anyM_free (i := 11) (oi := { dst := some 29, op := _, type := _, pos := _, after := _, guard := _ }) (v := ?_) rfl (by kernel_rfl) (fun _ _ _ h => h) (Or.inl ⟨by kernel_rfl, ?_⟩) (fun _ => hS0) ?_
    rotate_left 1
    · (intro w hSw; (try dsimp only at hSw); go_simp; try with_reducible rfl)
    try simp only [Act.put, Array.toArray_toList, List.setIfInBounds_toArray, List.set_cons_zero, List.set_cons_succ]
    refine anyM_one (i := 12) (by kernel_rfl) rfl (fun K hK => ?_)
    go_simp
    have hg9 : w6.heap.size ≠ b := by have := P3.out.lt; omega
    have P6 := Lib.hid (Blk.new w6 91 #[.string ⟨#[]⟩, .string ⟨#[]⟩])
    have P3 := Lib.hid (P3.out.alloc (.cells #[.string ⟨#[]⟩, .string ⟨#[]⟩] 91))
    have P4 := Lib.hid (P4.out.alloc (.cells #[.string ⟨#[]⟩, .string ⟨#[]⟩] 91))
    have hg8 : g ≠ w6.heap.size := by have := P5.out.lt; omega
    have hg7 : w.heap.size ≤ w6.heap.size := by have := HG.out; have := P5.out.lt; omega
    have P5 := Lib.hid (P5.out.alloc (.cells #[.string ⟨#[]⟩, .string ⟨#[]⟩] 91))
    generalize w6.alloc (.cells #[.string ⟨#[]⟩, .string ⟨#[]⟩] 91) = wh at P3 P4 P5 P6 ⊢
    generalize w6.heap.size = g5 at P6 hg9 hg8 hg7 ⊢
    have hS0 : (fun w' : World => w'.cell? ⟨b, 0, none⟩ = some (.string s) ∧ w'.cell? ⟨b, 1, none⟩ = some (.int .i64 (a1 : Int))) wh := ⟨P3.out.cell 0, P3.out.cell 1⟩
    have z0 : wh.cell? ⟨g5, 0, none⟩ = some (.string ⟨#[]⟩) := P6.out.cell 0
    have z1 : wh.cell? ⟨g5, 1, none⟩ = some (.string ⟨#[]⟩) := P6.out.cell 1
    have y0 := P6.out.free 0
    have y1 := P6.out.free 1
    refine hK.out _ _ (fun _ => hS0) ?_
    clear hK K
    try simp only [Act.put, Array.toArray_toList, List.setIfInBounds_toArray, List.set_cons_zero, List.set_cons_succ]
    refine anyM_one (i := 13) (by kernel_rfl) rfl (fun K hK => ?_)
    go_simp
    skip
    refine hK.out _ _ (fun h => late_no h (by kernel_rfl)) ?_
    clear hK K
    try simp only [Act.put, Array.toArray_toList, List.setIfInBounds_toArray, List.set_cons_zero, List.set_cons_succ]
    refine anyM_done (by kernel_rfl) ?_ _
    refine NoPanic.normal ?_
    clear hS0 z0 z1 y0 y1
    have P3 : Hid (Blk (((wh.setCell ⟨g5, 0, none⟩ (.string ⟨#[105, 100]⟩)).setCell ⟨g5, 1, none⟩ (.string ⟨#[]⟩))) b 82 #[.string s, .int .i64 (a1 : Int), c2, c3]) := (P3.out.far (Ne.symm hg9) (i := 0) _).far (Ne.symm hg9) (i := 1) _
    have P4 : Hid (OnlyN b w (((wh.setCell ⟨g5, 0, none⟩ (.string ⟨#[105, 100]⟩)).setCell ⟨g5, 1, none⟩ (.string ⟨#[]⟩)))) := (P4.out.setCell (p := ⟨g5, 0, none⟩) (.inr hg7) _).setCell (p := ⟨g5, 1, none⟩) (.inr hg7) _
    have P5 : Hid (Blk (((wh.setCell ⟨g5, 0, none⟩ (.string ⟨#[105, 100]⟩)).setCell ⟨g5, 1, none⟩ (.string ⟨#[]⟩))) g 91 #[.string ⟨#[]⟩, .string ⟨#[]⟩]) := (P5.out.far hg8 (i := 0) _).far hg8 (i := 1) _
    have P6 : Hid (Blk (((wh.setCell ⟨g5, 0, none⟩ (.string ⟨#[105, 100]⟩)).setCell ⟨g5, 1, none⟩ (.string ⟨#[]⟩))) g5 91 #[.string ⟨#[105, 100]⟩, .string ⟨#[]⟩]) := (P6.out.stored 0 (.string ⟨#[105, 100]⟩)).stored 1 (.string ⟨#[]⟩)
    generalize ((wh.setCell ⟨g5, 0, none⟩ (.string ⟨#[105, 100]⟩)).setCell ⟨g5, 1, none⟩ (.string ⟨#[]⟩)) = wi at P3 P4 P5 P6 ⊢
    go_upto_region 6 with (go_at_call 116; refine (until_calls b s a1 c2 c3 _ ef6 noBlank attr2_calls (by omega) hle1 _ P3.out).mono ?_; rintro e w7 ⟨a2', ha2, hle2, rfl, hb2, ho2⟩; (obtain rfl := (ha2.trans H2.out).symm); (have Q3 := Lib.hid hb2); (have Q4 := Lib.hid (P4.out.trans ho2.n)); (have Q5 := Lib.hid (ho2.blk hgb P5.out)); (have Q6 := Lib.hid (ho2.blk hg9 P6.out)); (have c0 : w7.cell? ⟨b, 0, none⟩ = some (.string s) := hb2.cell 0); (have c1 : w7.cell? ⟨b, 1, none⟩ = some (.int .i64 (a2 : Int)) := hb2.cell 1); clear hb2 ho2 ha2)
    go_quiet (fail)
    have Q3 : Hid (Blk (w7.drewN nq) b 82 #[.string s, .int .i64 (a2 : Int), c2, c3]) := Q3.out
    have Q4 : Hid (OnlyN b w (w7.drewN nq)) := Q4.out.drewN nq
    have Q5 : Hid (Blk (w7.drewN nq) g 91 #[.string ⟨#[]⟩, .string ⟨#[]⟩]) := Q5.out
    have Q6 : Hid (Blk (w7.drewN nq) g5 91 #[.string ⟨#[105, 100]⟩, .string ⟨#[]⟩]) := Q6.out
    generalize w7.drewN nq = w8 at Q3 Q4 Q5 Q6 ⊢
    clear nq c0 c1
    have c1 : w8.cell? ⟨b, 1, none⟩ = some (.int .i64 (a2 : Int)) := Q3.out.cell 1
    have f1 : w8.frozen? ⟨b, 1, none⟩ = false := Q3.out.free 1
    go_wp2_with (first
      | (go_at_call 161; (have R4 := Lib.hid (Q4.out.setCell (p := ⟨b, 1, none⟩) (.inl rfl) (.int .i64 ((a2 : Int) + 1)))); (have R5 := Lib.hid (Q5.out.far hgb (i := 1) (.int .i64 ((a2 : Int) + 1)))); (have R6 := Lib.hid (Q6.out.far hg9 (i := 1) (.int .i64 ((a2 : Int) + 1)))); refine (HVC.out _ (Q3.out.stored 1 (.int .i64 ((a2 : Int) + 1)))).mono ?_; rintro e w9 ⟨rfl, hb9, ho9⟩; (have T3 := Lib.hid hb9); (have T4 := Lib.hid (R4.out.trans ho9.n)); (have T5 := Lib.hid (ho9.blk hgb R5.out)); (have T6 := Lib.hid (ho9.blk hg9 R6.out)); clear hb9 ho9)
      | (go_at_call 160; refine (HEV.out _).mono ?_; rintro e w10 ⟨rfl, hb10⟩; (have U3 := Lib.hid (T3.out.below hb10 T3.out.lt)); (have U4 := Lib.hid (T4.out.trans (.of_below hb10))); (have U5 := Lib.hid (T5.out.below hb10 T5.out.lt)); (have U6 := Lib.hid (T6.out.below hb10 T6.out.lt)); (have z0 : w10.cell? ⟨g5, 0, none⟩ = some (.string ⟨#[105, 100]⟩) := U6.out.cell 0); (have z1 : w10.cell? ⟨g5, 1, none⟩ = some (.string ⟨#[]⟩) := U6.out.cell 1); (have y0 := U6.out.free 0); (have y1 := U6.out.free 1); (have q0 : w10.cell? ⟨g, 0, none⟩ = some (.string ⟨#[]⟩) := U5.out.cell 0); (have q1 : w10.cell? ⟨g, 1, none⟩ = some (.string ⟨#[]⟩) := U5.out.cell 1); (have r0 := U5.out.free 0); (have r1 := U5.out.free 1); clear hb10))
    have hgw : w.heap.size ≤ g := by have := HG.out; omega
    have B2 := ((U5.out.far hg8 (i := 1) (.string v)).stored 0 (.string ⟨#[105, 100]⟩)).stored 1 (.string v)
    have B3 := ((U3.out.far (Ne.symm hg9) (i := 1) (.string v)).far (Ne.symm hgb) (i := 0) (.string ⟨#[105, 100]⟩)).far (Ne.symm hgb) (i := 1) (.string v)
    have B4 := ((U4.out.setCell (p := ⟨g5, 1, none⟩) (.inr hg7) (.string v)).setCell (p := ⟨g, 0, none⟩) (.inr hgw) (.string ⟨#[105, 100]⟩)).setCell (p := ⟨g, 1, none⟩) (.inr hgw) (.string v)
    exact bodyPost_ret (results_cell_row rfl _ _ g 91 #[.string ⟨#[105, 100]⟩, .string v] (0, 0) _ rfl B2 rfl rfl (by kernel_rfl)) rfl ⟨rfl, B3, B4⟩
  · skip
    go_simp
    have hg9 : wd.heap.size ≠ b := by have := P3.out.lt; omega
    have P6 := Lib.hid (Blk.new wd 91 #[.string ⟨#[]⟩, .string ⟨#[]⟩])
    have P3 := Lib.hid (P3.out.alloc (.cells #[.string ⟨#[]⟩, .string ⟨#[]⟩] 91))
    have P4 := Lib.hid (P4.out.alloc (.cells #[.string ⟨#[]⟩, .string ⟨#[]⟩] 91))
    have hg8 : g ≠ wd.heap.size := by have := P5.out.lt; omega
    have hg7 : w.heap.size ≤ wd.heap.size := by have := HG.out; have := P5.out.lt; omega
    have P5 := Lib.hid (P5.out.alloc (.cells #[.string ⟨#[]⟩, .string ⟨#[]⟩] 91))
    generalize wd.alloc (.cells #[.string ⟨#[]⟩, .string ⟨#[]⟩] 91) = wh at P3 P4 P5 P6 ⊢
    generalize wd.heap.size = g5 at P6 hg9 hg8 hg7 ⊢
    have hS0 : (fun w' : World => w'.cell? ⟨b, 0, none⟩ = some (.string s) ∧ w'.cell? ⟨b, 1, none⟩ = some (.int .i64 (a1 : Int))) wh := ⟨P3.out.cell 0, P3.out.cell 1⟩
    have z0 : wh.cell? ⟨g5, 0, none⟩ = some (.string ⟨#[]⟩) := P6.out.cell 0
    have z1 : wh.cell? ⟨g5, 1, none⟩ = some (.string ⟨#[]⟩) := P6.out.cell 1
    have y0 := P6.out.free 0
    have y1 := P6.out.free 1
    refine hK.out _ _ (fun _ => hS0) ?_
    clear hK K
    try simp only [Act.put, Array.toArray_toList, List.setIfInBounds_toArray, List.set_cons_zero, List.set_cons_succ]
    refine anyM_one (i := 10) (by kernel_rfl) rfl (fun K hK => ?_)
    go_simp
    rw [HNM.out]
    refine (attrName_id _).mono ?_
    rintro e w6 ⟨rfl, hb⟩
    have P3 := Lib.hid (P3.out.below hb P3.out.lt)
    have P4 := Lib.hid (P4.out.trans (.of_below hb))
    have P5 := Lib.hid (P5.out.below hb P5.out.lt)
    have hS0 : (fun w' : World => w'.cell? ⟨b, 0, none⟩ = some (.string s) ∧ w'.cell? ⟨b, 1, none⟩ = some (.int .i64 (a1 : Int))) w6 := ⟨P3.out.cell 0, P3.out.cell 1⟩
    clear z0 z1 y0 y1
    have P6 := Lib.hid (P6.out.below hb P6.out.lt)
    have z0 : w6.cell? ⟨g5, 0, none⟩ = some (.string ⟨#[]⟩) := P6.out.cell 0
    have z1 : w6.cell? ⟨g5, 1, none⟩ = some (.string ⟨#[]⟩) := P6.out.cell 1
    have y0 := P6.out.free 0
    have y1 := P6.out.free 1
    clear hb
    refine hK.out _ _ (fun _ => hS0) ?_
    clear hK K
    try simp only [Act.put, Array.toArray_toList, List.setIfInBounds_toArray, List.set_cons_zero, List.set_cons_succ]
    refine anyM_free (i := 11) (oi := { dst := some 29, op := _, type := _, pos := _, after := _, guard := _ }) (v := ?_) rfl (by kernel_rfl) (fun _ _ _ h => h) (Or.inl ⟨by kernel_rfl, ?_⟩) (fun _ => hS0) ?_
    rotate_left 1
    · (intro w hSw; (try dsimp only at hSw); go_simp; try with_reducible rfl)
    try simp only [Act.put, Array.toArray_toList, List.setIfInBounds_toArray, List.set_cons_zero, List.set_cons_succ]
    refine anyM_one (i := 13) (by kernel_rfl) rfl (fun K hK => ?_)
    go_simp
    skip
    refine hK.out _ _ (fun h => late_no h (by kernel_rfl)) ?_
    clear hK K
    try simp only [Act.put, Array.toArray_toList, List.setIfInBounds_toArray, List.set_cons_zero, List.set_cons_succ]
    refine anyM_done (by kernel_rfl) ?_ _
    refine NoPanic.normal ?_
    clear hS0 z0 z1 y0 y1
    have P3 : Hid (Blk (((w6.setCell ⟨g5, 0, none⟩ (.string ⟨#[105, 100]⟩)).setCell ⟨g5, 1, none⟩ (.string ⟨#[]⟩))) b 82 #[.string s, .int .i64 (a1 : Int), c2, c3]) := (P3.out.far (Ne.symm hg9) (i := 0) _).far (Ne.symm hg9) (i := 1) _
    have P4 : Hid (OnlyN b w (((w6.setCell ⟨g5, 0, none⟩ (.string ⟨#[105, 100]⟩)).setCell ⟨g5, 1, none⟩ (.string ⟨#[]⟩)))) := (P4.out.setCell (p := ⟨g5, 0, none⟩) (.inr hg7) _).setCell (p := ⟨g5, 1, none⟩) (.inr hg7) _
    have P5 : Hid (Blk (((w6.setCell ⟨g5, 0, none⟩ (.string ⟨#[105, 100]⟩)).setCell ⟨g5, 1, none⟩ (.string ⟨#[]⟩))) g 91 #[.string ⟨#[]⟩, .string ⟨#[]⟩]) := (P5.out.far hg8 (i := 0) _).far hg8 (i := 1) _
    have P6 : Hid (Blk (((w6.setCell ⟨g5, 0, none⟩ (.string ⟨#[105, 100]⟩)).setCell ⟨g5, 1, none⟩ (.string ⟨#[]⟩))) g5 91 #[.string ⟨#[105, 100]⟩, .string ⟨#[]⟩]) := (P6.out.stored 0 (.string ⟨#[105, 100]⟩)).stored 1 (.string ⟨#[]⟩)
    generalize ((w6.setCell ⟨g5, 0, none⟩ (.string ⟨#[105, 100]⟩)).setCell ⟨g5, 1, none⟩ (.string ⟨#[]⟩)) = wi at P3 P4 P5 P6 ⊢
    go_upto_region 6 with (go_at_call 116; refine (until_calls b s a1 c2 c3 _ ef6 noBlank attr2_calls (by omega) hle1 _ P3.out).mono ?_; rintro e w7 ⟨a2', ha2, hle2, rfl, hb2, ho2⟩; (obtain rfl := (ha2.trans H2.out).symm); (have Q3 := Lib.hid hb2); (have Q4 := Lib.hid (P4.out.trans ho2.n)); (have Q5 := Lib.hid (ho2.blk hgb P5.out)); (have Q6 := Lib.hid (ho2.blk hg9 P6.out)); (have c0 : w7.cell? ⟨b, 0, none⟩ = some (.string s) := hb2.cell 0); (have c1 : w7.cell? ⟨b, 1, none⟩ = some (.int .i64 (a2 : Int)) := hb2.cell 1); clear hb2 ho2 ha2)
    go_quiet (fail)
    have Q3 : Hid (Blk (w7.drewN nq) b 82 #[.string s, .int .i64 (a2 : Int), c2, c3]) := Q3.out
    have Q4 : Hid (OnlyN b w (w7.drewN nq)) := Q4.out.drewN nq
    have Q5 : Hid (Blk (w7.drewN nq) g 91 #[.string ⟨#[]⟩, .string ⟨#[]⟩]) := Q5.out
    have Q6 : Hid (Blk (w7.drewN nq) g5 91 #[.string ⟨#[105, 100]⟩, .string ⟨#[]⟩]) := Q6.out
    generalize w7.drewN nq = w8 at Q3 Q4 Q5 Q6 ⊢
    clear nq c0 c1
    have c1 : w8.cell? ⟨b, 1, none⟩ = some (.int .i64 (a2 : Int)) := Q3.out.cell 1
    have f1 : w8.frozen? ⟨b, 1, none⟩ = false := Q3.out.free 1
    go_wp2_with (first
      | (go_at_call 161; (have R4 := Lib.hid (Q4.out.setCell (p := ⟨b, 1, none⟩) (.inl rfl) (.int .i64 ((a2 : Int) + 1)))); (have R5 := Lib.hid (Q5.out.far hgb (i := 1) (.int .i64 ((a2 : Int) + 1)))); (have R6 := Lib.hid (Q6.out.far hg9 (i := 1) (.int .i64 ((a2 : Int) + 1)))); refine (HVC.out _ (Q3.out.stored 1 (.int .i64 ((a2 : Int) + 1)))).mono ?_; rintro e w9 ⟨rfl, hb9, ho9⟩; (have T3 := Lib.hid hb9); (have T4 := Lib.hid (R4.out.trans ho9.n)); (have T5 := Lib.hid (ho9.blk hgb R5.out)); (have T6 := Lib.hid (ho9.blk hg9 R6.out)); clear hb9 ho9)
      | (go_at_call 160; refine (HEV.out _).mono ?_; rintro e w10 ⟨rfl, hb10⟩; (have U3 := Lib.hid (T3.out.below hb10 T3.out.lt)); (have U4 := Lib.hid (T4.out.trans (.of_below hb10))); (have U5 := Lib.hid (T5.out.below hb10 T5.out.lt)); (have U6 := Lib.hid (T6.out.below hb10 T6.out.lt)); (have z0 : w10.cell? ⟨g5, 0, none⟩ = some (.string ⟨#[105, 100]⟩) := U6.out.cell 0); (have z1 : w10.cell? ⟨g5, 1, none⟩ = some (.string ⟨#[]⟩) := U6.out.cell 1); (have y0 := U6.out.free 0); (have y1 := U6.out.free 1); (have q0 : w10.cell? ⟨g, 0, none⟩ = some (.string ⟨#[]⟩) := U5.out.cell 0); (have q1 : w10.cell? ⟨g, 1, none⟩ = some (.string ⟨#[]⟩) := U5.out.cell 1); (have r0 := U5.out.free 0); (have r1 := U5.out.free 1); clear hb10))
    have hgw : w.heap.size ≤ g := by have := HG.out; omega
    have B2 := ((U5.out.far hg8 (i := 1) (.string v)).stored 0 (.string ⟨#[105, 100]⟩)).stored 1 (.string v)
    have B3 := ((U3.out.far (Ne.symm hg9) (i := 1) (.string v)).far (Ne.symm hgb) (i := 0) (.string ⟨#[105, 100]⟩)).far (Ne.symm hgb) (i := 1) (.string v)
    have B4 := ((U4.out.setCell (p := ⟨g5, 1, none⟩) (.inr hg7) (.string v)).setCell (p := ⟨g, 0, none⟩) (.inr hgw) (.string ⟨#[105, 100]⟩)).setCell (p := ⟨g, 1, none⟩) (.inr hgw) (.string v)
    exact bodyPost_ret (results_cell_row rfl _ _ g 91 #[.string ⟨#[105, 100]⟩, .string v] (0, 0) _ rfl B2 rfl rfl (by kernel_rfl)) rfl ⟨rfl, B3, B4⟩
end Go.Proofs.YtcghahfboccceaaGreatDoor
