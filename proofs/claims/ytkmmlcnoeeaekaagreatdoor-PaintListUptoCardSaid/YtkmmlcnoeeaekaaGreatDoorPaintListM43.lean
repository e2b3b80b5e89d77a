/- Several texts in one: PaintG. -/
import Derived.Test.YtkmmlcnoeeaekaaGreatDoorPaintListM42
/- Contract of the reference's FragCmds, at boxes. -/
namespace Go.Proofs.YtkmmlcnoeeaekaaGreatDoor
open Go.RowKit
set_option linter.unusedVariables false
set_option linter.unusedSimpArgs false
attribute [local go_sem high] run_min2 run_max2

theorem own_any4 {w : World} {base : Nat} {e : TypeId} {size n : Nat} {v : Value} {xs : List Value} (h : w.ownsRow base e size v n xs) : ∃ A n c, v = .slice A n c := by
  rcases h.2 with ⟨rfl, rfl⟩ | ⟨g, cap, cur, hv, hb, hh, _⟩
  · exact ⟨_, _, _, rfl⟩
  · exact ⟨_, _, _, hv⟩
def RFillAt (go k : Nat) (w : World) (l : List CmdV) (e : Ending) (w' : World) : Prop :=
  e = .returned (.tuple #[]) ∧ ∃ v, l.length ≤ k + 1 ∧ Blk w' go 57 #[v] ∧ w'.ownsRow (go + 1) 64 9 v l.length (cmds l) ∧ Below go w w'
theorem rfill_at (zs : List Int) (p : Nat) (pI : Int) (hpI : (p : Int) = pI) (x y cw ch : Int) (f : FragV) (gf gs go : Nat) (v : Value) (l : List CmdV) (k : Nat) (w : World) (hz : zs.length = 118) (hp : p < 59) (hgf : gf < go) (hgs : gs < go) (hl : l.length ≤ k) (hk : k ≤ 9) (hF : Blk w gf 88 (fragC f)) (hS : Blk w gs 35 (sty zs)) (hO : Blk w go 57 #[v]) (hown : w.ownsRow (go + 1) 64 9 v l.length (cmds l)) :
    Calls Tryz.prog 95 #[.int .i64 x, .int .i64 y, .int .i64 cw, .int .i64 ch, .int .i64 pI, .pointer (some ⟨gs, 0, none⟩), .pointer (some ⟨go, 0, none⟩), .pointer (some ⟨gf, 0, none⟩)] w (RFillAt go k w (l ++ [fillC f.node x y cw ch (stN zs p)].filter seen)) :=
  (rfill_calls zs p pI hpI x y cw ch f gf gs go v l w hz hp hgf hgs (by omega) hF hS hO hown).mono fun e w' h => by
    obtain ⟨he, v', h1, h2, h3⟩ := h
    have hf : ([fillC f.node x y cw ch (stN zs p)].filter seen).length ≤ 1 := List.length_filter_le _ _
    exact ⟨he, v', by rw [List.length_append]; omega, h1, h2, h3⟩
set_option maxRecDepth 100000 in
set_option maxHeartbeats 4000000 in
theorem rfrag_row (zs : List Int) (f : FragV) (w : World) (hz : zs.length = 118) (hok : FragOk f) (hv : ¬ stN zs 33 = 1) :
    Calls Tryz.prog 56 #[.agg (fragC f), .int .i64 8, .agg (sty zs)] w fun e w' => ∃ v, e = .returned v ∧ w'.ownsRow w.heap.size 64 9 v ([bgC f zs].filter seen).length (cmds ([bgC f zs].filter seen)) ∧ Below w.heap.size w w' := by
  have HSZ : Hid ((Tryz.prog.info? 35).map (·.size) = some (sty zs).size) := by show _ = _; rw [sty_size, hz]; kernel_rfl
  have hF := (Blk.new w 88 (fragC f)).alloc (.cells (sty zs) 35)
  have hS := Blk.new (w.alloc (.cells (fragC f) 88)) 35 (sty zs)
  simp only [alloc_size] at hS
  have hbel := below_alloc (below_alloc (Below.refl _ w) (.cells (fragC f) 88)) (.cells (sty zs) 35)
  obtain ⟨box, node, par, x, y, cw, ch, text⟩ := f
  obtain ⟨ox0, ox1, oy0, oy1, ow0, ow1, oh0, oh1⟩ := hok
  simp only at ox0 ox1 oy0 oy1 ow0 ow1 oh0 oh1
  have c67 : ((w.alloc (.cells (fragC ⟨box, node, par, x, y, cw, ch, text⟩) 88)).alloc (.cells (sty zs) 35)).cell? ⟨w.heap.size + 1, 67, none⟩ = some (.int .i64 (stN zs 33)) := (hS.cell _).trans (sty_at zs _ (by omega))
  have e33 : (stN zs 33 == 1) = false := by simpa using hv
  obtain ⟨vv, hvv⟩ : ∃ v, v = stN zs 33 := ⟨_, rfl⟩
  rw [← hvv] at c67 e33
  clear hvv hv
  have HED := Lib.hid (fun w => redges_calls zs 19 0 true w hz (by omega) (by omega))
  have hfb : ∀ w : World, Calls Tryz.prog 80 #[.agg (sty zs), .int .i64 19, .int .i64 0, .bool true] w fun e w' => e = .returned (.agg #[.int .i64 (bor zs 19), .int .i64 (bor zs 20), .int .i64 (bor zs 21), .int .i64 (bor zs 22)]) ∧ Below w.heap.size w w' := HED.out
  clear HED
  have HED := Lib.hid hfb
  have bt0 := bor_bd zs 19
  have br0 := bor_bd zs 20
  have bb0 := bor_bd zs 21
  have bl0 := bor_bd zs 22
  have HLL : Hid ([bgC ⟨box, node, par, x, y, cw, ch, text⟩ zs] = [fillC node x y cw ch (stN zs 36)]) := rfl
  obtain ⟨bt, hbt⟩ : ∃ a, a = bor zs 19 := ⟨_, rfl⟩
  obtain ⟨br, hbr⟩ : ∃ a, a = bor zs 20 := ⟨_, rfl⟩
  obtain ⟨bb, hbb⟩ : ∃ a, a = bor zs 21 := ⟨_, rfl⟩
  obtain ⟨bl, hbl⟩ : ∃ a, a = bor zs 22 := ⟨_, rfl⟩
  rw [← hbt, ← hbr, ← hbb, ← hbl] at HED
  rw [← hbt] at bt0
  rw [← hbr] at br0
  rw [← hbb] at bb0
  rw [← hbl] at bl0
  skip
  rw [HLL.out]
  obtain ⟨bt0, bt1⟩ := bt0
  obtain ⟨br0, br1⟩ := br0
  obtain ⟨bb0, bb1⟩ := bb0
  obtain ⟨bl0, bl1⟩ := bl0
  clear hfb hbt hbr hbb hbl HLL
  go_enter Tryz.func56, Tryz.ntmps56
  go_upto_region 17 with (first | (refine wpList_load_row rfl 35 _ rfl (w.heap.size + 1) rfl 35 (sty zs) (0, 0) _ (by repeat (first | exact hS | refine Blk.alloc ?_ _)) Tryz.underlying35 rfl HSZ.out ?_) | (go_at_call 80; refine (HED.out _).mono ?_; rintro e w3 ⟨rfl, hb3⟩; have h3sz := hb3.size; simp only [alloc_size] at h3sz; have hF := ((hF.below hb3 hF.lt).alloc (.cells #[.int .i64 bt, .int .i64 br, .int .i64 bb, .int .i64 bl] 141)).alloc (.cells #[.slice none 0 0] 57); have hS := ((hS.below hb3 hS.lt).alloc (.cells #[.int .i64 bt, .int .i64 br, .int .i64 bb, .int .i64 bl] 141)).alloc (.cells #[.slice none 0 0] 57); have hE := (Blk.new w3 141 #[.int .i64 bt, .int .i64 br, .int .i64 bb, .int .i64 bl]).alloc (.cells #[.slice none 0 0] 57); have hO := Blk.new (w3.alloc (.cells #[.int .i64 bt, .int .i64 br, .int .i64 bb, .int .i64 bl] 141)) 57 #[.slice none 0 0]; simp only [alloc_size] at hO; have hown : ((w3.alloc (.cells #[.int .i64 bt, .int .i64 br, .int .i64 bb, .int .i64 bl] 141)).alloc (.cells #[.slice none 0 0] 57)).ownsRow (w3.heap.size + 1 + 1) 64 9 (.slice none 0 0) ([] : List CmdV).length (cmds []) := World.ownsRow_nil _ _ _ _; have hl : ([] : List CmdV).length ≤ 0 := Nat.le_refl _; have hbel := below_alloc (below_alloc (below_then hbel hb3) (.cells #[.int .i64 bt, .int .i64 br, .int .i64 bb, .int .i64 bl] 141)) (.cells #[.slice none 0 0] 57); have c3 : ((w3.alloc (.cells #[.int .i64 bt, .int .i64 br, .int .i64 bb, .int .i64 bl] 141)).alloc (.cells #[.slice none 0 0] 57)).cell? ⟨w.heap.size, 3, none⟩ = some (.int .i64 x) := hF.cell 3; have c4 : ((w3.alloc (.cells #[.int .i64 bt, .int .i64 br, .int .i64 bb, .int .i64 bl] 141)).alloc (.cells #[.slice none 0 0] 57)).cell? ⟨w.heap.size, 4, none⟩ = some (.int .i64 y) := hF.cell 4; have c5 : ((w3.alloc (.cells #[.int .i64 bt, .int .i64 br, .int .i64 bb, .int .i64 bl] 141)).alloc (.cells #[.slice none 0 0] 57)).cell? ⟨w.heap.size, 5, none⟩ = some (.int .i64 cw) := hF.cell 5; have c6 : ((w3.alloc (.cells #[.int .i64 bt, .int .i64 br, .int .i64 bb, .int .i64 bl] 141)).alloc (.cells #[.slice none 0 0] 57)).cell? ⟨w.heap.size, 6, none⟩ = some (.int .i64 ch) := hF.cell 6; have e0 : ((w3.alloc (.cells #[.int .i64 bt, .int .i64 br, .int .i64 bb, .int .i64 bl] 141)).alloc (.cells #[.slice none 0 0] 57)).cell? ⟨w3.heap.size, 0, none⟩ = some (.int .i64 bt) := hE.cell 0; have e1 : ((w3.alloc (.cells #[.int .i64 bt, .int .i64 br, .int .i64 bb, .int .i64 bl] 141)).alloc (.cells #[.slice none 0 0] 57)).cell? ⟨w3.heap.size, 1, none⟩ = some (.int .i64 br) := hE.cell 1; have e2 : ((w3.alloc (.cells #[.int .i64 bt, .int .i64 br, .int .i64 bb, .int .i64 bl] 141)).alloc (.cells #[.slice none 0 0] 57)).cell? ⟨w3.heap.size, 2, none⟩ = some (.int .i64 bb) := hE.cell 2; have e3 : ((w3.alloc (.cells #[.int .i64 bt, .int .i64 br, .int .i64 bb, .int .i64 bl] 141)).alloc (.cells #[.slice none 0 0] 57)).cell? ⟨w3.heap.size, 3, none⟩ = some (.int .i64 bl) := hE.cell 3) | (go_at_call 95; refine (rfill_at zs 36 36 rfl _ _ _ _ ⟨box, node, par, x, y, cw, ch, text⟩ _ _ (w3.heap.size + 1) _ _ _ _ hz (by decide) (by omega) (by omega) hl (by omega) hF hS hO hown).mono ?_; rintro e wn ⟨rfl, v, hl, hO, hown, hb⟩; obtain ⟨A9, n9, c9, rfl⟩ := own_any4 hown; have hF := hF.below hb (by omega); have hS := hS.below hb (by omega); have hE := hE.below hb (by omega); have hbel := hbel.trans (hb.mono (by omega)); clear hb; have c3 : wn.cell? ⟨w.heap.size, 3, none⟩ = some (.int .i64 x) := hF.cell 3; have c4 : wn.cell? ⟨w.heap.size, 4, none⟩ = some (.int .i64 y) := hF.cell 4; have c5 : wn.cell? ⟨w.heap.size, 5, none⟩ = some (.int .i64 cw) := hF.cell 5; have c6 : wn.cell? ⟨w.heap.size, 6, none⟩ = some (.int .i64 ch) := hF.cell 6; have e0 : wn.cell? ⟨w3.heap.size, 0, none⟩ = some (.int .i64 bt) := hE.cell 0; have e1 : wn.cell? ⟨w3.heap.size, 1, none⟩ = some (.int .i64 br) := hE.cell 1; have e2 : wn.cell? ⟨w3.heap.size, 2, none⟩ = some (.int .i64 bb) := hE.cell 2; have e3 : wn.cell? ⟨w3.heap.size, 3, none⟩ = some (.int .i64 bl) := hE.cell 3))
  have hown := own_base (base' := w.heap.size) hown (by omega)
  have HO := Lib.hid (show wn.ownsRow w.heap.size 64 9 (.slice A9 n9 c9) ([fillC node x y cw ch (stN zs 36)].filter seen).length (cmds ([fillC node x y cw ch (stN zs 36)].filter seen)) from hown)
  have q0 : wn.cell? ⟨w3.heap.size + 1, 0, none⟩ = some (.slice A9 n9 c9) := hO.cell 0
  clear hown hO hF hS hE
  go_wp2_with fail
  go_ret
  exact ⟨_, rfl, HO.out, hbel⟩
set_option maxRecDepth 100000 in
set_option maxHeartbeats 4000000 in
theorem rfrag_box (zs : List Int) (kind : Int) (f : FragV) (w : World) (hz : zs.length = 118) (hok : FragOk f) (hv : ¬ stN zs 33 = 1) (h4 : ¬ kind = 4) (h8 : ¬ kind = 8) :
    Calls Tryz.prog 56 #[.agg (fragC f), .int .i64 kind, .agg (sty zs)] w fun e w' => ∃ v, e = .returned v ∧ w'.ownsRow w.heap.size 64 9 v ([bgC f zs, topC f zs, rightC f zs, botC f zs, leftC f zs].filter seen).length (cmds ([bgC f zs, topC f zs, rightC f zs, botC f zs, leftC f zs].filter seen)) ∧ Below w.heap.size w w' := by
  have HSZ : Hid ((Tryz.prog.info? 35).map (·.size) = some (sty zs).size) := by show _ = _; rw [sty_size, hz]; kernel_rfl
  have hF := (Blk.new w 88 (fragC f)).alloc (.cells (sty zs) 35)
  have hS := Blk.new (w.alloc (.cells (fragC f) 88)) 35 (sty zs)
  simp only [alloc_size] at hS
  have hbel := below_alloc (below_alloc (Below.refl _ w) (.cells (fragC f) 88)) (.cells (sty zs) 35)
  obtain ⟨box, node, par, x, y, cw, ch, text⟩ := f
  obtain ⟨ox0, ox1, oy0, oy1, ow0, ow1, oh0, oh1⟩ := hok
  simp only at ox0 ox1 oy0 oy1 ow0 ow1 oh0 oh1
  have c67 : ((w.alloc (.cells (fragC ⟨box, node, par, x, y, cw, ch, text⟩) 88)).alloc (.cells (sty zs) 35)).cell? ⟨w.heap.size + 1, 67, none⟩ = some (.int .i64 (stN zs 33)) := (hS.cell _).trans (sty_at zs _ (by omega))
  have e33 : (stN zs 33 == 1) = false := by simpa using hv
  obtain ⟨vv, hvv⟩ : ∃ v, v = stN zs 33 := ⟨_, rfl⟩
  rw [← hvv] at c67 e33
  clear hvv hv
  have HED := Lib.hid (fun w => redges_calls zs 19 0 true w hz (by omega) (by omega))
  have hfb : ∀ w : World, Calls Tryz.prog 80 #[.agg (sty zs), .int .i64 19, .int .i64 0, .bool true] w fun e w' => e = .returned (.agg #[.int .i64 (bor zs 19), .int .i64 (bor zs 20), .int .i64 (bor zs 21), .int .i64 (bor zs 22)]) ∧ Below w.heap.size w w' := HED.out
  clear HED
  have HED := Lib.hid hfb
  have bt0 := bor_bd zs 19
  have br0 := bor_bd zs 20
  have bb0 := bor_bd zs 21
  have bl0 := bor_bd zs 22
  have HLL : Hid ([bgC ⟨box, node, par, x, y, cw, ch, text⟩ zs, topC ⟨box, node, par, x, y, cw, ch, text⟩ zs, rightC ⟨box, node, par, x, y, cw, ch, text⟩ zs, botC ⟨box, node, par, x, y, cw, ch, text⟩ zs, leftC ⟨box, node, par, x, y, cw, ch, text⟩ zs] = [fillC node x y cw ch (stN zs 36), fillC node x y cw (bor zs 19) (stN zs 23), fillC node (x + cw - bor zs 20) (y + bor zs 19) (bor zs 20) (ch - bor zs 19 - bor zs 21) (stN zs 24), fillC node x (y + ch - bor zs 21) cw (bor zs 21) (stN zs 25), fillC node x (y + bor zs 19) (bor zs 22) (ch - bor zs 19 - bor zs 21) (stN zs 26)]) := rfl
  obtain ⟨bt, hbt⟩ : ∃ a, a = bor zs 19 := ⟨_, rfl⟩
  obtain ⟨br, hbr⟩ : ∃ a, a = bor zs 20 := ⟨_, rfl⟩
  obtain ⟨bb, hbb⟩ : ∃ a, a = bor zs 21 := ⟨_, rfl⟩
  obtain ⟨bl, hbl⟩ : ∃ a, a = bor zs 22 := ⟨_, rfl⟩
  rw [← hbt, ← hbr, ← hbb, ← hbl] at HED
  rw [← hbt] at bt0
  rw [← hbr] at br0
  rw [← hbb] at bb0
  rw [← hbl] at bl0
  rw [← hbt, ← hbr, ← hbb, ← hbl] at HLL
  rw [HLL.out]
  obtain ⟨bt0, bt1⟩ := bt0
  obtain ⟨br0, br1⟩ := br0
  obtain ⟨bb0, bb1⟩ := bb0
  obtain ⟨bl0, bl1⟩ := bl0
  clear hfb hbt hbr hbb hbl HLL
  have e4 : (kind == 4) = false := by simpa using h4
  have e8 : (kind != 8) = true := by simpa using h8
  clear h4 h8
  go_enter Tryz.func56, Tryz.ntmps56
  go_upto_region 12 with (first | (refine wpList_load_row rfl 35 _ rfl (w.heap.size + 1) rfl 35 (sty zs) (0, 0) _ (by repeat (first | exact hS | refine Blk.alloc ?_ _)) Tryz.underlying35 rfl HSZ.out ?_) | (go_at_call 80; refine (HED.out _).mono ?_; rintro e w3 ⟨rfl, hb3⟩; have h3sz := hb3.size; simp only [alloc_size] at h3sz; have hF := ((hF.below hb3 hF.lt).alloc (.cells #[.int .i64 bt, .int .i64 br, .int .i64 bb, .int .i64 bl] 141)).alloc (.cells #[.slice none 0 0] 57); have hS := ((hS.below hb3 hS.lt).alloc (.cells #[.int .i64 bt, .int .i64 br, .int .i64 bb, .int .i64 bl] 141)).alloc (.cells #[.slice none 0 0] 57); have hE := (Blk.new w3 141 #[.int .i64 bt, .int .i64 br, .int .i64 bb, .int .i64 bl]).alloc (.cells #[.slice none 0 0] 57); have hO := Blk.new (w3.alloc (.cells #[.int .i64 bt, .int .i64 br, .int .i64 bb, .int .i64 bl] 141)) 57 #[.slice none 0 0]; simp only [alloc_size] at hO; have hown : ((w3.alloc (.cells #[.int .i64 bt, .int .i64 br, .int .i64 bb, .int .i64 bl] 141)).alloc (.cells #[.slice none 0 0] 57)).ownsRow (w3.heap.size + 1 + 1) 64 9 (.slice none 0 0) ([] : List CmdV).length (cmds []) := World.ownsRow_nil _ _ _ _; have hl : ([] : List CmdV).length ≤ 0 := Nat.le_refl _; have hbel := below_alloc (below_alloc (below_then hbel hb3) (.cells #[.int .i64 bt, .int .i64 br, .int .i64 bb, .int .i64 bl] 141)) (.cells #[.slice none 0 0] 57); have c3 : ((w3.alloc (.cells #[.int .i64 bt, .int .i64 br, .int .i64 bb, .int .i64 bl] 141)).alloc (.cells #[.slice none 0 0] 57)).cell? ⟨w.heap.size, 3, none⟩ = some (.int .i64 x) := hF.cell 3; have c4 : ((w3.alloc (.cells #[.int .i64 bt, .int .i64 br, .int .i64 bb, .int .i64 bl] 141)).alloc (.cells #[.slice none 0 0] 57)).cell? ⟨w.heap.size, 4, none⟩ = some (.int .i64 y) := hF.cell 4; have c5 : ((w3.alloc (.cells #[.int .i64 bt, .int .i64 br, .int .i64 bb, .int .i64 bl] 141)).alloc (.cells #[.slice none 0 0] 57)).cell? ⟨w.heap.size, 5, none⟩ = some (.int .i64 cw) := hF.cell 5; have c6 : ((w3.alloc (.cells #[.int .i64 bt, .int .i64 br, .int .i64 bb, .int .i64 bl] 141)).alloc (.cells #[.slice none 0 0] 57)).cell? ⟨w.heap.size, 6, none⟩ = some (.int .i64 ch) := hF.cell 6; have e0 : ((w3.alloc (.cells #[.int .i64 bt, .int .i64 br, .int .i64 bb, .int .i64 bl] 141)).alloc (.cells #[.slice none 0 0] 57)).cell? ⟨w3.heap.size, 0, none⟩ = some (.int .i64 bt) := hE.cell 0; have e1 : ((w3.alloc (.cells #[.int .i64 bt, .int .i64 br, .int .i64 bb, .int .i64 bl] 141)).alloc (.cells #[.slice none 0 0] 57)).cell? ⟨w3.heap.size, 1, none⟩ = some (.int .i64 br) := hE.cell 1; have e2 : ((w3.alloc (.cells #[.int .i64 bt, .int .i64 br, .int .i64 bb, .int .i64 bl] 141)).alloc (.cells #[.slice none 0 0] 57)).cell? ⟨w3.heap.size, 2, none⟩ = some (.int .i64 bb) := hE.cell 2; have e3 : ((w3.alloc (.cells #[.int .i64 bt, .int .i64 br, .int .i64 bb, .int .i64 bl] 141)).alloc (.cells #[.slice none 0 0] 57)).cell? ⟨w3.heap.size, 3, none⟩ = some (.int .i64 bl) := hE.cell 3) | (go_at_call 95; refine (rfill_at zs 36 36 rfl _ _ _ _ ⟨box, node, par, x, y, cw, ch, text⟩ _ _ (w3.heap.size + 1) _ _ _ _ hz (by decide) (by omega) (by omega) hl (by omega) hF hS hO hown).mono ?_; rintro e wn ⟨rfl, v, hl, hO, hown, hb⟩; obtain ⟨A9, n9, c9, rfl⟩ := own_any4 hown; have hF := hF.below hb (by omega); have hS := hS.below hb (by omega); have hE := hE.below hb (by omega); have hbel := hbel.trans (hb.mono (by omega)); clear hb; have c3 : wn.cell? ⟨w.heap.size, 3, none⟩ = some (.int .i64 x) := hF.cell 3; have c4 : wn.cell? ⟨w.heap.size, 4, none⟩ = some (.int .i64 y) := hF.cell 4; have c5 : wn.cell? ⟨w.heap.size, 5, none⟩ = some (.int .i64 cw) := hF.cell 5; have c6 : wn.cell? ⟨w.heap.size, 6, none⟩ = some (.int .i64 ch) := hF.cell 6; have e0 : wn.cell? ⟨w3.heap.size, 0, none⟩ = some (.int .i64 bt) := hE.cell 0; have e1 : wn.cell? ⟨w3.heap.size, 1, none⟩ = some (.int .i64 br) := hE.cell 1; have e2 : wn.cell? ⟨w3.heap.size, 2, none⟩ = some (.int .i64 bb) := hE.cell 2; have e3 : wn.cell? ⟨w3.heap.size, 3, none⟩ = some (.int .i64 bl) := hE.cell 3))
  go_upto_region 14 with ((go_at_call 95; refine (rfill_at zs 23 23 rfl _ _ _ _ ⟨box, node, par, x, y, cw, ch, text⟩ _ _ (w3.heap.size + 1) _ _ _ _ hz (by decide) (by omega) (by omega) hl (by omega) hF hS hO hown).mono ?_; rintro e wn ⟨rfl, v, hl, hO, hown, hb⟩; obtain ⟨A9, n9, c9, rfl⟩ := own_any4 hown; have hF := hF.below hb (by omega); have hS := hS.below hb (by omega); have hE := hE.below hb (by omega); have hbel := hbel.trans (hb.mono (by omega)); clear hb; have c3 : wn.cell? ⟨w.heap.size, 3, none⟩ = some (.int .i64 x) := hF.cell 3; have c4 : wn.cell? ⟨w.heap.size, 4, none⟩ = some (.int .i64 y) := hF.cell 4; have c5 : wn.cell? ⟨w.heap.size, 5, none⟩ = some (.int .i64 cw) := hF.cell 5; have c6 : wn.cell? ⟨w.heap.size, 6, none⟩ = some (.int .i64 ch) := hF.cell 6; have e0 : wn.cell? ⟨w3.heap.size, 0, none⟩ = some (.int .i64 bt) := hE.cell 0; have e1 : wn.cell? ⟨w3.heap.size, 1, none⟩ = some (.int .i64 br) := hE.cell 1; have e2 : wn.cell? ⟨w3.heap.size, 2, none⟩ = some (.int .i64 bb) := hE.cell 2; have e3 : wn.cell? ⟨w3.heap.size, 3, none⟩ = some (.int .i64 bl) := hE.cell 3))
  go_upto_region 15 with ((go_at_call 95; refine (rfill_at zs 24 24 rfl _ _ _ _ ⟨box, node, par, x, y, cw, ch, text⟩ _ _ (w3.heap.size + 1) _ _ _ _ hz (by decide) (by omega) (by omega) hl (by omega) hF hS hO hown).mono ?_; rintro e wn ⟨rfl, v, hl, hO, hown, hb⟩; obtain ⟨A9, n9, c9, rfl⟩ := own_any4 hown; have hF := hF.below hb (by omega); have hS := hS.below hb (by omega); have hE := hE.below hb (by omega); have hbel := hbel.trans (hb.mono (by omega)); clear hb; have c3 : wn.cell? ⟨w.heap.size, 3, none⟩ = some (.int .i64 x) := hF.cell 3; have c4 : wn.cell? ⟨w.heap.size, 4, none⟩ = some (.int .i64 y) := hF.cell 4; have c5 : wn.cell? ⟨w.heap.size, 5, none⟩ = some (.int .i64 cw) := hF.cell 5; have c6 : wn.cell? ⟨w.heap.size, 6, none⟩ = some (.int .i64 ch) := hF.cell 6; have e0 : wn.cell? ⟨w3.heap.size, 0, none⟩ = some (.int .i64 bt) := hE.cell 0; have e1 : wn.cell? ⟨w3.heap.size, 1, none⟩ = some (.int .i64 br) := hE.cell 1; have e2 : wn.cell? ⟨w3.heap.size, 2, none⟩ = some (.int .i64 bb) := hE.cell 2; have e3 : wn.cell? ⟨w3.heap.size, 3, none⟩ = some (.int .i64 bl) := hE.cell 3))
  go_upto_region 16 with ((go_at_call 95; refine (rfill_at zs 25 25 rfl _ _ _ _ ⟨box, node, par, x, y, cw, ch, text⟩ _ _ (w3.heap.size + 1) _ _ _ _ hz (by decide) (by omega) (by omega) hl (by omega) hF hS hO hown).mono ?_; rintro e wn ⟨rfl, v, hl, hO, hown, hb⟩; obtain ⟨A9, n9, c9, rfl⟩ := own_any4 hown; have hF := hF.below hb (by omega); have hS := hS.below hb (by omega); have hE := hE.below hb (by omega); have hbel := hbel.trans (hb.mono (by omega)); clear hb; have c3 : wn.cell? ⟨w.heap.size, 3, none⟩ = some (.int .i64 x) := hF.cell 3; have c4 : wn.cell? ⟨w.heap.size, 4, none⟩ = some (.int .i64 y) := hF.cell 4; have c5 : wn.cell? ⟨w.heap.size, 5, none⟩ = some (.int .i64 cw) := hF.cell 5; have c6 : wn.cell? ⟨w.heap.size, 6, none⟩ = some (.int .i64 ch) := hF.cell 6; have e0 : wn.cell? ⟨w3.heap.size, 0, none⟩ = some (.int .i64 bt) := hE.cell 0; have e1 : wn.cell? ⟨w3.heap.size, 1, none⟩ = some (.int .i64 br) := hE.cell 1; have e2 : wn.cell? ⟨w3.heap.size, 2, none⟩ = some (.int .i64 bb) := hE.cell 2; have e3 : wn.cell? ⟨w3.heap.size, 3, none⟩ = some (.int .i64 bl) := hE.cell 3))
  go_upto_region 17 with ((go_at_call 95; refine (rfill_at zs 26 26 rfl _ _ _ _ ⟨box, node, par, x, y, cw, ch, text⟩ _ _ (w3.heap.size + 1) _ _ _ _ hz (by decide) (by omega) (by omega) hl (by omega) hF hS hO hown).mono ?_; rintro e wn ⟨rfl, v, hl, hO, hown, hb⟩; obtain ⟨A9, n9, c9, rfl⟩ := own_any4 hown; have hF := hF.below hb (by omega); have hS := hS.below hb (by omega); have hE := hE.below hb (by omega); have hbel := hbel.trans (hb.mono (by omega)); clear hb; have c3 : wn.cell? ⟨w.heap.size, 3, none⟩ = some (.int .i64 x) := hF.cell 3; have c4 : wn.cell? ⟨w.heap.size, 4, none⟩ = some (.int .i64 y) := hF.cell 4; have c5 : wn.cell? ⟨w.heap.size, 5, none⟩ = some (.int .i64 cw) := hF.cell 5; have c6 : wn.cell? ⟨w.heap.size, 6, none⟩ = some (.int .i64 ch) := hF.cell 6; have e0 : wn.cell? ⟨w3.heap.size, 0, none⟩ = some (.int .i64 bt) := hE.cell 0; have e1 : wn.cell? ⟨w3.heap.size, 1, none⟩ = some (.int .i64 br) := hE.cell 1; have e2 : wn.cell? ⟨w3.heap.size, 2, none⟩ = some (.int .i64 bb) := hE.cell 2; have e3 : wn.cell? ⟨w3.heap.size, 3, none⟩ = some (.int .i64 bl) := hE.cell 3))
  have hown := own_base (base' := w.heap.size) hown (by omega)
  have hfl : ∀ a b c d e : CmdV, ((((([] ++ [a].filter seen) ++ [b].filter seen) ++ [c].filter seen) ++ [d].filter seen) ++ [e].filter seen) = [a, b, c, d, e].filter seen := fun a b c d e => by
    rw [List.nil_append, ← List.filter_append, ← List.filter_append, ← List.filter_append, ← List.filter_append]; rfl
  rw [hfl] at hown
  have HO := Lib.hid hown
  have q0 : wn.cell? ⟨w3.heap.size + 1, 0, none⟩ = some (.slice A9 n9 c9) := hO.cell 0
  clear hown hO hF hS hE hfl
  go_wp2_with fail
  go_ret
  exact ⟨_, rfl, HO.out, hbel⟩
end Go.Proofs.YtkmmlcnoeeaekaaGreatDoor
