/- Several texts in one: PaintD. -/
import Derived.Test.YtkmmlcnoeeaekaaGreatDoorPaintListM39
/- Contract of paint.Frag, at boxes. -/
namespace Go.Proofs.YtkmmlcnoeeaekaaGreatDoor
open Go.RowKit
set_option linter.unusedVariables false
set_option linter.unusedSimpArgs false
attribute [local go_sem high] run_min2 run_max2

theorem fill_at (zs : List Int) (p : Nat) (pI : Int) (hpI : (p : Int) = pI) (x y cw ch : Int) (f : FragV) (gf gs : Nat) (w : World) (hz : zs.length = 118) (hp : p < 59) (hF : Blk w gf 88 (fragC f)) (hS : Blk w gs 35 (sty zs)) :
    Calls Tryz.prog 84 #[.int .i64 x, .int .i64 y, .int .i64 cw, .int .i64 ch, .int .i64 pI, .pointer (some ⟨gf, 0, none⟩), .pointer (some ⟨gs, 0, none⟩)] w fun e w' => e = .returned (.agg #[.int .i64 1, .int .i64 f.node, .int .i64 x, .int .i64 y, .int .i64 cw, .int .i64 ch, .int .i64 (stN zs p), .int .i64 0, .string ⟨#[]⟩]) ∧ Below w.heap.size w w' := by
  subst hpI; exact fill_calls zs p x y cw ch f gf gs w hz hp hF hS
theorem Holds.of_blk {w : World} {g : Nat} {t : TypeId} {cs : Array Value} (h : Blk w g t cs) : Holds w w.heap.size (some ⟨g, 0, none⟩) cs.toList := fun hn => by
  refine ⟨g, 0, rfl, h.lt, fun j hj => ?_⟩
  have hj' : j < cs.size := by simpa using hj
  rw [Nat.zero_add, h.cell]; simp [List.getD, hj']
theorem Holds.of_row {w : World} {base : Nat} {e : TypeId} {size n c : Nat} {A : Option Addr} {xs : List Value} (h : w.ownsRow base e size (.slice A n c) n xs) : Holds w w.heap.size A xs := Holds.of_own h
set_option maxRecDepth 100000 in
set_option maxHeartbeats 4000000 in
theorem frag_row (zs : List Int) (f : FragV) (w : World) (hz : zs.length = 118) (hok : FragOk f) (hv : ¬ stN zs 33 = 1) :
    Calls Tryz.prog 51 #[.agg (fragC f), .int .i64 8, .agg (sty zs)] w fun e w' => ∃ v, e = .returned v ∧ w'.ownsRow w.heap.size 64 9 v ([bgC f zs].filter seen).length (cmds ([bgC f zs].filter seen)) ∧ Below w.heap.size w w' := by
  have HSZ : Hid ((Tryz.prog.info? 35).map (·.size) = some (sty zs).size) := by show _ = _; rw [sty_size, hz]; kernel_rfl
  have hF := (Blk.new w 88 (fragC f)).alloc (.cells (sty zs) 35)
  have hS := Blk.new (w.alloc (.cells (fragC f) 88)) 35 (sty zs)
  simp only [alloc_size] at hS
  have hbel := below_alloc (below_alloc (Below.refl _ w) (.cells (fragC f) 88)) (.cells (sty zs) 35)
  obtain ⟨box, node, par, x, y, cw, ch, text⟩ := f
  obtain ⟨ox0, ox1, oy0, oy1, ow0, ow1, oh0, oh1⟩ := hok
  simp only at ox0 ox1 oy0 oy1 ow0 ow1 oh0 oh1
  have c67 : ((w.alloc (.cells (fragC ⟨box, node, par, x, y, cw, ch, text⟩) 88)).alloc (.cells (sty zs) 35)).cell? ⟨w.heap.size + 1, 67, none⟩ = some (.int .i64 (stN zs 33)) := (hS.cell _).trans (sty_at zs _ (by omega))
  have e33 : (stN zs 33 == 1) = false := by simpa using hv
  obtain ⟨vv, hvv⟩ : ∃ v, v = stN zs 33 := ⟨_, rfl⟩
  rw [← hvv] at c67 e33
  clear hvv hv
  have HFI := fun (p : Nat) (pI : Int) (hpI : (p : Int) = pI) (hp : p < 59) (x' y' cw' ch' : Int) (gf gs : Nat) (w' : World) hF hS => fill_at zs p pI hpI x' y' cw' ch' ⟨box, node, par, x, y, cw, ch, text⟩ gf gs w' hz hp hF hS
  have H36 := Lib.hid (HFI 36 36 rfl (by decide))
  have H23 := Lib.hid (HFI 23 23 rfl (by decide))
  have H24 := Lib.hid (HFI 24 24 rfl (by decide))
  have H25 := Lib.hid (HFI 25 25 rfl (by decide))
  have H26 := Lib.hid (HFI 26 26 rfl (by decide))
  clear HFI
  have hfr : ∃ m0 m1 m2 m3 p0 p1 p2 p3 : Int, four false zs 11 0 = #[.int .i64 m0, .int .i64 m1, .int .i64 m2, .int .i64 m3] ∧ four true zs 15 0 = #[.int .i64 p0, .int .i64 p1, .int .i64 p2, .int .i64 p3] := ⟨_, _, _, _, _, _, _, _, rfl, rfl⟩
  obtain ⟨m0, m1, m2, m3, p0, p1, p2, p3, hfm, hfp⟩ := hfr
  have hfb : four true zs 19 0 = #[.int .i64 (bor zs 19), .int .i64 (bor zs 20), .int .i64 (bor zs 21), .int .i64 (bor zs 22)] := rfl
  have HFR := Lib.hid (fun w => by have h := frame_calls zs 0 w hz; rw [hfm, hfb, hfp] at h; exact h)
  have bt0 := bor_bd zs 19
  have br0 := bor_bd zs 20
  have bb0 := bor_bd zs 21
  have bl0 := bor_bd zs 22
  have HLL : Hid ([bgC ⟨box, node, par, x, y, cw, ch, text⟩ zs] = [fillC node x y cw ch (stN zs 36)]) := rfl
  obtain ⟨bt, hbt⟩ : ∃ a, a = bor zs 19 := ⟨_, rfl⟩
  obtain ⟨br, hbr⟩ : ∃ a, a = bor zs 20 := ⟨_, rfl⟩
  obtain ⟨bb, hbb⟩ : ∃ a, a = bor zs 21 := ⟨_, rfl⟩
  obtain ⟨bl, hbl⟩ : ∃ a, a = bor zs 22 := ⟨_, rfl⟩
  obtain ⟨c36, h36⟩ : ∃ a, a = stN zs 36 := ⟨_, rfl⟩
  obtain ⟨c23, h23⟩ : ∃ a, a = stN zs 23 := ⟨_, rfl⟩
  obtain ⟨c24, h24⟩ : ∃ a, a = stN zs 24 := ⟨_, rfl⟩
  obtain ⟨c25, h25⟩ : ∃ a, a = stN zs 25 := ⟨_, rfl⟩
  obtain ⟨c26, h26⟩ : ∃ a, a = stN zs 26 := ⟨_, rfl⟩
  rw [← hbt, ← hbr, ← hbb, ← hbl] at HFR
  rw [← hbt] at bt0
  rw [← hbr] at br0
  rw [← hbb] at bb0
  rw [← hbl] at bl0
  rw [← h36] at H36
  rw [← h23] at H23
  rw [← h24] at H24
  rw [← h25] at H25
  rw [← h26] at H26
  rw [← h36] at HLL
  rw [HLL.out]
  obtain ⟨bt0, bt1⟩ := bt0
  obtain ⟨br0, br1⟩ := br0
  obtain ⟨bb0, bb1⟩ := bb0
  obtain ⟨bl0, bl1⟩ := bl0
  clear hfm hfp hfb hbt hbr hbb hbl h36 h23 h24 h25 h26 HLL
  unfold fragC at *
  go_enter Tryz.func51, Tryz.ntmps51
  go_upto_region 15 with (first | (refine wpList_load_row rfl 35 _ rfl (w.heap.size + 1) rfl 35 (sty zs) (0, 0) _ (by repeat (first | exact hS | refine Blk.alloc ?_ _)) Tryz.underlying35 rfl HSZ.out ?_) | (go_at_call 84; refine (H36.out _ _ _ _ _ _ _ hF hS).mono ?_; rintro e wA ⟨rfl, hbA⟩; have hL := Blk.new wA 64 #[.int .i64 1, .int .i64 node, .int .i64 x, .int .i64 y, .int .i64 cw, .int .i64 ch, .int .i64 c36, .int .i64 0, .string ⟨#[]⟩]; have hF := (hF.below hbA hF.lt).alloc (.cells #[.int .i64 1, .int .i64 node, .int .i64 x, .int .i64 y, .int .i64 cw, .int .i64 ch, .int .i64 c36, .int .i64 0, .string ⟨#[]⟩] 64); have hS := (hS.below hbA hS.lt).alloc (.cells #[.int .i64 1, .int .i64 node, .int .i64 x, .int .i64 y, .int .i64 cw, .int .i64 ch, .int .i64 c36, .int .i64 0, .string ⟨#[]⟩] 64); have hbel := below_alloc (below_then hbel hbA) (.cells #[.int .i64 1, .int .i64 node, .int .i64 x, .int .i64 y, .int .i64 cw, .int .i64 ch, .int .i64 c36, .int .i64 0, .string ⟨#[]⟩] 64); have hAsz := hbA.size; simp only [alloc_size] at hAsz) | (go_at_call 79; refine (HFR.out _).mono ?_; rintro e w1 ⟨rfl, hb1⟩; have h1sz := hb1.size; simp only [alloc_size] at h1sz; have hL := (((hL.below hb1 hL.lt).alloc (.cells #[.int .i64 m0, .int .i64 m1, .int .i64 m2, .int .i64 m3] 141)).alloc (.cells #[.int .i64 bt, .int .i64 br, .int .i64 bb, .int .i64 bl] 141)).alloc (.cells #[.int .i64 p0, .int .i64 p1, .int .i64 p2, .int .i64 p3] 141); have hF := (((hF.below hb1 hF.lt).alloc (.cells #[.int .i64 m0, .int .i64 m1, .int .i64 m2, .int .i64 m3] 141)).alloc (.cells #[.int .i64 bt, .int .i64 br, .int .i64 bb, .int .i64 bl] 141)).alloc (.cells #[.int .i64 p0, .int .i64 p1, .int .i64 p2, .int .i64 p3] 141); have hS := (((hS.below hb1 hS.lt).alloc (.cells #[.int .i64 m0, .int .i64 m1, .int .i64 m2, .int .i64 m3] 141)).alloc (.cells #[.int .i64 bt, .int .i64 br, .int .i64 bb, .int .i64 bl] 141)).alloc (.cells #[.int .i64 p0, .int .i64 p1, .int .i64 p2, .int .i64 p3] 141); have hB := (Blk.new (w1.alloc (.cells #[.int .i64 m0, .int .i64 m1, .int .i64 m2, .int .i64 m3] 141)) 141 #[.int .i64 bt, .int .i64 br, .int .i64 bb, .int .i64 bl]).alloc (.cells #[.int .i64 p0, .int .i64 p1, .int .i64 p2, .int .i64 p3] 141); simp only [alloc_size] at hB; have hbel := below_alloc (below_alloc (below_alloc (below_then hbel hb1) (.cells #[.int .i64 m0, .int .i64 m1, .int .i64 m2, .int .i64 m3] 141)) (.cells #[.int .i64 bt, .int .i64 br, .int .i64 bb, .int .i64 bl] 141)) (.cells #[.int .i64 p0, .int .i64 p1, .int .i64 p2, .int .i64 p3] 141); have c6 : (((w1.alloc (.cells #[.int .i64 m0, .int .i64 m1, .int .i64 m2, .int .i64 m3] 141)).alloc (.cells #[.int .i64 bt, .int .i64 br, .int .i64 bb, .int .i64 bl] 141)).alloc (.cells #[.int .i64 p0, .int .i64 p1, .int .i64 p2, .int .i64 p3] 141)).cell? ⟨w.heap.size, 6, none⟩ = some (.int .i64 ch) := hF.cell 6; have cb0 : (((w1.alloc (.cells #[.int .i64 m0, .int .i64 m1, .int .i64 m2, .int .i64 m3] 141)).alloc (.cells #[.int .i64 bt, .int .i64 br, .int .i64 bb, .int .i64 bl] 141)).alloc (.cells #[.int .i64 p0, .int .i64 p1, .int .i64 p2, .int .i64 p3] 141)).cell? ⟨w1.heap.size + 1, 0, none⟩ = some (.int .i64 bt) := hB.cell 0; have cb2 : (((w1.alloc (.cells #[.int .i64 m0, .int .i64 m1, .int .i64 m2, .int .i64 m3] 141)).alloc (.cells #[.int .i64 bt, .int .i64 br, .int .i64 bb, .int .i64 bl] 141)).alloc (.cells #[.int .i64 p0, .int .i64 p1, .int .i64 p2, .int .i64 p3] 141)).cell? ⟨w1.heap.size + 1, 2, none⟩ = some (.int .i64 bb) := hB.cell 2))
  have HH := Lib.hid (Holds.of_blk hL)
  go_wp2_with (first | (go_at_call 85; refine (fills_calls _ _ _ _ [fillC node x y cw ch c36] _ rfl HH.out (by simp) (Nat.le_refl _)).mono ?_; rintro e w5 ⟨v5, rfl, hown5, hb5⟩))
  go_ret
  exact ⟨_, rfl, own_base hown5 hbel.size, below_then hbel hb5⟩
set_option maxRecDepth 100000 in
set_option maxHeartbeats 4000000 in
theorem frag_box (zs : List Int) (kind : Int) (f : FragV) (w : World) (hz : zs.length = 118) (hok : FragOk f) (hv : ¬ stN zs 33 = 1) (h4 : ¬ kind = 4) (h8 : ¬ kind = 8) :
    Calls Tryz.prog 51 #[.agg (fragC f), .int .i64 kind, .agg (sty zs)] w fun e w' => ∃ v, e = .returned v ∧ w'.ownsRow w.heap.size 64 9 v ([bgC f zs, topC f zs, rightC f zs, botC f zs, leftC f zs].filter seen).length (cmds ([bgC f zs, topC f zs, rightC f zs, botC f zs, leftC f zs].filter seen)) ∧ Below w.heap.size w w' := by
  have HSZ : Hid ((Tryz.prog.info? 35).map (·.size) = some (sty zs).size) := by show _ = _; rw [sty_size, hz]; kernel_rfl
  have hF := (Blk.new w 88 (fragC f)).alloc (.cells (sty zs) 35)
  have hS := Blk.new (w.alloc (.cells (fragC f) 88)) 35 (sty zs)
  simp only [alloc_size] at hS
  have hbel := below_alloc (below_alloc (Below.refl _ w) (.cells (fragC f) 88)) (.cells (sty zs) 35)
  obtain ⟨box, node, par, x, y, cw, ch, text⟩ := f
  obtain ⟨ox0, ox1, oy0, oy1, ow0, ow1, oh0, oh1⟩ := hok
  simp only at ox0 ox1 oy0 oy1 ow0 ow1 oh0 oh1
  have c67 : ((w.alloc (.cells (fragC ⟨box, node, par, x, y, cw, ch, text⟩) 88)).alloc (.cells (sty zs) 35)).cell? ⟨w.heap.size + 1, 67, none⟩ = some (.int .i64 (stN zs 33)) := (hS.cell _).trans (sty_at zs _ (by omega))
  have e33 : (stN zs 33 == 1) = false := by simpa using hv
  obtain ⟨vv, hvv⟩ : ∃ v, v = stN zs 33 := ⟨_, rfl⟩
  rw [← hvv] at c67 e33
  clear hvv hv
  have HFI := fun (p : Nat) (pI : Int) (hpI : (p : Int) = pI) (hp : p < 59) (x' y' cw' ch' : Int) (gf gs : Nat) (w' : World) hF hS => fill_at zs p pI hpI x' y' cw' ch' ⟨box, node, par, x, y, cw, ch, text⟩ gf gs w' hz hp hF hS
  have H36 := Lib.hid (HFI 36 36 rfl (by decide))
  have H23 := Lib.hid (HFI 23 23 rfl (by decide))
  have H24 := Lib.hid (HFI 24 24 rfl (by decide))
  have H25 := Lib.hid (HFI 25 25 rfl (by decide))
  have H26 := Lib.hid (HFI 26 26 rfl (by decide))
  clear HFI
  have hfr : ∃ m0 m1 m2 m3 p0 p1 p2 p3 : Int, four false zs 11 0 = #[.int .i64 m0, .int .i64 m1, .int .i64 m2, .int .i64 m3] ∧ four true zs 15 0 = #[.int .i64 p0, .int .i64 p1, .int .i64 p2, .int .i64 p3] := ⟨_, _, _, _, _, _, _, _, rfl, rfl⟩
  obtain ⟨m0, m1, m2, m3, p0, p1, p2, p3, hfm, hfp⟩ := hfr
  have hfb : four true zs 19 0 = #[.int .i64 (bor zs 19), .int .i64 (bor zs 20), .int .i64 (bor zs 21), .int .i64 (bor zs 22)] := rfl
  have HFR := Lib.hid (fun w => by have h := frame_calls zs 0 w hz; rw [hfm, hfb, hfp] at h; exact h)
  have bt0 := bor_bd zs 19
  have br0 := bor_bd zs 20
  have bb0 := bor_bd zs 21
  have bl0 := bor_bd zs 22
  have HLL : Hid ([bgC ⟨box, node, par, x, y, cw, ch, text⟩ zs, topC ⟨box, node, par, x, y, cw, ch, text⟩ zs, rightC ⟨box, node, par, x, y, cw, ch, text⟩ zs, botC ⟨box, node, par, x, y, cw, ch, text⟩ zs, leftC ⟨box, node, par, x, y, cw, ch, text⟩ zs] = [fillC node x y cw ch (stN zs 36), fillC node x y cw (bor zs 19) (stN zs 23), fillC node (x + cw - bor zs 20) (y + bor zs 19) (bor zs 20) (ch - bor zs 19 - bor zs 21) (stN zs 24), fillC node x (y + ch - bor zs 21) cw (bor zs 21) (stN zs 25), fillC node x (y + bor zs 19) (bor zs 22) (ch - bor zs 19 - bor zs 21) (stN zs 26)]) := rfl
  obtain ⟨bt, hbt⟩ : ∃ a, a = bor zs 19 := ⟨_, rfl⟩
  obtain ⟨br, hbr⟩ : ∃ a, a = bor zs 20 := ⟨_, rfl⟩
  obtain ⟨bb, hbb⟩ : ∃ a, a = bor zs 21 := ⟨_, rfl⟩
  obtain ⟨bl, hbl⟩ : ∃ a, a = bor zs 22 := ⟨_, rfl⟩
  obtain ⟨c36, h36⟩ : ∃ a, a = stN zs 36 := ⟨_, rfl⟩
  obtain ⟨c23, h23⟩ : ∃ a, a = stN zs 23 := ⟨_, rfl⟩
  obtain ⟨c24, h24⟩ : ∃ a, a = stN zs 24 := ⟨_, rfl⟩
  obtain ⟨c25, h25⟩ : ∃ a, a = stN zs 25 := ⟨_, rfl⟩
  obtain ⟨c26, h26⟩ : ∃ a, a = stN zs 26 := ⟨_, rfl⟩
  rw [← hbt, ← hbr, ← hbb, ← hbl] at HFR
  rw [← hbt] at bt0
  rw [← hbr] at br0
  rw [← hbb] at bb0
  rw [← hbl] at bl0
  rw [← h36] at H36
  rw [← h23] at H23
  rw [← h24] at H24
  rw [← h25] at H25
  rw [← h26] at H26
  rw [← h36, ← h23, ← h24, ← h25, ← h26, ← hbt, ← hbr, ← hbb, ← hbl] at HLL
  rw [HLL.out]
  obtain ⟨bt0, bt1⟩ := bt0
  obtain ⟨br0, br1⟩ := br0
  obtain ⟨bb0, bb1⟩ := bb0
  obtain ⟨bl0, bl1⟩ := bl0
  clear hfm hfp hfb hbt hbr hbb hbl h36 h23 h24 h25 h26 HLL
  unfold fragC at *
  obtain ⟨i0, hi, hz0, hz1, hz2⟩ := info_parts info_cmd
  have e4 : (kind == 4) = false := by simpa using h4
  have e8 : (kind != 8) = true := by simpa using h8
  have s1 : IntKind.i64.wrap (x + cw) = x + cw := IntWalk.i64_in _ (by omega)
  have s2 : IntKind.i64.wrap (x + cw - br) = x + cw - br := IntWalk.i64_in _ (by omega)
  have s3 : IntKind.i64.wrap (y + bt) = y + bt := IntWalk.i64_in _ (by omega)
  have s4 : IntKind.i64.wrap (y + ch) = y + ch := IntWalk.i64_in _ (by omega)
  have s5 : IntKind.i64.wrap (y + ch - bb) = y + ch - bb := IntWalk.i64_in _ (by omega)
  have S15 := Lib.hid (show _ ∧ _ ∧ _ ∧ _ ∧ _ from ⟨s1, s2, s3, s4, s5⟩)
  clear s1 s2 s3 s4 s5 h4 h8
  go_enter Tryz.func51, Tryz.ntmps51
  go_upto_region 14 with (first | (refine wpList_load_row rfl 35 _ rfl (w.heap.size + 1) rfl 35 (sty zs) (0, 0) _ (by repeat (first | exact hS | refine Blk.alloc ?_ _)) Tryz.underlying35 rfl HSZ.out ?_) | (go_at_call 84; refine (H36.out _ _ _ _ _ _ _ hF hS).mono ?_; rintro e wA ⟨rfl, hbA⟩; have hL := Blk.new wA 64 #[.int .i64 1, .int .i64 node, .int .i64 x, .int .i64 y, .int .i64 cw, .int .i64 ch, .int .i64 c36, .int .i64 0, .string ⟨#[]⟩]; have hF := (hF.below hbA hF.lt).alloc (.cells #[.int .i64 1, .int .i64 node, .int .i64 x, .int .i64 y, .int .i64 cw, .int .i64 ch, .int .i64 c36, .int .i64 0, .string ⟨#[]⟩] 64); have hS := (hS.below hbA hS.lt).alloc (.cells #[.int .i64 1, .int .i64 node, .int .i64 x, .int .i64 y, .int .i64 cw, .int .i64 ch, .int .i64 c36, .int .i64 0, .string ⟨#[]⟩] 64); have hbel := below_alloc (below_then hbel hbA) (.cells #[.int .i64 1, .int .i64 node, .int .i64 x, .int .i64 y, .int .i64 cw, .int .i64 ch, .int .i64 c36, .int .i64 0, .string ⟨#[]⟩] 64); have hAsz := hbA.size; simp only [alloc_size] at hAsz) | (go_at_call 79; refine (HFR.out _).mono ?_; rintro e w1 ⟨rfl, hb1⟩; have h1sz := hb1.size; simp only [alloc_size] at h1sz; have hL := (((hL.below hb1 hL.lt).alloc (.cells #[.int .i64 m0, .int .i64 m1, .int .i64 m2, .int .i64 m3] 141)).alloc (.cells #[.int .i64 bt, .int .i64 br, .int .i64 bb, .int .i64 bl] 141)).alloc (.cells #[.int .i64 p0, .int .i64 p1, .int .i64 p2, .int .i64 p3] 141); have hF := (((hF.below hb1 hF.lt).alloc (.cells #[.int .i64 m0, .int .i64 m1, .int .i64 m2, .int .i64 m3] 141)).alloc (.cells #[.int .i64 bt, .int .i64 br, .int .i64 bb, .int .i64 bl] 141)).alloc (.cells #[.int .i64 p0, .int .i64 p1, .int .i64 p2, .int .i64 p3] 141); have hS := (((hS.below hb1 hS.lt).alloc (.cells #[.int .i64 m0, .int .i64 m1, .int .i64 m2, .int .i64 m3] 141)).alloc (.cells #[.int .i64 bt, .int .i64 br, .int .i64 bb, .int .i64 bl] 141)).alloc (.cells #[.int .i64 p0, .int .i64 p1, .int .i64 p2, .int .i64 p3] 141); have hB := (Blk.new (w1.alloc (.cells #[.int .i64 m0, .int .i64 m1, .int .i64 m2, .int .i64 m3] 141)) 141 #[.int .i64 bt, .int .i64 br, .int .i64 bb, .int .i64 bl]).alloc (.cells #[.int .i64 p0, .int .i64 p1, .int .i64 p2, .int .i64 p3] 141); simp only [alloc_size] at hB; have hbel := below_alloc (below_alloc (below_alloc (below_then hbel hb1) (.cells #[.int .i64 m0, .int .i64 m1, .int .i64 m2, .int .i64 m3] 141)) (.cells #[.int .i64 bt, .int .i64 br, .int .i64 bb, .int .i64 bl] 141)) (.cells #[.int .i64 p0, .int .i64 p1, .int .i64 p2, .int .i64 p3] 141); have c6 : (((w1.alloc (.cells #[.int .i64 m0, .int .i64 m1, .int .i64 m2, .int .i64 m3] 141)).alloc (.cells #[.int .i64 bt, .int .i64 br, .int .i64 bb, .int .i64 bl] 141)).alloc (.cells #[.int .i64 p0, .int .i64 p1, .int .i64 p2, .int .i64 p3] 141)).cell? ⟨w.heap.size, 6, none⟩ = some (.int .i64 ch) := hF.cell 6; have cb0 : (((w1.alloc (.cells #[.int .i64 m0, .int .i64 m1, .int .i64 m2, .int .i64 m3] 141)).alloc (.cells #[.int .i64 bt, .int .i64 br, .int .i64 bb, .int .i64 bl] 141)).alloc (.cells #[.int .i64 p0, .int .i64 p1, .int .i64 p2, .int .i64 p3] 141)).cell? ⟨w1.heap.size + 1, 0, none⟩ = some (.int .i64 bt) := hB.cell 0; have cb2 : (((w1.alloc (.cells #[.int .i64 m0, .int .i64 m1, .int .i64 m2, .int .i64 m3] 141)).alloc (.cells #[.int .i64 bt, .int .i64 br, .int .i64 bb, .int .i64 bl] 141)).alloc (.cells #[.int .i64 p0, .int .i64 p1, .int .i64 p2, .int .i64 p3] 141)).cell? ⟨w1.heap.size + 1, 2, none⟩ = some (.int .i64 bb) := hB.cell 2))
  obtain ⟨s1, s2, s3, s4, s5⟩ := S15.out
  clear c6 cb0 cb2
  generalize hW3 : World.alloc (World.alloc (World.alloc w1 _) _) _ = w3 at hF hS hL hB hbel ⊢
  clear hW3
  have hF := hF.drew
  have hS := hS.drew
  have hL := hL.drew
  have hB := hB.drew
  have hbel := hbel.drew
  refine wp_region_noPanic ?_
  refine wp_region_held_drew (S := fun w' => w'.cell? ⟨w.heap.size, 3, none⟩ = some (.int .i64 x) ∧ w'.cell? ⟨w.heap.size, 4, none⟩ = some (.int .i64 y) ∧ w'.cell? ⟨w.heap.size, 5, none⟩ = some (.int .i64 cw) ∧ w'.cell? ⟨w.heap.size, 6, none⟩ = some (.int .i64 ch) ∧ w'.cell? ⟨w1.heap.size + 1, 0, none⟩ = some (.int .i64 bt) ∧ w'.cell? ⟨w1.heap.size + 1, 1, none⟩ = some (.int .i64 br) ∧ w'.cell? ⟨w1.heap.size + 1, 2, none⟩ = some (.int .i64 bb) ∧ w'.cell? ⟨w1.heap.size + 1, 3, none⟩ = some (.int .i64 bl)) (by kernel_rfl) (⟨hF.cell 3, hF.cell 4, hF.cell 5, hF.cell 6, hB.cell 0, hB.cell 1, hB.cell 2, hB.cell 3⟩) (fun hHeld => ?_)
  refine wpAnyH_take (i := 0) (oi := { dst := some 83, op := _, type := _, pos := _, after := _, guard := _ }) (v := ?_) rfl (by kernel_rfl) (by kernel_rfl) (by kernel_rfl) (fun _ _ _ h => h) (Or.inl ⟨by kernel_rfl, ?_⟩) (by assumption) ?_
  rotate_left 1
  · (intro w hSw; (try dsimp only at hSw); go_simp; try with_reducible rfl)
  try simp only [Act.put, Array.toArray_toList, List.setIfInBounds_toArray, List.set_cons_zero, List.set_cons_succ]
  refine wpAnyH_take (i := 1) (oi := { dst := some 84, op := _, type := _, pos := _, after := _, guard := _ }) (v := ?_) rfl (by kernel_rfl) (by kernel_rfl) (by kernel_rfl) (fun _ _ _ h => h) (Or.inl ⟨by kernel_rfl, ?_⟩) (by assumption) ?_
  rotate_left 1
  · (intro w hSw; (try dsimp only at hSw); go_simp; try with_reducible rfl)
  try simp only [Act.put, Array.toArray_toList, List.setIfInBounds_toArray, List.set_cons_zero, List.set_cons_succ]
  refine wpAnyH_take (i := 2) (oi := { dst := some 85, op := _, type := _, pos := _, after := _, guard := _ }) (v := ?_) rfl (by kernel_rfl) (by kernel_rfl) (by kernel_rfl) (fun _ _ _ h => h) (Or.inl ⟨by kernel_rfl, ?_⟩) (by assumption) ?_
  rotate_left 1
  · (intro w hSw; (try dsimp only at hSw); go_simp; try with_reducible rfl)
  try simp only [Act.put, Array.toArray_toList, List.setIfInBounds_toArray, List.set_cons_zero, List.set_cons_succ]
  refine wpAnyH_take (i := 3) (oi := { dst := some 86, op := _, type := _, pos := _, after := _, guard := _ }) (v := ?_) rfl (by kernel_rfl) (by kernel_rfl) (by kernel_rfl) (fun _ _ _ h => h) (Or.inl ⟨by kernel_rfl, ?_⟩) (by assumption) ?_
  rotate_left 1
  · (intro w hSw; (try dsimp only at hSw); go_simp; try with_reducible rfl)
  try simp only [Act.put, Array.toArray_toList, List.setIfInBounds_toArray, List.set_cons_zero, List.set_cons_succ]
  refine wpAnyH_take (i := 4) (oi := { dst := some 87, op := _, type := _, pos := _, after := _, guard := _ }) (v := ?_) rfl (by kernel_rfl) (by kernel_rfl) (by kernel_rfl) (fun _ _ _ h => h) (Or.inl ⟨by kernel_rfl, ?_⟩) (by assumption) ?_
  rotate_left 1
  · (intro w hSw; (try dsimp only at hSw); go_simp; try with_reducible rfl)
  try simp only [Act.put, Array.toArray_toList, List.setIfInBounds_toArray, List.set_cons_zero, List.set_cons_succ]
  refine wpAnyH_take (i := 5) (oi := { dst := some 88, op := _, type := _, pos := _, after := _, guard := _ }) (v := ?_) rfl (by kernel_rfl) (by kernel_rfl) (by kernel_rfl) (fun _ _ _ h => h) (Or.inl ⟨by kernel_rfl, ?_⟩) (by assumption) ?_
  rotate_left 1
  · (intro w hSw; (try dsimp only at hSw); go_simp; try with_reducible rfl)
  try simp only [Act.put, Array.toArray_toList, List.setIfInBounds_toArray, List.set_cons_zero, List.set_cons_succ]
  refine wpAnyH_take (i := 6) (oi := { dst := some 89, op := _, type := _, pos := _, after := _, guard := _ }) (v := ?_) rfl (by kernel_rfl) (by kernel_rfl) (by kernel_rfl) (fun _ _ _ h => h) (Or.inl ⟨by kernel_rfl, ?_⟩) (by assumption) ?_
  rotate_left 1
  · (intro w hSw; (try dsimp only at hSw); go_simp; try with_reducible rfl)
  try simp only [Act.put, Array.toArray_toList, List.setIfInBounds_toArray, List.set_cons_zero, List.set_cons_succ]
  refine wpAnyH_take (i := 7) (oi := { dst := some 90, op := _, type := _, pos := _, after := _, guard := _ }) (v := ?_) rfl (by kernel_rfl) (by kernel_rfl) (by kernel_rfl) (fun _ _ _ h => h) (Or.inl ⟨by kernel_rfl, ?_⟩) (by assumption) ?_
  rotate_left 1
  · (intro w hSw; (try dsimp only at hSw); go_simp; try with_reducible rfl)
  try simp only [Act.put, Array.toArray_toList, List.setIfInBounds_toArray, List.set_cons_zero, List.set_cons_succ]
  refine wpAnyH_take (i := 8) (oi := { dst := some 91, op := _, type := _, pos := _, after := _, guard := _ }) (v := ?_) rfl (by kernel_rfl) (by kernel_rfl) (by kernel_rfl) (fun _ _ _ h => h) (Or.inl ⟨by kernel_rfl, ?_⟩) (by assumption) ?_
  rotate_left 1
  · (intro w hSw; (try dsimp only at hSw); go_simp; try with_reducible rfl)
  try simp only [Act.put, Array.toArray_toList, List.setIfInBounds_toArray, List.set_cons_zero, List.set_cons_succ]
  refine wpAnyH_take (i := 9) (oi := { dst := some 92, op := _, type := _, pos := _, after := _, guard := _ }) (v := ?_) rfl (by kernel_rfl) (by kernel_rfl) (by kernel_rfl) (fun _ _ _ h => h) (Or.inl ⟨by kernel_rfl, ?_⟩) (by assumption) ?_
  rotate_left 1
  · (intro w hSw; (try dsimp only at hSw); go_simp; try with_reducible rfl)
  try simp only [Act.put, Array.toArray_toList, List.setIfInBounds_toArray, List.set_cons_zero, List.set_cons_succ]
  refine wpAnyH_take (i := 11) (oi := { dst := some 94, op := _, type := _, pos := _, after := _, guard := _ }) (v := ?_) rfl (by kernel_rfl) (by kernel_rfl) (by kernel_rfl) (fun _ _ _ h => h) (Or.inl ⟨by kernel_rfl, ?_⟩) (by assumption) ?_
  rotate_left 1
  · (intro w hSw; (try dsimp only at hSw); go_simp; try with_reducible rfl)
  try simp only [Act.put, Array.toArray_toList, List.setIfInBounds_toArray, List.set_cons_zero, List.set_cons_succ]
  refine wpAnyH_take (i := 12) (oi := { dst := some 95, op := _, type := _, pos := _, after := _, guard := _ }) (v := ?_) rfl (by kernel_rfl) (by kernel_rfl) (by kernel_rfl) (fun _ _ _ h => h) (Or.inl ⟨by kernel_rfl, ?_⟩) (by assumption) ?_
  rotate_left 1
  · (intro w hSw; (try dsimp only at hSw); go_simp; try with_reducible rfl)
  try simp only [Act.put, Array.toArray_toList, List.setIfInBounds_toArray, List.set_cons_zero, List.set_cons_succ]
  refine wpAnyH_take (i := 13) (oi := { dst := some 96, op := _, type := _, pos := _, after := _, guard := _ }) (v := ?_) rfl (by kernel_rfl) (by kernel_rfl) (by kernel_rfl) (fun _ _ _ h => h) (Or.inl ⟨by kernel_rfl, ?_⟩) (by assumption) ?_
  rotate_left 1
  · (intro w hSw; (try dsimp only at hSw); go_simp; try with_reducible rfl)
  try simp only [Act.put, Array.toArray_toList, List.setIfInBounds_toArray, List.set_cons_zero, List.set_cons_succ]
  refine wpAnyH_take (i := 14) (oi := { dst := some 97, op := _, type := _, pos := _, after := _, guard := _ }) (v := ?_) rfl (by kernel_rfl) (by kernel_rfl) (by kernel_rfl) (fun _ _ _ h => h) (Or.inl ⟨by kernel_rfl, ?_⟩) (by assumption) ?_
  rotate_left 1
  · (intro w hSw; (try dsimp only at hSw); go_simp; try with_reducible rfl)
  try simp only [Act.put, Array.toArray_toList, List.setIfInBounds_toArray, List.set_cons_zero, List.set_cons_succ]
  refine wpAnyH_take (i := 15) (oi := { dst := some 98, op := _, type := _, pos := _, after := _, guard := _ }) (v := ?_) rfl (by kernel_rfl) (by kernel_rfl) (by kernel_rfl) (fun _ _ _ h => h) (Or.inl ⟨by kernel_rfl, ?_⟩) (by assumption) ?_
  rotate_left 1
  · (intro w hSw; (try dsimp only at hSw); go_simp; try with_reducible rfl)
  try simp only [Act.put, Array.toArray_toList, List.setIfInBounds_toArray, List.set_cons_zero, List.set_cons_succ]
  refine wpAnyH_take (i := 16) (oi := { dst := some 99, op := _, type := _, pos := _, after := _, guard := _ }) (v := ?_) rfl (by kernel_rfl) (by kernel_rfl) (by kernel_rfl) (fun _ _ _ h => h) (Or.inl ⟨by kernel_rfl, ?_⟩) (by assumption) ?_
  rotate_left 1
  · (intro w hSw; (try dsimp only at hSw); go_simp; try with_reducible rfl)
  try simp only [Act.put, Array.toArray_toList, List.setIfInBounds_toArray, List.set_cons_zero, List.set_cons_succ]
  refine wpAnyH_take (i := 17) (oi := { dst := some 100, op := _, type := _, pos := _, after := _, guard := _ }) (v := ?_) rfl (by kernel_rfl) (by kernel_rfl) (by kernel_rfl) (fun _ _ _ h => h) (Or.inl ⟨by kernel_rfl, ?_⟩) (by assumption) ?_
  rotate_left 1
  · (intro w hSw; (try dsimp only at hSw); go_simp; try with_reducible rfl)
  try simp only [Act.put, Array.toArray_toList, List.setIfInBounds_toArray, List.set_cons_zero, List.set_cons_succ]
  refine wpAnyH_take (i := 18) (oi := { dst := some 101, op := _, type := _, pos := _, after := _, guard := _ }) (v := ?_) rfl (by kernel_rfl) (by kernel_rfl) (by kernel_rfl) (fun _ _ _ h => h) (Or.inl ⟨by kernel_rfl, ?_⟩) (by assumption) ?_
  rotate_left 1
  · (intro w hSw; (try dsimp only at hSw); go_simp; try with_reducible rfl)
  try simp only [Act.put, Array.toArray_toList, List.setIfInBounds_toArray, List.set_cons_zero, List.set_cons_succ]
  refine wpAnyH_take (i := 19) (oi := { dst := some 102, op := _, type := _, pos := _, after := _, guard := _ }) (v := ?_) rfl (by kernel_rfl) (by kernel_rfl) (by kernel_rfl) (fun _ _ _ h => h) (Or.inl ⟨by kernel_rfl, ?_⟩) (by assumption) ?_
  rotate_left 1
  · (intro w hSw; (try dsimp only at hSw); go_simp; try with_reducible rfl)
  try simp only [Act.put, Array.toArray_toList, List.setIfInBounds_toArray, List.set_cons_zero, List.set_cons_succ]
  refine wpAnyH_take (i := 20) (oi := { dst := some 103, op := _, type := _, pos := _, after := _, guard := _ }) (v := ?_) rfl (by kernel_rfl) (by kernel_rfl) (by kernel_rfl) (fun _ _ _ h => h) (Or.inl ⟨by kernel_rfl, ?_⟩) (by assumption) ?_
  rotate_left 1
  · (intro w hSw; (try dsimp only at hSw); go_simp; try with_reducible rfl)
  try simp only [Act.put, Array.toArray_toList, List.setIfInBounds_toArray, List.set_cons_zero, List.set_cons_succ]
  refine wpAnyH_take (i := 21) (oi := { dst := some 104, op := _, type := _, pos := _, after := _, guard := _ }) (v := ?_) rfl (by kernel_rfl) (by kernel_rfl) (by kernel_rfl) (fun _ _ _ h => h) (Or.inl ⟨by kernel_rfl, ?_⟩) (by assumption) ?_
  rotate_left 1
  · (intro w hSw; (try dsimp only at hSw); go_simp; try with_reducible rfl)
  try simp only [Act.put, Array.toArray_toList, List.setIfInBounds_toArray, List.set_cons_zero, List.set_cons_succ]
  refine wpAnyH_take (i := 22) (oi := { dst := some 105, op := _, type := _, pos := _, after := _, guard := _ }) (v := ?_) rfl (by kernel_rfl) (by kernel_rfl) (by kernel_rfl) (fun _ _ _ h => h) (Or.inl ⟨by kernel_rfl, ?_⟩) (by assumption) ?_
  rotate_left 1
  · (intro w hSw; (try dsimp only at hSw); go_simp; try with_reducible rfl)
  try simp only [Act.put, Array.toArray_toList, List.setIfInBounds_toArray, List.set_cons_zero, List.set_cons_succ]
  refine wpAnyH_take (i := 23) (oi := { dst := some 106, op := _, type := _, pos := _, after := _, guard := _ }) (v := ?_) rfl (by kernel_rfl) (by kernel_rfl) (by kernel_rfl) (fun _ _ _ h => h) (Or.inl ⟨by kernel_rfl, ?_⟩) (by assumption) ?_
  rotate_left 1
  · (intro w hSw; (try dsimp only at hSw); go_simp; try with_reducible rfl)
  try simp only [Act.put, Array.toArray_toList, List.setIfInBounds_toArray, List.set_cons_zero, List.set_cons_succ]
  refine wpAnyH_take (i := 24) (oi := { dst := some 107, op := _, type := _, pos := _, after := _, guard := _ }) (v := ?_) rfl (by kernel_rfl) (by kernel_rfl) (by kernel_rfl) (fun _ _ _ h => h) (Or.inl ⟨by kernel_rfl, ?_⟩) (by assumption) ?_
  rotate_left 1
  · (intro w hSw; (try dsimp only at hSw); go_simp; try with_reducible rfl)
  try simp only [Act.put, Array.toArray_toList, List.setIfInBounds_toArray, List.set_cons_zero, List.set_cons_succ]
  refine wpAnyH_take (i := 25) (oi := { dst := some 108, op := _, type := _, pos := _, after := _, guard := _ }) (v := ?_) rfl (by kernel_rfl) (by kernel_rfl) (by kernel_rfl) (fun _ _ _ h => h) (Or.inl ⟨by kernel_rfl, ?_⟩) (by assumption) ?_
  rotate_left 1
  · (intro w hSw; (try dsimp only at hSw); go_simp; try with_reducible rfl)
  try simp only [Act.put, Array.toArray_toList, List.setIfInBounds_toArray, List.set_cons_zero, List.set_cons_succ]
  refine wpAnyH_take (i := 26) (oi := { dst := some 109, op := _, type := _, pos := _, after := _, guard := _ }) (v := ?_) rfl (by kernel_rfl) (by kernel_rfl) (by kernel_rfl) (fun _ _ _ h => h) (Or.inl ⟨by kernel_rfl, ?_⟩) (by assumption) ?_
  rotate_left 1
  · (intro w hSw; (try dsimp only at hSw); go_simp; try with_reducible rfl)
  try simp only [Act.put, Array.toArray_toList, List.setIfInBounds_toArray, List.set_cons_zero, List.set_cons_succ]
  refine wpAnyH_take (i := 27) (oi := { dst := some 110, op := _, type := _, pos := _, after := _, guard := _ }) (v := ?_) rfl (by kernel_rfl) (by kernel_rfl) (by kernel_rfl) (fun _ _ _ h => h) (Or.inl ⟨by kernel_rfl, ?_⟩) (by assumption) ?_
  rotate_left 1
  · (intro w hSw; (try dsimp only at hSw); go_simp; try with_reducible rfl)
  try simp only [Act.put, Array.toArray_toList, List.setIfInBounds_toArray, List.set_cons_zero, List.set_cons_succ]
  refine wpAnyH_take (i := 29) (oi := { dst := some 112, op := _, type := _, pos := _, after := _, guard := _ }) (v := ?_) rfl (by kernel_rfl) (by kernel_rfl) (by kernel_rfl) (fun _ _ _ h => h) (Or.inl ⟨by kernel_rfl, ?_⟩) (by assumption) ?_
  rotate_left 1
  · (intro w hSw; (try dsimp only at hSw); go_simp; try with_reducible rfl)
  try simp only [Act.put, Array.toArray_toList, List.setIfInBounds_toArray, List.set_cons_zero, List.set_cons_succ]
  refine wpAnyH_take (i := 30) (oi := { dst := some 113, op := _, type := _, pos := _, after := _, guard := _ }) (v := ?_) rfl (by kernel_rfl) (by kernel_rfl) (by kernel_rfl) (fun _ _ _ h => h) (Or.inl ⟨by kernel_rfl, ?_⟩) (by assumption) ?_
  rotate_left 1
  · (intro w hSw; (try dsimp only at hSw); go_simp; try with_reducible rfl)
  try simp only [Act.put, Array.toArray_toList, List.setIfInBounds_toArray, List.set_cons_zero, List.set_cons_succ]
  refine wpAnyH_take (i := 31) (oi := { dst := some 114, op := _, type := _, pos := _, after := _, guard := _ }) (v := ?_) rfl (by kernel_rfl) (by kernel_rfl) (by kernel_rfl) (fun _ _ _ h => h) (Or.inl ⟨by kernel_rfl, ?_⟩) (by assumption) ?_
  rotate_left 1
  · (intro w hSw; (try dsimp only at hSw); go_simp; try with_reducible rfl)
  try simp only [Act.put, Array.toArray_toList, List.setIfInBounds_toArray, List.set_cons_zero, List.set_cons_succ]
  refine wpAnyH_take (i := 32) (oi := { dst := some 115, op := _, type := _, pos := _, after := _, guard := _ }) (v := ?_) rfl (by kernel_rfl) (by kernel_rfl) (by kernel_rfl) (fun _ _ _ h => h) (Or.inl ⟨by kernel_rfl, ?_⟩) (by assumption) ?_
  rotate_left 1
  · (intro w hSw; (try dsimp only at hSw); go_simp; try with_reducible rfl)
  try simp only [Act.put, Array.toArray_toList, List.setIfInBounds_toArray, List.set_cons_zero, List.set_cons_succ]
  refine wpAnyH_take (i := 33) (oi := { dst := some 116, op := _, type := _, pos := _, after := _, guard := _ }) (v := ?_) rfl (by kernel_rfl) (by kernel_rfl) (by kernel_rfl) (fun _ _ _ h => h) (Or.inl ⟨by kernel_rfl, ?_⟩) (by assumption) ?_
  rotate_left 1
  · (intro w hSw; (try dsimp only at hSw); go_simp; try with_reducible rfl)
  try simp only [Act.put, Array.toArray_toList, List.setIfInBounds_toArray, List.set_cons_zero, List.set_cons_succ]
  refine wpAnyH_take (i := 34) (oi := { dst := some 117, op := _, type := _, pos := _, after := _, guard := _ }) (v := ?_) rfl (by kernel_rfl) (by kernel_rfl) (by kernel_rfl) (fun _ _ _ h => h) (Or.inl ⟨by kernel_rfl, ?_⟩) (by assumption) ?_
  rotate_left 1
  · (intro w hSw; (try dsimp only at hSw); go_simp; try with_reducible rfl)
  try simp only [Act.put, Array.toArray_toList, List.setIfInBounds_toArray, List.set_cons_zero, List.set_cons_succ]
  refine wpAnyH_take (i := 35) (oi := { dst := some 118, op := _, type := _, pos := _, after := _, guard := _ }) (v := ?_) rfl (by kernel_rfl) (by kernel_rfl) (by kernel_rfl) (fun _ _ _ h => h) (Or.inl ⟨by kernel_rfl, ?_⟩) (by assumption) ?_
  rotate_left 1
  · (intro w hSw; (try dsimp only at hSw); go_simp; try with_reducible rfl)
  try simp only [Act.put, Array.toArray_toList, List.setIfInBounds_toArray, List.set_cons_zero, List.set_cons_succ]
  refine wpAnyH_take (i := 36) (oi := { dst := some 119, op := _, type := _, pos := _, after := _, guard := _ }) (v := ?_) rfl (by kernel_rfl) (by kernel_rfl) (by kernel_rfl) (fun _ _ _ h => h) (Or.inl ⟨by kernel_rfl, ?_⟩) (by assumption) ?_
  rotate_left 1
  · (intro w hSw; (try dsimp only at hSw); go_simp; try with_reducible rfl)
  try simp only [Act.put, Array.toArray_toList, List.setIfInBounds_toArray, List.set_cons_zero, List.set_cons_succ]
  refine wpAnyH_take (i := 37) (oi := { dst := some 120, op := _, type := _, pos := _, after := _, guard := _ }) (v := ?_) rfl (by kernel_rfl) (by kernel_rfl) (by kernel_rfl) (fun _ _ _ h => h) (Or.inl ⟨by kernel_rfl, ?_⟩) (by assumption) ?_
  rotate_left 1
  · (intro w hSw; (try dsimp only at hSw); go_simp; try with_reducible rfl)
  try simp only [Act.put, Array.toArray_toList, List.setIfInBounds_toArray, List.set_cons_zero, List.set_cons_succ]
  refine wpAnyH_take (i := 38) (oi := { dst := some 121, op := _, type := _, pos := _, after := _, guard := _ }) (v := ?_) rfl (by kernel_rfl) (by kernel_rfl) (by kernel_rfl) (fun _ _ _ h => h) (Or.inl ⟨by kernel_rfl, ?_⟩) (by assumption) ?_
  rotate_left 1
  · (intro w hSw; (try dsimp only at hSw); go_simp; try with_reducible rfl)
  try simp only [Act.put, Array.toArray_toList, List.setIfInBounds_toArray, List.set_cons_zero, List.set_cons_succ]
  refine wpAnyH_take (i := 39) (oi := { dst := some 122, op := _, type := _, pos := _, after := _, guard := _ }) (v := ?_) rfl (by kernel_rfl) (by kernel_rfl) (by kernel_rfl) (fun _ _ _ h => h) (Or.inl ⟨by kernel_rfl, ?_⟩) (by assumption) ?_
  rotate_left 1
  · (intro w hSw; (try dsimp only at hSw); go_simp; try with_reducible rfl)
  try simp only [Act.put, Array.toArray_toList, List.setIfInBounds_toArray, List.set_cons_zero, List.set_cons_succ]
  refine wpAnyH_take (i := 40) (oi := { dst := some 123, op := _, type := _, pos := _, after := _, guard := _ }) (v := ?_) rfl (by kernel_rfl) (by kernel_rfl) (by kernel_rfl) (fun _ _ _ h => h) (Or.inl ⟨by kernel_rfl, ?_⟩) (by assumption) ?_
  rotate_left 1
  · (intro w hSw; (try dsimp only at hSw); go_simp; try with_reducible rfl)
  try simp only [Act.put, Array.toArray_toList, List.setIfInBounds_toArray, List.set_cons_zero, List.set_cons_succ]
  refine wpAnyH_take (i := 41) (oi := { dst := some 124, op := _, type := _, pos := _, after := _, guard := _ }) (v := ?_) rfl (by kernel_rfl) (by kernel_rfl) (by kernel_rfl) (fun _ _ _ h => h) (Or.inl ⟨by kernel_rfl, ?_⟩) (by assumption) ?_
  rotate_left 1
  · (intro w hSw; (try dsimp only at hSw); go_simp; try with_reducible rfl)
  try simp only [Act.put, Array.toArray_toList, List.setIfInBounds_toArray, List.set_cons_zero, List.set_cons_succ]
  refine wpAnyH_take (i := 42) (oi := { dst := some 125, op := _, type := _, pos := _, after := _, guard := _ }) (v := ?_) rfl (by kernel_rfl) (by kernel_rfl) (by kernel_rfl) (fun _ _ _ h => h) (Or.inl ⟨by kernel_rfl, ?_⟩) (by assumption) ?_
  rotate_left 1
  · (intro w hSw; (try dsimp only at hSw); go_simp; try with_reducible rfl)
  try simp only [Act.put, Array.toArray_toList, List.setIfInBounds_toArray, List.set_cons_zero, List.set_cons_succ]
  refine wpAnyH_take (i := 43) (oi := { dst := some 126, op := _, type := _, pos := _, after := _, guard := _ }) (v := ?_) rfl (by kernel_rfl) (by kernel_rfl) (by kernel_rfl) (fun _ _ _ h => h) (Or.inl ⟨by kernel_rfl, ?_⟩) (by assumption) ?_
  rotate_left 1
  · (intro w hSw; (try dsimp only at hSw); go_simp; try with_reducible rfl)
  try simp only [Act.put, Array.toArray_toList, List.setIfInBounds_toArray, List.set_cons_zero, List.set_cons_succ]
  refine wpAnyH_take (i := 45) (oi := { dst := some 128, op := _, type := _, pos := _, after := _, guard := _ }) (v := ?_) rfl (by kernel_rfl) (by kernel_rfl) (by kernel_rfl) (fun _ _ _ h => h) (Or.inl ⟨by kernel_rfl, ?_⟩) (by assumption) ?_
  rotate_left 1
  · (intro w hSw; (try dsimp only at hSw); go_simp; try with_reducible rfl)
  try simp only [Act.put, Array.toArray_toList, List.setIfInBounds_toArray, List.set_cons_zero, List.set_cons_succ]
  refine wpAnyH_take (i := 46) (oi := { dst := some 129, op := _, type := _, pos := _, after := _, guard := _ }) (v := ?_) rfl (by kernel_rfl) (by kernel_rfl) (by kernel_rfl) (fun _ _ _ h => h) (Or.inl ⟨by kernel_rfl, ?_⟩) (by assumption) ?_
  rotate_left 1
  · (intro w hSw; (try dsimp only at hSw); go_simp; try with_reducible rfl)
  try simp only [Act.put, Array.toArray_toList, List.setIfInBounds_toArray, List.set_cons_zero, List.set_cons_succ]
  refine wpAnyH_take (i := 47) (oi := { dst := some 130, op := _, type := _, pos := _, after := _, guard := _ }) (v := ?_) rfl (by kernel_rfl) (by kernel_rfl) (by kernel_rfl) (fun _ _ _ h => h) (Or.inl ⟨by kernel_rfl, ?_⟩) (by assumption) ?_
  rotate_left 1
  · (intro w hSw; (try dsimp only at hSw); go_simp; try with_reducible rfl)
  try simp only [Act.put, Array.toArray_toList, List.setIfInBounds_toArray, List.set_cons_zero, List.set_cons_succ]
  refine wpAnyH_take (i := 48) (oi := { dst := some 131, op := _, type := _, pos := _, after := _, guard := _ }) (v := ?_) rfl (by kernel_rfl) (by kernel_rfl) (by kernel_rfl) (fun _ _ _ h => h) (Or.inl ⟨by kernel_rfl, ?_⟩) (by assumption) ?_
  rotate_left 1
  · (intro w hSw; (try dsimp only at hSw); go_simp; try with_reducible rfl)
  try simp only [Act.put, Array.toArray_toList, List.setIfInBounds_toArray, List.set_cons_zero, List.set_cons_succ]
  refine wpAnyH_take (i := 49) (oi := { dst := some 132, op := _, type := _, pos := _, after := _, guard := _ }) (v := ?_) rfl (by kernel_rfl) (by kernel_rfl) (by kernel_rfl) (fun _ _ _ h => h) (Or.inl ⟨by kernel_rfl, ?_⟩) (by assumption) ?_
  rotate_left 1
  · (intro w hSw; (try dsimp only at hSw); go_simp; try with_reducible rfl)
  try simp only [Act.put, Array.toArray_toList, List.setIfInBounds_toArray, List.set_cons_zero, List.set_cons_succ]
  refine wpAnyH_take (i := 50) (oi := { dst := some 133, op := _, type := _, pos := _, after := _, guard := _ }) (v := ?_) rfl (by kernel_rfl) (by kernel_rfl) (by kernel_rfl) (fun _ _ _ h => h) (Or.inl ⟨by kernel_rfl, ?_⟩) (by assumption) ?_
  rotate_left 1
  · (intro w hSw; (try dsimp only at hSw); go_simp; try with_reducible rfl)
  try simp only [Act.put, Array.toArray_toList, List.setIfInBounds_toArray, List.set_cons_zero, List.set_cons_succ]
  refine wpAnyH_take (i := 51) (oi := { dst := some 134, op := _, type := _, pos := _, after := _, guard := _ }) (v := ?_) rfl (by kernel_rfl) (by kernel_rfl) (by kernel_rfl) (fun _ _ _ h => h) (Or.inl ⟨by kernel_rfl, ?_⟩) (by assumption) ?_
  rotate_left 1
  · (intro w hSw; (try dsimp only at hSw); go_simp; try with_reducible rfl)
  try simp only [Act.put, Array.toArray_toList, List.setIfInBounds_toArray, List.set_cons_zero, List.set_cons_succ]
  refine wpAnyH_take (i := 52) (oi := { dst := some 135, op := _, type := _, pos := _, after := _, guard := _ }) (v := ?_) rfl (by kernel_rfl) (by kernel_rfl) (by kernel_rfl) (fun _ _ _ h => h) (Or.inl ⟨by kernel_rfl, ?_⟩) (by assumption) ?_
  rotate_left 1
  · (intro w hSw; (try dsimp only at hSw); go_simp; try with_reducible rfl)
  try simp only [Act.put, Array.toArray_toList, List.setIfInBounds_toArray, List.set_cons_zero, List.set_cons_succ]
  refine wpAnyH_take (i := 53) (oi := { dst := some 136, op := _, type := _, pos := _, after := _, guard := _ }) (v := ?_) rfl (by kernel_rfl) (by kernel_rfl) (by kernel_rfl) (fun _ _ _ h => h) (Or.inl ⟨by kernel_rfl, ?_⟩) (by assumption) ?_
  rotate_left 1
  · (intro w hSw; (try dsimp only at hSw); go_simp; try with_reducible rfl)
  try simp only [Act.put, Array.toArray_toList, List.setIfInBounds_toArray, List.set_cons_zero, List.set_cons_succ]
  refine wpAnyH_take (i := 54) (oi := { dst := some 137, op := _, type := _, pos := _, after := _, guard := _ }) (v := ?_) rfl (by kernel_rfl) (by kernel_rfl) (by kernel_rfl) (fun _ _ _ h => h) (Or.inl ⟨by kernel_rfl, ?_⟩) (by assumption) ?_
  rotate_left 1
  · (intro w hSw; (try dsimp only at hSw); go_simp; try with_reducible rfl)
  try simp only [Act.put, Array.toArray_toList, List.setIfInBounds_toArray, List.set_cons_zero, List.set_cons_succ]
  refine wpAnyH_take (i := 55) (oi := { dst := some 138, op := _, type := _, pos := _, after := _, guard := _ }) (v := ?_) rfl (by kernel_rfl) (by kernel_rfl) (by kernel_rfl) (fun _ _ _ h => h) (Or.inl ⟨by kernel_rfl, ?_⟩) (by assumption) ?_
  rotate_left 1
  · (intro w hSw; (try dsimp only at hSw); go_simp; try with_reducible rfl)
  try simp only [Act.put, Array.toArray_toList, List.setIfInBounds_toArray, List.set_cons_zero, List.set_cons_succ]
  refine wpAnyH_ready (rs := [10]) (by kernel_rfl) (by simp) ?_
  refine AllReadyH.cons rfl (fun K hK => ?_) AllReadyH.nil
  go_simp
  refine (H23.out _ _ _ _ _ _ _ hF hS).mono ?_
  rintro e x1 ⟨rfl, hbx⟩
  have hF := hF.below hbx hF.lt
  have hS := hS.below hbx hS.lt
  have hL := hL.below hbx hL.lt
  have hB := hB.below hbx hB.lt
  have hbel := below_then hbel hbx
  clear hbx
  refine hK.out _ _ (⟨hF.cell 3, hF.cell 4, hF.cell 5, hF.cell 6, hB.cell 0, hB.cell 1, hB.cell 2, hB.cell 3⟩) (fun hHeld => ?_)
  clear hK K
  try simp only [Act.put, Array.toArray_toList, List.setIfInBounds_toArray, List.set_cons_zero, List.set_cons_succ]
  refine wpAnyH_ready (rs := [28]) (by kernel_rfl) (by simp) ?_
  refine AllReadyH.cons rfl (fun K hK => ?_) AllReadyH.nil
  go_simp
  refine (H24.out _ _ _ _ _ _ _ hF hS).mono ?_
  rintro e x2 ⟨rfl, hbx⟩
  have hF := hF.below hbx hF.lt
  have hS := hS.below hbx hS.lt
  have hL := hL.below hbx hL.lt
  have hB := hB.below hbx hB.lt
  have hbel := below_then hbel hbx
  clear hbx
  refine hK.out _ _ (⟨hF.cell 3, hF.cell 4, hF.cell 5, hF.cell 6, hB.cell 0, hB.cell 1, hB.cell 2, hB.cell 3⟩) (fun hHeld => ?_)
  clear hK K
  try simp only [Act.put, Array.toArray_toList, List.setIfInBounds_toArray, List.set_cons_zero, List.set_cons_succ]
  refine wpAnyH_ready (rs := [44]) (by kernel_rfl) (by simp) ?_
  refine AllReadyH.cons rfl (fun K hK => ?_) AllReadyH.nil
  go_simp
  refine (H25.out _ _ _ _ _ _ _ hF hS).mono ?_
  rintro e x3 ⟨rfl, hbx⟩
  have hF := hF.below hbx hF.lt
  have hS := hS.below hbx hS.lt
  have hL := hL.below hbx hL.lt
  have hB := hB.below hbx hB.lt
  have hbel := below_then hbel hbx
  clear hbx
  refine hK.out _ _ (⟨hF.cell 3, hF.cell 4, hF.cell 5, hF.cell 6, hB.cell 0, hB.cell 1, hB.cell 2, hB.cell 3⟩) (fun hHeld => ?_)
  clear hK K
  try simp only [Act.put, Array.toArray_toList, List.setIfInBounds_toArray, List.set_cons_zero, List.set_cons_succ]
  refine wpAnyH_ready (rs := [56]) (by kernel_rfl) (by simp) ?_
  refine AllReadyH.cons rfl (fun K hK => ?_) AllReadyH.nil
  go_simp
  refine (H26.out _ _ _ _ _ _ _ hF hS).mono ?_
  rintro e x4 ⟨rfl, hbx⟩
  have hF := hF.below hbx hF.lt
  have hS := hS.below hbx hS.lt
  have hL := hL.below hbx hL.lt
  have hB := hB.below hbx hB.lt
  have hbel := below_then hbel hbx
  clear hbx
  refine hK.out _ _ (⟨hF.cell 3, hF.cell 4, hF.cell 5, hF.cell 6, hB.cell 0, hB.cell 1, hB.cell 2, hB.cell 3⟩) (fun hHeld => ?_)
  clear hK K
  try simp only [Act.put, Array.toArray_toList, List.setIfInBounds_toArray, List.set_cons_zero, List.set_cons_succ]
  refine wpAnyH_ready (rs := [57]) (by kernel_rfl) (by simp) ?_
  refine AllReadyH.cons rfl (fun K hK => ?_) AllReadyH.nil
  go_simp
  have hF := hF.alloc (.cells #[.int .i64 1, .int .i64 node, .int .i64 (x), .int .i64 (y), .int .i64 (cw), .int .i64 (bt), .int .i64 c23, .int .i64 0, .string ⟨#[]⟩, .int .i64 1, .int .i64 node, .int .i64 (x + cw - br), .int .i64 (y + bt), .int .i64 (br), .int .i64 (ch - bt - bb), .int .i64 c24, .int .i64 0, .string ⟨#[]⟩, .int .i64 1, .int .i64 node, .int .i64 (x), .int .i64 (y + ch - bb), .int .i64 (cw), .int .i64 (bb), .int .i64 c25, .int .i64 0, .string ⟨#[]⟩, .int .i64 1, .int .i64 node, .int .i64 (x), .int .i64 (y + bt), .int .i64 (bl), .int .i64 (ch - bt - bb), .int .i64 c26, .int .i64 0, .string ⟨#[]⟩] 64)
  have hS := hS.alloc (.cells #[.int .i64 1, .int .i64 node, .int .i64 (x), .int .i64 (y), .int .i64 (cw), .int .i64 (bt), .int .i64 c23, .int .i64 0, .string ⟨#[]⟩, .int .i64 1, .int .i64 node, .int .i64 (x + cw - br), .int .i64 (y + bt), .int .i64 (br), .int .i64 (ch - bt - bb), .int .i64 c24, .int .i64 0, .string ⟨#[]⟩, .int .i64 1, .int .i64 node, .int .i64 (x), .int .i64 (y + ch - bb), .int .i64 (cw), .int .i64 (bb), .int .i64 c25, .int .i64 0, .string ⟨#[]⟩, .int .i64 1, .int .i64 node, .int .i64 (x), .int .i64 (y + bt), .int .i64 (bl), .int .i64 (ch - bt - bb), .int .i64 c26, .int .i64 0, .string ⟨#[]⟩] 64)
  have hL := hL.alloc (.cells #[.int .i64 1, .int .i64 node, .int .i64 (x), .int .i64 (y), .int .i64 (cw), .int .i64 (bt), .int .i64 c23, .int .i64 0, .string ⟨#[]⟩, .int .i64 1, .int .i64 node, .int .i64 (x + cw - br), .int .i64 (y + bt), .int .i64 (br), .int .i64 (ch - bt - bb), .int .i64 c24, .int .i64 0, .string ⟨#[]⟩, .int .i64 1, .int .i64 node, .int .i64 (x), .int .i64 (y + ch - bb), .int .i64 (cw), .int .i64 (bb), .int .i64 c25, .int .i64 0, .string ⟨#[]⟩, .int .i64 1, .int .i64 node, .int .i64 (x), .int .i64 (y + bt), .int .i64 (bl), .int .i64 (ch - bt - bb), .int .i64 c26, .int .i64 0, .string ⟨#[]⟩] 64)
  have hB := hB.alloc (.cells #[.int .i64 1, .int .i64 node, .int .i64 (x), .int .i64 (y), .int .i64 (cw), .int .i64 (bt), .int .i64 c23, .int .i64 0, .string ⟨#[]⟩, .int .i64 1, .int .i64 node, .int .i64 (x + cw - br), .int .i64 (y + bt), .int .i64 (br), .int .i64 (ch - bt - bb), .int .i64 c24, .int .i64 0, .string ⟨#[]⟩, .int .i64 1, .int .i64 node, .int .i64 (x), .int .i64 (y + ch - bb), .int .i64 (cw), .int .i64 (bb), .int .i64 c25, .int .i64 0, .string ⟨#[]⟩, .int .i64 1, .int .i64 node, .int .i64 (x), .int .i64 (y + bt), .int .i64 (bl), .int .i64 (ch - bt - bb), .int .i64 c26, .int .i64 0, .string ⟨#[]⟩] 64)
  have hbel := below_alloc hbel (.cells #[.int .i64 1, .int .i64 node, .int .i64 (x), .int .i64 (y), .int .i64 (cw), .int .i64 (bt), .int .i64 c23, .int .i64 0, .string ⟨#[]⟩, .int .i64 1, .int .i64 node, .int .i64 (x + cw - br), .int .i64 (y + bt), .int .i64 (br), .int .i64 (ch - bt - bb), .int .i64 c24, .int .i64 0, .string ⟨#[]⟩, .int .i64 1, .int .i64 node, .int .i64 (x), .int .i64 (y + ch - bb), .int .i64 (cw), .int .i64 (bb), .int .i64 c25, .int .i64 0, .string ⟨#[]⟩, .int .i64 1, .int .i64 node, .int .i64 (x), .int .i64 (y + bt), .int .i64 (bl), .int .i64 (ch - bt - bb), .int .i64 c26, .int .i64 0, .string ⟨#[]⟩] 64)
  refine hK.out _ _ (⟨hF.cell 3, hF.cell 4, hF.cell 5, hF.cell 6, hB.cell 0, hB.cell 1, hB.cell 2, hB.cell 3⟩) (fun hHeld => ?_)
  clear hK K
  try simp only [Act.put, Array.toArray_toList, List.setIfInBounds_toArray, List.set_cons_zero, List.set_cons_succ]
  refine wpAnyH_ready (rs := [58]) (by kernel_rfl) (by simp) ?_
  refine AllReadyH.cons rfl (fun K hK => ?_) AllReadyH.nil
  refine step_append_lies _ (by rfl) _ _ _ (by rfl) w.heap.size 64 i0 _ 9 80 Tryz.underlying57 hi hz0 hz1 hz2 rfl (by decide) _ _ _ (by rfl) (own_of_blk (n := 1) hL (by omega) (by decide) rfl) ⟨x4.heap.size, 0, none⟩ 4 4 [.int .i64 1, .int .i64 node, .int .i64 (x), .int .i64 (y), .int .i64 (cw), .int .i64 (bt), .int .i64 c23, .int .i64 0, .string ⟨#[]⟩, .int .i64 1, .int .i64 node, .int .i64 (x + cw - br), .int .i64 (y + bt), .int .i64 (br), .int .i64 (ch - bt - bb), .int .i64 c24, .int .i64 0, .string ⟨#[]⟩, .int .i64 1, .int .i64 node, .int .i64 (x), .int .i64 (y + ch - bb), .int .i64 (cw), .int .i64 (bb), .int .i64 c25, .int .i64 0, .string ⟨#[]⟩, .int .i64 1, .int .i64 node, .int .i64 (x), .int .i64 (y + bt), .int .i64 (bl), .int .i64 (ch - bt - bb), .int .i64 c26, .int .i64 0, .string ⟨#[]⟩] (by rfl) (by rfl) (cells_at x4 [.int .i64 1, .int .i64 node, .int .i64 (x), .int .i64 (y), .int .i64 (cw), .int .i64 (bt), .int .i64 c23, .int .i64 0, .string ⟨#[]⟩, .int .i64 1, .int .i64 node, .int .i64 (x + cw - br), .int .i64 (y + bt), .int .i64 (br), .int .i64 (ch - bt - bb), .int .i64 c24, .int .i64 0, .string ⟨#[]⟩, .int .i64 1, .int .i64 node, .int .i64 (x), .int .i64 (y + ch - bb), .int .i64 (cw), .int .i64 (bb), .int .i64 c25, .int .i64 0, .string ⟨#[]⟩, .int .i64 1, .int .i64 node, .int .i64 (x), .int .i64 (y + bt), .int .i64 (bl), .int .i64 (ch - bt - bb), .int .i64 c26, .int .i64 0, .string ⟨#[]⟩] 64 x4.heap.size rfl) (List.all_eq_true.1 (show ([.int .i64 1, .int .i64 node, .int .i64 (x), .int .i64 (y), .int .i64 (cw), .int .i64 (bt), .int .i64 c23, .int .i64 0, .string ⟨#[]⟩, .int .i64 1, .int .i64 node, .int .i64 (x + cw - br), .int .i64 (y + bt), .int .i64 (br), .int .i64 (ch - bt - bb), .int .i64 c24, .int .i64 0, .string ⟨#[]⟩, .int .i64 1, .int .i64 node, .int .i64 (x), .int .i64 (y + ch - bb), .int .i64 (cw), .int .i64 (bb), .int .i64 c25, .int .i64 0, .string ⟨#[]⟩, .int .i64 1, .int .i64 node, .int .i64 (x), .int .i64 (y + bt), .int .i64 (bl), .int .i64 (ch - bt - bb), .int .i64 c26, .int .i64 0, .string ⟨#[]⟩] : List Value).all (·.oneCell') = true from rfl)) (by omega) (by unfold maxLen; omega) (by omega) hbel.size (x4.heap.size + 1) (by simp) ?_
  intro gg cap1 w7 hown7 hgrow hat hlt7
  have hF := hF.grown hgrow (by show some w.heap.size ≠ some wA.heap.size; intro e; injection e with e; omega)
  have hB := hB.grown hgrow (by show some (w1.heap.size + 1) ≠ some wA.heap.size; intro e; injection e with e; omega)
  have hbel := hbel.grown hgrow hbel.size (fun k hk => by have hk : some wA.heap.size = some k := hk; injection hk with hk; omega)
  have HOWN := Lib.hid hown7
  clear hgrow hown7 hat
  refine hK.out _ _ (⟨hF.cell 3, hF.cell 4, hF.cell 5, hF.cell 6, hB.cell 0, hB.cell 1, hB.cell 2, hB.cell 3⟩) (fun hHeld => ?_)
  clear hK K
  try simp only [Act.put, Array.toArray_toList, List.setIfInBounds_toArray, List.set_cons_zero, List.set_cons_succ]
  refine wpAnyH_take (i := 59) (oi := { dst := some 11, op := _, type := _, pos := _, after := _, guard := _ }) (v := ?_) rfl (by kernel_rfl) (by kernel_rfl) (by kernel_rfl) (fun _ _ _ h => h) (Or.inl ⟨by kernel_rfl, ?_⟩) (by assumption) ?_
  rotate_left 1
  · (intro w hSw; (try dsimp only at hSw); go_simp; try with_reducible rfl)
  try simp only [Act.put, Array.toArray_toList, List.setIfInBounds_toArray, List.set_cons_zero, List.set_cons_succ]
  refine wpAnyH_done (by kernel_rfl) ?_ _
  refine NoPanic.normal ?_
  clear s1 s2 s3 s4 s5
  have HH := Lib.hid (Holds.of_own HOWN.out)
  go_wp2_with (first | (go_at_call 85; refine (fills_calls _ _ _ _ [fillC node x y cw ch c36, fillC node x y cw bt c23, fillC node (x + cw - br) (y + bt) br (ch - bt - bb) c24, fillC node x (y + ch - bb) cw bb c25, fillC node x (y + bt) bl (ch - bt - bb) c26] _ rfl HH.out (by simp) (Nat.le_refl _)).mono ?_; rintro e w5 ⟨v5, rfl, hown5, hb5⟩))
  go_ret
  exact ⟨_, rfl, own_base hown5 hbel.size, below_then hbel hb5⟩
end Go.Proofs.YtkmmlcnoeeaekaaGreatDoor
