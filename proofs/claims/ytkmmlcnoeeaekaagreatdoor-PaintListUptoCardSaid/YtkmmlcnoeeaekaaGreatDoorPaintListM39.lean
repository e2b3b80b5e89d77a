/- Several texts in one: PaintC. -/
import Derived.Test.YtkmmlcnoeeaekaaGreatDoorPaintListM38
import Derived.Deep.AppendLies
import Derived.Deep.Cut
/- Contract of paint.Frag. -/
namespace Go.Proofs.YtkmmlcnoeeaekaaGreatDoor
open Go.RowKit
set_option linter.unusedVariables false
set_option linter.unusedSimpArgs false
attribute [local go_sem high] run_min2 run_max2

def textC (f : FragV) (zs : List Int) : CmdV := ⟨2, f.node, f.x, f.y + part (sz (sz (stN zs 37))) 3 4, f.w, ofN (stK zs 44) (stN zs 44) 0, stN zs 35, sz (stN zs 37), f.text⟩
def bor (zs : List Int) (k : Int) : Int := ab true (len4 zs k 0)
def bgC (f : FragV) (zs : List Int) : CmdV := fillC f.node f.x f.y f.w f.h (stN zs 36)
def topC (f : FragV) (zs : List Int) : CmdV := fillC f.node f.x f.y f.w (bor zs 19) (stN zs 23)
def rightC (f : FragV) (zs : List Int) : CmdV := fillC f.node (f.x + f.w - bor zs 20) (f.y + bor zs 19) (bor zs 20) (f.h - bor zs 19 - bor zs 21) (stN zs 24)
def botC (f : FragV) (zs : List Int) : CmdV := fillC f.node f.x (f.y + f.h - bor zs 21) f.w (bor zs 21) (stN zs 25)
def leftC (f : FragV) (zs : List Int) : CmdV := fillC f.node f.x (f.y + bor zs 19) (bor zs 22) (f.h - bor zs 19 - bor zs 21) (stN zs 26)
/-- P343: the commands of a fragment. -/
def fragCmds (f : FragV) (kind : Int) (zs : List Int) : List CmdV :=
  if stN zs 33 = 1 then [] else if kind = 4 then (if f.text.toList = [] then [] else [textC f zs]) else (if kind = 8 then [bgC f zs] else [bgC f zs, topC f zs, rightC f zs, botC f zs, leftC f zs]).filter seen
def FragOk (f : FragV) : Prop := -16777216 ≤ f.x ∧ f.x ≤ 16777216 ∧ -16777216 ≤ f.y ∧ f.y ≤ 16777216 ∧ -16777216 ≤ f.w ∧ f.w ≤ 16777216 ∧ -16777216 ≤ f.h ∧ f.h ≤ 16777216
theorem own_of_blk {w : World} {g base n : Nat} {t : TypeId} {size : Nat} {cs : Array Value} (h : Blk w g t cs) (hb : base ≤ g) (hn : n ≤ maxLen) (hs : cs.size = n * size) : w.ownsRow base t size (.slice (some ⟨g, 0, none⟩) n n) n cs.toList :=
  ⟨by simpa using hs, .inr ⟨g, n, cs, rfl, hb, h, Nat.le_refl _, hn, hs, by rw [List.take_of_length_le (by simp; omega)]⟩⟩
theorem bor_bd (zs : List Int) (k : Int) : 0 ≤ bor zs k ∧ bor zs k ≤ 16777216 := by
  have h : -16777216 ≤ len4 zs k 0 ∧ len4 zs k 0 ≤ 16777216 := by
    unfold len4; split
    · exact ofN_bd _ _ _
    · omega
  unfold bor ab; simp; omega
theorem Blk.grown {w w' : World} {row : Option Nat} {g : Nat} {t : TypeId} {cs : Array Value} (h : Blk w g t cs) (hg : w.grownBy w' row) (hne : some g ≠ row) : Blk w' g t cs := (hg.block g h.lt hne).trans h

set_option maxRecDepth 100000 in
set_option maxHeartbeats 1000000 in
theorem frag_hid (zs : List Int) (kind : Int) (f : FragV) (w : World) (hz : zs.length = 118) (hok : FragOk f) (hv : stN zs 33 = 1) :
    Calls Tryz.prog 51 #[.agg (fragC f), .int .i64 kind, .agg (sty zs)] w fun e w' => ∃ v, e = .returned v ∧ w'.ownsRow w.heap.size 64 9 v 0 [] ∧ Below w.heap.size w w' := by
  have HSZ : Hid ((Tryz.prog.info? 35).map (·.size) = some (sty zs).size) := by show _ = _; rw [sty_size, hz]; kernel_rfl
  have hF := (Blk.new w 88 (fragC f)).alloc (.cells (sty zs) 35)
  have hS := Blk.new (w.alloc (.cells (fragC f) 88)) 35 (sty zs)
  simp only [alloc_size] at hS
  have hbel := below_alloc (below_alloc (Below.refl _ w) (.cells (fragC f) 88)) (.cells (sty zs) 35)
  obtain ⟨box, node, par, x, y, cw, ch, text⟩ := f
  obtain ⟨ox0, ox1, oy0, oy1, ow0, ow1, oh0, oh1⟩ := hok
  simp only at ox0 ox1 oy0 oy1 ow0 ow1 oh0 oh1
  have c67 : ((w.alloc (.cells (fragC ⟨box, node, par, x, y, cw, ch, text⟩) 88)).alloc (.cells (sty zs) 35)).cell? ⟨w.heap.size + 1, 67, none⟩ = some (.int .i64 (stN zs 33)) := (hS.cell _).trans (sty_at zs _ (by omega))
  rw [hv] at c67
  have hnil : ∀ w' : World, w'.ownsRow w.heap.size 64 9 (.slice none 0 0) 0 [] := fun w' => World.ownsRow_nil _ _ _ _
  have HNIL := Lib.hid hnil
  clear hnil hF hS HSZ hv
  unfold fragC at *
  go_enter Tryz.func51, Tryz.ntmps51
  go_wp2_with fail
  go_ret
  exact ⟨_, rfl, HNIL.out _, hbel⟩
set_option maxRecDepth 100000 in
set_option maxHeartbeats 1000000 in
theorem frag_blank (zs : List Int) (f : FragV) (w : World) (hz : zs.length = 118) (hok : FragOk f) (hv : ¬ stN zs 33 = 1) (ht : f.text.toList = []) :
    Calls Tryz.prog 51 #[.agg (fragC f), .int .i64 4, .agg (sty zs)] w fun e w' => ∃ v, e = .returned v ∧ w'.ownsRow w.heap.size 64 9 v 0 [] ∧ Below w.heap.size w w' := by
  have HSZ : Hid ((Tryz.prog.info? 35).map (·.size) = some (sty zs).size) := by show _ = _; rw [sty_size, hz]; kernel_rfl
  have hF := (Blk.new w 88 (fragC f)).alloc (.cells (sty zs) 35)
  have hS := Blk.new (w.alloc (.cells (fragC f) 88)) 35 (sty zs)
  simp only [alloc_size] at hS
  have hbel := below_alloc (below_alloc (Below.refl _ w) (.cells (fragC f) 88)) (.cells (sty zs) 35)
  obtain ⟨box, node, par, x, y, cw, ch, text⟩ := f
  obtain ⟨ox0, ox1, oy0, oy1, ow0, ow1, oh0, oh1⟩ := hok
  simp only at ox0 ox1 oy0 oy1 ow0 ow1 oh0 oh1
  have c67 : ((w.alloc (.cells (fragC ⟨box, node, par, x, y, cw, ch, text⟩) 88)).alloc (.cells (sty zs) 35)).cell? ⟨w.heap.size + 1, 67, none⟩ = some (.int .i64 (stN zs 33)) := (hS.cell _).trans (sty_at zs _ (by omega))
  have e33 : (stN zs 33 == 1) = false := by simpa using hv
  obtain ⟨vv, hvv⟩ : ∃ v, v = stN zs 33 := ⟨_, rfl⟩
  rw [← hvv] at c67 e33
  clear hvv hv
  have hnil : ∀ w' : World, w'.ownsRow w.heap.size 64 9 (.slice none 0 0) 0 [] := fun w' => World.ownsRow_nil _ _ _ _
  have HNIL := Lib.hid hnil
  have hte : text.toList.isEmpty = true := by show text.toList.isEmpty = true; rw [show text.toList = [] from ht]; rfl
  clear hnil hF hS HSZ ht
  unfold fragC at *
  go_enter Tryz.func51, Tryz.ntmps51
  go_wp2_with fail
  go_ret
  exact ⟨_, rfl, HNIL.out _, hbel⟩
set_option maxRecDepth 100000 in
set_option maxHeartbeats 2000000 in
theorem frag_text (zs : List Int) (f : FragV) (w : World) (hz : zs.length = 118) (hok : FragOk f) (hv : ¬ stN zs 33 = 1) (ht : ¬ f.text.toList = []) :
    Calls Tryz.prog 51 #[.agg (fragC f), .int .i64 4, .agg (sty zs)] w fun e w' => ∃ v, e = .returned v ∧ w'.ownsRow w.heap.size 64 9 v 1 (cmdF (textC f zs)) ∧ Below w.heap.size w w' := by
  have HSZ : Hid ((Tryz.prog.info? 35).map (·.size) = some (sty zs).size) := by show _ = _; rw [sty_size, hz]; kernel_rfl
  have hF := (Blk.new w 88 (fragC f)).alloc (.cells (sty zs) 35)
  have hS := Blk.new (w.alloc (.cells (fragC f) 88)) 35 (sty zs)
  simp only [alloc_size] at hS
  have hbel := below_alloc (below_alloc (Below.refl _ w) (.cells (fragC f) 88)) (.cells (sty zs) 35)
  obtain ⟨box, node, par, x, y, cw, ch, text⟩ := f
  obtain ⟨ox0, ox1, oy0, oy1, ow0, ow1, oh0, oh1⟩ := hok
  simp only at ox0 ox1 oy0 oy1 ow0 ow1 oh0 oh1
  have c67 : ((w.alloc (.cells (fragC ⟨box, node, par, x, y, cw, ch, text⟩) 88)).alloc (.cells (sty zs) 35)).cell? ⟨w.heap.size + 1, 67, none⟩ = some (.int .i64 (stN zs 33)) := (hS.cell _).trans (sty_at zs _ (by omega))
  have e33 : (stN zs 33 == 1) = false := by simpa using hv
  obtain ⟨vv, hvv⟩ : ∃ v, v = stN zs 33 := ⟨_, rfl⟩
  rw [← hvv] at c67 e33
  clear hvv hv
  have hte : text.toList.isEmpty = false := by
    have h0 : ¬ text.toList = [] := ht
    cases hl : text.toList with
    | nil => exact absurd hl h0
    | cons a r => rfl
  have hte2 : (!text.toList.isEmpty) = true := by rw [hte]; rfl
  have c88 : ((w.alloc (.cells (fragC ⟨box, node, par, x, y, cw, ch, text⟩) 88)).alloc (.cells (sty zs) 35)).cell? ⟨w.heap.size + 1, 88, none⟩ = some (.int .i64 (stK zs 44)) := (hS.cell _).trans (sty_at zs _ (by omega))
  have c89 : ((w.alloc (.cells (fragC ⟨box, node, par, x, y, cw, ch, text⟩) 88)).alloc (.cells (sty zs) 35)).cell? ⟨w.heap.size + 1, 89, none⟩ = some (.int .i64 (stN zs 44)) := (hS.cell _).trans (sty_at zs _ (by omega))
  have HTC : Hid (textC ⟨box, node, par, x, y, cw, ch, text⟩ zs = ⟨2, node, x, y + part (sz (sz (stN zs 37))) 3 4, cw, ofN (stK zs 44) (stN zs 44) 0, stN zs 35, sz (stN zs 37), text⟩) := rfl
  have HAS := Lib.hid (fun w => ascent_calls (sz (stN zs 37)) w)
  have HSI := Lib.hid (fun w => size_calls zs w hz)
  have HOF := Lib.hid (fun w => of_calls (stK zs 44) (stN zs 44) 0 w)
  have pa0 := part_lo (sz (sz (stN zs 37))) 3 4
  have pa1 := part_hi (sz (sz (stN zs 37))) 3 4
  have KEEP : ∀ w', Blk w' w.heap.size 88 (fragC ⟨box, node, par, x, y, cw, ch, text⟩) → Blk w' (w.heap.size + 1) 35 (sty zs) → w'.cell? ⟨w.heap.size, 1, none⟩ = some (.int .i64 node) ∧ w'.cell? ⟨w.heap.size, 3, none⟩ = some (.int .i64 x) ∧ w'.cell? ⟨w.heap.size, 4, none⟩ = some (.int .i64 y) ∧ w'.cell? ⟨w.heap.size, 5, none⟩ = some (.int .i64 cw) ∧ w'.cell? ⟨w.heap.size, 7, none⟩ = some (.string text) ∧ w'.cell? ⟨w.heap.size + 1, 71, none⟩ = some (.int .i64 (stN zs 35)) := fun w' h1 h2 => ⟨h1.cell 1, h1.cell 3, h1.cell 4, h1.cell 5, h1.cell 7, (h2.cell _).trans (sty_at zs _ (by omega))⟩
  obtain ⟨av, hav⟩ : ∃ a, a = part (sz (sz (stN zs 37))) 3 4 := ⟨_, rfl⟩
  obtain ⟨sv, hsv⟩ : ∃ a, a = sz (stN zs 37) := ⟨_, rfl⟩
  obtain ⟨ov, hov⟩ : ∃ a, a = ofN (stK zs 44) (stN zs 44) 0 := ⟨_, rfl⟩
  obtain ⟨oi, hoi⟩ : ∃ a, a = ofIs (stK zs 44) := ⟨_, rfl⟩
  obtain ⟨cv, hcv⟩ : ∃ a, a = stN zs 35 := ⟨_, rfl⟩
  obtain ⟨k44, hk44⟩ : ∃ a, a = stK zs 44 := ⟨_, rfl⟩
  obtain ⟨n44, hn44⟩ : ∃ a, a = stN zs 44 := ⟨_, rfl⟩
  rw [← hav] at HAS HTC pa0 pa1
  rw [← hsv] at HAS HTC HSI
  rw [← hov] at HTC HOF
  rw [← hoi] at HOF
  rw [← hk44] at c88 HOF
  rw [← hn44] at c89 HOF
  rw [← hcv] at HTC KEEP
  rw [HTC.out]
  have KEEP' := Lib.hid KEEP
  clear KEEP hav hsv hov hoi hcv hk44 hn44 ht HTC
  unfold fragC at *
  go_enter Tryz.func51, Tryz.ntmps51
  go_wp2_with (first | (refine wpList_load_row rfl 35 _ rfl (w.heap.size + 1) rfl 35 (sty zs) (0, 0) _ (by repeat (first | exact hS | refine Blk.alloc ?_ _)) Tryz.underlying35 rfl HSZ.out ?_) | (go_at_call 81; refine (HOF.out _).mono ?_; rintro e w' ⟨rfl, rfl⟩; have hF := hF.alloc (.cells #[.int .i64 k44, .int .i64 n44] 33); have hS := hS.alloc (.cells #[.int .i64 k44, .int .i64 n44] 33); have hbel := below_alloc hbel (.cells #[.int .i64 k44, .int .i64 n44] 33)) | (go_at_call 82; refine (HSI.out _).mono ?_; rintro e w1 ⟨rfl, hb⟩; have hF := hF.below hb hF.lt; have hS := hS.below hb hS.lt; have hbel := below_then hbel hb))
  have hsum : IntKind.i64.wrap (y + av) = y + av := IntWalk.i64_in _ (by omega)
  have hF1 := Lib.hid hF
  have hS1 := Lib.hid hS
  have hbel1 := Lib.hid hbel
  have hF := hF.drew
  have hS := hS.drew
  refine wp_region_noPanic ?_
  refine wp_region_held_drew (S := fun w' => w'.cell? ⟨w.heap.size, 1, none⟩ = some (.int .i64 node) ∧ w'.cell? ⟨w.heap.size, 3, none⟩ = some (.int .i64 x) ∧ w'.cell? ⟨w.heap.size, 4, none⟩ = some (.int .i64 y) ∧ w'.cell? ⟨w.heap.size, 5, none⟩ = some (.int .i64 cw) ∧ w'.cell? ⟨w.heap.size, 7, none⟩ = some (.string text) ∧ w'.cell? ⟨w.heap.size + 1, 71, none⟩ = some (.int .i64 cv)) (by kernel_rfl) (KEEP'.out _ hF hS) (fun hHeld => ?_)
  refine wpAnyH_take (i := 0) (oi := { dst := some 35, op := _, type := _, pos := _, after := _, guard := _ }) (v := ?_) rfl (by kernel_rfl) (by kernel_rfl) (by kernel_rfl) (fun _ _ _ h => h) (Or.inl ⟨by kernel_rfl, ?_⟩) (by assumption) ?_
  rotate_left 1
  · (intro w hSw; (try dsimp only at hSw); go_simp; try with_reducible rfl)
  try simp only [Act.put, Array.toArray_toList, List.setIfInBounds_toArray, List.set_cons_zero, List.set_cons_succ]
  refine wpAnyH_take (i := 1) (oi := { dst := some 36, op := _, type := _, pos := _, after := _, guard := _ }) (v := ?_) rfl (by kernel_rfl) (by kernel_rfl) (by kernel_rfl) (fun _ _ _ h => h) (Or.inl ⟨by kernel_rfl, ?_⟩) (by assumption) ?_
  rotate_left 1
  · (intro w hSw; (try dsimp only at hSw); go_simp; try with_reducible rfl)
  try simp only [Act.put, Array.toArray_toList, List.setIfInBounds_toArray, List.set_cons_zero, List.set_cons_succ]
  refine wpAnyH_take (i := 2) (oi := { dst := some 37, op := _, type := _, pos := _, after := _, guard := _ }) (v := ?_) rfl (by kernel_rfl) (by kernel_rfl) (by kernel_rfl) (fun _ _ _ h => h) (Or.inl ⟨by kernel_rfl, ?_⟩) (by assumption) ?_
  rotate_left 1
  · (intro w hSw; (try dsimp only at hSw); go_simp; try with_reducible rfl)
  try simp only [Act.put, Array.toArray_toList, List.setIfInBounds_toArray, List.set_cons_zero, List.set_cons_succ]
  refine wpAnyH_take (i := 3) (oi := { dst := some 38, op := _, type := _, pos := _, after := _, guard := _ }) (v := ?_) rfl (by kernel_rfl) (by kernel_rfl) (by kernel_rfl) (fun _ _ _ h => h) (Or.inl ⟨by kernel_rfl, ?_⟩) (by assumption) ?_
  rotate_left 1
  · (intro w hSw; (try dsimp only at hSw); go_simp; try with_reducible rfl)
  try simp only [Act.put, Array.toArray_toList, List.setIfInBounds_toArray, List.set_cons_zero, List.set_cons_succ]
  refine wpAnyH_take (i := 4) (oi := { dst := some 39, op := _, type := _, pos := _, after := _, guard := _ }) (v := ?_) rfl (by kernel_rfl) (by kernel_rfl) (by kernel_rfl) (fun _ _ _ h => h) (Or.inl ⟨by kernel_rfl, ?_⟩) (by assumption) ?_
  rotate_left 1
  · (intro w hSw; (try dsimp only at hSw); go_simp; try with_reducible rfl)
  try simp only [Act.put, Array.toArray_toList, List.setIfInBounds_toArray, List.set_cons_zero, List.set_cons_succ]
  refine wpAnyH_take (i := 5) (oi := { dst := some 40, op := _, type := _, pos := _, after := _, guard := _ }) (v := ?_) rfl (by kernel_rfl) (by kernel_rfl) (by kernel_rfl) (fun _ _ _ h => h) (Or.inl ⟨by kernel_rfl, ?_⟩) (by assumption) ?_
  rotate_left 1
  · (intro w hSw; (try dsimp only at hSw); go_simp; try with_reducible rfl)
  try simp only [Act.put, Array.toArray_toList, List.setIfInBounds_toArray, List.set_cons_zero, List.set_cons_succ]
  refine wpAnyH_take (i := 6) (oi := { dst := some 41, op := _, type := _, pos := _, after := _, guard := _ }) (v := ?_) rfl (by kernel_rfl) (by kernel_rfl) (by kernel_rfl) (fun _ _ _ h => h) (Or.inl ⟨by kernel_rfl, ?_⟩) (by assumption) ?_
  rotate_left 1
  · (intro w hSw; (try dsimp only at hSw); go_simp; try with_reducible rfl)
  try simp only [Act.put, Array.toArray_toList, List.setIfInBounds_toArray, List.set_cons_zero, List.set_cons_succ]
  refine wpAnyH_take (i := 9) (oi := { dst := some 44, op := _, type := _, pos := _, after := _, guard := _ }) (v := ?_) rfl (by kernel_rfl) (by kernel_rfl) (by kernel_rfl) (fun _ _ _ h => h) (Or.inl ⟨by kernel_rfl, ?_⟩) (by assumption) ?_
  rotate_left 1
  · (intro w hSw; (try dsimp only at hSw); go_simp; try with_reducible rfl)
  try simp only [Act.put, Array.toArray_toList, List.setIfInBounds_toArray, List.set_cons_zero, List.set_cons_succ]
  refine wpAnyH_take (i := 10) (oi := { dst := some 45, op := _, type := _, pos := _, after := _, guard := _ }) (v := ?_) rfl (by kernel_rfl) (by kernel_rfl) (by kernel_rfl) (fun _ _ _ h => h) (Or.inl ⟨by kernel_rfl, ?_⟩) (by assumption) ?_
  rotate_left 1
  · (intro w hSw; (try dsimp only at hSw); go_simp; try with_reducible rfl)
  try simp only [Act.put, Array.toArray_toList, List.setIfInBounds_toArray, List.set_cons_zero, List.set_cons_succ]
  refine wpAnyH_take (i := 11) (oi := { dst := some 46, op := _, type := _, pos := _, after := _, guard := _ }) (v := ?_) rfl (by kernel_rfl) (by kernel_rfl) (by kernel_rfl) (fun _ _ _ h => h) (Or.inl ⟨by kernel_rfl, ?_⟩) (by assumption) ?_
  rotate_left 1
  · (intro w hSw; (try dsimp only at hSw); go_simp; try with_reducible rfl)
  try simp only [Act.put, Array.toArray_toList, List.setIfInBounds_toArray, List.set_cons_zero, List.set_cons_succ]
  refine wpAnyH_take (i := 12) (oi := { dst := some 47, op := _, type := _, pos := _, after := _, guard := _ }) (v := ?_) rfl (by kernel_rfl) (by kernel_rfl) (by kernel_rfl) (fun _ _ _ h => h) (Or.inl ⟨by kernel_rfl, ?_⟩) (by assumption) ?_
  rotate_left 1
  · (intro w hSw; (try dsimp only at hSw); go_simp; try with_reducible rfl)
  try simp only [Act.put, Array.toArray_toList, List.setIfInBounds_toArray, List.set_cons_zero, List.set_cons_succ]
  refine wpAnyH_take (i := 13) (oi := { dst := some 48, op := _, type := _, pos := _, after := _, guard := _ }) (v := ?_) rfl (by kernel_rfl) (by kernel_rfl) (by kernel_rfl) (fun _ _ _ h => h) (Or.inl ⟨by kernel_rfl, ?_⟩) (by assumption) ?_
  rotate_left 1
  · (intro w hSw; (try dsimp only at hSw); go_simp; try with_reducible rfl)
  try simp only [Act.put, Array.toArray_toList, List.setIfInBounds_toArray, List.set_cons_zero, List.set_cons_succ]
  refine wpAnyH_take (i := 14) (oi := { dst := some 49, op := _, type := _, pos := _, after := _, guard := _ }) (v := ?_) rfl (by kernel_rfl) (by kernel_rfl) (by kernel_rfl) (fun _ _ _ h => h) (Or.inl ⟨by kernel_rfl, ?_⟩) (by assumption) ?_
  rotate_left 1
  · (intro w hSw; (try dsimp only at hSw); go_simp; try with_reducible rfl)
  try simp only [Act.put, Array.toArray_toList, List.setIfInBounds_toArray, List.set_cons_zero, List.set_cons_succ]
  refine wpAnyH_take (i := 15) (oi := { dst := some 50, op := _, type := _, pos := _, after := _, guard := _ }) (v := ?_) rfl (by kernel_rfl) (by kernel_rfl) (by kernel_rfl) (fun _ _ _ h => h) (Or.inl ⟨by kernel_rfl, ?_⟩) (by assumption) ?_
  rotate_left 1
  · (intro w hSw; (try dsimp only at hSw); go_simp; try with_reducible rfl)
  try simp only [Act.put, Array.toArray_toList, List.setIfInBounds_toArray, List.set_cons_zero, List.set_cons_succ]
  refine wpAnyH_take (i := 16) (oi := { dst := some 51, op := _, type := _, pos := _, after := _, guard := _ }) (v := ?_) rfl (by kernel_rfl) (by kernel_rfl) (by kernel_rfl) (fun _ _ _ h => h) (Or.inl ⟨by kernel_rfl, ?_⟩) (by assumption) ?_
  rotate_left 1
  · (intro w hSw; (try dsimp only at hSw); go_simp; try with_reducible rfl)
  try simp only [Act.put, Array.toArray_toList, List.setIfInBounds_toArray, List.set_cons_zero, List.set_cons_succ]
  refine wpAnyH_take (i := 17) (oi := { dst := some 52, op := _, type := _, pos := _, after := _, guard := _ }) (v := ?_) rfl (by kernel_rfl) (by kernel_rfl) (by kernel_rfl) (fun _ _ _ h => h) (Or.inl ⟨by kernel_rfl, ?_⟩) (by assumption) ?_
  rotate_left 1
  · (intro w hSw; (try dsimp only at hSw); go_simp; try with_reducible rfl)
  try simp only [Act.put, Array.toArray_toList, List.setIfInBounds_toArray, List.set_cons_zero, List.set_cons_succ]
  refine wpAnyH_ready (rs := [7]) (by kernel_rfl) (by simp) ?_
  refine AllReadyH.cons rfl (fun K hK => ?_) AllReadyH.nil
  go_simp
  refine (HAS.out _).mono ?_
  rintro e w' ⟨rfl, rfl⟩
  refine hK.out _ _ (KEEP'.out _ hF hS) (fun hHeld => ?_)
  clear hK K
  try simp only [Act.put, Array.toArray_toList, List.setIfInBounds_toArray, List.set_cons_zero, List.set_cons_succ]
  refine wpAnyH_take (i := 8) (oi := { dst := some 43, op := _, type := _, pos := _, after := _, guard := _ }) (v := ?_) rfl (by kernel_rfl) (by kernel_rfl) (by kernel_rfl) (fun _ _ _ h => h) (Or.inl ⟨by kernel_rfl, ?_⟩) (by assumption) ?_
  rotate_left 1
  · (intro w hSw; (try dsimp only at hSw); go_simp; try with_reducible rfl)
  try simp only [Act.put, Array.toArray_toList, List.setIfInBounds_toArray, List.set_cons_zero, List.set_cons_succ]
  refine wpAnyH_take (i := 18) (oi := { dst := some 53, op := _, type := _, pos := _, after := _, guard := _ }) (v := ?_) rfl (by kernel_rfl) (by kernel_rfl) (by kernel_rfl) (fun _ _ _ h => h) (Or.inl ⟨by kernel_rfl, ?_⟩) (by assumption) ?_
  rotate_left 1
  · (intro w hSw; (try dsimp only at hSw); go_simp; try with_reducible rfl)
  try simp only [Act.put, Array.toArray_toList, List.setIfInBounds_toArray, List.set_cons_zero, List.set_cons_succ]
  refine wpAnyH_ready (rs := [19]) (by kernel_rfl) (by simp) ?_
  refine AllReadyH.cons rfl (fun K hK => ?_) AllReadyH.nil
  go_simp
  have hl := (Blk.new w1 64 (cmdF ⟨2, node, x, y + av, cw, ov, cv, sv, text⟩).toArray).drew
  have hF := (hF1.out.alloc (.cells (cmdF ⟨2, node, x, y + av, cw, ov, cv, sv, text⟩).toArray 64)).drew
  have hS := (hS1.out.alloc (.cells (cmdF ⟨2, node, x, y + av, cw, ov, cv, sv, text⟩).toArray 64)).drew
  have hbel := (below_alloc hbel1.out (.cells (cmdF ⟨2, node, x, y + av, cw, ov, cv, sv, text⟩).toArray 64)).drew
  refine hK.out _ _ (KEEP'.out _ hF hS) (fun hHeld => ?_)
  clear hK K
  try simp only [Act.put, Array.toArray_toList, List.setIfInBounds_toArray, List.set_cons_zero, List.set_cons_succ]
  refine wpAnyH_take (i := 20) (oi := { dst := some 6, op := _, type := _, pos := _, after := _, guard := _ }) (v := ?_) rfl (by kernel_rfl) (by kernel_rfl) (by kernel_rfl) (fun _ _ _ h => h) (Or.inl ⟨by kernel_rfl, ?_⟩) (by assumption) ?_
  rotate_left 1
  · (intro w hSw; (try dsimp only at hSw); go_simp; try with_reducible rfl)
  try simp only [Act.put, Array.toArray_toList, List.setIfInBounds_toArray, List.set_cons_zero, List.set_cons_succ]
  refine wpAnyH_done (by kernel_rfl) ?_ _
  refine NoPanic.normal ?_
  go_wp2_with fail
  go_ret
  exact ⟨_, rfl, own_of_blk (n := 1) hl (by have := hb.size; simp only [alloc_size] at this; omega) (by decide) rfl, hbel⟩
end Go.Proofs.YtkmmlcnoeeaekaaGreatDoor
