/- Contract of paint's fill. -/
import Derived.Test.YtkppignoomnmdaaPaintA
import Derived.Test.YtkppignoomnmdaaRow
import Derived.Deep.RegionHeld3
namespace Go.Proofs.Ytkppignoomnmdaa
open Go.RowKit
set_option linter.unusedVariables false
set_option linter.unusedSimpArgs false
attribute [local go_sem high] run_min2 run_max2

def fillC (node x y w h color : Int) : CmdV := ⟨1, node, x, y, w, h, color, 0, ⟨#[]⟩⟩
/-- A fragment: Box, Node, Parent, X, Y, W, H, Text. -/
structure FragV where
  box : Int
  node : Int
  par : Int
  x : Int
  y : Int
  w : Int
  h : Int
  text : ByteArray
def fragC (f : FragV) : Array Value := #[.int .i64 f.box, .int .i64 f.node, .int .i64 f.par, .int .i64 f.x, .int .i64 f.y, .int .i64 f.w, .int .i64 f.h, .string f.text]
set_option maxRecDepth 100000 in
set_option maxHeartbeats 1000000 in
theorem fill_calls (zs : List Int) (p : Nat) (x y cw ch : Int) (f : FragV) (gf gs : Nat) (w : World) (hz : zs.length = 118) (hp : p < 59) (hF : Blk w gf 40 (fragC f)) (hS : Blk w gs 44 (sty zs)) :
    Calls Try.prog 57 #[.int .i64 x, .int .i64 y, .int .i64 cw, .int .i64 ch, .int .i64 p, .pointer (some ⟨gf, 0, none⟩), .pointer (some ⟨gs, 0, none⟩)] w fun e w' => e = .returned (.agg (cmdF (fillC f.node x y cw ch (stN zs p))).toArray) ∧ Below w.heap.size w w' := by
  obtain ⟨node, hn⟩ : ∃ n, n = f.node := ⟨_, rfl⟩
  have hpi : (p : Int) < 59 := by omega
  have hp0 : (0 : Int) ≤ (p : Int) := by omega
  have KEEP : ∀ w', Blk w' gf 40 (fragC f) → Blk w' gs 44 (sty zs) → w'.cell? ⟨gf, 1, none⟩ = some (.int .i64 node) ∧ w'.cell? ⟨gs, p * 2 + 1, none⟩ = some (.int .i64 (stN zs p)) := fun w' h1 h2 => ⟨by rw [hn]; exact h1.cell 1, (h2.cell _).trans (sty_at zs _ (by omega))⟩
  rw [← hn]
  have KEEP' := Lib.hid KEEP
  have HS := Lib.hid hS
  have HF := Lib.hid hF
  have be := (Blk.new w 48 #[.int .i64 0, .int .i64 0, .int .i64 0, .int .i64 0, .int .i64 0, .int .i64 0, .int .i64 0, .int .i64 0, .string ⟨#[]⟩]).drew
  have hF := (hF.alloc (.cells #[.int .i64 0, .int .i64 0, .int .i64 0, .int .i64 0, .int .i64 0, .int .i64 0, .int .i64 0, .int .i64 0, .string ⟨#[]⟩] 48)).drew
  have hS := (hS.alloc (.cells #[.int .i64 0, .int .i64 0, .int .i64 0, .int .i64 0, .int .i64 0, .int .i64 0, .int .i64 0, .int .i64 0, .string ⟨#[]⟩] 48)).drew
  have hbel := (below_alloc (Below.refl _ w) (.cells #[.int .i64 0, .int .i64 0, .int .i64 0, .int .i64 0, .int .i64 0, .int .i64 0, .int .i64 0, .int .i64 0, .string ⟨#[]⟩] 48)).drew
  clear KEEP hn
  go_enter Try.func57, Try.ntmps57
  go_wp2_with fail
  refine wp_region_noPanic ?_
  refine wp_region_held_drew (S := fun w' => w'.cell? ⟨gf, 1, none⟩ = some (.int .i64 node) ∧ w'.cell? ⟨gs, p * 2 + 1, none⟩ = some (.int .i64 (stN zs p))) (by kernel_rfl) (KEEP'.out _ hF hS) (fun hHeld => ?_)
  refine wpAnyH_take (i := 0) (oi := { dst := some 13, op := _, type := _, pos := _, after := _, guard := _ }) (v := ?_) rfl (by kernel_rfl) (by kernel_rfl) (by kernel_rfl) (fun _ _ _ h => h) (Or.inl ⟨by kernel_rfl, ?_⟩) (by assumption) ?_
  rotate_left 1
  · (intro w hSw; (try dsimp only at hSw); go_simp; try with_reducible rfl)
  try simp only [Act.put, Array.toArray_toList, List.setIfInBounds_toArray, List.set_cons_zero, List.set_cons_succ]
  refine wpAnyH_take (i := 1) (oi := { dst := some 14, op := _, type := _, pos := _, after := _, guard := _ }) (v := ?_) rfl (by kernel_rfl) (by kernel_rfl) (by kernel_rfl) (fun _ _ _ h => h) (Or.inl ⟨by kernel_rfl, ?_⟩) (by assumption) ?_
  rotate_left 1
  · (intro w hSw; (try dsimp only at hSw); go_simp; try with_reducible rfl)
  try simp only [Act.put, Array.toArray_toList, List.setIfInBounds_toArray, List.set_cons_zero, List.set_cons_succ]
  refine wpAnyH_take (i := 2) (oi := { dst := some 15, op := _, type := _, pos := _, after := _, guard := _ }) (v := ?_) rfl (by kernel_rfl) (by kernel_rfl) (by kernel_rfl) (fun _ _ _ h => h) (Or.inl ⟨by kernel_rfl, ?_⟩) (by assumption) ?_
  rotate_left 1
  · (intro w hSw; (try dsimp only at hSw); go_simp; try with_reducible rfl)
  try simp only [Act.put, Array.toArray_toList, List.setIfInBounds_toArray, List.set_cons_zero, List.set_cons_succ]
  refine wpAnyH_take (i := 3) (oi := { dst := some 16, op := _, type := _, pos := _, after := _, guard := _ }) (v := ?_) rfl (by kernel_rfl) (by kernel_rfl) (by kernel_rfl) (fun _ _ _ h => h) (Or.inl ⟨by kernel_rfl, ?_⟩) (by assumption) ?_
  rotate_left 1
  · (intro w hSw; (try dsimp only at hSw); go_simp; try with_reducible rfl)
  try simp only [Act.put, Array.toArray_toList, List.setIfInBounds_toArray, List.set_cons_zero, List.set_cons_succ]
  refine wpAnyH_take (i := 4) (oi := { dst := some 17, op := _, type := _, pos := _, after := _, guard := _ }) (v := ?_) rfl (by kernel_rfl) (by kernel_rfl) (by kernel_rfl) (fun _ _ _ h => h) (Or.inl ⟨by kernel_rfl, ?_⟩) (by assumption) ?_
  rotate_left 1
  · (intro w hSw; (try dsimp only at hSw); go_simp; try with_reducible rfl)
  try simp only [Act.put, Array.toArray_toList, List.setIfInBounds_toArray, List.set_cons_zero, List.set_cons_succ]
  refine wpAnyH_take (i := 5) (oi := { dst := some 18, op := _, type := _, pos := _, after := _, guard := _ }) (v := ?_) rfl (by kernel_rfl) (by kernel_rfl) (by kernel_rfl) (fun _ _ _ h => h) (Or.inl ⟨by kernel_rfl, ?_⟩) (by assumption) ?_
  rotate_left 1
  · (intro w hSw; (try dsimp only at hSw); go_simp; try with_reducible rfl)
  try simp only [Act.put, Array.toArray_toList, List.setIfInBounds_toArray, List.set_cons_zero, List.set_cons_succ]
  refine wpAnyH_take (i := 6) (oi := { dst := some 19, op := _, type := _, pos := _, after := _, guard := _ }) (v := ?_) rfl (by kernel_rfl) (by kernel_rfl) (by kernel_rfl) (fun _ _ _ h => h) (Or.inl ⟨by kernel_rfl, ?_⟩) (by assumption) ?_
  rotate_left 1
  · (intro w hSw; (try dsimp only at hSw); go_simp; try with_reducible rfl)
  try simp only [Act.put, Array.toArray_toList, List.setIfInBounds_toArray, List.set_cons_zero, List.set_cons_succ]
  refine wpAnyH_take (i := 7) (oi := { dst := some 20, op := _, type := _, pos := _, after := _, guard := _ }) (v := ?_) rfl (by kernel_rfl) (by kernel_rfl) (by kernel_rfl) (fun _ _ _ h => h) (Or.inl ⟨by kernel_rfl, ?_⟩) (by assumption) ?_
  rotate_left 1
  · (intro w hSw; (try dsimp only at hSw); go_simp; try with_reducible rfl)
  try simp only [Act.put, Array.toArray_toList, List.setIfInBounds_toArray, List.set_cons_zero, List.set_cons_succ]
  refine wpAnyH_take (i := 8) (oi := { dst := some 21, op := _, type := _, pos := _, after := _, guard := _ }) (v := ?_) rfl (by kernel_rfl) (by kernel_rfl) (by kernel_rfl) (fun _ _ _ h => h) (Or.inl ⟨by kernel_rfl, ?_⟩) (by assumption) ?_
  rotate_left 1
  · (intro w hSw; (try dsimp only at hSw); go_simp; try with_reducible rfl)
  try simp only [Act.put, Array.toArray_toList, List.setIfInBounds_toArray, List.set_cons_zero, List.set_cons_succ]
  refine wpAnyH_take (i := 9) (oi := { dst := some 22, op := _, type := _, pos := _, after := _, guard := _ }) (v := ?_) rfl (by kernel_rfl) (by kernel_rfl) (by kernel_rfl) (fun _ _ _ h => h) (Or.inl ⟨by kernel_rfl, ?_⟩) (by assumption) ?_
  rotate_left 1
  · (intro w hSw; (try dsimp only at hSw); go_simp; try with_reducible rfl)
  try simp only [Act.put, Array.toArray_toList, List.setIfInBounds_toArray, List.set_cons_zero, List.set_cons_succ]
  refine wpAnyH_take (i := 10) (oi := { dst := some 23, op := _, type := _, pos := _, after := _, guard := _ }) (v := ?_) rfl (by kernel_rfl) (by kernel_rfl) (by kernel_rfl) (fun _ _ _ h => h) (Or.inl ⟨by kernel_rfl, ?_⟩) (by assumption) ?_
  rotate_left 1
  · (intro w hSw; (try dsimp only at hSw); go_simp; try with_reducible rfl)
  try simp only [Act.put, Array.toArray_toList, List.setIfInBounds_toArray, List.set_cons_zero, List.set_cons_succ]
  refine wpAnyH_ready (rs := [11]) (by kernel_rfl) (by simp) ?_
  refine AllReadyH.cons rfl (fun K hK => ?_) AllReadyH.nil
  rw [if_pos (by kernel_rfl)]
  refine wp_store_mid _ _ _ rfl w.heap.size 0 (cmdF (fillC node x y cw ch (stN zs p))).toArray rfl rfl (be.there _ (by simp [cmdF])) (by kernel_rfl) (by simp [cmdF, Value.oneCell']) ?_
  have hS := Blk.farCells (b := w.heap.size) (by have := HS.out.lt; omega) ((cmdF (fillC node x y cw ch (stN zs p))).toArray).toList 0 _ _ hS
  have hF := Blk.farCells (b := w.heap.size) (by have := HF.out.lt; omega) ((cmdF (fillC node x y cw ch (stN zs p))).toArray).toList 0 _ _ hF
  have hbel := below_setCells (b := w.heap.size) (Nat.le_refl _) ((cmdF (fillC node x y cw ch (stN zs p))).toArray).toList 0 _ hbel
  have be := be.setAll (cmdF (fillC node x y cw ch (stN zs p))).toArray rfl
  refine hK.out _ _ (KEEP'.out _ hF hS) (fun hHeld => ?_)
  clear hK K
  try simp only [Act.put, Array.toArray_toList, List.setIfInBounds_toArray, List.set_cons_zero, List.set_cons_succ]
  refine wpAnyH_done (by kernel_rfl) ?_ _
  refine NoPanic.normal ?_
  go_wp2_with fail
  exact bodyPost_ret (v := .agg (cmdF (fillC node x y cw ch (stN zs p))).toArray) (results_cell_row Try.results57 _ _ w.heap.size 48 _ (0, 0) _ rfl be Try.underlying48 rfl (by kernel_rfl)) rfl ⟨rfl, hbel⟩
end Go.Proofs.Ytkppignoomnmdaa
