/- Several texts in one: Frame, PropT. -/
import Derived.Test.YtkmmlcnoeeaekaaGreatDoorPaintListM7
import Derived.Test.YtkmmlcnoeeaekaaGreatDoorPaintListM1
import Derived.Test.YtkmmlcnoeeaekaaGreatDoorPaintListM3
import Derived.Deep.MidRow
import Derived.Great.Walk
/- Contracts of margins.above and Frame. -/
namespace Go.Proofs.YtkmmlcnoeeaekaaGreatDoor
open Go.RowKit
set_option linter.unusedVariables false
attribute [local go_sem high] run_min2 run_max2

def quad (a b c d : Int) : Array Value := #[.int .i64 a, .int .i64 b, .int .i64 c, .int .i64 d]
set_option maxHeartbeats 400000 in
theorem above_calls (a b c d : Int) (w : World) :
    Calls Tryz.prog 135 #[.agg (quad a b c d)] w fun e w' => e = .returned (.agg (quad (max 0 a) (max 0 b) (max 0 c) (max 0 d))) ∧ Below w.heap.size w w' := by
  unfold quad
  go_enter Tryz.func135, Tryz.ntmps135
  go_wp2_with fail
  exact bodyPost_ret (v := .agg #[.int .i64 (max 0 a), .int .i64 (max 0 b), .int .i64 (max 0 c), .int .i64 (max 0 d)]) (results_cell_row Tryz.results135 _ _ (w.heap.size + 1) 141 _ (0, 0) _ rfl (by have := Blk.new (w.alloc (.cells #[.int .i64 a, .int .i64 b, .int .i64 c, .int .i64 d] 141)) 141 #[.int .i64 (max 0 a), .int .i64 (max 0 b), .int .i64 (max 0 c), .int .i64 (max 0 d)]; simp only [alloc_size] at this; exact this) Tryz.underlying141 rfl (by kernel_rfl)) rfl ⟨rfl, by repeat (first | exact Below.refl _ _ | refine below_alloc ?_ _)⟩

set_option maxRecDepth 100000 in
set_option maxHeartbeats 1000000 in
theorem frame1_calls (zs : List Int) (p room : Int) (gs gr : Nat) (w : World) (hz : zs.length = 118) (hp0 : 0 ≤ p) (hp1 : p + 3 < 59) (hS : StyAt w gs zs) (hr : w.cell? ⟨gr, 0, none⟩ = some (.int .i64 room)) (hgr : gr < w.heap.size) :
    Calls Tryz.prog 133 #[.int .i64 p, .pointer (some ⟨gs, 0, none⟩), .pointer (some ⟨gr, 0, none⟩)] w fun e w' => e = .returned (.agg (quad (len4 zs p room) (len4 zs (p + 1) room) (len4 zs (p + 2) room) (len4 zs (p + 3) room))) ∧ Below w.heap.size w w' := by
  have HSZ : Hid ((Tryz.prog.info? 35).map (·.size) = some (sty zs).size) := by show _ = _; rw [sty_size, hz]; kernel_rfl
  have hl := hS.lt
  have b1 := Blk.new w 141 (quad 0 0 0 0)
  have hS1 := hS.alloc (.cells (quad 0 0 0 0) 141)
  unfold quad at *
  go_enter Tryz.func133, Tryz.ntmps133
  go_wp2_with (first | (refine wpList_load_row rfl 35 _ rfl gs rfl 35 (sty zs) (0, 0) _ hS1 Tryz.underlying35 rfl HSZ.out ?_) | (go_at_call 134; refine (edges_calls _ _ _ _ _ _ _ hz).mono ?_; rintro e w1 ⟨rfl, hb1⟩; have hR := b1.below hb1 b1.lt; have f0 := hR.free 0; have f1 := hR.free 1; have f2 := hR.free 2; have f3 := hR.free 3; have q0 : w1.cell? ⟨w.heap.size, 0, none⟩ = some (.int .i64 0) := hR.cell 0; have q1 : w1.cell? ⟨w.heap.size, 1, none⟩ = some (.int .i64 0) := hR.cell 1; have q2 : w1.cell? ⟨w.heap.size, 2, none⟩ = some (.int .i64 0) := hR.cell 2; have q3 : w1.cell? ⟨w.heap.size, 3, none⟩ = some (.int .i64 0) := hR.cell 3; have hbel := below_then (below_alloc (Below.refl _ w) _) hb1))
  have hB := (((hR.stored 0 (.int .i64 (len4 zs p room))).stored 1 (.int .i64 (len4 zs (p + 1) room))).stored 2 (.int .i64 (len4 zs (p + 2) room))).stored 3 (.int .i64 (len4 zs (p + 3) room))
  exact bodyPost_ret (v := .agg #[.int .i64 (len4 zs p room), .int .i64 (len4 zs (p + 1) room), .int .i64 (len4 zs (p + 2) room), .int .i64 (len4 zs (p + 3) room)]) (results_cell_row Tryz.results133 _ _ w.heap.size 141 _ (0, 0) _ rfl hB Tryz.underlying141 rfl (by kernel_rfl)) rfl ⟨rfl, below_set (below_set (below_set (below_set hbel (by omega) _) (by omega) _) (by omega) _) (by omega) _⟩

/-- P312: margins, borders, paddings of a style. -/
def four (b : Bool) (zs : List Int) (p room : Int) : Array Value := quad (ab b (len4 zs p room)) (ab b (len4 zs (p + 1) room)) (ab b (len4 zs (p + 2) room)) (ab b (len4 zs (p + 3) room))
set_option maxRecDepth 100000 in
set_option maxHeartbeats 2000000 in
theorem frame_calls (zs : List Int) (room : Int) (w : World) (hz : zs.length = 118) :
    Calls Tryz.prog 79 #[.agg (sty zs), .int .i64 room] w fun e w' => e = .returned (.tuple #[.agg (four false zs 11 room), .agg (four true zs 19 room), .agg (four true zs 15 room)]) ∧ Below w.heap.size w w' := by
  have b0 := Blk.new w 35 (sty zs)
  have b1 := Blk.new (w.alloc (.cells (sty zs) 35)) 3 #[.int .i64 room]
  have b2 := Blk.new ((w.alloc (.cells (sty zs) 35)).alloc (.cells #[.int .i64 room] 3)) 141 (quad 0 0 0 0)
  have b3 := Blk.new (((w.alloc (.cells (sty zs) 35)).alloc (.cells #[.int .i64 room] 3)).alloc (.cells (quad 0 0 0 0) 141)) 141 (quad 0 0 0 0)
  have b4 := Blk.new ((((w.alloc (.cells (sty zs) 35)).alloc (.cells #[.int .i64 room] 3)).alloc (.cells (quad 0 0 0 0) 141)).alloc (.cells (quad 0 0 0 0) 141)) 141 (quad 0 0 0 0)
  simp only [alloc_size] at b1 b2 b3 b4
  have b0 := (((b0.alloc (.cells #[.int .i64 room] 3)).alloc (.cells (quad 0 0 0 0) 141)).alloc (.cells (quad 0 0 0 0) 141)).alloc (.cells (quad 0 0 0 0) 141)
  have b1 := ((b1.alloc (.cells (quad 0 0 0 0) 141)).alloc (.cells (quad 0 0 0 0) 141)).alloc (.cells (quad 0 0 0 0) 141)
  have b2 := (b2.alloc (.cells (quad 0 0 0 0) 141)).alloc (.cells (quad 0 0 0 0) 141)
  have b3 := b3.alloc (.cells (quad 0 0 0 0) 141)
  have hbel := below_alloc (below_alloc (below_alloc (below_alloc (below_alloc (Below.refl _ w) (.cells (sty zs) 35)) (.cells #[.int .i64 room] 3)) (.cells (quad 0 0 0 0) 141)) (.cells (quad 0 0 0 0) 141)) (.cells (quad 0 0 0 0) 141)
  go_enter Tryz.func79, Tryz.ntmps79
  go_wp2_with (first | (go_at_call 133; refine (frame1_calls zs _ room _ _ _ hz (by omega) (by omega) b0 (b1.cell 0) b1.lt).mono ?_; rintro e w1 ⟨rfl, hb1⟩; have b0 := b0.below hb1 b0.lt; have b1 := b1.below hb1 b1.lt; have b2 := b2.below hb1 b2.lt; have b3 := b3.below hb1 b3.lt; have b4 := b4.below hb1 b4.lt; have hbel := below_then hbel hb1) | (go_at_call 135; refine (above_calls _ _ _ _ _).mono ?_; rintro e w1 ⟨rfl, hb1⟩; have b0 := b0.below hb1 b0.lt; have b1 := b1.below hb1 b1.lt; have b2 := b2.below hb1 b2.lt; have b3 := b3.below hb1 b3.lt; have b4 := b4.below hb1 b4.lt; have hbel := below_then hbel hb1))
  have c00 : w1.cell? ⟨w.heap.size + 1 + 1, 0, none⟩ = some (.int .i64 0) := b2.cell 0
  have f00 := b2.free 0
  have c01 : w1.cell? ⟨w.heap.size + 1 + 1, 1, none⟩ = some (.int .i64 0) := b2.cell 1
  have f01 := b2.free 1
  have c02 : w1.cell? ⟨w.heap.size + 1 + 1, 2, none⟩ = some (.int .i64 0) := b2.cell 2
  have f02 := b2.free 2
  have c03 : w1.cell? ⟨w.heap.size + 1 + 1, 3, none⟩ = some (.int .i64 0) := b2.cell 3
  have f03 := b2.free 3
  have c10 : w1.cell? ⟨w.heap.size + 1 + 1 + 1, 0, none⟩ = some (.int .i64 0) := b3.cell 0
  have f10 := b3.free 0
  have c11 : w1.cell? ⟨w.heap.size + 1 + 1 + 1, 1, none⟩ = some (.int .i64 0) := b3.cell 1
  have f11 := b3.free 1
  have c12 : w1.cell? ⟨w.heap.size + 1 + 1 + 1, 2, none⟩ = some (.int .i64 0) := b3.cell 2
  have f12 := b3.free 2
  have c13 : w1.cell? ⟨w.heap.size + 1 + 1 + 1, 3, none⟩ = some (.int .i64 0) := b3.cell 3
  have f13 := b3.free 3
  have c20 : w1.cell? ⟨w.heap.size + 1 + 1 + 1 + 1, 0, none⟩ = some (.int .i64 0) := b4.cell 0
  have f20 := b4.free 0
  have c21 : w1.cell? ⟨w.heap.size + 1 + 1 + 1 + 1, 1, none⟩ = some (.int .i64 0) := b4.cell 1
  have f21 := b4.free 1
  have c22 : w1.cell? ⟨w.heap.size + 1 + 1 + 1 + 1, 2, none⟩ = some (.int .i64 0) := b4.cell 2
  have f22 := b4.free 2
  have c23 : w1.cell? ⟨w.heap.size + 1 + 1 + 1 + 1, 3, none⟩ = some (.int .i64 0) := b4.cell 3
  have f23 := b4.free 3
  have hq : ∀ a b c d, quad a b c d = #[.int .i64 a, .int .i64 b, .int .i64 c, .int .i64 d] := fun _ _ _ _ => rfl
  have B2 := Lib.hid b2
  have B3 := Lib.hid b3
  have B4 := Lib.hid b4
  have hl4 := b4.lt
  clear b0 b1 b2 b3 b4
  go_simp
  go_wp2_with fail
  have D2 := (Blk.far (Blk.far (Blk.far (Blk.far (Blk.far (Blk.far (Blk.far (Blk.far (Blk.stored (Blk.stored (Blk.stored (Blk.stored B2.out 0 (.int .i64 (len4 zs 11 room))) 1 (.int .i64 (len4 zs 12 room))) 2 (.int .i64 (len4 zs 13 room))) 3 (.int .i64 (len4 zs 14 room))) (b := w.heap.size + 1 + 1 + 1) (i := 0) (by omega) (.int .i64 (max 0 (len4 zs 19 room)))) (b := w.heap.size + 1 + 1 + 1) (i := 1) (by omega) (.int .i64 (max 0 (len4 zs 20 room)))) (b := w.heap.size + 1 + 1 + 1) (i := 2) (by omega) (.int .i64 (max 0 (len4 zs 21 room)))) (b := w.heap.size + 1 + 1 + 1) (i := 3) (by omega) (.int .i64 (max 0 (len4 zs 22 room)))) (b := w.heap.size + 1 + 1 + 1 + 1) (i := 0) (by omega) (.int .i64 (max 0 (len4 zs 15 room)))) (b := w.heap.size + 1 + 1 + 1 + 1) (i := 1) (by omega) (.int .i64 (max 0 (len4 zs 16 room)))) (b := w.heap.size + 1 + 1 + 1 + 1) (i := 2) (by omega) (.int .i64 (max 0 (len4 zs 17 room)))) (b := w.heap.size + 1 + 1 + 1 + 1) (i := 3) (by omega) (.int .i64 (max 0 (len4 zs 18 room))))
  have D3 := (Blk.far (Blk.far (Blk.far (Blk.far (Blk.stored (Blk.stored (Blk.stored (Blk.stored (Blk.far (Blk.far (Blk.far (Blk.far B3.out (b := w.heap.size + 1 + 1) (i := 0) (by omega) (.int .i64 (len4 zs 11 room))) (b := w.heap.size + 1 + 1) (i := 1) (by omega) (.int .i64 (len4 zs 12 room))) (b := w.heap.size + 1 + 1) (i := 2) (by omega) (.int .i64 (len4 zs 13 room))) (b := w.heap.size + 1 + 1) (i := 3) (by omega) (.int .i64 (len4 zs 14 room))) 0 (.int .i64 (max 0 (len4 zs 19 room)))) 1 (.int .i64 (max 0 (len4 zs 20 room)))) 2 (.int .i64 (max 0 (len4 zs 21 room)))) 3 (.int .i64 (max 0 (len4 zs 22 room)))) (b := w.heap.size + 1 + 1 + 1 + 1) (i := 0) (by omega) (.int .i64 (max 0 (len4 zs 15 room)))) (b := w.heap.size + 1 + 1 + 1 + 1) (i := 1) (by omega) (.int .i64 (max 0 (len4 zs 16 room)))) (b := w.heap.size + 1 + 1 + 1 + 1) (i := 2) (by omega) (.int .i64 (max 0 (len4 zs 17 room)))) (b := w.heap.size + 1 + 1 + 1 + 1) (i := 3) (by omega) (.int .i64 (max 0 (len4 zs 18 room))))
  have D4 := (Blk.stored (Blk.stored (Blk.stored (Blk.stored (Blk.far (Blk.far (Blk.far (Blk.far (Blk.far (Blk.far (Blk.far (Blk.far B4.out (b := w.heap.size + 1 + 1) (i := 0) (by omega) (.int .i64 (len4 zs 11 room))) (b := w.heap.size + 1 + 1) (i := 1) (by omega) (.int .i64 (len4 zs 12 room))) (b := w.heap.size + 1 + 1) (i := 2) (by omega) (.int .i64 (len4 zs 13 room))) (b := w.heap.size + 1 + 1) (i := 3) (by omega) (.int .i64 (len4 zs 14 room))) (b := w.heap.size + 1 + 1 + 1) (i := 0) (by omega) (.int .i64 (max 0 (len4 zs 19 room)))) (b := w.heap.size + 1 + 1 + 1) (i := 1) (by omega) (.int .i64 (max 0 (len4 zs 20 room)))) (b := w.heap.size + 1 + 1 + 1) (i := 2) (by omega) (.int .i64 (max 0 (len4 zs 21 room)))) (b := w.heap.size + 1 + 1 + 1) (i := 3) (by omega) (.int .i64 (max 0 (len4 zs 22 room)))) 0 (.int .i64 (max 0 (len4 zs 15 room)))) 1 (.int .i64 (max 0 (len4 zs 16 room)))) 2 (.int .i64 (max 0 (len4 zs 17 room)))) 3 (.int .i64 (max 0 (len4 zs 18 room))))
  have l2 := run_loadVar_row (P := Tryz.prog) _ _ _ 141 _ _ _ D2 Tryz.underlying141 rfl (by kernel_rfl)
  have l3 := run_loadVar_row (P := Tryz.prog) _ _ _ 141 _ _ _ D3 Tryz.underlying141 rfl (by kernel_rfl)
  have l4 := run_loadVar_row (P := Tryz.prog) _ _ _ 141 _ _ _ D4 Tryz.underlying141 rfl (by kernel_rfl)
  refine bodyPost_ret (v := .tuple #[.agg (four false zs 11 room), .agg (four true zs 19 room), .agg (four true zs 15 room)]) ?_ rfl ⟨rfl, (below_set (below_set (below_set (below_set (below_set (below_set (below_set (below_set (below_set (below_set (below_set (below_set hbel (b := w.heap.size + 1 + 1) (off := 0) (by omega) (.int .i64 (len4 zs 11 room))) (b := w.heap.size + 1 + 1) (off := 1) (by omega) (.int .i64 (len4 zs 12 room))) (b := w.heap.size + 1 + 1) (off := 2) (by omega) (.int .i64 (len4 zs 13 room))) (b := w.heap.size + 1 + 1) (off := 3) (by omega) (.int .i64 (len4 zs 14 room))) (b := w.heap.size + 1 + 1 + 1) (off := 0) (by omega) (.int .i64 (max 0 (len4 zs 19 room)))) (b := w.heap.size + 1 + 1 + 1) (off := 1) (by omega) (.int .i64 (max 0 (len4 zs 20 room)))) (b := w.heap.size + 1 + 1 + 1) (off := 2) (by omega) (.int .i64 (max 0 (len4 zs 21 room)))) (b := w.heap.size + 1 + 1 + 1) (off := 3) (by omega) (.int .i64 (max 0 (len4 zs 22 room)))) (b := w.heap.size + 1 + 1 + 1 + 1) (off := 0) (by omega) (.int .i64 (max 0 (len4 zs 15 room)))) (b := w.heap.size + 1 + 1 + 1 + 1) (off := 1) (by omega) (.int .i64 (max 0 (len4 zs 16 room)))) (b := w.heap.size + 1 + 1 + 1 + 1) (off := 2) (by omega) (.int .i64 (max 0 (len4 zs 17 room)))) (b := w.heap.size + 1 + 1 + 1 + 1) (off := 3) (by omega) (.int .i64 (max 0 (len4 zs 18 room))))⟩
  simp [results, Tryz.results79, asAddr, l2, l3, l4]
  exact ⟨rfl, rfl, rfl⟩
end Go.Proofs.YtkmmlcnoeeaekaaGreatDoor
/- The rows of prop.go, as a table. -/
namespace Go.Proofs.YtkmmlcnoeeaekaaGreatDoor
open Go.RowKit
set_option linter.unusedVariables false

structure PropV where
  name : ByteArray
  kinds : ByteArray
  keys : ByteArray
  auto : ByteArray
  above : Bool
def PropV.zero : PropV := ⟨⟨#[]⟩, ⟨#[]⟩, ⟨#[]⟩, ⟨#[]⟩, false⟩
def propF (x : PropV) : List Value := [.string x.name, .string x.kinds, .string x.keys, .string x.auto, .bool x.above]
def propT1 : List PropV := [
  ⟨⟨#[100, 105, 115, 112, 108, 97, 121]⟩, ⟨#[107]⟩, ⟨#[110, 111, 110, 101, 32, 105, 110, 108, 105, 110, 101, 32, 98, 108, 111, 99, 107, 32, 105, 110, 108, 105, 110, 101, 45, 98, 108, 111, 99, 107, 32, 102, 108, 101, 120, 32, 116, 97, 98, 108, 101, 32, 116, 97, 98, 108, 101, 45, 114, 111, 119, 32, 116, 97, 98, 108, 101, 45, 99, 101, 108, 108, 32, 108, 105, 115, 116, 45, 105, 116, 101, 109, 32, 99, 111, 110, 116, 101, 110, 116, 115]⟩, ⟨#[]⟩, false⟩,
  ⟨⟨#[112, 111, 115, 105, 116, 105, 111, 110]⟩, ⟨#[107]⟩, ⟨#[115, 116, 97, 116, 105, 99, 32, 114, 101, 108, 97, 116, 105, 118, 101, 32, 97, 98, 115, 111, 108, 117, 116, 101, 32, 102, 105, 120, 101, 100]⟩, ⟨#[]⟩, false⟩,
  ⟨⟨#[102, 108, 111, 97, 116]⟩, ⟨#[107]⟩, ⟨#[110, 111, 110, 101, 32, 108, 101, 102, 116, 32, 114, 105, 103, 104, 116]⟩, ⟨#[]⟩, false⟩,
  ⟨⟨#[99, 108, 101, 97, 114]⟩, ⟨#[107]⟩, ⟨#[110, 111, 110, 101, 32, 108, 101, 102, 116, 32, 114, 105, 103, 104, 116, 32, 98, 111, 116, 104]⟩, ⟨#[]⟩, false⟩,
  ⟨⟨#[98, 111, 120, 45, 115, 105, 122, 105, 110, 103]⟩, ⟨#[107]⟩, ⟨#[99, 111, 110, 116, 101, 110, 116, 45, 98, 111, 120, 32, 98, 111, 114, 100, 101, 114, 45, 98, 111, 120]⟩, ⟨#[]⟩, false⟩,
  ⟨⟨#[119, 105, 100, 116, 104]⟩, ⟨#[108, 112, 97]⟩, ⟨#[]⟩, ⟨#[97, 117, 116, 111]⟩, true⟩,
  ⟨⟨#[104, 101, 105, 103, 104, 116]⟩, ⟨#[108, 112, 97]⟩, ⟨#[]⟩, ⟨#[97, 117, 116, 111]⟩, true⟩,
  ⟨⟨#[109, 105, 110, 45, 119, 105, 100, 116, 104]⟩, ⟨#[108, 112, 97]⟩, ⟨#[]⟩, ⟨#[97, 117, 116, 111]⟩, true⟩,
  ⟨⟨#[109, 105, 110, 45, 104, 101, 105, 103, 104, 116]⟩, ⟨#[108, 112, 97]⟩, ⟨#[]⟩, ⟨#[97, 117, 116, 111]⟩, true⟩,
  ⟨⟨#[109, 97, 120, 45, 119, 105, 100, 116, 104]⟩, ⟨#[108, 112, 97]⟩, ⟨#[]⟩, ⟨#[110, 111, 110, 101]⟩, true⟩,
  ⟨⟨#[109, 97, 120, 45, 104, 101, 105, 103, 104, 116]⟩, ⟨#[108, 112, 97]⟩, ⟨#[]⟩, ⟨#[110, 111, 110, 101]⟩, true⟩,
  ⟨⟨#[109, 97, 114, 103, 105, 110, 45, 116, 111, 112]⟩, ⟨#[108, 112, 97]⟩, ⟨#[]⟩, ⟨#[97, 117, 116, 111]⟩, false⟩,
  ⟨⟨#[109, 97, 114, 103, 105, 110, 45, 114, 105, 103, 104, 116]⟩, ⟨#[108, 112, 97]⟩, ⟨#[]⟩, ⟨#[97, 117, 116, 111]⟩, false⟩,
  ⟨⟨#[109, 97, 114, 103, 105, 110, 45, 98, 111, 116, 116, 111, 109]⟩, ⟨#[108, 112, 97]⟩, ⟨#[]⟩, ⟨#[97, 117, 116, 111]⟩, false⟩,
  ⟨⟨#[109, 97, 114, 103, 105, 110, 45, 108, 101, 102, 116]⟩, ⟨#[108, 112, 97]⟩, ⟨#[]⟩, ⟨#[97, 117, 116, 111]⟩, false⟩,
  ⟨⟨#[112, 97, 100, 100, 105, 110, 103, 45, 116, 111, 112]⟩, ⟨#[108, 112]⟩, ⟨#[]⟩, ⟨#[]⟩, true⟩,
  ⟨⟨#[112, 97, 100, 100, 105, 110, 103, 45, 114, 105, 103, 104, 116]⟩, ⟨#[108, 112]⟩, ⟨#[]⟩, ⟨#[]⟩, true⟩,
  ⟨⟨#[112, 97, 100, 100, 105, 110, 103, 45, 98, 111, 116, 116, 111, 109]⟩, ⟨#[108, 112]⟩, ⟨#[]⟩, ⟨#[]⟩, true⟩,
  ⟨⟨#[112, 97, 100, 100, 105, 110, 103, 45, 108, 101, 102, 116]⟩, ⟨#[108, 112]⟩, ⟨#[]⟩, ⟨#[]⟩, true⟩,
  ⟨⟨#[98, 111, 114, 100, 101, 114, 45, 116, 111, 112, 45, 119, 105, 100, 116, 104]⟩, ⟨#[108]⟩, ⟨#[]⟩, ⟨#[]⟩, true⟩]
def propT2 : List PropV := [
  ⟨⟨#[98, 111, 114, 100, 101, 114, 45, 114, 105, 103, 104, 116, 45, 119, 105, 100, 116, 104]⟩, ⟨#[108]⟩, ⟨#[]⟩, ⟨#[]⟩, true⟩,
  ⟨⟨#[98, 111, 114, 100, 101, 114, 45, 98, 111, 116, 116, 111, 109, 45, 119, 105, 100, 116, 104]⟩, ⟨#[108]⟩, ⟨#[]⟩, ⟨#[]⟩, true⟩,
  ⟨⟨#[98, 111, 114, 100, 101, 114, 45, 108, 101, 102, 116, 45, 119, 105, 100, 116, 104]⟩, ⟨#[108]⟩, ⟨#[]⟩, ⟨#[]⟩, true⟩,
  ⟨⟨#[98, 111, 114, 100, 101, 114, 45, 116, 111, 112, 45, 99, 111, 108, 111, 114]⟩, ⟨#[99]⟩, ⟨#[]⟩, ⟨#[]⟩, false⟩,
  ⟨⟨#[98, 111, 114, 100, 101, 114, 45, 114, 105, 103, 104, 116, 45, 99, 111, 108, 111, 114]⟩, ⟨#[99]⟩, ⟨#[]⟩, ⟨#[]⟩, false⟩,
  ⟨⟨#[98, 111, 114, 100, 101, 114, 45, 98, 111, 116, 116, 111, 109, 45, 99, 111, 108, 111, 114]⟩, ⟨#[99]⟩, ⟨#[]⟩, ⟨#[]⟩, false⟩,
  ⟨⟨#[98, 111, 114, 100, 101, 114, 45, 108, 101, 102, 116, 45, 99, 111, 108, 111, 114]⟩, ⟨#[99]⟩, ⟨#[]⟩, ⟨#[]⟩, false⟩,
  ⟨⟨#[116, 111, 112]⟩, ⟨#[108, 112, 97]⟩, ⟨#[]⟩, ⟨#[97, 117, 116, 111]⟩, false⟩,
  ⟨⟨#[114, 105, 103, 104, 116]⟩, ⟨#[108, 112, 97]⟩, ⟨#[]⟩, ⟨#[97, 117, 116, 111]⟩, false⟩,
  ⟨⟨#[98, 111, 116, 116, 111, 109]⟩, ⟨#[108, 112, 97]⟩, ⟨#[]⟩, ⟨#[97, 117, 116, 111]⟩, false⟩,
  ⟨⟨#[108, 101, 102, 116]⟩, ⟨#[108, 112, 97]⟩, ⟨#[]⟩, ⟨#[97, 117, 116, 111]⟩, false⟩,
  ⟨⟨#[122, 45, 105, 110, 100, 101, 120]⟩, ⟨#[110, 97]⟩, ⟨#[]⟩, ⟨#[97, 117, 116, 111]⟩, false⟩,
  ⟨⟨#[111, 118, 101, 114, 102, 108, 111, 119]⟩, ⟨#[107]⟩, ⟨#[118, 105, 115, 105, 98, 108, 101, 32, 104, 105, 100, 100, 101, 110]⟩, ⟨#[]⟩, false⟩,
  ⟨⟨#[118, 105, 115, 105, 98, 105, 108, 105, 116, 121]⟩, ⟨#[107]⟩, ⟨#[118, 105, 115, 105, 98, 108, 101, 32, 104, 105, 100, 100, 101, 110]⟩, ⟨#[]⟩, false⟩,
  ⟨⟨#[111, 112, 97, 99, 105, 116, 121]⟩, ⟨#[110]⟩, ⟨#[]⟩, ⟨#[]⟩, true⟩,
  ⟨⟨#[99, 111, 108, 111, 114]⟩, ⟨#[99]⟩, ⟨#[]⟩, ⟨#[]⟩, false⟩,
  ⟨⟨#[98, 97, 99, 107, 103, 114, 111, 117, 110, 100, 45, 99, 111, 108, 111, 114]⟩, ⟨#[99]⟩, ⟨#[]⟩, ⟨#[]⟩, false⟩,
  ⟨⟨#[102, 111, 110, 116, 45, 115, 105, 122, 101]⟩, ⟨#[108]⟩, ⟨#[]⟩, ⟨#[]⟩, true⟩,
  ⟨⟨#[108, 105, 110, 101, 45, 104, 101, 105, 103, 104, 116]⟩, ⟨#[108, 110, 97]⟩, ⟨#[]⟩, ⟨#[110, 111, 114, 109, 97, 108]⟩, true⟩,
  ⟨⟨#[116, 101, 120, 116, 45, 97, 108, 105, 103, 110]⟩, ⟨#[107]⟩, ⟨#[115, 116, 97, 114, 116, 32, 101, 110, 100, 32, 99, 101, 110, 116, 101, 114, 32, 106, 117, 115, 116, 105, 102, 121]⟩, ⟨#[]⟩, false⟩]
def propT3 : List PropV := [
  ⟨⟨#[116, 101, 120, 116, 45, 105, 110, 100, 101, 110, 116]⟩, ⟨#[108, 112]⟩, ⟨#[]⟩, ⟨#[]⟩, false⟩,
  ⟨⟨#[119, 104, 105, 116, 101, 45, 115, 112, 97, 99, 101]⟩, ⟨#[107]⟩, ⟨#[110, 111, 114, 109, 97, 108, 32, 112, 114, 101, 32, 110, 111, 119, 114, 97, 112, 32, 112, 114, 101, 45, 119, 114, 97, 112]⟩, ⟨#[]⟩, false⟩,
  ⟨⟨#[118, 101, 114, 116, 105, 99, 97, 108, 45, 97, 108, 105, 103, 110]⟩, ⟨#[107, 108]⟩, ⟨#[98, 97, 115, 101, 108, 105, 110, 101, 32, 116, 111, 112, 32, 109, 105, 100, 100, 108, 101, 32, 98, 111, 116, 116, 111, 109]⟩, ⟨#[]⟩, false⟩,
  ⟨⟨#[116, 101, 120, 116, 45, 116, 114, 97, 110, 115, 102, 111, 114, 109]⟩, ⟨#[107]⟩, ⟨#[110, 111, 110, 101, 32, 117, 112, 112, 101, 114, 99, 97, 115, 101, 32, 108, 111, 119, 101, 114, 99, 97, 115, 101]⟩, ⟨#[]⟩, false⟩,
  ⟨⟨#[108, 101, 116, 116, 101, 114, 45, 115, 112, 97, 99, 105, 110, 103]⟩, ⟨#[108, 97]⟩, ⟨#[]⟩, ⟨#[110, 111, 114, 109, 97, 108]⟩, false⟩,
  ⟨⟨#[102, 108, 101, 120, 45, 100, 105, 114, 101, 99, 116, 105, 111, 110]⟩, ⟨#[107]⟩, ⟨#[114, 111, 119, 32, 114, 111, 119, 45, 114, 101, 118, 101, 114, 115, 101, 32, 99, 111, 108, 117, 109, 110, 32, 99, 111, 108, 117, 109, 110, 45, 114, 101, 118, 101, 114, 115, 101]⟩, ⟨#[]⟩, false⟩,
  ⟨⟨#[102, 108, 101, 120, 45, 119, 114, 97, 112]⟩, ⟨#[107]⟩, ⟨#[110, 111, 119, 114, 97, 112, 32, 119, 114, 97, 112]⟩, ⟨#[]⟩, false⟩,
  ⟨⟨#[106, 117, 115, 116, 105, 102, 121, 45, 99, 111, 110, 116, 101, 110, 116]⟩, ⟨#[107]⟩, ⟨#[102, 108, 101, 120, 45, 115, 116, 97, 114, 116, 32, 102, 108, 101, 120, 45, 101, 110, 100, 32, 99, 101, 110, 116, 101, 114, 32, 45, 32, 115, 112, 97, 99, 101, 45, 98, 101, 116, 119, 101, 101, 110, 32, 115, 112, 97, 99, 101, 45, 97, 114, 111, 117, 110, 100]⟩, ⟨#[]⟩, false⟩,
  ⟨⟨#[97, 108, 105, 103, 110, 45, 105, 116, 101, 109, 115]⟩, ⟨#[107]⟩, ⟨#[102, 108, 101, 120, 45, 115, 116, 97, 114, 116, 32, 102, 108, 101, 120, 45, 101, 110, 100, 32, 99, 101, 110, 116, 101, 114, 32, 45, 32, 45, 32, 45, 32, 115, 116, 114, 101, 116, 99, 104]⟩, ⟨#[]⟩, false⟩,
  ⟨⟨#[97, 108, 105, 103, 110, 45, 115, 101, 108, 102]⟩, ⟨#[107, 97]⟩, ⟨#[102, 108, 101, 120, 45, 115, 116, 97, 114, 116, 32, 102, 108, 101, 120, 45, 101, 110, 100, 32, 99, 101, 110, 116, 101, 114, 32, 45, 32, 45, 32, 45, 32, 115, 116, 114, 101, 116, 99, 104]⟩, ⟨#[97, 117, 116, 111]⟩, false⟩,
  ⟨⟨#[102, 108, 101, 120, 45, 103, 114, 111, 119]⟩, ⟨#[110]⟩, ⟨#[]⟩, ⟨#[]⟩, true⟩,
  ⟨⟨#[102, 108, 101, 120, 45, 115, 104, 114, 105, 110, 107]⟩, ⟨#[110]⟩, ⟨#[]⟩, ⟨#[]⟩, true⟩,
  ⟨⟨#[102, 108, 101, 120, 45, 98, 97, 115, 105, 115]⟩, ⟨#[108, 112, 97]⟩, ⟨#[]⟩, ⟨#[97, 117, 116, 111]⟩, true⟩,
  ⟨⟨#[111, 114, 100, 101, 114]⟩, ⟨#[110]⟩, ⟨#[]⟩, ⟨#[]⟩, false⟩,
  ⟨⟨#[103, 97, 112]⟩, ⟨#[108]⟩, ⟨#[]⟩, ⟨#[]⟩, true⟩,
  ⟨⟨#[116, 97, 98, 108, 101, 45, 108, 97, 121, 111, 117, 116]⟩, ⟨#[107]⟩, ⟨#[97, 117, 116, 111, 32, 102, 105, 120, 101, 100]⟩, ⟨#[]⟩, false⟩,
  ⟨⟨#[98, 111, 114, 100, 101, 114, 45, 115, 112, 97, 99, 105, 110, 103]⟩, ⟨#[108]⟩, ⟨#[]⟩, ⟨#[]⟩, true⟩,
  ⟨⟨#[108, 105, 115, 116, 45, 115, 116, 121, 108, 101, 45, 116, 121, 112, 101]⟩, ⟨#[107]⟩, ⟨#[110, 111, 110, 101, 32, 100, 105, 115, 99, 32, 100, 101, 99, 105, 109, 97, 108]⟩, ⟨#[]⟩, false⟩,
  ⟨⟨#[112, 111, 105, 110, 116, 101, 114, 45, 101, 118, 101, 110, 116, 115]⟩, ⟨#[107]⟩, ⟨#[97, 117, 116, 111, 32, 110, 111, 110, 101]⟩, ⟨#[]⟩, false⟩]
def propAt (p : Nat) : PropV := (propT1 ++ propT2 ++ propT3).getD p PropV.zero
def tbl1 : Array Value := (propT1.flatMap propF).toArray
def tbl2 : Array Value := (propT2.flatMap propF).toArray
def tbl3 : Array Value := (propT3.flatMap propF).toArray
theorem propAt1 {p : Nat} (h : p < 20) : propAt p = propT1.getD p PropV.zero := by
  unfold propAt
  rw [List.getD_eq_getElem?_getD, List.getD_eq_getElem?_getD, List.append_assoc, List.getElem?_append_left (show p < propT1.length from h)]
theorem propAt2 {p : Nat} (h : p < 20) : propAt (p + 20) = propT2.getD p PropV.zero := by
  unfold propAt
  rw [List.getD_eq_getElem?_getD, List.getD_eq_getElem?_getD, List.append_assoc, List.getElem?_append_right (show propT1.length ≤ p + 20 from Nat.le_add_left _ _), List.getElem?_append_left (show p + 20 - propT1.length < propT2.length from by show p + 20 - 20 < 20; omega)]
  congr 2
theorem propAt3 {p : Nat} (h : p < 19) : propAt (p + 40) = propT3.getD p PropV.zero := by
  unfold propAt
  rw [List.getD_eq_getElem?_getD, List.getD_eq_getElem?_getD, List.getElem?_append_right (show (propT1 ++ propT2).length ≤ p + 40 from Nat.le_add_left _ _)]
  congr 2
theorem flat_get5 : ∀ (l : List PropV) (k j : Nat), k < l.length → j < 5 → (l.flatMap propF)[k * 5 + j]? = (propF (l.getD k PropV.zero))[j]?
  | [], k, j, h, _ => by simp at h
  | x :: l, 0, j, h, hj => by
    rw [List.flatMap_cons, Nat.zero_mul, Nat.zero_add, List.getElem?_append_left (by simpa [propF] using hj)]
    simp
  | x :: l, k + 1, j, h, hj => by
    have hl : (propF x).length = 5 := rfl
    rw [List.flatMap_cons, List.getElem?_append_right (by rw [hl]; omega), hl]
    have e : (k + 1) * 5 + j - 5 = k * 5 + j := by omega
    rw [e, flat_get5 l k j (by simpa using h) hj]
    simp
theorem tbl_range {w : World} {g : Nat} {T : TypeId} {l : List PropV} (h : Blk w g T (l.flatMap propF).toArray) {m : Nat} (hm : m < l.length) : w.rangeAt g (m * 5) (propF (l.getD m PropV.zero)) := fun j v hj => by
  have hc := h.cell (m * 5 + j)
  rw [hc, List.getElem?_toArray]
  have hj5 : j < 5 := by
    rcases Nat.lt_or_ge j 5 with h7 | h7
    · exact h7
    · rw [List.getElem?_eq_none (by simpa [propF] using h7)] at hj; cases hj
  rw [flat_get5 l m j hm hj5]
  exact hj
end Go.Proofs.YtkmmlcnoeeaekaaGreatDoor
