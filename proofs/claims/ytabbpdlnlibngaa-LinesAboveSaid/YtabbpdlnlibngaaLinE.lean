/- Contracts for the closed fact lined: a line's beginning, a group's width. -/
import Derived.Test.YtabbpdlnlibngaaLinD
namespace Go.Proofs.Ytabbpdlnlibngaa
open Go.RowKit Go.Sort
set_option linter.unusedVariables false
set_option linter.unusedSimpArgs false
attribute [local go_sem high] run_min2 run_max2

set_option maxRecDepth 100000 in
set_option maxHeartbeats 2000000 in
theorem begin_calls (gB gF : Nat) (y left right : Int) (line : Value) (full : Bool) (out : Value) (w : World) (hB : Blk w gB 43 (brC gF y left right line full out)) (hF : Blk w gF 51 roomC) :
    Calls Try.prog 14 #[.pointer (some ⟨gB, 0, none⟩)] w fun e w' => e = .returned (.tuple #[]) ∧ Blk w' gB 43 (brC gF y 0 100 (.slice none 0 0) false out) ∧ w.grownBy w' (some gB) := by
  have hne : gF ≠ gB := blk_two hF hB (by decide)
  have hX : Blk (((w.setCell ⟨gB, 10, none⟩ (.slice none 0 0)).setCell ⟨gB, 8, none⟩ (.slice none 0 0)).setCell ⟨gB, 9, none⟩ (.bool false)) gB 43 (brC gF y left right (.slice none 0 0) false out) := ((hB.stored 10 _).stored 8 _).stored 9 _
  have hXF : Blk (((w.setCell ⟨gB, 10, none⟩ (.slice none 0 0)).setCell ⟨gB, 8, none⟩ (.slice none 0 0)).setCell ⟨gB, 9, none⟩ (.bool false)) gF 51 roomC := ((hF.far hne _).far hne _).far hne _
  have hg := grow_trans (grow_trans (grow_set w gB 10 (.slice none 0 0)) (grow_set _ gB 8 (.slice none 0 0))) (grow_set _ gB 9 (.bool false))
  have HX := Lib.hid hX
  have HXF := Lib.hid hXF
  have HG := Lib.hid hg
  have a8 : w.cell? ⟨gB, 8, none⟩ = some line := hB.cell 8
  have a9 : w.cell? ⟨gB, 9, none⟩ = some (.bool full) := hB.cell 9
  have a10 : w.cell? ⟨gB, 10, none⟩ = some (.slice none 0 0) := hB.cell 10
  have z8 : w.frozen? ⟨gB, 8, none⟩ = false := hB.free 8
  have z9 : w.frozen? ⟨gB, 9, none⟩ = false := hB.free 9
  have z10 : w.frozen? ⟨gB, 10, none⟩ = false := hB.free 10
  clear hB hF hX hXF hg
  go_enter Try.func14, Try.ntmps14
  go_wp2_with fail
  refine wp_loop_rounds 1 ?_
  rw [rounds_succ]
  go_upto_region 7 with fail
  generalize World.setCell (World.setCell (World.setCell w _ _) _ _) _ _ = X at HX HXF HG ⊢
  go_wp2_with (go_at_call 25; refine (ends_calls gB gF y left right _ false out X HX.out HXF.out).mono ?_; rintro e w' ⟨rfl, h1, h2⟩; have H1 := Lib.hid h1; have H2 := Lib.hid h2; clear h1 h2)
  (try simp only [Exit.inBlock, Exit.then]); refine bodyPost_end (results_none rfl _ _ _) rfl ?_
  exact ⟨rfl, H1.out, grow_trans HG.out H2.out⟩
/-- A group of one part. -/
def pcell (gL : Nat) (t : ByteArray) (wd : Int) (last : Bool) : Array Value := #[.pointer (some ⟨gL, 0, none⟩), .int .i64 0, .string t, .int .i64 wd, .bool last]
structure PartAt (w : World) (b o gL : Nat) (t : ByteArray) (wd : Int) (last : Bool) : Prop where
  c0 : w.cell? ⟨b, o, none⟩ = some (.pointer (some ⟨gL, 0, none⟩))
  c1 : w.cell? ⟨b, o + 1, none⟩ = some (.int .i64 0)
  c2 : w.cell? ⟨b, o + 2, none⟩ = some (.string t)
  c3 : w.cell? ⟨b, o + 3, none⟩ = some (.int .i64 wd)
  c4 : w.cell? ⟨b, o + 4, none⟩ = some (.bool last)
  lt : b < w.heap.size
theorem PartAt.below {w w' : World} {b o gL : Nat} {t : ByteArray} {wd : Int} {last : Bool} (h : PartAt w b o gL t wd last) (hb : Below w.heap.size w w') : PartAt w' b o gL t wd last :=
  ⟨(hb.cell (p := ⟨b, o, none⟩) h.lt).trans h.c0, (hb.cell (p := ⟨b, o + 1, none⟩) h.lt).trans h.c1, (hb.cell (p := ⟨b, o + 2, none⟩) h.lt).trans h.c2, (hb.cell (p := ⟨b, o + 3, none⟩) h.lt).trans h.c3, (hb.cell (p := ⟨b, o + 4, none⟩) h.lt).trans h.c4, Nat.lt_of_lt_of_le h.lt hb.size⟩
set_option maxRecDepth 100000 in
set_option maxHeartbeats 2000000 in
theorem width0_calls (c : Nat) (w : World) : Calls Try.prog 30 #[.slice none 0 c] w fun e w' => e = .returned (.int .i64 0) ∧ Below w.heap.size w w' := by
  go_enter Try.func30, Try.ntmps30
  go_wp2_with fail
  refine wp_loop_rounds 1 ?_
  rw [rounds_succ]
  go_wp2_with fail
  go_ret
  exact ⟨rfl, Below.refl _ _⟩
set_option maxRecDepth 100000 in
set_option maxHeartbeats 2000000 in
theorem width1_calls (b o c gL : Nat) (t : ByteArray) (wd : Int) (last : Bool) (w : World) (h : PartAt w b o gL t wd last) (h0 : 0 ≤ wd) (h1 : wd ≤ 1000) : Calls Try.prog 30 #[.slice (some ⟨b, o, none⟩) 1 c] w fun e w' => e = .returned (.int .i64 wd) ∧ Below w.heap.size w w' := by
  obtain ⟨c0, c1, c2, c3, c4, hlt⟩ := h
  have hb := below_alloc (Below.refl w.heap.size w) (.cells (pcell gL t wd last) 54)
  unfold pcell at hb
  go_enter Try.func30, Try.ntmps30
  go_wp2_with fail
  refine wp_loop_rounds 2 ?_
  rw [rounds_succ]
  go_wp2_with fail
  rw [rounds_succ]
  go_wp2_with fail
  go_ret
  exact ⟨rfl, hb⟩
end Go.Proofs.Ytabbpdlnlibngaa
