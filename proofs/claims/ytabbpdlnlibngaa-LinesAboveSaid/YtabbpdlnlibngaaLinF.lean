/- Contracts for the closed fact lined: who is in a group. -/
import Derived.Test.YtabbpdlnlibngaaLinE
namespace Go.Proofs.Ytabbpdlnlibngaa
open Go.RowKit Go.Sort
set_option linter.unusedVariables false
set_option linter.unusedSimpArgs false
attribute [local go_sem high] run_min2 run_max2

set_option maxRecDepth 100000 in
set_option maxHeartbeats 2000000 in
theorem index_solid (b o c gL : Nat) (t : ByteArray) (wd : Int) (last : Bool) (w : World) (h : PartAt w b o gL t wd last) (hI : Blk w gL 28 itemC) : Calls Try.prog 48 #[.slice (some ⟨b, o, none⟩) 1 c, .func (.func 43) #[] #[]] w fun e w' => e = .returned (.int .i64 0) ∧ Below w.heap.size w w' := by
  obtain ⟨c0, c1, c2, c3, c4, hlt⟩ := h
  have hb := below_alloc (Below.refl w.heap.size w) (.cells #[.pointer (some ⟨gL, 0, none⟩), .int .i64 0, .string t, .int .i64 wd, .bool last] 54)
  have HI := Lib.hid hI
  clear hI
  go_enter Try.func48, Try.ntmps48
  go_wp2_with fail
  refine wp_loop_rounds 1 ?_
  rw [rounds_succ]
  go_wp2_with (go_at_call 43; refine (solid_calls gL t wd last _ HI.out).mono ?_; rintro e w' ⟨rfl, rfl⟩)
  go_ret
  exact ⟨rfl, hb⟩
set_option maxRecDepth 100000 in
set_option maxHeartbeats 2000000 in
theorem has_solid (b o c gL : Nat) (t : ByteArray) (wd : Int) (last : Bool) (w : World) (h : PartAt w b o gL t wd last) (hI : Blk w gL 28 itemC) : Calls Try.prog 34 #[.slice (some ⟨b, o, none⟩) 1 c, .func (.func 43) #[] #[]] w fun e w' => e = .returned (.bool true) ∧ Below w.heap.size w w' := by
  have HX := Lib.hid (index_solid b o c gL t wd last w h hI)
  clear h hI
  go_enter Try.func34, Try.ntmps34
  go_wp2_with (go_at_call 48; refine HX.out.mono ?_; rintro e w' ⟨rfl, hb⟩)
  go_ret
  exact ⟨rfl, hb⟩
set_option maxRecDepth 100000 in
set_option maxHeartbeats 2000000 in
theorem index_told (b o c gL : Nat) (t : ByteArray) (wd : Int) (last : Bool) (w : World) (h : PartAt w b o gL t wd last) (hI : Blk w gL 28 itemC) : Calls Try.prog 48 #[.slice (some ⟨b, o, none⟩) 1 c, .func (.func 35) #[] #[]] w fun e w' => e = .returned (.int .i64 0) ∧ Below w.heap.size w w' := by
  obtain ⟨c0, c1, c2, c3, c4, hlt⟩ := h
  have hb := below_alloc (Below.refl w.heap.size w) (.cells #[.pointer (some ⟨gL, 0, none⟩), .int .i64 0, .string t, .int .i64 wd, .bool last] 54)
  have HI := Lib.hid hI
  clear hI
  go_enter Try.func48, Try.ntmps48
  go_wp2_with fail
  refine wp_loop_rounds 1 ?_
  rw [rounds_succ]
  go_wp2_with (go_at_call 35; refine (told_calls gL t wd last _ HI.out).mono ?_; rintro e w' ⟨rfl, rfl⟩)
  go_ret
  exact ⟨rfl, hb⟩
set_option maxRecDepth 100000 in
set_option maxHeartbeats 2000000 in
theorem has_told (b o c gL : Nat) (t : ByteArray) (wd : Int) (last : Bool) (w : World) (h : PartAt w b o gL t wd last) (hI : Blk w gL 28 itemC) : Calls Try.prog 34 #[.slice (some ⟨b, o, none⟩) 1 c, .func (.func 35) #[] #[]] w fun e w' => e = .returned (.bool true) ∧ Below w.heap.size w w' := by
  have HX := Lib.hid (index_told b o c gL t wd last w h hI)
  clear h hI
  go_enter Try.func34, Try.ntmps34
  go_wp2_with (go_at_call 48; refine HX.out.mono ?_; rintro e w' ⟨rfl, hb⟩)
  go_ret
  exact ⟨rfl, hb⟩
set_option maxRecDepth 100000 in
theorem index_none (c : Nat) (F : Value) (w : World) : Calls Try.prog 48 #[.slice none 0 c, F] w fun e w' => e = .returned (.int .i64 (-1)) ∧ Below w.heap.size w w' := by
  go_enter Try.func48, Try.ntmps48
  go_wp2_with fail
  refine wp_loop_rounds 1 ?_
  rw [rounds_succ]
  go_wp2_with fail
  go_ret
  exact ⟨rfl, Below.refl _ _⟩
set_option maxRecDepth 100000 in
theorem has_none (c : Nat) (F : Value) (w : World) : Calls Try.prog 34 #[.slice none 0 c, F] w fun e w' => e = .returned (.bool false) ∧ Below w.heap.size w w' := by
  have HX := Lib.hid (index_none c F w)
  go_enter Try.func34, Try.ntmps34
  go_wp2_with (go_at_call 48; refine HX.out.mono ?_; rintro e w' ⟨rfl, hb⟩)
  go_ret
  exact ⟨rfl, hb⟩
set_option maxRecDepth 100000 in
theorem full1_calls (b o c gL : Nat) (t : ByteArray) (wd : Int) (last : Bool) (w : World) (h : PartAt w b o gL t wd last) (hI : Blk w gL 28 itemC) : Calls Try.prog 32 #[.slice (some ⟨b, o, none⟩) 1 c] w fun e w' => e = .returned (.bool true) ∧ Below w.heap.size w w' := by
  have HX := Lib.hid (has_solid b o c gL t wd last w h hI)
  clear h hI
  go_enter Try.func32, Try.ntmps32
  go_wp2_with (go_at_call 34; refine HX.out.mono ?_; rintro e w' ⟨rfl, hb⟩)
  go_ret
  exact ⟨rfl, hb⟩
end Go.Proofs.Ytabbpdlnlibngaa
