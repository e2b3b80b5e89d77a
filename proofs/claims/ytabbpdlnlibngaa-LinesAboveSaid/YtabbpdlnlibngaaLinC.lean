/- Contracts for the closed fact lined: what a part is. -/
import Derived.Test.YtabbpdlnlibngaaLinB
import Derived.Test.YtabbpdlnlibngaaMem
import Derived.Shelf.SlSortCmp.QuietGrown
namespace Go.Proofs.Ytabbpdlnlibngaa
open Go.RowKit Go.Sort
set_option linter.unusedVariables false
set_option linter.unusedSimpArgs false
attribute [local go_sem high] run_min2 run_max2

theorem growB (W : World) (n : Nat) (os : Array Obj) : Below W.heap.size W (grow (W.drewN n) os) :=
  ⟨rfl, rfl, rfl, by show W.heap.size ≤ (W.heap ++ os).size; rw [Array.size_append]; omega, fun k hk => heap_grow_old (W.drewN n) os (by exact hk)⟩
/-- The item of the closed fact. -/
def itemC : Array Value := #[.int .i64 1, .int .i64 0, .string ⟨#[97, 97, 32, 97, 97]⟩, .int .i64 64, .int .i64 0, .int .i64 80, .int .i64 0, .int .i64 0, .int .i64 0, .int .i64 0, .int .i64 0]
/-- What a part's cells are. -/
def partC (gL : Nat) (t : ByteArray) (wd : Int) (last : Bool) : List Value := [.pointer (some ⟨gL, 0, none⟩), .int .i64 0, .string t, .int .i64 wd, .bool last]
set_option maxRecDepth 100000 in
theorem solid_calls (gL : Nat) (t : ByteArray) (wd : Int) (last : Bool) (w : World) (hI : Blk w gL 28 itemC) : Calls Try.prog 43 #[.agg #[.pointer (some ⟨gL, 0, none⟩), .int .i64 0, .string t, .int .i64 wd, .bool last]] w fun e w' => e = .returned (.bool true) ∧ w' = w.alloc (.cells #[.pointer (some ⟨gL, 0, none⟩), .int .i64 0, .string t, .int .i64 wd, .bool last] 54) := by
  have h0 : (w.alloc (.cells #[.pointer (some ⟨gL, 0, none⟩), .int .i64 0, .string t, .int .i64 wd, .bool last] 54)).cell? ⟨gL, 0, none⟩ = some (.int .i64 1) := (hI.alloc _).cell 0
  clear hI
  go_enter Try.func43, Try.ntmps43
  go_wp2_with fail
  go_ret
  exact ⟨rfl, rfl⟩
set_option maxRecDepth 100000 in
theorem told_calls (gL : Nat) (t : ByteArray) (wd : Int) (last : Bool) (w : World) (hI : Blk w gL 28 itemC) : Calls Try.prog 35 #[.agg #[.pointer (some ⟨gL, 0, none⟩), .int .i64 0, .string t, .int .i64 wd, .bool last]] w fun e w' => e = .returned (.bool true) ∧ w' = w.alloc (.cells #[.pointer (some ⟨gL, 0, none⟩), .int .i64 0, .string t, .int .i64 wd, .bool last] 54) := by
  have h0 : (w.alloc (.cells #[.pointer (some ⟨gL, 0, none⟩), .int .i64 0, .string t, .int .i64 wd, .bool last] 54)).cell? ⟨gL, 0, none⟩ = some (.int .i64 1) := (hI.alloc _).cell 0
  clear hI
  go_enter Try.func35, Try.ntmps35
  go_wp2_with fail
  go_ret
  exact ⟨rfl, rfl⟩
set_option maxRecDepth 100000 in
theorem collapses_calls (gL : Nat) (t : ByteArray) (wd : Int) (last : Bool) (w : World) (hI : Blk w gL 28 itemC) : Calls Try.prog 42 #[.agg #[.pointer (some ⟨gL, 0, none⟩), .int .i64 0, .string t, .int .i64 wd, .bool last]] w fun e w' => e = .returned (.bool true) ∧ w' = w.alloc (.cells #[.pointer (some ⟨gL, 0, none⟩), .int .i64 0, .string t, .int .i64 wd, .bool last] 54) := by
  have h0 : (w.alloc (.cells #[.pointer (some ⟨gL, 0, none⟩), .int .i64 0, .string t, .int .i64 wd, .bool last] 54)).cell? ⟨gL, 0, none⟩ = some (.int .i64 1) := (hI.alloc _).cell 0
  have h6 : (w.alloc (.cells #[.pointer (some ⟨gL, 0, none⟩), .int .i64 0, .string t, .int .i64 wd, .bool last] 54)).cell? ⟨gL, 6, none⟩ = some (.int .i64 0) := (hI.alloc _).cell 6
  clear hI
  go_enter Try.func42, Try.ntmps42
  go_wp2_with fail
  go_ret
  exact ⟨rfl, rfl⟩
set_option maxRecDepth 100000 in
theorem pends_calls (gL : Nat) (t : ByteArray) (b : Bool) (wd : Int) (last : Bool) (w : World) (hI : Blk w gL 28 itemC) (ht : (t = tAA ∧ b = false) ∨ (t = tAAB ∧ b = true)) : Calls Try.prog 39 #[.agg #[.pointer (some ⟨gL, 0, none⟩), .int .i64 0, .string t, .int .i64 wd, .bool last]] w fun e w' => e = .returned (.bool b) ∧ w' = w.alloc (.cells #[.pointer (some ⟨gL, 0, none⟩), .int .i64 0, .string t, .int .i64 wd, .bool last] 54) := by
  have h0 : (w.alloc (.cells #[.pointer (some ⟨gL, 0, none⟩), .int .i64 0, .string t, .int .i64 wd, .bool last] 54)).cell? ⟨gL, 0, none⟩ = some (.int .i64 1) := (hI.alloc _).cell 0
  have H := Lib.hid (fun w => suffix_calls t b ht w)
  clear hI ht
  go_enter Try.func39, Try.ntmps39
  go_wp2_with (go_at_call 54; refine (H.out _).mono ?_; rintro e w' ⟨rfl, rfl⟩)
  go_ret
  exact ⟨rfl, rfl⟩
set_option maxRecDepth 100000 in
set_option maxHeartbeats 2000000 in
/-- The last blank of the second part: none. -/
theorem ptailA_calls (gL : Nat) (last : Bool) (wd : Int) (w : World) (hI : Blk w gL 28 itemC) : Calls Try.prog 45 #[.agg #[.pointer (some ⟨gL, 0, none⟩), .int .i64 0, .string tAA, .int .i64 wd, .bool last]] w fun e w' => e = .returned (.int .i64 0) ∧ Below w.heap.size w w' := by
  have hc := fun w hI => collapses_calls gL tAA wd last w hI
  have he := fun w hI => pends_calls gL tAA false wd last w hI (Or.inl ⟨rfl, rfl⟩)
  have H1 := Lib.hid hc
  have H2 := Lib.hid he
  have HI := Lib.hid hI
  clear hI hc he
  obtain ⟨tx, htx⟩ : ∃ tx, tx = tAA := ⟨_, rfl⟩
  rw [← htx] at H1 H2 ⊢
  clear htx
  go_enter Try.func45, Try.ntmps45
  go_wp2_with (first | (go_at_call 42; refine (H1.out _ (HI.out.alloc _)).mono ?_; rintro e w1 ⟨rfl, rfl⟩) | (go_at_call 39; refine (H2.out _ ((HI.out.alloc _).alloc _)).mono ?_; rintro e w1 ⟨rfl, rfl⟩))
  go_ret
  exact ⟨rfl, below_alloc (below_alloc (below_alloc (Below.refl _ _) _) _) _⟩
theorem ex_AAB : tAAB.extract 0 2 = tAA := by decide +kernel
theorem sz_AAB : tAAB.size = 3 := by decide
set_option maxRecDepth 100000 in
set_option maxHeartbeats 2000000 in
/-- The last blank of the first part: 16. -/
theorem ptailB_calls (gL : Nat) (last : Bool) (w : World) (hI : Blk w gL 28 itemC) : Calls Try.prog 45 #[.agg #[.pointer (some ⟨gL, 0, none⟩), .int .i64 0, .string tAAB, .int .i64 80, .bool last]] w fun e w' => e = .returned (.int .i64 16) ∧ Below w.heap.size w w' := by
  have mixed : Try.prog.follows .mixedOrders = true := by kernel_rfl
  have hc := fun w hI => collapses_calls gL tAAB 80 last w hI
  have he := fun w hI => pends_calls gL tAAB true 80 last w hI (Or.inr ⟨rfl, rfl⟩)
  have H1 := Lib.hid hc
  have H2 := Lib.hid he
  have HI := Lib.hid hI
  have hW : ∀ W, Calls Try.prog 28 #[.string tAA, .int .i64 64, .int .i64 0] W fun e w' => e = .returned (.int .i64 64) ∧ ∃ q os', w' = grow (W.drewN q) os' := fun W => (fwidth_calls tAA ok_AA W).mono (by
    rintro e w' ⟨h1, h2⟩
    rw [acc_AA] at h1
    exact ⟨h1, 0, #[_], by rw [h2]; exact alloc_eq_grow _ _⟩)
  have HW := Lib.hid hW
  have eW : ∀ args w, (callFunc 28 args).run Try.prog w = .ok (.enter 28 args) w := enters_of Try.func28 (by kernel_rfl) rfl
  have hex := ex_AAB
  have w2 : IntKind.i64.wrap 2 = 2 := by decide
  have w16 : IntKind.i64.wrap 16 = 16 := by decide
  clear hI hc he hW
  unfold tAAB at H1 H2 hex ⊢
  obtain ⟨ty, hty⟩ : ∃ ty, ty = tAA := ⟨_, rfl⟩
  rw [← hty] at HW hex
  clear hty
  go_enter Try.func45, Try.ntmps45
  go_upto_region 2 with (first | (go_at_call 42; refine (H1.out _ (HI.out.alloc _)).mono ?_; rintro e w1 ⟨rfl, rfl⟩) | (go_at_call 39; refine (H2.out _ ((HI.out.alloc _).alloc _)).mono ?_; rintro e w1 ⟨rfl, rfl⟩))
  have hB := ((Blk.new w 54 #[.pointer (some ⟨gL, 0, none⟩), .int .i64 0, .string ⟨#[97, 97, 32]⟩, .int .i64 80, .bool last]).alloc (.cells #[.pointer (some ⟨gL, 0, none⟩), .int .i64 0, .string ⟨#[97, 97, 32]⟩, .int .i64 80, .bool last] 54)).alloc (.cells #[.pointer (some ⟨gL, 0, none⟩), .int .i64 0, .string ⟨#[97, 97, 32]⟩, .int .i64 80, .bool last] 54)
  have hI := ((HI.out.alloc (.cells #[.pointer (some ⟨gL, 0, none⟩), .int .i64 0, .string ⟨#[97, 97, 32]⟩, .int .i64 80, .bool last] 54)).alloc (.cells #[.pointer (some ⟨gL, 0, none⟩), .int .i64 0, .string ⟨#[97, 97, 32]⟩, .int .i64 80, .bool last] 54)).alloc (.cells #[.pointer (some ⟨gL, 0, none⟩), .int .i64 0, .string ⟨#[97, 97, 32]⟩, .int .i64 80, .bool last] 54)
  have hbel := below_alloc (below_alloc (below_alloc (Below.refl w.heap.size w) (.cells #[.pointer (some ⟨gL, 0, none⟩), .int .i64 0, .string ⟨#[97, 97, 32]⟩, .int .i64 80, .bool last] 54)) (.cells #[.pointer (some ⟨gL, 0, none⟩), .int .i64 0, .string ⟨#[97, 97, 32]⟩, .int .i64 80, .bool last] 54)) (.cells #[.pointer (some ⟨gL, 0, none⟩), .int .i64 0, .string ⟨#[97, 97, 32]⟩, .int .i64 80, .bool last] 54)
  generalize ((w.alloc _).alloc _).alloc _ = W3 at hB hI hbel ⊢
  have HBL := Lib.hid hbel
  generalize w.heap.size = g at hB ⊢
  have f0 := fun n os => cell_grown (a := ⟨g, 0, none⟩) hB.lt (hB.cell 0) n os
  have f2 := fun n os => cell_grown (a := ⟨g, 2, none⟩) hB.lt (hB.cell 2) n os
  have f3 := fun n os => cell_grown (a := ⟨g, 3, none⟩) hB.lt (hB.cell 3) n os
  have i3 := fun n os => cell_grown (a := ⟨gL, 3, none⟩) hI.lt (hI.cell 3) n os
  have i4 := fun n os => cell_grown (a := ⟨gL, 4, none⟩) hI.lt (hI.cell 4) n os
  clear hB hI hbel H1 H2 HI
  go_wp2_with fail
  go_quiet_grown (first | (go_at_fn 28; refine Calls.grown_of (HW.out _)))
  go_wp2_with fail
  go_ret
  exact ⟨rfl, below_then HBL.out (growB _ _ _)⟩
end Go.Proofs.Ytabbpdlnlibngaa
