/- Contracts for the closed fact lined: put. -/
import Derived.Test.YtabbpdlnlibngaaLinS
namespace Go.Proofs.Ytabbpdlnlibngaa
open Go.RowKit Go.Sort
set_option linter.unusedVariables false
set_option linter.unusedSimpArgs false
attribute [local go_sem high] run_min2 run_max2

set_option maxRecDepth 100000 in
set_option maxHeartbeats 8000000 in
theorem put0_calls (gB gF : Nat) (b o c gL : Nat) (w : World) (hB : Blk w gB 43 (brC gF 0 0 100 (.slice none 0 0) false (.slice none 0 0))) (hP : PartAt w b o gL tAAB 80 false) (hI : Blk w gL 28 itemC) :
    Calls Try.prog 17 #[.pointer (some ⟨gB, 0, none⟩), .slice (some ⟨b, o, none⟩) 1 c] w fun e w' => e = .returned (.tuple #[]) ∧ ∃ gl cl, Blk w' gB 43 (brC gF 0 0 100 (.slice (some ⟨gl, 0, none⟩) 1 cl) true (.slice none 0 0)) ∧ PartAt w' gl 0 gL tAAB 80 false ∧ w.heap.size ≤ gl ∧ Fr gB (.slice none 0 0) w w' := by
  have mixed : Try.prog.follows .mixedOrders = true := by kernel_rfl
  obtain ⟨i1, hib, hzb0, hzb1, hzb2⟩ := info_parts info_prt
  have HBL := Lib.hid hB.lt
  have HB := Lib.hid hB
  have HP := Lib.hid hP
  have HI := Lib.hid hI
  have HG := Lib.hid (Fr.refl (gS := gB) (v := .slice none 0 0) (w := w))
  have hw0 : IntKind.i64.wrap 0 = 0 := by decide
  have hw1 : IntKind.i64.wrap 1 = 1 := by decide
  have hw80 : IntKind.i64.wrap 80 = 80 := by decide
  have hw64 : IntKind.i64.wrap 64 = 64 := by decide
  have hw100 : IntKind.i64.wrap 100 = 100 := by decide
  clear hB hP hI
  go_enter Try.func17, Try.ntmps17
  go_wp2_with fail
  refine wp_loop_rounds 1 ?_
  rw [rounds_succ]
  have HTLa : Hid (∀ X, Blk X gL 28 itemC → Calls Try.prog 45 #[.agg #[.pointer (some ⟨gL, 0, none⟩), .int .i64 0, .string tAAB, .int .i64 80, .bool false]] X fun e w' => e = .returned (.int .i64 16) ∧ Below X.heap.size X w') := fun X hX => ptailB_calls gL false X hX
  go_upto_region 1 with (go_at_call 29; refine (clean1_calls gB gF 0 0 100 (.slice none 0 0) false (.slice none 0 0) b o c gL tAAB (.inr rfl) 80 false w HB.out HP.out HI.out).mono ?_; rintro e v1a ⟨g1a, c1a, rfl, hpc, hgc, hb⟩; have HC := Lib.hid hpc; have HB := Lib.hid (HB.out.below hb HB.out.lt); have HI := Lib.hid (HI.out.below hb HI.out.lt); have HP := Lib.hid (HP.out.below hb); have HG := Lib.hid (HG.out.trans (.inl rfl) (Fr.below (gS := gB) (v := .slice none 0 0) hb)); skip; clear hpc hgc hb)
  have HB := Lib.hid HB.out.drew
  have HI := Lib.hid HI.out.drew
  have HP := Lib.hid (HP.out.below (below_drewN (Below.refl _ _) 1))
  have HC := Lib.hid (HC.out.below (below_drewN (Below.refl _ _) 1))
  have HG := Lib.hid (HG.out.trans (.inl rfl) (Fr.below (gS := gB) (v := .slice none 0 0) (below_drewN (Below.refl _ _) 1)))
  have HB := Lib.hid (show Blk (World.drew v1a) _ _ _ from HB.out)
  have HI := Lib.hid (show Blk (World.drew v1a) _ _ _ from HI.out)
  have HP := Lib.hid (show PartAt (World.drew v1a) _ _ _ _ _ _ from HP.out)
  have HC := Lib.hid (show PartAt (World.drew v1a) _ _ _ _ _ _ from HC.out)
  have HG := Lib.hid (show Fr gB (.slice none 0 0) w (World.drew v1a) from HG.out)
  have hS0 : (fun w' : World => w'.cell? ⟨gB, 8, none⟩ = some (.slice none 0 0) ∧ w'.cell? ⟨gB, 7, none⟩ = some (.int .i64 100) ∧ w'.cell? ⟨gB, 6, none⟩ = some (.int .i64 0) ∧ w'.cell? ⟨gB, 9, none⟩ = some (.bool false)) (World.drew v1a) := ⟨HB.out.cell 8, HB.out.cell 7, HB.out.cell 6, HB.out.cell 9⟩
  refine wp_region_noPanic ?_
  refine region_M (S := fun w' => w'.cell? ⟨gB, 8, none⟩ = some (.slice none 0 0) ∧ w'.cell? ⟨gB, 7, none⟩ = some (.int .i64 100) ∧ w'.cell? ⟨gB, 6, none⟩ = some (.int .i64 0) ∧ w'.cell? ⟨gB, 9, none⟩ = some (.bool false)) (T := []) (by kernel_rfl) ?_
  generalize World.drew v1a = u0a at HB HI HP HC HG hS0 ⊢
  refine anyM_free (i := 0) (oi := { dst := some 12, op := _, type := _, pos := _, after := _, guard := _ }) (v := ?_) rfl (by kernel_rfl) (fun _ _ _ h => h) (Or.inl ⟨by kernel_rfl, ?_⟩) (fun _ => hS0) ?_
  rotate_left 1
  · (intro w hSw; (try dsimp only at hSw); go_simp; try with_reducible rfl)
  try simp only [Act.put, Array.toArray_toList, List.setIfInBounds_toArray, List.set_cons_zero, List.set_cons_succ]
  refine anyM_free (i := 1) (oi := { dst := some 13, op := _, type := _, pos := _, after := _, guard := _ }) (v := ?_) rfl (by kernel_rfl) (fun _ _ _ h => h) (Or.inl ⟨by kernel_rfl, ?_⟩) (fun _ => hS0) ?_
  rotate_left 1
  · (intro w hSw; (try dsimp only at hSw); go_simp; try with_reducible rfl)
  try simp only [Act.put, Array.toArray_toList, List.setIfInBounds_toArray, List.set_cons_zero, List.set_cons_succ]
  refine anyM_free (i := 2) (oi := { dst := some 14, op := _, type := _, pos := _, after := _, guard := _ }) (v := ?_) rfl (by kernel_rfl) (fun _ _ _ h => h) (Or.inl ⟨by kernel_rfl, ?_⟩) (fun _ => hS0) ?_
  rotate_left 1
  · (intro w hSw; (try dsimp only at hSw); go_simp; try with_reducible rfl)
  try simp only [Act.put, Array.toArray_toList, List.setIfInBounds_toArray, List.set_cons_zero, List.set_cons_succ]
  refine anyM_take (i := 3) (oi := { dst := some 15, op := _, type := _, pos := _, after := _, guard := _ }) (v := ?_) rfl (by kernel_rfl) (fun _ _ _ h => h) (Or.inl ⟨by kernel_rfl, ?_⟩) hS0 ?_
  rotate_left 1
  · (intro w hSw; (try dsimp only at hSw); go_simp; try with_reducible rfl)
  try simp only [Act.put, Array.toArray_toList, List.setIfInBounds_toArray, List.set_cons_zero, List.set_cons_succ]
  refine anyM_free (i := 5) (oi := { dst := some 17, op := _, type := _, pos := _, after := _, guard := _ }) (v := ?_) rfl (by kernel_rfl) (fun _ _ _ h => h) (Or.inl ⟨by kernel_rfl, ?_⟩) (fun _ => hS0) ?_
  rotate_left 1
  · (intro w hSw; (try dsimp only at hSw); go_simp; try with_reducible rfl)
  try simp only [Act.put, Array.toArray_toList, List.setIfInBounds_toArray, List.set_cons_zero, List.set_cons_succ]
  refine anyM_free (i := 8) (oi := { dst := some 20, op := _, type := _, pos := _, after := _, guard := _ }) (v := ?_) rfl (by kernel_rfl) (fun _ _ _ h => h) (Or.inl ⟨by kernel_rfl, ?_⟩) (fun _ => hS0) ?_
  rotate_left 1
  · (intro w hSw; (try dsimp only at hSw); go_simp; try with_reducible rfl)
  try simp only [Act.put, Array.toArray_toList, List.setIfInBounds_toArray, List.set_cons_zero, List.set_cons_succ]
  refine anyM_free (i := 11) (oi := { dst := some 23, op := _, type := _, pos := _, after := _, guard := _ }) (v := ?_) rfl (by kernel_rfl) (fun _ _ _ h => h) (Or.inl ⟨by kernel_rfl, ?_⟩) (fun _ => hS0) ?_
  rotate_left 1
  · (intro w hSw; (try dsimp only at hSw); go_simp; try with_reducible rfl)
  try simp only [Act.put, Array.toArray_toList, List.setIfInBounds_toArray, List.set_cons_zero, List.set_cons_succ]
  refine anyM_free (i := 12) (oi := { dst := some 24, op := _, type := _, pos := _, after := _, guard := _ }) (v := ?_) rfl (by kernel_rfl) (fun _ _ _ h => h) (Or.inl ⟨by kernel_rfl, ?_⟩) (fun _ => hS0) ?_
  rotate_left 1
  · (intro w hSw; (try dsimp only at hSw); go_simp; try with_reducible rfl)
  try simp only [Act.put, Array.toArray_toList, List.setIfInBounds_toArray, List.set_cons_zero, List.set_cons_succ]
  refine anyM_free (i := 13) (oi := { dst := some 25, op := _, type := _, pos := _, after := _, guard := _ }) (v := ?_) rfl (by kernel_rfl) (fun _ _ _ h => h) (Or.inl ⟨by kernel_rfl, ?_⟩) (fun _ => hS0) ?_
  rotate_left 1
  · (intro w hSw; (try dsimp only at hSw); go_simp; try with_reducible rfl)
  try simp only [Act.put, Array.toArray_toList, List.setIfInBounds_toArray, List.set_cons_zero, List.set_cons_succ]
  refine anyM_take (i := 14) (oi := { dst := some 26, op := _, type := _, pos := _, after := _, guard := _ }) (v := ?_) rfl (by kernel_rfl) (fun _ _ _ h => h) (Or.inl ⟨by kernel_rfl, ?_⟩) hS0 ?_
  rotate_left 1
  · (intro w hSw; (try dsimp only at hSw); go_simp; try with_reducible rfl)
  try simp only [Act.put, Array.toArray_toList, List.setIfInBounds_toArray, List.set_cons_zero, List.set_cons_succ]
  refine anyM_free (i := 15) (oi := { dst := some 27, op := _, type := _, pos := _, after := _, guard := _ }) (v := ?_) rfl (by kernel_rfl) (fun _ _ _ h => h) (Or.inl ⟨by kernel_rfl, ?_⟩) (fun _ => hS0) ?_
  rotate_left 1
  · (intro w hSw; (try dsimp only at hSw); go_simp; try with_reducible rfl)
  try simp only [Act.put, Array.toArray_toList, List.setIfInBounds_toArray, List.set_cons_zero, List.set_cons_succ]
  refine anyM_free (i := 16) (oi := { dst := some 28, op := _, type := _, pos := _, after := _, guard := _ }) (v := ?_) rfl (by kernel_rfl) (fun _ _ _ h => h) (Or.inl ⟨by kernel_rfl, ?_⟩) (fun _ => hS0) ?_
  rotate_left 1
  · (intro w hSw; (try dsimp only at hSw); go_simp; try with_reducible rfl)
  try simp only [Act.put, Array.toArray_toList, List.setIfInBounds_toArray, List.set_cons_zero, List.set_cons_succ]
  refine anyM_free (i := 17) (oi := { dst := some 29, op := _, type := _, pos := _, after := _, guard := _ }) (v := ?_) rfl (by kernel_rfl) (fun _ _ _ h => h) (Or.inl ⟨by kernel_rfl, ?_⟩) (fun _ => hS0) ?_
  rotate_left 1
  · (intro w hSw; (try dsimp only at hSw); go_simp; try with_reducible rfl)
  try simp only [Act.put, Array.toArray_toList, List.setIfInBounds_toArray, List.set_cons_zero, List.set_cons_succ]
  refine anyM_take (i := 18) (oi := { dst := some 30, op := _, type := _, pos := _, after := _, guard := _ }) (v := ?_) rfl (by kernel_rfl) (fun _ _ _ h => h) (Or.inl ⟨by kernel_rfl, ?_⟩) hS0 ?_
  rotate_left 1
  · (intro w hSw; (try dsimp only at hSw); go_simp; try with_reducible rfl)
  try simp only [Act.put, Array.toArray_toList, List.setIfInBounds_toArray, List.set_cons_zero, List.set_cons_succ]
  refine anyM_free (i := 19) (oi := { dst := some 31, op := _, type := _, pos := _, after := _, guard := _ }) (v := ?_) rfl (by kernel_rfl) (fun _ _ _ h => h) (Or.inl ⟨by kernel_rfl, ?_⟩) (fun _ => hS0) ?_
  rotate_left 1
  · (intro w hSw; (try dsimp only at hSw); go_simp; try with_reducible rfl)
  try simp only [Act.put, Array.toArray_toList, List.setIfInBounds_toArray, List.set_cons_zero, List.set_cons_succ]
  refine anyM_one (i := 4) (by kernel_rfl) rfl (fun K hK => ?_)
  go_simp
  refine (width0_calls 0 _).mono ?_
  rintro e u1a ⟨rfl, hb⟩
  have HB := Lib.hid (HB.out.below hb HB.out.lt)
  have HI := Lib.hid (HI.out.below hb HI.out.lt)
  have HP := Lib.hid (HP.out.below hb)
  have HC := Lib.hid (HC.out.below hb)
  have HG := Lib.hid (HG.out.trans (.inl rfl) (Fr.below (gS := gB) (v := .slice none 0 0) hb))
  have hS0 : (fun w' : World => w'.cell? ⟨gB, 8, none⟩ = some (.slice none 0 0) ∧ w'.cell? ⟨gB, 7, none⟩ = some (.int .i64 100) ∧ w'.cell? ⟨gB, 6, none⟩ = some (.int .i64 0) ∧ w'.cell? ⟨gB, 9, none⟩ = some (.bool false)) u1a := ⟨HB.out.cell 8, HB.out.cell 7, HB.out.cell 6, HB.out.cell 9⟩
  clear hb
  refine hK.out _ _ (fun _ => hS0) ?_
  clear hK K
  try simp only [Act.put, Array.toArray_toList, List.setIfInBounds_toArray, List.set_cons_zero, List.set_cons_succ]
  refine anyM_one (i := 6) (by kernel_rfl) rfl (fun K hK => ?_)
  go_simp
  refine (width1_calls g1a 0 c1a gL tAAB 80 false _ HC.out (by decide) (by decide)).mono ?_
  rintro e u2a ⟨rfl, hb⟩
  have HB := Lib.hid (HB.out.below hb HB.out.lt)
  have HI := Lib.hid (HI.out.below hb HI.out.lt)
  have HP := Lib.hid (HP.out.below hb)
  have HC := Lib.hid (HC.out.below hb)
  have HG := Lib.hid (HG.out.trans (.inl rfl) (Fr.below (gS := gB) (v := .slice none 0 0) hb))
  have hS0 : (fun w' : World => w'.cell? ⟨gB, 8, none⟩ = some (.slice none 0 0) ∧ w'.cell? ⟨gB, 7, none⟩ = some (.int .i64 100) ∧ w'.cell? ⟨gB, 6, none⟩ = some (.int .i64 0) ∧ w'.cell? ⟨gB, 9, none⟩ = some (.bool false)) u2a := ⟨HB.out.cell 8, HB.out.cell 7, HB.out.cell 6, HB.out.cell 9⟩
  clear hb
  refine hK.out _ _ (fun _ => hS0) ?_
  clear hK K
  try simp only [Act.put, Array.toArray_toList, List.setIfInBounds_toArray, List.set_cons_zero, List.set_cons_succ]
  refine anyM_free (i := 7) (oi := { dst := some 19, op := _, type := _, pos := _, after := _, guard := _ }) (v := ?_) rfl (by kernel_rfl) (fun _ _ _ h => h) (Or.inl ⟨by kernel_rfl, ?_⟩) (fun _ => hS0) ?_
  rotate_left 1
  · (intro w hSw; (try dsimp only at hSw); go_simp; try with_reducible rfl)
  try simp only [Act.put, Array.toArray_toList, List.setIfInBounds_toArray, List.set_cons_zero, List.set_cons_succ]
  refine anyM_one (i := 9) (by kernel_rfl) rfl (fun K hK => ?_)
  go_simp
  refine (tail1_calls g1a 0 c1a gL tAAB 80 false 16 _ HC.out HI.out HTLa.out).mono ?_
  rintro e u3a ⟨rfl, hb⟩
  have HB := Lib.hid (HB.out.below hb HB.out.lt)
  have HI := Lib.hid (HI.out.below hb HI.out.lt)
  have HP := Lib.hid (HP.out.below hb)
  have HC := Lib.hid (HC.out.below hb)
  have HG := Lib.hid (HG.out.trans (.inl rfl) (Fr.below (gS := gB) (v := .slice none 0 0) hb))
  have hS0 : (fun w' : World => w'.cell? ⟨gB, 8, none⟩ = some (.slice none 0 0) ∧ w'.cell? ⟨gB, 7, none⟩ = some (.int .i64 100) ∧ w'.cell? ⟨gB, 6, none⟩ = some (.int .i64 0) ∧ w'.cell? ⟨gB, 9, none⟩ = some (.bool false)) u3a := ⟨HB.out.cell 8, HB.out.cell 7, HB.out.cell 6, HB.out.cell 9⟩
  clear hb
  refine hK.out _ _ (fun _ => hS0) ?_
  clear hK K
  try simp only [Act.put, Array.toArray_toList, List.setIfInBounds_toArray, List.set_cons_zero, List.set_cons_succ]
  refine anyM_free (i := 10) (oi := { dst := some 22, op := _, type := _, pos := _, after := _, guard := _ }) (v := ?_) rfl (by kernel_rfl) (fun _ _ _ h => h) (Or.inl ⟨by kernel_rfl, ?_⟩) (fun _ => hS0) ?_
  rotate_left 1
  · (intro w hSw; (try dsimp only at hSw); go_simp; try with_reducible rfl)
  try simp only [Act.put, Array.toArray_toList, List.setIfInBounds_toArray, List.set_cons_zero, List.set_cons_succ]
  refine anyM_free (i := 20) (oi := { dst := some 32, op := _, type := _, pos := _, after := _, guard := _ }) (v := ?_) rfl (by kernel_rfl) (fun _ _ _ h => h) (Or.inl ⟨by kernel_rfl, ?_⟩) (fun _ => hS0) ?_
  rotate_left 1
  · (intro w hSw; (try dsimp only at hSw); go_simp; try with_reducible rfl)
  try simp only [Act.put, Array.toArray_toList, List.setIfInBounds_toArray, List.set_cons_zero, List.set_cons_succ]
  refine anyM_free (i := 21) (oi := { dst := some 33, op := _, type := _, pos := _, after := _, guard := _ }) (v := ?_) rfl (by kernel_rfl) (fun _ _ _ h => h) (Or.inl ⟨by kernel_rfl, ?_⟩) (fun _ => hS0) ?_
  rotate_left 1
  · (intro w hSw; (try dsimp only at hSw); go_simp; try with_reducible rfl)
  try simp only [Act.put, Array.toArray_toList, List.setIfInBounds_toArray, List.set_cons_zero, List.set_cons_succ]
  refine anyM_free (i := 22) (oi := { dst := some 34, op := _, type := _, pos := _, after := _, guard := _ }) (v := undef) rfl (by kernel_rfl) (fun _ _ _ h => h) (Or.inr ⟨by kernel_rfl, rfl⟩) (fun _ => hS0) ?_
  try simp only [Act.put, Array.toArray_toList, List.setIfInBounds_toArray, List.set_cons_zero, List.set_cons_succ]
  refine anyM_free (i := 23) (oi := { dst := some 35, op := _, type := _, pos := _, after := _, guard := _ }) (v := undef) rfl (by kernel_rfl) (fun _ _ _ h => h) (Or.inr ⟨by kernel_rfl, rfl⟩) (fun _ => hS0) ?_
  try simp only [Act.put, Array.toArray_toList, List.setIfInBounds_toArray, List.set_cons_zero, List.set_cons_succ]
  refine anyM_free (i := 24) (oi := { dst := some 36, op := _, type := _, pos := _, after := _, guard := _ }) (v := undef) rfl (by kernel_rfl) (fun _ _ _ h => h) (Or.inr ⟨by kernel_rfl, rfl⟩) (fun _ => hS0) ?_
  try simp only [Act.put, Array.toArray_toList, List.setIfInBounds_toArray, List.set_cons_zero, List.set_cons_succ]
  refine anyM_free (i := 25) (oi := { dst := some 37, op := _, type := _, pos := _, after := _, guard := _ }) (v := undef) rfl (by kernel_rfl) (fun _ _ _ h => h) (Or.inr ⟨by kernel_rfl, rfl⟩) (fun _ => hS0) ?_
  try simp only [Act.put, Array.toArray_toList, List.setIfInBounds_toArray, List.set_cons_zero, List.set_cons_succ]
  refine anyM_free (i := 26) (oi := { dst := some 38, op := _, type := _, pos := _, after := _, guard := _ }) (v := undef) rfl (by kernel_rfl) (fun _ _ _ h => h) (Or.inr ⟨by kernel_rfl, rfl⟩) (fun _ => hS0) ?_
  try simp only [Act.put, Array.toArray_toList, List.setIfInBounds_toArray, List.set_cons_zero, List.set_cons_succ]
  refine anyM_free (i := 27) (oi := { dst := some 39, op := _, type := _, pos := _, after := _, guard := _ }) (v := undef) rfl (by kernel_rfl) (fun _ _ _ h => h) (Or.inr ⟨by kernel_rfl, rfl⟩) (fun _ => hS0) ?_
  try simp only [Act.put, Array.toArray_toList, List.setIfInBounds_toArray, List.set_cons_zero, List.set_cons_succ]
  refine anyM_free (i := 28) (oi := { dst := some 40, op := _, type := _, pos := _, after := _, guard := _ }) (v := undef) rfl (by kernel_rfl) (fun _ _ _ h => h) (Or.inr ⟨by kernel_rfl, rfl⟩) (fun _ => hS0) ?_
  try simp only [Act.put, Array.toArray_toList, List.setIfInBounds_toArray, List.set_cons_zero, List.set_cons_succ]
  refine anyM_free (i := 29) (oi := { dst := some 41, op := _, type := _, pos := _, after := _, guard := _ }) (v := undef) rfl (by kernel_rfl) (fun _ _ _ h => h) (Or.inr ⟨by kernel_rfl, rfl⟩) (fun _ => hS0) ?_
  try simp only [Act.put, Array.toArray_toList, List.setIfInBounds_toArray, List.set_cons_zero, List.set_cons_succ]
  refine anyM_free (i := 30) (oi := { dst := some 42, op := _, type := _, pos := _, after := _, guard := _ }) (v := undef) rfl (by kernel_rfl) (fun _ _ _ h => h) (Or.inr ⟨by kernel_rfl, rfl⟩) (fun _ => hS0) ?_
  try simp only [Act.put, Array.toArray_toList, List.setIfInBounds_toArray, List.set_cons_zero, List.set_cons_succ]
  refine anyM_free (i := 31) (oi := { dst := some 43, op := _, type := _, pos := _, after := _, guard := _ }) (v := ?_) rfl (by kernel_rfl) (fun _ _ _ h => h) (Or.inl ⟨by kernel_rfl, ?_⟩) (fun _ => hS0) ?_
  rotate_left 1
  · (intro w hSw; (try dsimp only at hSw); go_simp; try with_reducible rfl)
  try simp only [Act.put, Array.toArray_toList, List.setIfInBounds_toArray, List.set_cons_zero, List.set_cons_succ]
  refine anyM_done (by kernel_rfl) ?_ _
  refine NoPanic.normal ?_
  clear hS0
  clear HTLa HC
  go_wp2_with (go_at_call 29; refine (clean1_calls gB gF 0 0 100 (.slice none 0 0) false (.slice none 0 0) b o c gL tAAB (.inr rfl) 80 false u3a HB.out HP.out HI.out).mono ?_; rintro e v2a ⟨g2a, c2a, rfl, hpc, hgc, hb⟩; have HGCa := Lib.hid (Nat.le_trans HG.out.size hgc); have HC := Lib.hid hpc; have HB := Lib.hid (HB.out.below hb HB.out.lt); have HI := Lib.hid (HI.out.below hb HI.out.lt); have HG := Lib.hid (HG.out.trans (.inl rfl) (Fr.below (gS := gB) (v := .slice none 0 0) hb)); skip; clear hpc hgc hb)
  refine wp_loop_rounds 2 ?_
  rw [rounds_succ]
  have q0 := HC.out.c0
  have q1 := HC.out.c1
  have q2 := HC.out.c2
  have q3 := HC.out.c3
  have q4 := HC.out.c4
  have k0 : (v2a.alloc (.cells #[.pointer (some ⟨gL, 0, none⟩), .int .i64 0, .string tAAB, .int .i64 80, .bool false] 54)).cell? ⟨gL, 0, none⟩ = some (.int .i64 1) := (HI.out.alloc _).cell 0
  have hb : Below v2a.heap.size v2a (v2a.alloc (.cells #[.pointer (some ⟨gL, 0, none⟩), .int .i64 0, .string tAAB, .int .i64 80, .bool false] 54)) := below_alloc (Below.refl _ _) _
  have HC := Lib.hid (HC.out.below hb)
  have HB := Lib.hid (HB.out.below hb HB.out.lt)
  have HI := Lib.hid (HI.out.below hb HI.out.lt)
  have HG := Lib.hid (HG.out.trans (.inl rfl) (Fr.below (gS := gB) (v := .slice none 0 0) hb))
  clear hb
  go_wp2_with fail
  rw [rounds_succ]
  go_upto_region 15 with fail
  clear q0 q1 q2 q3 q4 k0
  generalize World.alloc v2a _ = v3a at HC HB HI HG ⊢
  generalize v2a.heap.size = gVa
  have a8 : v3a.cell? ⟨gB, 8, none⟩ = some (.slice none 0 0) := HB.out.cell 8
  have HV3a : Hid (w.heap.size ≤ v3a.heap.size) := HG.out.size
  go_upto_region 16 with (at_builtin; refine wpList_append_lies rfl _ _ 41 rfl w.heap.size 54 i1 (.agg #[.pointer none, .int .i64 0, .string ⟨#[]⟩, .int .i64 0, .bool false]) 5 48 Try.underlying41 hib hzb0 hzb1 hzb2 rfl (by decide) (.slice none 0 0) 0 [] rfl (World.ownsRow_nil _ _ _ _) ⟨g2a, 0, none⟩ 1 c2a (#[.pointer (some ⟨gL, 0, none⟩), .int .i64 0, .string tAAB, .int .i64 80, .bool false] : Array Value).toList rfl rfl HC.out.adds (prt_one _ _ _ _) (by omega) (by unfold maxLen; omega) (by omega) HV3a.out _ rfl ?_; intro gla cla v4a ol hgl hatl hltl; have hb : Below v3a.heap.size v3a v4a := (Below.refl _ _).grown hgl (Nat.le_refl _) (fun k hk => by cases hk); have HOL := Lib.hid ol; have HC := Lib.hid (HC.out.below hb); have HB := Lib.hid (HB.out.below hb HB.out.lt); have HI := Lib.hid (HI.out.below hb HI.out.lt); have HG := Lib.hid (HG.out.trans (.inl rfl) (Fr.below (gS := gB) (v := .slice none 0 0) hb)); skip; have a8 : v4a.cell? ⟨gB, 8, none⟩ = some (.slice none 0 0) := HB.out.cell 8; have z8 : v4a.frozen? ⟨gB, 8, none⟩ = false := HB.out.free 8; clear ol hgl hatl hltl hb)
  have HNG : Hid (gla ≠ gB) := fun e => blk_ne HB.out HOL.out (by decide) (by rw [e]; rfl)
  have HLN : Hid (w.heap.size ≤ gla) := (part_own HOL.out).2
  have HNI := Lib.hid (blk_two HI.out HB.out (by decide))
  have HCG : Hid (g2a ≠ gB) := fun e => Nat.lt_irrefl _ (Nat.lt_of_lt_of_le (by rw [e]; exact HBL.out) HGCa.out)
  have HOL := Lib.hid (own_setFar (j := 8) (u := .slice (some ⟨gla, 0, none⟩) (0 + 1) cla) HOL.out (blk_ne HB.out HOL.out (by decide)))
  have HI := Lib.hid (HI.out.far HNI.out (i := 8) (.slice (some ⟨gla, 0, none⟩) (0 + 1) cla))
  have HG := Lib.hid (HG.out.trans (.inl rfl) (Fr.set (gS := gB) (v := .slice none 0 0) (w := v4a) 8 (.slice (some ⟨gla, 0, none⟩) (0 + 1) cla)))
  have HC := Lib.hid ((Fr.set (gS := gB) (v := .slice none 0 0) (w := v4a) 8 (.slice (some ⟨gla, 0, none⟩) (0 + 1) cla)).part HC.out HCG.out (by intro e; cases e))
  have HB := Lib.hid (show Blk (v4a.setCell ⟨gB, 8, none⟩ (.slice (some ⟨gla, 0, none⟩) (0 + 1) cla)) gB 43 (brC gF 0 0 100 (.slice (some ⟨gla, 0, none⟩) (0 + 1) cla) false (.slice none 0 0)) from HB.out.stored 8 _)
  clear a8 z8
  generalize World.setCell v4a _ _ = v5a at HOL HI HG HB HC ⊢
  have a9 : v5a.cell? ⟨gB, 9, none⟩ = some (.bool false) := HB.out.cell 9
  go_upto_region 17 with (go_at_call 32; refine (full1_calls g2a 0 c2a gL tAAB 80 false v5a HC.out HI.out).mono ?_; rintro e v6a ⟨rfl, hb⟩; have HOL := Lib.hid (own_below HOL.out hb); have HC := Lib.hid (HC.out.below hb); have HB := Lib.hid (HB.out.below hb HB.out.lt); have HI := Lib.hid (HI.out.below hb HI.out.lt); have HG := Lib.hid (HG.out.trans (.inl rfl) (Fr.below (gS := gB) (v := .slice none 0 0) hb)); skip; have a9 : v6a.cell? ⟨gB, 9, none⟩ = some (.bool false) := HB.out.cell 9; have z9 : v6a.frozen? ⟨gB, 9, none⟩ = false := HB.out.free 9; clear hb)
  have HOL := Lib.hid (own_setFar (j := 9) (u := .bool true) HOL.out (blk_ne HB.out HOL.out (by decide)))
  have HI := Lib.hid (HI.out.far HNI.out (i := 9) (.bool true))
  have HG := Lib.hid (HG.out.trans (.inl rfl) (Fr.set (gS := gB) (v := .slice none 0 0) (w := v6a) 9 (.bool true)))
  have HC := Lib.hid ((Fr.set (gS := gB) (v := .slice none 0 0) (w := v6a) 9 (.bool true)).part HC.out HCG.out (by intro e; cases e))
  have HB := Lib.hid (show Blk (v6a.setCell ⟨gB, 9, none⟩ (.bool true)) gB 43 (brC gF 0 0 100 (.slice (some ⟨gla, 0, none⟩) (0 + 1) cla) true (.slice none 0 0)) from HB.out.stored 9 _)
  clear a9 z9
  generalize World.setCell v6a _ _ = v7a at HOL HI HG HB HC ⊢
  have q0 := HC.out.c0
  have k0 : v7a.cell? ⟨gL, 0, none⟩ = some (.int .i64 1) := HI.out.cell 0
  go_wp2_with fail
  (try simp only [Exit.inBlock, Exit.then]); refine bodyPost_end (results_none rfl _ _ _) rfl ?_
  exact ⟨rfl, gla, cla, HB.out, (part_own HOL.out).1, HLN.out, HG.out⟩
set_option maxRecDepth 100000 in
set_option maxHeartbeats 16000000 in
theorem put1_calls (hT : TellSaid) (gB gF : Nat) (b o c gL b0 c0 base : Nat) (w : World) (hB : Blk w gB 43 (brC gF 0 0 100 (.slice (some ⟨b0, 0, none⟩) 1 c0) true (.slice none 0 0))) (hP0 : PartAt w b0 0 gL tAAB 80 false) (hP : PartAt w b o gL tAA 64 true) (hne : b ≠ gB) (hI : Blk w gL 28 itemC) (hF : Blk w gF 51 roomC) (hbase : base ≤ w.heap.size) :
    Calls Try.prog 17 #[.pointer (some ⟨gB, 0, none⟩), .slice (some ⟨b, o, none⟩) 1 c] w fun e w' => e = .returned (.tuple #[]) ∧ ∃ g cp gp cc gl cl, Blk w' gB 43 (brC gF 80 0 100 (.slice (some ⟨gl, 0, none⟩) 1 cl) true (.slice (some ⟨g, 0, none⟩) 1 cp)) ∧ w'.ownsRow base 34 7 (.slice (some ⟨g, 0, none⟩) 1 cp) 1 (lineC 0 gp cc false).toList ∧ w'.ownsRow w.heap.size 36 4 (.slice (some ⟨gp, 0, none⟩) 1 cc) 1 pieceC.toList ∧ PartAt w' gl 0 gL tAA 64 true ∧ w.heap.size ≤ gl ∧ Fr gB (.slice none 0 0) w w' := by
  have mixed : Try.prog.follows .mixedOrders = true := by kernel_rfl
  obtain ⟨i1, hib, hzb0, hzb1, hzb2⟩ := info_parts info_prt
  have HBL := Lib.hid hB.lt
  have HB := Lib.hid hB
  have HP := Lib.hid hP
  have HP0 := Lib.hid hP0
  have HI := Lib.hid hI
  have HF := Lib.hid hF
  have HT := Lib.hid hT
  have HNE := Lib.hid hne
  have HBASE := Lib.hid hbase
  have HG := Lib.hid (Fr.refl (gS := gB) (v := .slice none 0 0) (w := w))
  have HTL : Hid (∀ X, Blk X gL 28 itemC → Calls Try.prog 45 #[.agg #[.pointer (some ⟨gL, 0, none⟩), .int .i64 0, .string tAA, .int .i64 64, .bool true]] X fun e w' => e = .returned (.int .i64 0) ∧ Below X.heap.size X w') := fun X hX => ptailA_calls gL true 64 X hX
  have hw0 : IntKind.i64.wrap 0 = 0 := by decide
  have hw1 : IntKind.i64.wrap 1 = 1 := by decide
  have hw80 : IntKind.i64.wrap 80 = 80 := by decide
  have hw64 : IntKind.i64.wrap 64 = 64 := by decide
  have hw100 : IntKind.i64.wrap 100 = 100 := by decide
  have hw144 : IntKind.i64.wrap 144 = 144 := by decide
  clear hB hP hP0 hI hF hT hne hbase
  go_enter Try.func17, Try.ntmps17
  go_wp2_with fail
  refine wp_loop_rounds 2 ?_
  rw [rounds_succ]
  go_upto_region 1 with (go_at_call 29; refine (clean1_calls gB gF 0 0 100 (.slice (some ⟨b0, 0, none⟩) 1 c0) true (.slice none 0 0) b o c gL tAA (.inl rfl) 64 true w HB.out HP.out HI.out).mono ?_; rintro e v1 ⟨g1, c1, rfl, hpc, hgc, hb⟩; have HC := Lib.hid hpc; have HB := Lib.hid (HB.out.below hb HB.out.lt); have HI := Lib.hid (HI.out.below hb HI.out.lt); have HF := Lib.hid (HF.out.below hb HF.out.lt); have HP := Lib.hid (HP.out.below hb); have HP0 := Lib.hid (HP0.out.below hb); have HG := Lib.hid (HG.out.trans (.inl rfl) (Fr.below (gS := gB) (v := .slice none 0 0) hb)); clear hpc hgc hb)
  have HB := Lib.hid (show Blk (World.drew v1) _ _ _ from HB.out.drew)
  have HI := Lib.hid (show Blk (World.drew v1) _ _ _ from HI.out.drew)
  have HF := Lib.hid (show Blk (World.drew v1) _ _ _ from HF.out.drew)
  have HP := Lib.hid (show PartAt (World.drew v1) _ _ _ _ _ _ from HP.out.below (below_drewN (Below.refl _ _) 1))
  have HP0 := Lib.hid (show PartAt (World.drew v1) _ _ _ _ _ _ from HP0.out.below (below_drewN (Below.refl _ _) 1))
  have HC := Lib.hid (show PartAt (World.drew v1) _ _ _ _ _ _ from HC.out.below (below_drewN (Below.refl _ _) 1))
  have HG := Lib.hid (show Fr gB (.slice none 0 0) w (World.drew v1) from HG.out.trans (.inl rfl) (Fr.below (gS := gB) (v := .slice none 0 0) (below_drewN (Below.refl _ _) 1)))
  have hS0 : (fun w' : World => w'.cell? ⟨gB, 8, none⟩ = some (.slice (some ⟨b0, 0, none⟩) 1 c0) ∧ w'.cell? ⟨gB, 7, none⟩ = some (.int .i64 100) ∧ w'.cell? ⟨gB, 6, none⟩ = some (.int .i64 0) ∧ w'.cell? ⟨gB, 9, none⟩ = some (.bool true)) (World.drew v1) := ⟨HB.out.cell 8, HB.out.cell 7, HB.out.cell 6, HB.out.cell 9⟩
  refine wp_region_noPanic ?_
  refine region_M (S := fun w' => w'.cell? ⟨gB, 8, none⟩ = some (.slice (some ⟨b0, 0, none⟩) 1 c0) ∧ w'.cell? ⟨gB, 7, none⟩ = some (.int .i64 100) ∧ w'.cell? ⟨gB, 6, none⟩ = some (.int .i64 0) ∧ w'.cell? ⟨gB, 9, none⟩ = some (.bool true)) (T := []) (by kernel_rfl) ?_
  generalize World.drew v1 = x0 at HB HI HF HP HP0 HC HG hS0 ⊢
  refine anyM_free (i := 0) (oi := { dst := some 12, op := _, type := _, pos := _, after := _, guard := _ }) (v := ?_) rfl (by kernel_rfl) (fun _ _ _ h => h) (Or.inl ⟨by kernel_rfl, ?_⟩) (fun _ => hS0) ?_
  rotate_left 1
  · (intro w hSw; (try dsimp only at hSw); go_simp; try with_reducible rfl)
  try simp only [Act.put, Array.toArray_toList, List.setIfInBounds_toArray, List.set_cons_zero, List.set_cons_succ]
  refine anyM_free (i := 1) (oi := { dst := some 13, op := _, type := _, pos := _, after := _, guard := _ }) (v := ?_) rfl (by kernel_rfl) (fun _ _ _ h => h) (Or.inl ⟨by kernel_rfl, ?_⟩) (fun _ => hS0) ?_
  rotate_left 1
  · (intro w hSw; (try dsimp only at hSw); go_simp; try with_reducible rfl)
  try simp only [Act.put, Array.toArray_toList, List.setIfInBounds_toArray, List.set_cons_zero, List.set_cons_succ]
  refine anyM_free (i := 2) (oi := { dst := some 14, op := _, type := _, pos := _, after := _, guard := _ }) (v := ?_) rfl (by kernel_rfl) (fun _ _ _ h => h) (Or.inl ⟨by kernel_rfl, ?_⟩) (fun _ => hS0) ?_
  rotate_left 1
  · (intro w hSw; (try dsimp only at hSw); go_simp; try with_reducible rfl)
  try simp only [Act.put, Array.toArray_toList, List.setIfInBounds_toArray, List.set_cons_zero, List.set_cons_succ]
  refine anyM_take (i := 3) (oi := { dst := some 15, op := _, type := _, pos := _, after := _, guard := _ }) (v := ?_) rfl (by kernel_rfl) (fun _ _ _ h => h) (Or.inl ⟨by kernel_rfl, ?_⟩) hS0 ?_
  rotate_left 1
  · (intro w hSw; (try dsimp only at hSw); go_simp; try with_reducible rfl)
  try simp only [Act.put, Array.toArray_toList, List.setIfInBounds_toArray, List.set_cons_zero, List.set_cons_succ]
  refine anyM_free (i := 5) (oi := { dst := some 17, op := _, type := _, pos := _, after := _, guard := _ }) (v := ?_) rfl (by kernel_rfl) (fun _ _ _ h => h) (Or.inl ⟨by kernel_rfl, ?_⟩) (fun _ => hS0) ?_
  rotate_left 1
  · (intro w hSw; (try dsimp only at hSw); go_simp; try with_reducible rfl)
  try simp only [Act.put, Array.toArray_toList, List.setIfInBounds_toArray, List.set_cons_zero, List.set_cons_succ]
  refine anyM_free (i := 8) (oi := { dst := some 20, op := _, type := _, pos := _, after := _, guard := _ }) (v := ?_) rfl (by kernel_rfl) (fun _ _ _ h => h) (Or.inl ⟨by kernel_rfl, ?_⟩) (fun _ => hS0) ?_
  rotate_left 1
  · (intro w hSw; (try dsimp only at hSw); go_simp; try with_reducible rfl)
  try simp only [Act.put, Array.toArray_toList, List.setIfInBounds_toArray, List.set_cons_zero, List.set_cons_succ]
  refine anyM_free (i := 11) (oi := { dst := some 23, op := _, type := _, pos := _, after := _, guard := _ }) (v := ?_) rfl (by kernel_rfl) (fun _ _ _ h => h) (Or.inl ⟨by kernel_rfl, ?_⟩) (fun _ => hS0) ?_
  rotate_left 1
  · (intro w hSw; (try dsimp only at hSw); go_simp; try with_reducible rfl)
  try simp only [Act.put, Array.toArray_toList, List.setIfInBounds_toArray, List.set_cons_zero, List.set_cons_succ]
  refine anyM_free (i := 12) (oi := { dst := some 24, op := _, type := _, pos := _, after := _, guard := _ }) (v := ?_) rfl (by kernel_rfl) (fun _ _ _ h => h) (Or.inl ⟨by kernel_rfl, ?_⟩) (fun _ => hS0) ?_
  rotate_left 1
  · (intro w hSw; (try dsimp only at hSw); go_simp; try with_reducible rfl)
  try simp only [Act.put, Array.toArray_toList, List.setIfInBounds_toArray, List.set_cons_zero, List.set_cons_succ]
  refine anyM_free (i := 13) (oi := { dst := some 25, op := _, type := _, pos := _, after := _, guard := _ }) (v := ?_) rfl (by kernel_rfl) (fun _ _ _ h => h) (Or.inl ⟨by kernel_rfl, ?_⟩) (fun _ => hS0) ?_
  rotate_left 1
  · (intro w hSw; (try dsimp only at hSw); go_simp; try with_reducible rfl)
  try simp only [Act.put, Array.toArray_toList, List.setIfInBounds_toArray, List.set_cons_zero, List.set_cons_succ]
  refine anyM_take (i := 14) (oi := { dst := some 26, op := _, type := _, pos := _, after := _, guard := _ }) (v := ?_) rfl (by kernel_rfl) (fun _ _ _ h => h) (Or.inl ⟨by kernel_rfl, ?_⟩) hS0 ?_
  rotate_left 1
  · (intro w hSw; (try dsimp only at hSw); go_simp; try with_reducible rfl)
  try simp only [Act.put, Array.toArray_toList, List.setIfInBounds_toArray, List.set_cons_zero, List.set_cons_succ]
  refine anyM_free (i := 15) (oi := { dst := some 27, op := _, type := _, pos := _, after := _, guard := _ }) (v := ?_) rfl (by kernel_rfl) (fun _ _ _ h => h) (Or.inl ⟨by kernel_rfl, ?_⟩) (fun _ => hS0) ?_
  rotate_left 1
  · (intro w hSw; (try dsimp only at hSw); go_simp; try with_reducible rfl)
  try simp only [Act.put, Array.toArray_toList, List.setIfInBounds_toArray, List.set_cons_zero, List.set_cons_succ]
  refine anyM_free (i := 16) (oi := { dst := some 28, op := _, type := _, pos := _, after := _, guard := _ }) (v := ?_) rfl (by kernel_rfl) (fun _ _ _ h => h) (Or.inl ⟨by kernel_rfl, ?_⟩) (fun _ => hS0) ?_
  rotate_left 1
  · (intro w hSw; (try dsimp only at hSw); go_simp; try with_reducible rfl)
  try simp only [Act.put, Array.toArray_toList, List.setIfInBounds_toArray, List.set_cons_zero, List.set_cons_succ]
  refine anyM_free (i := 17) (oi := { dst := some 29, op := _, type := _, pos := _, after := _, guard := _ }) (v := ?_) rfl (by kernel_rfl) (fun _ _ _ h => h) (Or.inl ⟨by kernel_rfl, ?_⟩) (fun _ => hS0) ?_
  rotate_left 1
  · (intro w hSw; (try dsimp only at hSw); go_simp; try with_reducible rfl)
  try simp only [Act.put, Array.toArray_toList, List.setIfInBounds_toArray, List.set_cons_zero, List.set_cons_succ]
  refine anyM_take (i := 18) (oi := { dst := some 30, op := _, type := _, pos := _, after := _, guard := _ }) (v := ?_) rfl (by kernel_rfl) (fun _ _ _ h => h) (Or.inl ⟨by kernel_rfl, ?_⟩) hS0 ?_
  rotate_left 1
  · (intro w hSw; (try dsimp only at hSw); go_simp; try with_reducible rfl)
  try simp only [Act.put, Array.toArray_toList, List.setIfInBounds_toArray, List.set_cons_zero, List.set_cons_succ]
  refine anyM_free (i := 19) (oi := { dst := some 31, op := _, type := _, pos := _, after := _, guard := _ }) (v := ?_) rfl (by kernel_rfl) (fun _ _ _ h => h) (Or.inl ⟨by kernel_rfl, ?_⟩) (fun _ => hS0) ?_
  rotate_left 1
  · (intro w hSw; (try dsimp only at hSw); go_simp; try with_reducible rfl)
  try simp only [Act.put, Array.toArray_toList, List.setIfInBounds_toArray, List.set_cons_zero, List.set_cons_succ]
  refine anyM_one (i := 4) (by kernel_rfl) rfl (fun K hK => ?_)
  go_simp
  refine (width1_calls b0 0 c0 gL tAAB 80 false _ HP0.out (by decide) (by decide)).mono ?_
  rintro e x1 ⟨rfl, hb⟩
  have HB := Lib.hid (HB.out.below hb HB.out.lt)
  have HI := Lib.hid (HI.out.below hb HI.out.lt)
  have HF := Lib.hid (HF.out.below hb HF.out.lt)
  have HP := Lib.hid (HP.out.below hb)
  have HP0 := Lib.hid (HP0.out.below hb)
  have HC := Lib.hid (HC.out.below hb)
  have HG := Lib.hid (HG.out.trans (.inl rfl) (Fr.below (gS := gB) (v := .slice none 0 0) hb))
  have hS0 : (fun w' : World => w'.cell? ⟨gB, 8, none⟩ = some (.slice (some ⟨b0, 0, none⟩) 1 c0) ∧ w'.cell? ⟨gB, 7, none⟩ = some (.int .i64 100) ∧ w'.cell? ⟨gB, 6, none⟩ = some (.int .i64 0) ∧ w'.cell? ⟨gB, 9, none⟩ = some (.bool true)) x1 := ⟨HB.out.cell 8, HB.out.cell 7, HB.out.cell 6, HB.out.cell 9⟩
  clear hb
  refine hK.out _ _ (fun _ => hS0) ?_
  clear hK K
  try simp only [Act.put, Array.toArray_toList, List.setIfInBounds_toArray, List.set_cons_zero, List.set_cons_succ]
  refine anyM_one (i := 6) (by kernel_rfl) rfl (fun K hK => ?_)
  go_simp
  refine (width1_calls g1 0 c1 gL tAA 64 true _ HC.out (by decide) (by decide)).mono ?_
  rintro e x2 ⟨rfl, hb⟩
  have HB := Lib.hid (HB.out.below hb HB.out.lt)
  have HI := Lib.hid (HI.out.below hb HI.out.lt)
  have HF := Lib.hid (HF.out.below hb HF.out.lt)
  have HP := Lib.hid (HP.out.below hb)
  have HP0 := Lib.hid (HP0.out.below hb)
  have HC := Lib.hid (HC.out.below hb)
  have HG := Lib.hid (HG.out.trans (.inl rfl) (Fr.below (gS := gB) (v := .slice none 0 0) hb))
  have hS0 : (fun w' : World => w'.cell? ⟨gB, 8, none⟩ = some (.slice (some ⟨b0, 0, none⟩) 1 c0) ∧ w'.cell? ⟨gB, 7, none⟩ = some (.int .i64 100) ∧ w'.cell? ⟨gB, 6, none⟩ = some (.int .i64 0) ∧ w'.cell? ⟨gB, 9, none⟩ = some (.bool true)) x2 := ⟨HB.out.cell 8, HB.out.cell 7, HB.out.cell 6, HB.out.cell 9⟩
  clear hb
  refine hK.out _ _ (fun _ => hS0) ?_
  clear hK K
  try simp only [Act.put, Array.toArray_toList, List.setIfInBounds_toArray, List.set_cons_zero, List.set_cons_succ]
  refine anyM_free (i := 7) (oi := { dst := some 19, op := _, type := _, pos := _, after := _, guard := _ }) (v := ?_) rfl (by kernel_rfl) (fun _ _ _ h => h) (Or.inl ⟨by kernel_rfl, ?_⟩) (fun _ => hS0) ?_
  rotate_left 1
  · (intro w hSw; (try dsimp only at hSw); go_simp; try with_reducible rfl)
  try simp only [Act.put, Array.toArray_toList, List.setIfInBounds_toArray, List.set_cons_zero, List.set_cons_succ]
  refine anyM_one (i := 9) (by kernel_rfl) rfl (fun K hK => ?_)
  go_simp
  refine (tail1_calls g1 0 c1 gL tAA 64 true 0 _ HC.out HI.out HTL.out).mono ?_
  rintro e x3 ⟨rfl, hb⟩
  have HB := Lib.hid (HB.out.below hb HB.out.lt)
  have HI := Lib.hid (HI.out.below hb HI.out.lt)
  have HF := Lib.hid (HF.out.below hb HF.out.lt)
  have HP := Lib.hid (HP.out.below hb)
  have HP0 := Lib.hid (HP0.out.below hb)
  have HC := Lib.hid (HC.out.below hb)
  have HG := Lib.hid (HG.out.trans (.inl rfl) (Fr.below (gS := gB) (v := .slice none 0 0) hb))
  have hS0 : (fun w' : World => w'.cell? ⟨gB, 8, none⟩ = some (.slice (some ⟨b0, 0, none⟩) 1 c0) ∧ w'.cell? ⟨gB, 7, none⟩ = some (.int .i64 100) ∧ w'.cell? ⟨gB, 6, none⟩ = some (.int .i64 0) ∧ w'.cell? ⟨gB, 9, none⟩ = some (.bool true)) x3 := ⟨HB.out.cell 8, HB.out.cell 7, HB.out.cell 6, HB.out.cell 9⟩
  clear hb
  refine hK.out _ _ (fun _ => hS0) ?_
  clear hK K
  try simp only [Act.put, Array.toArray_toList, List.setIfInBounds_toArray, List.set_cons_zero, List.set_cons_succ]
  refine anyM_free (i := 10) (oi := { dst := some 22, op := _, type := _, pos := _, after := _, guard := _ }) (v := ?_) rfl (by kernel_rfl) (fun _ _ _ h => h) (Or.inl ⟨by kernel_rfl, ?_⟩) (fun _ => hS0) ?_
  rotate_left 1
  · (intro w hSw; (try dsimp only at hSw); go_simp; try with_reducible rfl)
  try simp only [Act.put, Array.toArray_toList, List.setIfInBounds_toArray, List.set_cons_zero, List.set_cons_succ]
  refine anyM_free (i := 20) (oi := { dst := some 32, op := _, type := _, pos := _, after := _, guard := _ }) (v := ?_) rfl (by kernel_rfl) (fun _ _ _ h => h) (Or.inl ⟨by kernel_rfl, ?_⟩) (fun _ => hS0) ?_
  rotate_left 1
  · (intro w hSw; (try dsimp only at hSw); go_simp; try with_reducible rfl)
  try simp only [Act.put, Array.toArray_toList, List.setIfInBounds_toArray, List.set_cons_zero, List.set_cons_succ]
  refine anyM_free (i := 21) (oi := { dst := some 33, op := _, type := _, pos := _, after := _, guard := _ }) (v := ?_) rfl (by kernel_rfl) (fun _ _ _ h => h) (Or.inl ⟨by kernel_rfl, ?_⟩) (fun _ => hS0) ?_
  rotate_left 1
  · (intro w hSw; (try dsimp only at hSw); go_simp; try with_reducible rfl)
  try simp only [Act.put, Array.toArray_toList, List.setIfInBounds_toArray, List.set_cons_zero, List.set_cons_succ]
  refine anyM_free (i := 22) (oi := { dst := some 34, op := _, type := _, pos := _, after := _, guard := _ }) (v := ?_) rfl (by kernel_rfl) (fun _ _ _ h => h) (Or.inl ⟨by kernel_rfl, ?_⟩) (fun _ => hS0) ?_
  rotate_left 1
  · (intro w hSw; (try dsimp only at hSw); go_simp; try with_reducible rfl)
  try simp only [Act.put, Array.toArray_toList, List.setIfInBounds_toArray, List.set_cons_zero, List.set_cons_succ]
  refine anyM_one (i := 23) (by kernel_rfl) rfl (fun K hK => ?_)
  go_simp
  refine (full1_calls g1 0 c1 gL tAA 64 true _ HC.out HI.out).mono ?_
  rintro e x4 ⟨rfl, hb⟩
  have HB := Lib.hid (HB.out.below hb HB.out.lt)
  have HI := Lib.hid (HI.out.below hb HI.out.lt)
  have HF := Lib.hid (HF.out.below hb HF.out.lt)
  have HP := Lib.hid (HP.out.below hb)
  have HP0 := Lib.hid (HP0.out.below hb)
  have HC := Lib.hid (HC.out.below hb)
  have HG := Lib.hid (HG.out.trans (.inl rfl) (Fr.below (gS := gB) (v := .slice none 0 0) hb))
  have hS0 : (fun w' : World => w'.cell? ⟨gB, 8, none⟩ = some (.slice (some ⟨b0, 0, none⟩) 1 c0) ∧ w'.cell? ⟨gB, 7, none⟩ = some (.int .i64 100) ∧ w'.cell? ⟨gB, 6, none⟩ = some (.int .i64 0) ∧ w'.cell? ⟨gB, 9, none⟩ = some (.bool true)) x4 := ⟨HB.out.cell 8, HB.out.cell 7, HB.out.cell 6, HB.out.cell 9⟩
  clear hb
  refine hK.out _ _ (fun _ => hS0) ?_
  clear hK K
  try simp only [Act.put, Array.toArray_toList, List.setIfInBounds_toArray, List.set_cons_zero, List.set_cons_succ]
  refine anyM_free (i := 24) (oi := { dst := some 36, op := _, type := _, pos := _, after := _, guard := _ }) (v := ?_) rfl (by kernel_rfl) (fun _ _ _ h => h) (Or.inl ⟨by kernel_rfl, ?_⟩) (fun _ => hS0) ?_
  rotate_left 1
  · (intro w hSw; (try dsimp only at hSw); go_simp; try with_reducible rfl)
  try simp only [Act.put, Array.toArray_toList, List.setIfInBounds_toArray, List.set_cons_zero, List.set_cons_succ]
  refine anyM_free (i := 25) (oi := { dst := some 37, op := _, type := _, pos := _, after := _, guard := _ }) (v := ?_) rfl (by kernel_rfl) (fun _ _ _ h => h) (Or.inl ⟨by kernel_rfl, ?_⟩) (fun _ => hS0) ?_
  rotate_left 1
  · (intro w hSw; (try dsimp only at hSw); go_simp; try with_reducible rfl)
  try simp only [Act.put, Array.toArray_toList, List.setIfInBounds_toArray, List.set_cons_zero, List.set_cons_succ]
  refine anyM_free (i := 26) (oi := { dst := some 38, op := _, type := _, pos := _, after := _, guard := _ }) (v := undef) rfl (by kernel_rfl) (fun _ _ _ h => h) (Or.inr ⟨by kernel_rfl, rfl⟩) (fun _ => hS0) ?_
  try simp only [Act.put, Array.toArray_toList, List.setIfInBounds_toArray, List.set_cons_zero, List.set_cons_succ]
  refine anyM_free (i := 27) (oi := { dst := some 39, op := _, type := _, pos := _, after := _, guard := _ }) (v := undef) rfl (by kernel_rfl) (fun _ _ _ h => h) (Or.inr ⟨by kernel_rfl, rfl⟩) (fun _ => hS0) ?_
  try simp only [Act.put, Array.toArray_toList, List.setIfInBounds_toArray, List.set_cons_zero, List.set_cons_succ]
  refine anyM_free (i := 28) (oi := { dst := some 40, op := _, type := _, pos := _, after := _, guard := _ }) (v := undef) rfl (by kernel_rfl) (fun _ _ _ h => h) (Or.inr ⟨by kernel_rfl, rfl⟩) (fun _ => hS0) ?_
  try simp only [Act.put, Array.toArray_toList, List.setIfInBounds_toArray, List.set_cons_zero, List.set_cons_succ]
  refine anyM_free (i := 29) (oi := { dst := some 41, op := _, type := _, pos := _, after := _, guard := _ }) (v := undef) rfl (by kernel_rfl) (fun _ _ _ h => h) (Or.inr ⟨by kernel_rfl, rfl⟩) (fun _ => hS0) ?_
  try simp only [Act.put, Array.toArray_toList, List.setIfInBounds_toArray, List.set_cons_zero, List.set_cons_succ]
  refine anyM_free (i := 30) (oi := { dst := some 42, op := _, type := _, pos := _, after := _, guard := _ }) (v := ?_) rfl (by kernel_rfl) (fun _ _ _ h => h) (Or.inl ⟨by kernel_rfl, ?_⟩) (fun _ => hS0) ?_
  rotate_left 1
  · (intro w hSw; (try dsimp only at hSw); go_simp; try with_reducible rfl)
  try simp only [Act.put, Array.toArray_toList, List.setIfInBounds_toArray, List.set_cons_zero, List.set_cons_succ]
  refine anyM_free (i := 31) (oi := { dst := some 43, op := _, type := _, pos := _, after := _, guard := _ }) (v := ?_) rfl (by kernel_rfl) (fun _ _ _ h => h) (Or.inl ⟨by kernel_rfl, ?_⟩) (fun _ => hS0) ?_
  rotate_left 1
  · (intro w hSw; (try dsimp only at hSw); go_simp; try with_reducible rfl)
  try simp only [Act.put, Array.toArray_toList, List.setIfInBounds_toArray, List.set_cons_zero, List.set_cons_succ]
  refine anyM_done (by kernel_rfl) ?_ _
  refine NoPanic.normal ?_
  clear hS0
  clear HTL HC
  have a9 : x4.cell? ⟨gB, 9, none⟩ = some (.bool true) := HB.out.cell 9
  go_wp2_with (go_at_call 18; refine (end_calls HT.out gB gF 0 true b0 0 c0 gL tAAB 80 false false (.inl ⟨rfl, rfl⟩) (by decide) (by decide) base 0 none 0 [] x4 (by decide) (Nat.le_trans HBASE.out HG.out.size) HB.out HP0.out HI.out (World.ownsRow_nil _ _ _ _) HF.out).mono ?_; rintro e w4 ⟨rfl, gO, cp, gp, cc, hB4, hO4, hat4, hP4, hF4⟩; have HQ4 := Lib.hid hF4; have HB4 := Lib.hid hB4; have HOW := Lib.hid hO4; have HPC := Lib.hid (own_base hP4 HG.out.size); clear hB4 hO4 hat4 hP4 hF4)
  clear a9
  have HNI := Lib.hid (blk_two HI.out HB.out (by decide))
  have HI := Lib.hid (HQ4.out.blk HI.out HNI.out (by intro e; cases e))
  have HP := Lib.hid (HQ4.out.part HP.out HNE.out (by intro e; cases e))
  have HG := Lib.hid (HG.out.trans (.inl rfl) HQ4.out)
  have HB := Lib.hid (show Blk w4 gB 43 (brC gF 80 0 100 (.slice none 0 0) false (.slice (some ⟨gO, 0, none⟩) (0 + 1) cp)) from HB4.out)
  clear HNI HB4 HP0 HF HT HBASE HNE
  rw [rounds_succ]
  have HTLb : Hid (∀ X, Blk X gL 28 itemC → Calls Try.prog 45 #[.agg #[.pointer (some ⟨gL, 0, none⟩), .int .i64 0, .string tAA, .int .i64 64, .bool true]] X fun e w' => e = .returned (.int .i64 0) ∧ Below X.heap.size X w') := fun X hX => ptailA_calls gL true 64 X hX
  go_upto_region 1 with (go_at_call 29; refine (clean1_calls gB gF 80 0 100 (.slice none 0 0) false (.slice (some ⟨gO, 0, none⟩) (0 + 1) cp) b o c gL tAA (.inl rfl) 64 true w4 HB.out HP.out HI.out).mono ?_; rintro e v1b ⟨g1b, c1b, rfl, hpc, hgc, hb⟩; have HC := Lib.hid hpc; have HB := Lib.hid (HB.out.below hb HB.out.lt); have HI := Lib.hid (HI.out.below hb HI.out.lt); have HP := Lib.hid (HP.out.below hb); have HG := Lib.hid (HG.out.trans (.inl rfl) (Fr.below (gS := gB) (v := .slice none 0 0) hb)); have HOW := Lib.hid (own_below HOW.out hb); have HPC := Lib.hid (own_below HPC.out hb); clear hpc hgc hb)
  have HB := Lib.hid HB.out.drew
  have HI := Lib.hid HI.out.drew
  have HP := Lib.hid (HP.out.below (below_drewN (Below.refl _ _) 1))
  have HC := Lib.hid (HC.out.below (below_drewN (Below.refl _ _) 1))
  have HG := Lib.hid (HG.out.trans (.inl rfl) (Fr.below (gS := gB) (v := .slice none 0 0) (below_drewN (Below.refl _ _) 1)))
  have HOW := Lib.hid (show World.ownsRow (World.drew v1b) _ _ _ _ _ _ from HOW.out)
  have HPC := Lib.hid (show World.ownsRow (World.drew v1b) _ _ _ _ _ _ from HPC.out)
  have HB := Lib.hid (show Blk (World.drew v1b) _ _ _ from HB.out)
  have HI := Lib.hid (show Blk (World.drew v1b) _ _ _ from HI.out)
  have HP := Lib.hid (show PartAt (World.drew v1b) _ _ _ _ _ _ from HP.out)
  have HC := Lib.hid (show PartAt (World.drew v1b) _ _ _ _ _ _ from HC.out)
  have HG := Lib.hid (show Fr gB (.slice none 0 0) w (World.drew v1b) from HG.out)
  have hS0 : (fun w' : World => w'.cell? ⟨gB, 8, none⟩ = some (.slice none 0 0) ∧ w'.cell? ⟨gB, 7, none⟩ = some (.int .i64 100) ∧ w'.cell? ⟨gB, 6, none⟩ = some (.int .i64 0) ∧ w'.cell? ⟨gB, 9, none⟩ = some (.bool false)) (World.drew v1b) := ⟨HB.out.cell 8, HB.out.cell 7, HB.out.cell 6, HB.out.cell 9⟩
  refine wp_region_noPanic ?_
  refine region_M (S := fun w' => w'.cell? ⟨gB, 8, none⟩ = some (.slice none 0 0) ∧ w'.cell? ⟨gB, 7, none⟩ = some (.int .i64 100) ∧ w'.cell? ⟨gB, 6, none⟩ = some (.int .i64 0) ∧ w'.cell? ⟨gB, 9, none⟩ = some (.bool false)) (T := []) (by kernel_rfl) ?_
  generalize World.drew v1b = u0b at HB HI HP HC HG hS0 HOW HPC ⊢
  refine anyM_free (i := 0) (oi := { dst := some 12, op := _, type := _, pos := _, after := _, guard := _ }) (v := ?_) rfl (by kernel_rfl) (fun _ _ _ h => h) (Or.inl ⟨by kernel_rfl, ?_⟩) (fun _ => hS0) ?_
  rotate_left 1
  · (intro w hSw; (try dsimp only at hSw); go_simp; try with_reducible rfl)
  try simp only [Act.put, Array.toArray_toList, List.setIfInBounds_toArray, List.set_cons_zero, List.set_cons_succ]
  refine anyM_free (i := 1) (oi := { dst := some 13, op := _, type := _, pos := _, after := _, guard := _ }) (v := ?_) rfl (by kernel_rfl) (fun _ _ _ h => h) (Or.inl ⟨by kernel_rfl, ?_⟩) (fun _ => hS0) ?_
  rotate_left 1
  · (intro w hSw; (try dsimp only at hSw); go_simp; try with_reducible rfl)
  try simp only [Act.put, Array.toArray_toList, List.setIfInBounds_toArray, List.set_cons_zero, List.set_cons_succ]
  refine anyM_free (i := 2) (oi := { dst := some 14, op := _, type := _, pos := _, after := _, guard := _ }) (v := ?_) rfl (by kernel_rfl) (fun _ _ _ h => h) (Or.inl ⟨by kernel_rfl, ?_⟩) (fun _ => hS0) ?_
  rotate_left 1
  · (intro w hSw; (try dsimp only at hSw); go_simp; try with_reducible rfl)
  try simp only [Act.put, Array.toArray_toList, List.setIfInBounds_toArray, List.set_cons_zero, List.set_cons_succ]
  refine anyM_take (i := 3) (oi := { dst := some 15, op := _, type := _, pos := _, after := _, guard := _ }) (v := ?_) rfl (by kernel_rfl) (fun _ _ _ h => h) (Or.inl ⟨by kernel_rfl, ?_⟩) hS0 ?_
  rotate_left 1
  · (intro w hSw; (try dsimp only at hSw); go_simp; try with_reducible rfl)
  try simp only [Act.put, Array.toArray_toList, List.setIfInBounds_toArray, List.set_cons_zero, List.set_cons_succ]
  refine anyM_free (i := 5) (oi := { dst := some 17, op := _, type := _, pos := _, after := _, guard := _ }) (v := ?_) rfl (by kernel_rfl) (fun _ _ _ h => h) (Or.inl ⟨by kernel_rfl, ?_⟩) (fun _ => hS0) ?_
  rotate_left 1
  · (intro w hSw; (try dsimp only at hSw); go_simp; try with_reducible rfl)
  try simp only [Act.put, Array.toArray_toList, List.setIfInBounds_toArray, List.set_cons_zero, List.set_cons_succ]
  refine anyM_free (i := 8) (oi := { dst := some 20, op := _, type := _, pos := _, after := _, guard := _ }) (v := ?_) rfl (by kernel_rfl) (fun _ _ _ h => h) (Or.inl ⟨by kernel_rfl, ?_⟩) (fun _ => hS0) ?_
  rotate_left 1
  · (intro w hSw; (try dsimp only at hSw); go_simp; try with_reducible rfl)
  try simp only [Act.put, Array.toArray_toList, List.setIfInBounds_toArray, List.set_cons_zero, List.set_cons_succ]
  refine anyM_free (i := 11) (oi := { dst := some 23, op := _, type := _, pos := _, after := _, guard := _ }) (v := ?_) rfl (by kernel_rfl) (fun _ _ _ h => h) (Or.inl ⟨by kernel_rfl, ?_⟩) (fun _ => hS0) ?_
  rotate_left 1
  · (intro w hSw; (try dsimp only at hSw); go_simp; try with_reducible rfl)
  try simp only [Act.put, Array.toArray_toList, List.setIfInBounds_toArray, List.set_cons_zero, List.set_cons_succ]
  refine anyM_free (i := 12) (oi := { dst := some 24, op := _, type := _, pos := _, after := _, guard := _ }) (v := ?_) rfl (by kernel_rfl) (fun _ _ _ h => h) (Or.inl ⟨by kernel_rfl, ?_⟩) (fun _ => hS0) ?_
  rotate_left 1
  · (intro w hSw; (try dsimp only at hSw); go_simp; try with_reducible rfl)
  try simp only [Act.put, Array.toArray_toList, List.setIfInBounds_toArray, List.set_cons_zero, List.set_cons_succ]
  refine anyM_free (i := 13) (oi := { dst := some 25, op := _, type := _, pos := _, after := _, guard := _ }) (v := ?_) rfl (by kernel_rfl) (fun _ _ _ h => h) (Or.inl ⟨by kernel_rfl, ?_⟩) (fun _ => hS0) ?_
  rotate_left 1
  · (intro w hSw; (try dsimp only at hSw); go_simp; try with_reducible rfl)
  try simp only [Act.put, Array.toArray_toList, List.setIfInBounds_toArray, List.set_cons_zero, List.set_cons_succ]
  refine anyM_take (i := 14) (oi := { dst := some 26, op := _, type := _, pos := _, after := _, guard := _ }) (v := ?_) rfl (by kernel_rfl) (fun _ _ _ h => h) (Or.inl ⟨by kernel_rfl, ?_⟩) hS0 ?_
  rotate_left 1
  · (intro w hSw; (try dsimp only at hSw); go_simp; try with_reducible rfl)
  try simp only [Act.put, Array.toArray_toList, List.setIfInBounds_toArray, List.set_cons_zero, List.set_cons_succ]
  refine anyM_free (i := 15) (oi := { dst := some 27, op := _, type := _, pos := _, after := _, guard := _ }) (v := ?_) rfl (by kernel_rfl) (fun _ _ _ h => h) (Or.inl ⟨by kernel_rfl, ?_⟩) (fun _ => hS0) ?_
  rotate_left 1
  · (intro w hSw; (try dsimp only at hSw); go_simp; try with_reducible rfl)
  try simp only [Act.put, Array.toArray_toList, List.setIfInBounds_toArray, List.set_cons_zero, List.set_cons_succ]
  refine anyM_free (i := 16) (oi := { dst := some 28, op := _, type := _, pos := _, after := _, guard := _ }) (v := ?_) rfl (by kernel_rfl) (fun _ _ _ h => h) (Or.inl ⟨by kernel_rfl, ?_⟩) (fun _ => hS0) ?_
  rotate_left 1
  · (intro w hSw; (try dsimp only at hSw); go_simp; try with_reducible rfl)
  try simp only [Act.put, Array.toArray_toList, List.setIfInBounds_toArray, List.set_cons_zero, List.set_cons_succ]
  refine anyM_free (i := 17) (oi := { dst := some 29, op := _, type := _, pos := _, after := _, guard := _ }) (v := ?_) rfl (by kernel_rfl) (fun _ _ _ h => h) (Or.inl ⟨by kernel_rfl, ?_⟩) (fun _ => hS0) ?_
  rotate_left 1
  · (intro w hSw; (try dsimp only at hSw); go_simp; try with_reducible rfl)
  try simp only [Act.put, Array.toArray_toList, List.setIfInBounds_toArray, List.set_cons_zero, List.set_cons_succ]
  refine anyM_take (i := 18) (oi := { dst := some 30, op := _, type := _, pos := _, after := _, guard := _ }) (v := ?_) rfl (by kernel_rfl) (fun _ _ _ h => h) (Or.inl ⟨by kernel_rfl, ?_⟩) hS0 ?_
  rotate_left 1
  · (intro w hSw; (try dsimp only at hSw); go_simp; try with_reducible rfl)
  try simp only [Act.put, Array.toArray_toList, List.setIfInBounds_toArray, List.set_cons_zero, List.set_cons_succ]
  refine anyM_free (i := 19) (oi := { dst := some 31, op := _, type := _, pos := _, after := _, guard := _ }) (v := ?_) rfl (by kernel_rfl) (fun _ _ _ h => h) (Or.inl ⟨by kernel_rfl, ?_⟩) (fun _ => hS0) ?_
  rotate_left 1
  · (intro w hSw; (try dsimp only at hSw); go_simp; try with_reducible rfl)
  try simp only [Act.put, Array.toArray_toList, List.setIfInBounds_toArray, List.set_cons_zero, List.set_cons_succ]
  refine anyM_one (i := 4) (by kernel_rfl) rfl (fun K hK => ?_)
  go_simp
  refine (width0_calls 0 _).mono ?_
  rintro e u1b ⟨rfl, hb⟩
  have HB := Lib.hid (HB.out.below hb HB.out.lt)
  have HI := Lib.hid (HI.out.below hb HI.out.lt)
  have HP := Lib.hid (HP.out.below hb)
  have HC := Lib.hid (HC.out.below hb)
  have HOW := Lib.hid (own_below HOW.out hb)
  have HPC := Lib.hid (own_below HPC.out hb)
  have HG := Lib.hid (HG.out.trans (.inl rfl) (Fr.below (gS := gB) (v := .slice none 0 0) hb))
  have hS0 : (fun w' : World => w'.cell? ⟨gB, 8, none⟩ = some (.slice none 0 0) ∧ w'.cell? ⟨gB, 7, none⟩ = some (.int .i64 100) ∧ w'.cell? ⟨gB, 6, none⟩ = some (.int .i64 0) ∧ w'.cell? ⟨gB, 9, none⟩ = some (.bool false)) u1b := ⟨HB.out.cell 8, HB.out.cell 7, HB.out.cell 6, HB.out.cell 9⟩
  clear hb
  refine hK.out _ _ (fun _ => hS0) ?_
  clear hK K
  try simp only [Act.put, Array.toArray_toList, List.setIfInBounds_toArray, List.set_cons_zero, List.set_cons_succ]
  refine anyM_one (i := 6) (by kernel_rfl) rfl (fun K hK => ?_)
  go_simp
  refine (width1_calls g1b 0 c1b gL tAA 64 true _ HC.out (by decide) (by decide)).mono ?_
  rintro e u2b ⟨rfl, hb⟩
  have HB := Lib.hid (HB.out.below hb HB.out.lt)
  have HI := Lib.hid (HI.out.below hb HI.out.lt)
  have HP := Lib.hid (HP.out.below hb)
  have HC := Lib.hid (HC.out.below hb)
  have HOW := Lib.hid (own_below HOW.out hb)
  have HPC := Lib.hid (own_below HPC.out hb)
  have HG := Lib.hid (HG.out.trans (.inl rfl) (Fr.below (gS := gB) (v := .slice none 0 0) hb))
  have hS0 : (fun w' : World => w'.cell? ⟨gB, 8, none⟩ = some (.slice none 0 0) ∧ w'.cell? ⟨gB, 7, none⟩ = some (.int .i64 100) ∧ w'.cell? ⟨gB, 6, none⟩ = some (.int .i64 0) ∧ w'.cell? ⟨gB, 9, none⟩ = some (.bool false)) u2b := ⟨HB.out.cell 8, HB.out.cell 7, HB.out.cell 6, HB.out.cell 9⟩
  clear hb
  refine hK.out _ _ (fun _ => hS0) ?_
  clear hK K
  try simp only [Act.put, Array.toArray_toList, List.setIfInBounds_toArray, List.set_cons_zero, List.set_cons_succ]
  refine anyM_free (i := 7) (oi := { dst := some 19, op := _, type := _, pos := _, after := _, guard := _ }) (v := ?_) rfl (by kernel_rfl) (fun _ _ _ h => h) (Or.inl ⟨by kernel_rfl, ?_⟩) (fun _ => hS0) ?_
  rotate_left 1
  · (intro w hSw; (try dsimp only at hSw); go_simp; try with_reducible rfl)
  try simp only [Act.put, Array.toArray_toList, List.setIfInBounds_toArray, List.set_cons_zero, List.set_cons_succ]
  refine anyM_one (i := 9) (by kernel_rfl) rfl (fun K hK => ?_)
  go_simp
  refine (tail1_calls g1b 0 c1b gL tAA 64 true 0 _ HC.out HI.out HTLb.out).mono ?_
  rintro e u3b ⟨rfl, hb⟩
  have HB := Lib.hid (HB.out.below hb HB.out.lt)
  have HI := Lib.hid (HI.out.below hb HI.out.lt)
  have HP := Lib.hid (HP.out.below hb)
  have HC := Lib.hid (HC.out.below hb)
  have HOW := Lib.hid (own_below HOW.out hb)
  have HPC := Lib.hid (own_below HPC.out hb)
  have HG := Lib.hid (HG.out.trans (.inl rfl) (Fr.below (gS := gB) (v := .slice none 0 0) hb))
  have hS0 : (fun w' : World => w'.cell? ⟨gB, 8, none⟩ = some (.slice none 0 0) ∧ w'.cell? ⟨gB, 7, none⟩ = some (.int .i64 100) ∧ w'.cell? ⟨gB, 6, none⟩ = some (.int .i64 0) ∧ w'.cell? ⟨gB, 9, none⟩ = some (.bool false)) u3b := ⟨HB.out.cell 8, HB.out.cell 7, HB.out.cell 6, HB.out.cell 9⟩
  clear hb
  refine hK.out _ _ (fun _ => hS0) ?_
  clear hK K
  try simp only [Act.put, Array.toArray_toList, List.setIfInBounds_toArray, List.set_cons_zero, List.set_cons_succ]
  refine anyM_free (i := 10) (oi := { dst := some 22, op := _, type := _, pos := _, after := _, guard := _ }) (v := ?_) rfl (by kernel_rfl) (fun _ _ _ h => h) (Or.inl ⟨by kernel_rfl, ?_⟩) (fun _ => hS0) ?_
  rotate_left 1
  · (intro w hSw; (try dsimp only at hSw); go_simp; try with_reducible rfl)
  try simp only [Act.put, Array.toArray_toList, List.setIfInBounds_toArray, List.set_cons_zero, List.set_cons_succ]
  refine anyM_free (i := 20) (oi := { dst := some 32, op := _, type := _, pos := _, after := _, guard := _ }) (v := ?_) rfl (by kernel_rfl) (fun _ _ _ h => h) (Or.inl ⟨by kernel_rfl, ?_⟩) (fun _ => hS0) ?_
  rotate_left 1
  · (intro w hSw; (try dsimp only at hSw); go_simp; try with_reducible rfl)
  try simp only [Act.put, Array.toArray_toList, List.setIfInBounds_toArray, List.set_cons_zero, List.set_cons_succ]
  refine anyM_free (i := 21) (oi := { dst := some 33, op := _, type := _, pos := _, after := _, guard := _ }) (v := ?_) rfl (by kernel_rfl) (fun _ _ _ h => h) (Or.inl ⟨by kernel_rfl, ?_⟩) (fun _ => hS0) ?_
  rotate_left 1
  · (intro w hSw; (try dsimp only at hSw); go_simp; try with_reducible rfl)
  try simp only [Act.put, Array.toArray_toList, List.setIfInBounds_toArray, List.set_cons_zero, List.set_cons_succ]
  refine anyM_free (i := 22) (oi := { dst := some 34, op := _, type := _, pos := _, after := _, guard := _ }) (v := undef) rfl (by kernel_rfl) (fun _ _ _ h => h) (Or.inr ⟨by kernel_rfl, rfl⟩) (fun _ => hS0) ?_
  try simp only [Act.put, Array.toArray_toList, List.setIfInBounds_toArray, List.set_cons_zero, List.set_cons_succ]
  refine anyM_free (i := 23) (oi := { dst := some 35, op := _, type := _, pos := _, after := _, guard := _ }) (v := undef) rfl (by kernel_rfl) (fun _ _ _ h => h) (Or.inr ⟨by kernel_rfl, rfl⟩) (fun _ => hS0) ?_
  try simp only [Act.put, Array.toArray_toList, List.setIfInBounds_toArray, List.set_cons_zero, List.set_cons_succ]
  refine anyM_free (i := 24) (oi := { dst := some 36, op := _, type := _, pos := _, after := _, guard := _ }) (v := undef) rfl (by kernel_rfl) (fun _ _ _ h => h) (Or.inr ⟨by kernel_rfl, rfl⟩) (fun _ => hS0) ?_
  try simp only [Act.put, Array.toArray_toList, List.setIfInBounds_toArray, List.set_cons_zero, List.set_cons_succ]
  refine anyM_free (i := 25) (oi := { dst := some 37, op := _, type := _, pos := _, after := _, guard := _ }) (v := undef) rfl (by kernel_rfl) (fun _ _ _ h => h) (Or.inr ⟨by kernel_rfl, rfl⟩) (fun _ => hS0) ?_
  try simp only [Act.put, Array.toArray_toList, List.setIfInBounds_toArray, List.set_cons_zero, List.set_cons_succ]
  refine anyM_free (i := 26) (oi := { dst := some 38, op := _, type := _, pos := _, after := _, guard := _ }) (v := undef) rfl (by kernel_rfl) (fun _ _ _ h => h) (Or.inr ⟨by kernel_rfl, rfl⟩) (fun _ => hS0) ?_
  try simp only [Act.put, Array.toArray_toList, List.setIfInBounds_toArray, List.set_cons_zero, List.set_cons_succ]
  refine anyM_free (i := 27) (oi := { dst := some 39, op := _, type := _, pos := _, after := _, guard := _ }) (v := undef) rfl (by kernel_rfl) (fun _ _ _ h => h) (Or.inr ⟨by kernel_rfl, rfl⟩) (fun _ => hS0) ?_
  try simp only [Act.put, Array.toArray_toList, List.setIfInBounds_toArray, List.set_cons_zero, List.set_cons_succ]
  refine anyM_free (i := 28) (oi := { dst := some 40, op := _, type := _, pos := _, after := _, guard := _ }) (v := undef) rfl (by kernel_rfl) (fun _ _ _ h => h) (Or.inr ⟨by kernel_rfl, rfl⟩) (fun _ => hS0) ?_
  try simp only [Act.put, Array.toArray_toList, List.setIfInBounds_toArray, List.set_cons_zero, List.set_cons_succ]
  refine anyM_free (i := 29) (oi := { dst := some 41, op := _, type := _, pos := _, after := _, guard := _ }) (v := undef) rfl (by kernel_rfl) (fun _ _ _ h => h) (Or.inr ⟨by kernel_rfl, rfl⟩) (fun _ => hS0) ?_
  try simp only [Act.put, Array.toArray_toList, List.setIfInBounds_toArray, List.set_cons_zero, List.set_cons_succ]
  refine anyM_free (i := 30) (oi := { dst := some 42, op := _, type := _, pos := _, after := _, guard := _ }) (v := undef) rfl (by kernel_rfl) (fun _ _ _ h => h) (Or.inr ⟨by kernel_rfl, rfl⟩) (fun _ => hS0) ?_
  try simp only [Act.put, Array.toArray_toList, List.setIfInBounds_toArray, List.set_cons_zero, List.set_cons_succ]
  refine anyM_free (i := 31) (oi := { dst := some 43, op := _, type := _, pos := _, after := _, guard := _ }) (v := ?_) rfl (by kernel_rfl) (fun _ _ _ h => h) (Or.inl ⟨by kernel_rfl, ?_⟩) (fun _ => hS0) ?_
  rotate_left 1
  · (intro w hSw; (try dsimp only at hSw); go_simp; try with_reducible rfl)
  try simp only [Act.put, Array.toArray_toList, List.setIfInBounds_toArray, List.set_cons_zero, List.set_cons_succ]
  refine anyM_done (by kernel_rfl) ?_ _
  refine NoPanic.normal ?_
  clear hS0
  clear HTLb HC
  go_wp2_with (go_at_call 29; refine (clean1_calls gB gF 80 0 100 (.slice none 0 0) false (.slice (some ⟨gO, 0, none⟩) (0 + 1) cp) b o c gL tAA (.inl rfl) 64 true u3b HB.out HP.out HI.out).mono ?_; rintro e v2b ⟨g2b, c2b, rfl, hpc, hgc, hb⟩; have HGCb := Lib.hid (Nat.le_trans HG.out.size hgc); have HC := Lib.hid hpc; have HB := Lib.hid (HB.out.below hb HB.out.lt); have HI := Lib.hid (HI.out.below hb HI.out.lt); have HG := Lib.hid (HG.out.trans (.inl rfl) (Fr.below (gS := gB) (v := .slice none 0 0) hb)); have HOW := Lib.hid (own_below HOW.out hb); have HPC := Lib.hid (own_below HPC.out hb); clear hpc hgc hb)
  refine wp_loop_rounds 2 ?_
  rw [rounds_succ]
  have q0 := HC.out.c0
  have q1 := HC.out.c1
  have q2 := HC.out.c2
  have q3 := HC.out.c3
  have q4 := HC.out.c4
  have k0 : (v2b.alloc (.cells #[.pointer (some ⟨gL, 0, none⟩), .int .i64 0, .string tAA, .int .i64 64, .bool true] 54)).cell? ⟨gL, 0, none⟩ = some (.int .i64 1) := (HI.out.alloc _).cell 0
  have hb : Below v2b.heap.size v2b (v2b.alloc (.cells #[.pointer (some ⟨gL, 0, none⟩), .int .i64 0, .string tAA, .int .i64 64, .bool true] 54)) := below_alloc (Below.refl _ _) _
  have HC := Lib.hid (HC.out.below hb)
  have HB := Lib.hid (HB.out.below hb HB.out.lt)
  have HI := Lib.hid (HI.out.below hb HI.out.lt)
  have HG := Lib.hid (HG.out.trans (.inl rfl) (Fr.below (gS := gB) (v := .slice none 0 0) hb))
  have HOW := Lib.hid (own_below HOW.out hb)
  have HPC := Lib.hid (own_below HPC.out hb)
  clear hb
  go_wp2_with fail
  rw [rounds_succ]
  go_upto_region 15 with fail
  clear q0 q1 q2 q3 q4 k0
  generalize World.alloc v2b _ = v3b at HC HB HI HG HOW HPC ⊢
  generalize v2b.heap.size = gVb
  have a8 : v3b.cell? ⟨gB, 8, none⟩ = some (.slice none 0 0) := HB.out.cell 8
  have HV3b : Hid (w.heap.size ≤ v3b.heap.size) := HG.out.size
  go_upto_region 16 with (at_builtin; refine wpList_append_lies rfl _ _ 41 rfl w.heap.size 54 i1 (.agg #[.pointer none, .int .i64 0, .string ⟨#[]⟩, .int .i64 0, .bool false]) 5 48 Try.underlying41 hib hzb0 hzb1 hzb2 rfl (by decide) (.slice none 0 0) 0 [] rfl (World.ownsRow_nil _ _ _ _) ⟨g2b, 0, none⟩ 1 c2b (#[.pointer (some ⟨gL, 0, none⟩), .int .i64 0, .string tAA, .int .i64 64, .bool true] : Array Value).toList rfl rfl HC.out.adds (prt_one _ _ _ _) (by omega) (by unfold maxLen; omega) (by omega) HV3b.out _ rfl ?_; intro glb clb v4b ol hgl hatl hltl; have hb : Below v3b.heap.size v3b v4b := (Below.refl _ _).grown hgl (Nat.le_refl _) (fun k hk => by cases hk); have HOL := Lib.hid ol; have HC := Lib.hid (HC.out.below hb); have HB := Lib.hid (HB.out.below hb HB.out.lt); have HI := Lib.hid (HI.out.below hb HI.out.lt); have HG := Lib.hid (HG.out.trans (.inl rfl) (Fr.below (gS := gB) (v := .slice none 0 0) hb)); have HOW := Lib.hid (own_below HOW.out hb); have HPC := Lib.hid (own_below HPC.out hb); have a8 : v4b.cell? ⟨gB, 8, none⟩ = some (.slice none 0 0) := HB.out.cell 8; have z8 : v4b.frozen? ⟨gB, 8, none⟩ = false := HB.out.free 8; clear ol hgl hatl hltl hb)
  have HNG : Hid (glb ≠ gB) := fun e => blk_ne HB.out HOL.out (by decide) (by rw [e]; rfl)
  have HLN : Hid (w.heap.size ≤ glb) := (part_own HOL.out).2
  have HNI := Lib.hid (blk_two HI.out HB.out (by decide))
  have HCG : Hid (g2b ≠ gB) := fun e => Nat.lt_irrefl _ (Nat.lt_of_lt_of_le (by rw [e]; exact HBL.out) HGCb.out)
  have HOL := Lib.hid (own_setFar (j := 8) (u := .slice (some ⟨glb, 0, none⟩) (0 + 1) clb) HOL.out (blk_ne HB.out HOL.out (by decide)))
  have HOW := Lib.hid (own_setFar (j := 8) (u := .slice (some ⟨glb, 0, none⟩) (0 + 1) clb) HOW.out (blk_ne HB.out HOW.out (by decide)))
  have HPC := Lib.hid (own_setFar (j := 8) (u := .slice (some ⟨glb, 0, none⟩) (0 + 1) clb) HPC.out (blk_ne HB.out HPC.out (by decide)))
  have HI := Lib.hid (HI.out.far HNI.out (i := 8) (.slice (some ⟨glb, 0, none⟩) (0 + 1) clb))
  have HG := Lib.hid (HG.out.trans (.inl rfl) (Fr.set (gS := gB) (v := .slice none 0 0) (w := v4b) 8 (.slice (some ⟨glb, 0, none⟩) (0 + 1) clb)))
  have HC := Lib.hid ((Fr.set (gS := gB) (v := .slice none 0 0) (w := v4b) 8 (.slice (some ⟨glb, 0, none⟩) (0 + 1) clb)).part HC.out HCG.out (by intro e; cases e))
  have HB := Lib.hid (show Blk (v4b.setCell ⟨gB, 8, none⟩ (.slice (some ⟨glb, 0, none⟩) (0 + 1) clb)) gB 43 (brC gF 80 0 100 (.slice (some ⟨glb, 0, none⟩) (0 + 1) clb) false (.slice (some ⟨gO, 0, none⟩) (0 + 1) cp)) from HB.out.stored 8 _)
  clear a8 z8
  generalize World.setCell v4b _ _ = v5b at HOL HI HG HB HC HOW HPC ⊢
  have a9 : v5b.cell? ⟨gB, 9, none⟩ = some (.bool false) := HB.out.cell 9
  go_upto_region 17 with (go_at_call 32; refine (full1_calls g2b 0 c2b gL tAA 64 true v5b HC.out HI.out).mono ?_; rintro e v6b ⟨rfl, hb⟩; have HOL := Lib.hid (own_below HOL.out hb); have HC := Lib.hid (HC.out.below hb); have HB := Lib.hid (HB.out.below hb HB.out.lt); have HI := Lib.hid (HI.out.below hb HI.out.lt); have HG := Lib.hid (HG.out.trans (.inl rfl) (Fr.below (gS := gB) (v := .slice none 0 0) hb)); have HOW := Lib.hid (own_below HOW.out hb); have HPC := Lib.hid (own_below HPC.out hb); have a9 : v6b.cell? ⟨gB, 9, none⟩ = some (.bool false) := HB.out.cell 9; have z9 : v6b.frozen? ⟨gB, 9, none⟩ = false := HB.out.free 9; clear hb)
  have HOL := Lib.hid (own_setFar (j := 9) (u := .bool true) HOL.out (blk_ne HB.out HOL.out (by decide)))
  have HOW := Lib.hid (own_setFar (j := 9) (u := .bool true) HOW.out (blk_ne HB.out HOW.out (by decide)))
  have HPC := Lib.hid (own_setFar (j := 9) (u := .bool true) HPC.out (blk_ne HB.out HPC.out (by decide)))
  have HI := Lib.hid (HI.out.far HNI.out (i := 9) (.bool true))
  have HG := Lib.hid (HG.out.trans (.inl rfl) (Fr.set (gS := gB) (v := .slice none 0 0) (w := v6b) 9 (.bool true)))
  have HC := Lib.hid ((Fr.set (gS := gB) (v := .slice none 0 0) (w := v6b) 9 (.bool true)).part HC.out HCG.out (by intro e; cases e))
  have HB := Lib.hid (show Blk (v6b.setCell ⟨gB, 9, none⟩ (.bool true)) gB 43 (brC gF 80 0 100 (.slice (some ⟨glb, 0, none⟩) (0 + 1) clb) true (.slice (some ⟨gO, 0, none⟩) (0 + 1) cp)) from HB.out.stored 9 _)
  clear a9 z9
  generalize World.setCell v6b _ _ = v7b at HOL HI HG HB HC HOW HPC ⊢
  have q0 := HC.out.c0
  have k0 : v7b.cell? ⟨gL, 0, none⟩ = some (.int .i64 1) := HI.out.cell 0
  go_wp2_with fail
  (try simp only [Exit.inBlock, Exit.then]); refine bodyPost_end (results_none rfl _ _ _) rfl ?_
  exact ⟨rfl, gO, cp, gp, cc, glb, clb, HB.out, HOW.out, HPC.out, (part_own HOL.out).1, HLN.out, HG.out⟩
end Go.Proofs.Ytabbpdlnlibngaa
