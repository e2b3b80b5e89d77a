/- Several texts in one: TgH. -/
import Derived.Test.YtcghahfboccceaaGreatDoorTopEscapeM36
/- Contract of the parser's initial at a doctype html. Printed by genTgH.py. -/
namespace Go.Proofs.YtcghahfboccceaaGreatDoor
open Go.RowKit Go.Shelf
set_option linter.unusedVariables false
set_option linter.unusedSimpArgs false

def dtNd : Nd := ⟨5, ⟨#[104, 116, 109, 108]⟩, [], ⟨#[]⟩, -1, []⟩
set_option maxRecDepth 100000 in
set_option maxHeartbeats 4000000 in
theorem initial_dt (B b : Nat) (m : Int) (S : PS) (x : Nd) (f t : Int) (A : Option Addr) (n c : Nat) (w : World) (h : RP B b m S w) (hx : S.ns[0]? = some x) (hf : S.ns.length < 100000) (hkl0 : x.kids.length < 100000) :
    Calls Tryz.prog 127 #[.pointer (some ⟨b, 0, none⟩), .agg #[.int .i64 5, .string ⟨#[104, 116, 109, 108]⟩, .slice A n c, .string ⟨#[]⟩, .bool false, .int .i64 f, .int .i64 t]] w fun e w' => e = .returned (.bool false) ∧ RP B b m { (({ S with ns := S.ns ++ [dtNd] } : PS).put 0 S.ns.length) with quirks := false, mode := 1 } w' ∧ Left B w w' := by
  obtain ⟨g, hg⟩ : ∃ g, g = w.heap.size := ⟨_, rfl⟩
  obtain ⟨wa, hwa⟩ : ∃ wa, wa = w.alloc (.cells #[.int .i64 5, .string ⟨#[104, 116, 109, 108]⟩, .slice A n c, .string ⟨#[]⟩, .bool false, .int .i64 f, .int .i64 t] 114) := ⟨_, rfl⟩
  have TB : Hid (Blk wa g 114 #[.int .i64 5, .string ⟨#[104, 116, 109, 108]⟩, .slice A n c, .string ⟨#[]⟩, .bool false, .int .i64 f, .int .i64 t]) := by show Blk _ _ _ _; rw [hwa, hg]; exact Blk.new w _ _
  have hb0 : Below w.heap.size w wa := by rw [hwa]; exact (Below.refl _ w).alloc (Nat.le_refl _) _
  have RR := Lib.hid (h.below hb0)
  have LL := Lib.hid (Left.of_below hb0 h.bw)
  have HWA := Lib.hid hwa
  have HG := Lib.hid hg
  obtain ⟨kl, hkl⟩ : ∃ kl, kl = x.kids.length := ⟨_, rfl⟩
  rw [← hkl] at hkl0
  obtain ⟨k9, hk9⟩ : ∃ k9, k9 = S.ns.length := ⟨_, rfl⟩
  obtain ⟨S1, hS1⟩ : ∃ S1 : PS, S1 = { S with ns := S.ns ++ [dtNd] } := ⟨_, rfl⟩
  have HBH := Lib.hid (fun W (hR : RP B b m S W) => behind_calls B b m S 0 kl x W hR hx hkl.symm)
  have HMK := Lib.hid (fun W (hR : RP B b m S W) => make_calls B b m S 5 0 ⟨#[104, 116, 109, 108]⟩ ⟨#[]⟩ (.slice none 0 0) [] W hR (AttrsAt.none B W) hf)
  have HPT := Lib.hid (fun W (hR : RP B b m S1 W) => tput_calls B b m S1 0 k9 kl x W hR (by rw [hS1]; exact own_nm hx) hkl.symm (by rw [hS1, hk9]; simp) hkl0)
  rw [show (⟨5, ⟨#[104, 116, 109, 108]⟩, [], ⟨#[]⟩, -1, []⟩ : Nd) = dtNd from rfl, ← hS1, ← hk9] at HMK
  rw [← hS1, ← hk9]
  obtain ⟨S2, hS2⟩ : ∃ S2, S2 = S1.put 0 k9 := ⟨_, rfl⟩
  rw [← hS2] at HPT ⊢
  clear h hwa hg hb0 hx hkl hk9 hS1 hS2
  go_enter Tryz.func127, Tryz.ntmps127
  go_upto_region 8 with (go_at_call 90; rw [← HWA.out, ← HG.out]; refine (blanks_no 5 f t _ _ A n c _ _ (by decide)).mono ?_; rintro e w1 ⟨rfl, hb⟩; (have LL := Lib.hid (LL.out.trans (Left.of_below hb RR.out.bw))); (have RR := Lib.hid (RR.out.below hb)); (have TB := Lib.hid (TB.out.below hb TB.out.lt)); (obtain ⟨k0, k1, k2, k3, k4, k5, k6⟩ := tok7 TB.out); clear hb)
  have hS0 : (fun w' : World => w'.cell? ⟨g, 1, none⟩ = some (.string ⟨#[104, 116, 109, 108]⟩)) (World.drew w1) := k1
  have RR : Hid (RP B b m S (World.drew w1)) := RR.out.below (below_drewN (Below.refl _ _) 1)
  have TB : Hid (Blk (World.drew w1) g 114 #[.int .i64 5, .string ⟨#[104, 116, 109, 108]⟩, .slice A n c, .string ⟨#[]⟩, .bool false, .int .i64 f, .int .i64 t]) := TB.out
  have LL : Hid (Left B w (World.drew w1)) := LL.out.trans (Left.of_below (below_drewN (Below.refl _ _) 1) RR.out.bw)
  clear k0 k1 k2 k3 k4 k5 k6
  refine wp_region_noPanic ?_
  refine region_M (S := fun w' => w'.cell? ⟨g, 1, none⟩ = some (.string ⟨#[104, 116, 109, 108]⟩)) (T := []) (by kernel_rfl) ?_
  generalize World.drew w1 = wd at RR TB LL hS0 ⊢
  refine anyM_free (i := 0) (oi := { dst := some 36, op := _, type := _, pos := _, after := _, guard := _ }) (v := ?_) rfl (by kernel_rfl) (fun _ _ _ h => h) (Or.inl ⟨by kernel_rfl, ?_⟩) (fun _ => hS0) ?_
  rotate_left 1
  · (intro w hSw; (try dsimp only at hSw); go_simp; try with_reducible rfl)
  try simp only [Act.put, Array.toArray_toList, List.setIfInBounds_toArray, List.set_cons_zero, List.set_cons_succ]
  refine anyM_free (i := 1) (oi := { dst := some 37, op := _, type := _, pos := _, after := _, guard := _ }) (v := ?_) rfl (by kernel_rfl) (fun _ _ _ h => h) (Or.inl ⟨by kernel_rfl, ?_⟩) (fun _ => hS0) ?_
  rotate_left 1
  · (intro w hSw; (try dsimp only at hSw); go_simp; try with_reducible rfl)
  try simp only [Act.put, Array.toArray_toList, List.setIfInBounds_toArray, List.set_cons_zero, List.set_cons_succ]
  refine anyM_free (i := 2) (oi := { dst := some 38, op := _, type := _, pos := _, after := _, guard := _ }) (v := ?_) rfl (by kernel_rfl) (fun _ _ _ h => h) (Or.inl ⟨by kernel_rfl, ?_⟩) (fun _ => hS0) ?_
  rotate_left 1
  · (intro w hSw; (try dsimp only at hSw); go_simp; try with_reducible rfl)
  try simp only [Act.put, Array.toArray_toList, List.setIfInBounds_toArray, List.set_cons_zero, List.set_cons_succ]
  refine anyM_free (i := 3) (oi := { dst := some 39, op := _, type := _, pos := _, after := _, guard := _ }) (v := ?_) rfl (by kernel_rfl) (fun _ _ _ h => h) (Or.inl ⟨by kernel_rfl, ?_⟩) (fun _ => hS0) ?_
  rotate_left 1
  · (intro w hSw; (try dsimp only at hSw); go_simp; try with_reducible rfl)
  try simp only [Act.put, Array.toArray_toList, List.setIfInBounds_toArray, List.set_cons_zero, List.set_cons_succ]
  refine anyM_free (i := 4) (oi := { dst := some 40, op := _, type := _, pos := _, after := _, guard := _ }) (v := ?_) rfl (by kernel_rfl) (fun _ _ _ h => h) (Or.inl ⟨by kernel_rfl, ?_⟩) (fun _ => hS0) ?_
  rotate_left 1
  · (intro w hSw; (try dsimp only at hSw); go_simp; try with_reducible rfl)
  try simp only [Act.put, Array.toArray_toList, List.setIfInBounds_toArray, List.set_cons_zero, List.set_cons_succ]
  refine anyM_free (i := 5) (oi := { dst := some 41, op := _, type := _, pos := _, after := _, guard := _ }) (v := ?_) rfl (by kernel_rfl) (fun _ _ _ h => h) (Or.inl ⟨by kernel_rfl, ?_⟩) (fun _ => hS0) ?_
  rotate_left 1
  · (intro w hSw; (try dsimp only at hSw); go_simp; try with_reducible rfl)
  try simp only [Act.put, Array.toArray_toList, List.setIfInBounds_toArray, List.set_cons_zero, List.set_cons_succ]
  refine anyM_free (i := 7) (oi := { dst := some 43, op := _, type := _, pos := _, after := _, guard := _ }) (v := ?_) rfl (by kernel_rfl) (fun _ _ _ h => h) (Or.inl ⟨by kernel_rfl, ?_⟩) (fun _ => hS0) ?_
  rotate_left 1
  · (intro w hSw; (try dsimp only at hSw); go_simp; try with_reducible rfl)
  try simp only [Act.put, Array.toArray_toList, List.setIfInBounds_toArray, List.set_cons_zero, List.set_cons_succ]
  refine anyM_free (i := 8) (oi := { dst := some 44, op := _, type := _, pos := _, after := _, guard := _ }) (v := ?_) rfl (by kernel_rfl) (fun _ _ _ h => h) (Or.inl ⟨by kernel_rfl, ?_⟩) (fun _ => hS0) ?_
  rotate_left 1
  · (intro w hSw; (try dsimp only at hSw); go_simp; try with_reducible rfl)
  try simp only [Act.put, Array.toArray_toList, List.setIfInBounds_toArray, List.set_cons_zero, List.set_cons_succ]
  refine anyM_free (i := 9) (oi := { dst := some 45, op := _, type := _, pos := _, after := _, guard := _ }) (v := ?_) rfl (by kernel_rfl) (fun _ _ _ h => h) (Or.inl ⟨by kernel_rfl, ?_⟩) (fun _ => hS0) ?_
  rotate_left 1
  · (intro w hSw; (try dsimp only at hSw); go_simp; try with_reducible rfl)
  try simp only [Act.put, Array.toArray_toList, List.setIfInBounds_toArray, List.set_cons_zero, List.set_cons_succ]
  refine anyM_free (i := 10) (oi := { dst := some 46, op := _, type := _, pos := _, after := _, guard := _ }) (v := ?_) rfl (by kernel_rfl) (fun _ _ _ h => h) (Or.inl ⟨by kernel_rfl, ?_⟩) (fun _ => hS0) ?_
  rotate_left 1
  · (intro w hSw; (try dsimp only at hSw); go_simp; try with_reducible rfl)
  try simp only [Act.put, Array.toArray_toList, List.setIfInBounds_toArray, List.set_cons_zero, List.set_cons_succ]
  refine anyM_free (i := 11) (oi := { dst := some 47, op := _, type := _, pos := _, after := _, guard := _ }) (v := ?_) rfl (by kernel_rfl) (fun _ _ _ h => h) (Or.inl ⟨by kernel_rfl, ?_⟩) (fun _ => hS0) ?_
  rotate_left 1
  · (intro w hSw; (try dsimp only at hSw); go_simp; try with_reducible rfl)
  try simp only [Act.put, Array.toArray_toList, List.setIfInBounds_toArray, List.set_cons_zero, List.set_cons_succ]
  refine anyM_take (i := 12) (oi := { dst := some 48, op := _, type := _, pos := _, after := _, guard := _ }) (v := ?_) rfl (by kernel_rfl) (fun _ _ _ h => h) (Or.inl ⟨by kernel_rfl, ?_⟩) hS0 ?_
  rotate_left 1
  · (intro w hSw; (try dsimp only at hSw); go_simp; try with_reducible rfl)
  try simp only [Act.put, Array.toArray_toList, List.setIfInBounds_toArray, List.set_cons_zero, List.set_cons_succ]
  refine anyM_free (i := 13) (oi := { dst := some 49, op := _, type := _, pos := _, after := _, guard := _ }) (v := ?_) rfl (by kernel_rfl) (fun _ _ _ h => h) (Or.inl ⟨by kernel_rfl, ?_⟩) (fun _ => hS0) ?_
  rotate_left 1
  · (intro w hSw; (try dsimp only at hSw); go_simp; try with_reducible rfl)
  try simp only [Act.put, Array.toArray_toList, List.setIfInBounds_toArray, List.set_cons_zero, List.set_cons_succ]
  refine anyM_one (i := 6) (by kernel_rfl) rfl (fun K hK => ?_)
  go_simp
  refine (HBH.out _ RR.out).mono ?_
  rintro e w6 ⟨rfl, hb⟩
  have LL := Lib.hid (LL.out.trans (Left.of_below hb RR.out.bw))
  have RR := Lib.hid (RR.out.below hb)
  have TB := Lib.hid (TB.out.below hb TB.out.lt)
  have hS0 : (fun w' : World => w'.cell? ⟨g, 1, none⟩ = some (.string ⟨#[104, 116, 109, 108]⟩)) w6 := TB.out.cell 1
  clear hb
  refine hK.out _ _ (fun _ => hS0) ?_
  clear hK K
  try simp only [Act.put, Array.toArray_toList, List.setIfInBounds_toArray, List.set_cons_zero, List.set_cons_succ]
  refine anyM_one (i := 14) (by kernel_rfl) rfl (fun K hK => ?_)
  go_simp
  refine (HMK.out _ RR.out).mono ?_
  rintro e w7 ⟨rfl, hr, hl⟩
  have LL := Lib.hid (LL.out.trans hl)
  have TB := Lib.hid (hl.keep.blk TB.out (by decide) (by decide) (by decide))
  have R7 := Lib.hid hr
  have hS0 : (fun w' : World => w'.cell? ⟨g, 1, none⟩ = some (.string ⟨#[104, 116, 109, 108]⟩)) w7 := TB.out.cell 1
  clear hr hl
  refine hK.out _ _ (fun _ => hS0) ?_
  clear hK K
  try simp only [Act.put, Array.toArray_toList, List.setIfInBounds_toArray, List.set_cons_zero, List.set_cons_succ]
  refine anyM_one (i := 15) (by kernel_rfl) rfl (fun K hK => ?_)
  go_simp
  refine (HPT.out _ R7.out).mono ?_
  rintro e w8 ⟨rfl, hr, hl⟩
  have LL := Lib.hid (LL.out.trans hl)
  have TB := Lib.hid (hl.keep.blk TB.out (by decide) (by decide) (by decide))
  have R8 := Lib.hid hr
  have hS0 : (fun w' : World => w'.cell? ⟨g, 1, none⟩ = some (.string ⟨#[104, 116, 109, 108]⟩)) w8 := TB.out.cell 1
  clear hr hl
  refine hK.out _ _ (fun _ => hS0) ?_
  clear hK K
  try simp only [Act.put, Array.toArray_toList, List.setIfInBounds_toArray, List.set_cons_zero, List.set_cons_succ]
  refine anyM_done (by kernel_rfl) ?_ _
  refine NoPanic.normal ?_
  clear hS0
  have c8 := R8.out.cells.2.2.2.2.2.2.1
  have f8 := R8.out.cells.2.2.2.2.2.2.2.2.2 8
  have k1 : w8.cell? ⟨g, 1, none⟩ = some (.string ⟨#[104, 116, 109, 108]⟩) := TB.out.cell 1
  have HF := Lib.hid (R8.out.setF 8 (.bool false) { S2 with quirks := false } rfl rfl (fun _ _ => rfl))
  go_wp2_with (go_at_call 164; refine (to_calls B b m _ 1 false _ HF.out.1).mono ?_; rintro e w9 ⟨rfl, hr, hl⟩; (have LL := Lib.hid ((LL.out.trans HF.out.2).trans hl)); (have R9 := Lib.hid hr); clear hr hl)
  go_ret
  exact ⟨rfl, R9.out, LL.out⟩
end Go.Proofs.YtcghahfboccceaaGreatDoor
