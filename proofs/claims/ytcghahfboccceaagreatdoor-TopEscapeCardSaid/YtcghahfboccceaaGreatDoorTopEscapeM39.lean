/- Several texts in one: TfO. -/
import Derived.Test.YtcghahfboccceaaGreatDoorTopEscapeM38
/- Contract of the parser's one. Printed by genTfO.py. -/
namespace Go.Proofs.YtcghahfboccceaaGreatDoor
open Go.RowKit Go.Shelf
set_option linter.unusedVariables false
set_option linter.unusedSimpArgs false

theorem blanks_txt3 (kind f t : Int) (nm tx : ByteArray) (A : Option Addr) (n c : Nat) (sf : Bool) (w : World) (hk : kind = 3) (hs : tx.size ≤ 1000000) : Calls Tryz.prog 90 #[.agg #[.int .i64 kind, .string nm, .slice A n c, .string tx, .bool sf, .int .i64 f, .int .i64 t]] w fun e w' => (∃ s1 s2, e = .returned (.tuple #[.string s1, .string s2])) ∧ Below w.heap.size w w' := by
  subst hk
  exact blanks_txt f t nm tx A n c sf w hs
set_option maxRecDepth 100000 in
set_option maxHeartbeats 8000000 in
theorem one_steps (B b : Nat) (m : Int) (N : Nat) (St : Nat → PS) (kind f t : Int) (nm tx : ByteArray) (A : Option Addr) (n c : Nat) (sf : Bool) (attrs : List (ByteArray × ByteArray)) (w : World) (h : RP B b m (St 0) w) (hat : AttrsAt B (.slice A n c) attrs w) (hfr : (St 0).fresh = false)
    (hmd : ∀ i, i ≤ N → (St i).mode = 0 ∨ (St i).mode = 1 ∨ (St i).mode = 2 ∨ (St i).mode = 3 ∨ (St i).mode = 5 ∨ (St i).mode = 6)
    (h5 : kind ≠ 5 ∨ (St 0).mode = 0) (h3 : kind ≠ 3 ∨ N = 0 ∧ (St 0).mode = 6 ∧ tx.size ≠ 0 ∧ tx.size ≤ 1000000)
    (hms : ∀ i, i < N → (10 - (St (i + 1)).mode).toNat < (10 - (St i).mode).toNat)
    (htk : ∀ i, i ≤ N → ∀ W, RP B b m (St i) W → AttrsAt B (.slice A n c) attrs W → Calls Tryz.prog 92 #[.pointer (some ⟨b, 0, none⟩), .int .i64 (St i).mode, .agg #[.int .i64 kind, .string nm, .slice A n c, .string tx, .bool sf, .int .i64 f, .int .i64 t]] W fun e w' => e = .returned (.bool (decide (i < N))) ∧ RP B b m (St (i + 1)) w' ∧ Left B W w') :
    Calls Tryz.prog 63 #[.pointer (some ⟨b, 0, none⟩), .agg #[.int .i64 kind, .string nm, .slice A n c, .string tx, .bool sf, .int .i64 f, .int .i64 t]] w fun e w' => e = .returned (.tuple #[]) ∧ RP B b m (St (N + 1)) w' ∧ Left B w w' := by
  obtain ⟨g, hg⟩ : ∃ g, g = w.heap.size := ⟨_, rfl⟩
  obtain ⟨wa, hwa⟩ : ∃ wa, wa = w.alloc (.cells #[.int .i64 kind, .string nm, .slice A n c, .string tx, .bool sf, .int .i64 f, .int .i64 t] 114) := ⟨_, rfl⟩
  have TB : Hid (Blk wa g 114 #[.int .i64 kind, .string nm, .slice A n c, .string tx, .bool sf, .int .i64 f, .int .i64 t]) := by show Blk _ _ _ _; rw [hwa, hg]; exact Blk.new w _ _
  have hb0 : Below w.heap.size w wa := by rw [hwa]; exact (Below.refl _ w).alloc (Nat.le_refl _) _
  have RR := Lib.hid (h.below hb0)
  have LL := Lib.hid (Left.of_below hb0 h.bw)
  have AA := Lib.hid (own_below hat hb0)
  have HWA := Lib.hid hwa
  have HG := Lib.hid hg
  have c10 : wa.cell? ⟨b, 10, none⟩ = some (.bool false) := by rw [← hfr]; exact RR.out.cells.2.2.2.2.2.2.2.2.1
  have c4 : wa.cell? ⟨b, 4, none⟩ = some (.int .i64 (St 0).mode) := RR.out.cells.2.2.1
  have f10 := RR.out.cells.2.2.2.2.2.2.2.2.2 10
  have HF := Lib.hid (RR.out.setF 10 (.bool false) (St 0) rfl rfl (fun v vo => by unfold pcells; rw [hfr]; rfl))
  have RF := Lib.hid HF.out.1
  have LF := Lib.hid (LL.out.trans HF.out.2)
  have TF := Lib.hid (HF.out.2.keep.blk TB.out (by decide) (by decide) (by decide))
  have AF := Lib.hid (AttrsAt.keep AA.out HF.out.2.keep)
  have fc4 : (wa.setCell ⟨b, 10, none⟩ (.bool false)).cell? ⟨b, 4, none⟩ = some (.int .i64 (St 0).mode) := RF.out.cells.2.2.1
  obtain ⟨k0, k1, k2, k3, k4, k5, k6⟩ := tok7 TB.out
  obtain ⟨j0, j1, j2, j3, j4, j5, j6⟩ := tok7 TF.out
  obtain ⟨m0, hm0⟩ : ∃ m0, m0 = (St 0).mode := ⟨_, rfl⟩
  rw [← hm0] at h5 c4 fc4
  have H3 := Lib.hid h3
  have HMODE := Lib.hid hmd
  have HMS0 := Lib.hid hms
  have HTK0 := Lib.hid htk
  have HM0 := Lib.hid hm0
  have x3 : kind = 3 → tx.toList.isEmpty = false := fun e => by rcases h3 with h | h; exact absurd e h; rw [isEmpty_size]; exact beq_eq_false_iff_ne.2 h.2.2.1
  clear h hat hwa hg hb0 hfr h3 hmd hms htk hm0
  go_enter Tryz.func63, Tryz.ntmps63
  go_upto_region 1 with fail
  rw [← HWA.out, ← HG.out]
  have key : ∀ W : World, RP B b m (St 0) W → True := fun _ _ => trivial
  cases e3 : (kind == 3)
  · cases e5 : (kind == 5)
    · clear x3 h5
      go_wp2
      generalize wa.setCell ⟨b, 10, none⟩ (.bool false) = W1 at RF TF AF LF ⊢
      clear HF RR LL TB AA HWA
      go_loopw [] (fun wr => ∃ i, i ≤ N ∧ Hid (RP B b m (St i) wr) ∧ Hid (Blk wr g 114 #[.int .i64 kind, .string nm, .slice A n c, .string tx, .bool sf, .int .i64 f, .int .i64 t]) ∧ Hid (Left B w wr) ∧ Hid (AttrsAt B (.slice A n c) attrs wr)) (fun wr => match wr.cell? ⟨b, 4, none⟩ with | some v => (10 - intOf v).toNat | none => 0)
      case atStart => exact ⟨0, Nat.zero_le _, RF.out, TF.out, LF.out, AF.out⟩
      case round =>
        obtain ⟨i, hi, RR, TB, LL, AA⟩ := hrel
        have hmo := HMODE.out i hi
        obtain ⟨mo, hmo2⟩ : ∃ mo, mo = (St i).mode := ⟨_, rfl⟩
        have HTK := Lib.hid (HTK0.out i hi)
        rw [← hmo2] at hmo HTK
        have HMO := Lib.hid hmo2
        have hm40 : wr.cell? ⟨b, 4, none⟩ = some (.int .i64 mo) := by rw [hmo2]; exact RR.out.cells.2.2.1
        obtain ⟨k0, k1, k2, k3, k4, k5, k6⟩ := tok7 TB.out
        clear hmo2
        by_cases hN : i < N
        · rw [decide_eq_true hN] at HTK
          cases hq : (mo != 6)
          · skip
            go_wp2_with (first
              | (go_at_call 90; refine (blanks_no kind f t nm tx A n c sf _ (by simpa using e3)).mono ?_; rintro e w1 ⟨rfl, hb⟩; (have LL := Lib.hid (LL.out.trans (Left.of_below hb RR.out.bw))); (have RR := Lib.hid (RR.out.below hb)); (have TB := Lib.hid (TB.out.below hb TB.out.lt)); (have AA := Lib.hid (own_below AA.out hb)); (obtain ⟨k0, k1, k2, k3, k4, k5, k6⟩ := tok7 TB.out); (have hm4 : w1.cell? ⟨b, 4, none⟩ = some (.int .i64 mo) := by rw [HMO.out]; exact RR.out.cells.2.2.1))
              | (go_at_call 91; refine (parts_calls mo hmo _).mono ?_; rw [hq]; rintro e w2 ⟨rfl, hw2⟩; (obtain rfl := hw2.symm)))
            have hS0 : (fun w' : World => w'.cell? ⟨b, 4, none⟩ = some (.int .i64 mo) ∧ w'.cell? ⟨g, 0, none⟩ = some (.int .i64 kind) ∧ w'.cell? ⟨g, 1, none⟩ = some (.string nm) ∧ w'.cell? ⟨g, 2, none⟩ = some (.slice A n c) ∧ w'.cell? ⟨g, 3, none⟩ = some (.string tx) ∧ w'.cell? ⟨g, 4, none⟩ = some (.bool sf) ∧ w'.cell? ⟨g, 5, none⟩ = some (.int .i64 f) ∧ w'.cell? ⟨g, 6, none⟩ = some (.int .i64 t)) w1 := ⟨hm4, TB.out.cell 0, TB.out.cell 1, TB.out.cell 2, TB.out.cell 3, TB.out.cell 4, TB.out.cell 5, TB.out.cell 6⟩
            clear k0 k1 k2 k3 k4 k5 k6
            refine wp_region_noPanic ?_
            refine region_M (S := fun w' => w'.cell? ⟨b, 4, none⟩ = some (.int .i64 mo) ∧ w'.cell? ⟨g, 0, none⟩ = some (.int .i64 kind) ∧ w'.cell? ⟨g, 1, none⟩ = some (.string nm) ∧ w'.cell? ⟨g, 2, none⟩ = some (.slice A n c) ∧ w'.cell? ⟨g, 3, none⟩ = some (.string tx) ∧ w'.cell? ⟨g, 4, none⟩ = some (.bool sf) ∧ w'.cell? ⟨g, 5, none⟩ = some (.int .i64 f) ∧ w'.cell? ⟨g, 6, none⟩ = some (.int .i64 t)) (T := [6]) (by kernel_rfl) ?_
            have hS0 : (fun w' : World => w'.cell? ⟨b, 4, none⟩ = some (.int .i64 mo) ∧ w'.cell? ⟨g, 0, none⟩ = some (.int .i64 kind) ∧ w'.cell? ⟨g, 1, none⟩ = some (.string nm) ∧ w'.cell? ⟨g, 2, none⟩ = some (.slice A n c) ∧ w'.cell? ⟨g, 3, none⟩ = some (.string tx) ∧ w'.cell? ⟨g, 4, none⟩ = some (.bool sf) ∧ w'.cell? ⟨g, 5, none⟩ = some (.int .i64 f) ∧ w'.cell? ⟨g, 6, none⟩ = some (.int .i64 t)) (World.drew w1) := hS0
            have LL : Hid (Left B w (World.drew w1)) := LL.out.trans (Left.of_below (below_drewN (Below.refl _ _) 1) (by have := RR.out.bw; exact this))
            have RR : Hid (RP B b m (St i) (World.drew w1)) := RR.out.below (below_drewN (Below.refl _ _) 1)
            have TB : Hid (Blk (World.drew w1) g 114 #[.int .i64 kind, .string nm, .slice A n c, .string tx, .bool sf, .int .i64 f, .int .i64 t]) := TB.out
            have AA : Hid (AttrsAt B (.slice A n c) attrs (World.drew w1)) := own_below AA.out (below_drewN (Below.refl _ _) 1)
            generalize World.drew w1 = wd at LL RR TB AA hS0 ⊢
            refine anyM_free (i := 0) (oi := { dst := some 83, op := _, type := _, pos := _, after := _, guard := _ }) (v := ?_) rfl (by kernel_rfl) (fun _ _ _ h => h) (Or.inl ⟨by kernel_rfl, ?_⟩) (fun _ => hS0) ?_
            rotate_left 1
            · (intro w hSw; (try dsimp only at hSw); go_simp; try with_reducible rfl)
            try simp only [Act.put, Array.toArray_toList, List.setIfInBounds_toArray, List.set_cons_zero, List.set_cons_succ]
            refine anyM_free (i := 1) (oi := { dst := some 84, op := _, type := _, pos := _, after := _, guard := _ }) (v := ?_) rfl (by kernel_rfl) (fun _ _ _ h => h) (Or.inl ⟨by kernel_rfl, ?_⟩) (fun _ => hS0) ?_
            rotate_left 1
            · (intro w hSw; (try dsimp only at hSw); go_simp; try with_reducible rfl)
            try simp only [Act.put, Array.toArray_toList, List.setIfInBounds_toArray, List.set_cons_zero, List.set_cons_succ]
            refine anyM_free (i := 2) (oi := { dst := some 85, op := _, type := _, pos := _, after := _, guard := _ }) (v := ?_) rfl (by kernel_rfl) (fun _ _ _ h => h) (Or.inl ⟨by kernel_rfl, ?_⟩) (fun _ => hS0) ?_
            rotate_left 1
            · (intro w hSw; (try dsimp only at hSw); go_simp; try with_reducible rfl)
            try simp only [Act.put, Array.toArray_toList, List.setIfInBounds_toArray, List.set_cons_zero, List.set_cons_succ]
            refine anyM_free (i := 3) (oi := { dst := some 86, op := _, type := _, pos := _, after := _, guard := _ }) (v := ?_) rfl (by kernel_rfl) (fun _ _ _ h => h) (Or.inl ⟨by kernel_rfl, ?_⟩) (fun _ => hS0) ?_
            rotate_left 1
            · (intro w hSw; (try dsimp only at hSw); go_simp; try with_reducible rfl)
            try simp only [Act.put, Array.toArray_toList, List.setIfInBounds_toArray, List.set_cons_zero, List.set_cons_succ]
            refine anyM_take (i := 4) (oi := { dst := some 87, op := _, type := _, pos := _, after := _, guard := _ }) (v := ?_) rfl (by kernel_rfl) (fun _ _ _ h => h) (Or.inl ⟨by kernel_rfl, ?_⟩) hS0 ?_
            rotate_left 1
            · (intro w hSw; (try dsimp only at hSw); go_simp; try with_reducible rfl)
            try simp only [Act.put, Array.toArray_toList, List.setIfInBounds_toArray, List.set_cons_zero, List.set_cons_succ]
            refine anyM_take (i := 5) (oi := { dst := some 88, op := _, type := _, pos := _, after := _, guard := _ }) (v := ?_) rfl (by kernel_rfl) (fun _ _ _ h => h) (Or.inl ⟨by kernel_rfl, ?_⟩) hS0 ?_
            rotate_left 1
            · (intro w hSw; (try dsimp only at hSw); go_simp; try with_reducible rfl)
            try simp only [Act.put, Array.toArray_toList, List.setIfInBounds_toArray, List.set_cons_zero, List.set_cons_succ]
            refine anyM_one (i := 6) (by kernel_rfl) rfl (fun K hK => ?_)
            go_simp
            refine (HTK.out _ RR.out AA.out).mono ?_
            rintro e w9 ⟨rfl, hr9, hl9⟩
            have R9 := Lib.hid hr9
            have L9 := Lib.hid (LL.out.trans hl9)
            have T9 := Lib.hid (hl9.keep.blk TB.out (by decide) (by decide) (by decide))
            have A9 := Lib.hid (AttrsAt.keep AA.out hl9.keep)
            clear hr9 hl9
            refine hK.out _ _ (fun h => late_no h (by kernel_rfl)) ?_
            clear hK K
            try simp only [Act.put, Array.toArray_toList, List.setIfInBounds_toArray, List.set_cons_zero, List.set_cons_succ]
            refine anyM_freeL (i := 7) (oi := { dst := some 90, op := _, type := _, pos := _, after := _, guard := _ }) (v := ?_) rfl (by kernel_rfl) (fun _ _ _ h => h) (Or.inl ⟨by kernel_rfl, ?_⟩) ?_
            rotate_left 1
            · (intro w hSw; (try dsimp only at hSw); go_simp; try with_reducible rfl)
            try simp only [Act.put, Array.toArray_toList, List.setIfInBounds_toArray, List.set_cons_zero, List.set_cons_succ]
            refine anyM_done (by kernel_rfl) ?_ _
            refine NoPanic.normal ?_
            clear hS0
            go_wp2_with fail
            go_roundw
            case rel => exact ⟨i + 1, by omega, R9.out, T9.out, L9.out, A9.out⟩
            case measure =>
              rw [R9.out.cells.2.2.1, hm40]
              have := HMS0.out i hN
              rw [← HMO.out] at this
              exact this
          · skip
            go_wp2_with (first
              | (go_at_call 90; refine (blanks_no kind f t nm tx A n c sf _ (by simpa using e3)).mono ?_; rintro e w1 ⟨rfl, hb⟩; (have LL := Lib.hid (LL.out.trans (Left.of_below hb RR.out.bw))); (have RR := Lib.hid (RR.out.below hb)); (have TB := Lib.hid (TB.out.below hb TB.out.lt)); (have AA := Lib.hid (own_below AA.out hb)); (obtain ⟨k0, k1, k2, k3, k4, k5, k6⟩ := tok7 TB.out); (have hm4 : w1.cell? ⟨b, 4, none⟩ = some (.int .i64 mo) := by rw [HMO.out]; exact RR.out.cells.2.2.1))
              | (go_at_call 91; refine (parts_calls mo hmo _).mono ?_; rw [hq]; rintro e w2 ⟨rfl, hw2⟩; (obtain rfl := hw2.symm)))
            have hS0 : (fun w' : World => w'.cell? ⟨b, 4, none⟩ = some (.int .i64 mo) ∧ w'.cell? ⟨g, 0, none⟩ = some (.int .i64 kind) ∧ w'.cell? ⟨g, 1, none⟩ = some (.string nm) ∧ w'.cell? ⟨g, 2, none⟩ = some (.slice A n c) ∧ w'.cell? ⟨g, 3, none⟩ = some (.string tx) ∧ w'.cell? ⟨g, 4, none⟩ = some (.bool sf) ∧ w'.cell? ⟨g, 5, none⟩ = some (.int .i64 f) ∧ w'.cell? ⟨g, 6, none⟩ = some (.int .i64 t)) w1 := ⟨hm4, TB.out.cell 0, TB.out.cell 1, TB.out.cell 2, TB.out.cell 3, TB.out.cell 4, TB.out.cell 5, TB.out.cell 6⟩
            clear k0 k1 k2 k3 k4 k5 k6
            refine wp_region_noPanic ?_
            refine region_M (S := fun w' => w'.cell? ⟨b, 4, none⟩ = some (.int .i64 mo) ∧ w'.cell? ⟨g, 0, none⟩ = some (.int .i64 kind) ∧ w'.cell? ⟨g, 1, none⟩ = some (.string nm) ∧ w'.cell? ⟨g, 2, none⟩ = some (.slice A n c) ∧ w'.cell? ⟨g, 3, none⟩ = some (.string tx) ∧ w'.cell? ⟨g, 4, none⟩ = some (.bool sf) ∧ w'.cell? ⟨g, 5, none⟩ = some (.int .i64 f) ∧ w'.cell? ⟨g, 6, none⟩ = some (.int .i64 t)) (T := [6]) (by kernel_rfl) ?_
            have hS0 : (fun w' : World => w'.cell? ⟨b, 4, none⟩ = some (.int .i64 mo) ∧ w'.cell? ⟨g, 0, none⟩ = some (.int .i64 kind) ∧ w'.cell? ⟨g, 1, none⟩ = some (.string nm) ∧ w'.cell? ⟨g, 2, none⟩ = some (.slice A n c) ∧ w'.cell? ⟨g, 3, none⟩ = some (.string tx) ∧ w'.cell? ⟨g, 4, none⟩ = some (.bool sf) ∧ w'.cell? ⟨g, 5, none⟩ = some (.int .i64 f) ∧ w'.cell? ⟨g, 6, none⟩ = some (.int .i64 t)) (World.drew w1) := hS0
            have LL : Hid (Left B w (World.drew w1)) := LL.out.trans (Left.of_below (below_drewN (Below.refl _ _) 1) (by have := RR.out.bw; exact this))
            have RR : Hid (RP B b m (St i) (World.drew w1)) := RR.out.below (below_drewN (Below.refl _ _) 1)
            have TB : Hid (Blk (World.drew w1) g 114 #[.int .i64 kind, .string nm, .slice A n c, .string tx, .bool sf, .int .i64 f, .int .i64 t]) := TB.out
            have AA : Hid (AttrsAt B (.slice A n c) attrs (World.drew w1)) := own_below AA.out (below_drewN (Below.refl _ _) 1)
            generalize World.drew w1 = wd at LL RR TB AA hS0 ⊢
            refine anyM_free (i := 0) (oi := { dst := some 83, op := _, type := _, pos := _, after := _, guard := _ }) (v := ?_) rfl (by kernel_rfl) (fun _ _ _ h => h) (Or.inl ⟨by kernel_rfl, ?_⟩) (fun _ => hS0) ?_
            rotate_left 1
            · (intro w hSw; (try dsimp only at hSw); go_simp; try with_reducible rfl)
            try simp only [Act.put, Array.toArray_toList, List.setIfInBounds_toArray, List.set_cons_zero, List.set_cons_succ]
            refine anyM_free (i := 1) (oi := { dst := some 84, op := _, type := _, pos := _, after := _, guard := _ }) (v := ?_) rfl (by kernel_rfl) (fun _ _ _ h => h) (Or.inl ⟨by kernel_rfl, ?_⟩) (fun _ => hS0) ?_
            rotate_left 1
            · (intro w hSw; (try dsimp only at hSw); go_simp; try with_reducible rfl)
            try simp only [Act.put, Array.toArray_toList, List.setIfInBounds_toArray, List.set_cons_zero, List.set_cons_succ]
            refine anyM_free (i := 2) (oi := { dst := some 85, op := _, type := _, pos := _, after := _, guard := _ }) (v := ?_) rfl (by kernel_rfl) (fun _ _ _ h => h) (Or.inl ⟨by kernel_rfl, ?_⟩) (fun _ => hS0) ?_
            rotate_left 1
            · (intro w hSw; (try dsimp only at hSw); go_simp; try with_reducible rfl)
            try simp only [Act.put, Array.toArray_toList, List.setIfInBounds_toArray, List.set_cons_zero, List.set_cons_succ]
            refine anyM_free (i := 3) (oi := { dst := some 86, op := _, type := _, pos := _, after := _, guard := _ }) (v := ?_) rfl (by kernel_rfl) (fun _ _ _ h => h) (Or.inl ⟨by kernel_rfl, ?_⟩) (fun _ => hS0) ?_
            rotate_left 1
            · (intro w hSw; (try dsimp only at hSw); go_simp; try with_reducible rfl)
            try simp only [Act.put, Array.toArray_toList, List.setIfInBounds_toArray, List.set_cons_zero, List.set_cons_succ]
            refine anyM_take (i := 4) (oi := { dst := some 87, op := _, type := _, pos := _, after := _, guard := _ }) (v := ?_) rfl (by kernel_rfl) (fun _ _ _ h => h) (Or.inl ⟨by kernel_rfl, ?_⟩) hS0 ?_
            rotate_left 1
            · (intro w hSw; (try dsimp only at hSw); go_simp; try with_reducible rfl)
            try simp only [Act.put, Array.toArray_toList, List.setIfInBounds_toArray, List.set_cons_zero, List.set_cons_succ]
            refine anyM_take (i := 5) (oi := { dst := some 88, op := _, type := _, pos := _, after := _, guard := _ }) (v := ?_) rfl (by kernel_rfl) (fun _ _ _ h => h) (Or.inl ⟨by kernel_rfl, ?_⟩) hS0 ?_
            rotate_left 1
            · (intro w hSw; (try dsimp only at hSw); go_simp; try with_reducible rfl)
            try simp only [Act.put, Array.toArray_toList, List.setIfInBounds_toArray, List.set_cons_zero, List.set_cons_succ]
            refine anyM_one (i := 6) (by kernel_rfl) rfl (fun K hK => ?_)
            go_simp
            refine (HTK.out _ RR.out AA.out).mono ?_
            rintro e w9 ⟨rfl, hr9, hl9⟩
            have R9 := Lib.hid hr9
            have L9 := Lib.hid (LL.out.trans hl9)
            have T9 := Lib.hid (hl9.keep.blk TB.out (by decide) (by decide) (by decide))
            have A9 := Lib.hid (AttrsAt.keep AA.out hl9.keep)
            clear hr9 hl9
            refine hK.out _ _ (fun h => late_no h (by kernel_rfl)) ?_
            clear hK K
            try simp only [Act.put, Array.toArray_toList, List.setIfInBounds_toArray, List.set_cons_zero, List.set_cons_succ]
            refine anyM_freeL (i := 7) (oi := { dst := some 90, op := _, type := _, pos := _, after := _, guard := _ }) (v := ?_) rfl (by kernel_rfl) (fun _ _ _ h => h) (Or.inl ⟨by kernel_rfl, ?_⟩) ?_
            rotate_left 1
            · (intro w hSw; (try dsimp only at hSw); go_simp; try with_reducible rfl)
            try simp only [Act.put, Array.toArray_toList, List.setIfInBounds_toArray, List.set_cons_zero, List.set_cons_succ]
            refine anyM_done (by kernel_rfl) ?_ _
            refine NoPanic.normal ?_
            clear hS0
            go_wp2_with fail
            go_roundw
            case rel => exact ⟨i + 1, by omega, R9.out, T9.out, L9.out, A9.out⟩
            case measure =>
              rw [R9.out.cells.2.2.1, hm40]
              have := HMS0.out i hN
              rw [← HMO.out] at this
              exact this
        · rw [decide_eq_false hN] at HTK
          cases hq : (mo != 6)
          · skip
            go_wp2_with (first
              | (go_at_call 90; refine (blanks_no kind f t nm tx A n c sf _ (by simpa using e3)).mono ?_; rintro e w1 ⟨rfl, hb⟩; (have LL := Lib.hid (LL.out.trans (Left.of_below hb RR.out.bw))); (have RR := Lib.hid (RR.out.below hb)); (have TB := Lib.hid (TB.out.below hb TB.out.lt)); (have AA := Lib.hid (own_below AA.out hb)); (obtain ⟨k0, k1, k2, k3, k4, k5, k6⟩ := tok7 TB.out); (have hm4 : w1.cell? ⟨b, 4, none⟩ = some (.int .i64 mo) := by rw [HMO.out]; exact RR.out.cells.2.2.1))
              | (go_at_call 91; refine (parts_calls mo hmo _).mono ?_; rw [hq]; rintro e w2 ⟨rfl, hw2⟩; (obtain rfl := hw2.symm)))
            have hS0 : (fun w' : World => w'.cell? ⟨b, 4, none⟩ = some (.int .i64 mo) ∧ w'.cell? ⟨g, 0, none⟩ = some (.int .i64 kind) ∧ w'.cell? ⟨g, 1, none⟩ = some (.string nm) ∧ w'.cell? ⟨g, 2, none⟩ = some (.slice A n c) ∧ w'.cell? ⟨g, 3, none⟩ = some (.string tx) ∧ w'.cell? ⟨g, 4, none⟩ = some (.bool sf) ∧ w'.cell? ⟨g, 5, none⟩ = some (.int .i64 f) ∧ w'.cell? ⟨g, 6, none⟩ = some (.int .i64 t)) w1 := ⟨hm4, TB.out.cell 0, TB.out.cell 1, TB.out.cell 2, TB.out.cell 3, TB.out.cell 4, TB.out.cell 5, TB.out.cell 6⟩
            clear k0 k1 k2 k3 k4 k5 k6
            refine wp_region_noPanic ?_
            refine region_M (S := fun w' => w'.cell? ⟨b, 4, none⟩ = some (.int .i64 mo) ∧ w'.cell? ⟨g, 0, none⟩ = some (.int .i64 kind) ∧ w'.cell? ⟨g, 1, none⟩ = some (.string nm) ∧ w'.cell? ⟨g, 2, none⟩ = some (.slice A n c) ∧ w'.cell? ⟨g, 3, none⟩ = some (.string tx) ∧ w'.cell? ⟨g, 4, none⟩ = some (.bool sf) ∧ w'.cell? ⟨g, 5, none⟩ = some (.int .i64 f) ∧ w'.cell? ⟨g, 6, none⟩ = some (.int .i64 t)) (T := [6]) (by kernel_rfl) ?_
            have hS0 : (fun w' : World => w'.cell? ⟨b, 4, none⟩ = some (.int .i64 mo) ∧ w'.cell? ⟨g, 0, none⟩ = some (.int .i64 kind) ∧ w'.cell? ⟨g, 1, none⟩ = some (.string nm) ∧ w'.cell? ⟨g, 2, none⟩ = some (.slice A n c) ∧ w'.cell? ⟨g, 3, none⟩ = some (.string tx) ∧ w'.cell? ⟨g, 4, none⟩ = some (.bool sf) ∧ w'.cell? ⟨g, 5, none⟩ = some (.int .i64 f) ∧ w'.cell? ⟨g, 6, none⟩ = some (.int .i64 t)) (World.drew w1) := hS0
            have LL : Hid (Left B w (World.drew w1)) := LL.out.trans (Left.of_below (below_drewN (Below.refl _ _) 1) (by have := RR.out.bw; exact this))
            have RR : Hid (RP B b m (St i) (World.drew w1)) := RR.out.below (below_drewN (Below.refl _ _) 1)
            have TB : Hid (Blk (World.drew w1) g 114 #[.int .i64 kind, .string nm, .slice A n c, .string tx, .bool sf, .int .i64 f, .int .i64 t]) := TB.out
            have AA : Hid (AttrsAt B (.slice A n c) attrs (World.drew w1)) := own_below AA.out (below_drewN (Below.refl _ _) 1)
            generalize World.drew w1 = wd at LL RR TB AA hS0 ⊢
            refine anyM_free (i := 0) (oi := { dst := some 83, op := _, type := _, pos := _, after := _, guard := _ }) (v := ?_) rfl (by kernel_rfl) (fun _ _ _ h => h) (Or.inl ⟨by kernel_rfl, ?_⟩) (fun _ => hS0) ?_
            rotate_left 1
            · (intro w hSw; (try dsimp only at hSw); go_simp; try with_reducible rfl)
            try simp only [Act.put, Array.toArray_toList, List.setIfInBounds_toArray, List.set_cons_zero, List.set_cons_succ]
            refine anyM_free (i := 1) (oi := { dst := some 84, op := _, type := _, pos := _, after := _, guard := _ }) (v := ?_) rfl (by kernel_rfl) (fun _ _ _ h => h) (Or.inl ⟨by kernel_rfl, ?_⟩) (fun _ => hS0) ?_
            rotate_left 1
            · (intro w hSw; (try dsimp only at hSw); go_simp; try with_reducible rfl)
            try simp only [Act.put, Array.toArray_toList, List.setIfInBounds_toArray, List.set_cons_zero, List.set_cons_succ]
            refine anyM_free (i := 2) (oi := { dst := some 85, op := _, type := _, pos := _, after := _, guard := _ }) (v := ?_) rfl (by kernel_rfl) (fun _ _ _ h => h) (Or.inl ⟨by kernel_rfl, ?_⟩) (fun _ => hS0) ?_
            rotate_left 1
            · (intro w hSw; (try dsimp only at hSw); go_simp; try with_reducible rfl)
            try simp only [Act.put, Array.toArray_toList, List.setIfInBounds_toArray, List.set_cons_zero, List.set_cons_succ]
            refine anyM_free (i := 3) (oi := { dst := some 86, op := _, type := _, pos := _, after := _, guard := _ }) (v := ?_) rfl (by kernel_rfl) (fun _ _ _ h => h) (Or.inl ⟨by kernel_rfl, ?_⟩) (fun _ => hS0) ?_
            rotate_left 1
            · (intro w hSw; (try dsimp only at hSw); go_simp; try with_reducible rfl)
            try simp only [Act.put, Array.toArray_toList, List.setIfInBounds_toArray, List.set_cons_zero, List.set_cons_succ]
            refine anyM_take (i := 4) (oi := { dst := some 87, op := _, type := _, pos := _, after := _, guard := _ }) (v := ?_) rfl (by kernel_rfl) (fun _ _ _ h => h) (Or.inl ⟨by kernel_rfl, ?_⟩) hS0 ?_
            rotate_left 1
            · (intro w hSw; (try dsimp only at hSw); go_simp; try with_reducible rfl)
            try simp only [Act.put, Array.toArray_toList, List.setIfInBounds_toArray, List.set_cons_zero, List.set_cons_succ]
            refine anyM_take (i := 5) (oi := { dst := some 88, op := _, type := _, pos := _, after := _, guard := _ }) (v := ?_) rfl (by kernel_rfl) (fun _ _ _ h => h) (Or.inl ⟨by kernel_rfl, ?_⟩) hS0 ?_
            rotate_left 1
            · (intro w hSw; (try dsimp only at hSw); go_simp; try with_reducible rfl)
            try simp only [Act.put, Array.toArray_toList, List.setIfInBounds_toArray, List.set_cons_zero, List.set_cons_succ]
            refine anyM_one (i := 6) (by kernel_rfl) rfl (fun K hK => ?_)
            go_simp
            refine (HTK.out _ RR.out AA.out).mono ?_
            rintro e w9 ⟨rfl, hr9, hl9⟩
            have R9 := Lib.hid hr9
            have L9 := Lib.hid (LL.out.trans hl9)
            have T9 := Lib.hid (hl9.keep.blk TB.out (by decide) (by decide) (by decide))
            have A9 := Lib.hid (AttrsAt.keep AA.out hl9.keep)
            clear hr9 hl9
            refine hK.out _ _ (fun h => late_no h (by kernel_rfl)) ?_
            clear hK K
            try simp only [Act.put, Array.toArray_toList, List.setIfInBounds_toArray, List.set_cons_zero, List.set_cons_succ]
            refine anyM_freeL (i := 7) (oi := { dst := some 90, op := _, type := _, pos := _, after := _, guard := _ }) (v := ?_) rfl (by kernel_rfl) (fun _ _ _ h => h) (Or.inl ⟨by kernel_rfl, ?_⟩) ?_
            rotate_left 1
            · (intro w hSw; (try dsimp only at hSw); go_simp; try with_reducible rfl)
            try simp only [Act.put, Array.toArray_toList, List.setIfInBounds_toArray, List.set_cons_zero, List.set_cons_succ]
            refine anyM_done (by kernel_rfl) ?_ _
            refine NoPanic.normal ?_
            clear hS0
            go_wp2_with fail
            have hiN : i = N := by omega
            rw [hiN] at R9
            exact bodyPost_ret (results_none rfl _ _ _) rfl ⟨rfl, R9.out, L9.out⟩
          · skip
            go_wp2_with (first
              | (go_at_call 90; refine (blanks_no kind f t nm tx A n c sf _ (by simpa using e3)).mono ?_; rintro e w1 ⟨rfl, hb⟩; (have LL := Lib.hid (LL.out.trans (Left.of_below hb RR.out.bw))); (have RR := Lib.hid (RR.out.below hb)); (have TB := Lib.hid (TB.out.below hb TB.out.lt)); (have AA := Lib.hid (own_below AA.out hb)); (obtain ⟨k0, k1, k2, k3, k4, k5, k6⟩ := tok7 TB.out); (have hm4 : w1.cell? ⟨b, 4, none⟩ = some (.int .i64 mo) := by rw [HMO.out]; exact RR.out.cells.2.2.1))
              | (go_at_call 91; refine (parts_calls mo hmo _).mono ?_; rw [hq]; rintro e w2 ⟨rfl, hw2⟩; (obtain rfl := hw2.symm)))
            have hS0 : (fun w' : World => w'.cell? ⟨b, 4, none⟩ = some (.int .i64 mo) ∧ w'.cell? ⟨g, 0, none⟩ = some (.int .i64 kind) ∧ w'.cell? ⟨g, 1, none⟩ = some (.string nm) ∧ w'.cell? ⟨g, 2, none⟩ = some (.slice A n c) ∧ w'.cell? ⟨g, 3, none⟩ = some (.string tx) ∧ w'.cell? ⟨g, 4, none⟩ = some (.bool sf) ∧ w'.cell? ⟨g, 5, none⟩ = some (.int .i64 f) ∧ w'.cell? ⟨g, 6, none⟩ = some (.int .i64 t)) w1 := ⟨hm4, TB.out.cell 0, TB.out.cell 1, TB.out.cell 2, TB.out.cell 3, TB.out.cell 4, TB.out.cell 5, TB.out.cell 6⟩
            clear k0 k1 k2 k3 k4 k5 k6
            refine wp_region_noPanic ?_
            refine region_M (S := fun w' => w'.cell? ⟨b, 4, none⟩ = some (.int .i64 mo) ∧ w'.cell? ⟨g, 0, none⟩ = some (.int .i64 kind) ∧ w'.cell? ⟨g, 1, none⟩ = some (.string nm) ∧ w'.cell? ⟨g, 2, none⟩ = some (.slice A n c) ∧ w'.cell? ⟨g, 3, none⟩ = some (.string tx) ∧ w'.cell? ⟨g, 4, none⟩ = some (.bool sf) ∧ w'.cell? ⟨g, 5, none⟩ = some (.int .i64 f) ∧ w'.cell? ⟨g, 6, none⟩ = some (.int .i64 t)) (T := [6]) (by kernel_rfl) ?_
            have hS0 : (fun w' : World => w'.cell? ⟨b, 4, none⟩ = some (.int .i64 mo) ∧ w'.cell? ⟨g, 0, none⟩ = some (.int .i64 kind) ∧ w'.cell? ⟨g, 1, none⟩ = some (.string nm) ∧ w'.cell? ⟨g, 2, none⟩ = some (.slice A n c) ∧ w'.cell? ⟨g, 3, none⟩ = some (.string tx) ∧ w'.cell? ⟨g, 4, none⟩ = some (.bool sf) ∧ w'.cell? ⟨g, 5, none⟩ = some (.int .i64 f) ∧ w'.cell? ⟨g, 6, none⟩ = some (.int .i64 t)) (World.drew w1) := hS0
            have LL : Hid (Left B w (World.drew w1)) := LL.out.trans (Left.of_below (below_drewN (Below.refl _ _) 1) (by have := RR.out.bw; exact this))
            have RR : Hid (RP B b m (St i) (World.drew w1)) := RR.out.below (below_drewN (Below.refl _ _) 1)
            have TB : Hid (Blk (World.drew w1) g 114 #[.int .i64 kind, .string nm, .slice A n c, .string tx, .bool sf, .int .i64 f, .int .i64 t]) := TB.out
            have AA : Hid (AttrsAt B (.slice A n c) attrs (World.drew w1)) := own_below AA.out (below_drewN (Below.refl _ _) 1)
            generalize World.drew w1 = wd at LL RR TB AA hS0 ⊢
            refine anyM_free (i := 0) (oi := { dst := some 83, op := _, type := _, pos := _, after := _, guard := _ }) (v := ?_) rfl (by kernel_rfl) (fun _ _ _ h => h) (Or.inl ⟨by kernel_rfl, ?_⟩) (fun _ => hS0) ?_
            rotate_left 1
            · (intro w hSw; (try dsimp only at hSw); go_simp; try with_reducible rfl)
            try simp only [Act.put, Array.toArray_toList, List.setIfInBounds_toArray, List.set_cons_zero, List.set_cons_succ]
            refine anyM_free (i := 1) (oi := { dst := some 84, op := _, type := _, pos := _, after := _, guard := _ }) (v := ?_) rfl (by kernel_rfl) (fun _ _ _ h => h) (Or.inl ⟨by kernel_rfl, ?_⟩) (fun _ => hS0) ?_
            rotate_left 1
            · (intro w hSw; (try dsimp only at hSw); go_simp; try with_reducible rfl)
            try simp only [Act.put, Array.toArray_toList, List.setIfInBounds_toArray, List.set_cons_zero, List.set_cons_succ]
            refine anyM_free (i := 2) (oi := { dst := some 85, op := _, type := _, pos := _, after := _, guard := _ }) (v := ?_) rfl (by kernel_rfl) (fun _ _ _ h => h) (Or.inl ⟨by kernel_rfl, ?_⟩) (fun _ => hS0) ?_
            rotate_left 1
            · (intro w hSw; (try dsimp only at hSw); go_simp; try with_reducible rfl)
            try simp only [Act.put, Array.toArray_toList, List.setIfInBounds_toArray, List.set_cons_zero, List.set_cons_succ]
            refine anyM_free (i := 3) (oi := { dst := some 86, op := _, type := _, pos := _, after := _, guard := _ }) (v := ?_) rfl (by kernel_rfl) (fun _ _ _ h => h) (Or.inl ⟨by kernel_rfl, ?_⟩) (fun _ => hS0) ?_
            rotate_left 1
            · (intro w hSw; (try dsimp only at hSw); go_simp; try with_reducible rfl)
            try simp only [Act.put, Array.toArray_toList, List.setIfInBounds_toArray, List.set_cons_zero, List.set_cons_succ]
            refine anyM_take (i := 4) (oi := { dst := some 87, op := _, type := _, pos := _, after := _, guard := _ }) (v := ?_) rfl (by kernel_rfl) (fun _ _ _ h => h) (Or.inl ⟨by kernel_rfl, ?_⟩) hS0 ?_
            rotate_left 1
            · (intro w hSw; (try dsimp only at hSw); go_simp; try with_reducible rfl)
            try simp only [Act.put, Array.toArray_toList, List.setIfInBounds_toArray, List.set_cons_zero, List.set_cons_succ]
            refine anyM_take (i := 5) (oi := { dst := some 88, op := _, type := _, pos := _, after := _, guard := _ }) (v := ?_) rfl (by kernel_rfl) (fun _ _ _ h => h) (Or.inl ⟨by kernel_rfl, ?_⟩) hS0 ?_
            rotate_left 1
            · (intro w hSw; (try dsimp only at hSw); go_simp; try with_reducible rfl)
            try simp only [Act.put, Array.toArray_toList, List.setIfInBounds_toArray, List.set_cons_zero, List.set_cons_succ]
            refine anyM_one (i := 6) (by kernel_rfl) rfl (fun K hK => ?_)
            go_simp
            refine (HTK.out _ RR.out AA.out).mono ?_
            rintro e w9 ⟨rfl, hr9, hl9⟩
            have R9 := Lib.hid hr9
            have L9 := Lib.hid (LL.out.trans hl9)
            have T9 := Lib.hid (hl9.keep.blk TB.out (by decide) (by decide) (by decide))
            have A9 := Lib.hid (AttrsAt.keep AA.out hl9.keep)
            clear hr9 hl9
            refine hK.out _ _ (fun h => late_no h (by kernel_rfl)) ?_
            clear hK K
            try simp only [Act.put, Array.toArray_toList, List.setIfInBounds_toArray, List.set_cons_zero, List.set_cons_succ]
            refine anyM_freeL (i := 7) (oi := { dst := some 90, op := _, type := _, pos := _, after := _, guard := _ }) (v := ?_) rfl (by kernel_rfl) (fun _ _ _ h => h) (Or.inl ⟨by kernel_rfl, ?_⟩) ?_
            rotate_left 1
            · (intro w hSw; (try dsimp only at hSw); go_simp; try with_reducible rfl)
            try simp only [Act.put, Array.toArray_toList, List.setIfInBounds_toArray, List.set_cons_zero, List.set_cons_succ]
            refine anyM_done (by kernel_rfl) ?_ _
            refine NoPanic.normal ?_
            clear hS0
            go_wp2_with fail
            have hiN : i = N := by omega
            rw [hiN] at R9
            exact bodyPost_ret (results_none rfl _ _ _) rfl ⟨rfl, R9.out, L9.out⟩
    · have hm00 : m0 = 0 := by rcases h5 with h | h; exact absurd (by simpa using e5) h; exact h
      subst hm00
      clear x3 h5
      go_wp2
      generalize wa.setCell ⟨b, 10, none⟩ (.bool false) = W1 at RF TF AF LF ⊢
      clear HF RR LL TB AA HWA
      go_loopw [] (fun wr => ∃ i, i ≤ N ∧ Hid (RP B b m (St i) wr) ∧ Hid (Blk wr g 114 #[.int .i64 kind, .string nm, .slice A n c, .string tx, .bool sf, .int .i64 f, .int .i64 t]) ∧ Hid (Left B w wr) ∧ Hid (AttrsAt B (.slice A n c) attrs wr)) (fun wr => match wr.cell? ⟨b, 4, none⟩ with | some v => (10 - intOf v).toNat | none => 0)
      case atStart => exact ⟨0, Nat.zero_le _, RF.out, TF.out, LF.out, AF.out⟩
      case round =>
        obtain ⟨i, hi, RR, TB, LL, AA⟩ := hrel
        have hmo := HMODE.out i hi
        obtain ⟨mo, hmo2⟩ : ∃ mo, mo = (St i).mode := ⟨_, rfl⟩
        have HTK := Lib.hid (HTK0.out i hi)
        rw [← hmo2] at hmo HTK
        have HMO := Lib.hid hmo2
        have hm40 : wr.cell? ⟨b, 4, none⟩ = some (.int .i64 mo) := by rw [hmo2]; exact RR.out.cells.2.2.1
        obtain ⟨k0, k1, k2, k3, k4, k5, k6⟩ := tok7 TB.out
        clear hmo2
        by_cases hN : i < N
        · rw [decide_eq_true hN] at HTK
          cases hq : (mo != 6)
          · skip
            go_wp2_with (first
              | (go_at_call 90; refine (blanks_no kind f t nm tx A n c sf _ (by simpa using e3)).mono ?_; rintro e w1 ⟨rfl, hb⟩; (have LL := Lib.hid (LL.out.trans (Left.of_below hb RR.out.bw))); (have RR := Lib.hid (RR.out.below hb)); (have TB := Lib.hid (TB.out.below hb TB.out.lt)); (have AA := Lib.hid (own_below AA.out hb)); (obtain ⟨k0, k1, k2, k3, k4, k5, k6⟩ := tok7 TB.out); (have hm4 : w1.cell? ⟨b, 4, none⟩ = some (.int .i64 mo) := by rw [HMO.out]; exact RR.out.cells.2.2.1))
              | (go_at_call 91; refine (parts_calls mo hmo _).mono ?_; rw [hq]; rintro e w2 ⟨rfl, hw2⟩; (obtain rfl := hw2.symm)))
            have hS0 : (fun w' : World => w'.cell? ⟨b, 4, none⟩ = some (.int .i64 mo) ∧ w'.cell? ⟨g, 0, none⟩ = some (.int .i64 kind) ∧ w'.cell? ⟨g, 1, none⟩ = some (.string nm) ∧ w'.cell? ⟨g, 2, none⟩ = some (.slice A n c) ∧ w'.cell? ⟨g, 3, none⟩ = some (.string tx) ∧ w'.cell? ⟨g, 4, none⟩ = some (.bool sf) ∧ w'.cell? ⟨g, 5, none⟩ = some (.int .i64 f) ∧ w'.cell? ⟨g, 6, none⟩ = some (.int .i64 t)) w1 := ⟨hm4, TB.out.cell 0, TB.out.cell 1, TB.out.cell 2, TB.out.cell 3, TB.out.cell 4, TB.out.cell 5, TB.out.cell 6⟩
            clear k0 k1 k2 k3 k4 k5 k6
            refine wp_region_noPanic ?_
            refine region_M (S := fun w' => w'.cell? ⟨b, 4, none⟩ = some (.int .i64 mo) ∧ w'.cell? ⟨g, 0, none⟩ = some (.int .i64 kind) ∧ w'.cell? ⟨g, 1, none⟩ = some (.string nm) ∧ w'.cell? ⟨g, 2, none⟩ = some (.slice A n c) ∧ w'.cell? ⟨g, 3, none⟩ = some (.string tx) ∧ w'.cell? ⟨g, 4, none⟩ = some (.bool sf) ∧ w'.cell? ⟨g, 5, none⟩ = some (.int .i64 f) ∧ w'.cell? ⟨g, 6, none⟩ = some (.int .i64 t)) (T := [6]) (by kernel_rfl) ?_
            have hS0 : (fun w' : World => w'.cell? ⟨b, 4, none⟩ = some (.int .i64 mo) ∧ w'.cell? ⟨g, 0, none⟩ = some (.int .i64 kind) ∧ w'.cell? ⟨g, 1, none⟩ = some (.string nm) ∧ w'.cell? ⟨g, 2, none⟩ = some (.slice A n c) ∧ w'.cell? ⟨g, 3, none⟩ = some (.string tx) ∧ w'.cell? ⟨g, 4, none⟩ = some (.bool sf) ∧ w'.cell? ⟨g, 5, none⟩ = some (.int .i64 f) ∧ w'.cell? ⟨g, 6, none⟩ = some (.int .i64 t)) (World.drew w1) := hS0
            have LL : Hid (Left B w (World.drew w1)) := LL.out.trans (Left.of_below (below_drewN (Below.refl _ _) 1) (by have := RR.out.bw; exact this))
            have RR : Hid (RP B b m (St i) (World.drew w1)) := RR.out.below (below_drewN (Below.refl _ _) 1)
            have TB : Hid (Blk (World.drew w1) g 114 #[.int .i64 kind, .string nm, .slice A n c, .string tx, .bool sf, .int .i64 f, .int .i64 t]) := TB.out
            have AA : Hid (AttrsAt B (.slice A n c) attrs (World.drew w1)) := own_below AA.out (below_drewN (Below.refl _ _) 1)
            generalize World.drew w1 = wd at LL RR TB AA hS0 ⊢
            refine anyM_free (i := 0) (oi := { dst := some 83, op := _, type := _, pos := _, after := _, guard := _ }) (v := ?_) rfl (by kernel_rfl) (fun _ _ _ h => h) (Or.inl ⟨by kernel_rfl, ?_⟩) (fun _ => hS0) ?_
            rotate_left 1
            · (intro w hSw; (try dsimp only at hSw); go_simp; try with_reducible rfl)
            try simp only [Act.put, Array.toArray_toList, List.setIfInBounds_toArray, List.set_cons_zero, List.set_cons_succ]
            refine anyM_free (i := 1) (oi := { dst := some 84, op := _, type := _, pos := _, after := _, guard := _ }) (v := ?_) rfl (by kernel_rfl) (fun _ _ _ h => h) (Or.inl ⟨by kernel_rfl, ?_⟩) (fun _ => hS0) ?_
            rotate_left 1
            · (intro w hSw; (try dsimp only at hSw); go_simp; try with_reducible rfl)
            try simp only [Act.put, Array.toArray_toList, List.setIfInBounds_toArray, List.set_cons_zero, List.set_cons_succ]
            refine anyM_free (i := 2) (oi := { dst := some 85, op := _, type := _, pos := _, after := _, guard := _ }) (v := ?_) rfl (by kernel_rfl) (fun _ _ _ h => h) (Or.inl ⟨by kernel_rfl, ?_⟩) (fun _ => hS0) ?_
            rotate_left 1
            · (intro w hSw; (try dsimp only at hSw); go_simp; try with_reducible rfl)
            try simp only [Act.put, Array.toArray_toList, List.setIfInBounds_toArray, List.set_cons_zero, List.set_cons_succ]
            refine anyM_free (i := 3) (oi := { dst := some 86, op := _, type := _, pos := _, after := _, guard := _ }) (v := ?_) rfl (by kernel_rfl) (fun _ _ _ h => h) (Or.inl ⟨by kernel_rfl, ?_⟩) (fun _ => hS0) ?_
            rotate_left 1
            · (intro w hSw; (try dsimp only at hSw); go_simp; try with_reducible rfl)
            try simp only [Act.put, Array.toArray_toList, List.setIfInBounds_toArray, List.set_cons_zero, List.set_cons_succ]
            refine anyM_take (i := 4) (oi := { dst := some 87, op := _, type := _, pos := _, after := _, guard := _ }) (v := ?_) rfl (by kernel_rfl) (fun _ _ _ h => h) (Or.inl ⟨by kernel_rfl, ?_⟩) hS0 ?_
            rotate_left 1
            · (intro w hSw; (try dsimp only at hSw); go_simp; try with_reducible rfl)
            try simp only [Act.put, Array.toArray_toList, List.setIfInBounds_toArray, List.set_cons_zero, List.set_cons_succ]
            refine anyM_take (i := 5) (oi := { dst := some 88, op := _, type := _, pos := _, after := _, guard := _ }) (v := ?_) rfl (by kernel_rfl) (fun _ _ _ h => h) (Or.inl ⟨by kernel_rfl, ?_⟩) hS0 ?_
            rotate_left 1
            · (intro w hSw; (try dsimp only at hSw); go_simp; try with_reducible rfl)
            try simp only [Act.put, Array.toArray_toList, List.setIfInBounds_toArray, List.set_cons_zero, List.set_cons_succ]
            refine anyM_one (i := 6) (by kernel_rfl) rfl (fun K hK => ?_)
            go_simp
            refine (HTK.out _ RR.out AA.out).mono ?_
            rintro e w9 ⟨rfl, hr9, hl9⟩
            have R9 := Lib.hid hr9
            have L9 := Lib.hid (LL.out.trans hl9)
            have T9 := Lib.hid (hl9.keep.blk TB.out (by decide) (by decide) (by decide))
            have A9 := Lib.hid (AttrsAt.keep AA.out hl9.keep)
            clear hr9 hl9
            refine hK.out _ _ (fun h => late_no h (by kernel_rfl)) ?_
            clear hK K
            try simp only [Act.put, Array.toArray_toList, List.setIfInBounds_toArray, List.set_cons_zero, List.set_cons_succ]
            refine anyM_freeL (i := 7) (oi := { dst := some 90, op := _, type := _, pos := _, after := _, guard := _ }) (v := ?_) rfl (by kernel_rfl) (fun _ _ _ h => h) (Or.inl ⟨by kernel_rfl, ?_⟩) ?_
            rotate_left 1
            · (intro w hSw; (try dsimp only at hSw); go_simp; try with_reducible rfl)
            try simp only [Act.put, Array.toArray_toList, List.setIfInBounds_toArray, List.set_cons_zero, List.set_cons_succ]
            refine anyM_done (by kernel_rfl) ?_ _
            refine NoPanic.normal ?_
            clear hS0
            go_wp2_with fail
            go_roundw
            case rel => exact ⟨i + 1, by omega, R9.out, T9.out, L9.out, A9.out⟩
            case measure =>
              rw [R9.out.cells.2.2.1, hm40]
              have := HMS0.out i hN
              rw [← HMO.out] at this
              exact this
          · skip
            go_wp2_with (first
              | (go_at_call 90; refine (blanks_no kind f t nm tx A n c sf _ (by simpa using e3)).mono ?_; rintro e w1 ⟨rfl, hb⟩; (have LL := Lib.hid (LL.out.trans (Left.of_below hb RR.out.bw))); (have RR := Lib.hid (RR.out.below hb)); (have TB := Lib.hid (TB.out.below hb TB.out.lt)); (have AA := Lib.hid (own_below AA.out hb)); (obtain ⟨k0, k1, k2, k3, k4, k5, k6⟩ := tok7 TB.out); (have hm4 : w1.cell? ⟨b, 4, none⟩ = some (.int .i64 mo) := by rw [HMO.out]; exact RR.out.cells.2.2.1))
              | (go_at_call 91; refine (parts_calls mo hmo _).mono ?_; rw [hq]; rintro e w2 ⟨rfl, hw2⟩; (obtain rfl := hw2.symm)))
            have hS0 : (fun w' : World => w'.cell? ⟨b, 4, none⟩ = some (.int .i64 mo) ∧ w'.cell? ⟨g, 0, none⟩ = some (.int .i64 kind) ∧ w'.cell? ⟨g, 1, none⟩ = some (.string nm) ∧ w'.cell? ⟨g, 2, none⟩ = some (.slice A n c) ∧ w'.cell? ⟨g, 3, none⟩ = some (.string tx) ∧ w'.cell? ⟨g, 4, none⟩ = some (.bool sf) ∧ w'.cell? ⟨g, 5, none⟩ = some (.int .i64 f) ∧ w'.cell? ⟨g, 6, none⟩ = some (.int .i64 t)) w1 := ⟨hm4, TB.out.cell 0, TB.out.cell 1, TB.out.cell 2, TB.out.cell 3, TB.out.cell 4, TB.out.cell 5, TB.out.cell 6⟩
            clear k0 k1 k2 k3 k4 k5 k6
            refine wp_region_noPanic ?_
            refine region_M (S := fun w' => w'.cell? ⟨b, 4, none⟩ = some (.int .i64 mo) ∧ w'.cell? ⟨g, 0, none⟩ = some (.int .i64 kind) ∧ w'.cell? ⟨g, 1, none⟩ = some (.string nm) ∧ w'.cell? ⟨g, 2, none⟩ = some (.slice A n c) ∧ w'.cell? ⟨g, 3, none⟩ = some (.string tx) ∧ w'.cell? ⟨g, 4, none⟩ = some (.bool sf) ∧ w'.cell? ⟨g, 5, none⟩ = some (.int .i64 f) ∧ w'.cell? ⟨g, 6, none⟩ = some (.int .i64 t)) (T := [6]) (by kernel_rfl) ?_
            have hS0 : (fun w' : World => w'.cell? ⟨b, 4, none⟩ = some (.int .i64 mo) ∧ w'.cell? ⟨g, 0, none⟩ = some (.int .i64 kind) ∧ w'.cell? ⟨g, 1, none⟩ = some (.string nm) ∧ w'.cell? ⟨g, 2, none⟩ = some (.slice A n c) ∧ w'.cell? ⟨g, 3, none⟩ = some (.string tx) ∧ w'.cell? ⟨g, 4, none⟩ = some (.bool sf) ∧ w'.cell? ⟨g, 5, none⟩ = some (.int .i64 f) ∧ w'.cell? ⟨g, 6, none⟩ = some (.int .i64 t)) (World.drew w1) := hS0
            have LL : Hid (Left B w (World.drew w1)) := LL.out.trans (Left.of_below (below_drewN (Below.refl _ _) 1) (by have := RR.out.bw; exact this))
            have RR : Hid (RP B b m (St i) (World.drew w1)) := RR.out.below (below_drewN (Below.refl _ _) 1)
            have TB : Hid (Blk (World.drew w1) g 114 #[.int .i64 kind, .string nm, .slice A n c, .string tx, .bool sf, .int .i64 f, .int .i64 t]) := TB.out
            have AA : Hid (AttrsAt B (.slice A n c) attrs (World.drew w1)) := own_below AA.out (below_drewN (Below.refl _ _) 1)
            generalize World.drew w1 = wd at LL RR TB AA hS0 ⊢
            refine anyM_free (i := 0) (oi := { dst := some 83, op := _, type := _, pos := _, after := _, guard := _ }) (v := ?_) rfl (by kernel_rfl) (fun _ _ _ h => h) (Or.inl ⟨by kernel_rfl, ?_⟩) (fun _ => hS0) ?_
            rotate_left 1
            · (intro w hSw; (try dsimp only at hSw); go_simp; try with_reducible rfl)
            try simp only [Act.put, Array.toArray_toList, List.setIfInBounds_toArray, List.set_cons_zero, List.set_cons_succ]
            refine anyM_free (i := 1) (oi := { dst := some 84, op := _, type := _, pos := _, after := _, guard := _ }) (v := ?_) rfl (by kernel_rfl) (fun _ _ _ h => h) (Or.inl ⟨by kernel_rfl, ?_⟩) (fun _ => hS0) ?_
            rotate_left 1
            · (intro w hSw; (try dsimp only at hSw); go_simp; try with_reducible rfl)
            try simp only [Act.put, Array.toArray_toList, List.setIfInBounds_toArray, List.set_cons_zero, List.set_cons_succ]
            refine anyM_free (i := 2) (oi := { dst := some 85, op := _, type := _, pos := _, after := _, guard := _ }) (v := ?_) rfl (by kernel_rfl) (fun _ _ _ h => h) (Or.inl ⟨by kernel_rfl, ?_⟩) (fun _ => hS0) ?_
            rotate_left 1
            · (intro w hSw; (try dsimp only at hSw); go_simp; try with_reducible rfl)
            try simp only [Act.put, Array.toArray_toList, List.setIfInBounds_toArray, List.set_cons_zero, List.set_cons_succ]
            refine anyM_free (i := 3) (oi := { dst := some 86, op := _, type := _, pos := _, after := _, guard := _ }) (v := ?_) rfl (by kernel_rfl) (fun _ _ _ h => h) (Or.inl ⟨by kernel_rfl, ?_⟩) (fun _ => hS0) ?_
            rotate_left 1
            · (intro w hSw; (try dsimp only at hSw); go_simp; try with_reducible rfl)
            try simp only [Act.put, Array.toArray_toList, List.setIfInBounds_toArray, List.set_cons_zero, List.set_cons_succ]
            refine anyM_take (i := 4) (oi := { dst := some 87, op := _, type := _, pos := _, after := _, guard := _ }) (v := ?_) rfl (by kernel_rfl) (fun _ _ _ h => h) (Or.inl ⟨by kernel_rfl, ?_⟩) hS0 ?_
            rotate_left 1
            · (intro w hSw; (try dsimp only at hSw); go_simp; try with_reducible rfl)
            try simp only [Act.put, Array.toArray_toList, List.setIfInBounds_toArray, List.set_cons_zero, List.set_cons_succ]
            refine anyM_take (i := 5) (oi := { dst := some 88, op := _, type := _, pos := _, after := _, guard := _ }) (v := ?_) rfl (by kernel_rfl) (fun _ _ _ h => h) (Or.inl ⟨by kernel_rfl, ?_⟩) hS0 ?_
            rotate_left 1
            · (intro w hSw; (try dsimp only at hSw); go_simp; try with_reducible rfl)
            try simp only [Act.put, Array.toArray_toList, List.setIfInBounds_toArray, List.set_cons_zero, List.set_cons_succ]
            refine anyM_one (i := 6) (by kernel_rfl) rfl (fun K hK => ?_)
            go_simp
            refine (HTK.out _ RR.out AA.out).mono ?_
            rintro e w9 ⟨rfl, hr9, hl9⟩
            have R9 := Lib.hid hr9
            have L9 := Lib.hid (LL.out.trans hl9)
            have T9 := Lib.hid (hl9.keep.blk TB.out (by decide) (by decide) (by decide))
            have A9 := Lib.hid (AttrsAt.keep AA.out hl9.keep)
            clear hr9 hl9
            refine hK.out _ _ (fun h => late_no h (by kernel_rfl)) ?_
            clear hK K
            try simp only [Act.put, Array.toArray_toList, List.setIfInBounds_toArray, List.set_cons_zero, List.set_cons_succ]
            refine anyM_freeL (i := 7) (oi := { dst := some 90, op := _, type := _, pos := _, after := _, guard := _ }) (v := ?_) rfl (by kernel_rfl) (fun _ _ _ h => h) (Or.inl ⟨by kernel_rfl, ?_⟩) ?_
            rotate_left 1
            · (intro w hSw; (try dsimp only at hSw); go_simp; try with_reducible rfl)
            try simp only [Act.put, Array.toArray_toList, List.setIfInBounds_toArray, List.set_cons_zero, List.set_cons_succ]
            refine anyM_done (by kernel_rfl) ?_ _
            refine NoPanic.normal ?_
            clear hS0
            go_wp2_with fail
            go_roundw
            case rel => exact ⟨i + 1, by omega, R9.out, T9.out, L9.out, A9.out⟩
            case measure =>
              rw [R9.out.cells.2.2.1, hm40]
              have := HMS0.out i hN
              rw [← HMO.out] at this
              exact this
        · rw [decide_eq_false hN] at HTK
          cases hq : (mo != 6)
          · skip
            go_wp2_with (first
              | (go_at_call 90; refine (blanks_no kind f t nm tx A n c sf _ (by simpa using e3)).mono ?_; rintro e w1 ⟨rfl, hb⟩; (have LL := Lib.hid (LL.out.trans (Left.of_below hb RR.out.bw))); (have RR := Lib.hid (RR.out.below hb)); (have TB := Lib.hid (TB.out.below hb TB.out.lt)); (have AA := Lib.hid (own_below AA.out hb)); (obtain ⟨k0, k1, k2, k3, k4, k5, k6⟩ := tok7 TB.out); (have hm4 : w1.cell? ⟨b, 4, none⟩ = some (.int .i64 mo) := by rw [HMO.out]; exact RR.out.cells.2.2.1))
              | (go_at_call 91; refine (parts_calls mo hmo _).mono ?_; rw [hq]; rintro e w2 ⟨rfl, hw2⟩; (obtain rfl := hw2.symm)))
            have hS0 : (fun w' : World => w'.cell? ⟨b, 4, none⟩ = some (.int .i64 mo) ∧ w'.cell? ⟨g, 0, none⟩ = some (.int .i64 kind) ∧ w'.cell? ⟨g, 1, none⟩ = some (.string nm) ∧ w'.cell? ⟨g, 2, none⟩ = some (.slice A n c) ∧ w'.cell? ⟨g, 3, none⟩ = some (.string tx) ∧ w'.cell? ⟨g, 4, none⟩ = some (.bool sf) ∧ w'.cell? ⟨g, 5, none⟩ = some (.int .i64 f) ∧ w'.cell? ⟨g, 6, none⟩ = some (.int .i64 t)) w1 := ⟨hm4, TB.out.cell 0, TB.out.cell 1, TB.out.cell 2, TB.out.cell 3, TB.out.cell 4, TB.out.cell 5, TB.out.cell 6⟩
            clear k0 k1 k2 k3 k4 k5 k6
            refine wp_region_noPanic ?_
            refine region_M (S := fun w' => w'.cell? ⟨b, 4, none⟩ = some (.int .i64 mo) ∧ w'.cell? ⟨g, 0, none⟩ = some (.int .i64 kind) ∧ w'.cell? ⟨g, 1, none⟩ = some (.string nm) ∧ w'.cell? ⟨g, 2, none⟩ = some (.slice A n c) ∧ w'.cell? ⟨g, 3, none⟩ = some (.string tx) ∧ w'.cell? ⟨g, 4, none⟩ = some (.bool sf) ∧ w'.cell? ⟨g, 5, none⟩ = some (.int .i64 f) ∧ w'.cell? ⟨g, 6, none⟩ = some (.int .i64 t)) (T := [6]) (by kernel_rfl) ?_
            have hS0 : (fun w' : World => w'.cell? ⟨b, 4, none⟩ = some (.int .i64 mo) ∧ w'.cell? ⟨g, 0, none⟩ = some (.int .i64 kind) ∧ w'.cell? ⟨g, 1, none⟩ = some (.string nm) ∧ w'.cell? ⟨g, 2, none⟩ = some (.slice A n c) ∧ w'.cell? ⟨g, 3, none⟩ = some (.string tx) ∧ w'.cell? ⟨g, 4, none⟩ = some (.bool sf) ∧ w'.cell? ⟨g, 5, none⟩ = some (.int .i64 f) ∧ w'.cell? ⟨g, 6, none⟩ = some (.int .i64 t)) (World.drew w1) := hS0
            have LL : Hid (Left B w (World.drew w1)) := LL.out.trans (Left.of_below (below_drewN (Below.refl _ _) 1) (by have := RR.out.bw; exact this))
            have RR : Hid (RP B b m (St i) (World.drew w1)) := RR.out.below (below_drewN (Below.refl _ _) 1)
            have TB : Hid (Blk (World.drew w1) g 114 #[.int .i64 kind, .string nm, .slice A n c, .string tx, .bool sf, .int .i64 f, .int .i64 t]) := TB.out
            have AA : Hid (AttrsAt B (.slice A n c) attrs (World.drew w1)) := own_below AA.out (below_drewN (Below.refl _ _) 1)
            generalize World.drew w1 = wd at LL RR TB AA hS0 ⊢
            refine anyM_free (i := 0) (oi := { dst := some 83, op := _, type := _, pos := _, after := _, guard := _ }) (v := ?_) rfl (by kernel_rfl) (fun _ _ _ h => h) (Or.inl ⟨by kernel_rfl, ?_⟩) (fun _ => hS0) ?_
            rotate_left 1
            · (intro w hSw; (try dsimp only at hSw); go_simp; try with_reducible rfl)
            try simp only [Act.put, Array.toArray_toList, List.setIfInBounds_toArray, List.set_cons_zero, List.set_cons_succ]
            refine anyM_free (i := 1) (oi := { dst := some 84, op := _, type := _, pos := _, after := _, guard := _ }) (v := ?_) rfl (by kernel_rfl) (fun _ _ _ h => h) (Or.inl ⟨by kernel_rfl, ?_⟩) (fun _ => hS0) ?_
            rotate_left 1
            · (intro w hSw; (try dsimp only at hSw); go_simp; try with_reducible rfl)
            try simp only [Act.put, Array.toArray_toList, List.setIfInBounds_toArray, List.set_cons_zero, List.set_cons_succ]
            refine anyM_free (i := 2) (oi := { dst := some 85, op := _, type := _, pos := _, after := _, guard := _ }) (v := ?_) rfl (by kernel_rfl) (fun _ _ _ h => h) (Or.inl ⟨by kernel_rfl, ?_⟩) (fun _ => hS0) ?_
            rotate_left 1
            · (intro w hSw; (try dsimp only at hSw); go_simp; try with_reducible rfl)
            try simp only [Act.put, Array.toArray_toList, List.setIfInBounds_toArray, List.set_cons_zero, List.set_cons_succ]
            refine anyM_free (i := 3) (oi := { dst := some 86, op := _, type := _, pos := _, after := _, guard := _ }) (v := ?_) rfl (by kernel_rfl) (fun _ _ _ h => h) (Or.inl ⟨by kernel_rfl, ?_⟩) (fun _ => hS0) ?_
            rotate_left 1
            · (intro w hSw; (try dsimp only at hSw); go_simp; try with_reducible rfl)
            try simp only [Act.put, Array.toArray_toList, List.setIfInBounds_toArray, List.set_cons_zero, List.set_cons_succ]
            refine anyM_take (i := 4) (oi := { dst := some 87, op := _, type := _, pos := _, after := _, guard := _ }) (v := ?_) rfl (by kernel_rfl) (fun _ _ _ h => h) (Or.inl ⟨by kernel_rfl, ?_⟩) hS0 ?_
            rotate_left 1
            · (intro w hSw; (try dsimp only at hSw); go_simp; try with_reducible rfl)
            try simp only [Act.put, Array.toArray_toList, List.setIfInBounds_toArray, List.set_cons_zero, List.set_cons_succ]
            refine anyM_take (i := 5) (oi := { dst := some 88, op := _, type := _, pos := _, after := _, guard := _ }) (v := ?_) rfl (by kernel_rfl) (fun _ _ _ h => h) (Or.inl ⟨by kernel_rfl, ?_⟩) hS0 ?_
            rotate_left 1
            · (intro w hSw; (try dsimp only at hSw); go_simp; try with_reducible rfl)
            try simp only [Act.put, Array.toArray_toList, List.setIfInBounds_toArray, List.set_cons_zero, List.set_cons_succ]
            refine anyM_one (i := 6) (by kernel_rfl) rfl (fun K hK => ?_)
            go_simp
            refine (HTK.out _ RR.out AA.out).mono ?_
            rintro e w9 ⟨rfl, hr9, hl9⟩
            have R9 := Lib.hid hr9
            have L9 := Lib.hid (LL.out.trans hl9)
            have T9 := Lib.hid (hl9.keep.blk TB.out (by decide) (by decide) (by decide))
            have A9 := Lib.hid (AttrsAt.keep AA.out hl9.keep)
            clear hr9 hl9
            refine hK.out _ _ (fun h => late_no h (by kernel_rfl)) ?_
            clear hK K
            try simp only [Act.put, Array.toArray_toList, List.setIfInBounds_toArray, List.set_cons_zero, List.set_cons_succ]
            refine anyM_freeL (i := 7) (oi := { dst := some 90, op := _, type := _, pos := _, after := _, guard := _ }) (v := ?_) rfl (by kernel_rfl) (fun _ _ _ h => h) (Or.inl ⟨by kernel_rfl, ?_⟩) ?_
            rotate_left 1
            · (intro w hSw; (try dsimp only at hSw); go_simp; try with_reducible rfl)
            try simp only [Act.put, Array.toArray_toList, List.setIfInBounds_toArray, List.set_cons_zero, List.set_cons_succ]
            refine anyM_done (by kernel_rfl) ?_ _
            refine NoPanic.normal ?_
            clear hS0
            go_wp2_with fail
            have hiN : i = N := by omega
            rw [hiN] at R9
            exact bodyPost_ret (results_none rfl _ _ _) rfl ⟨rfl, R9.out, L9.out⟩
          · skip
            go_wp2_with (first
              | (go_at_call 90; refine (blanks_no kind f t nm tx A n c sf _ (by simpa using e3)).mono ?_; rintro e w1 ⟨rfl, hb⟩; (have LL := Lib.hid (LL.out.trans (Left.of_below hb RR.out.bw))); (have RR := Lib.hid (RR.out.below hb)); (have TB := Lib.hid (TB.out.below hb TB.out.lt)); (have AA := Lib.hid (own_below AA.out hb)); (obtain ⟨k0, k1, k2, k3, k4, k5, k6⟩ := tok7 TB.out); (have hm4 : w1.cell? ⟨b, 4, none⟩ = some (.int .i64 mo) := by rw [HMO.out]; exact RR.out.cells.2.2.1))
              | (go_at_call 91; refine (parts_calls mo hmo _).mono ?_; rw [hq]; rintro e w2 ⟨rfl, hw2⟩; (obtain rfl := hw2.symm)))
            have hS0 : (fun w' : World => w'.cell? ⟨b, 4, none⟩ = some (.int .i64 mo) ∧ w'.cell? ⟨g, 0, none⟩ = some (.int .i64 kind) ∧ w'.cell? ⟨g, 1, none⟩ = some (.string nm) ∧ w'.cell? ⟨g, 2, none⟩ = some (.slice A n c) ∧ w'.cell? ⟨g, 3, none⟩ = some (.string tx) ∧ w'.cell? ⟨g, 4, none⟩ = some (.bool sf) ∧ w'.cell? ⟨g, 5, none⟩ = some (.int .i64 f) ∧ w'.cell? ⟨g, 6, none⟩ = some (.int .i64 t)) w1 := ⟨hm4, TB.out.cell 0, TB.out.cell 1, TB.out.cell 2, TB.out.cell 3, TB.out.cell 4, TB.out.cell 5, TB.out.cell 6⟩
            clear k0 k1 k2 k3 k4 k5 k6
            refine wp_region_noPanic ?_
            refine region_M (S := fun w' => w'.cell? ⟨b, 4, none⟩ = some (.int .i64 mo) ∧ w'.cell? ⟨g, 0, none⟩ = some (.int .i64 kind) ∧ w'.cell? ⟨g, 1, none⟩ = some (.string nm) ∧ w'.cell? ⟨g, 2, none⟩ = some (.slice A n c) ∧ w'.cell? ⟨g, 3, none⟩ = some (.string tx) ∧ w'.cell? ⟨g, 4, none⟩ = some (.bool sf) ∧ w'.cell? ⟨g, 5, none⟩ = some (.int .i64 f) ∧ w'.cell? ⟨g, 6, none⟩ = some (.int .i64 t)) (T := [6]) (by kernel_rfl) ?_
            have hS0 : (fun w' : World => w'.cell? ⟨b, 4, none⟩ = some (.int .i64 mo) ∧ w'.cell? ⟨g, 0, none⟩ = some (.int .i64 kind) ∧ w'.cell? ⟨g, 1, none⟩ = some (.string nm) ∧ w'.cell? ⟨g, 2, none⟩ = some (.slice A n c) ∧ w'.cell? ⟨g, 3, none⟩ = some (.string tx) ∧ w'.cell? ⟨g, 4, none⟩ = some (.bool sf) ∧ w'.cell? ⟨g, 5, none⟩ = some (.int .i64 f) ∧ w'.cell? ⟨g, 6, none⟩ = some (.int .i64 t)) (World.drew w1) := hS0
            have LL : Hid (Left B w (World.drew w1)) := LL.out.trans (Left.of_below (below_drewN (Below.refl _ _) 1) (by have := RR.out.bw; exact this))
            have RR : Hid (RP B b m (St i) (World.drew w1)) := RR.out.below (below_drewN (Below.refl _ _) 1)
            have TB : Hid (Blk (World.drew w1) g 114 #[.int .i64 kind, .string nm, .slice A n c, .string tx, .bool sf, .int .i64 f, .int .i64 t]) := TB.out
            have AA : Hid (AttrsAt B (.slice A n c) attrs (World.drew w1)) := own_below AA.out (below_drewN (Below.refl _ _) 1)
            generalize World.drew w1 = wd at LL RR TB AA hS0 ⊢
            refine anyM_free (i := 0) (oi := { dst := some 83, op := _, type := _, pos := _, after := _, guard := _ }) (v := ?_) rfl (by kernel_rfl) (fun _ _ _ h => h) (Or.inl ⟨by kernel_rfl, ?_⟩) (fun _ => hS0) ?_
            rotate_left 1
            · (intro w hSw; (try dsimp only at hSw); go_simp; try with_reducible rfl)
            try simp only [Act.put, Array.toArray_toList, List.setIfInBounds_toArray, List.set_cons_zero, List.set_cons_succ]
            refine anyM_free (i := 1) (oi := { dst := some 84, op := _, type := _, pos := _, after := _, guard := _ }) (v := ?_) rfl (by kernel_rfl) (fun _ _ _ h => h) (Or.inl ⟨by kernel_rfl, ?_⟩) (fun _ => hS0) ?_
            rotate_left 1
            · (intro w hSw; (try dsimp only at hSw); go_simp; try with_reducible rfl)
            try simp only [Act.put, Array.toArray_toList, List.setIfInBounds_toArray, List.set_cons_zero, List.set_cons_succ]
            refine anyM_free (i := 2) (oi := { dst := some 85, op := _, type := _, pos := _, after := _, guard := _ }) (v := ?_) rfl (by kernel_rfl) (fun _ _ _ h => h) (Or.inl ⟨by kernel_rfl, ?_⟩) (fun _ => hS0) ?_
            rotate_left 1
            · (intro w hSw; (try dsimp only at hSw); go_simp; try with_reducible rfl)
            try simp only [Act.put, Array.toArray_toList, List.setIfInBounds_toArray, List.set_cons_zero, List.set_cons_succ]
            refine anyM_free (i := 3) (oi := { dst := some 86, op := _, type := _, pos := _, after := _, guard := _ }) (v := ?_) rfl (by kernel_rfl) (fun _ _ _ h => h) (Or.inl ⟨by kernel_rfl, ?_⟩) (fun _ => hS0) ?_
            rotate_left 1
            · (intro w hSw; (try dsimp only at hSw); go_simp; try with_reducible rfl)
            try simp only [Act.put, Array.toArray_toList, List.setIfInBounds_toArray, List.set_cons_zero, List.set_cons_succ]
            refine anyM_take (i := 4) (oi := { dst := some 87, op := _, type := _, pos := _, after := _, guard := _ }) (v := ?_) rfl (by kernel_rfl) (fun _ _ _ h => h) (Or.inl ⟨by kernel_rfl, ?_⟩) hS0 ?_
            rotate_left 1
            · (intro w hSw; (try dsimp only at hSw); go_simp; try with_reducible rfl)
            try simp only [Act.put, Array.toArray_toList, List.setIfInBounds_toArray, List.set_cons_zero, List.set_cons_succ]
            refine anyM_take (i := 5) (oi := { dst := some 88, op := _, type := _, pos := _, after := _, guard := _ }) (v := ?_) rfl (by kernel_rfl) (fun _ _ _ h => h) (Or.inl ⟨by kernel_rfl, ?_⟩) hS0 ?_
            rotate_left 1
            · (intro w hSw; (try dsimp only at hSw); go_simp; try with_reducible rfl)
            try simp only [Act.put, Array.toArray_toList, List.setIfInBounds_toArray, List.set_cons_zero, List.set_cons_succ]
            refine anyM_one (i := 6) (by kernel_rfl) rfl (fun K hK => ?_)
            go_simp
            refine (HTK.out _ RR.out AA.out).mono ?_
            rintro e w9 ⟨rfl, hr9, hl9⟩
            have R9 := Lib.hid hr9
            have L9 := Lib.hid (LL.out.trans hl9)
            have T9 := Lib.hid (hl9.keep.blk TB.out (by decide) (by decide) (by decide))
            have A9 := Lib.hid (AttrsAt.keep AA.out hl9.keep)
            clear hr9 hl9
            refine hK.out _ _ (fun h => late_no h (by kernel_rfl)) ?_
            clear hK K
            try simp only [Act.put, Array.toArray_toList, List.setIfInBounds_toArray, List.set_cons_zero, List.set_cons_succ]
            refine anyM_freeL (i := 7) (oi := { dst := some 90, op := _, type := _, pos := _, after := _, guard := _ }) (v := ?_) rfl (by kernel_rfl) (fun _ _ _ h => h) (Or.inl ⟨by kernel_rfl, ?_⟩) ?_
            rotate_left 1
            · (intro w hSw; (try dsimp only at hSw); go_simp; try with_reducible rfl)
            try simp only [Act.put, Array.toArray_toList, List.setIfInBounds_toArray, List.set_cons_zero, List.set_cons_succ]
            refine anyM_done (by kernel_rfl) ?_ _
            refine NoPanic.normal ?_
            clear hS0
            go_wp2_with fail
            have hiN : i = N := by omega
            rw [hiN] at R9
            exact bodyPost_ret (results_none rfl _ _ _) rfl ⟨rfl, R9.out, L9.out⟩
  · have x3' := x3 (by simpa using e3)
    have hk3 : kind = 3 := by simpa using e3
    have e5 : (kind == 5) = false := by rw [hk3]; rfl
    have HK3 := Lib.hid hk3
    clear hk3
    clear x3 h5
    go_wp2
    generalize wa.setCell ⟨b, 10, none⟩ (.bool false) = W1 at RF TF AF LF ⊢
    clear HF RR LL TB AA HWA
    go_loopw [] (fun wr => ∃ i, i ≤ N ∧ Hid (RP B b m (St i) wr) ∧ Hid (Blk wr g 114 #[.int .i64 kind, .string nm, .slice A n c, .string tx, .bool sf, .int .i64 f, .int .i64 t]) ∧ Hid (Left B w wr) ∧ Hid (AttrsAt B (.slice A n c) attrs wr)) (fun wr => match wr.cell? ⟨b, 4, none⟩ with | some v => (10 - intOf v).toNat | none => 0)
    case atStart => exact ⟨0, Nat.zero_le _, RF.out, TF.out, LF.out, AF.out⟩
    case round =>
      obtain ⟨i, hi, RR, TB, LL, AA⟩ := hrel
      have hmo := HMODE.out i hi
      obtain ⟨mo, hmo2⟩ : ∃ mo, mo = (St i).mode := ⟨_, rfl⟩
      have HTK := Lib.hid (HTK0.out i hi)
      rw [← hmo2] at hmo HTK
      have HMO := Lib.hid hmo2
      have hm40 : wr.cell? ⟨b, 4, none⟩ = some (.int .i64 mo) := by rw [hmo2]; exact RR.out.cells.2.2.1
      obtain ⟨k0, k1, k2, k3, k4, k5, k6⟩ := tok7 TB.out
      obtain ⟨hN0, hm6, _, htx⟩ : N = 0 ∧ (St 0).mode = 6 ∧ tx.size ≠ 0 ∧ tx.size ≤ 1000000 := by rcases H3.out with h | h; exact absurd HK3.out h; exact h
      have hi0 : i = 0 := by omega
      have hq : (mo != 6) = false := by rw [hmo2, hi0, hm6]; rfl
      have hN : ¬ i < N := by omega
      rw [decide_eq_false hN] at HTK
      clear hmo2 hN0 hi0 hm6
      go_wp2_with (first
        | (go_at_call 90; refine (blanks_txt3 kind f t nm tx A n c sf _ HK3.out htx).mono ?_; rintro e w1 ⟨⟨s1, s2, rfl⟩, hb⟩; (have LL := Lib.hid (LL.out.trans (Left.of_below hb RR.out.bw))); (have RR := Lib.hid (RR.out.below hb)); (have TB := Lib.hid (TB.out.below hb TB.out.lt)); (have AA := Lib.hid (own_below AA.out hb)); (obtain ⟨k0, k1, k2, k3, k4, k5, k6⟩ := tok7 TB.out); (have hm4 : w1.cell? ⟨b, 4, none⟩ = some (.int .i64 mo) := by rw [HMO.out]; exact RR.out.cells.2.2.1))
        | (go_at_call 91; refine (parts_calls mo hmo _).mono ?_; rw [hq]; rintro e w2 ⟨rfl, hw2⟩; (obtain rfl := hw2.symm)))
      have hS0 : (fun w' : World => w'.cell? ⟨b, 4, none⟩ = some (.int .i64 mo) ∧ w'.cell? ⟨g, 0, none⟩ = some (.int .i64 kind) ∧ w'.cell? ⟨g, 1, none⟩ = some (.string nm) ∧ w'.cell? ⟨g, 2, none⟩ = some (.slice A n c) ∧ w'.cell? ⟨g, 3, none⟩ = some (.string tx) ∧ w'.cell? ⟨g, 4, none⟩ = some (.bool sf) ∧ w'.cell? ⟨g, 5, none⟩ = some (.int .i64 f) ∧ w'.cell? ⟨g, 6, none⟩ = some (.int .i64 t)) w1 := ⟨hm4, TB.out.cell 0, TB.out.cell 1, TB.out.cell 2, TB.out.cell 3, TB.out.cell 4, TB.out.cell 5, TB.out.cell 6⟩
      clear k0 k1 k2 k3 k4 k5 k6
      refine wp_region_noPanic ?_
      refine region_M (S := fun w' => w'.cell? ⟨b, 4, none⟩ = some (.int .i64 mo) ∧ w'.cell? ⟨g, 0, none⟩ = some (.int .i64 kind) ∧ w'.cell? ⟨g, 1, none⟩ = some (.string nm) ∧ w'.cell? ⟨g, 2, none⟩ = some (.slice A n c) ∧ w'.cell? ⟨g, 3, none⟩ = some (.string tx) ∧ w'.cell? ⟨g, 4, none⟩ = some (.bool sf) ∧ w'.cell? ⟨g, 5, none⟩ = some (.int .i64 f) ∧ w'.cell? ⟨g, 6, none⟩ = some (.int .i64 t)) (T := [6]) (by kernel_rfl) ?_
      have hS0 : (fun w' : World => w'.cell? ⟨b, 4, none⟩ = some (.int .i64 mo) ∧ w'.cell? ⟨g, 0, none⟩ = some (.int .i64 kind) ∧ w'.cell? ⟨g, 1, none⟩ = some (.string nm) ∧ w'.cell? ⟨g, 2, none⟩ = some (.slice A n c) ∧ w'.cell? ⟨g, 3, none⟩ = some (.string tx) ∧ w'.cell? ⟨g, 4, none⟩ = some (.bool sf) ∧ w'.cell? ⟨g, 5, none⟩ = some (.int .i64 f) ∧ w'.cell? ⟨g, 6, none⟩ = some (.int .i64 t)) (World.drew w1) := hS0
      have LL : Hid (Left B w (World.drew w1)) := LL.out.trans (Left.of_below (below_drewN (Below.refl _ _) 1) (by have := RR.out.bw; exact this))
      have RR : Hid (RP B b m (St i) (World.drew w1)) := RR.out.below (below_drewN (Below.refl _ _) 1)
      have TB : Hid (Blk (World.drew w1) g 114 #[.int .i64 kind, .string nm, .slice A n c, .string tx, .bool sf, .int .i64 f, .int .i64 t]) := TB.out
      have AA : Hid (AttrsAt B (.slice A n c) attrs (World.drew w1)) := own_below AA.out (below_drewN (Below.refl _ _) 1)
      generalize World.drew w1 = wd at LL RR TB AA hS0 ⊢
      refine anyM_free (i := 0) (oi := { dst := some 83, op := _, type := _, pos := _, after := _, guard := _ }) (v := ?_) rfl (by kernel_rfl) (fun _ _ _ h => h) (Or.inl ⟨by kernel_rfl, ?_⟩) (fun _ => hS0) ?_
      rotate_left 1
      · (intro w hSw; (try dsimp only at hSw); go_simp; try with_reducible rfl)
      try simp only [Act.put, Array.toArray_toList, List.setIfInBounds_toArray, List.set_cons_zero, List.set_cons_succ]
      refine anyM_free (i := 1) (oi := { dst := some 84, op := _, type := _, pos := _, after := _, guard := _ }) (v := ?_) rfl (by kernel_rfl) (fun _ _ _ h => h) (Or.inl ⟨by kernel_rfl, ?_⟩) (fun _ => hS0) ?_
      rotate_left 1
      · (intro w hSw; (try dsimp only at hSw); go_simp; try with_reducible rfl)
      try simp only [Act.put, Array.toArray_toList, List.setIfInBounds_toArray, List.set_cons_zero, List.set_cons_succ]
      refine anyM_free (i := 2) (oi := { dst := some 85, op := _, type := _, pos := _, after := _, guard := _ }) (v := ?_) rfl (by kernel_rfl) (fun _ _ _ h => h) (Or.inl ⟨by kernel_rfl, ?_⟩) (fun _ => hS0) ?_
      rotate_left 1
      · (intro w hSw; (try dsimp only at hSw); go_simp; try with_reducible rfl)
      try simp only [Act.put, Array.toArray_toList, List.setIfInBounds_toArray, List.set_cons_zero, List.set_cons_succ]
      refine anyM_free (i := 3) (oi := { dst := some 86, op := _, type := _, pos := _, after := _, guard := _ }) (v := ?_) rfl (by kernel_rfl) (fun _ _ _ h => h) (Or.inl ⟨by kernel_rfl, ?_⟩) (fun _ => hS0) ?_
      rotate_left 1
      · (intro w hSw; (try dsimp only at hSw); go_simp; try with_reducible rfl)
      try simp only [Act.put, Array.toArray_toList, List.setIfInBounds_toArray, List.set_cons_zero, List.set_cons_succ]
      refine anyM_take (i := 4) (oi := { dst := some 87, op := _, type := _, pos := _, after := _, guard := _ }) (v := ?_) rfl (by kernel_rfl) (fun _ _ _ h => h) (Or.inl ⟨by kernel_rfl, ?_⟩) hS0 ?_
      rotate_left 1
      · (intro w hSw; (try dsimp only at hSw); go_simp; try with_reducible rfl)
      try simp only [Act.put, Array.toArray_toList, List.setIfInBounds_toArray, List.set_cons_zero, List.set_cons_succ]
      refine anyM_take (i := 5) (oi := { dst := some 88, op := _, type := _, pos := _, after := _, guard := _ }) (v := ?_) rfl (by kernel_rfl) (fun _ _ _ h => h) (Or.inl ⟨by kernel_rfl, ?_⟩) hS0 ?_
      rotate_left 1
      · (intro w hSw; (try dsimp only at hSw); go_simp; try with_reducible rfl)
      try simp only [Act.put, Array.toArray_toList, List.setIfInBounds_toArray, List.set_cons_zero, List.set_cons_succ]
      refine anyM_one (i := 6) (by kernel_rfl) rfl (fun K hK => ?_)
      go_simp
      refine (HTK.out _ RR.out AA.out).mono ?_
      rintro e w9 ⟨rfl, hr9, hl9⟩
      have R9 := Lib.hid hr9
      have L9 := Lib.hid (LL.out.trans hl9)
      have T9 := Lib.hid (hl9.keep.blk TB.out (by decide) (by decide) (by decide))
      have A9 := Lib.hid (AttrsAt.keep AA.out hl9.keep)
      clear hr9 hl9
      refine hK.out _ _ (fun h => late_no h (by kernel_rfl)) ?_
      clear hK K
      try simp only [Act.put, Array.toArray_toList, List.setIfInBounds_toArray, List.set_cons_zero, List.set_cons_succ]
      refine anyM_freeL (i := 7) (oi := { dst := some 90, op := _, type := _, pos := _, after := _, guard := _ }) (v := ?_) rfl (by kernel_rfl) (fun _ _ _ h => h) (Or.inl ⟨by kernel_rfl, ?_⟩) ?_
      rotate_left 1
      · (intro w hSw; (try dsimp only at hSw); go_simp; try with_reducible rfl)
      try simp only [Act.put, Array.toArray_toList, List.setIfInBounds_toArray, List.set_cons_zero, List.set_cons_succ]
      refine anyM_done (by kernel_rfl) ?_ _
      refine NoPanic.normal ?_
      clear hS0
      go_wp2_with fail
      have hiN : i = N := by omega
      rw [hiN] at R9
      exact bodyPost_ret (results_none rfl _ _ _) rfl ⟨rfl, R9.out, L9.out⟩
end Go.Proofs.YtcghahfboccceaaGreatDoor
