/- Contract of the reference's Widths. -/
import Derived.Test.YtkppignoomnmdaaTabA
import Derived.Test.YtkppignoomnmdaaApart
import Derived.Deep.QuietTactic
import Derived.BigQuiet
namespace Go.Proofs.Ytkppignoomnmdaa
open Go.RowKit
set_option linter.unusedVariables false
set_option linter.unusedSimpArgs false
attribute [local go_sem high] run_min2 run_max2

theorem rsize_calls (n : Int) (w : World) :
    Calls Try.prog 79 #[.int .i64 n] w fun e w' => e = .returned (.int .i64 (max 0 (cut n))) ∧ w = w' := by
  go_enter Try.func79, Try.ntmps79
  go_wp2_with (go_at_call 26; refine (rcut_calls _ _).mono ?_; rintro e w' ⟨rfl, rfl⟩)
  go_ret
  exact ⟨rfl, rfl⟩
theorem fnL_snoc (f : Nat → Int) (k : Nat) : ints (fnL (k + 1) f) = ints (fnL k f) ++ [.int .i64 (f k)] := by
  simp [fnL, ints, List.range_succ]
theorem fnL_at (n k : Nat) (f : Nat → Int) (h : k < n) : (ints (fnL n f))[k]? = some (.int .i64 (f k)) := by simp [fnL, ints, h]
theorem ones_fn (n : Nat) : onesL n = fnL n (fun _ => 1) := by
  unfold onesL fnL
  apply List.ext_getElem
  · simp
  · intro i h1 h2; simp
/-- The first k places of all three lists. -/
def LoopB (w : World) (n : Nat) (ls ms : List Int) (v1 v2 v3 s1 s2 i : Value) (wr : World) : Prop :=
  ∃ k : Nat, k ≤ n ∧ i = .int .i64 k ∧ s1 = .int .i64 (sumTo (tLow ls) k) ∧ s2 = .int .i64 (sumTo (tLow ls) k + sumTo (tMore ls ms) k) ∧
    wr.ownsRow w.heap.size 3 1 v1 k (ints (fnL k (tLow ls))) ∧ wr.ownsRow w.heap.size 3 1 v2 k (ints (fnL k (tMore ls ms))) ∧ wr.ownsRow w.heap.size 3 1 v3 k (ints (fnL k (fun _ => 1))) ∧ Ap v1 v2 ∧ Ap v1 v3 ∧ Ap v2 v3 ∧ Below w.heap.size w wr
set_option maxRecDepth 100000 in
set_option maxHeartbeats 4000000 in
theorem rwidths_calls (room spacing : Int) (fixed : Bool) (A A' : Option Addr) (n1 c1 n2 c2 n B : Nat) (ls ms : List Int) (w : World) (hl : ls.length = n1) (hl2 : ms.length = n2) (hn : n = min n1 n2) (h : Holds w B A (ints ls)) (h' : Holds w B A' (ints ms)) (hB : B ≤ w.heap.size) (hm : n1 ≤ 1000) (hm2 : n2 ≤ 17592186044404) :
    Calls Try.prog 42 #[.int .i64 room, .int .i64 spacing, .slice A n1 c1, .slice A' n2 c2, .bool fixed] w fun e w' => ∃ v, e = .returned v ∧ w'.ownsRow w.heap.size 3 1 v n (ints (widthsF room spacing ls ms fixed n)) ∧ Below w.heap.size w w' := by
  obtain ⟨i0, hi, hz0, hz1, hz2⟩ := info_parts info_int
  have hn1 : n ≤ n1 := by omega
  have hn2 : n ≤ n2 := by omega
  have hmn : min (n1 : Int) (n2 : Int) = (n : Int) := by omega
  have hnm : n ≤ 1000 := by omega
  have HL := Lib.hid hl
  have HL2 := Lib.hid hl2
  have H := Lib.hid h
  have H' := Lib.hid h'
  have hfb := tFree_bd room spacing n hnm
  have hmb := tMul_bd spacing n hnm
  have HFR : Hid (tFree room spacing n = max 0 (cut room - max 0 (cut spacing) * ((n : Int) + 1))) := rfl
  obtain ⟨P, hP⟩ : ∃ P, P = max 0 (cut spacing) * ((n : Int) + 1) := ⟨_, rfl⟩
  have hc1 := cut_lo room
  have hc2 := cut_hi room
  have hc3 := cut_hi spacing
  rw [← hP] at hmb HFR
  have HWH := Lib.hid (fun h => wid_high (room := room) (spacing := spacing) (least := ls) (most := ms) (n := n) hnm h)
  have HWM := Lib.hid (fun h => wid_mid (room := room) (spacing := spacing) (least := ls) (most := ms) (n := n) h)
  have HWL := Lib.hid (fun h => wid_low (room := room) (spacing := spacing) (least := ls) (most := ms) (n := n) h)
  have HWF := Lib.hid (wid_fixed room spacing ls ms n)
  obtain ⟨fr, hfr⟩ : ∃ z, z = tFree room spacing n := ⟨_, rfl⟩
  rw [← hfr] at HWH HWM HWL HWF HFR hfb
  have m1 : IntKind.i64.wrap (max 0 (cut spacing) * ((n : Int) + 1)) = P := by rw [← hP]; exact IntWalk.i64_in _ (by omega)
  have m2 : wrap64 (max 0 (cut spacing) * ((n : Int) + 1)) = P := by rw [← hP]; exact IntWalk.wrap64_in _ (by omega)
  have hfr' : max 0 (cut room - P) = fr := HFR.out.symm
  have hS0 := True.intro
  clear hl hl2 h h' hn hP hfr
  go_enter Try.func42, Try.ntmps42
  go_wp2_with (first | (go_at_call 26; refine (rcut_calls _ _).mono ?_; rintro e w' ⟨rfl, rfl⟩) | (go_at_call 79; refine (rsize_calls _ _).mono ?_; rintro e w' ⟨rfl, rfl⟩))
  clear m1 m2 hmb hc1 hc2 hc3 hfr' hmn
  go_loopw [13, 14, 15, 16, 17, 39] (fun v1 v2 v3 s1 s2 i wr => LoopB w n ls ms v1 v2 v3 s1 s2 i wr) (fun _ _ _ _ _ i _ => n - (intOf i).toNat)
  case atStart => exact ⟨0, Nat.zero_le _, rfl, rfl, rfl, World.ownsRow_nil _ _ _ _, World.ownsRow_nil _ _ _ _, World.ownsRow_nil _ _ _ _, Ap.nil _ _ _, Ap.nil _ _ _, Ap.nil _ _ _, Below.refl _ _⟩
  case round =>
    obtain ⟨k, hk, rfl, rfl, rfl, h1, h2, h3, a12, a13, a23, hbel⟩ := hrel
    have hw := hbel.size
    obtain ⟨A1, C1, rfl⟩ := own_open h1
    obtain ⟨A2, C2, rfl⟩ := own_open h2
    obtain ⟨A3, C3, rfl⟩ := own_open h3
    have hs1 := sumTo_le (tLow ls) k (tLow_bd ls)
    have hs2 := sumTo_le (tMore ls ms) k (tMore_bd ls ms)
    by_cases hlt : k < n
    · have hk1 : k < n1 := by omega
      have hk2 : k < n2 := by omega
      obtain ⟨b, off, rfl, hb, hc⟩ := (H.out.below hbel hB).ints (k := k) (by rw [HL.out]; exact hk1)
      obtain ⟨b2, off2, rfl, hb2, hc2⟩ := (H'.out.below hbel hB).ints (k := k) (by rw [HL2.out]; exact hk2)
      have HLS : Hid (tLow ls k = max 0 (cut (ls.getD k 0))) := rfl
      have HMS : Hid (tMore ls ms k = max 0 (cut (ms.getD k 0) - tLow ls k)) := rfl
      have HN1 := Lib.hid (fnL_snoc (tLow ls) k)
      have HN2 := Lib.hid (fnL_snoc (tMore ls ms) k)
      have HN3 := Lib.hid (fnL_snoc (fun _ => 1) k)
      have HT1 := Lib.hid (show sumTo (tLow ls) (k + 1) = sumTo (tLow ls) k + tLow ls k from rfl)
      have HT2 := Lib.hid (show sumTo (tMore ls ms) (k + 1) = sumTo (tMore ls ms) k + tMore ls ms k from rfl)
      obtain ⟨x, hx⟩ : ∃ x, x = ls.getD k 0 := ⟨_, rfl⟩
      obtain ⟨y, hy⟩ : ∃ y, y = ms.getD k 0 := ⟨_, rfl⟩
      obtain ⟨lv, hlv⟩ : ∃ z, z = tLow ls k := ⟨_, rfl⟩
      obtain ⟨mv, hmv⟩ : ∃ z, z = tMore ls ms k := ⟨_, rfl⟩
      obtain ⟨sl, hsl⟩ : ∃ z, z = sumTo (tLow ls) k := ⟨_, rfl⟩
      obtain ⟨sm, hsm⟩ : ∃ z, z = sumTo (tMore ls ms) k := ⟨_, rfl⟩
      rw [← hx] at hc HLS
      rw [← hy] at hc2 HMS
      have hlb : 0 ≤ lv ∧ lv ≤ 16777216 := by rw [hlv]; exact tLow_bd ls k
      have hmb : 0 ≤ mv ∧ mv ≤ 16777216 := by rw [hmv]; exact tMore_bd ls ms k
      rw [← hlv] at HLS HMS HN1 HT1
      rw [← hmv] at HMS HN2 HT2
      rw [← hsl] at hs1 HT1 ⊢
      rw [← hsm] at hs2 HT2 ⊢
      have hyl := cut_lo y
      have hyh := cut_hi y
      have HSZ := Lib.hid (fun w => rsize_calls x w)
      rw [← HLS.out] at HSZ
      obtain ⟨cy, hcy⟩ : ∃ z, z = cut y := ⟨_, rfl⟩
      have HCY := Lib.hid (fun w => rcut_calls y w)
      rw [← hcy] at HCY HMS hyl hyh
      have hme : max 0 (cy - lv) = mv := HMS.out.symm
      have hwe : IntKind.i64.wrap (cy - lv) = cy - lv := IntWalk.i64_in _ (by omega)
      have QQ := Lib.hid (show k ≤ n ∧ k < n from ⟨hk, hlt⟩)
      have hb9 : b2 < wr.heap.size := by omega
      have HL4 : Hid (tLow ls k = lv) := hlv.symm
      have HM4 : Hid (tMore ls ms k = mv) := hmv.symm
      clear hx hy hlv hmv hsl hsm hcy hk
      go_upto_region 9 with (first | (go_at_call 79; refine (HSZ.out _).mono ?_; rintro e w' ⟨rfl, rfl⟩) | (at_builtin; refine wpList_append_lies rfl _ _ 64 rfl w.heap.size 3 i0 (.int .i64 0) 1 8 Try.underlying64 hi hz0 hz1 hz2 rfl (by decide) _ _ _ rfl (h1.alloc _) ⟨wr.heap.size, 0, none⟩ 1 1 [.int .i64 lv] rfl rfl (cell_one_new _ _ _) (fun u hu => by simp at hu; subst hu; rfl) (by decide) (by unfold maxLen; omega) (by omega) (by simp; omega) _ rfl ?_; intro g1 cap1 w1 o1 hg1 hat1 hlt1))
      have hbA := below_alloc hbel (.cells #[.int .i64 lv] 3)
      have hbB := below_grownA hbA h1 hg1
      have p2 := own_grownFar (h2.alloc _) a12 hg1
      have p3 := own_grownFar (h3.alloc _) a13 hg1
      have b12 := ap_grown (m := k + 1) (c := cap1) (h2.alloc _) a12 hat1 (Nat.le_refl _)
      have b13 := ap_grown (m := k + 1) (c := cap1) (h3.alloc _) a13 hat1 (Nat.le_refl _)
      have hc3 : w1.cell? ⟨b2, off2 + k, none⟩ = some (.int .i64 y) := (hbB.cell (p := ⟨b2, off2 + k, none⟩) (Nat.lt_of_lt_of_le hb2 hB)).trans ((hbel.cell (p := ⟨b2, off2 + k, none⟩) (Nat.lt_of_lt_of_le hb2 hB)).symm.trans hc2)
      rw [← HN1.out] at o1
      have hcL := own_cell o1 (fnL_at (k + 1) k (tLow ls) (by omega))
      rw [HL4.out] at hcL
      have q1 := Lib.hid o1
      have P2 := Lib.hid p2
      have P3 := Lib.hid p3
      have BB := Lib.hid hbB
      have AA := Lib.hid (show Ap (.slice (some ⟨g1, 0, none⟩) (k + 1) cap1) (.slice A2 k C2) ∧ Ap (.slice (some ⟨g1, 0, none⟩) (k + 1) cap1) (.slice A3 k C3) ∧ Ap (.slice A2 k C2) (.slice A3 k C3) from ⟨b12, b13, a23⟩)
      have hS0 : (fun w' : World => w'.cell? ⟨b2, off2 + k, none⟩ = some (.int .i64 y) ∧ w'.cell? ⟨g1, k, none⟩ = some (.int .i64 lv)) w1.drew := ⟨hc3, hcL⟩
      have hwB := hbB.size
      have hkk : (k : Int) < (k : Int) + 1 := by omega
      have hb9' : b2 < w1.heap.size := Nat.lt_of_lt_of_le hb2 (Nat.le_trans hB hwB)
      have hb2n : some b2 ≠ (Value.slice A2 k C2).ownBlock := fun e => by have := (p2.lt b2 e.symm).1; omega
      clear h1 h2 h3 a12 a13 a23 hbel hbA hbB p2 p3 b12 b13 o1 hg1 hat1 hc3 hcL hc hc2 hb
      go_wp2_with fail
      refine wp_region_noPanic ?_
      refine region_M (S := fun w' => w'.cell? ⟨b2, off2 + k, none⟩ = some (.int .i64 y) ∧ w'.cell? ⟨g1, k, none⟩ = some (.int .i64 lv)) (T := []) (by kernel_rfl) ?_
      refine anyM_free (i := 0) (oi := { dst := some 50, op := _, type := _, pos := _, after := _, guard := _ }) (v := ?_) rfl (by kernel_rfl) (fun _ _ _ h => h) (Or.inl ⟨by kernel_rfl, ?_⟩) (fun _ => hS0) ?_
      rotate_left 1
      · (intro w hSw; (try dsimp only at hSw); go_simp; try with_reducible rfl)
      try simp only [Act.put, Array.toArray_toList, List.setIfInBounds_toArray, List.set_cons_zero, List.set_cons_succ]
      refine anyM_free (i := 1) (oi := { dst := some 51, op := _, type := _, pos := _, after := _, guard := _ }) (v := ?_) rfl (by kernel_rfl) (fun _ _ _ h => h) (Or.inl ⟨by kernel_rfl, ?_⟩) (fun _ => hS0) ?_
      rotate_left 1
      · (intro w hSw; (try dsimp only at hSw); go_simp; try with_reducible rfl)
      try simp only [Act.put, Array.toArray_toList, List.setIfInBounds_toArray, List.set_cons_zero, List.set_cons_succ]
      refine anyM_free (i := 2) (oi := { dst := some 52, op := _, type := _, pos := _, after := _, guard := _ }) (v := ?_) rfl (by kernel_rfl) (fun _ _ _ h => h) (Or.inl ⟨by kernel_rfl, ?_⟩) (fun _ => hS0) ?_
      rotate_left 1
      · (intro w hSw; (try dsimp only at hSw); go_simp; try with_reducible rfl)
      try simp only [Act.put, Array.toArray_toList, List.setIfInBounds_toArray, List.set_cons_zero, List.set_cons_succ]
      refine anyM_free (i := 3) (oi := { dst := some 53, op := _, type := _, pos := _, after := _, guard := _ }) (v := ?_) rfl (by kernel_rfl) (fun _ _ _ h => h) (Or.inl ⟨by kernel_rfl, ?_⟩) (fun _ => hS0) ?_
      rotate_left 1
      · (intro w hSw; (try dsimp only at hSw); go_simp; try with_reducible rfl)
      try simp only [Act.put, Array.toArray_toList, List.setIfInBounds_toArray, List.set_cons_zero, List.set_cons_succ]
      refine anyM_take (i := 4) (oi := { dst := some 54, op := _, type := _, pos := _, after := _, guard := _ }) (v := ?_) rfl (by kernel_rfl) (fun _ _ _ h => h) (Or.inl ⟨by kernel_rfl, ?_⟩) hS0 ?_
      rotate_left 1
      · (intro w hSw; (try dsimp only at hSw); go_simp; try with_reducible rfl)
      try simp only [Act.put, Array.toArray_toList, List.setIfInBounds_toArray, List.set_cons_zero, List.set_cons_succ]
      refine anyM_free (i := 6) (oi := { dst := some 56, op := _, type := _, pos := _, after := _, guard := _ }) (v := ?_) rfl (by kernel_rfl) (fun _ _ _ h => h) (Or.inl ⟨by kernel_rfl, ?_⟩) (fun _ => hS0) ?_
      rotate_left 1
      · (intro w hSw; (try dsimp only at hSw); go_simp; try with_reducible rfl)
      try simp only [Act.put, Array.toArray_toList, List.setIfInBounds_toArray, List.set_cons_zero, List.set_cons_succ]
      refine anyM_free (i := 7) (oi := { dst := some 57, op := _, type := _, pos := _, after := _, guard := _ }) (v := ?_) rfl (by kernel_rfl) (fun _ _ _ h => h) (Or.inl ⟨by kernel_rfl, ?_⟩) (fun _ => hS0) ?_
      rotate_left 1
      · (intro w hSw; (try dsimp only at hSw); go_simp; try with_reducible rfl)
      try simp only [Act.put, Array.toArray_toList, List.setIfInBounds_toArray, List.set_cons_zero, List.set_cons_succ]
      refine anyM_free (i := 8) (oi := { dst := some 58, op := _, type := _, pos := _, after := _, guard := _ }) (v := ?_) rfl (by kernel_rfl) (fun _ _ _ h => h) (Or.inl ⟨by kernel_rfl, ?_⟩) (fun _ => hS0) ?_
      rotate_left 1
      · (intro w hSw; (try dsimp only at hSw); go_simp; try with_reducible rfl)
      try simp only [Act.put, Array.toArray_toList, List.setIfInBounds_toArray, List.set_cons_zero, List.set_cons_succ]
      refine anyM_take (i := 9) (oi := { dst := some 59, op := _, type := _, pos := _, after := _, guard := _ }) (v := ?_) rfl (by kernel_rfl) (fun _ _ _ h => h) (Or.inl ⟨by kernel_rfl, ?_⟩) hS0 ?_
      rotate_left 1
      · (intro w hSw; (try dsimp only at hSw); go_simp; try with_reducible rfl)
      try simp only [Act.put, Array.toArray_toList, List.setIfInBounds_toArray, List.set_cons_zero, List.set_cons_succ]
      refine anyM_one (i := 5) (by kernel_rfl) rfl (fun K hK => ?_)
      go_simp
      refine (HCY.out _).mono ?_
      rintro e' w' ⟨rfl, rfl⟩
      refine hK.out _ _ (fun _ => hS0) ?_
      clear hK K
      try simp only [Act.put, Array.toArray_toList, List.setIfInBounds_toArray, List.set_cons_zero, List.set_cons_succ]
      refine anyM_free (i := 10) (oi := { dst := some 60, op := _, type := _, pos := _, after := _, guard := _ }) (v := ?_) rfl (by kernel_rfl) (fun _ _ _ h => h) (Or.inl ⟨by kernel_rfl, ?_⟩) (fun _ => hS0) ?_
      rotate_left 1
      · (intro w hSw; (try dsimp only at hSw); go_simp; try with_reducible rfl)
      try simp only [Act.put, Array.toArray_toList, List.setIfInBounds_toArray, List.set_cons_zero, List.set_cons_succ]
      refine anyM_free (i := 11) (oi := { dst := some 61, op := _, type := _, pos := _, after := _, guard := _ }) (v := ?_) rfl (by kernel_rfl) (fun _ _ _ h => h) (Or.inl ⟨by kernel_rfl, ?_⟩) (fun _ => hS0) ?_
      rotate_left 1
      · (intro w hSw; (try dsimp only at hSw); go_simp; try with_reducible rfl)
      try simp only [Act.put, Array.toArray_toList, List.setIfInBounds_toArray, List.set_cons_zero, List.set_cons_succ]
      refine anyM_one (i := 12) (by kernel_rfl) rfl (fun K hK => ?_)
      go_simp
      have P2' := (P2.out.alloc (.cells #[.int .i64 mv] 3)).drew
      have BA := below_alloc (Below.refl w1.heap.size w1) (.cells #[.int .i64 mv] 3)
      have hS0 : (fun w' : World => w'.cell? ⟨b2, off2 + k, none⟩ = some (.int .i64 y) ∧ w'.cell? ⟨g1, k, none⟩ = some (.int .i64 lv)) (w1.alloc (.cells #[.int .i64 mv] 3)).drew := ⟨(BA.cell (p := ⟨b2, off2 + k, none⟩) hb9').trans hS0.1, (BA.cell (p := ⟨g1, k, none⟩) hlt1).trans hS0.2⟩
      refine hK.out _ _ (fun _ => hS0) ?_
      clear hK K
      try simp only [Act.put, Array.toArray_toList, List.setIfInBounds_toArray, List.set_cons_zero, List.set_cons_succ]
      refine anyM_one (i := 13) (by kernel_rfl) rfl (fun K hK => ?_)
      refine step_append_lies _ (by rfl) _ _ _ (by rfl) w.heap.size 3 i0 (.int .i64 0) 1 8 Try.underlying64 hi hz0 hz1 hz2 rfl (by decide) _ _ _ (by rfl) P2' ⟨w1.heap.size, 0, none⟩ 1 1 [.int .i64 mv] (by rfl) (by rfl) (cell_one_new _ _ _) (fun u hu => by simp at hu; subst hu; rfl) (by omega) (by unfold maxLen; omega) (by omega) (by simp; omega) (w1.heap.size + 1) (by simp) ?_
      intro g2 cap2 w2 o2 hg2 hat2 hlt2
      have hS0 : (fun w' : World => w'.cell? ⟨b2, off2 + k, none⟩ = some (.int .i64 y) ∧ w'.cell? ⟨g1, k, none⟩ = some (.int .i64 lv)) w2 := ⟨(hg2.cell_far ⟨b2, off2 + k, none⟩ (by simp; omega) hb2n).trans hS0.1, (hg2.cell_far ⟨g1, k, none⟩ (by simp; omega) (fun e => AA.out.1.far e.symm)).trans hS0.2⟩
      refine hK.out _ _ (fun _ => hS0) ?_
      clear hK K
      try simp only [Act.put, Array.toArray_toList, List.setIfInBounds_toArray, List.set_cons_zero, List.set_cons_succ]
      refine anyM_free (i := 14) (oi := { dst := some 14, op := _, type := _, pos := _, after := _, guard := _ }) (v := ?_) rfl (by kernel_rfl) (fun _ _ _ h => h) (Or.inl ⟨by kernel_rfl, ?_⟩) (fun _ => hS0) ?_
      rotate_left 1
      · (intro w hSw; (try dsimp only at hSw); go_simp; try with_reducible rfl)
      try simp only [Act.put, Array.toArray_toList, List.setIfInBounds_toArray, List.set_cons_zero, List.set_cons_succ]
      refine anyM_done (by kernel_rfl) ?_ _
      refine NoPanic.normal ?_
      rw [← HN2.out] at o2
      have p3 := own_grownFar ((P3.out.alloc (.cells #[.int .i64 mv] 3)).drew) AA.out.2.2 hg2
      have p1 := own_grownFar ((q1.out.alloc (.cells #[.int .i64 mv] 3)).drew) AA.out.1.symm hg2
      have c12 := (ap_grown (m := k + 1) (c := cap2) ((q1.out.alloc (.cells #[.int .i64 mv] 3)).drew) AA.out.1.symm hat2 (by simp)).symm
      have c23 := ap_grown (m := k + 1) (c := cap2) ((P3.out.alloc (.cells #[.int .i64 mv] 3)).drew) AA.out.2.2 hat2 (by simp)
      have bC := below_grownA ((below_alloc BB.out (.cells #[.int .i64 mv] 3)).drew) P2' hg2
      have hwC := bC.size
      have P1 := Lib.hid p1
      have Q2 := Lib.hid o2
      have BC := Lib.hid bC
      have CC := Lib.hid (show Ap (.slice (some ⟨g1, 0, none⟩) (k + 1) cap1) (.slice (some ⟨g2, 0, none⟩) (k + 1) cap2) ∧ Ap (.slice (some ⟨g1, 0, none⟩) (k + 1) cap1) (.slice A3 k C3) ∧ Ap (.slice (some ⟨g2, 0, none⟩) (k + 1) cap2) (.slice A3 k C3) from ⟨c12, AA.out.2.1, c23⟩)
      clear p1 o2 bC c12 c23 hS0 hg2 hat2 P2' P3 q1 BB AA hb2n hb9' BA
      go_upto_region 11 with (at_builtin; refine wpList_append_lies rfl _ _ 64 rfl w.heap.size 3 i0 (.int .i64 0) 1 8 Try.underlying64 hi hz0 hz1 hz2 rfl (by decide) _ _ _ rfl (p3.alloc _) ⟨w2.heap.size, 0, none⟩ 1 1 [.int .i64 1] rfl rfl (cell_one_new _ _ _) (fun u hu => by simp at hu; subst hu; rfl) (by decide) (by unfold maxLen; omega) (by omega) (by simp; omega) _ rfl ?_; intro g3 cap3 w3 o3 hg3 hat3 hlt3)
      rw [← HN3.out] at o3
      have p1 := own_grownFar (P1.out.alloc (.cells #[.int .i64 1] 3)) CC.out.2.1.symm hg3
      have p2 := own_grownFar (Q2.out.alloc (.cells #[.int .i64 1] 3)) CC.out.2.2.symm hg3
      have d13 := (ap_grown (m := k + 1) (c := cap3) (P1.out.alloc (.cells #[.int .i64 1] 3)) CC.out.2.1.symm hat3 (Nat.le_refl _)).symm
      have d23 := (ap_grown (m := k + 1) (c := cap3) (Q2.out.alloc (.cells #[.int .i64 1] 3)) CC.out.2.2.symm hat3 (Nat.le_refl _)).symm
      have bD := below_grownA (below_alloc BC.out (.cells #[.int .i64 1] 3)) p3 hg3
      have cA := own_cell p1 (fnL_at (k + 1) k (tLow ls) (by omega))
      have cB := own_cell p2 (fnL_at (k + 1) k (tMore ls ms) (by omega))
      rw [HL4.out] at cA
      rw [HM4.out] at cB
      have Q1 := Lib.hid p1
      have Q2' := Lib.hid p2
      have Q3 := Lib.hid o3
      have BD := Lib.hid bD
      have DD := Lib.hid (show Ap (.slice (some ⟨g1, 0, none⟩) (k + 1) cap1) (.slice (some ⟨g2, 0, none⟩) (k + 1) cap2) ∧ Ap (.slice (some ⟨g1, 0, none⟩) (k + 1) cap1) (.slice (some ⟨g3, 0, none⟩) (k + 1) cap3) ∧ Ap (.slice (some ⟨g2, 0, none⟩) (k + 1) cap2) (.slice (some ⟨g3, 0, none⟩) (k + 1) cap3) from ⟨CC.out.1, d13, d23⟩)
      have m5 : IntKind.i64.wrap (sl + lv) = sl + lv := IntWalk.i64_in _ (by omega)
      have m6 : IntKind.i64.wrap (sl + sm + lv) = sl + sm + lv := IntWalk.i64_in _ (by omega)
      have m7 : IntKind.i64.wrap (sl + sm + lv + mv) = sl + sm + lv + mv := IntWalk.i64_in _ (by omega)
      have HS1 := Lib.hid (show sumTo (tLow ls) (k + 1) + sumTo (tMore ls ms) (k + 1) = sl + sm + lv + mv by rw [HT1.out, HT2.out]; omega)
      clear p1 p2 o3 bD d13 d23 hg3 hat3 p3 P1 Q2 BC CC hme hwe
      go_wp2_with fail
      go_quiet (fail)
      clear m5 m6 m7 cA cB
      go_wp2_with fail
      go_roundw
      case rel => exact ⟨k + 1, by have := QQ.out; omega, by go_num, by rw [HT1.out], by rw [HS1.out], Q1.out, Q2'.out, Q3.out, DD.out.1, DD.out.2.1, DD.out.2.2, below_drewN BD.out _⟩
      case measure => have := QQ.out; simp [intOf]; omega
    · obtain rfl : k = n := by omega
      have HL3 := Lib.hid h1
      have HM3 := Lib.hid h2
      have HO3 := Lib.hid (show wr.ownsRow w.heap.size 3 1 (.slice A3 k C3) k (ints (onesL k)) by rw [ones_fn]; exact h3)
      have HB3 := Lib.hid hbel
      have HA12 := Lib.hid a12
      obtain ⟨sl, hsle⟩ : ∃ x, x = sumTo (tLow ls) k := ⟨_, rfl⟩
      obtain ⟨sm, hsme⟩ : ∃ x, x = sumTo (tMore ls ms) k := ⟨_, rfl⟩
      rw [← hsle] at hs1 HWH HWM HWL ⊢
      rw [← hsme] at hs2 HWH HWM ⊢
      clear hsle hsme h1 h2 h3 a12 a13 a23 hbel
      obtain ⟨wo, rfl⟩ : ∃ wo : World, wo = wr := ⟨_, rfl⟩
      cases fixed
      · by_cases hhigh : sl + sm ≤ fr
        · skip
          have HR := Lib.hid (HWH.out hhigh)
          go_wp2_with fail
          go_loopw [110] (fun i wr => ∃ j : Nat, j ≤ k ∧ i = .int .i64 j ∧ wr.ownsRow w.heap.size 3 1 (.slice A1 k C1) k (ints (turT k (tLow ls) (fun i => tLow ls i + tMore ls ms i) j)) ∧ wr.ownsRow w.heap.size 3 1 (.slice A2 k C2) k (ints (fnL k (tMore ls ms))) ∧ Below w.heap.size w wr) (fun i _ => k - (intOf i).toNat)
          case atStart => exact ⟨0, Nat.zero_le _, rfl, by rw [turT_zero]; exact HL3.out, HM3.out, HB3.out⟩
          case round =>
            obtain ⟨j, hj, rfl, hL, hS, hbel⟩ := hrel
            by_cases hlt2 : j < k
            · obtain ⟨gL, cL0, eL, _, _⟩ := own_some hL (by omega)
              obtain ⟨g4, cS0, eS, _, _⟩ := own_some hS (by omega)
              injection eL with eL1 eL2 eL3
              injection eS with eS1 eS2 eS3
              subst eL1
              subst eS1
              clear eL2 eL3 eS2 eS3
              have hne : g4 ≠ gL := fun e => HA12.out gL (by simp [Value.ownBlock]) (by simp [Value.ownBlock, e])
              have cL : wr.cell? ⟨gL, j, none⟩ = some (.int .i64 (tLow ls j)) := (hL.cellAt j (by omega)).trans (by rw [turT_at _ _ _ _ _ hlt2, if_neg (by omega)])
              have zL : wr.drew.frozen? ⟨gL, j, none⟩ = false := own_free hL
              have cS : wr.cell? ⟨g4, j, none⟩ = some (.int .i64 (tMore ls ms j)) := (hS.cellAt j (by omega)).trans (fnL_at _ _ _ hlt2)
              have HST := Lib.hid (turT_set k j (tLow ls) (fun i => tLow ls i + tMore ls ms i) hlt2)
              have hgw := (hL.lt _ rfl).1
              have hb1 := tLow_bd ls j
              have hb2 := tMore_bd ls ms j
              obtain ⟨lv, hlv⟩ : ∃ z, z = tLow ls j := ⟨_, rfl⟩
              obtain ⟨sv, hsv⟩ : ∃ z, z = tMore ls ms j := ⟨_, rfl⟩
              rw [← hlv] at cL hb1
              rw [← hsv] at cS hb2
              simp only [← hlv, ← hsv] at HST
              have hL2 := own_set (j := j) (u := .int .i64 (lv + sv)) hL
              rw [HST.out] at hL2
              have hS2 := own_setFar (b := gL) (j := j) (u := .int .i64 (lv + sv)) hS (by simp [Value.ownBlock]; omega)
              have HL5 := Lib.hid hL2
              have HS5 := Lib.hid hS2
              have HB5 := Lib.hid (below_set hbel (b := gL) (off := j) hgw (.int .i64 (lv + sv)))
              have QQ := Lib.hid (show j ≤ k ∧ j < k from ⟨hj, hlt2⟩)
              have md : IntKind.i64.wrap (lv + sv) = lv + sv := IntWalk.i64_in _ (by omega)
              have hS0 : (fun w' : World => w'.cell? ⟨gL, j, none⟩ = some (.int .i64 lv) ∧ w'.cell? ⟨g4, j, none⟩ = some (.int .i64 sv)) wr.drew := ⟨cL, cS⟩
              clear hL hS hbel hL2 hS2 hlv hsv hne hgw hhigh
              go_wp2_with fail
              refine wp_region_noPanic ?_
              refine region_M (S := fun w' => w'.cell? ⟨gL, j, none⟩ = some (.int .i64 lv) ∧ w'.cell? ⟨g4, j, none⟩ = some (.int .i64 sv)) (T := [10]) (by kernel_rfl) ?_
              refine anyM_free (i := 0) (oi := { dst := some 113, op := _, type := _, pos := _, after := _, guard := _ }) (v := ?_) rfl (by kernel_rfl) (fun _ _ _ h => h) (Or.inl ⟨by kernel_rfl, ?_⟩) (fun _ => hS0) ?_
              rotate_left 1
              · (intro w hSw; (try dsimp only at hSw); go_simp; try with_reducible rfl)
              try simp only [Act.put, Array.toArray_toList, List.setIfInBounds_toArray, List.set_cons_zero, List.set_cons_succ]
              refine anyM_free (i := 1) (oi := { dst := some 114, op := _, type := _, pos := _, after := _, guard := _ }) (v := ?_) rfl (by kernel_rfl) (fun _ _ _ h => h) (Or.inl ⟨by kernel_rfl, ?_⟩) (fun _ => hS0) ?_
              rotate_left 1
              · (intro w hSw; (try dsimp only at hSw); go_simp; try with_reducible rfl)
              try simp only [Act.put, Array.toArray_toList, List.setIfInBounds_toArray, List.set_cons_zero, List.set_cons_succ]
              refine anyM_free (i := 2) (oi := { dst := some 115, op := _, type := _, pos := _, after := _, guard := _ }) (v := ?_) rfl (by kernel_rfl) (fun _ _ _ h => h) (Or.inl ⟨by kernel_rfl, ?_⟩) (fun _ => hS0) ?_
              rotate_left 1
              · (intro w hSw; (try dsimp only at hSw); go_simp; try with_reducible rfl)
              try simp only [Act.put, Array.toArray_toList, List.setIfInBounds_toArray, List.set_cons_zero, List.set_cons_succ]
              refine anyM_take (i := 3) (oi := { dst := some 116, op := _, type := _, pos := _, after := _, guard := _ }) (v := ?_) rfl (by kernel_rfl) (fun _ _ _ h => h) (Or.inl ⟨by kernel_rfl, ?_⟩) hS0 ?_
              rotate_left 1
              · (intro w hSw; (try dsimp only at hSw); go_simp; try with_reducible rfl)
              try simp only [Act.put, Array.toArray_toList, List.setIfInBounds_toArray, List.set_cons_zero, List.set_cons_succ]
              refine anyM_free (i := 4) (oi := { dst := some 117, op := _, type := _, pos := _, after := _, guard := _ }) (v := ?_) rfl (by kernel_rfl) (fun _ _ _ h => h) (Or.inl ⟨by kernel_rfl, ?_⟩) (fun _ => hS0) ?_
              rotate_left 1
              · (intro w hSw; (try dsimp only at hSw); go_simp; try with_reducible rfl)
              try simp only [Act.put, Array.toArray_toList, List.setIfInBounds_toArray, List.set_cons_zero, List.set_cons_succ]
              refine anyM_free (i := 5) (oi := { dst := some 118, op := _, type := _, pos := _, after := _, guard := _ }) (v := ?_) rfl (by kernel_rfl) (fun _ _ _ h => h) (Or.inl ⟨by kernel_rfl, ?_⟩) (fun _ => hS0) ?_
              rotate_left 1
              · (intro w hSw; (try dsimp only at hSw); go_simp; try with_reducible rfl)
              try simp only [Act.put, Array.toArray_toList, List.setIfInBounds_toArray, List.set_cons_zero, List.set_cons_succ]
              refine anyM_free (i := 6) (oi := { dst := some 119, op := _, type := _, pos := _, after := _, guard := _ }) (v := ?_) rfl (by kernel_rfl) (fun _ _ _ h => h) (Or.inl ⟨by kernel_rfl, ?_⟩) (fun _ => hS0) ?_
              rotate_left 1
              · (intro w hSw; (try dsimp only at hSw); go_simp; try with_reducible rfl)
              try simp only [Act.put, Array.toArray_toList, List.setIfInBounds_toArray, List.set_cons_zero, List.set_cons_succ]
              refine anyM_take (i := 7) (oi := { dst := some 120, op := _, type := _, pos := _, after := _, guard := _ }) (v := ?_) rfl (by kernel_rfl) (fun _ _ _ h => h) (Or.inl ⟨by kernel_rfl, ?_⟩) hS0 ?_
              rotate_left 1
              · (intro w hSw; (try dsimp only at hSw); go_simp; try with_reducible rfl)
              try simp only [Act.put, Array.toArray_toList, List.setIfInBounds_toArray, List.set_cons_zero, List.set_cons_succ]
              refine anyM_free (i := 8) (oi := { dst := some 121, op := _, type := _, pos := _, after := _, guard := _ }) (v := ?_) rfl (by kernel_rfl) (fun _ _ _ h => h) (Or.inl ⟨by kernel_rfl, ?_⟩) (fun _ => hS0) ?_
              rotate_left 1
              · (intro w hSw; (try dsimp only at hSw); go_simp; try with_reducible rfl)
              try simp only [Act.put, Array.toArray_toList, List.setIfInBounds_toArray, List.set_cons_zero, List.set_cons_succ]
              refine anyM_free (i := 9) (oi := { dst := some 122, op := _, type := _, pos := _, after := _, guard := _ }) (v := ?_) rfl (by kernel_rfl) (fun _ _ _ h => h) (Or.inl ⟨by kernel_rfl, ?_⟩) (fun _ => hS0) ?_
              rotate_left 1
              · (intro w hSw; (try dsimp only at hSw); go_simp; try with_reducible rfl)
              try simp only [Act.put, Array.toArray_toList, List.setIfInBounds_toArray, List.set_cons_zero, List.set_cons_succ]
              refine anyM_one (i := 10) (by kernel_rfl) rfl (fun K hK => ?_)
              go_simp
              refine hK.out _ _ (fun h => late_no h (by kernel_rfl)) ?_
              clear hK K
              try simp only [Act.put, Array.toArray_toList, List.setIfInBounds_toArray, List.set_cons_zero, List.set_cons_succ]
              refine anyM_done (by kernel_rfl) ?_ _
              refine NoPanic.normal ?_
              clear hS0 zL cL cS md
              go_wp2_with fail
              go_roundw
              case rel => exact ⟨j + 1, by have := QQ.out; omega, by go_num, HL5.out, HS5.out, HB5.out.drew⟩
              case measure => have := QQ.out; simp [intOf]; omega
            · obtain rfl : k = j := by omega
              rw [turT_all] at hL
              have HL5 := Lib.hid hL
              have HB5 := Lib.hid hbel
              clear hL hS hbel
              go_wp2_with fail
              go_ret
              exact ⟨_, rfl, by rw [HR.out]; exact HL5.out, HB5.out⟩
        · by_cases hlow : sl < fr
          · skip
            have HR := Lib.hid (HWM.out (by omega) hlow)
            have HSH := Lib.hid (rshare_own (fr - sl) A2 k C2 _ (fnL k (tMore ls ms)) wo (fnL_len _ _) (Holds.of_own HM3.out) (Nat.le_refl _) (by omega))
            have md : IntKind.i64.wrap (fr - sl) = fr - sl := IntWalk.i64_in _ (by omega)
            obtain ⟨sh, hsh⟩ : ∃ x, x = share (fr - sl) (fnL k (tMore ls ms)) := ⟨_, rfl⟩
            have hshl : sh.length = k := by rw [hsh, share_length, fnL_len]
            have hsb : ∀ i, -562949953421312000 ≤ sh.getD i 0 ∧ sh.getD i 0 ≤ 562949953421312000 := fun i => by rw [hsh]; exact share_getD _ _ i
            rw [← hsh] at HSH HR
            have HSL2 := Lib.hid hshl
            have HSB := Lib.hid hsb
            clear hsh hshl hsb
            go_wp2_with (go_at_call 83; refine HSH.out.mono ?_; rintro e w4 ⟨A4, c4, rfl, ho4, hb4⟩)
            have HS4 := Lib.hid ho4
            have HL4 := Lib.hid (own_below HL3.out hb4)
            have HB4 := Lib.hid (below_then HB3.out hb4)
            clear ho4 hb4 HSH md hfb hs1 hs2 hlow hhigh
            go_loopw [133] (fun i wr => ∃ j : Nat, j ≤ k ∧ i = .int .i64 j ∧ wr.ownsRow w.heap.size 3 1 (.slice A1 k C1) k (ints (turT k (tLow ls) (fun i => tLow ls i + sh.getD i 0) j)) ∧ wr.ownsRow wo.heap.size 3 1 (.slice A4 k c4) k (ints sh) ∧ Below w.heap.size w wr) (fun i _ => k - (intOf i).toNat)
            case atStart => exact ⟨0, Nat.zero_le _, rfl, by rw [turT_zero]; exact HL4.out, HS4.out, HB4.out⟩
            case round =>
              obtain ⟨j, hj, rfl, hL, hS, hbel⟩ := hrel
              by_cases hlt2 : j < k
              · obtain ⟨gL, cL0, eL, _, _⟩ := own_some hL (by omega)
                obtain ⟨g4, cS0, eS, _, _⟩ := own_some hS (by omega)
                injection eL with eL1 eL2 eL3
                injection eS with eS1 eS2 eS3
                subst eL1
                subst eS1
                clear eL2 eL3 eS2 eS3
                have hne : gL ≠ g4 := by have h1 : gL < wo.heap.size := (HL3.out.lt _ rfl).2; have h2 : wo.heap.size ≤ g4 := (hS.lt _ rfl).1; omega
                have cL : wr.cell? ⟨gL, j, none⟩ = some (.int .i64 (tLow ls j)) := (hL.cellAt j (by omega)).trans (by rw [turT_at _ _ _ _ _ hlt2, if_neg (by omega)])
                have zL : wr.frozen? ⟨gL, j, none⟩ = false := own_free hL
                have cS : wr.cell? ⟨g4, j, none⟩ = some (.int .i64 (sh.getD j 0)) := (hS.cellAt j (by omega)).trans (ints_get _ _ (by rw [HSL2.out]; exact hlt2))
                have HST := Lib.hid (turT_set k j (tLow ls) (fun i => tLow ls i + sh.getD i 0) hlt2)
                have hgw := (hL.lt _ rfl).1
                have hb1 := tLow_bd ls j
                have hb2 := HSB.out j
                obtain ⟨lv, hlv⟩ : ∃ z, z = tLow ls j := ⟨_, rfl⟩
                obtain ⟨sv, hsv⟩ : ∃ z, z = sh.getD j 0 := ⟨_, rfl⟩
                rw [← hlv] at cL hb1
                rw [← hsv] at cS hb2
                simp only [← hlv, ← hsv] at HST
                have hL2 := own_set (j := j) (u := .int .i64 (lv + sv)) hL
                rw [HST.out] at hL2
                have hS2 := own_setFar (b := gL) (j := j) (u := .int .i64 (lv + sv)) hS (by simp [Value.ownBlock]; omega)
                have HL5 := Lib.hid hL2
                have HS5 := Lib.hid hS2
                have HB5 := Lib.hid (below_set hbel (b := gL) (off := j) hgw (.int .i64 (lv + sv)))
                have QQ := Lib.hid (show j ≤ k ∧ j < k from ⟨hj, hlt2⟩)
                clear hL hS hbel hL2 hS2 hlv hsv hne hgw
                go_wp2_with fail
                go_roundw
                case rel => exact ⟨j + 1, by have := QQ.out; omega, by go_num, HL5.out, HS5.out, HB5.out⟩
                case measure => have := QQ.out; simp [intOf]; omega
              · obtain rfl : k = j := by omega
                rw [turT_all] at hL
                have HL5 := Lib.hid hL
                have HB5 := Lib.hid hbel
                clear hL hS hbel
                go_wp2_with fail
                go_ret
                exact ⟨_, rfl, by rw [HR.out]; exact HL5.out, HB5.out⟩
          · have HR := Lib.hid (HWL.out (by omega))
            go_wp2_with fail
            go_ret
            exact ⟨_, rfl, by rw [HR.out]; exact HL3.out, HB3.out⟩
      · skip
        have HR := HWF
        obtain ⟨sh, hsh⟩ : ∃ x, x = share fr (onesL k) := ⟨_, rfl⟩
        have hshl : sh.length = k := by rw [hsh, share_length, ones_len]
        have hsb : ∀ i, -562949953421312000 ≤ sh.getD i 0 ∧ sh.getD i 0 ≤ 562949953421312000 := fun i => by rw [hsh]; exact share_getD _ _ i
        have HSH := Lib.hid (rshare_own fr A3 k C3 _ (onesL k) wo (ones_len k) (Holds.of_own HO3.out) (Nat.le_refl _) (by omega))
        rw [← hsh] at HSH HR
        have HSL2 := Lib.hid hshl
        have HSB := Lib.hid hsb
        clear hsh hshl hsb
        go_wp2_with (go_at_call 83; refine HSH.out.mono ?_; rintro e w4 ⟨A4, c4, rfl, ho4, hb4⟩)
        have HS4 := Lib.hid ho4
        have HL4 := Lib.hid (own_below HL3.out hb4)
        have HB4 := Lib.hid (below_then HB3.out hb4)
        clear ho4 hb4 HSH hfb hs1 hs2
        go_loopw [90] (fun i wr => ∃ j : Nat, j ≤ k ∧ i = .int .i64 j ∧ wr.ownsRow w.heap.size 3 1 (.slice A1 k C1) k (ints (turT k (tLow ls) (fun i => max (tLow ls i) (sh.getD i 0)) j)) ∧ wr.ownsRow wo.heap.size 3 1 (.slice A4 k c4) k (ints sh) ∧ Below w.heap.size w wr) (fun i _ => k - (intOf i).toNat)
        case atStart => exact ⟨0, Nat.zero_le _, rfl, by rw [turT_zero]; exact HL4.out, HS4.out, HB4.out⟩
        case round =>
          obtain ⟨j, hj, rfl, hL, hS, hbel⟩ := hrel
          by_cases hlt2 : j < k
          · obtain ⟨gL, cL0, eL, _, _⟩ := own_some hL (by omega)
            obtain ⟨g4, cS0, eS, _, _⟩ := own_some hS (by omega)
            injection eL with eL1 eL2 eL3
            injection eS with eS1 eS2 eS3
            subst eL1
            subst eS1
            clear eL2 eL3 eS2 eS3
            have hne : gL ≠ g4 := by have h1 : gL < wo.heap.size := (HL3.out.lt _ rfl).2; have h2 : wo.heap.size ≤ g4 := (hS.lt _ rfl).1; omega
            have cL : wr.cell? ⟨gL, j, none⟩ = some (.int .i64 (tLow ls j)) := (hL.cellAt j (by omega)).trans (by rw [turT_at _ _ _ _ _ hlt2, if_neg (by omega)])
            have zL : wr.frozen? ⟨gL, j, none⟩ = false := own_free hL
            have cS : wr.cell? ⟨g4, j, none⟩ = some (.int .i64 (sh.getD j 0)) := (hS.cellAt j (by omega)).trans (ints_get _ _ (by rw [HSL2.out]; exact hlt2))
            have HST := Lib.hid (turT_set k j (tLow ls) (fun i => max (tLow ls i) (sh.getD i 0)) hlt2)
            have hgw := (hL.lt _ rfl).1
            have hb1 := tLow_bd ls j
            have hb2 := HSB.out j
            obtain ⟨lv, hlv⟩ : ∃ z, z = tLow ls j := ⟨_, rfl⟩
            obtain ⟨sv, hsv⟩ : ∃ z, z = sh.getD j 0 := ⟨_, rfl⟩
            rw [← hlv] at cL hb1
            rw [← hsv] at cS hb2
            simp only [← hlv, ← hsv] at HST
            have hL2 := own_set (j := j) (u := .int .i64 (max lv sv)) hL
            rw [HST.out] at hL2
            have hS2 := own_setFar (b := gL) (j := j) (u := .int .i64 (max lv sv)) hS (by simp [Value.ownBlock]; omega)
            have HL5 := Lib.hid hL2
            have HS5 := Lib.hid hS2
            have HB5 := Lib.hid (below_set hbel (b := gL) (off := j) hgw (.int .i64 (max lv sv)))
            have QQ := Lib.hid (show j ≤ k ∧ j < k from ⟨hj, hlt2⟩)
            clear hL hS hbel hL2 hS2 hlv hsv hne hgw
            go_wp2_with fail
            go_roundw
            case rel => exact ⟨j + 1, by have := QQ.out; omega, by go_num, HL5.out, HS5.out, HB5.out⟩
            case measure => have := QQ.out; simp [intOf]; omega
          · obtain rfl : k = j := by omega
            rw [turT_all] at hL
            have HL5 := Lib.hid hL
            have HB5 := Lib.hid hbel
            clear hL hS hbel
            go_wp2_with fail
            go_ret
            exact ⟨_, rfl, by rw [HR.out]; exact HL5.out, HB5.out⟩
end Go.Proofs.Ytkppignoomnmdaa
