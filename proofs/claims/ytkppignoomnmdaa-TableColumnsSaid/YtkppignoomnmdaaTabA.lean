/- Contracts of table.sum and table.Widths. -/
import Derived.Test.YtkppignoomnmdaaTabPlain
import Derived.Test.YtkppignoomnmdaaSpreadA
import Derived.Test.YtkppignoomnmdaaRShare
import Derived.Test.YtkppignoomnmdaaStepMake
import Derived.Deep.Cut
import Derived.Deep.CutRange
namespace Go.Proofs.Ytkppignoomnmdaa
open Go.RowKit
set_option linter.unusedVariables false
set_option linter.unusedSimpArgs false
attribute [local go_sem high] run_min2 run_max2

/-- The first k told, the others 0. -/
def upT (n : Nat) (f : Nat → Int) (k : Nat) : List Int := (List.range n).map (fun i => if i < k then f i else 0)
theorem upT_at (n k i : Nat) (f : Nat → Int) (hi : i < n) : (ints (upT n f k))[i]? = some (.int .i64 (if i < k then f i else 0)) := by simp [ints, upT, hi]
theorem upT_all (n : Nat) (f : Nat → Int) : upT n f n = fnL n f := by
  unfold upT fnL
  apply List.map_congr_left
  intro i hi
  rw [if_pos (by simpa using hi)]
theorem upT_set (n k : Nat) (f : Nat → Int) (hk : k < n) : (ints (upT n f k)).set k (.int .i64 (f k)) = ints (upT n f (k + 1)) := by
  unfold ints upT
  apply List.ext_getElem
  · simp
  · intro i h1 h2
    simp only [List.getElem_set, List.getElem_map, List.getElem_range]
    by_cases e : k = i
    · subst e; rw [if_pos rfl, if_pos (by omega)]
    · rw [if_neg e]
      by_cases e2 : i < k
      · rw [if_pos e2, if_pos (by omega)]
      · rw [if_neg e2, if_neg (by omega)]
theorem ints_get (l : List Int) (j : Nat) (hj : j < l.length) : (ints l)[j]? = some (.int .i64 (l.getD j 0)) := by simp [ints, List.getD, hj]
/-- The first k turned, the others as they were. -/
def turT (n : Nat) (f g : Nat → Int) (k : Nat) : List Int := (List.range n).map (fun i => if i < k then g i else f i)
theorem turT_at (n k i : Nat) (f g : Nat → Int) (hi : i < n) : (ints (turT n f g k))[i]? = some (.int .i64 (if i < k then g i else f i)) := by simp [ints, turT, hi]
theorem turT_all (n : Nat) (f g : Nat → Int) : turT n f g n = fnL n g := by
  unfold turT fnL
  apply List.map_congr_left
  intro i hi
  rw [if_pos (by simpa using hi)]
theorem turT_zero (n : Nat) (f g : Nat → Int) : turT n f g 0 = fnL n f := by
  unfold turT fnL
  apply List.map_congr_left
  intro i hi
  rw [if_neg (by omega)]
theorem turT_set (n k : Nat) (f g : Nat → Int) (hk : k < n) : (ints (turT n f g k)).set k (.int .i64 (g k)) = ints (turT n f g (k + 1)) := by
  unfold ints turT
  apply List.ext_getElem
  · simp
  · intro i h1 h2
    simp only [List.getElem_set, List.getElem_map, List.getElem_range]
    by_cases e : k = i
    · subst e; rw [if_pos rfl, if_pos (by omega)]
    · rw [if_neg e]
      by_cases e2 : i < k
      · rw [if_pos e2, if_pos (by omega)]
      · rw [if_neg e2, if_neg (by omega)]
theorem upK_start (n : Nat) (f : Nat → Int) : ints (upT n f 0) = (madeCells (Value.int IntKind.i64 0).cells (n * 1)).toList := by
  show _ = (madeCells #[Value.int IntKind.i64 0] (n * 1)).toList
  rw [toList_madeCells_one]
  apply List.ext_getElem
  · simp [ints, upT]
  · intro i h1 h2; simp [ints, upT]
set_option maxHeartbeats 400000 in
theorem sum_calls (A : Option Addr) (n c B : Nat) (f : Nat → Int) (w : World) (h : Holds w B A (ints (fnL n f))) (hf : ∀ i, 0 ≤ f i ∧ f i ≤ 16777216) (hm : n ≤ 1000) :
    Calls Try.prog 87 #[.slice A n c] w fun e w' => e = .returned (.int .i64 (sumTo f n)) ∧ w = w' := by
  have hl := fnL_len n f
  have HL := Lib.hid hl
  have HF := Lib.hid hf
  have H := Lib.hid h
  clear h hf hl
  go_enter Try.func87, Try.ntmps87
  go_wp2_with fail
  go_loop [2, 7] (fun s i => ∃ k : Nat, k ≤ n ∧ i = .int .i64 k ∧ s = .int .i64 (sumTo f k)) (fun _ i => n - (intOf i).toNat)
  case atStart => exact ⟨0, Nat.zero_le _, rfl, rfl⟩
  case round =>
    obtain ⟨k, hk, rfl, rfl⟩ := hrel
    by_cases hlt : k < n
    · obtain ⟨b, off, rfl, hb, hc⟩ := H.out.ints (k := k) (by rw [HL.out]; exact hlt)
      rw [fnL_getD n f k hlt] at hc
      have hb1 := HF.out k
      have hb2 := sumTo_le f k HF.out
      have HS := Lib.hid (show sumTo f (k + 1) = sumTo f k + f k from rfl)
      obtain ⟨z, hz⟩ : ∃ z, z = f k := ⟨_, rfl⟩
      obtain ⟨p, hp⟩ : ∃ p, p = sumTo f k := ⟨_, rfl⟩
      rw [← hz] at hc hb1 HS
      rw [← hp] at hb2 HS ⊢
      clear hz hp
      go_wp2_with fail
      go_round
      case rel => exact ⟨k + 1, by omega, by go_num, by rw [HS.out]⟩
      case measure => simp [intOf]; omega
    · obtain rfl : k = n := by omega
      go_wp2_with fail
      go_ret
      exact ⟨rfl, rfl⟩
/-- The two lists are made. -/
def MadeLM (w : World) (n : Nat) (ls ms : List Int) (a b : Value) (wx : World) : Prop :=
  ∃ gL gM : Nat, a = .slice (some ⟨gL, 0, none⟩) n n ∧ b = .slice (some ⟨gM, 0, none⟩) n n ∧ gL ≠ gM ∧ w.heap.size ≤ gL ∧ w.heap.size ≤ gM ∧ wx.ownsRow w.heap.size 3 1 (.slice (some ⟨gL, 0, none⟩) n n) n (ints (upT n (tLow ls) 0)) ∧ wx.ownsRow w.heap.size 3 1 (.slice (some ⟨gM, 0, none⟩) n n) n (ints (upT n (tMore ls ms) 0)) ∧ Below w.heap.size w wx
set_option maxRecDepth 100000 in
set_option maxHeartbeats 4000000 in
theorem widths_calls (room spacing : Int) (fixed : Bool) (A A' : Option Addr) (n1 c1 n2 c2 n B : Nat) (ls ms : List Int) (w : World) (hl : ls.length = n1) (hl2 : ms.length = n2) (hn : n = min n1 n2) (h : Holds w B A (ints ls)) (h' : Holds w B A' (ints ms)) (hB : B ≤ w.heap.size) (hm : n1 ≤ 1000) (hm2 : n2 ≤ 17592186044404) :
    Calls Try.prog 41 #[.int .i64 room, .int .i64 spacing, .slice A n1 c1, .slice A' n2 c2, .bool fixed] w fun e w' => ∃ v, e = .returned v ∧ w'.ownsRow w.heap.size 3 1 v n (ints (widthsF room spacing ls ms fixed n)) ∧ Below w.heap.size w w' := by
  obtain ⟨i0, hi, hz0, hz1, hz2⟩ := info_parts info_int
  have hn1 : n ≤ n1 := by omega
  have hn2 : n ≤ n2 := by omega
  have hmn : min (n1 : Int) (n2 : Int) = (n : Int) := by omega
  have hnm : n ≤ 1000 := by omega
  have HL := Lib.hid hl
  have HL2 := Lib.hid hl2
  have H := Lib.hid h
  have H' := Lib.hid h'
  have hb0 : Below w.heap.size w w.drew := (Below.refl _ w).drew
  have hS0 := True.intro
  clear hl hl2 h h' hn
  go_enter Try.func41, Try.ntmps41
  go_upto_region 2 with fail
  go_cut [12, 13] from 25 to 28 (fun a b wx => MadeLM w n ls ms a b wx)
  case first =>
    refine wp_region_noPanic ?_
    refine region_M (S := fun w' => True) (T := []) (by kernel_rfl) ?_
    refine anyM_free (i := 0) (oi := { dst := some 25, op := _, type := _, pos := _, after := _, guard := _ }) (v := ?_) rfl (by kernel_rfl) (fun _ _ _ h => h) (Or.inl ⟨by kernel_rfl, ?_⟩) (fun _ => hS0) ?_
    rotate_left 1
    · (intro w hSw; (try dsimp only at hSw); go_simp; try with_reducible rfl)
    try simp only [Act.put, Array.toArray_toList, List.setIfInBounds_toArray, List.set_cons_zero, List.set_cons_succ]
    refine anyM_free (i := 2) (oi := { dst := some 27, op := _, type := _, pos := _, after := _, guard := _ }) (v := ?_) rfl (by kernel_rfl) (fun _ _ _ h => h) (Or.inl ⟨by kernel_rfl, ?_⟩) (fun _ => hS0) ?_
    rotate_left 1
    · (intro w hSw; (try dsimp only at hSw); go_simp; try with_reducible rfl)
    try simp only [Act.put, Array.toArray_toList, List.setIfInBounds_toArray, List.set_cons_zero, List.set_cons_succ]
    refine anyM_two (i := 1) (j := 3) (by kernel_rfl) rfl rfl (fun K hK => ?_) (fun K hK => ?_)
    · skip
      refine step_mk rfl (.tmp 25) (.tmp 25) 64 rfl w.heap.size 3 i0 (.int .i64 0) 1 Try.underlying64 hi hz0 hz1 .i64 .i64 _ _ n rfl rfl rfl rfl (by rw [hz2]; omega) (by unfold maxLen; omega) (Nat.le_refl _) ?_
      intro wa haL hga
      have hba := below_made hb0 hga
      have hlt1 := (haL.lt _ rfl).2
      have hle1 : w.heap.size ≤ w.drew.heap.size := Nat.le_refl _
      generalize hg1 : w.drew.heap.size = gL at haL hlt1 hle1 ⊢
      refine hK.out _ _ (fun _ => hS0) ?_
      clear hK K
      try simp only [Act.put, Array.toArray_toList, List.setIfInBounds_toArray, List.set_cons_zero, List.set_cons_succ]
      refine anyM_free (i := 4) (oi := { dst := some 12, op := _, type := _, pos := _, after := _, guard := _ }) (v := ?_) rfl (by kernel_rfl) (fun _ _ _ h => h) (Or.inl ⟨by kernel_rfl, ?_⟩) (fun _ => hS0) ?_
      rotate_left 1
      · (intro w hSw; (try dsimp only at hSw); go_simp; try with_reducible rfl)
      try simp only [Act.put, Array.toArray_toList, List.setIfInBounds_toArray, List.set_cons_zero, List.set_cons_succ]
      refine anyM_one (i := 3) (by kernel_rfl) rfl (fun K hK => ?_)
      refine step_mk rfl (.tmp 27) (.tmp 27) 64 rfl wa.heap.size 3 i0 (.int .i64 0) 1 Try.underlying64 hi hz0 hz1 .i64 .i64 _ _ n rfl rfl rfl rfl (by rw [hz2]; omega) (by unfold maxLen; omega) (Nat.le_refl _) ?_
      intro wb hbM hgb
      have hbb := below_made (Below.refl _ wa) hgb
      have hbL := own_below haL hbb
      have hbel := below_then hba hbb
      have hle2 := hba.size
      have hbM := own_low hbM hle2
      generalize hg2 : wa.heap.size = gM at hbM hlt1 hle2 ⊢
      have hne : gL ≠ gM := Nat.ne_of_lt hlt1
      refine hK.out _ _ (fun _ => hS0) ?_
      clear hK K
      try simp only [Act.put, Array.toArray_toList, List.setIfInBounds_toArray, List.set_cons_zero, List.set_cons_succ]
      refine anyM_free (i := 5) (oi := { dst := some 13, op := _, type := _, pos := _, after := _, guard := _ }) (v := ?_) rfl (by kernel_rfl) (fun _ _ _ h => h) (Or.inl ⟨by kernel_rfl, ?_⟩) (fun _ => hS0) ?_
      rotate_left 1
      · (intro w hSw; (try dsimp only at hSw); go_simp; try with_reducible rfl)
      try simp only [Act.put, Array.toArray_toList, List.setIfInBounds_toArray, List.set_cons_zero, List.set_cons_succ]
      refine anyM_done (by kernel_rfl) ?_ _
      refine NoPanic.normal ?_
      clear hg1 hg2
      have HMT := Lib.hid (show MadeLM w n ls ms (.slice (some ⟨gL, 0, none⟩) n n) (.slice (some ⟨gM, 0, none⟩) n n) wb from ⟨gL, gM, rfl, rfl, hne, (hbL.lt _ rfl).1, (hbM.lt _ rfl).1, by rw [upK_start]; exact hbL, by rw [upK_start]; exact hbM, hbel⟩)
      simp only [Act.put, List.getElem_toArray, List.getElem_cons_succ, List.getElem_cons_zero, Array.toArray_toList, List.setIfInBounds_toArray, List.set_cons_zero, List.set_cons_succ]
      go_wp2_with fail
      go_meet
      case rel => exact HMT.out
    · skip
      refine step_mk rfl (.tmp 27) (.tmp 27) 64 rfl w.heap.size 3 i0 (.int .i64 0) 1 Try.underlying64 hi hz0 hz1 .i64 .i64 _ _ n rfl rfl rfl rfl (by rw [hz2]; omega) (by unfold maxLen; omega) (Nat.le_refl _) ?_
      intro wa haM hga
      have hba := below_made hb0 hga
      have hlt1 := (haM.lt _ rfl).2
      have hle1 : w.heap.size ≤ w.drew.heap.size := Nat.le_refl _
      generalize hg1 : w.drew.heap.size = gM at haM hlt1 hle1 ⊢
      refine hK.out _ _ (fun _ => hS0) ?_
      clear hK K
      try simp only [Act.put, Array.toArray_toList, List.setIfInBounds_toArray, List.set_cons_zero, List.set_cons_succ]
      refine anyM_one (i := 1) (by kernel_rfl) rfl (fun K hK => ?_)
      refine step_mk rfl (.tmp 25) (.tmp 25) 64 rfl wa.heap.size 3 i0 (.int .i64 0) 1 Try.underlying64 hi hz0 hz1 .i64 .i64 _ _ n rfl rfl rfl rfl (by rw [hz2]; omega) (by unfold maxLen; omega) (Nat.le_refl _) ?_
      intro wb hbL hgb
      have hbb := below_made (Below.refl _ wa) hgb
      have hbM := own_below haM hbb
      have hbel := below_then hba hbb
      have hle2 := hba.size
      have hbL := own_low hbL hle2
      generalize hg2 : wa.heap.size = gL at hbL hlt1 hle2 ⊢
      have hne : gM ≠ gL := Nat.ne_of_lt hlt1
      refine hK.out _ _ (fun _ => hS0) ?_
      clear hK K
      try simp only [Act.put, Array.toArray_toList, List.setIfInBounds_toArray, List.set_cons_zero, List.set_cons_succ]
      refine anyM_free (i := 4) (oi := { dst := some 12, op := _, type := _, pos := _, after := _, guard := _ }) (v := ?_) rfl (by kernel_rfl) (fun _ _ _ h => h) (Or.inl ⟨by kernel_rfl, ?_⟩) (fun _ => hS0) ?_
      rotate_left 1
      · (intro w hSw; (try dsimp only at hSw); go_simp; try with_reducible rfl)
      try simp only [Act.put, Array.toArray_toList, List.setIfInBounds_toArray, List.set_cons_zero, List.set_cons_succ]
      refine anyM_free (i := 5) (oi := { dst := some 13, op := _, type := _, pos := _, after := _, guard := _ }) (v := ?_) rfl (by kernel_rfl) (fun _ _ _ h => h) (Or.inl ⟨by kernel_rfl, ?_⟩) (fun _ => hS0) ?_
      rotate_left 1
      · (intro w hSw; (try dsimp only at hSw); go_simp; try with_reducible rfl)
      try simp only [Act.put, Array.toArray_toList, List.setIfInBounds_toArray, List.set_cons_zero, List.set_cons_succ]
      refine anyM_done (by kernel_rfl) ?_ _
      refine NoPanic.normal ?_
      clear hg1 hg2
      have HMT := Lib.hid (show MadeLM w n ls ms (.slice (some ⟨gL, 0, none⟩) n n) (.slice (some ⟨gM, 0, none⟩) n n) wb from ⟨gL, gM, rfl, rfl, fun e => hne e.symm, (hbL.lt _ rfl).1, (hbM.lt _ rfl).1, by rw [upK_start]; exact hbL, by rw [upK_start]; exact hbM, hbel⟩)
      simp only [Act.put, List.getElem_toArray, List.getElem_cons_succ, List.getElem_cons_zero, Array.toArray_toList, List.setIfInBounds_toArray, List.set_cons_zero, List.set_cons_succ]
      go_wp2_with fail
      go_meet
      case rel => exact HMT.out
  case rest =>
    obtain ⟨gL, gM, rfl, rfl, hne, hgL, hgM, hL, hM, hbel⟩ := hcut
    have HNE := Lib.hid hne
    have HGL := Lib.hid hgL
    have HGM := Lib.hid hgM
    have HL0 := Lib.hid hL
    have HM0 := Lib.hid hM
    have HB0 := Lib.hid hbel
    clear hne hgL hgM hL hM hbel hb0 hmn hS0
    go_wp2_with fail
    go_loopw [30] (fun i wr => ∃ k : Nat, k ≤ n ∧ i = .int .i64 k ∧ wr.ownsRow w.heap.size 3 1 (.slice (some ⟨gL, 0, none⟩) n n) n (ints (upT n (tLow ls) k)) ∧ wr.ownsRow w.heap.size 3 1 (.slice (some ⟨gM, 0, none⟩) n n) n (ints (upT n (tMore ls ms) k)) ∧ Below w.heap.size w wr) (fun i _ => n - (intOf i).toNat)
    case atStart => exact ⟨0, Nat.zero_le _, rfl, HL0.out, HM0.out, HB0.out⟩
    case round =>
      obtain ⟨k, hk, rfl, hL, hM, hbel⟩ := hrel
      by_cases hlt : k < n
      · have hk1 : k < n1 := by omega
        have hk2 : k < n2 := by omega
        obtain ⟨b, off, rfl, hb, hc⟩ := (H.out.below hbel hB).ints (k := k) (by rw [HL.out]; exact hk1)
        obtain ⟨b2, off2, rfl, hb2, hc2⟩ := (H'.out.below hbel hB).ints (k := k) (by rw [HL2.out]; exact hk2)
        have cL : wr.cell? ⟨gL, k, none⟩ = some (.int .i64 0) := (hL.cellAt k (by omega)).trans (by rw [upT_at _ _ _ _ hlt, if_neg (by omega)])
        have cM : wr.cell? ⟨gM, k, none⟩ = some (.int .i64 0) := (hM.cellAt k (by omega)).trans (by rw [upT_at _ _ _ _ hlt, if_neg (by omega)])
        have zL : wr.frozen? ⟨gL, k, none⟩ = false := own_free hL
        have zM : wr.frozen? ⟨gM, k, none⟩ = false := own_free hM
        have HLS : Hid (tLow ls k = max 0 (cut (ls.getD k 0))) := rfl
        have HMS : Hid (tMore ls ms k = max 0 (cut (ms.getD k 0) - tLow ls k)) := rfl
        have HUL := Lib.hid (upT_set n k (tLow ls) hlt)
        have HUM := Lib.hid (upT_set n k (tMore ls ms) hlt)
        obtain ⟨x, hx⟩ : ∃ x, x = ls.getD k 0 := ⟨_, rfl⟩
        obtain ⟨y, hy⟩ : ∃ y, y = ms.getD k 0 := ⟨_, rfl⟩
        obtain ⟨lv, hlv⟩ : ∃ z, z = tLow ls k := ⟨_, rfl⟩
        obtain ⟨mv, hmv⟩ : ∃ z, z = tMore ls ms k := ⟨_, rfl⟩
        rw [← hx] at hc HLS
        rw [← hy] at hc2 HMS
        rw [← hlv] at HLS HMS HUL
        rw [← hmv] at HMS HUM
        have hlb : 0 ≤ lv ∧ lv ≤ 16777216 := by rw [hlv]; exact tLow_bd ls k
        have hyl := cut_lo y
        have hyh := cut_hi y
        obtain ⟨cx, hcx⟩ : ∃ z, z = cut x := ⟨_, rfl⟩
        obtain ⟨cy, hcy⟩ : ∃ z, z = cut y := ⟨_, rfl⟩
        have HCX := Lib.hid (fun w => cut_calls x w)
        have HCY := Lib.hid (fun w => cut_calls y w)
        rw [← hcx] at HCX HLS
        rw [← hcy] at HCY HMS hyl hyh
        have hle : max 0 cx = lv := HLS.out.symm
        have hme : max 0 (cy - lv) = mv := HMS.out.symm
        have hwe : IntKind.i64.wrap (cy - lv) = cy - lv := IntWalk.i64_in _ (by omega)
        have QQ := Lib.hid (show k ≤ n ∧ k < n from ⟨hk, hlt⟩)
        have HLk := Lib.hid hL
        have HMk := Lib.hid hM
        have HBk := Lib.hid hbel
        have hbne : b ≠ gL := by have := HGL.out; omega
        have hb2L : b2 ≠ gL := by have := HGL.out; omega
        have hMn : gM ≠ gL := fun e => HNE.out e.symm
        have c2' : (wr.setCell ⟨gL, k, none⟩ (.int .i64 lv)).cell? ⟨b2, off2 + k, none⟩ = some (.int .i64 y) := (World.cell?_setCell_other _ _ _ _ (by intro e; injection e with e1; exact hb2L e1.symm)).trans hc2
        have cL' : (wr.setCell ⟨gL, k, none⟩ (.int .i64 lv)).cell? ⟨gL, k, none⟩ = some (.int .i64 lv) := own_cell (own_set hL) (by rw [List.getElem?_set_self (by rw [hL.1]; omega)])
        have cM' : (wr.setCell ⟨gL, k, none⟩ (.int .i64 lv)).cell? ⟨gM, k, none⟩ = some (.int .i64 0) := (World.cell?_setCell_other _ _ _ _ (by intro e; injection e with e1; exact hMn e1.symm)).trans cM
        have zM' : (wr.setCell ⟨gL, k, none⟩ (.int .i64 lv)).frozen? ⟨gM, k, none⟩ = false := by rw [World.frozen?_setCell]; exact zM
        have hL2 := own_set (j := k) (u := .int .i64 lv) hL
        rw [HUL.out] at hL2
        have hM2 := own_setFar (b := gL) (j := k) (u := .int .i64 lv) hM (by simp [Value.ownBlock]; exact hMn)
        have hL3 := own_setFar (b := gM) (j := k) (u := .int .i64 mv) hL2 (by simp [Value.ownBlock]; exact HNE.out)
        have hM3 := own_set (j := k) (u := .int .i64 mv) hM2
        rw [HUM.out] at hM3
        have hb3 := below_set (below_set hbel (b := gL) (off := k) HGL.out (.int .i64 lv)) (b := gM) (off := k) HGM.out (.int .i64 mv)
        have HL3 := Lib.hid hL3
        have HM3 := Lib.hid hM3
        have HB3 := Lib.hid hb3
        have HHY := Lib.hid hme
        clear hL hM hbel hL2 hM2 hL3 hM3 hb3 hx hy hlv hmv hcx hcy hk hMn cM zM hc2 hme
        go_upto_region 7 with (go_at_call 84; refine (HCX.out _).mono ?_; rintro e w' ⟨rfl, rfl⟩)
        have cS := own_cell HL3.out (upT_at n (k + 1) k (tLow ls) hlt)
        have hS0 : (fun w' : World => w'.cell? ⟨b2, off2 + k, none⟩ = some (.int .i64 y) ∧ w'.cell? ⟨gL, k, none⟩ = some (.int .i64 lv)) (wr.setCell ⟨gL, k, none⟩ (.int .i64 lv)).drew := ⟨c2', cL'⟩
        clear cS hc cL zL
        go_wp2_with fail
        refine wp_region_noPanic ?_
        refine region_M (S := fun w' => w'.cell? ⟨b2, off2 + k, none⟩ = some (.int .i64 y) ∧ w'.cell? ⟨gL, k, none⟩ = some (.int .i64 lv)) (T := [14]) (by kernel_rfl) ?_
        refine anyM_free (i := 0) (oi := { dst := some 42, op := _, type := _, pos := _, after := _, guard := _ }) (v := ?_) rfl (by kernel_rfl) (fun _ _ _ h => h) (Or.inl ⟨by kernel_rfl, ?_⟩) (fun _ => hS0) ?_
        rotate_left 1
        · (intro w hSw; (try dsimp only at hSw); go_simp; try with_reducible rfl)
        try simp only [Act.put, Array.toArray_toList, List.setIfInBounds_toArray, List.set_cons_zero, List.set_cons_succ]
        refine anyM_free (i := 1) (oi := { dst := some 43, op := _, type := _, pos := _, after := _, guard := _ }) (v := ?_) rfl (by kernel_rfl) (fun _ _ _ h => h) (Or.inl ⟨by kernel_rfl, ?_⟩) (fun _ => hS0) ?_
        rotate_left 1
        · (intro w hSw; (try dsimp only at hSw); go_simp; try with_reducible rfl)
        try simp only [Act.put, Array.toArray_toList, List.setIfInBounds_toArray, List.set_cons_zero, List.set_cons_succ]
        refine anyM_free (i := 2) (oi := { dst := some 44, op := _, type := _, pos := _, after := _, guard := _ }) (v := ?_) rfl (by kernel_rfl) (fun _ _ _ h => h) (Or.inl ⟨by kernel_rfl, ?_⟩) (fun _ => hS0) ?_
        rotate_left 1
        · (intro w hSw; (try dsimp only at hSw); go_simp; try with_reducible rfl)
        try simp only [Act.put, Array.toArray_toList, List.setIfInBounds_toArray, List.set_cons_zero, List.set_cons_succ]
        refine anyM_free (i := 3) (oi := { dst := some 45, op := _, type := _, pos := _, after := _, guard := _ }) (v := ?_) rfl (by kernel_rfl) (fun _ _ _ h => h) (Or.inl ⟨by kernel_rfl, ?_⟩) (fun _ => hS0) ?_
        rotate_left 1
        · (intro w hSw; (try dsimp only at hSw); go_simp; try with_reducible rfl)
        try simp only [Act.put, Array.toArray_toList, List.setIfInBounds_toArray, List.set_cons_zero, List.set_cons_succ]
        refine anyM_free (i := 4) (oi := { dst := some 46, op := _, type := _, pos := _, after := _, guard := _ }) (v := ?_) rfl (by kernel_rfl) (fun _ _ _ h => h) (Or.inl ⟨by kernel_rfl, ?_⟩) (fun _ => hS0) ?_
        rotate_left 1
        · (intro w hSw; (try dsimp only at hSw); go_simp; try with_reducible rfl)
        try simp only [Act.put, Array.toArray_toList, List.setIfInBounds_toArray, List.set_cons_zero, List.set_cons_succ]
        refine anyM_take (i := 5) (oi := { dst := some 47, op := _, type := _, pos := _, after := _, guard := _ }) (v := ?_) rfl (by kernel_rfl) (fun _ _ _ h => h) (Or.inl ⟨by kernel_rfl, ?_⟩) hS0 ?_
        rotate_left 1
        · (intro w hSw; (try dsimp only at hSw); go_simp; try with_reducible rfl)
        try simp only [Act.put, Array.toArray_toList, List.setIfInBounds_toArray, List.set_cons_zero, List.set_cons_succ]
        refine anyM_free (i := 7) (oi := { dst := some 49, op := _, type := _, pos := _, after := _, guard := _ }) (v := ?_) rfl (by kernel_rfl) (fun _ _ _ h => h) (Or.inl ⟨by kernel_rfl, ?_⟩) (fun _ => hS0) ?_
        rotate_left 1
        · (intro w hSw; (try dsimp only at hSw); go_simp; try with_reducible rfl)
        try simp only [Act.put, Array.toArray_toList, List.setIfInBounds_toArray, List.set_cons_zero, List.set_cons_succ]
        refine anyM_free (i := 8) (oi := { dst := some 50, op := _, type := _, pos := _, after := _, guard := _ }) (v := ?_) rfl (by kernel_rfl) (fun _ _ _ h => h) (Or.inl ⟨by kernel_rfl, ?_⟩) (fun _ => hS0) ?_
        rotate_left 1
        · (intro w hSw; (try dsimp only at hSw); go_simp; try with_reducible rfl)
        try simp only [Act.put, Array.toArray_toList, List.setIfInBounds_toArray, List.set_cons_zero, List.set_cons_succ]
        refine anyM_free (i := 9) (oi := { dst := some 51, op := _, type := _, pos := _, after := _, guard := _ }) (v := ?_) rfl (by kernel_rfl) (fun _ _ _ h => h) (Or.inl ⟨by kernel_rfl, ?_⟩) (fun _ => hS0) ?_
        rotate_left 1
        · (intro w hSw; (try dsimp only at hSw); go_simp; try with_reducible rfl)
        try simp only [Act.put, Array.toArray_toList, List.setIfInBounds_toArray, List.set_cons_zero, List.set_cons_succ]
        refine anyM_take (i := 10) (oi := { dst := some 52, op := _, type := _, pos := _, after := _, guard := _ }) (v := ?_) rfl (by kernel_rfl) (fun _ _ _ h => h) (Or.inl ⟨by kernel_rfl, ?_⟩) hS0 ?_
        rotate_left 1
        · (intro w hSw; (try dsimp only at hSw); go_simp; try with_reducible rfl)
        try simp only [Act.put, Array.toArray_toList, List.setIfInBounds_toArray, List.set_cons_zero, List.set_cons_succ]
        refine anyM_one (i := 6) (by kernel_rfl) rfl (fun K hK => ?_)
        go_simp
        refine (HCY.out _).mono ?_
        rintro e' w' ⟨rfl, rfl⟩
        refine hK.out _ _ (fun _ => hS0) ?_
        clear hK K
        try simp only [Act.put, Array.toArray_toList, List.setIfInBounds_toArray, List.set_cons_zero, List.set_cons_succ]
        refine anyM_free (i := 11) (oi := { dst := some 53, op := _, type := _, pos := _, after := _, guard := _ }) (v := ?_) rfl (by kernel_rfl) (fun _ _ _ h => h) (Or.inl ⟨by kernel_rfl, ?_⟩) (fun _ => hS0) ?_
        rotate_left 1
        · (intro w hSw; (try dsimp only at hSw); go_simp; try with_reducible rfl)
        try simp only [Act.put, Array.toArray_toList, List.setIfInBounds_toArray, List.set_cons_zero, List.set_cons_succ]
        refine anyM_free (i := 12) (oi := { dst := some 54, op := _, type := _, pos := _, after := _, guard := _ }) (v := ?_) rfl (by kernel_rfl) (fun _ _ _ h => h) (Or.inl ⟨by kernel_rfl, ?_⟩) (fun _ => hS0) ?_
        rotate_left 1
        · (intro w hSw; (try dsimp only at hSw); go_simp; try with_reducible rfl)
        try simp only [Act.put, Array.toArray_toList, List.setIfInBounds_toArray, List.set_cons_zero, List.set_cons_succ]
        refine anyM_free (i := 13) (oi := { dst := some 55, op := _, type := _, pos := _, after := _, guard := _ }) (v := ?_) rfl (by kernel_rfl) (fun _ _ _ h => h) (Or.inl ⟨by kernel_rfl, ?_⟩) (fun _ => hS0) ?_
        rotate_left 1
        · (intro w hSw; (try dsimp only at hSw); go_simp; try with_reducible rfl)
        try simp only [Act.put, Array.toArray_toList, List.setIfInBounds_toArray, List.set_cons_zero, List.set_cons_succ]
        refine anyM_one (i := 14) (by kernel_rfl) rfl (fun K hK => ?_)
        go_simp
        refine hK.out _ _ (fun h => late_no h (by kernel_rfl)) ?_
        clear hK K
        try simp only [Act.put, Array.toArray_toList, List.setIfInBounds_toArray, List.set_cons_zero, List.set_cons_succ]
        refine anyM_done (by kernel_rfl) ?_ _
        refine NoPanic.normal ?_
        rw [HHY.out]
        go_wp2_with fail
        go_roundw
        case rel => exact ⟨k + 1, by have := QQ.out; omega, by go_num, HL3.out, HM3.out, HB3.out.drew⟩
        case measure => have := QQ.out; simp [intOf]; omega
      · obtain rfl : k = n := by omega
        rw [upT_all] at hL hM
        have HL3 := Lib.hid hL
        have HM3 := Lib.hid hM
        have HB3 := Lib.hid hbel
        clear hL hM hbel HL0 HM0 HB0
        obtain ⟨wo, rfl⟩ : ∃ wo : World, wo = wr := ⟨_, rfl⟩
        have hfb := tFree_bd room spacing k hnm
        have hmb := tMul_bd spacing k hnm
        have HFR : Hid (tFree room spacing k = max 0 (cut room - max 0 (cut spacing) * ((k : Int) + 1))) := rfl
        obtain ⟨P, hP⟩ : ∃ P, P = max 0 (cut spacing) * ((k : Int) + 1) := ⟨_, rfl⟩
        have hc1 := cut_lo room
        have hc2 := cut_hi room
        have hc3 := cut_hi spacing
        rw [← hP] at hmb HFR
        have HWL := Lib.hid (fun h => wid_low (room := room) (spacing := spacing) (least := ls) (most := ms) (n := k) h)
        have HWS := Lib.hid (fun h => wid_share (room := room) (spacing := spacing) (least := ls) (most := ms) (n := k) h)
        have HWF := Lib.hid (wid_fixed room spacing ls ms k)
        obtain ⟨fr, hfr⟩ : ∃ z, z = tFree room spacing k := ⟨_, rfl⟩
        rw [← hfr] at HWL HWS HWF HFR hfb
        have m1 : IntKind.i64.wrap (max 0 (cut spacing) * ((k : Int) + 1)) = P := by rw [← hP]; exact IntWalk.i64_in _ (by omega)
        have m2 : wrap64 (max 0 (cut spacing) * ((k : Int) + 1)) = P := by rw [← hP]; exact IntWalk.wrap64_in _ (by omega)
        clear hP hfr
        have hfr' : max 0 (cut room - P) = fr := HFR.out.symm
        have hwz : w.heap.size ≤ wo.heap.size := HB3.out.size
        have hgl := HL3.out.lt _ rfl
        have HLT := Lib.hid hgl
        clear hgl
        cases fixed
        · have hsl := sumTo_le (tLow ls) k (tLow_bd ls)
          have hsm := sumTo_le (tMore ls ms) k (tMore_bd ls ms)
          have HSL := Lib.hid (sum_calls (some ⟨gL, 0, none⟩) k k _ (tLow ls) wo (Holds.of_own HL3.out) (tLow_bd ls) hnm)
          have HSM := Lib.hid (sum_calls (some ⟨gM, 0, none⟩) k k _ (tMore ls ms) wo (Holds.of_own HM3.out) (tMore_bd ls ms) hnm)
          obtain ⟨sl, hsle⟩ : ∃ x, x = sumTo (tLow ls) k := ⟨_, rfl⟩
          obtain ⟨sm, hsme⟩ : ∃ x, x = sumTo (tMore ls ms) k := ⟨_, rfl⟩
          rw [← hsle] at hsl HSL HWL HWS
          rw [← hsme] at hsm HSM HWS
          clear hsle hsme
          go_upto_if 113 with (first | (go_at_call 84; refine (cut_calls _ _).mono ?_; rintro e w' ⟨rfl, rfl⟩) | (go_at_call 87; refine HSL.out.mono ?_; rintro e w' ⟨rfl, rfl⟩))
          clear m1 m2 hmb hc1 hc2 hc3 hfr'
          by_cases hlow : fr ≤ sl
          · have HR := Lib.hid (HWL.out hlow)
            go_wp2_with fail
            go_ret
            exact ⟨_, rfl, by rw [HR.out]; exact HL3.out, HB3.out⟩
          · have HR := Lib.hid (HWS.out (by omega))
            have HSH := Lib.hid (share_own (min (fr - sl) sm) (some ⟨gM, 0, none⟩) k k _ (fnL k (tMore ls ms)) wo (fnL_len _ _) (Holds.of_own HM3.out) (Nat.le_refl _) (by omega))
            have md : IntKind.i64.wrap (fr - sl) = fr - sl := IntWalk.i64_in _ (by omega)
            obtain ⟨sh, hsh⟩ : ∃ x, x = share (min (fr - sl) sm) (fnL k (tMore ls ms)) := ⟨_, rfl⟩
            have hshl : sh.length = k := by rw [hsh, share_length, fnL_len]
            have hsb : ∀ i, -562949953421312000 ≤ sh.getD i 0 ∧ sh.getD i 0 ≤ 562949953421312000 := fun i => by rw [hsh]; exact share_getD _ _ i
            rw [← hsh] at HSH HR
            have HSL2 := Lib.hid hshl
            have HSB := Lib.hid hsb
            clear hsh hshl hsb
            go_wp2_with (first | (go_at_call 87; ((with_reducible refine HSL.out.mono ?_); rintro e w' ⟨rfl, rfl⟩)) | (go_at_call 87; ((with_reducible refine HSM.out.mono ?_); rintro e w' ⟨rfl, rfl⟩)) | (go_at_call 85; refine HSH.out.mono ?_; rintro e w4 ⟨g4, rfl, ho4, hb4⟩))
            have hL4 := own_below HL3.out hb4
            have hbw4 := below_then HB3.out hb4
            have hg4 := (ho4.lt _ rfl).1
            have HG4 := Lib.hid (show gL < g4 from Nat.lt_of_lt_of_le HLT.out.2 hg4)
            have HS4 := Lib.hid ho4
            have HL4 := Lib.hid hL4
            have HB4 := Lib.hid hbw4
            clear ho4 hb4 hL4 hbw4 hg4 hwz hfb md hsl hsm hlow HSL HSM HSH
            go_loopw [77] (fun i wr => ∃ j : Nat, j ≤ k ∧ i = .int .i64 j ∧ wr.ownsRow w.heap.size 3 1 (.slice (some ⟨gL, 0, none⟩) k k) k (ints (turT k (tLow ls) (fun i => tLow ls i + sh.getD i 0) j)) ∧ wr.ownsRow wo.heap.size 3 1 (.slice (some ⟨g4, 0, none⟩) k k) k (ints sh) ∧ Below w.heap.size w wr) (fun i _ => k - (intOf i).toNat)
            case atStart => exact ⟨0, Nat.zero_le _, rfl, by rw [turT_zero]; exact HL4.out, HS4.out, HB4.out⟩
            case round =>
              obtain ⟨j, hj, rfl, hL, hS, hbel⟩ := hrel
              by_cases hlt2 : j < k
              · have cL : wr.cell? ⟨gL, j, none⟩ = some (.int .i64 (tLow ls j)) := (hL.cellAt j (by omega)).trans (by rw [turT_at _ _ _ _ _ hlt2, if_neg (by omega)])
                have zL : wr.frozen? ⟨gL, j, none⟩ = false := own_free hL
                have cS : wr.cell? ⟨g4, j, none⟩ = some (.int .i64 (sh.getD j 0)) := (hS.cellAt j (by omega)).trans (ints_get _ _ (by rw [HSL2.out]; exact hlt2))
                have HST := Lib.hid (turT_set k j (tLow ls) (fun i => tLow ls i + sh.getD i 0) hlt2)
                have hb1 := tLow_bd ls j
                have hb2 := HSB.out j
                obtain ⟨lv, hlv⟩ : ∃ z, z = tLow ls j := ⟨_, rfl⟩
                obtain ⟨sv, hsv⟩ : ∃ z, z = sh.getD j 0 := ⟨_, rfl⟩
                rw [← hlv] at cL hb1
                rw [← hsv] at cS hb2
                simp only [← hlv, ← hsv] at HST
                have hL2 := own_set (j := j) (u := .int .i64 (lv + sv)) hL
                rw [HST.out] at hL2
                have hS2 := own_setFar (b := gL) (j := j) (u := .int .i64 (lv + sv)) hS (by simp [Value.ownBlock]; have := HG4.out; omega)
                have HL5 := Lib.hid hL2
                have HS5 := Lib.hid hS2
                have HB5 := Lib.hid (below_set hbel (b := gL) (off := j) HGL.out (.int .i64 (lv + sv)))
                have QQ := Lib.hid (show j ≤ k ∧ j < k from ⟨hj, hlt2⟩)
                clear hL hS hbel hL2 hS2 hlv hsv
                go_wp2_with fail
                go_roundw
                case rel => exact ⟨j + 1, by have := QQ.out; omega, by go_num, HL5.out, HS5.out, HB5.out⟩
                case measure => have := QQ.out; simp [intOf]; omega
              · obtain rfl : k = j := by omega
                rw [turT_all] at hL
                have HL5 := Lib.hid hL
                have HB5 := Lib.hid hbel
                clear hL hS hbel
                go_wp2_with fail
                go_ret
                exact ⟨_, rfl, by rw [HR.out]; exact HL5.out, HB5.out⟩
        · go_wp2_with (first | (go_at_call 84; refine (cut_calls _ _).mono ?_; rintro e w' ⟨rfl, rfl⟩) | (go_at_call 86; refine (repeat_calls k _ _ hnm (Blk.new _ _ _)).mono ?_; rintro e w3 ⟨g3, rfl, ho3, hb3⟩) | (go_at_call 85; refine (share_own fr _ k k _ (onesL k) _ (ones_len k) (Holds.of_own ho3) (Nat.le_refl _) (by omega)).mono ?_; rintro e w4 ⟨g4, rfl, ho4, hb4⟩))
          have hbA := below_then (below_alloc (Below.refl _ wo) (.cells #[.int .i64 1] 3)) hb3
          have hL4 := own_below (own_below HL3.out hbA) hb4
          have hbw4 := below_then (below_then HB3.out hbA) hb4
          have hsz := hbA.size
          have hg4 := (ho4.lt _ rfl).1
          have HG4 := Lib.hid (show gL < g4 from Nat.lt_of_lt_of_le HLT.out.2 (Nat.le_trans hsz hg4))
          have HS4 := Lib.hid ho4
          have HL4 := Lib.hid hL4
          have HB4 := Lib.hid hbw4
          obtain ⟨sh, hsh⟩ : ∃ x, x = share fr (onesL k) := ⟨_, rfl⟩
          have hshl : sh.length = k := by rw [hsh, share_length, ones_len]
          rw [← hsh] at HS4 HWF
          have HSL := Lib.hid hshl
          clear ho3 ho4 hb3 hb4 hbA hL4 hbw4 hg4 hsz hsh hshl hwz m1 m2 hmb hc1 hc2 hc3 hfr' hfb
          obtain ⟨w5, hw5⟩ : ∃ x, x = w3.heap.size := ⟨_, rfl⟩
          rw [← hw5] at HS4
          clear hw5
          go_loopw [98] (fun i wr => ∃ j : Nat, j ≤ k ∧ i = .int .i64 j ∧ wr.ownsRow w.heap.size 3 1 (.slice (some ⟨gL, 0, none⟩) k k) k (ints (turT k (tLow ls) (fun i => max (tLow ls i) (sh.getD i 0)) j)) ∧ wr.ownsRow w5 3 1 (.slice (some ⟨g4, 0, none⟩) k k) k (ints sh) ∧ Below w.heap.size w wr) (fun i _ => k - (intOf i).toNat)
          case atStart => exact ⟨0, Nat.zero_le _, rfl, by rw [turT_zero]; exact HL4.out, HS4.out, HB4.out⟩
          case round =>
            obtain ⟨j, hj, rfl, hL, hS, hbel⟩ := hrel
            by_cases hlt2 : j < k
            · have cL : wr.cell? ⟨gL, j, none⟩ = some (.int .i64 (tLow ls j)) := (hL.cellAt j (by omega)).trans (by rw [turT_at _ _ _ _ _ hlt2, if_neg (by omega)])
              have zL : wr.frozen? ⟨gL, j, none⟩ = false := own_free hL
              have cS : wr.cell? ⟨g4, j, none⟩ = some (.int .i64 (sh.getD j 0)) := (hS.cellAt j (by omega)).trans (ints_get _ _ (by rw [HSL.out]; exact hlt2))
              have HST := Lib.hid (turT_set k j (tLow ls) (fun i => max (tLow ls i) (sh.getD i 0)) hlt2)
              obtain ⟨lv, hlv⟩ : ∃ z, z = tLow ls j := ⟨_, rfl⟩
              obtain ⟨sv, hsv⟩ : ∃ z, z = sh.getD j 0 := ⟨_, rfl⟩
              rw [← hlv] at cL
              rw [← hsv] at cS
              simp only [← hlv, ← hsv] at HST
              have hL2 := own_set (j := j) (u := .int .i64 (max lv sv)) hL
              rw [HST.out] at hL2
              have hS2 := own_setFar (b := gL) (j := j) (u := .int .i64 (max lv sv)) hS (by simp [Value.ownBlock]; have := HG4.out; omega)
              have HL5 := Lib.hid hL2
              have HS5 := Lib.hid hS2
              have HB5 := Lib.hid (below_set hbel (b := gL) (off := j) HGL.out (.int .i64 (max lv sv)))
              have QQ := Lib.hid (show j ≤ k ∧ j < k from ⟨hj, hlt2⟩)
              clear hL hS hbel hL2 hS2 hlv hsv
              go_wp2_with fail
              go_roundw
              case rel => exact ⟨j + 1, by have := QQ.out; omega, by go_num, HL5.out, HS5.out, HB5.out⟩
              case measure => have := QQ.out; simp [intOf]; omega
            · obtain rfl : k = j := by omega
              rw [turT_all] at hL
              have HL5 := Lib.hid hL
              have HB5 := Lib.hid hbel
              clear hL hS hbel
              go_wp2_with fail
              go_ret
              exact ⟨_, rfl, by rw [HWF.out]; exact HL5.out, HB5.out⟩
end Go.Proofs.Ytkppignoomnmdaa
