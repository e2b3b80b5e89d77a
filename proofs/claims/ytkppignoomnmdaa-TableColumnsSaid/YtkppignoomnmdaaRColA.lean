/- Contracts of the reference's Copy at numbers, and of the closures of its Columns. -/
import Derived.Test.YtkppignoomnmdaaColA
namespace Go.Proofs.Ytkppignoomnmdaa
open Go.RowKit
set_option linter.unusedVariables false
set_option linter.unusedSimpArgs false
attribute [local go_sem high] run_min2 run_max2

set_option maxRecDepth 100000 in
set_option maxHeartbeats 1000000 in
theorem rcopyInt_calls (zs : List Int) (n c B : Nat) (a : Addr) (w : World) (hn : zs.length = n) (h : Holds w B (some a) (ints zs)) (hB : B ≤ w.heap.size) (h0 : 0 < n) (hm : n ≤ 1000) :
    Calls Try.prog 82 #[.slice (some a) n c] w fun e w' => ∃ g c', e = .returned (.slice (some ⟨g, 0, none⟩) n c') ∧ w'.ownsRow w.heap.size 3 1 (.slice (some ⟨g, 0, none⟩) n c') n (ints zs) ∧ Below w.heap.size w w' := by
  obtain ⟨i0, hi, hz0, hz1, hz2⟩ := info_parts info_int
  obtain ⟨b, off, ha, hb, hc⟩ := h (by rw [ints_len]; omega)
  injection ha with ha
  subst ha
  have hcl : ∀ j u, (ints zs)[j]? = some u → w.cell? ((⟨b, off, none⟩ : Addr).add j) = some u := fun j u hj => by
    have hjl : j < (ints zs).length := by
      rcases Nat.lt_or_ge j (ints zs).length with h1 | h1
      · exact h1
      · rw [List.getElem?_eq_none h1] at hj; cases hj
    have e : (⟨b, off, none⟩ : Addr).add j = ⟨b, off + j, none⟩ := by unfold Addr.add; split <;> simp_all
    rw [e, hc j hjl]
    simp [List.getD, hj]
  have HCL := Lib.hid hcl
  have HN := Lib.hid hn
  clear hcl hn h hc
  go_enter Try.func82, Try.ntmps82
  go_wp2_with (at_builtin; refine wpList_append_lies rfl _ _ 64 rfl w.heap.size 3 i0 (.int .i64 0) 1 8 Try.underlying64 hi hz0 hz1 hz2 rfl (by decide) _ 0 [] rfl (World.ownsRow_nil _ _ _ _) ⟨b, off, none⟩ n c (ints zs) rfl (by rw [ints_len, HN.out]; omega) HCL.out (fun u hu => by simp [ints] at hu; obtain ⟨z, _, rfl⟩ := hu; rfl) h0 (by unfold maxLen; omega) (by omega) (Nat.le_refl _) _ rfl ?_; intro g cap w1 o1 hg1 hat1 hlt1)
  have hbel := below_grownA (Below.refl _ w) (World.ownsRow_nil w w.heap.size 3 1) hg1
  rw [Nat.zero_add, List.nil_append] at o1
  have HO := Lib.hid o1
  clear o1 hg1 hat1
  go_ret
  exact ⟨g, cap, rfl, HO.out, hbel⟩
set_option maxHeartbeats 400000 in
theorem rtotal_calls (A : Option Addr) (n c B : Nat) (f : Nat → Int) (w : World) (h : Holds w B A (ints (fnL n f))) (hf : ∀ i, 0 ≤ f i ∧ f i ≤ 16777216) (hm : n ≤ 1000) :
    Calls Try.prog 80 #[.slice A n c] w fun e w' => e = .returned (.int .i64 (sumTo f n)) ∧ w = w' := by
  have hl := fnL_len n f
  have HL := Lib.hid hl
  have HF := Lib.hid hf
  have H := Lib.hid h
  clear h hf hl
  go_enter Try.func80, Try.ntmps80
  go_wp2_with fail
  go_loop [3, 8] (fun s i => ∃ k : Nat, k ≤ n ∧ i = .int .i64 k ∧ s = .int .i64 (sumTo f k)) (fun _ i => n - (intOf i).toNat)
  case atStart => exact ⟨0, Nat.zero_le _, rfl, rfl⟩
  case round =>
    obtain ⟨k, hk, rfl, rfl⟩ := hrel
    by_cases hlt : k < n
    · obtain ⟨b, off, rfl, hb, hc⟩ := H.out.ints (k := k) (by rw [HL.out]; exact hlt)
      rw [fnL_getD n f k hlt] at hc
      have hb1 := HF.out k
      have hb2 := sumTo_le f k HF.out
      have HS := Lib.hid (show sumTo f (k + 1) = sumTo f k + f k from rfl)
      obtain ⟨z, hz⟩ : ∃ z, z = f k := ⟨_, rfl⟩
      obtain ⟨p, hp⟩ : ∃ p, p = sumTo f k := ⟨_, rfl⟩
      rw [← hz] at hc hb1 HS
      rw [← hp] at hb2 HS ⊢
      clear hz hp
      go_wp2_with fail
      go_round
      case rel => exact ⟨k + 1, by omega, by go_num, by rw [HS.out]⟩
      case measure => simp [intOf]; omega
    · obtain rfl : k = n := by omega
      go_wp2_with fail
      go_ret
      exact ⟨rfl, rfl⟩
/-- The weights. -/
def CutR (w : World) (base gx g m : Nat) (X : Array Value) (f : Nat → Int) (s pT : Nat) (ws : List Int) (gW cW : Nat) (wx : World) : Prop :=
  wx.ownsRow w.heap.size 3 1 (.slice (some ⟨gW, 0, none⟩) s cW) s (ints ws) ∧ wx.ownsRow base 3 1 (.slice (some ⟨g, 0, none⟩) m m) m (ints (fnL m f)) ∧ Blk wx gx 116 X ∧ Blk wx pT 117 #[.func (.func 80) #[] #[]] ∧ Below w.heap.size w wx
set_option maxRecDepth 100000 in
set_option maxHeartbeats 4000000 in
theorem rmore_calls (g gM pM pT p s m base : Nat) (cl cm : Int) (f b : Nat → Int) (want : Int) (w : World) (h : w.ownsRow base 3 1 (.slice (some ⟨g, 0, none⟩) m m) m (ints (fnL m f))) (h' : w.ownsRow base 3 1 (.slice (some ⟨gM, 0, none⟩) m m) m (ints (fnL m b)))
    (hpM : Blk w pM 64 #[.slice (some ⟨gM, 0, none⟩) m m]) (hpT : Blk w pT 117 #[.func (.func 80) #[] #[]]) (hp : p + s ≤ m) (hm : m ≤ 100) (hs : 1 ≤ s) (hf : FnOk f) (hbo : FnOk b) (hw0 : 0 ≤ want) (hw1 : want ≤ 16777216) :
    Calls Try.prog 81 #[.slice (some ⟨g, 0, none⟩) m m, .agg #[.int .i64 cl, .int .i64 cm, .int .i64 p, .int .i64 s], .int .i64 want, .pointer (some ⟨pM, 0, none⟩), .pointer (some ⟨pT, 0, none⟩)] w fun e w' => e = .returned (.tuple #[]) ∧ w'.ownsRow base 3 1 (.slice (some ⟨g, 0, none⟩) m m) m (ints (fnL m (widenF f p s want (wtsW b p s)))) ∧ w.grownBy w' (some g) := by
  have i1 : (p : Int) ≤ (p : Int) + (s : Int) := by omega
  have i2 : (p : Int) + (s : Int) ≤ (m : Int) := by omega
  have i3 : ((p : Int) + (s : Int)).toNat = p + s := by omega
  have i4 : (0 : Int) ≤ (p : Int) + (s : Int) := by omega
  have i5 : p + s - p = s := by omega
  have i6 : ¬ m = p := by omega
  have hX := Blk.new w 116 #[.int .i64 cl, .int .i64 cm, .int .i64 p, .int .i64 s]
  have hL := h.alloc (.cells #[.int .i64 cl, .int .i64 cm, .int .i64 p, .int .i64 s] 116)
  have hM := h'.alloc (.cells #[.int .i64 cl, .int .i64 cm, .int .i64 p, .int .i64 s] 116)
  have hPT := hpT.alloc (.cells #[.int .i64 cl, .int .i64 cm, .int .i64 p, .int .i64 s] 116)
  have qM : (w.alloc (.cells #[.int .i64 cl, .int .i64 cm, .int .i64 p, .int .i64 s] 116)).cell? ⟨pM, 0, none⟩ = some (.slice (some ⟨gM, 0, none⟩) m m) := (hpM.alloc _).cell 0
  have hb0 := below_alloc (Below.refl _ w) (.cells #[.int .i64 cl, .int .i64 cm, .int .i64 p, .int .i64 s] 116)
  have HL := Lib.hid hL
  have HM := Lib.hid hM
  have HX := Lib.hid hX
  have HPT := Lib.hid hPT
  have HB0 := Lib.hid hb0
  have HF := Lib.hid hf
  have HBO := Lib.hid hbo
  have hgw : g < w.heap.size := (h.lt g rfl).2
  have HPW := Lib.hid (show pT < w.heap.size from hpT.lt)
  clear hX hL hM hPT hb0 h h' hpM hpT hf hbo
  go_enter Try.func81, Try.ntmps81
  go_upto_region 2 with (go_at_call 82; refine (rcopyInt_calls (winL b p s) s (m - p) _ ⟨gM, p, none⟩ _ (fnL_len _ _) (holds_win HM.out hp) (Nat.le_refl _) (by omega) (by omega)).mono ?_; rintro e w2 ⟨gW, cW, rfl, ho2, hb2⟩)
  clear qM
  have hX2 := HX.out.below hb2 HX.out.lt
  have hT2 := HPT.out.below hb2 HPT.out.lt
  have hL2 := own_below HL.out hb2
  have hb3 := below_then HB0.out hb2
  have hsz := HB0.out.size
  have qT : w2.cell? ⟨pT, 0, none⟩ = some (.func (.func 80) #[] #[]) := hT2.cell 0
  have HS1 := Lib.hid (fun (w9 : World) (h : Holds w9 w9.heap.size (some ⟨g, p, none⟩) (ints (winL f p s))) => rtotal_calls (some ⟨g, p, none⟩) s (m - p) w9.heap.size (fun i => f (p + i)) w9 h (fun i => HF.out (p + i)) (by omega))
  have HS2 := Lib.hid (rtotal_calls (some ⟨gW, 0, none⟩) s cW _ (fun i => b (p + i)) w2 (Holds.of_own ho2) (fun i => HBO.out (p + i)) (by omega))
  have hsl := winS_bd HF.out p s
  have hsb := winS_bd HBO.out p s
  have HWN := Lib.hid (fun h => widen_no (f := f) (p := p) (s := s) (want := want) (ws := wtsW b p s) h)
  have HWY := Lib.hid (fun h => widen_yes (f := f) (p := p) (s := s) (want := want) (ws := wtsW b p s) h)
  have HWT : Hid (wtsW b p s = if winS b p s = 0 then onesL s else winL b p s) := rfl
  obtain ⟨sl, hsle⟩ : ∃ x, x = winS f p s := ⟨_, rfl⟩
  obtain ⟨sb, hsbe⟩ : ∃ x, x = winS b p s := ⟨_, rfl⟩
  have e1 : sumTo (fun i => f (p + i)) s = sl := hsle.symm
  have e2 : sumTo (fun i => b (p + i)) s = sb := hsbe.symm
  rw [e1] at HS1
  rw [e2] at HS2
  rw [← hsle] at hsl HWN HWY
  rw [← hsbe] at hsb HWT
  have HWL := Lib.hid (wtsW_len b p s)
  have HO2 := Lib.hid (own_low ho2 hsz)
  have HX2 := Lib.hid hX2
  have HT2 := Lib.hid hT2
  have HL2 := Lib.hid hL2
  have HB3 := Lib.hid hb3
  have hgW : w.heap.size < gW := by have h1 : (w.alloc (.cells #[.int .i64 cl, .int .i64 cm, .int .i64 p, .int .i64 s] 116)).heap.size ≤ gW := (ho2.lt _ rfl).1; rw [alloc_size] at h1; omega
  clear hsle hsbe e1 e2 hX2 hT2 hL2 hb3 hsz ho2 hb2 HX HPT HL HM HB0
  go_upto_if 26 with (go_at_call 80; refine HS2.out.mono ?_; rintro e w' ⟨rfl, rfl⟩)
  clear qT
  go_cut [9] from 27 to 35 (fun v wx => CutR w base w.heap.size g m #[.int .i64 cl, .int .i64 cm, .int .i64 p, .int .i64 s] f s pT (wtsW b p s) gW cW wx)
  case first =>
    by_cases hz : sb = 0
    · have HR2 : Hid (wtsW b p s = fnL s (fun _ => 1)) := by show _ = _; rw [HWT.out, if_pos hz, ones_fn]
      subst hz
      go_wp2_with fail
      go_loopw [29] (fun i wr => ∃ k : Nat, k ≤ s ∧ i = .int .i64 k ∧ CutR w base w.heap.size g m #[.int .i64 cl, .int .i64 cm, .int .i64 p, .int .i64 s] f s pT (turT s (fun i => b (p + i)) (fun _ => 1) k) gW cW wr) (fun i _ => s - (intOf i).toNat)
      case atStart => exact ⟨0, Nat.zero_le _, rfl, by rw [turT_zero]; exact HO2.out, HL2.out, HX2.out, HT2.out, HB3.out⟩
      case round =>
        obtain ⟨k, hk, rfl, hO, hL, hX, hT, hbel⟩ := hrel
        by_cases hlt : k < s
        · have cW0 : wr.cell? ⟨gW, k, none⟩ = some (.int .i64 (b (p + k))) := (hO.cellAt k (by omega)).trans (by rw [turT_at _ _ _ _ _ hlt, if_neg (by omega)])
          have zW : wr.frozen? ⟨gW, k, none⟩ = false := own_free hO
          have HST := Lib.hid (turT_set s k (fun i => b (p + i)) (fun _ => 1) hlt)
          have hgW2 : gW ≠ g := by omega
          have hO2 := own_set (j := k) (u := .int .i64 1) hO
          rw [HST.out] at hO2
          have hL2 := own_setFar (b := gW) (j := k) (u := .int .i64 1) hL (by simp [Value.ownBlock]; exact fun e => hgW2 e.symm)
          have hX2 := hX.far (b := gW) (i := k) (by omega) (.int .i64 1)
          have hT2 := hT.far (b := gW) (i := k) (by intro e; subst e; exact absurd (HPW.out) (by omega)) (.int .i64 1)
          have HC := Lib.hid (show CutR w base w.heap.size g m #[.int .i64 cl, .int .i64 cm, .int .i64 p, .int .i64 s] f s pT (turT s (fun i => b (p + i)) (fun _ => 1) (k + 1)) gW cW (wr.setCell ⟨gW, k, none⟩ (.int .i64 1)) from ⟨hO2, hL2, hX2, hT2, below_set hbel (b := gW) (off := k) (by omega) _⟩)
          have QQ := Lib.hid (show k ≤ s ∧ k < s from ⟨hk, hlt⟩)
          clear hO hL hX hT hbel hO2 hL2 hX2 hT2 hgW2
          go_wp2_with fail
          go_roundw
          case rel => exact ⟨k + 1, by have := QQ.out; omega, by go_num, HC.out⟩
          case measure => have := QQ.out; simp [intOf]; omega
        · obtain rfl : k = s := by omega
          rw [turT_all] at hO
          have HC := Lib.hid (show CutR w base w.heap.size g m #[.int .i64 cl, .int .i64 cm, .int .i64 p, .int .i64 k] f k pT (wtsW b p k) gW cW wr from ⟨by rw [HR2.out]; exact hO, hL, hX, hT, hbel⟩)
          clear hO hL hX hT hbel
          go_wp2_with fail
          go_meet
          case rel => exact HC.out
    · have HR2 : Hid (wtsW b p s = winL b p s) := by show _ = _; rw [HWT.out, if_neg hz]
      have hz2 : (sb == 0) = false := by simpa using hz
      have HC := Lib.hid (show CutR w base w.heap.size g m #[.int .i64 cl, .int .i64 cm, .int .i64 p, .int .i64 s] f s pT (wtsW b p s) gW cW w2 from ⟨by rw [HR2.out]; exact HO2.out, HL2.out, HX2.out, HT2.out, HB3.out⟩)
      go_wp2_with fail
      go_meet
      case rel => exact HC.out
  case rest =>
    obtain ⟨hO, hL, hX, hT, hbel⟩ := hcut
    have hX0 := hX.drew
    have hT0 := hT.drew
    have hL0 := hL.drew
    have hS0 : (fun w' : World => w'.cell? ⟨pT, 0, none⟩ = some (.func (.func 80) #[] #[]) ∧ w'.cell? ⟨w.heap.size, 2, none⟩ = some (.int .i64 p) ∧ w'.cell? ⟨w.heap.size, 3, none⟩ = some (.int .i64 s)) wc.drew := ⟨hT0.cell 0, hX0.cell 2, hX0.cell 3⟩
    have HO := Lib.hid hO.drew
    have HX := Lib.hid hX0
    have HL := Lib.hid hL0
    have HB := Lib.hid hbel.drew
    have eW : IntKind.i64.wrap (want - sl) = want - sl := IntWalk.i64_in _ (by omega)
    have eW2 : IntKind.i64.wrap ((p : Int) + (s : Int)) = (p : Int) + (s : Int) := IntWalk.i64_in _ (by omega)
    clear hO hX hT hbel hX0 hT0 hL
    go_wp2_with fail
    refine wp_region_noPanic ?_
    refine region_M (S := fun w' => w'.cell? ⟨pT, 0, none⟩ = some (.func (.func 80) #[] #[]) ∧ w'.cell? ⟨w.heap.size, 2, none⟩ = some (.int .i64 p) ∧ w'.cell? ⟨w.heap.size, 3, none⟩ = some (.int .i64 s)) (T := []) (by kernel_rfl) ?_
    refine anyM_free (i := 0) (oi := { dst := some 36, op := _, type := _, pos := _, after := _, guard := _ }) (v := ?_) rfl (by kernel_rfl) (fun _ _ _ h => h) (Or.inl ⟨by kernel_rfl, ?_⟩) (fun _ => hS0) ?_
    rotate_left 1
    · (intro w hSw; (try dsimp only at hSw); go_simp; try with_reducible rfl)
    try simp only [Act.put, Array.toArray_toList, List.setIfInBounds_toArray, List.set_cons_zero, List.set_cons_succ]
    refine anyM_take (i := 1) (oi := { dst := some 37, op := _, type := _, pos := _, after := _, guard := _ }) (v := ?_) rfl (by kernel_rfl) (fun _ _ _ h => h) (Or.inl ⟨by kernel_rfl, ?_⟩) hS0 ?_
    rotate_left 1
    · (intro w hSw; (try dsimp only at hSw); go_simp; try with_reducible rfl)
    try simp only [Act.put, Array.toArray_toList, List.setIfInBounds_toArray, List.set_cons_zero, List.set_cons_succ]
    refine anyM_free (i := 2) (oi := { dst := some 38, op := _, type := _, pos := _, after := _, guard := _ }) (v := ?_) rfl (by kernel_rfl) (fun _ _ _ h => h) (Or.inl ⟨by kernel_rfl, ?_⟩) (fun _ => hS0) ?_
    rotate_left 1
    · (intro w hSw; (try dsimp only at hSw); go_simp; try with_reducible rfl)
    try simp only [Act.put, Array.toArray_toList, List.setIfInBounds_toArray, List.set_cons_zero, List.set_cons_succ]
    refine anyM_free (i := 3) (oi := { dst := some 39, op := _, type := _, pos := _, after := _, guard := _ }) (v := ?_) rfl (by kernel_rfl) (fun _ _ _ h => h) (Or.inl ⟨by kernel_rfl, ?_⟩) (fun _ => hS0) ?_
    rotate_left 1
    · (intro w hSw; (try dsimp only at hSw); go_simp; try with_reducible rfl)
    try simp only [Act.put, Array.toArray_toList, List.setIfInBounds_toArray, List.set_cons_zero, List.set_cons_succ]
    refine anyM_take (i := 4) (oi := { dst := some 40, op := _, type := _, pos := _, after := _, guard := _ }) (v := ?_) rfl (by kernel_rfl) (fun _ _ _ h => h) (Or.inl ⟨by kernel_rfl, ?_⟩) hS0 ?_
    rotate_left 1
    · (intro w hSw; (try dsimp only at hSw); go_simp; try with_reducible rfl)
    try simp only [Act.put, Array.toArray_toList, List.setIfInBounds_toArray, List.set_cons_zero, List.set_cons_succ]
    refine anyM_free (i := 5) (oi := { dst := some 41, op := _, type := _, pos := _, after := _, guard := _ }) (v := ?_) rfl (by kernel_rfl) (fun _ _ _ h => h) (Or.inl ⟨by kernel_rfl, ?_⟩) (fun _ => hS0) ?_
    rotate_left 1
    · (intro w hSw; (try dsimp only at hSw); go_simp; try with_reducible rfl)
    try simp only [Act.put, Array.toArray_toList, List.setIfInBounds_toArray, List.set_cons_zero, List.set_cons_succ]
    refine anyM_take (i := 6) (oi := { dst := some 42, op := _, type := _, pos := _, after := _, guard := _ }) (v := ?_) rfl (by kernel_rfl) (fun _ _ _ h => h) (Or.inl ⟨by kernel_rfl, ?_⟩) hS0 ?_
    rotate_left 1
    · (intro w hSw; (try dsimp only at hSw); go_simp; try with_reducible rfl)
    try simp only [Act.put, Array.toArray_toList, List.setIfInBounds_toArray, List.set_cons_zero, List.set_cons_succ]
    refine anyM_free (i := 7) (oi := { dst := some 43, op := _, type := _, pos := _, after := _, guard := _ }) (v := ?_) rfl (by kernel_rfl) (fun _ _ _ h => h) (Or.inl ⟨by kernel_rfl, ?_⟩) (fun _ => hS0) ?_
    rotate_left 1
    · (intro w hSw; (try dsimp only at hSw); go_simp; try with_reducible rfl)
    try simp only [Act.put, Array.toArray_toList, List.setIfInBounds_toArray, List.set_cons_zero, List.set_cons_succ]
    refine anyM_take (i := 8) (oi := { dst := some 44, op := _, type := _, pos := _, after := _, guard := _ }) (v := ?_) rfl (by kernel_rfl) (fun _ _ _ h => h) (Or.inl ⟨by kernel_rfl, ?_⟩) hS0 ?_
    rotate_left 1
    · (intro w hSw; (try dsimp only at hSw); go_simp; try with_reducible rfl)
    try simp only [Act.put, Array.toArray_toList, List.setIfInBounds_toArray, List.set_cons_zero, List.set_cons_succ]
    refine anyM_free (i := 9) (oi := { dst := some 45, op := _, type := _, pos := _, after := _, guard := _ }) (v := ?_) rfl (by kernel_rfl) (fun _ _ _ h => h) (Or.inl ⟨by kernel_rfl, ?_⟩) (fun _ => hS0) ?_
    rotate_left 1
    · (intro w hSw; (try dsimp only at hSw); go_simp; try with_reducible rfl)
    try simp only [Act.put, Array.toArray_toList, List.setIfInBounds_toArray, List.set_cons_zero, List.set_cons_succ]
    refine anyM_free (i := 10) (oi := { dst := some 46, op := _, type := _, pos := _, after := _, guard := _ }) (v := ?_) rfl (by kernel_rfl) (fun _ _ _ h => h) (Or.inl ⟨by kernel_rfl, ?_⟩) (fun _ => hS0) ?_
    rotate_left 1
    · (intro w hSw; (try dsimp only at hSw); go_simp; try with_reducible rfl)
    try simp only [Act.put, Array.toArray_toList, List.setIfInBounds_toArray, List.set_cons_zero, List.set_cons_succ]
    refine anyM_one (i := 11) (by kernel_rfl) rfl (fun K hK => ?_)
    go_simp
    refine (HS1.out _ (holds_win hL0 hp)).mono ?_
    rintro e w' ⟨rfl, rfl⟩
    refine hK.out _ _ (fun _ => hS0) ?_
    clear hK K
    try simp only [Act.put, Array.toArray_toList, List.setIfInBounds_toArray, List.set_cons_zero, List.set_cons_succ]
    refine anyM_free (i := 12) (oi := { dst := some 48, op := _, type := _, pos := _, after := _, guard := _ }) (v := ?_) rfl (by kernel_rfl) (fun _ _ _ h => h) (Or.inl ⟨by kernel_rfl, ?_⟩) (fun _ => hS0) ?_
    rotate_left 1
    · (intro w hSw; (try dsimp only at hSw); go_simp; try with_reducible rfl)
    try simp only [Act.put, Array.toArray_toList, List.setIfInBounds_toArray, List.set_cons_zero, List.set_cons_succ]
    refine anyM_free (i := 13) (oi := { dst := some 10, op := _, type := _, pos := _, after := _, guard := _ }) (v := ?_) rfl (by kernel_rfl) (fun _ _ _ h => h) (Or.inl ⟨by kernel_rfl, ?_⟩) (fun _ => hS0) ?_
    rotate_left 1
    · (intro w hSw; (try dsimp only at hSw); go_simp; try with_reducible rfl)
    try simp only [Act.put, Array.toArray_toList, List.setIfInBounds_toArray, List.set_cons_zero, List.set_cons_succ]
    refine anyM_done (by kernel_rfl) ?_ _
    refine NoPanic.normal ?_
    clear hS0 hL0 eW eW2
    by_cases hlack : want - sl ≤ 0
    · have HR := Lib.hid (HWN.out hlack)
      have hl2 : ¬ 0 < want - sl := by omega
      have hl3 : decide (0 < want - sl) = false := by simp; omega
      go_wp2_with fail
      go_end0
      exact ⟨rfl, by rw [HR.out]; exact HL.out, (grown_of_below (HB.out) _)⟩
    · have HR := Lib.hid (HWY.out (by omega))
      obtain ⟨lack, hlk⟩ : ∃ x, x = want - sl := ⟨_, rfl⟩
      have hl0 : 0 < lack := by omega
      have hl1 : lack ≤ 16777216 := by omega
      rw [← hlk] at HR ⊢
      clear hlack hlk HWN HWY
      have HSH := Lib.hid (rshare_own lack (some ⟨gW, 0, none⟩) s cW _ (wtsW b p s) wc.drew HWL.out (Holds.of_own HO.out) (Nat.le_refl _) (by omega))
      have HSB := Lib.hid (fun j => share_getD lack (wtsW b p s) j)
      have HSL := Lib.hid (show (share lack (wtsW b p s)).length = s by rw [share_length]; exact HWL.out)
      have HSET := Lib.hid (fun k hk => addsF_set m f p s lack (wtsW b p s) k hk)
      have HAT := Lib.hid (fun k => addsF_at f p s lack (wtsW b p s) k)
      obtain ⟨sh, hsh⟩ : ∃ x, x = share lack (wtsW b p s) := ⟨_, rfl⟩
      rw [← hsh] at HSH HSB HSL HSET
      clear hsh
      go_wp2_with (go_at_call 83; refine HSH.out.mono ?_; rintro e w4 ⟨A4, c4, rfl, ho4, hb4⟩)
      obtain ⟨g4, cS0, eS, hg41, hg42⟩ := own_some ho4 (by omega)
      injection eS with eS1 eS2 eS3
      subst eS1
      clear eS2 eS3 cS0
      have hsz : w.heap.size ≤ wc.drew.heap.size := HB.out.size
      have hg4 : g ≠ g4 := by omega
      have hg5 : w.heap.size ≠ g := by omega
      have HL4 := Lib.hid (own_below HL.out hb4)
      have HS4 := Lib.hid ho4
      have HX4 := Lib.hid (HX.out.below hb4 HX.out.lt)
      have HG4 := Lib.hid (grown_of_below (HB.out.trans (hb4.mono hsz)) (some g))
      obtain ⟨b4, hb4'⟩ : ∃ x, x = wc.drew.heap.size := ⟨_, rfl⟩
      rw [← hb4'] at HS4
      clear ho4 hb4 hb4' hsl hsb hsz hg41 hg42
      go_loopw [55] (fun i wr => ∃ k : Nat, k ≤ s ∧ i = .int .i64 k ∧ wr.ownsRow base 3 1 (.slice (some ⟨g, 0, none⟩) m m) m (ints (fnL m (addsF f p s lack (wtsW b p s) k))) ∧ wr.ownsRow b4 3 1 (.slice (some ⟨g4, 0, none⟩) s c4) s (ints sh) ∧ Blk wr w.heap.size 116 #[.int .i64 cl, .int .i64 cm, .int .i64 p, .int .i64 s] ∧ w.grownBy wr (some g)) (fun i _ => s - (intOf i).toNat)
      case atStart => exact ⟨0, Nat.zero_le _, rfl, by rw [addsF_zero]; exact HL4.out, HS4.out, HX4.out, HG4.out⟩
      case round =>
        obtain ⟨k, hk, rfl, hL, hS, hX, hgr⟩ := hrel
        by_cases hlt : k < s
        · have cL : wr.cell? ⟨g, p + k, none⟩ = some (.int .i64 (f (p + k))) := (hL.cellAt (p + k) (by omega)).trans (by rw [fnL_at _ _ _ (by omega), HAT.out])
          have zL : wr.frozen? ⟨g, p + k, none⟩ = false := own_free hL
          have cS : wr.cell? ⟨g4, k, none⟩ = some (.int .i64 (sh.getD k 0)) := (hS.cellAt k (by omega)).trans (ints_get _ _ (by rw [HSL.out]; exact hlt))
          have x2 : wr.cell? ⟨w.heap.size, 2, none⟩ = some (.int .i64 p) := hX.cell 2
          have hb1 := HF.out (p + k)
          have hb2 := HSB.out k
          have HST := Lib.hid (HSET.out k (by omega))
          obtain ⟨lv, hlv⟩ : ∃ z, z = f (p + k) := ⟨_, rfl⟩
          obtain ⟨sv, hsv⟩ : ∃ z, z = sh.getD k 0 := ⟨_, rfl⟩
          rw [← hlv] at cL hb1 HST
          rw [← hsv] at cS hb2 HST
          have hL2 := own_set (j := p + k) (u := .int .i64 (lv + sv)) hL
          rw [HST.out] at hL2
          have hS2 := own_setFar (b := g) (j := p + k) (u := .int .i64 (lv + sv)) hS (by simp [Value.ownBlock]; exact fun e => hg4 e.symm)
          have HL5 := Lib.hid hL2
          have HS5 := Lib.hid hS2
          have HX5 := Lib.hid (hX.far (b := g) (i := p + k) hg5 (.int .i64 (lv + sv)))
          have HG5 := Lib.hid (hgr.trans (grown_set wr g (p + k) (.int .i64 (lv + sv))))
          have QQ := Lib.hid (show k ≤ s ∧ k < s from ⟨hk, hlt⟩)
          have n1 : IntKind.i64.wrap ((p : Int) + (k : Int)) = (p : Int) + (k : Int) := IntWalk.i64_in _ (by omega)
          have n2 : (p : Int) + (k : Int) < (m : Int) := by omega
          have n3 : (0 : Int) ≤ (p : Int) + (k : Int) := by omega
          have n4 : ((p : Int) + (k : Int)).toNat = p + k := by omega
          clear hL hS hX hgr hL2 hS2 hlv hsv
          go_wp2_with fail
          go_roundw
          case rel => exact ⟨k + 1, by have := QQ.out; omega, by go_num, HL5.out, HS5.out, HX5.out, HG5.out⟩
          case measure => have := QQ.out; simp [intOf]; omega
        · obtain rfl : k = s := by omega
          have HL5 := Lib.hid hL
          have HG5 := Lib.hid hgr
          clear hL hS hX hgr
          go_wp2_with fail
          go_end0
          exact ⟨rfl, by rw [HR.out]; exact HL5.out, HG5.out⟩
end Go.Proofs.Ytkppignoomnmdaa
