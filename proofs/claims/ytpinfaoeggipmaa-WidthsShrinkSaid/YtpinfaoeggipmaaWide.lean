/- widths.Wide. -/
import Derived.Test.YtpinfaoeggipmaaAcross
import Derived.Deep.QuietTactic
import Derived.BigQuiet
import Derived.OwnWalk
namespace Go.Proofs.Ytpinfaoeggipmaa
open Go.RowKit
set_option linter.unusedVariables false
set_option linter.unusedSimpArgs false
attribute [local go_sem high] run_min2 run_max2

theorem toldN_bd (zs : List Int) (room rim : Int) (parts : Bool) (size least most other : Int) (h0 : 0 ≤ rim) (h1 : rim ≤ 67108864) (ho : other ≤ 134217728) : 0 ≤ toldN zs room rim parts size least most other ∧ toldN zs room rim parts size least most other ≤ 134217728 := by
  have a1 := tv_bd zs size room rim parts h0 h1
  have a2 := tv_bd zs least room rim parts h0 h1
  have a3 := tv_bd zs most room rim parts h0 h1
  unfold toldN boundN bnd2
  split <;> split <;> split <;> omega
/-- P314: the margins that are left. -/
def wideL (k14 k12 ml rest : Int) : Int := if k14 = 6 ∧ k12 = 6 ∧ 0 < rest then part rest 1 2 else if k14 = 6 ∧ k12 ≠ 6 then rest else ml
def wideR (k14 k12 mr rest : Int) : Int := if k14 = 6 ∧ k12 = 6 ∧ 0 < rest then rest - part rest 1 2 else if k14 = 6 ∧ k12 ≠ 6 then mr else mr + rest
theorem prt_bd (n u d : Int) : -16777216 ≤ part n u d ∧ part n u d ≤ 16777216 := by
  unfold part; split
  · omega
  · exact ⟨cut_lo _, cut_hi _⟩
theorem wl1 {ml rest : Int} (h : 0 < rest) : wideL 6 6 ml rest = part rest 1 2 := by simp [wideL, h]
theorem wl2 {ml rest : Int} (h : rest ≤ 0) : wideL 6 6 ml rest = ml := by simp [wideL]; omega
theorem wl3 {k ml rest : Int} (h : ¬ k = 6) : wideL 6 k ml rest = rest := by simp [wideL, h]
theorem wl4 {k k' ml rest : Int} (h : ¬ k = 6) : wideL k k' ml rest = ml := by simp [wideL, h]
theorem wr1 {mr rest : Int} (h : 0 < rest) : wideR 6 6 mr rest = rest - part rest 1 2 := by simp [wideR, h]
theorem wr2 {mr rest : Int} (h : rest ≤ 0) : wideR 6 6 mr rest = mr + rest := by simp [wideR]; omega
theorem wr3 {k mr rest : Int} (h : ¬ k = 6) : wideR 6 k mr rest = mr := by simp [wideR, h]
theorem wr4 {k k' mr rest : Int} (h : ¬ k = 6) : wideR k k' mr rest = mr + rest := by simp [wideR, h]
theorem ret3 {a b c a' b' c' : Int} (h : a = a') (h' : b = b') (h'' : c = c') : Ending.returned (.tuple #[.int .i64 a, .int .i64 b, .int .i64 c]) = .returned (.tuple #[.int .i64 a', .int .i64 b', .int .i64 c']) := by rw [h, h', h'']

set_option maxRecDepth 100000 in
set_option maxHeartbeats 2000000 in
theorem wide0_calls (zs : List Int) (room r rim mt mr mb ml N k14 k12 : Int) (w : World) (hz : zs.length = 118) (hr : r = cut room)
    (hac : ∀ w, Calls Try.prog 65 #[.agg (sty zs), .int .i64 r] w fun e w' => e = .returned (.tuple #[.agg (bnd zs r rim true 5 7 9), .agg #[.int .i64 mt, .int .i64 mr, .int .i64 mb, .int .i64 ml]]) ∧ Below w.heap.size w w')
    (ht : ∀ w, Calls Try.prog 66 #[.agg (bnd zs r rim true 5 7 9), .int .i64 (r - ml - mr - rim)] w fun e w' => e = .returned (.int .i64 N) ∧ Below w.heap.size w w')
    (hk14 : (sty zs)[28]? = some (.int .i64 k14)) (hk12 : (sty zs)[24]? = some (.int .i64 k12))
    (r0 : -16777216 ≤ r) (r1 : r ≤ 16777216) (l0 : -16777216 ≤ ml) (l1 : ml ≤ 16777216) (m0 : -16777216 ≤ mr) (m1 : mr ≤ 16777216) (i0 : 0 ≤ rim) (i1 : rim ≤ 67108864) (n0 : 0 ≤ N) (n1 : N ≤ 134217728) :
    Calls Try.prog 33 #[.agg (sty zs), .int .i64 room] w fun e w' => e = .returned (.tuple #[.int .i64 (cut (wideL k14 k12 ml (r - N - rim - ml - mr))), .int .i64 (cut N), .int .i64 (cut (wideR k14 k12 mr (r - N - rim - ml - mr)))]) ∧ Below w.heap.size w w' := by
  have HSZ : Hid ((Try.prog.info? 38).map (·.size) = some (sty zs).size) := by show _ = _; rw [sty_size, hz]; kernel_rfl
  have HSB : Hid ((Try.prog.info? 84).map (·.size) = some ((bnd zs r rim true 5 7 9)).size) := by show _ = _; rw [bnd_size, hz]; kernel_rfl
  have HSB0 : Hid (((bnd zs r rim true 5 7 9)).size = 124) := by show _ = _; rw [bnd_size, hz]
  have b0 := Blk.new w 38 (sty zs)
  have hbel := below_alloc (Below.refl _ w) (.cells (sty zs) 38)
  have HAC := Lib.hid hac
  have HT := Lib.hid ht
  have HK14 := Lib.hid hk14
  have HK12 := Lib.hid hk12
  clear hac ht hk14 hk12
  have HR := Lib.hid hr
  clear hr
  go_enter Try.func33, Try.ntmps33
  go_wp2_with (first | (go_at_call 19; refine (cut_calls _ _).mono ?_; rintro e w' ⟨rfl, rfl⟩; try rw [← HR.out]) | (refine wpList_allocTo rfl _ rfl _ _ (alloc_bnd _ _ rfl _) ?_; simp only [Act.put, List.setIfInBounds_toArray, List.set_cons_zero, List.set_cons_succ, World.heap_size_alloc]) | (refine wpList_load_row rfl 38 _ rfl w.heap.size rfl 38 (sty zs) (0, 0) _ b0 Try.underlying38 rfl HSZ.out ?_) | (go_at_call 65; refine (HAC.out _).mono ?_; rintro e w1 ⟨rfl, hb1⟩; have hbel := below_alloc (below_alloc (below_then hbel hb1) (.cells Try.zeroCells84 84)) (.cells #[.int .i64 0, .int .i64 0, .int .i64 0, .int .i64 0] 41); have hlt := hb1.size; have hlw := b0.lt; have b0 := ((b0.below hb1 b0.lt).alloc (.cells Try.zeroCells84 84)).alloc (.cells #[.int .i64 0, .int .i64 0, .int .i64 0, .int .i64 0] 41); have ba := (Blk.new w1 84 Try.zeroCells84).alloc (.cells #[.int .i64 0, .int .i64 0, .int .i64 0, .int .i64 0] 41); have be := Blk.new (w1.alloc (.cells Try.zeroCells84 84)) 41 #[.int .i64 0, .int .i64 0, .int .i64 0, .int .i64 0]; simp only [alloc_size] at be hlt) | (refine wpList_load_row rfl 84 _ rfl w1.heap.size rfl 84 (bnd zs r rim true 5 7 9) (0, 0) _ ba Try.underlying84 rfl HSB.out ?_) | (refine wpList_store_mid rfl 84 _ _ rfl w1.heap.size 0 (bnd zs r rim true 5 7 9) rfl rfl (ba.there _ (by rw [HSB0.out, zero_bnd]; omega)) (by exact HSB.out) (bnd_one _ _ _ _ _ _ _) ?_; simp only [Act.put, Array.toArray_toList, List.setIfInBounds_toArray, List.set_cons_zero, List.set_cons_succ]; have hbel := below_setCells (b := w1.heap.size) (by omega) ((bnd zs r rim true 5 7 9)).toList 0 _ hbel; have b0 := Blk.farCells (b := w1.heap.size) (by omega) ((bnd zs r rim true 5 7 9)).toList 0 _ _ b0; have be := Blk.farCells (b := w1.heap.size) (by omega) ((bnd zs r rim true 5 7 9)).toList 0 _ _ be; have ba := ba.setAll (bnd zs r rim true 5 7 9) (by rw [HSB0.out, zero_bnd])) | (refine wpList_store_mid rfl 41 _ _ rfl (w1.heap.size + 1) 0 #[.int .i64 mt, .int .i64 mr, .int .i64 mb, .int .i64 ml] rfl rfl (be.there _ (by simp)) (by kernel_rfl) (by simp [Value.oneCell']) ?_; simp only [Act.put, Array.toArray_toList, List.setIfInBounds_toArray, List.set_cons_zero, List.set_cons_succ]; have hbel := below_setCells (b := w1.heap.size + 1) (by omega) (#[.int .i64 mt, .int .i64 mr, .int .i64 mb, .int .i64 ml] : Array Value).toList 0 _ hbel; have b0 := Blk.farCells (b := w1.heap.size + 1) (by omega) (#[.int .i64 mt, .int .i64 mr, .int .i64 mb, .int .i64 ml] : Array Value).toList 0 _ _ b0; have ba := Blk.farCells (b := w1.heap.size + 1) (by omega) (#[.int .i64 mt, .int .i64 mr, .int .i64 mb, .int .i64 ml] : Array Value).toList 0 _ _ ba; have be := be.setAll #[.int .i64 mt, .int .i64 mr, .int .i64 mb, .int .i64 ml] rfl; generalize hW2 : World.setCells _ (w1.heap.size + 1) _ _ = w2 at b0 ba be hbel ⊢; have e1 : w2.cell? ⟨w1.heap.size + 1, 1, none⟩ = some (.int .i64 mr) := be.cell 1; have e3 : w2.cell? ⟨w1.heap.size + 1, 3, none⟩ = some (.int .i64 ml) := be.cell 3; have c119 : w2.cell? ⟨w1.heap.size, 119, none⟩ = some (.int .i64 rim) := (ba.cell _).trans (bnd_tail zs r rim true 5 7 9 hz 1); have c28 : w2.cell? ⟨w.heap.size, 28, none⟩ = some (.int .i64 k14) := (b0.cell _).trans HK14.out; have c24 : w2.cell? ⟨w.heap.size, 24, none⟩ = some (.int .i64 k12) := (b0.cell _).trans HK12.out) | (go_at_call 66; refine (HT.out _).mono ?_; rintro e w3 ⟨rfl, hb3⟩; have b0 := b0.below hb3 b0.lt; have ba := ba.below hb3 ba.lt; have be := be.below hb3 be.lt; have hbel := below_then hbel hb3; have e1 : w3.cell? ⟨w1.heap.size + 1, 1, none⟩ = some (.int .i64 mr) := be.cell 1; have e3 : w3.cell? ⟨w1.heap.size + 1, 3, none⟩ = some (.int .i64 ml) := be.cell 3; have c119 : w3.cell? ⟨w1.heap.size, 119, none⟩ = some (.int .i64 rim) := (ba.cell _).trans (bnd_tail zs r rim true 5 7 9 hz 1); have c28 : w3.cell? ⟨w.heap.size, 28, none⟩ = some (.int .i64 k14) := (b0.cell _).trans HK14.out; have c24 : w3.cell? ⟨w.heap.size, 24, none⟩ = some (.int .i64 k12) := (b0.cell _).trans HK12.out) | (go_at_call 21; refine (part_calls _ _ _ _).mono ?_; rintro e w' ⟨rfl, rfl⟩))
  have pb0 := (prt_bd (r - N - rim - ml - mr) 1 2).1
  have pb1 := (prt_bd (r - N - rim - ml - mr) 1 2).2
  by_cases h14 : k14 = 6
  · subst h14
    by_cases h12 : k12 = 6
    · subst h12
      by_cases hR : 0 < r - N - rim - ml - mr
      · skip
        go_quiet (fail)
        go_wp2_with fail
        go_quiet (fail)
        go_wp2_with (first | (go_at_call 19; refine (cut_calls _ _).mono ?_; rintro e w' ⟨rfl, rfl⟩) | (go_at_call 21; refine (part_calls _ _ _ _).mono ?_; rintro e w' ⟨rfl, rfl⟩))
        go_ret3
        exact ⟨ret3 (by rw [wl1 hR]) rfl (by rw [wr1 hR]), below_drewN hbel _⟩
      · skip
        go_quiet (fail)
        go_wp2_with fail
        go_quiet (fail)
        go_wp2_with (first | (go_at_call 19; refine (cut_calls _ _).mono ?_; rintro e w' ⟨rfl, rfl⟩) | (go_at_call 21; refine (part_calls _ _ _ _).mono ?_; rintro e w' ⟨rfl, rfl⟩))
        go_ret3
        exact ⟨ret3 (by rw [wl2 hR]) rfl (by rw [wr2 hR]), below_drewN hbel _⟩
    · have e12 : (k12 == 6) = false := by simpa using h12
      go_quiet (fail)
      go_wp2_with fail
      go_quiet (fail)
      go_wp2_with (first | (go_at_call 19; refine (cut_calls _ _).mono ?_; rintro e w' ⟨rfl, rfl⟩) | (go_at_call 21; refine (part_calls _ _ _ _).mono ?_; rintro e w' ⟨rfl, rfl⟩))
      go_ret3
      exact ⟨ret3 (by rw [wl3 h12]) rfl (by rw [wr3 h12]), below_drewN hbel _⟩
  · have e14 : (k14 == 6) = false := by simpa using h14
    by_cases h12 : k12 = 6
    · subst h12
      go_quiet (fail)
      go_wp2_with fail
      go_quiet (fail)
      go_wp2_with (first | (go_at_call 19; refine (cut_calls _ _).mono ?_; rintro e w' ⟨rfl, rfl⟩) | (go_at_call 21; refine (part_calls _ _ _ _).mono ?_; rintro e w' ⟨rfl, rfl⟩))
      go_ret3
      exact ⟨ret3 (by rw [wl4 h14]) rfl (by rw [wr4 h14]), below_drewN hbel _⟩
    · have e12 : (k12 == 6) = false := by simpa using h12
      go_quiet (fail)
      go_wp2_with fail
      go_quiet (fail)
      go_wp2_with (first | (go_at_call 19; refine (cut_calls _ _).mono ?_; rintro e w' ⟨rfl, rfl⟩) | (go_at_call 21; refine (part_calls _ _ _ _).mono ?_; rintro e w' ⟨rfl, rfl⟩))
      go_ret3
      exact ⟨ret3 (by rw [wl4 h14]) rfl (by rw [wr4 h14]), below_drewN hbel _⟩
end Go.Proofs.Ytpinfaoeggipmaa
