/- The reference's Wide. -/
import Derived.Test.YtpinfaoeggipmaaRim
namespace Go.Proofs.Ytpinfaoeggipmaa
open Go.RowKit
set_option linter.unusedVariables false
set_option linter.unusedSimpArgs false
attribute [local go_sem high] run_min2 run_max2

set_option maxRecDepth 100000 in
set_option maxHeartbeats 4000000 in
theorem rwide0_calls (zs : List Int) (room r rim rimh mt mr mb ml N k14 k12 : Int) (w : World) (hz : zs.length = 118) (hr : r = cut room)
    (hri : ∀ w, Calls Try.prog 67 #[.agg (sty zs), .int .i64 r] w fun e w' => e = .returned (.tuple #[.int .i64 rim, .int .i64 rimh]) ∧ Below w.heap.size w w')
    (hed : ∀ w, Calls Try.prog 32 #[.agg (sty zs), .int .i64 11, .int .i64 r, .bool false] w fun e w' => e = .returned (.agg #[.int .i64 mt, .int .i64 mr, .int .i64 mb, .int .i64 ml]) ∧ Below w.heap.size w w')
    (hbd : ∀ w, Calls Try.prog 68 #[.agg (sty zs), .int .i64 5, .int .i64 7, .int .i64 9, .int .i64 r, .int .i64 rim, .int .i64 (r - ml - mr - rim), .bool true] w fun e w' => e = .returned (.int .i64 N) ∧ Below w.heap.size w w')
    (hk14 : (sty zs)[28]? = some (.int .i64 k14)) (hk12 : (sty zs)[24]? = some (.int .i64 k12)) (hml : k14 = 6 → ml = 0) (hmr : k12 = 6 → mr = 0)
    (r0 : -16777216 ≤ r) (r1 : r ≤ 16777216) (l0 : -16777216 ≤ ml) (l1 : ml ≤ 16777216) (m0 : -16777216 ≤ mr) (m1 : mr ≤ 16777216) (i0 : 0 ≤ rim) (i1 : rim ≤ 67108864) (n0 : 0 ≤ N) (n1 : N ≤ 134217728) :
    Calls Try.prog 34 #[.agg (sty zs), .int .i64 room] w fun e w' => e = .returned (.tuple #[.int .i64 (cut (wideL k14 k12 ml (r - N - rim - ml - mr))), .int .i64 (cut N), .int .i64 (cut (wideR k14 k12 mr (r - N - rim - ml - mr)))]) ∧ Below w.heap.size w w' := by
  have HSZ : Hid ((Try.prog.info? 38).map (·.size) = some (sty zs).size) := by show _ = _; rw [sty_size, hz]; kernel_rfl
  have b0 := Blk.new w 38 (sty zs)
  have hbel := below_alloc (Below.refl _ w) (.cells (sty zs) 38)
  have HRI := Lib.hid hri
  have HED := Lib.hid hed
  have HBD := Lib.hid hbd
  have HK14 := Lib.hid hk14
  have HK12 := Lib.hid hk12
  have HR := Lib.hid hr
  have HML := Lib.hid hml
  have HMR := Lib.hid hmr
  clear hri hed hbd hk14 hk12 hr hml hmr
  have pb0 := (prt_bd (r - N - rim) 1 2).1
  have pb1 := (prt_bd (r - N - rim) 1 2).2
  by_cases h14 : k14 = 6
  · have HML0 := Lib.hid (HML.out h14)
    subst h14
    by_cases h12 : k12 = 6
    · have HMR0 := Lib.hid (HMR.out h12)
      subst h12
      have HE : Hid (r - N - rim - ml - mr = r - N - rim) := by show _ = _; rw [HML0.out, HMR0.out, Int.sub_zero, Int.sub_zero]
      by_cases hR : 0 < r - N - rim
      · skip
        go_enter Try.func34, Try.ntmps34
        go_wp2_with (first | (go_at_call 20; refine (rcut_calls _ _).mono ?_; rintro e w' ⟨rfl, rfl⟩; try rw [← HR.out]) | (refine wpList_load_row rfl 38 _ rfl w.heap.size rfl 38 (sty zs) (0, 0) _ (by repeat (first | exact b0 | refine Blk.alloc ?_ _)) Try.underlying38 rfl HSZ.out ?_) | (go_at_call 67; refine (HRI.out _).mono ?_; rintro e w1 ⟨rfl, hb1⟩; have b0 := b0.below hb1 b0.lt; have hbel := below_then hbel hb1) | (go_at_call 32; refine (HED.out _).mono ?_; rintro e w3 ⟨rfl, hb3⟩; have b0 := b0.below hb3 b0.lt; have hbel := below_then hbel hb3) | (go_at_call 68; refine (HBD.out _).mono ?_; rintro e w4 ⟨rfl, hb4⟩; have be := (Blk.new w3 41 #[.int .i64 mt, .int .i64 mr, .int .i64 mb, .int .i64 ml]).below hb4 (Blk.new w3 41 #[.int .i64 mt, .int .i64 mr, .int .i64 mb, .int .i64 ml]).lt; have b0 := (b0.alloc (.cells #[.int .i64 mt, .int .i64 mr, .int .i64 mb, .int .i64 ml] 41)).below hb4 (b0.alloc (.cells #[.int .i64 mt, .int .i64 mr, .int .i64 mb, .int .i64 ml] 41)).lt; have hbel := below_then (below_alloc hbel (.cells #[.int .i64 mt, .int .i64 mr, .int .i64 mb, .int .i64 ml] 41)) hb4; have e1 : w4.cell? ⟨w3.heap.size, 1, none⟩ = some (.int .i64 mr) := be.cell 1; have e3 : w4.cell? ⟨w3.heap.size, 3, none⟩ = some (.int .i64 ml) := be.cell 3; have c28 : w4.cell? ⟨w.heap.size, 28, none⟩ = _ := (b0.cell _).trans HK14.out; have c24 : w4.cell? ⟨w.heap.size, 24, none⟩ = _ := (b0.cell _).trans HK12.out))
        go_quiet (fail)
        go_wp2_with (first | (go_at_call 20; refine (rcut_calls _ _).mono ?_; rintro e w' ⟨rfl, rfl⟩) | (go_at_call 22; refine (rpart_calls _ _ _ _).mono ?_; rintro e w' ⟨rfl, rfl⟩))
        go_ret3
        exact ⟨ret3 (by rw [HE.out, wl1 (by omega)]) rfl (by rw [HE.out, wr1 (by omega)]), below_drewN hbel _⟩
      · skip
        go_enter Try.func34, Try.ntmps34
        go_wp2_with (first | (go_at_call 20; refine (rcut_calls _ _).mono ?_; rintro e w' ⟨rfl, rfl⟩; try rw [← HR.out]) | (refine wpList_load_row rfl 38 _ rfl w.heap.size rfl 38 (sty zs) (0, 0) _ (by repeat (first | exact b0 | refine Blk.alloc ?_ _)) Try.underlying38 rfl HSZ.out ?_) | (go_at_call 67; refine (HRI.out _).mono ?_; rintro e w1 ⟨rfl, hb1⟩; have b0 := b0.below hb1 b0.lt; have hbel := below_then hbel hb1) | (go_at_call 32; refine (HED.out _).mono ?_; rintro e w3 ⟨rfl, hb3⟩; have b0 := b0.below hb3 b0.lt; have hbel := below_then hbel hb3) | (go_at_call 68; refine (HBD.out _).mono ?_; rintro e w4 ⟨rfl, hb4⟩; have be := (Blk.new w3 41 #[.int .i64 mt, .int .i64 mr, .int .i64 mb, .int .i64 ml]).below hb4 (Blk.new w3 41 #[.int .i64 mt, .int .i64 mr, .int .i64 mb, .int .i64 ml]).lt; have b0 := (b0.alloc (.cells #[.int .i64 mt, .int .i64 mr, .int .i64 mb, .int .i64 ml] 41)).below hb4 (b0.alloc (.cells #[.int .i64 mt, .int .i64 mr, .int .i64 mb, .int .i64 ml] 41)).lt; have hbel := below_then (below_alloc hbel (.cells #[.int .i64 mt, .int .i64 mr, .int .i64 mb, .int .i64 ml] 41)) hb4; have e1 : w4.cell? ⟨w3.heap.size, 1, none⟩ = some (.int .i64 mr) := be.cell 1; have e3 : w4.cell? ⟨w3.heap.size, 3, none⟩ = some (.int .i64 ml) := be.cell 3; have c28 : w4.cell? ⟨w.heap.size, 28, none⟩ = _ := (b0.cell _).trans HK14.out; have c24 : w4.cell? ⟨w.heap.size, 24, none⟩ = _ := (b0.cell _).trans HK12.out))
        go_quiet (fail)
        go_wp2_with (first | (go_at_call 20; refine (rcut_calls _ _).mono ?_; rintro e w' ⟨rfl, rfl⟩) | (go_at_call 22; refine (rpart_calls _ _ _ _).mono ?_; rintro e w' ⟨rfl, rfl⟩))
        go_ret3
        exact ⟨ret3 (by rw [HE.out, wl2 (by omega), HML0.out]) rfl (by rw [HE.out, wr2 (by omega), HMR0.out, Int.zero_add]), below_drewN hbel _⟩
    · have e12 : (k12 == 6) = false := by simpa using h12
      have HE : Hid (r - N - rim - ml - mr = r - N - rim - mr) := by show _ = _; rw [HML0.out, Int.sub_zero]
      go_enter Try.func34, Try.ntmps34
      go_wp2_with (first | (go_at_call 20; refine (rcut_calls _ _).mono ?_; rintro e w' ⟨rfl, rfl⟩; try rw [← HR.out]) | (refine wpList_load_row rfl 38 _ rfl w.heap.size rfl 38 (sty zs) (0, 0) _ (by repeat (first | exact b0 | refine Blk.alloc ?_ _)) Try.underlying38 rfl HSZ.out ?_) | (go_at_call 67; refine (HRI.out _).mono ?_; rintro e w1 ⟨rfl, hb1⟩; have b0 := b0.below hb1 b0.lt; have hbel := below_then hbel hb1) | (go_at_call 32; refine (HED.out _).mono ?_; rintro e w3 ⟨rfl, hb3⟩; have b0 := b0.below hb3 b0.lt; have hbel := below_then hbel hb3) | (go_at_call 68; refine (HBD.out _).mono ?_; rintro e w4 ⟨rfl, hb4⟩; have be := (Blk.new w3 41 #[.int .i64 mt, .int .i64 mr, .int .i64 mb, .int .i64 ml]).below hb4 (Blk.new w3 41 #[.int .i64 mt, .int .i64 mr, .int .i64 mb, .int .i64 ml]).lt; have b0 := (b0.alloc (.cells #[.int .i64 mt, .int .i64 mr, .int .i64 mb, .int .i64 ml] 41)).below hb4 (b0.alloc (.cells #[.int .i64 mt, .int .i64 mr, .int .i64 mb, .int .i64 ml] 41)).lt; have hbel := below_then (below_alloc hbel (.cells #[.int .i64 mt, .int .i64 mr, .int .i64 mb, .int .i64 ml] 41)) hb4; have e1 : w4.cell? ⟨w3.heap.size, 1, none⟩ = some (.int .i64 mr) := be.cell 1; have e3 : w4.cell? ⟨w3.heap.size, 3, none⟩ = some (.int .i64 ml) := be.cell 3; have c28 : w4.cell? ⟨w.heap.size, 28, none⟩ = _ := (b0.cell _).trans HK14.out; have c24 : w4.cell? ⟨w.heap.size, 24, none⟩ = _ := (b0.cell _).trans HK12.out))
      go_quiet (fail)
      go_wp2_with (first | (go_at_call 20; refine (rcut_calls _ _).mono ?_; rintro e w' ⟨rfl, rfl⟩) | (go_at_call 22; refine (rpart_calls _ _ _ _).mono ?_; rintro e w' ⟨rfl, rfl⟩))
      go_ret3
      exact ⟨ret3 (by rw [HE.out, wl3 h12]) rfl (by rw [wr3 h12]), below_drewN hbel _⟩
  · have e14 : (k14 == 6) = false := by simpa using h14
    by_cases h12 : k12 = 6
    · have HMR0 := Lib.hid (HMR.out h12)
      subst h12
      have HE : Hid (r - N - rim - ml - mr = r - N - rim - ml) := by show _ = _; rw [HMR0.out, Int.sub_zero]
      go_enter Try.func34, Try.ntmps34
      go_wp2_with (first | (go_at_call 20; refine (rcut_calls _ _).mono ?_; rintro e w' ⟨rfl, rfl⟩; try rw [← HR.out]) | (refine wpList_load_row rfl 38 _ rfl w.heap.size rfl 38 (sty zs) (0, 0) _ (by repeat (first | exact b0 | refine Blk.alloc ?_ _)) Try.underlying38 rfl HSZ.out ?_) | (go_at_call 67; refine (HRI.out _).mono ?_; rintro e w1 ⟨rfl, hb1⟩; have b0 := b0.below hb1 b0.lt; have hbel := below_then hbel hb1) | (go_at_call 32; refine (HED.out _).mono ?_; rintro e w3 ⟨rfl, hb3⟩; have b0 := b0.below hb3 b0.lt; have hbel := below_then hbel hb3) | (go_at_call 68; refine (HBD.out _).mono ?_; rintro e w4 ⟨rfl, hb4⟩; have be := (Blk.new w3 41 #[.int .i64 mt, .int .i64 mr, .int .i64 mb, .int .i64 ml]).below hb4 (Blk.new w3 41 #[.int .i64 mt, .int .i64 mr, .int .i64 mb, .int .i64 ml]).lt; have b0 := (b0.alloc (.cells #[.int .i64 mt, .int .i64 mr, .int .i64 mb, .int .i64 ml] 41)).below hb4 (b0.alloc (.cells #[.int .i64 mt, .int .i64 mr, .int .i64 mb, .int .i64 ml] 41)).lt; have hbel := below_then (below_alloc hbel (.cells #[.int .i64 mt, .int .i64 mr, .int .i64 mb, .int .i64 ml] 41)) hb4; have e1 : w4.cell? ⟨w3.heap.size, 1, none⟩ = some (.int .i64 mr) := be.cell 1; have e3 : w4.cell? ⟨w3.heap.size, 3, none⟩ = some (.int .i64 ml) := be.cell 3; have c28 : w4.cell? ⟨w.heap.size, 28, none⟩ = _ := (b0.cell _).trans HK14.out; have c24 : w4.cell? ⟨w.heap.size, 24, none⟩ = _ := (b0.cell _).trans HK12.out))
      go_quiet (fail)
      go_wp2_with (first | (go_at_call 20; refine (rcut_calls _ _).mono ?_; rintro e w' ⟨rfl, rfl⟩) | (go_at_call 22; refine (rpart_calls _ _ _ _).mono ?_; rintro e w' ⟨rfl, rfl⟩))
      go_ret3
      exact ⟨ret3 (by rw [wl4 h14]) rfl (by rw [HE.out, wr4 h14, HMR0.out, Int.zero_add]), below_drewN hbel _⟩
    · have e12 : (k12 == 6) = false := by simpa using h12
      go_enter Try.func34, Try.ntmps34
      go_wp2_with (first | (go_at_call 20; refine (rcut_calls _ _).mono ?_; rintro e w' ⟨rfl, rfl⟩; try rw [← HR.out]) | (refine wpList_load_row rfl 38 _ rfl w.heap.size rfl 38 (sty zs) (0, 0) _ (by repeat (first | exact b0 | refine Blk.alloc ?_ _)) Try.underlying38 rfl HSZ.out ?_) | (go_at_call 67; refine (HRI.out _).mono ?_; rintro e w1 ⟨rfl, hb1⟩; have b0 := b0.below hb1 b0.lt; have hbel := below_then hbel hb1) | (go_at_call 32; refine (HED.out _).mono ?_; rintro e w3 ⟨rfl, hb3⟩; have b0 := b0.below hb3 b0.lt; have hbel := below_then hbel hb3) | (go_at_call 68; refine (HBD.out _).mono ?_; rintro e w4 ⟨rfl, hb4⟩; have be := (Blk.new w3 41 #[.int .i64 mt, .int .i64 mr, .int .i64 mb, .int .i64 ml]).below hb4 (Blk.new w3 41 #[.int .i64 mt, .int .i64 mr, .int .i64 mb, .int .i64 ml]).lt; have b0 := (b0.alloc (.cells #[.int .i64 mt, .int .i64 mr, .int .i64 mb, .int .i64 ml] 41)).below hb4 (b0.alloc (.cells #[.int .i64 mt, .int .i64 mr, .int .i64 mb, .int .i64 ml] 41)).lt; have hbel := below_then (below_alloc hbel (.cells #[.int .i64 mt, .int .i64 mr, .int .i64 mb, .int .i64 ml] 41)) hb4; have e1 : w4.cell? ⟨w3.heap.size, 1, none⟩ = some (.int .i64 mr) := be.cell 1; have e3 : w4.cell? ⟨w3.heap.size, 3, none⟩ = some (.int .i64 ml) := be.cell 3; have c28 : w4.cell? ⟨w.heap.size, 28, none⟩ = _ := (b0.cell _).trans HK14.out; have c24 : w4.cell? ⟨w.heap.size, 24, none⟩ = _ := (b0.cell _).trans HK12.out))
      go_quiet (fail)
      go_wp2_with (first | (go_at_call 20; refine (rcut_calls _ _).mono ?_; rintro e w' ⟨rfl, rfl⟩) | (go_at_call 22; refine (rpart_calls _ _ _ _).mono ?_; rintro e w' ⟨rfl, rfl⟩))
      go_ret3
      exact ⟨ret3 (by rw [wl4 h14]) rfl (by rw [wr4 h14]), below_drewN hbel _⟩
end Go.Proofs.Ytpinfaoeggipmaa
