/- Several texts in one: StkE. -/
import Derived.Test.YtkmmlcnoeeaekaaGreatDoorPaintListM26
/- Contracts of the reference's small functions of a fragment: z, rank, pocket, phase, owner. -/
namespace Go.Proofs.YtkmmlcnoeeaekaaGreatDoor
open Go.RowKit
set_option linter.unusedVariables false
set_option linter.unusedSimpArgs false

set_option maxRecDepth 100000 in
set_option maxHeartbeats 2000000 in
theorem rz_calls (L : LayV) (B gS k : Nat) (v : Value) (w : World) (h : RSt L B gS v w) (hk : k < L.nf) :
    Calls Tryz.prog 139 #[.pointer (some ⟨gS, 0, none⟩), .int .i64 (k : Nat)] w fun e w' => e = .returned (.int .i64 (L.zF k)) ∧ Below w.heap.size w w' := by
  have hlk := fun w (h : RSt L B gS v w) => rlook_calls L B gS k v w h hk
  have hz := h.lay.len (L.bi k)
  have hzb := h.lay.z64 (L.bi k) (h.lay.bi_lt hk).1
  obtain ⟨zs, hzs⟩ : ∃ x, x = L.st k := ⟨_, rfl⟩
  have e : L.zF k = if stN zs 1 != 0 && stK zs 31 == 4 then stN zs 31 / 1000 else 0 := by unfold LayV.zF zK; rw [hzs]
  have hz' : zs.length = 118 := by rw [hzs]; exact hz
  have hzb' : -9223372036854775808 ≤ stN zs 31 ∧ stN zs 31 ≤ 9223372036854775807 := by rw [hzs]; exact hzb
  rw [← hzs] at hlk
  rw [e]
  have p1 : (sty zs)[3]? = some (.int .i64 (stN zs 1)) := sty_at zs 3 (by omega)
  have z0 : (sty zs)[62]? = some (.int .i64 (stK zs 31)) := sty_at zs 62 (by omega)
  have z1 : (sty zs)[63]? = some (.int .i64 (stN zs 31)) := sty_at zs 63 (by omega)
  obtain ⟨pos, hpos⟩ : ∃ x, x = stN zs 1 := ⟨_, rfl⟩
  obtain ⟨zk, hzk⟩ : ∃ x, x = stK zs 31 := ⟨_, rfl⟩
  obtain ⟨zn, hzn⟩ : ∃ x, x = stN zs 31 := ⟨_, rfl⟩
  rw [← hpos] at p1 ⊢
  rw [← hzk] at z0 ⊢
  rw [← hzn] at z1 hzb' ⊢
  have HLK := Lib.hid hlk
  have HLAID := Lib.hid (fun w => look_laid zs hz' w)
  have HDN := Lib.hid (fun w => down3_calls zn w hzb'.1 hzb'.2)
  have H := Lib.hid h
  have hbel := Below.refl w.heap.size w
  have P1 := Lib.hid p1
  have Z0 := Lib.hid z0
  have Z1 := Lib.hid z1
  clear hlk e hzs h hz hz' hpos hzk hzn p1 z0 z1 hzb hzb'
  by_cases hp : pos = 0
  · have q1 : (pos != 0) = false := by simp [hp]
    have q1' : (pos == 0) = true := by simp [hp]
    rw [q1]
    simp only [Bool.false_and, Bool.false_eq_true, if_false]
    clear hp
    go_enter Tryz.func139, Tryz.ntmps139
    go_upto_region 2 with (first | (go_at_call 142; refine (HLK.out _ (H.out.below hbel)).mono ?_; rintro e w1 ⟨rfl, hb1⟩; have hbel := below_then hbel hb1) | (refine wpList_store_mid rfl _ _ _ rfl w1.heap.size 0 (sty zs) rfl rfl (HLAID.out w1).2.1 (HLAID.out w1).1 (sty_one _) ?_; obtain ⟨w2, hw2, bS, hb2, hsz2⟩ := (HLAID.out w1).2.2; rw [hw2]; clear hw2; have hbel := below_then hbel hb2; have p1 : w2.cell? ⟨w1.heap.size, 3, none⟩ = some (.int .i64 pos) := (bS.cell 3).trans P1.out; have z0 : w2.cell? ⟨w1.heap.size, 62, none⟩ = some (.int .i64 zk) := (bS.cell 62).trans Z0.out; have z1 : w2.cell? ⟨w1.heap.size, 63, none⟩ = some (.int .i64 zn) := (bS.cell 63).trans Z1.out))
    go_wp2_with fail
    go_ret
    exact ⟨rfl, hbel⟩
  · have q1 : (pos != 0) = true := by simp [hp]
    have q1' : (pos == 0) = false := by simp [hp]
    rw [q1]
    clear hp
    by_cases h4 : zk = 4
    · have q4 : (zk == 4) = true := by simp [h4]
      have q4' : (zk != 4) = false := by simp [h4]
      rw [q4]
      simp only [Bool.and_self, if_true]
      clear h4
      go_enter Tryz.func139, Tryz.ntmps139
      go_upto_region 2 with (first | (go_at_call 142; refine (HLK.out _ (H.out.below hbel)).mono ?_; rintro e w1 ⟨rfl, hb1⟩; have hbel := below_then hbel hb1) | (refine wpList_store_mid rfl _ _ _ rfl w1.heap.size 0 (sty zs) rfl rfl (HLAID.out w1).2.1 (HLAID.out w1).1 (sty_one _) ?_; obtain ⟨w2, hw2, bS, hb2, hsz2⟩ := (HLAID.out w1).2.2; rw [hw2]; clear hw2; have hbel := below_then hbel hb2; have p1 : w2.cell? ⟨w1.heap.size, 3, none⟩ = some (.int .i64 pos) := (bS.cell 3).trans P1.out; have z0 : w2.cell? ⟨w1.heap.size, 62, none⟩ = some (.int .i64 zk) := (bS.cell 62).trans Z0.out; have z1 : w2.cell? ⟨w1.heap.size, 63, none⟩ = some (.int .i64 zn) := (bS.cell 63).trans Z1.out))
      go_wp2_with (go_at_call 171; refine (HDN.out _).mono ?_; rintro e w' ⟨rfl, rfl⟩)
      go_ret
      exact ⟨rfl, hbel⟩
    · have q4 : (zk == 4) = false := by simpa using h4
      have q4' : (zk != 4) = true := by simpa using h4
      rw [q4]
      simp only [Bool.and_false, Bool.false_eq_true, if_false]
      clear h4
      go_enter Tryz.func139, Tryz.ntmps139
      go_upto_region 2 with (first | (go_at_call 142; refine (HLK.out _ (H.out.below hbel)).mono ?_; rintro e w1 ⟨rfl, hb1⟩; have hbel := below_then hbel hb1) | (refine wpList_store_mid rfl _ _ _ rfl w1.heap.size 0 (sty zs) rfl rfl (HLAID.out w1).2.1 (HLAID.out w1).1 (sty_one _) ?_; obtain ⟨w2, hw2, bS, hb2, hsz2⟩ := (HLAID.out w1).2.2; rw [hw2]; clear hw2; have hbel := below_then hbel hb2; have p1 : w2.cell? ⟨w1.heap.size, 3, none⟩ = some (.int .i64 pos) := (bS.cell 3).trans P1.out; have z0 : w2.cell? ⟨w1.heap.size, 62, none⟩ = some (.int .i64 zk) := (bS.cell 62).trans Z0.out; have z1 : w2.cell? ⟨w1.heap.size, 63, none⟩ = some (.int .i64 zn) := (bS.cell 63).trans Z1.out))
      go_wp2_with fail
      go_ret
      exact ⟨rfl, hbel⟩
theorem rrank_calls (L : LayV) (B gS k : Nat) (v : Value) (w : World) (h : RSt L B gS v w) (hk : k < L.nf) :
    Calls Tryz.prog 88 #[.pointer (some ⟨gS, 0, none⟩), .int .i64 (k : Nat)] w fun e w' => e = .returned (.int .i64 (L.rankF k)) ∧ Below w.heap.size w w' := by
  have hla := fun w (h : RSt L B gS v w) => rlayer_calls L B gS k v w h hk
  have hzz := fun w (h : RSt L B gS v w) => rz_calls L B gS k v w h hk
  have e : L.rankF k = if L.layerF k then L.zF k else 0 := rfl
  rw [e]
  obtain ⟨la, hlae⟩ : ∃ x, x = L.layerF k := ⟨_, rfl⟩
  rw [← hlae] at hla ⊢
  obtain ⟨z, hze⟩ : ∃ x, x = L.zF k := ⟨_, rfl⟩
  rw [← hze] at hzz ⊢
  have H := Lib.hid h
  have HZ := Lib.hid hzz
  have hbel := Below.refl w.heap.size w
  clear e h hzz hlae hze
  cases la
  · have HLA := Lib.hid hla
    clear hla
    simp only [Bool.false_eq_true, if_false]
    go_enter Tryz.func88, Tryz.ntmps88
    go_wp2_with (first | (go_at_call 90; refine (HLA.out _ (H.out.below hbel)).mono ?_; rintro e w3 ⟨rfl, hb3⟩; have hbel := below_then hbel hb3) | (go_at_call 139; refine (HZ.out _ (H.out.below hbel)).mono ?_; rintro e w3 ⟨rfl, hb3⟩; have hbel := below_then hbel hb3))
    go_ret
    exact ⟨rfl, hbel⟩
  · have HLA := Lib.hid hla
    clear hla
    simp only [if_true]
    go_enter Tryz.func88, Tryz.ntmps88
    go_wp2_with (first | (go_at_call 90; refine (HLA.out _ (H.out.below hbel)).mono ?_; rintro e w3 ⟨rfl, hb3⟩; have hbel := below_then hbel hb3) | (go_at_call 139; refine (HZ.out _ (H.out.below hbel)).mono ?_; rintro e w3 ⟨rfl, hb3⟩; have hbel := below_then hbel hb3))
    go_ret
    exact ⟨rfl, hbel⟩
set_option maxRecDepth 100000 in
set_option maxHeartbeats 1000000 in
theorem rOut_calls (zs : List Int) (hz : zs.length = 118) (w : World) :
    Calls Tryz.prog 10 #[.agg (sty zs)] w fun e w' => e = .returned (.int .i64 (outN (stN zs 1) (stN zs 2))) ∧ Below w.heap.size w w' := by
  have p1 : (sty zs)[3]? = some (.int .i64 (stN zs 1)) := sty_at zs 3 (by omega)
  have f1 : (sty zs)[5]? = some (.int .i64 (stN zs 2)) := sty_at zs 5 (by omega)
  obtain ⟨p, hp⟩ : ∃ x, x = stN zs 1 := ⟨_, rfl⟩
  obtain ⟨f, hf⟩ : ∃ x, x = stN zs 2 := ⟨_, rfl⟩
  rw [← hp] at p1 ⊢
  rw [← hf] at f1 ⊢
  have hbel := below_alloc (Below.refl w.heap.size w) (.cells (sty zs) 35)
  clear hp hf hz
  by_cases p2 : p = 2
  · subst p2
    have e : outN 2 f = 2 := by unfold outN; rw [if_pos (by omega)]
    rw [e]
    go_enter Tryz.func10, Tryz.ntmps10
    go_wp2_with fail
    go_ret
    exact ⟨rfl, hbel⟩
  have d2 : (p == 2) = false := by simpa using p2
  by_cases p3 : p = 3
  · subst p3
    have e : outN 3 f = 2 := by unfold outN; rw [if_pos (by omega)]
    rw [e]
    go_enter Tryz.func10, Tryz.ntmps10
    go_wp2_with fail
    go_ret
    exact ⟨rfl, hbel⟩
  have d3 : (p == 3) = false := by simpa using p3
  by_cases f1' : f = 1
  · subst f1'
    have e : outN p 1 = 1 := by unfold outN; rw [if_neg (by omega), if_pos (by omega)]
    rw [e]
    clear e p2 p3
    go_enter Tryz.func10, Tryz.ntmps10
    go_wp2_with fail
    go_ret
    exact ⟨rfl, hbel⟩
  have d4 : (f == 1) = false := by simpa using f1'
  by_cases f2 : f = 2
  · subst f2
    have e : outN p 2 = 1 := by unfold outN; rw [if_neg (by omega), if_pos (by omega)]
    rw [e]
    clear e p2 p3
    go_enter Tryz.func10, Tryz.ntmps10
    go_wp2_with fail
    go_ret
    exact ⟨rfl, hbel⟩
  have d5 : (f == 2) = false := by simpa using f2
  have e : outN p f = 0 := by unfold outN; rw [if_neg (by omega), if_neg (by omega)]
  rw [e]
  clear e p2 p3 f1' f2
  go_enter Tryz.func10, Tryz.ntmps10
  go_wp2_with fail
  go_ret
  exact ⟨rfl, hbel⟩
set_option maxRecDepth 100000 in
set_option maxHeartbeats 2000000 in
theorem rphase_calls (L : LayV) (B gS k : Nat) (v : Value) (w : World) (h : RSt L B gS v w) (hk : k < L.nf) :
    Calls Tryz.prog 87 #[.pointer (some ⟨gS, 0, none⟩), .int .i64 (k : Nat)] w fun e w' => e = .returned (.int .i64 (L.phaseF k)) ∧ Below w.heap.size w w' := by
  have hla := fun w (h : RSt L B gS v w) => rlayer_calls L B gS k v w h hk
  have hzz := fun w (h : RSt L B gS v w) => rz_calls L B gS k v w h hk
  have hwi := fun w (h : RSt L B gS v w) => rwithin_calls L B gS k v w h hk
  have hkd := fun w (h : RSt L B gS v w) => rkind_calls L B gS k v w h hk
  have hlk := fun w (h : RSt L B gS v w) => rlook_calls L B gS k v w h hk
  have hout := fun w => rOut_calls (L.st k) (h.lay.len (L.bi k)) w
  have e : L.phaseF k = if L.layerF k then (if L.zF k < 0 then 0 else 4) else if L.withinF k || L.kd k == 5 then 3 else if outN (stN (L.st k) 1) (stN (L.st k) 2) == 1 then 2 else 1 := rfl
  rw [e]
  obtain ⟨la, hlae⟩ : ∃ x, x = L.layerF k := ⟨_, rfl⟩
  rw [← hlae] at hla ⊢
  obtain ⟨z, hze⟩ : ∃ x, x = L.zF k := ⟨_, rfl⟩
  rw [← hze] at hzz ⊢
  obtain ⟨wi, hwie⟩ : ∃ x, x = L.withinF k := ⟨_, rfl⟩
  rw [← hwie] at hwi ⊢
  obtain ⟨kd, hkde⟩ : ∃ x, x = L.kd k := ⟨_, rfl⟩
  rw [← hkde] at hkd ⊢
  obtain ⟨zs, hzs⟩ : ∃ x, x = L.st k := ⟨_, rfl⟩
  rw [← hzs] at hlk hout ⊢
  obtain ⟨ou, hou⟩ : ∃ x, x = outN (stN zs 1) (stN zs 2) := ⟨_, rfl⟩
  rw [← hou] at hout ⊢
  have H := Lib.hid h
  have HZ := Lib.hid hzz
  have HKD := Lib.hid hkd
  have HLK := Lib.hid hlk
  have HOUT := Lib.hid hout
  have hbel := Below.refl w.heap.size w
  clear e h hzz hkd hlk hout hlae hze hwie hkde hzs hou
  cases la
  · have HLA := Lib.hid hla
    clear hla
    cases wi
    · have HWI := Lib.hid hwi
      clear hwi
      by_cases h5 : kd = 5
      · have q5 : (kd == 5) = true := by simp [h5]
        rw [q5]
        simp only [Bool.false_eq_true, if_false, Bool.or_true, if_true]
        clear h5
        go_enter Tryz.func87, Tryz.ntmps87
        go_wp2_with (first | (go_at_call 90; refine (HLA.out _ (H.out.below hbel)).mono ?_; rintro e w3 ⟨rfl, hb3⟩; have hbel := below_then hbel hb3) | (go_at_call 139; refine (HZ.out _ (H.out.below hbel)).mono ?_; rintro e w3 ⟨rfl, hb3⟩; have hbel := below_then hbel hb3) | (go_at_call 140; refine (HWI.out _ (H.out.below hbel)).mono ?_; rintro e w3 ⟨rfl, hb3⟩; have hbel := below_then hbel hb3) | (go_at_call 141; refine (HKD.out _ (H.out.below hbel)).mono ?_; rintro e w3 ⟨rfl, hb3⟩; have hbel := below_then hbel hb3) | (go_at_call 142; refine (HLK.out _ (H.out.below hbel)).mono ?_; rintro e w1 ⟨rfl, hb1⟩; have hbel := below_then hbel hb1) | (go_at_call 10; refine (HOUT.out _).mono ?_; rintro e w4 ⟨rfl, hb4⟩; have hbel := below_then hbel hb4))
        go_ret
        exact ⟨rfl, hbel⟩
      · have q5 : (kd == 5) = false := by simpa using h5
        rw [q5]
        clear h5
        by_cases h1 : ou = 1
        · have q1 : (ou == 1) = true := by simp [h1]
          rw [q1]
          simp only [Bool.false_eq_true, if_false, Bool.or_self, if_true]
          clear h1
          go_enter Tryz.func87, Tryz.ntmps87
          go_wp2_with (first | (go_at_call 90; refine (HLA.out _ (H.out.below hbel)).mono ?_; rintro e w3 ⟨rfl, hb3⟩; have hbel := below_then hbel hb3) | (go_at_call 139; refine (HZ.out _ (H.out.below hbel)).mono ?_; rintro e w3 ⟨rfl, hb3⟩; have hbel := below_then hbel hb3) | (go_at_call 140; refine (HWI.out _ (H.out.below hbel)).mono ?_; rintro e w3 ⟨rfl, hb3⟩; have hbel := below_then hbel hb3) | (go_at_call 141; refine (HKD.out _ (H.out.below hbel)).mono ?_; rintro e w3 ⟨rfl, hb3⟩; have hbel := below_then hbel hb3) | (go_at_call 142; refine (HLK.out _ (H.out.below hbel)).mono ?_; rintro e w1 ⟨rfl, hb1⟩; have hbel := below_then hbel hb1) | (go_at_call 10; refine (HOUT.out _).mono ?_; rintro e w4 ⟨rfl, hb4⟩; have hbel := below_then hbel hb4))
          go_ret
          exact ⟨rfl, hbel⟩
        · have q1 : (ou == 1) = false := by simpa using h1
          rw [q1]
          simp only [Bool.false_eq_true, if_false, Bool.or_self]
          clear h1
          go_enter Tryz.func87, Tryz.ntmps87
          go_wp2_with (first | (go_at_call 90; refine (HLA.out _ (H.out.below hbel)).mono ?_; rintro e w3 ⟨rfl, hb3⟩; have hbel := below_then hbel hb3) | (go_at_call 139; refine (HZ.out _ (H.out.below hbel)).mono ?_; rintro e w3 ⟨rfl, hb3⟩; have hbel := below_then hbel hb3) | (go_at_call 140; refine (HWI.out _ (H.out.below hbel)).mono ?_; rintro e w3 ⟨rfl, hb3⟩; have hbel := below_then hbel hb3) | (go_at_call 141; refine (HKD.out _ (H.out.below hbel)).mono ?_; rintro e w3 ⟨rfl, hb3⟩; have hbel := below_then hbel hb3) | (go_at_call 142; refine (HLK.out _ (H.out.below hbel)).mono ?_; rintro e w1 ⟨rfl, hb1⟩; have hbel := below_then hbel hb1) | (go_at_call 10; refine (HOUT.out _).mono ?_; rintro e w4 ⟨rfl, hb4⟩; have hbel := below_then hbel hb4))
          go_ret
          exact ⟨rfl, hbel⟩
    · have HWI := Lib.hid hwi
      clear hwi
      simp only [Bool.false_eq_true, if_false, Bool.true_or, if_true]
      go_enter Tryz.func87, Tryz.ntmps87
      go_wp2_with (first | (go_at_call 90; refine (HLA.out _ (H.out.below hbel)).mono ?_; rintro e w3 ⟨rfl, hb3⟩; have hbel := below_then hbel hb3) | (go_at_call 139; refine (HZ.out _ (H.out.below hbel)).mono ?_; rintro e w3 ⟨rfl, hb3⟩; have hbel := below_then hbel hb3) | (go_at_call 140; refine (HWI.out _ (H.out.below hbel)).mono ?_; rintro e w3 ⟨rfl, hb3⟩; have hbel := below_then hbel hb3) | (go_at_call 141; refine (HKD.out _ (H.out.below hbel)).mono ?_; rintro e w3 ⟨rfl, hb3⟩; have hbel := below_then hbel hb3) | (go_at_call 142; refine (HLK.out _ (H.out.below hbel)).mono ?_; rintro e w1 ⟨rfl, hb1⟩; have hbel := below_then hbel hb1) | (go_at_call 10; refine (HOUT.out _).mono ?_; rintro e w4 ⟨rfl, hb4⟩; have hbel := below_then hbel hb4))
      go_ret
      exact ⟨rfl, hbel⟩
  · have HLA := Lib.hid hla
    have HWI := Lib.hid hwi
    clear hla hwi
    simp only [if_true]
    by_cases hz : z < 0
    · have qz : decide (z < 0) = true := decide_eq_true hz
      rw [if_pos hz]
      go_enter Tryz.func87, Tryz.ntmps87
      go_wp2_with (first | (go_at_call 90; refine (HLA.out _ (H.out.below hbel)).mono ?_; rintro e w3 ⟨rfl, hb3⟩; have hbel := below_then hbel hb3) | (go_at_call 139; refine (HZ.out _ (H.out.below hbel)).mono ?_; rintro e w3 ⟨rfl, hb3⟩; have hbel := below_then hbel hb3) | (go_at_call 140; refine (HWI.out _ (H.out.below hbel)).mono ?_; rintro e w3 ⟨rfl, hb3⟩; have hbel := below_then hbel hb3) | (go_at_call 141; refine (HKD.out _ (H.out.below hbel)).mono ?_; rintro e w3 ⟨rfl, hb3⟩; have hbel := below_then hbel hb3) | (go_at_call 142; refine (HLK.out _ (H.out.below hbel)).mono ?_; rintro e w1 ⟨rfl, hb1⟩; have hbel := below_then hbel hb1) | (go_at_call 10; refine (HOUT.out _).mono ?_; rintro e w4 ⟨rfl, hb4⟩; have hbel := below_then hbel hb4))
      go_ret
      exact ⟨rfl, hbel⟩
    · have qz : decide (z < 0) = false := decide_eq_false hz
      rw [if_neg hz]
      go_enter Tryz.func87, Tryz.ntmps87
      go_wp2_with (first | (go_at_call 90; refine (HLA.out _ (H.out.below hbel)).mono ?_; rintro e w3 ⟨rfl, hb3⟩; have hbel := below_then hbel hb3) | (go_at_call 139; refine (HZ.out _ (H.out.below hbel)).mono ?_; rintro e w3 ⟨rfl, hb3⟩; have hbel := below_then hbel hb3) | (go_at_call 140; refine (HWI.out _ (H.out.below hbel)).mono ?_; rintro e w3 ⟨rfl, hb3⟩; have hbel := below_then hbel hb3) | (go_at_call 141; refine (HKD.out _ (H.out.below hbel)).mono ?_; rintro e w3 ⟨rfl, hb3⟩; have hbel := below_then hbel hb3) | (go_at_call 142; refine (HLK.out _ (H.out.below hbel)).mono ?_; rintro e w1 ⟨rfl, hb1⟩; have hbel := below_then hbel hb1) | (go_at_call 10; refine (HOUT.out _).mono ?_; rintro e w4 ⟨rfl, hb4⟩; have hbel := below_then hbel hb4))
      go_ret
      exact ⟨rfl, hbel⟩
end Go.Proofs.YtkmmlcnoeeaekaaGreatDoor
