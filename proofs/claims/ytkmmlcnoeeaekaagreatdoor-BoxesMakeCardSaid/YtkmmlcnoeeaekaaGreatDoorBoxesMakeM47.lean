/- Several texts in one: BxLw. -/
import Derived.Test.YtkmmlcnoeeaekaaGreatDoorBoxesMakeM40
import Derived.Test.YtkmmlcnoeeaekaaGreatDoorBoxesMakeM46
import Derived.Test.YtkmmlcnoeeaekaaGreatDoorBoxesMakeM19
import Derived.Test.YtkmmlcnoeeaekaaGreatDoorBoxesMakeM17
/- The walk of BoxesMake. -/
namespace Go.Proofs.YtkmmlcnoeeaekaaGreatDoor
open Go.RowKit
set_option linter.unusedVariables false
set_option linter.unusedSimpArgs false

/-- What is known of the arguments. -/
structure BxV.came (I : BxV) (w : World) : Prop where
  hn : I.ns.length = I.n
  nodes : Nodes w w.heap.size I.A I.ns
  n0 : I.n ≤ 140737488355328
  hl : I.lz.length = I.nl * 118
  looks : Holds w w.heap.size I.Al (ints I.lz)
  nl0 : I.nl ≤ 140737488355328
set_option maxRecDepth 100000 in
set_option maxHeartbeats 8000000 in
theorem boxesMake_bad (I : BxV) (q : Bool) (w : World) (h : I.came w) (hne : sfitsE I.ns I.nl I.lz ≠ 0) :
    Calls Tryz.prog 3 #[.agg #[.slice I.A I.n I.c, .bool q], .slice I.Al I.nl I.cl] w fun e w' => e = .returned (.bool true) ∧ Below w.heap.size w w' := by
  have HD := Lib.hid (Blk.new w 24 #[.slice I.A I.n I.c, .bool q])
  have HW := Lib.hid (below_alloc (Below.refl w.heap.size w) (.cells #[.slice I.A I.n I.c, .bool q] 24))
  have HMK := Lib.hid (fun w' (hb : Below w.heap.size w w') => makeBad_calls I.A I.n I.c w.heap.size q I.ns I.Al I.nl I.cl I.lz w' h.hn (h.nodes.below hb (Nat.le_refl _)) hb.size h.n0 h.hl (h.looks.below hb (Nat.le_refl _)) h.nl0 hne)
  have HWR := Lib.hid (fun w' (hb : Below w.heap.size w w') => wrong_calls I.A I.n I.c w.heap.size q I.ns I.Al I.nl I.cl I.lz w' h.hn (h.nodes.below hb (Nat.le_refl _)) hb.size h.n0 h.hl (h.looks.below hb (Nat.le_refl _)) h.nl0)
  unfold MakeBad at HMK
  obtain ⟨r, hr⟩ : ∃ r, r = sfitsE I.ns I.nl I.lz := ⟨_, rfl⟩
  rw [← hr] at HMK HWR hne
  have q1 : (r != 0) = true := by simp [hne]
  have q2 : (r == r) = true := by simp
  clear hr hne h
  go_enter Tryz.func3, Tryz.ntmps3
  go_wp2_with (first | (go_at_call 6; refine (HMK.out _ HW.out).mono ?_; rintro e w1 ⟨rfl, hb1⟩; have HB1 := Lib.hid (below_then HW.out hb1); have d0 : w1.cell? ⟨w.heap.size, 0, none⟩ = some (.slice I.A I.n I.c) := (HD.out.below hb1 HD.out.lt).cell 0; have d1 : w1.cell? ⟨w.heap.size, 1, none⟩ = some (.bool q) := (HD.out.below hb1 HD.out.lt).cell 1; clear hb1) | (go_at_call 7; refine (HWR.out w1 HB1.out).mono ?_; rintro e w2 ⟨rfl, hb2⟩; have HB2 := Lib.hid (below_then HB1.out hb2); clear hb2) | (go_at_call 8; refine (boxed_calls _).mono ?_; rintro e w3 ⟨rfl, hb3⟩; have HB3 := Lib.hid (below_then HB2.out hb3); clear hb3))
  go_ret
  exact ⟨rfl, HB3.out⟩
set_option maxRecDepth 100000 in
set_option maxHeartbeats 8000000 in
theorem boxesMake_ok (I : BxV) (q : Bool) (w : World) (h : I.came w) (hfit : sfitsE I.ns I.nl I.lz = 0) :
    Calls Tryz.prog 3 #[.agg #[.slice I.A I.n I.c, .bool q], .slice I.Al I.nl I.cl] w fun e w' => e = .returned (.bool true) ∧ Below w.heap.size w w' := by
  have hc : checkE I.ns = 0 := by
    unfold sfitsE at hfit
    split at hfit
    · rename_i h1; exact absurd hfit h1
    · rename_i h1; exact Classical.not_not.1 h1
  have hsame : I.nl = I.n := by
    unfold sfitsE at hfit
    rw [if_neg (by rw [hc]; simp)] at hfit
    split at hfit
    · cases hfit
    · rename_i h1; rw [← h.hn]; exact Classical.not_not.1 h1
  have hn2 : I.n ≤ 200 := by have := (docOk hc).len; have := h.hn; omega
  have hok : I.ok w w.heap.size := { hn := h.hn, nodes := h.nodes, hl := h.hl, looks := h.looks, same := hsame, n0 := hn2 }
  have hnl2 : I.nl ≤ 200 := by omega
  have HD := Lib.hid (Blk.new w 24 #[.slice I.A I.n I.c, .bool q])
  have HW := Lib.hid (below_alloc (Below.refl w.heap.size w) (.cells #[.slice I.A I.n I.c, .bool q] 24))
  have HOK := Lib.hid (fun w' (hb : Below w.heap.size w w') => (hok.below hb (Nat.le_refl _)).more hb.size)
  have HMK := Lib.hid (fun w' (hb : Below w.heap.size w w') => makeOk_calls I hc q w' (HOK.out w' hb) hfit)
  have HWR := Lib.hid (fun w' (hb : Below w.heap.size w w') => wrong_calls I.A I.n I.c w.heap.size q I.ns I.Al I.nl I.cl I.lz w' h.hn (h.nodes.below hb (Nat.le_refl _)) hb.size h.n0 h.hl (h.looks.below hb (Nat.le_refl _)) h.nl0)
  have HBO := Lib.hid (fun w' (hb : Below w.heap.size w w') => rboxes_calls I hc q w' (HOK.out w' hb) (root_le I hc))
  have hsz : (flatR ((docB I (docOk hc)).rootT 0) (-1) []).length ≤ 2000 := by rw [flatR_size]; have := root_le I hc; simp; omega
  have HSZ9 := Lib.hid hsz
  rw [hfit] at HWR
  unfold MakeOk at HMK
  unfold ListSays at HBO
  have HL := Lib.hid h.hl
  have HSM := Lib.hid hsame
  generalize flatR ((docB I (docOk hc)).rootT 0) (-1) [] = S9 at HMK HBO HSZ9
  obtain ⟨AL, hAL⟩ : ∃ AL, AL = I.Al := ⟨_, rfl⟩
  rw [← hAL] at HMK HWR HBO ⊢
  have HAL := Lib.hid hAL
  clear h hc hsame hn2 hok hfit hsz hAL
  go_enter Tryz.func3, Tryz.ntmps3
  go_upto_region 6 with (first | (go_at_call 6; refine (HMK.out _ HW.out).mono ?_; rintro e w1 ⟨A1, n1, c1, base1, rs1, rfl, hn1, hl1, hf1, hm1, hb1⟩; have HN1 := Lib.hid hn1; have HL1 := Lib.hid hl1; have HF1 := Lib.hid hf1; have HM1 := Lib.hid hm1; have HB1 := Lib.hid (below_then HW.out hb1); have HD1 := Lib.hid (HD.out.below hb1 HD.out.lt); have d0 : w1.cell? ⟨w.heap.size, 0, none⟩ = some (.slice I.A I.n I.c) := HD1.out.cell 0; have d1 : w1.cell? ⟨w.heap.size, 1, none⟩ = some (.bool q) := HD1.out.cell 1; clear hn1 hl1 hf1 hm1 hb1) | (go_at_call 7; refine (HWR.out w1 HB1.out).mono ?_; rintro e w2 ⟨rfl, hb2⟩; have HB2 := Lib.hid (below_then HB1.out hb2); have HD2 := Lib.hid (HD1.out.below hb2 HD1.out.lt); have HL2 := Lib.hid (HL1.out.below hb2); clear hb2))
  go_loopw [34] (fun i wr => ∃ k : Nat, k ≤ I.nl ∧ i = .int .i64 k ∧ Hid (Below w2.heap.size w2 wr)) (fun i _ => I.nl - (intOf i).toNat)
  case atStart => exact ⟨0, Nat.zero_le _, rfl, Below.refl _ _⟩
  case round =>
    obtain ⟨k, hk, rfl, HB⟩ := hrel
    by_cases hlt : k < I.nl
    · have hkn : k < I.n := by have := HSM.out; omega
      have hokr := HOK.out wr (below_then HB2.out HB.out)
      obtain ⟨b, off, hA, hb, hr⟩ := hokr.row hkn
      rw [← HAL.out] at hA
      subst hA
      have hz : (I.sty k).length = 118 := BxV.sty_len HL.out hlt
      obtain ⟨zs, hzs⟩ : ∃ zs, zs = I.sty k := ⟨_, rfl⟩
      rw [← hzs] at hr hz
      have HR1 := Lib.hid hr
      have HSZ : Hid ((Tryz.prog.info? 35).map (·.size) = some (sty zs).toList.length) := by show _ = _; rw [Array.length_toList, sty_size, hz]; kernel_rfl
      have HLA := Lib.hid (sty_laid zs hz)
      have HZ := Lib.hid hz
      have HO := Lib.hid (fun w' => bout_calls zs w' hz)
      have HO2 := Lib.hid (fun w' => rout_calls zs w' hz)
      generalize outS zs = os at HO HO2
      have qo : (os != os) = false := by simp
      clear hr hzs hz hb hokr
      go_upto_region 8 with (first | (refine wpList_load_mid rfl 35 _ rfl b (off + k * 118) rfl (sty zs).toList _ HR1.out Tryz.underlying35 rfl HSZ.out ?_) | (refine wpList_store_mid rfl _ _ _ rfl wr.heap.size 0 (sty zs) rfl rfl (HLA.out wr).2.1 (HLA.out wr).1 (sty_one _) ?_; obtain ⟨w5, hw5, bS5, hb5, hsz5⟩ := (HLA.out wr).2.2; rw [hw5]; clear hw5; have HGZ := Lib.hid bS5; have HB5 := Lib.hid (below_then HB.out hb5); clear bS5 hb5 hsz5))
      generalize wr.heap.size = gz at HGZ ⊢
      have hS0 : (fun w' : World => w'.rangeAt gz 0 (sty zs).toList) (World.drew w5) := range_blk HGZ.out
      have HGZ : Hid (Blk (World.drew w5) gz 35 (sty zs)) := HGZ.out
      have HB5 : Hid (Below w2.heap.size w2 (World.drew w5)) := ⟨HB5.out.os, HB5.out.tape, HB5.out.output, HB5.out.size, HB5.out.block⟩
      clear HR1 HLA
      refine wp_region_noPanic ?_
      refine region_M (S := fun w' => w'.rangeAt gz 0 (sty zs).toList) (T := []) (by kernel_rfl) ?_
      generalize World.drew w5 = wd at HGZ HB5 hS0 ⊢
      refine anyM_take (i := 0) (oi := { dst := some 38, op := _, type := _, pos := _, after := _, guard := _ }) (v := _) rfl (by kernel_rfl) (fun _ _ _ h => h) (yieldsIf_load_mid (by kernel_rfl) _ _ rfl _ _ rfl (sty zs).toList _ (fun w' h => by simpa using h) Tryz.underlying35 rfl HSZ.out) hS0 ?_
      try simp only [Act.put, Array.toArray_toList, List.setIfInBounds_toArray, List.set_cons_zero, List.set_cons_succ]
      refine anyM_take (i := 2) (oi := { dst := some 40, op := _, type := _, pos := _, after := _, guard := _ }) (v := _) rfl (by kernel_rfl) (fun _ _ _ h => h) (yieldsIf_load_mid (by kernel_rfl) _ _ rfl _ _ rfl (sty zs).toList _ (fun w' h => by simpa using h) Tryz.underlying35 rfl HSZ.out) hS0 ?_
      try simp only [Act.put, Array.toArray_toList, List.setIfInBounds_toArray, List.set_cons_zero, List.set_cons_succ]
      refine anyM_one (i := 1) (by kernel_rfl) rfl (fun K hK => ?_)
      go_simp
      refine Calls.mono (HO.out _) ?_
      rintro e wo ⟨rfl, hbwo⟩
      replace HGZ := Lib.hid (HGZ.out.below hbwo HGZ.out.lt)
      replace HB5 := Lib.hid (below_then HB5.out hbwo)
      clear hbwo
      have hS0 : (fun w' : World => w'.rangeAt gz 0 (sty zs).toList) wo := range_blk HGZ.out
      refine hK.out _ _ (fun _ => hS0) ?_
      clear hK K
      try simp only [Act.put, Array.toArray_toList, List.setIfInBounds_toArray, List.set_cons_zero, List.set_cons_succ]
      refine anyM_one (i := 3) (by kernel_rfl) rfl (fun K hK => ?_)
      go_simp
      refine Calls.mono (HO2.out _) ?_
      rintro e wq ⟨rfl, hbwq⟩
      replace HGZ := Lib.hid (HGZ.out.below hbwq HGZ.out.lt)
      replace HB5 := Lib.hid (below_then HB5.out hbwq)
      clear hbwq
      have hS0 : (fun w' : World => w'.rangeAt gz 0 (sty zs).toList) wq := range_blk HGZ.out
      refine hK.out _ _ (fun _ => hS0) ?_
      clear hK K
      try simp only [Act.put, Array.toArray_toList, List.setIfInBounds_toArray, List.set_cons_zero, List.set_cons_succ]
      refine anyM_free (i := 4) (oi := { dst := some 42, op := _, type := _, pos := _, after := _, guard := _ }) (v := ?_) rfl (by kernel_rfl) (fun _ _ _ h => h) (Or.inl ⟨by kernel_rfl, ?_⟩) (fun _ => hS0) ?_
      rotate_left 1
      · (intro w hSw; (try dsimp only at hSw); go_simp; try with_reducible rfl)
      try simp only [Act.put, Array.toArray_toList, List.setIfInBounds_toArray, List.set_cons_zero, List.set_cons_succ]
      refine anyM_done (by kernel_rfl) ?_ _
      refine NoPanic.normal ?_
      clear hS0
      go_wp2_with fail
      go_round
      case rel => exact ⟨k + 1, by omega, by go_num, HB5.out⟩
      case measure => simp [intOf]; omega
    · obtain rfl : k = I.nl := by omega
      go_wp2_with (first | (go_at_call 8; refine (boxed_calls _).mono ?_; rintro e w3 ⟨rfl, hb3⟩; have HB3 := Lib.hid (below_then HB.out hb3); have HD3 := Lib.hid (HD2.out.below HB3.out HD2.out.lt); have e0 : w3.cell? ⟨w.heap.size, 0, none⟩ = some (.slice I.A I.n I.c) := HD3.out.cell 0; have e1 : w3.cell? ⟨w.heap.size, 1, none⟩ = some (.bool q) := HD3.out.cell 1; clear hb3) | (go_at_call 12; refine (HBO.out _ (below_then HB2.out HB3.out)).mono ?_; rintro e w4 ⟨A4, n4, c4, rs4, rfl, hn4, hl4, hm4, hb4⟩; have HB4 := Lib.hid (below_then HB3.out hb4); have HL4 := Lib.hid hl4; have hnn : n1 = n4 := (by have h5 := congrArg List.length (HM1.out.trans hm4.symm); rw [List.length_map, List.length_map] at h5; have h6 := HN1.out; omega); subst hnn; have HM4 := Lib.hid hm4; clear hn4 hl4 hm4 hb4) | (go_at_call 11; refine (sameBoxes_calls A1 A4 n1 c1 c4 _ _ rs1 rs4 w4 (HL2.out.below HB4.out) HL4.out HN1.out HF1.out (by have h1 := HSZ9.out; have h2 := HN1.out; rw [← HM1.out, List.length_map] at h1; omega) (HM1.out.trans HM4.out.symm)).mono ?_; rintro e w5 ⟨rfl, hb5⟩; have HB5 := Lib.hid (below_then HB2.out (below_then HB4.out hb5)); clear hb5))
      go_ret
      exact ⟨rfl, HB5.out⟩
theorem boxesMake_walk (I : BxV) (q : Bool) (w : World) (h : I.came w) :
    Calls Tryz.prog 3 #[.agg #[.slice I.A I.n I.c, .bool q], .slice I.Al I.nl I.cl] w fun e w' => e = .returned (.bool true) ∧ Below w.heap.size w w' := by
  by_cases hf : sfitsE I.ns I.nl I.lz = 0
  · exact boxesMake_ok I q w h hf
  · exact boxesMake_bad I q w h hf
end Go.Proofs.YtkmmlcnoeeaekaaGreatDoor
