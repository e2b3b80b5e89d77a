/- Several texts in one: BxSa. -/
import Derived.Test.YtkmmlcnoeeaekaaGreatDoorBoxesMakeM44
/- Contract of the reference's Box, case by case. -/
namespace Go.Proofs.YtkmmlcnoeeaekaaGreatDoor
open Go.RowKit Go.Maps
set_option linter.unusedVariables false
set_option linter.unusedSimpArgs false

set_option maxRecDepth 100000 in
set_option maxHeartbeats 8000000 in
theorem rboxText_calls (I : BxV) (hc : checkE I.ns = 0) (base gM bK r k : Nat) (IH : DeepSays I hc base gM bK r) (hk : k < I.n) (hrk : rankN I.ns k ≤ r) (hnk : (docB I (docOk hc)).nk k = 3 ∨ (docB I (docOk hc)).nk k = 2) (hkd : (docB I (docOk hc)).kindN k = 4) (O : Nat → Prop) (S : List PBox) (w : World) (pr : Int) (h : RSB (docB I (docOk hc)) I base gM bK O w S) (hp : pr < S.length) (hsz : (flatR (.mk 4 k (if (docB I (docOk hc)).nk k = 3 then (docB I (docOk hc)).tx k else nlS) []) pr S).length ≤ 2000) :
    Calls Tryz.prog 74 #[.pointer (some ⟨gM, 0, none⟩), .int .i64 (k : Nat), .int .i64 pr] w (Puts (docB I (docOk hc)) I base gM bK (flatR (.mk 4 k (if (docB I (docOk hc)).nk k = 3 then (docB I (docOk hc)).tx k else nlS) []) pr S) O w) := by
  rw [flatR_size, tsz_mk] at hsz
  rw [flatR_put _ _ _ _ _ _ hp, flatPs]
  have hns := h.okI.hn
  have hcl := content_len I hc k
  obtain ⟨i1, i2, i3⟩ := IH.content hns hrk
  have h4 := Blk.new w 81 #[.pointer (some ⟨gM, 0, none⟩)]
  have hb4 := below_alloc (Below.refl w.heap.size w) (.cells #[.pointer (some ⟨gM, 0, none⟩)] 81)
  have H1 : Hid (BlkF O _ w.heap.size 81 #[.pointer (some ⟨gM, 0, none⟩)]) := ⟨h4, h.fresh (Nat.le_refl _)⟩
  have HR := Lib.hid (h.below hb4)
  have HT := Lib.hid (TurnW.below (O := O) hb4)
  have HCT := Lib.hid (fun (w' : World) (h' : RSB (docB I (docOk hc)) I base gM bK O w' S) => rcontent_held I hc base gM bK k O S w' h' hk)
  have HKD := Lib.hid (fun (w' : World) (h' : RSB (docB I (docOk hc)) I base gM bK O w' S) => kind_says I hc base gM bK hns hk O S w' h')
  unfold Tells at HKD
  unfold CtSays at HCT
  rw [hkd] at HKD
  have hok := h.okI
  obtain ⟨bn, on, bs, os, hA, hS, hnf⟩ := node_facts hok hk
  have hkb : k ≤ 200 := by have := hok.n0; omega
  have hkl : k < I.nl := by rw [hok.same]; exact hk
  have htx : (nd I.ns k).text.size ≤ 400 := text_le (docOk hc) (by rw [hok.hn]; exact hk)
  have HNF : Hid (∀ w', RSB (docB I (docOk hc)) I base gM bK O w' S → w'.cell? ⟨gM, 0, none⟩ = some (.slice (some ⟨bn, on, none⟩) I.n I.c) ∧ w'.cell? ⟨gM, 1, none⟩ = some (.slice (some ⟨bs, os, none⟩) I.nl I.cl) ∧ w'.cell? ⟨bn, on + k * 6 + 3, none⟩ = some (.string (nd I.ns k).text) ∧ w'.cell? ⟨bs, os + k * 118 + 86 + 1, none⟩ = some (.int .i64 (stN (I.sty k) 43)) ∧ w'.cell? ⟨bn, on + k * 6, none⟩ = some (.int .i64 (nd I.ns k).kind)) := fun w' h' => by
    obtain ⟨n1, n2, n3⟩ := hnf w' _ h'.okI
    exact ⟨by rw [← hA]; exact h'.mk.2.1, by rw [← hS]; exact h'.mk.2.2, n2, n3 43 (by omega), n1⟩
  have hnk' : (docB I (docOk hc)).nk k = (nd I.ns k).kind := rfl
  have htx' : (docB I (docOk hc)).tx k = turnS (stN (I.sty k) 43) (nd I.ns k).text := rfl
  rw [hnk'] at hnk ⊢
  rw [htx']
  have HTU := Lib.hid (fun w' => rturn_calls (nd I.ns k).text (stN (I.sty k) 43) w' htx)
  have HP := Lib.hid (fun (tx' : ByteArray) (w' : World) (h' : RSB (docB I (docOk hc)) I base gM bK O w' S) => put_calls (docB I (docOk hc)) I base gM bK 4 (k : Nat) pr tx' O S w' h' hp (by omega))
  unfold PutSays at HP
  unfold Puts
  generalize turnS (stN (I.sty k) 43) (nd I.ns k).text = tt at HTU ⊢
  generalize (nd I.ns k).text = tx at HNF HTU htx
  generalize stN (I.sty k) 43 = md at HNF HTU
  generalize (nd I.ns k).kind = nk at HNF hnk ⊢
  generalize S.length = sl at HP hsz hp
  generalize (docB I (docOk hc)).content k = CL at HCT
  clear hA hS hnf hnk' htx' hok htx hns hcl i1 i2 i3 h4 hb4 IH hrk hkd h hp hsz
  go_enter Tryz.func74, Tryz.ntmps74
  go_upto_region 1 with fail
  generalize World.alloc w _ = w1 at H1 HR HT ⊢
  generalize w.heap.size = g1 at H1 ⊢
  have c1 : w1.cell? ⟨g1, 0, none⟩ = some (.pointer (some ⟨gM, 0, none⟩)) := H1.out.1.cell 0
  go_upto_region 6 with (first | (go_at_call 35; refine (HCT.out _ HR.out).mono ?_; rintro e wc ⟨A', c', rfl, hh, hbc⟩; have HH := Lib.hid hh; replace HR := Lib.hid (HR.out.below hbc); replace HT := Lib.hid (HT.out.thenB hbc); replace H1 := Lib.hid (H1.out.below hbc); have c2 : wc.cell? ⟨g1, 0, none⟩ = some (.pointer (some ⟨gM, 0, none⟩)) := H1.out.1.cell 0; clear hh hbc c1) | (go_at_call 115; refine (HKD.out _ HR.out).mono ?_; rintro e wk ⟨rfl, hrk, htk⟩; replace HR := Lib.hid hrk; replace HT := Lib.hid (HT.out.trans htk); replace H1 := Lib.hid (H1.out.turn htk); replace HH := Lib.hid (HH.out.turn htk); have c3 : wk.cell? ⟨g1, 0, none⟩ = some (.pointer (some ⟨gM, 0, none⟩)) := H1.out.1.cell 0; clear hrk htk c2))
  replace HR := Lib.hid HR.out.drew
  replace HT := Lib.hid HT.out.drew
  replace H1 := Lib.hid H1.out.drew
  have hS0 : (fun w' : World => w'.cell? ⟨g1, 0, none⟩ = some (.pointer (some ⟨gM, 0, none⟩)) ∧ w'.cell? ⟨gM, 0, none⟩ = some (.slice (some ⟨bn, on, none⟩) I.n I.c) ∧ w'.cell? ⟨gM, 1, none⟩ = some (.slice (some ⟨bs, os, none⟩) I.nl I.cl) ∧ w'.cell? ⟨bn, on + k * 6 + 3, none⟩ = some (.string tx) ∧ w'.cell? ⟨bs, os + k * 118 + 86 + 1, none⟩ = some (.int .i64 md)) (World.drew wk) := ⟨H1.out.1.cell 0, (HNF.out _ HR.out).1, (HNF.out _ HR.out).2.1, (HNF.out _ HR.out).2.2.1, (HNF.out _ HR.out).2.2.2.1⟩
  clear c3
  refine wp_region_noPanic ?_
  refine region_M (S := fun w' => w'.cell? ⟨g1, 0, none⟩ = some (.pointer (some ⟨gM, 0, none⟩)) ∧ w'.cell? ⟨gM, 0, none⟩ = some (.slice (some ⟨bn, on, none⟩) I.n I.c) ∧ w'.cell? ⟨gM, 1, none⟩ = some (.slice (some ⟨bs, os, none⟩) I.nl I.cl) ∧ w'.cell? ⟨bn, on + k * 6 + 3, none⟩ = some (.string tx) ∧ w'.cell? ⟨bs, os + k * 118 + 86 + 1, none⟩ = some (.int .i64 md)) (T := []) (by kernel_rfl) ?_
  generalize World.drew wk = wd at HR HT H1 hS0 ⊢
  refine anyM_take (i := 0) (oi := { dst := some 25, op := _, type := _, pos := _, after := _, guard := _ }) (v := ?_) rfl (by kernel_rfl) (fun _ _ _ h => h) (Or.inl ⟨by kernel_rfl, ?_⟩) hS0 ?_
  rotate_left 1
  · (intro w hSw; (try dsimp only at hSw); go_simp; try with_reducible rfl)
  try simp only [Act.put, Array.toArray_toList, List.setIfInBounds_toArray, List.set_cons_zero, List.set_cons_succ]
  refine anyM_free (i := 1) (oi := { dst := some 26, op := _, type := _, pos := _, after := _, guard := _ }) (v := ?_) rfl (by kernel_rfl) (fun _ _ _ h => h) (Or.inl ⟨by kernel_rfl, ?_⟩) (fun _ => hS0) ?_
  rotate_left 1
  · (intro w hSw; (try dsimp only at hSw); go_simp; try with_reducible rfl)
  try simp only [Act.put, Array.toArray_toList, List.setIfInBounds_toArray, List.set_cons_zero, List.set_cons_succ]
  refine anyM_free (i := 2) (oi := { dst := some 27, op := _, type := _, pos := _, after := _, guard := _ }) (v := ?_) rfl (by kernel_rfl) (fun _ _ _ h => h) (Or.inl ⟨by kernel_rfl, ?_⟩) (fun _ => hS0) ?_
  rotate_left 1
  · (intro w hSw; (try dsimp only at hSw); go_simp; try with_reducible rfl)
  try simp only [Act.put, Array.toArray_toList, List.setIfInBounds_toArray, List.set_cons_zero, List.set_cons_succ]
  refine anyM_take (i := 3) (oi := { dst := some 28, op := _, type := _, pos := _, after := _, guard := _ }) (v := ?_) rfl (by kernel_rfl) (fun _ _ _ h => h) (Or.inl ⟨by kernel_rfl, ?_⟩) hS0 ?_
  rotate_left 1
  · (intro w hSw; (try dsimp only at hSw); go_simp; try with_reducible rfl)
  try simp only [Act.put, Array.toArray_toList, List.setIfInBounds_toArray, List.set_cons_zero, List.set_cons_succ]
  refine anyM_free (i := 4) (oi := { dst := some 29, op := _, type := _, pos := _, after := _, guard := _ }) (v := ?_) rfl (by kernel_rfl) (fun _ _ _ h => h) (Or.inl ⟨by kernel_rfl, ?_⟩) (fun _ => hS0) ?_
  rotate_left 1
  · (intro w hSw; (try dsimp only at hSw); go_simp; try with_reducible rfl)
  try simp only [Act.put, Array.toArray_toList, List.setIfInBounds_toArray, List.set_cons_zero, List.set_cons_succ]
  refine anyM_free (i := 5) (oi := { dst := some 30, op := _, type := _, pos := _, after := _, guard := _ }) (v := ?_) rfl (by kernel_rfl) (fun _ _ _ h => h) (Or.inl ⟨by kernel_rfl, ?_⟩) (fun _ => hS0) ?_
  rotate_left 1
  · (intro w hSw; (try dsimp only at hSw); go_simp; try with_reducible rfl)
  try simp only [Act.put, Array.toArray_toList, List.setIfInBounds_toArray, List.set_cons_zero, List.set_cons_succ]
  refine anyM_free (i := 6) (oi := { dst := some 31, op := _, type := _, pos := _, after := _, guard := _ }) (v := ?_) rfl (by kernel_rfl) (fun _ _ _ h => h) (Or.inl ⟨by kernel_rfl, ?_⟩) (fun _ => hS0) ?_
  rotate_left 1
  · (intro w hSw; (try dsimp only at hSw); go_simp; try with_reducible rfl)
  try simp only [Act.put, Array.toArray_toList, List.setIfInBounds_toArray, List.set_cons_zero, List.set_cons_succ]
  refine anyM_take (i := 7) (oi := { dst := some 32, op := _, type := _, pos := _, after := _, guard := _ }) (v := ?_) rfl (by kernel_rfl) (fun _ _ _ h => h) (Or.inl ⟨by kernel_rfl, ?_⟩) hS0 ?_
  rotate_left 1
  · (intro w hSw; (try dsimp only at hSw); go_simp; try with_reducible rfl)
  try simp only [Act.put, Array.toArray_toList, List.setIfInBounds_toArray, List.set_cons_zero, List.set_cons_succ]
  refine anyM_take (i := 8) (oi := { dst := some 33, op := _, type := _, pos := _, after := _, guard := _ }) (v := ?_) rfl (by kernel_rfl) (fun _ _ _ h => h) (Or.inl ⟨by kernel_rfl, ?_⟩) hS0 ?_
  rotate_left 1
  · (intro w hSw; (try dsimp only at hSw); go_simp; try with_reducible rfl)
  try simp only [Act.put, Array.toArray_toList, List.setIfInBounds_toArray, List.set_cons_zero, List.set_cons_succ]
  refine anyM_free (i := 9) (oi := { dst := some 34, op := _, type := _, pos := _, after := _, guard := _ }) (v := ?_) rfl (by kernel_rfl) (fun _ _ _ h => h) (Or.inl ⟨by kernel_rfl, ?_⟩) (fun _ => hS0) ?_
  rotate_left 1
  · (intro w hSw; (try dsimp only at hSw); go_simp; try with_reducible rfl)
  try simp only [Act.put, Array.toArray_toList, List.setIfInBounds_toArray, List.set_cons_zero, List.set_cons_succ]
  refine anyM_free (i := 10) (oi := { dst := some 35, op := _, type := _, pos := _, after := _, guard := _ }) (v := ?_) rfl (by kernel_rfl) (fun _ _ _ h => h) (Or.inl ⟨by kernel_rfl, ?_⟩) (fun _ => hS0) ?_
  rotate_left 1
  · (intro w hSw; (try dsimp only at hSw); go_simp; try with_reducible rfl)
  try simp only [Act.put, Array.toArray_toList, List.setIfInBounds_toArray, List.set_cons_zero, List.set_cons_succ]
  refine anyM_take (i := 11) (oi := { dst := some 36, op := _, type := _, pos := _, after := _, guard := _ }) (v := ?_) rfl (by kernel_rfl) (fun _ _ _ h => h) (Or.inl ⟨by kernel_rfl, ?_⟩) hS0 ?_
  rotate_left 1
  · (intro w hSw; (try dsimp only at hSw); go_simp; try with_reducible rfl)
  try simp only [Act.put, Array.toArray_toList, List.setIfInBounds_toArray, List.set_cons_zero, List.set_cons_succ]
  refine anyM_free (i := 12) (oi := { dst := some 37, op := _, type := _, pos := _, after := _, guard := _ }) (v := ?_) rfl (by kernel_rfl) (fun _ _ _ h => h) (Or.inl ⟨by kernel_rfl, ?_⟩) (fun _ => hS0) ?_
  rotate_left 1
  · (intro w hSw; (try dsimp only at hSw); go_simp; try with_reducible rfl)
  try simp only [Act.put, Array.toArray_toList, List.setIfInBounds_toArray, List.set_cons_zero, List.set_cons_succ]
  refine anyM_free (i := 13) (oi := { dst := some 38, op := _, type := _, pos := _, after := _, guard := _ }) (v := ?_) rfl (by kernel_rfl) (fun _ _ _ h => h) (Or.inl ⟨by kernel_rfl, ?_⟩) (fun _ => hS0) ?_
  rotate_left 1
  · (intro w hSw; (try dsimp only at hSw); go_simp; try with_reducible rfl)
  try simp only [Act.put, Array.toArray_toList, List.setIfInBounds_toArray, List.set_cons_zero, List.set_cons_succ]
  refine anyM_free (i := 14) (oi := { dst := some 39, op := _, type := _, pos := _, after := _, guard := _ }) (v := ?_) rfl (by kernel_rfl) (fun _ _ _ h => h) (Or.inl ⟨by kernel_rfl, ?_⟩) (fun _ => hS0) ?_
  rotate_left 1
  · (intro w hSw; (try dsimp only at hSw); go_simp; try with_reducible rfl)
  try simp only [Act.put, Array.toArray_toList, List.setIfInBounds_toArray, List.set_cons_zero, List.set_cons_succ]
  refine anyM_free (i := 15) (oi := { dst := some 40, op := _, type := _, pos := _, after := _, guard := _ }) (v := ?_) rfl (by kernel_rfl) (fun _ _ _ h => h) (Or.inl ⟨by kernel_rfl, ?_⟩) (fun _ => hS0) ?_
  rotate_left 1
  · (intro w hSw; (try dsimp only at hSw); go_simp; try with_reducible rfl)
  try simp only [Act.put, Array.toArray_toList, List.setIfInBounds_toArray, List.set_cons_zero, List.set_cons_succ]
  refine anyM_take (i := 16) (oi := { dst := some 41, op := _, type := _, pos := _, after := _, guard := _ }) (v := ?_) rfl (by kernel_rfl) (fun _ _ _ h => h) (Or.inl ⟨by kernel_rfl, ?_⟩) hS0 ?_
  rotate_left 1
  · (intro w hSw; (try dsimp only at hSw); go_simp; try with_reducible rfl)
  try simp only [Act.put, Array.toArray_toList, List.setIfInBounds_toArray, List.set_cons_zero, List.set_cons_succ]
  refine anyM_one (i := 17) (by kernel_rfl) rfl (fun K hK => ?_)
  go_simp
  refine Calls.mono (HTU.out _) ?_
  rintro e wt ⟨rfl, hbt⟩
  replace HR := Lib.hid (HR.out.below hbt)
  replace HT := Lib.hid (HT.out.thenB hbt)
  replace H1 := Lib.hid (H1.out.below hbt)
  clear hbt
  have hS0 : (fun w' : World => w'.cell? ⟨g1, 0, none⟩ = some (.pointer (some ⟨gM, 0, none⟩)) ∧ w'.cell? ⟨gM, 0, none⟩ = some (.slice (some ⟨bn, on, none⟩) I.n I.c) ∧ w'.cell? ⟨gM, 1, none⟩ = some (.slice (some ⟨bs, os, none⟩) I.nl I.cl) ∧ w'.cell? ⟨bn, on + k * 6 + 3, none⟩ = some (.string tx) ∧ w'.cell? ⟨bs, os + k * 118 + 86 + 1, none⟩ = some (.int .i64 md)) wt := ⟨H1.out.1.cell 0, (HNF.out _ HR.out).1, (HNF.out _ HR.out).2.1, (HNF.out _ HR.out).2.2.1, (HNF.out _ HR.out).2.2.2.1⟩
  refine hK.out _ _ (fun _ => hS0) ?_
  clear hK K
  try simp only [Act.put, Array.toArray_toList, List.setIfInBounds_toArray, List.set_cons_zero, List.set_cons_succ]
  refine anyM_free (i := 18) (oi := { dst := some 8, op := _, type := _, pos := _, after := _, guard := _ }) (v := ?_) rfl (by kernel_rfl) (fun _ _ _ h => h) (Or.inl ⟨by kernel_rfl, ?_⟩) (fun _ => hS0) ?_
  rotate_left 1
  · (intro w hSw; (try dsimp only at hSw); go_simp; try with_reducible rfl)
  try simp only [Act.put, Array.toArray_toList, List.setIfInBounds_toArray, List.set_cons_zero, List.set_cons_succ]
  refine anyM_done (by kernel_rfl) ?_ _
  refine NoPanic.normal ?_
  have d1 : wt.cell? ⟨g1, 0, none⟩ = some (.pointer (some ⟨gM, 0, none⟩)) := H1.out.1.cell 0
  obtain ⟨d2, d3, d4, d5, d6⟩ := HNF.out wt HR.out
  clear hS0
  rcases hnk with rfl | rfl
  · go_wp2_with (go_at_call 69; refine (HP.out _ _ HR.out).mono ?_; rintro e wp ⟨rfl, O1, hrp, htp⟩; have HR9 := Lib.hid hrp; have HT9 := Lib.hid (HT.out.trans htp); clear hrp htp)
    (try simp only [Exit.inBlock, Exit.then]); refine bodyPost_end (results_none rfl _ _ _) rfl ?_
    exact ⟨rfl, O1, HR9.out, HT9.out⟩
  · go_wp2_with (go_at_call 69; refine (HP.out _ _ HR.out).mono ?_; rintro e wp ⟨rfl, O1, hrp, htp⟩; have HR9 := Lib.hid hrp; have HT9 := Lib.hid (HT.out.trans htp); clear hrp htp)
    (try simp only [Exit.inBlock, Exit.then]); refine bodyPost_end (results_none rfl _ _ _) rfl ?_
    exact ⟨rfl, O1, HR9.out, HT9.out⟩
set_option maxRecDepth 100000 in
set_option maxHeartbeats 8000000 in
theorem rboxInl_calls (I : BxV) (hc : checkE I.ns = 0) (base gM bK r k : Nat) (IH : DeepSays I hc base gM bK r) (hk : k < I.n) (hrk : rankN I.ns k ≤ r) (hkd : (docB I (docOk hc)).kindN k = 3) (O : Nat → Prop) (S : List PBox) (w : World) (pr : Int) (h : RSB (docB I (docOk hc)) I base gM bK O w S) (hp : pr < S.length) (hsz : (flatR (.mk 3 k noS (((docB I (docOk hc)).content k).map (docB I (docOk hc)).box)) pr S).length ≤ 2000) :
    Calls Tryz.prog 74 #[.pointer (some ⟨gM, 0, none⟩), .int .i64 (k : Nat), .int .i64 pr] w (Puts (docB I (docOk hc)) I base gM bK (flatR (.mk 3 k noS (((docB I (docOk hc)).content k).map (docB I (docOk hc)).box)) pr S) O w) := by
  have hns := h.okI.hn
  have hcl := content_len I hc k
  obtain ⟨i1, i2, i3⟩ := IH.content hns hrk
  have h4 := Blk.new w 81 #[.pointer (some ⟨gM, 0, none⟩)]
  have hb4 := below_alloc (Below.refl w.heap.size w) (.cells #[.pointer (some ⟨gM, 0, none⟩)] 81)
  have H1 : Hid (BlkF O _ w.heap.size 81 #[.pointer (some ⟨gM, 0, none⟩)]) := ⟨h4, h.fresh (Nat.le_refl _)⟩
  have HR := Lib.hid (h.below hb4)
  have HT := Lib.hid (TurnW.below (O := O) hb4)
  have HCT := Lib.hid (fun (w' : World) (h' : RSB (docB I (docOk hc)) I base gM bK O w' S) => rcontent_held I hc base gM bK k O S w' h' hk)
  have HKD := Lib.hid (fun (w' : World) (h' : RSB (docB I (docOk hc)) I base gM bK O w' S) => kind_says I hc base gM bK hns hk O S w' h')
  unfold Tells at HKD
  unfold CtSays at HCT
  rw [hkd] at HKD
  have HPE := Lib.hid (fun (A : Option Addr) (c : Nat) => putEach_says (docB I (docOk hc)) I base gM bK 3 (k : Nat) pr ((docB I (docOk hc)).content k) A ((docB I (docOk hc)).content k).length c S rfl (by omega) hsz hp i3)
  unfold PutSays Puts at HPE
  unfold Puts
  generalize flatR (.mk 3 k noS (((docB I (docOk hc)).content k).map (docB I (docOk hc)).box)) pr S = S9 at HPE ⊢
  generalize putR 3 k pr noS S = S8 at HPE
  generalize hsl : S.length = sl at HPE
  generalize (docB I (docOk hc)).content k = CL at HCT HPE
  clear hsl hsz hns hcl i1 i2 i3 h4 hb4 IH hk hrk hkd h hp
  go_enter Tryz.func74, Tryz.ntmps74
  go_upto_region 1 with fail
  generalize World.alloc w _ = w1 at H1 HR HT ⊢
  generalize w.heap.size = g1 at H1 ⊢
  have c1 : w1.cell? ⟨g1, 0, none⟩ = some (.pointer (some ⟨gM, 0, none⟩)) := H1.out.1.cell 0
  go_upto_region 11 with (first | (go_at_call 35; refine (HCT.out _ HR.out).mono ?_; rintro e wc ⟨A', c', rfl, hh, hbc⟩; have HH := Lib.hid hh; replace HR := Lib.hid (HR.out.below hbc); replace HT := Lib.hid (HT.out.thenB hbc); replace H1 := Lib.hid (H1.out.below hbc); have c2 : wc.cell? ⟨g1, 0, none⟩ = some (.pointer (some ⟨gM, 0, none⟩)) := H1.out.1.cell 0; clear hh hbc c1) | (go_at_call 115; refine (HKD.out _ HR.out).mono ?_; rintro e wk ⟨rfl, hrk, htk⟩; replace HR := Lib.hid hrk; replace HT := Lib.hid (HT.out.trans htk); replace H1 := Lib.hid (H1.out.turn htk); replace HH := Lib.hid (HH.out.turn htk); have c3 : wk.cell? ⟨g1, 0, none⟩ = some (.pointer (some ⟨gM, 0, none⟩)) := H1.out.1.cell 0; clear hrk htk c2))
  replace HR := Lib.hid HR.out.drew
  replace HT := Lib.hid HT.out.drew
  replace H1 := Lib.hid H1.out.drew
  replace HH := Lib.hid HH.out.drew
  have hS0 : (fun w' : World => w'.cell? ⟨g1, 0, none⟩ = some (.pointer (some ⟨gM, 0, none⟩))) (World.drew wk) := H1.out.1.cell 0
  clear c3
  refine wp_region_noPanic ?_
  refine region_M (S := fun w' => w'.cell? ⟨g1, 0, none⟩ = some (.pointer (some ⟨gM, 0, none⟩))) (T := []) (by kernel_rfl) ?_
  generalize World.drew wk = wd at HR HT H1 HH hS0 ⊢
  refine anyM_take (i := 0) (oi := { dst := some 60, op := _, type := _, pos := _, after := _, guard := _ }) (v := ?_) rfl (by kernel_rfl) (fun _ _ _ h => h) (Or.inl ⟨by kernel_rfl, ?_⟩) hS0 ?_
  rotate_left 1
  · (intro w hSw; (try dsimp only at hSw); go_simp; try with_reducible rfl)
  try simp only [Act.put, Array.toArray_toList, List.setIfInBounds_toArray, List.set_cons_zero, List.set_cons_succ]
  refine anyM_free (i := 1) (oi := { dst := some 61, op := _, type := _, pos := _, after := _, guard := _ }) (v := ?_) rfl (by kernel_rfl) (fun _ _ _ h => h) (Or.inl ⟨by kernel_rfl, ?_⟩) (fun _ => hS0) ?_
  rotate_left 1
  · (intro w hSw; (try dsimp only at hSw); go_simp; try with_reducible rfl)
  try simp only [Act.put, Array.toArray_toList, List.setIfInBounds_toArray, List.set_cons_zero, List.set_cons_succ]
  refine anyM_take (i := 2) (oi := { dst := some 62, op := _, type := _, pos := _, after := _, guard := _ }) (v := ?_) rfl (by kernel_rfl) (fun _ _ _ h => h) (Or.inl ⟨by kernel_rfl, ?_⟩) hS0 ?_
  rotate_left 1
  · (intro w hSw; (try dsimp only at hSw); go_simp; try with_reducible rfl)
  try simp only [Act.put, Array.toArray_toList, List.setIfInBounds_toArray, List.set_cons_zero, List.set_cons_succ]
  refine anyM_free (i := 3) (oi := { dst := some 63, op := _, type := _, pos := _, after := _, guard := _ }) (v := ?_) rfl (by kernel_rfl) (fun _ _ _ h => h) (Or.inl ⟨by kernel_rfl, ?_⟩) (fun _ => hS0) ?_
  rotate_left 1
  · (intro w hSw; (try dsimp only at hSw); go_simp; try with_reducible rfl)
  try simp only [Act.put, Array.toArray_toList, List.setIfInBounds_toArray, List.set_cons_zero, List.set_cons_succ]
  refine anyM_free (i := 4) (oi := { dst := some 64, op := _, type := _, pos := _, after := _, guard := _ }) (v := ?_) rfl (by kernel_rfl) (fun _ _ _ h => h) (Or.inl ⟨by kernel_rfl, ?_⟩) (fun _ => hS0) ?_
  rotate_left 1
  · (intro w hSw; (try dsimp only at hSw); go_simp; try with_reducible rfl)
  try simp only [Act.put, Array.toArray_toList, List.setIfInBounds_toArray, List.set_cons_zero, List.set_cons_succ]
  refine anyM_free (i := 5) (oi := { dst := some 65, op := _, type := _, pos := _, after := _, guard := _ }) (v := ?_) rfl (by kernel_rfl) (fun _ _ _ h => h) (Or.inl ⟨by kernel_rfl, ?_⟩) (fun _ => hS0) ?_
  rotate_left 1
  · (intro w hSw; (try dsimp only at hSw); go_simp; try with_reducible rfl)
  try simp only [Act.put, Array.toArray_toList, List.setIfInBounds_toArray, List.set_cons_zero, List.set_cons_succ]
  refine anyM_one (i := 6) (by kernel_rfl) rfl (fun K hK => ?_)
  go_simp
  refine Calls.mono ((HPE.out none 0).1 _ _ HR.out) ?_
  rintro e wp ⟨rfl, O1, hr1, ht1⟩
  replace HR := Lib.hid hr1
  replace HT := Lib.hid (HT.out.trans ht1)
  replace H1 := Lib.hid (H1.out.turn ht1)
  replace HH := Lib.hid (HH.out.turn ht1)
  clear hr1 ht1
  have hS0 : (fun w' : World => w'.cell? ⟨g1, 0, none⟩ = some (.pointer (some ⟨gM, 0, none⟩))) wp := H1.out.1.cell 0
  refine hK.out _ _ (fun _ => hS0) ?_
  clear hK K
  try simp only [Act.put, Array.toArray_toList, List.setIfInBounds_toArray, List.set_cons_zero, List.set_cons_succ]
  refine anyM_one (i := 7) (by kernel_rfl) rfl (fun K hK => ?_)
  go_simp
  refine Calls.mono ((HPE.out _ _).2 _ _ HR.out HH.out) ?_
  rintro e we ⟨rfl, O2, hr1, ht1⟩
  replace HR := Lib.hid hr1
  replace HT := Lib.hid (HT.out.trans ht1)
  replace H1 := Lib.hid (H1.out.turn ht1)
  clear hr1 ht1
  have hS0 : (fun w' : World => w'.cell? ⟨g1, 0, none⟩ = some (.pointer (some ⟨gM, 0, none⟩))) we := H1.out.1.cell 0
  refine hK.out _ _ (fun _ => hS0) ?_
  clear hK K
  try simp only [Act.put, Array.toArray_toList, List.setIfInBounds_toArray, List.set_cons_zero, List.set_cons_succ]
  refine anyM_done (by kernel_rfl) ?_ _
  refine NoPanic.normal ?_
  clear hS0
  go_wp2_with fail
  (try simp only [Exit.inBlock, Exit.then]); refine bodyPost_end (results_none rfl _ _ _) rfl ?_
  exact ⟨rfl, O2, HR.out, HT.out⟩
set_option maxRecDepth 100000 in
set_option maxHeartbeats 8000000 in
theorem rboxAtom_calls (I : BxV) (hc : checkE I.ns = 0) (base gM bK r k : Nat) (IH : DeepSays I hc base gM bK r) (hk : k < I.n) (hrk : rankN I.ns k ≤ r) (hkd : (docB I (docOk hc)).kindN k = 5) (O : Nat → Prop) (S : List PBox) (w : World) (pr : Int) (h : RSB (docB I (docOk hc)) I base gM bK O w S) (hp : pr < S.length) (hsz : (flatR (.mk 5 k noS [(docB I (docOk hc)).containerT (-1) (((docB I (docOk hc)).content k).map (docB I (docOk hc)).box)]) pr S).length ≤ 2000) :
    Calls Tryz.prog 74 #[.pointer (some ⟨gM, 0, none⟩), .int .i64 (k : Nat), .int .i64 pr] w (Puts (docB I (docOk hc)) I base gM bK (flatR (.mk 5 k noS [(docB I (docOk hc)).containerT (-1) (((docB I (docOk hc)).content k).map (docB I (docOk hc)).box)]) pr S) O w) := by
  have hz := hsz
  rw [flatR_size, tsz_mk] at hz
  have he : flatR (.mk 5 k noS [(docB I (docOk hc)).containerT (-1) (((docB I (docOk hc)).content k).map (docB I (docOk hc)).box)]) pr S = flatR ((docB I (docOk hc)).containerT (-1) (((docB I (docOk hc)).content k).map (docB I (docOk hc)).box)) (S.length : Nat) (putR 5 k pr noS S) := by
    rw [flatR_put _ _ _ _ _ _ hp, flatPs_cons, flatPs]
  rw [he] at hsz ⊢
  have hns := h.okI.hn
  have hcl := content_len I hc k
  obtain ⟨i1, i2, i3⟩ := IH.content hns hrk
  have h4 := Blk.new w 81 #[.pointer (some ⟨gM, 0, none⟩)]
  have hb4 := below_alloc (Below.refl w.heap.size w) (.cells #[.pointer (some ⟨gM, 0, none⟩)] 81)
  have H1 : Hid (BlkF O _ w.heap.size 81 #[.pointer (some ⟨gM, 0, none⟩)]) := ⟨h4, h.fresh (Nat.le_refl _)⟩
  have HR := Lib.hid (h.below hb4)
  have HT := Lib.hid (TurnW.below (O := O) hb4)
  have HCT := Lib.hid (fun (w' : World) (h' : RSB (docB I (docOk hc)) I base gM bK O w' S) => rcontent_held I hc base gM bK k O S w' h' hk)
  have HKD := Lib.hid (fun (w' : World) (h' : RSB (docB I (docOk hc)) I base gM bK O w' S) => kind_says I hc base gM bK hns hk O S w' h')
  unfold Tells at HKD
  unfold CtSays at HCT
  rw [hkd] at HKD
  have HP := Lib.hid (fun (w' : World) (h' : RSB (docB I (docOk hc)) I base gM bK O w' S) => put0_calls (docB I (docOk hc)) I base gM bK 5 (k : Nat) pr O S w' h' hp (by omega))
  have HCO := Lib.hid (fun (A : Option Addr) (c : Nat) (O' : Nat → Prop) (w' : World) (h' : RSB (docB I (docOk hc)) I base gM bK O' w' (putR 5 k pr noS S)) (hh : Held O' w' A ((docB I (docOk hc)).content k)) => rcont_calls I hc base gM bK (-1) ((docB I (docOk hc)).content k) i1 i3 O' (putR 5 k pr noS S) w' (S.length : Nat) A ((docB I (docOk hc)).content k).length c h' (by rw [putR_len]; omega) rfl hh (by omega) hsz)
  unfold PutSays at HP
  unfold Puts at HCO ⊢
  generalize flatR ((docB I (docOk hc)).containerT (-1) (((docB I (docOk hc)).content k).map (docB I (docOk hc)).box)) (S.length : Nat) (putR 5 k pr noS S) = S9 at HCO ⊢
  generalize putR 5 k pr noS S = S8 at HP HCO
  generalize hsl : S.length = sl at HP HCO
  generalize (docB I (docOk hc)).content k = CL at HCT HCO
  clear he hz hsl hsz hns hcl i1 i2 i3 h4 hb4 IH hk hrk hkd h hp
  go_enter Tryz.func74, Tryz.ntmps74
  go_upto_region 1 with fail
  generalize World.alloc w _ = w1 at H1 HR HT ⊢
  generalize w.heap.size = g1 at H1 ⊢
  have c1 : w1.cell? ⟨g1, 0, none⟩ = some (.pointer (some ⟨gM, 0, none⟩)) := H1.out.1.cell 0
  go_upto_region 13 with (first | (go_at_call 35; refine (HCT.out _ HR.out).mono ?_; rintro e wc ⟨A', c', rfl, hh, hbc⟩; have HH := Lib.hid hh; replace HR := Lib.hid (HR.out.below hbc); replace HT := Lib.hid (HT.out.thenB hbc); replace H1 := Lib.hid (H1.out.below hbc); have c2 : wc.cell? ⟨g1, 0, none⟩ = some (.pointer (some ⟨gM, 0, none⟩)) := H1.out.1.cell 0; clear hh hbc c1) | (go_at_call 115; refine (HKD.out _ HR.out).mono ?_; rintro e wk ⟨rfl, hrk, htk⟩; replace HR := Lib.hid hrk; replace HT := Lib.hid (HT.out.trans htk); replace H1 := Lib.hid (H1.out.turn htk); replace HH := Lib.hid (HH.out.turn htk); have c3 : wk.cell? ⟨g1, 0, none⟩ = some (.pointer (some ⟨gM, 0, none⟩)) := H1.out.1.cell 0; clear hrk htk c2))
  replace HR := Lib.hid HR.out.drew
  replace HT := Lib.hid HT.out.drew
  replace H1 := Lib.hid H1.out.drew
  replace HH := Lib.hid HH.out.drew
  have hS0 : (fun w' : World => w'.cell? ⟨g1, 0, none⟩ = some (.pointer (some ⟨gM, 0, none⟩))) (World.drew wk) := H1.out.1.cell 0
  clear c3
  refine wp_region_noPanic ?_
  refine region_M (S := fun w' => w'.cell? ⟨g1, 0, none⟩ = some (.pointer (some ⟨gM, 0, none⟩))) (T := []) (by kernel_rfl) ?_
  generalize World.drew wk = wd at HR HT H1 HH hS0 ⊢
  refine anyM_take (i := 0) (oi := { dst := some 70, op := _, type := _, pos := _, after := _, guard := _ }) (v := ?_) rfl (by kernel_rfl) (fun _ _ _ h => h) (Or.inl ⟨by kernel_rfl, ?_⟩) hS0 ?_
  rotate_left 1
  · (intro w hSw; (try dsimp only at hSw); go_simp; try with_reducible rfl)
  try simp only [Act.put, Array.toArray_toList, List.setIfInBounds_toArray, List.set_cons_zero, List.set_cons_succ]
  refine anyM_take (i := 1) (oi := { dst := some 71, op := _, type := _, pos := _, after := _, guard := _ }) (v := ?_) rfl (by kernel_rfl) (fun _ _ _ h => h) (Or.inl ⟨by kernel_rfl, ?_⟩) hS0 ?_
  rotate_left 1
  · (intro w hSw; (try dsimp only at hSw); go_simp; try with_reducible rfl)
  try simp only [Act.put, Array.toArray_toList, List.setIfInBounds_toArray, List.set_cons_zero, List.set_cons_succ]
  refine anyM_free (i := 2) (oi := { dst := some 72, op := _, type := _, pos := _, after := _, guard := _ }) (v := ?_) rfl (by kernel_rfl) (fun _ _ _ h => h) (Or.inl ⟨by kernel_rfl, ?_⟩) (fun _ => hS0) ?_
  rotate_left 1
  · (intro w hSw; (try dsimp only at hSw); go_simp; try with_reducible rfl)
  try simp only [Act.put, Array.toArray_toList, List.setIfInBounds_toArray, List.set_cons_zero, List.set_cons_succ]
  refine anyM_free (i := 3) (oi := { dst := some 73, op := _, type := _, pos := _, after := _, guard := _ }) (v := ?_) rfl (by kernel_rfl) (fun _ _ _ h => h) (Or.inl ⟨by kernel_rfl, ?_⟩) (fun _ => hS0) ?_
  rotate_left 1
  · (intro w hSw; (try dsimp only at hSw); go_simp; try with_reducible rfl)
  try simp only [Act.put, Array.toArray_toList, List.setIfInBounds_toArray, List.set_cons_zero, List.set_cons_succ]
  refine anyM_free (i := 4) (oi := { dst := some 74, op := _, type := _, pos := _, after := _, guard := _ }) (v := ?_) rfl (by kernel_rfl) (fun _ _ _ h => h) (Or.inl ⟨by kernel_rfl, ?_⟩) (fun _ => hS0) ?_
  rotate_left 1
  · (intro w hSw; (try dsimp only at hSw); go_simp; try with_reducible rfl)
  try simp only [Act.put, Array.toArray_toList, List.setIfInBounds_toArray, List.set_cons_zero, List.set_cons_succ]
  refine anyM_free (i := 6) (oi := { dst := some 76, op := _, type := _, pos := _, after := _, guard := _ }) (v := ?_) rfl (by kernel_rfl) (fun _ _ _ h => h) (Or.inl ⟨by kernel_rfl, ?_⟩) (fun _ => hS0) ?_
  rotate_left 1
  · (intro w hSw; (try dsimp only at hSw); go_simp; try with_reducible rfl)
  try simp only [Act.put, Array.toArray_toList, List.setIfInBounds_toArray, List.set_cons_zero, List.set_cons_succ]
  refine anyM_one (i := 5) (by kernel_rfl) rfl (fun K hK => ?_)
  go_simp
  refine Calls.mono (HP.out _ HR.out) ?_
  rintro e wp ⟨rfl, O1, hr1, ht1⟩
  replace HR := Lib.hid hr1
  replace HT := Lib.hid (HT.out.trans ht1)
  replace H1 := Lib.hid (H1.out.turn ht1)
  replace HH := Lib.hid (HH.out.turn ht1)
  clear hr1 ht1
  have hS0 : (fun w' : World => w'.cell? ⟨g1, 0, none⟩ = some (.pointer (some ⟨gM, 0, none⟩))) wp := H1.out.1.cell 0
  refine hK.out _ _ (fun _ => hS0) ?_
  clear hK K
  try simp only [Act.put, Array.toArray_toList, List.setIfInBounds_toArray, List.set_cons_zero, List.set_cons_succ]
  refine anyM_one (i := 7) (by kernel_rfl) rfl (fun K hK => ?_)
  go_simp
  refine Calls.mono (HCO.out _ _ _ _ HR.out HH.out) ?_
  rintro e we ⟨rfl, O2, hr1, ht1⟩
  replace HR := Lib.hid hr1
  replace HT := Lib.hid (HT.out.trans ht1)
  replace H1 := Lib.hid (H1.out.turn ht1)
  clear hr1 ht1
  have hS0 : (fun w' : World => w'.cell? ⟨g1, 0, none⟩ = some (.pointer (some ⟨gM, 0, none⟩))) we := H1.out.1.cell 0
  refine hK.out _ _ (fun _ => hS0) ?_
  clear hK K
  try simp only [Act.put, Array.toArray_toList, List.setIfInBounds_toArray, List.set_cons_zero, List.set_cons_succ]
  refine anyM_done (by kernel_rfl) ?_ _
  refine NoPanic.normal ?_
  clear hS0
  go_wp2_with fail
  (try simp only [Exit.inBlock, Exit.then]); refine bodyPost_end (results_none rfl _ _ _) rfl ?_
  exact ⟨rfl, O2, HR.out, HT.out⟩
set_option maxRecDepth 100000 in
set_option maxHeartbeats 8000000 in
theorem rboxFlex_calls (I : BxV) (hc : checkE I.ns = 0) (base gM bK r k : Nat) (IH : DeepSays I hc base gM bK r) (hk : k < I.n) (hrk : rankN I.ns k ≤ r) (hkd : (docB I (docOk hc)).kindN k = 6) (O : Nat → Prop) (S : List PBox) (w : World) (pr : Int) (h : RSB (docB I (docOk hc)) I base gM bK O w S) (hp : pr < S.length) (hsz : (flatR (.mk 6 k noS ((docB I (docOk hc)).rowT (docB I (docOk hc)).flexAlone (((docB I (docOk hc)).content k).map (docB I (docOk hc)).box))) pr S).length ≤ 2000) :
    Calls Tryz.prog 74 #[.pointer (some ⟨gM, 0, none⟩), .int .i64 (k : Nat), .int .i64 pr] w (Puts (docB I (docOk hc)) I base gM bK (flatR (.mk 6 k noS ((docB I (docOk hc)).rowT (docB I (docOk hc)).flexAlone (((docB I (docOk hc)).content k).map (docB I (docOk hc)).box))) pr S) O w) := by
  have hz := hsz
  rw [flatR_size, tsz_mk] at hz
  rw [flatR_put _ _ _ _ _ _ hp, row_pieces] at hsz ⊢
  have hns := h.okI.hn
  have hcl := content_len I hc k
  obtain ⟨i1, i2, i3⟩ := IH.content hns hrk
  have h4 := Blk.new w 81 #[.pointer (some ⟨gM, 0, none⟩)]
  have hb4 := below_alloc (Below.refl w.heap.size w) (.cells #[.pointer (some ⟨gM, 0, none⟩)] 81)
  have H1 : Hid (BlkF O _ w.heap.size 81 #[.pointer (some ⟨gM, 0, none⟩)]) := ⟨h4, h.fresh (Nat.le_refl _)⟩
  have HR := Lib.hid (h.below hb4)
  have HT := Lib.hid (TurnW.below (O := O) hb4)
  have HCT := Lib.hid (fun (w' : World) (h' : RSB (docB I (docOk hc)) I base gM bK O w' S) => rcontent_held I hc base gM bK k O S w' h' hk)
  have HKD := Lib.hid (fun (w' : World) (h' : RSB (docB I (docOk hc)) I base gM bK O w' S) => kind_says I hc base gM bK hns hk O S w' h')
  unfold Tells at HKD
  unfold CtSays at HCT
  rw [hkd] at HKD
  have HP := Lib.hid (fun (w' : World) (h' : RSB (docB I (docOk hc)) I base gM bK O w' S) => put0_calls (docB I (docOk hc)) I base gM bK 6 (k : Nat) pr O S w' h' hp (by omega))
  have HRU := Lib.hid (fun (g1 g2 : Nat) (A : Option Addr) (c : Nat) (O' : Nat → Prop) (w' : World) (h' : RSB (docB I (docOk hc)) I base gM bK O' w' (putR 6 k pr noS S)) (hH' : Held O' w' A ((docB I (docOk hc)).content k)) (h1 : BlkF O' w' g1 81 #[.pointer (some ⟨gM, 0, none⟩)]) (h2 : BlkF O' w' g2 3 #[.int .i64 (S.length : Nat)]) =>
    runs_calls I hc base gM bK _ _ _ g1 g2 0 0 S.length _ _ Trio.flex [(g1, 81, #[.pointer (some ⟨gM, 0, none⟩)]), (g2, 3, #[.int .i64 (S.length : Nat)])] (fun k => (docB I (docOk hc)).flexAlone ((docB I (docOk hc)).box k)) (fun k => (docB I (docOk hc)).box k) (fun r => DocB.linesT (r.map (docB I (docOk hc)).box)) ((docB I (docOk hc)).content k) A ((docB I (docOk hc)).content k).length c O' (putR 6 k pr noS S) w' h'
      (fun x hx => by
        rcases List.mem_cons.1 hx with rfl | hx
        · exact h1
        · simp at hx; subst hx; exact h2) rfl hH' (by omega) (by rw [putR_len]; omega) i1 hsz
      (fun j hj O1 S1 w1 hr1 he1 => rbox1_calls I hc base gM bK g1 j O1 S1 w1 hr1 (i1 j hj) (he1 (g1, _, _) (by simp)))
      (fun j hj O1 S1 w1 hr1 he1 ha1 hz1 => oneBox_calls (docB I (docOk hc)) I base gM bK _ g1 g2 S.length j (.inr rfl) O1 S1 w1 hr1 (he1 (g1, _, _) (by simp)) (he1 (g2, _, _) (by simp)) ha1 hz1 (i3 j hj))
      (fun us A2 m2 c2 O1 S1 w1 hu hul hml hr1 he1 hh1 ha1 hz1 => runLines_calls (docB I (docOk hc)) I base gM bK _ g1 g2 S.length (.inr rfl) us A2 m2 c2 O1 S1 w1 hr1 (he1 (g1, _, _) (by simp)) (he1 (g2, _, _) (by simp)) hul hh1 (by omega) ha1 hz1 (fun j hj => i3 j (hu j hj))))
  unfold PutSays at HP
  unfold Puts at HRU ⊢
  generalize flatPs (pieces (fun k => (docB I (docOk hc)).flexAlone ((docB I (docOk hc)).box k)) (fun k => (docB I (docOk hc)).box k) (fun r => DocB.linesT (r.map (docB I (docOk hc)).box)) (fun r => !(docB I (docOk hc)).idleT (r.map (docB I (docOk hc)).box)) [] ((docB I (docOk hc)).content k)) S.length (putR 6 k pr noS S) = S9 at HRU ⊢
  generalize putR 6 k pr noS S = S8 at HP HRU
  generalize hsl : S.length = sl at HP HRU
  generalize (docB I (docOk hc)).content k = CL at HCT HRU
  clear hz hsl hsz hns hcl i1 i2 i3 h4 hb4 IH hk hrk hkd h hp
  go_enter Tryz.func74, Tryz.ntmps74
  go_upto_region 1 with fail
  generalize World.alloc w _ = w1 at H1 HR HT ⊢
  generalize w.heap.size = g1 at H1 ⊢
  have c1 : w1.cell? ⟨g1, 0, none⟩ = some (.pointer (some ⟨gM, 0, none⟩)) := H1.out.1.cell 0
  go_wp2_with (first | (go_at_call 35; refine (HCT.out _ HR.out).mono ?_; rintro e wc ⟨A', c', rfl, hh, hbc⟩; have HH := Lib.hid hh; replace HR := Lib.hid (HR.out.below hbc); replace HT := Lib.hid (HT.out.thenB hbc); replace H1 := Lib.hid (H1.out.below hbc); have c2 : wc.cell? ⟨g1, 0, none⟩ = some (.pointer (some ⟨gM, 0, none⟩)) := H1.out.1.cell 0; clear hh hbc c1) | (go_at_call 115; refine (HKD.out _ HR.out).mono ?_; rintro e wk ⟨rfl, hrk, htk⟩; replace HR := Lib.hid hrk; replace HT := Lib.hid (HT.out.trans htk); replace H1 := Lib.hid (H1.out.turn htk); replace HH := Lib.hid (HH.out.turn htk); have c3 : wk.cell? ⟨g1, 0, none⟩ = some (.pointer (some ⟨gM, 0, none⟩)) := H1.out.1.cell 0; clear hrk htk c2) | (go_at_call 69; refine (HP.out _ HR.out).mono ?_; rintro e wp ⟨rfl, O1, hrp, htp⟩; have HBA := Lib.hid (below_alloc (Below.refl wp.heap.size wp) (.cells #[.int .i64 (sl : Nat)] 3)); have H4 : Hid (BlkF O1 (wp.alloc (.cells #[.int .i64 (sl : Nat)] 3)) wp.heap.size 3 #[.int .i64 (sl : Nat)]) := ⟨Blk.new wp _ _, hrp.fresh (Nat.le_refl _)⟩; replace HR := Lib.hid (hrp.below HBA.out); replace HT := Lib.hid ((HT.out.trans htp).thenB HBA.out); replace H1 := Lib.hid ((H1.out.turn htp).below HBA.out); replace HH := Lib.hid ((HH.out.turn htp).turn (TurnW.below HBA.out)); have c4 : (wp.alloc (.cells #[.int .i64 (sl : Nat)] 3)).cell? ⟨g1, 0, none⟩ = some (.pointer (some ⟨gM, 0, none⟩)) := H1.out.1.cell 0; clear hrp htp c3) | (go_at_call 70; refine (HRU.out g1 wp.heap.size _ _ _ _ HR.out HH.out H1.out H4.out).mono ?_; rintro e wr ⟨rfl, O2, hrr, htr⟩; replace HR := Lib.hid hrr; replace HT := Lib.hid (HT.out.trans htr); clear hrr htr))
  (try simp only [Exit.inBlock, Exit.then]); refine bodyPost_end (results_none rfl _ _ _) rfl ?_
  exact ⟨rfl, O2, HR.out, HT.out⟩
set_option maxRecDepth 100000 in
set_option maxHeartbeats 8000000 in
theorem rboxTab_calls (I : BxV) (hc : checkE I.ns = 0) (base gM bK r k : Nat) (IH : DeepSays I hc base gM bK r) (hk : k < I.n) (hrk : rankN I.ns k ≤ r) (hkd : (docB I (docOk hc)).kindN k = 7) (O : Nat → Prop) (S : List PBox) (w : World) (pr : Int) (h : RSB (docB I (docOk hc)) I base gM bK O w S) (hp : pr < S.length) (hsz : (flatR (.mk 7 k noS ((docB I (docOk hc)).rowsT (docB I (docOk hc)).box ((docB I (docOk hc)).content k))) pr S).length ≤ 2000) :
    Calls Tryz.prog 74 #[.pointer (some ⟨gM, 0, none⟩), .int .i64 (k : Nat), .int .i64 pr] w (Puts (docB I (docOk hc)) I base gM bK (flatR (.mk 7 k noS ((docB I (docOk hc)).rowsT (docB I (docOk hc)).box ((docB I (docOk hc)).content k))) pr S) O w) := by
  have hz := hsz
  rw [flatR_size, tsz_mk] at hz
  have he : flatR (.mk 7 k noS ((docB I (docOk hc)).rowsT (docB I (docOk hc)).box ((docB I (docOk hc)).content k))) pr S = flatPs (pieces ((docB I (docOk hc)).named 6) (fun n => .mk 8 n noS ((docB I (docOk hc)).cellsT (docB I (docOk hc)).box ((docB I (docOk hc)).content n))) (fun r => .mk 8 (-1) noS [(docB I (docOk hc)).cellT (docB I (docOk hc)).box (-1) r]) (fun r => !(docB I (docOk hc)).idleT (r.map (docB I (docOk hc)).box)) [] ((docB I (docOk hc)).content k)) S.length (putR 7 k pr noS S) := by
    rw [flatR_put _ _ _ _ _ _ hp]
    rfl
  rw [he] at hsz ⊢
  have hns := h.okI.hn
  have hcl := content_len I hc k
  obtain ⟨i1, i2, i3⟩ := IH.content hns hrk
  have h4 := Blk.new w 81 #[.pointer (some ⟨gM, 0, none⟩)]
  have hb4 := below_alloc (Below.refl w.heap.size w) (.cells #[.pointer (some ⟨gM, 0, none⟩)] 81)
  have H1 : Hid (BlkF O _ w.heap.size 81 #[.pointer (some ⟨gM, 0, none⟩)]) := ⟨h4, h.fresh (Nat.le_refl _)⟩
  have HR := Lib.hid (h.below hb4)
  have HT := Lib.hid (TurnW.below (O := O) hb4)
  have HCT := Lib.hid (fun (w' : World) (h' : RSB (docB I (docOk hc)) I base gM bK O w' S) => rcontent_held I hc base gM bK k O S w' h' hk)
  have HKD := Lib.hid (fun (w' : World) (h' : RSB (docB I (docOk hc)) I base gM bK O w' S) => kind_says I hc base gM bK hns hk O S w' h')
  unfold Tells at HKD
  unfold CtSays at HCT
  rw [hkd] at HKD
  have HP := Lib.hid (fun (w' : World) (h' : RSB (docB I (docOk hc)) I base gM bK O w' S) => put0_calls (docB I (docOk hc)) I base gM bK 7 (k : Nat) pr O S w' h' hp (by omega))
  have HNM := Lib.hid (fun (O' : Nat → Prop) (w' : World) (h' : RSB (docB I (docOk hc)) I base gM bK O' w' (putR 7 k pr noS S)) => rnamed_calls gM 6 O' w' (fun b hb => h'.fresh hb))
  have HRU := Lib.hid (fun (g1 g4 q1 q2 : Nat) (A' : Option Addr) (c' : Nat) (O' : Nat → Prop) (w' : World) (h' : RSB (docB I (docOk hc)) I base gM bK O' w' (putR 7 k pr noS S)) (hH' : Held O' w' A' ((docB I (docOk hc)).content k)) (h1 : BlkF O' w' g1 81 #[.pointer (some ⟨gM, 0, none⟩)]) (h4 : BlkF O' w' g4 3 #[.int .i64 (S.length : Nat)]) (hq1 : BlkF O' w' q1 81 #[.pointer (some ⟨gM, 0, none⟩)]) (hq2 : BlkF O' w' q2 3 #[.int .i64 6]) =>
    runs_calls I hc base gM bK _ _ _ g1 g4 q1 q2 S.length _ _ Trio.rows [(g1, 81, #[.pointer (some ⟨gM, 0, none⟩)]), (g4, 3, #[.int .i64 (S.length : Nat)]), (q1, 81, #[.pointer (some ⟨gM, 0, none⟩)]), (q2, 3, #[.int .i64 6])] ((docB I (docOk hc)).named 6) (fun n => .mk 8 n noS ((docB I (docOk hc)).cellsT (docB I (docOk hc)).box ((docB I (docOk hc)).content n))) (fun r => .mk 8 (-1) noS [(docB I (docOk hc)).cellT (docB I (docOk hc)).box (-1) r]) ((docB I (docOk hc)).content k) A' ((docB I (docOk hc)).content k).length c' O' (putR 7 k pr noS S) w' h'
      (fun x hx => by
        rcases List.mem_cons.1 hx with rfl | hx
        · exact h1
        · rcases List.mem_cons.1 hx with rfl | hx
          · exact h4
          · rcases List.mem_cons.1 hx with rfl | hx
            · exact hq1
            · simp at hx; subst hx; exact hq2) rfl hH' (by omega) (by rw [putR_len]; omega) i1 hsz
      (fun j hj O1 S1 w1 hr1 he1 => rnamed1_calls I hc base gM bK q1 q2 j 6 O1 S1 w1 hr1 (i1 j hj) (he1 (q1, _, _) (by simp)) (he1 (q2, _, _) (by simp)))
      (fun j hj O1 S1 w1 hr1 he1 ha1 hz1 => rb4_calls I hc base gM bK g1 g4 S.length r j IH (i1 j hj) (by have := i2 j hj; omega) O1 S1 w1 hr1 (he1 (g1, _, _) (by simp)) (he1 (g4, _, _) (by simp)) ha1 hz1)
      (fun us A2 m2 c2 O1 S1 w1 hu hul hml hr1 he1 hh1 ha1 hz1 => rb5_calls I hc base gM bK g1 g4 S.length us A2 m2 c2 O1 S1 w1 hr1 (he1 (g1, _, _) (by simp)) (he1 (g4, _, _) (by simp)) (fun j hj => i1 j (hu j hj)) (fun j hj => i3 j (hu j hj)) hul hh1 (by omega) ha1 hz1))
  unfold PutSays at HP
  unfold NamedSays at HNM
  unfold Puts at HRU ⊢
  generalize flatPs (pieces ((docB I (docOk hc)).named 6) (fun n => .mk 8 n noS ((docB I (docOk hc)).cellsT (docB I (docOk hc)).box ((docB I (docOk hc)).content n))) (fun r => .mk 8 (-1) noS [(docB I (docOk hc)).cellT (docB I (docOk hc)).box (-1) r]) (fun r => !(docB I (docOk hc)).idleT (r.map (docB I (docOk hc)).box)) [] ((docB I (docOk hc)).content k)) S.length (putR 7 k pr noS S) = S9 at HRU ⊢
  generalize putR 7 k pr noS S = S8 at HP HNM HRU
  generalize hsl : S.length = sl at HP HRU
  generalize (docB I (docOk hc)).content k = CL at HCT HRU
  clear he hz hsl hsz hns hcl i1 i2 i3 h4 hb4 IH hk hrk hkd h hp
  go_enter Tryz.func74, Tryz.ntmps74
  go_upto_region 1 with fail
  generalize World.alloc w _ = w1 at H1 HR HT ⊢
  generalize w.heap.size = g1 at H1 ⊢
  have c1 : w1.cell? ⟨g1, 0, none⟩ = some (.pointer (some ⟨gM, 0, none⟩)) := H1.out.1.cell 0
  go_upto_region 19 with (first | (go_at_call 35; refine (HCT.out _ HR.out).mono ?_; rintro e wc ⟨A', c', rfl, hh, hbc⟩; have HH := Lib.hid hh; replace HR := Lib.hid (HR.out.below hbc); replace HT := Lib.hid (HT.out.thenB hbc); replace H1 := Lib.hid (H1.out.below hbc); have c2 : wc.cell? ⟨g1, 0, none⟩ = some (.pointer (some ⟨gM, 0, none⟩)) := H1.out.1.cell 0; clear hh hbc c1) | (go_at_call 115; refine (HKD.out _ HR.out).mono ?_; rintro e wk ⟨rfl, hrk, htk⟩; replace HR := Lib.hid hrk; replace HT := Lib.hid (HT.out.trans htk); replace H1 := Lib.hid (H1.out.turn htk); replace HH := Lib.hid (HH.out.turn htk); have c3 : wk.cell? ⟨g1, 0, none⟩ = some (.pointer (some ⟨gM, 0, none⟩)) := H1.out.1.cell 0; clear hrk htk c2) | (go_at_call 69; refine (HP.out _ HR.out).mono ?_; rintro e wp ⟨rfl, O1, hrp, htp⟩; have HBA := Lib.hid (below_alloc (Below.refl wp.heap.size wp) (.cells #[.int .i64 (sl : Nat)] 3)); have H4 : Hid (BlkF O1 (wp.alloc (.cells #[.int .i64 (sl : Nat)] 3)) wp.heap.size 3 #[.int .i64 (sl : Nat)]) := ⟨Blk.new wp _ _, hrp.fresh (Nat.le_refl _)⟩; replace HR := Lib.hid (hrp.below HBA.out); replace HT := Lib.hid ((HT.out.trans htp).thenB HBA.out); replace H1 := Lib.hid ((H1.out.turn htp).below HBA.out); replace HH := Lib.hid ((HH.out.turn htp).turn (TurnW.below HBA.out)); have c4 : (wp.alloc (.cells #[.int .i64 (sl : Nat)] 3)).cell? ⟨g1, 0, none⟩ = some (.pointer (some ⟨gM, 0, none⟩)) := H1.out.1.cell 0; clear hrp htp c3))
  generalize World.alloc wp _ = wq at H4 HR HT H1 HH c4 ⊢
  generalize wp.heap.size = g4 at H4 ⊢
  replace HR := Lib.hid HR.out.drew
  replace HT := Lib.hid HT.out.drew
  replace H1 := Lib.hid H1.out.drew
  replace H4 := Lib.hid H4.out.drew
  replace HH := Lib.hid HH.out.drew
  have hS0 : (fun w' : World => w'.cell? ⟨g1, 0, none⟩ = some (.pointer (some ⟨gM, 0, none⟩))) (World.drew wq) := H1.out.1.cell 0
  clear c4
  refine wp_region_noPanic ?_
  refine region_M (S := fun w' => w'.cell? ⟨g1, 0, none⟩ = some (.pointer (some ⟨gM, 0, none⟩))) (T := []) (by kernel_rfl) ?_
  generalize World.drew wq = wd at HR HT H1 H4 HH hS0 ⊢
  refine anyM_take (i := 0) (oi := { dst := some 98, op := _, type := _, pos := _, after := _, guard := _ }) (v := ?_) rfl (by kernel_rfl) (fun _ _ _ h => h) (Or.inl ⟨by kernel_rfl, ?_⟩) hS0 ?_
  rotate_left 1
  · (intro w hSw; (try dsimp only at hSw); go_simp; try with_reducible rfl)
  try simp only [Act.put, Array.toArray_toList, List.setIfInBounds_toArray, List.set_cons_zero, List.set_cons_succ]
  refine anyM_free (i := 1) (oi := { dst := some 99, op := _, type := _, pos := _, after := _, guard := _ }) (v := ?_) rfl (by kernel_rfl) (fun _ _ _ h => h) (Or.inl ⟨by kernel_rfl, ?_⟩) (fun _ => hS0) ?_
  rotate_left 1
  · (intro w hSw; (try dsimp only at hSw); go_simp; try with_reducible rfl)
  try simp only [Act.put, Array.toArray_toList, List.setIfInBounds_toArray, List.set_cons_zero, List.set_cons_succ]
  refine anyM_take (i := 2) (oi := { dst := some 100, op := _, type := _, pos := _, after := _, guard := _ }) (v := ?_) rfl (by kernel_rfl) (fun _ _ _ h => h) (Or.inl ⟨by kernel_rfl, ?_⟩) hS0 ?_
  rotate_left 1
  · (intro w hSw; (try dsimp only at hSw); go_simp; try with_reducible rfl)
  try simp only [Act.put, Array.toArray_toList, List.setIfInBounds_toArray, List.set_cons_zero, List.set_cons_succ]
  refine anyM_free (i := 4) (oi := { dst := some 102, op := _, type := _, pos := _, after := _, guard := _ }) (v := ?_) rfl (by kernel_rfl) (fun _ _ _ h => h) (Or.inl ⟨by kernel_rfl, ?_⟩) (fun _ => hS0) ?_
  rotate_left 1
  · (intro w hSw; (try dsimp only at hSw); go_simp; try with_reducible rfl)
  try simp only [Act.put, Array.toArray_toList, List.setIfInBounds_toArray, List.set_cons_zero, List.set_cons_succ]
  refine anyM_free (i := 5) (oi := { dst := some 103, op := _, type := _, pos := _, after := _, guard := _ }) (v := ?_) rfl (by kernel_rfl) (fun _ _ _ h => h) (Or.inl ⟨by kernel_rfl, ?_⟩) (fun _ => hS0) ?_
  rotate_left 1
  · (intro w hSw; (try dsimp only at hSw); go_simp; try with_reducible rfl)
  try simp only [Act.put, Array.toArray_toList, List.setIfInBounds_toArray, List.set_cons_zero, List.set_cons_succ]
  refine anyM_one (i := 3) (by kernel_rfl) rfl (fun K hK => ?_)
  go_simp
  refine Calls.mono (HNM.out _ _ HR.out) ?_
  rintro e wn ⟨q1, q2, rfl, hq1, hq2, hbn⟩
  have HQ1 := Lib.hid hq1
  have HQ2 := Lib.hid hq2
  replace HR := Lib.hid (HR.out.below hbn)
  replace HT := Lib.hid (HT.out.thenB hbn)
  replace H1 := Lib.hid (H1.out.below hbn)
  replace H4 := Lib.hid (H4.out.below hbn)
  replace HH := Lib.hid (HH.out.turn (TurnW.below hbn))
  clear hq1 hq2 hbn
  have hS0 : (fun w' : World => w'.cell? ⟨g1, 0, none⟩ = some (.pointer (some ⟨gM, 0, none⟩))) wn := H1.out.1.cell 0
  refine hK.out _ _ (fun _ => hS0) ?_
  clear hK K
  try simp only [Act.put, Array.toArray_toList, List.setIfInBounds_toArray, List.set_cons_zero, List.set_cons_succ]
  refine anyM_one (i := 6) (by kernel_rfl) rfl (fun K hK => ?_)
  go_simp
  refine Calls.mono (HRU.out g1 g4 q1 q2 _ _ _ _ HR.out HH.out H1.out H4.out HQ1.out HQ2.out) ?_
  rintro e we ⟨rfl, O2, hr1, ht1⟩
  replace HR := Lib.hid hr1
  replace HT := Lib.hid (HT.out.trans ht1)
  replace H1 := Lib.hid (H1.out.turn ht1)
  clear hr1 ht1
  have hS0 : (fun w' : World => w'.cell? ⟨g1, 0, none⟩ = some (.pointer (some ⟨gM, 0, none⟩))) we := H1.out.1.cell 0
  refine hK.out _ _ (fun _ => hS0) ?_
  clear hK K
  try simp only [Act.put, Array.toArray_toList, List.setIfInBounds_toArray, List.set_cons_zero, List.set_cons_succ]
  refine anyM_done (by kernel_rfl) ?_ _
  refine NoPanic.normal ?_
  clear hS0
  go_wp2_with fail
  (try simp only [Exit.inBlock, Exit.then]); refine bodyPost_end (results_none rfl _ _ _) rfl ?_
  exact ⟨rfl, O2, HR.out, HT.out⟩
set_option maxRecDepth 100000 in
set_option maxHeartbeats 8000000 in
theorem rboxDef_calls (I : BxV) (hc : checkE I.ns = 0) (base gM bK r k : Nat) (IH : DeepSays I hc base gM bK r) (hk : k < I.n) (hrk : rankN I.ns k ≤ r) (kd : Int) (hkk : kd = 1 ∨ kd = 2) (hkd : (docB I (docOk hc)).kindN k = kd) (O : Nat → Prop) (S : List PBox) (w : World) (pr : Int) (h : RSB (docB I (docOk hc)) I base gM bK O w S) (hp : pr < S.length) (hsz : (flatR ((docB I (docOk hc)).containerT k (((docB I (docOk hc)).content k).map (docB I (docOk hc)).box)) pr S).length ≤ 2000) :
    Calls Tryz.prog 74 #[.pointer (some ⟨gM, 0, none⟩), .int .i64 (k : Nat), .int .i64 pr] w (Puts (docB I (docOk hc)) I base gM bK (flatR ((docB I (docOk hc)).containerT k (((docB I (docOk hc)).content k).map (docB I (docOk hc)).box)) pr S) O w) := by
  have hns := h.okI.hn
  have hcl := content_len I hc k
  obtain ⟨i1, i2, i3⟩ := IH.content hns hrk
  have h4 := Blk.new w 81 #[.pointer (some ⟨gM, 0, none⟩)]
  have hb4 := below_alloc (Below.refl w.heap.size w) (.cells #[.pointer (some ⟨gM, 0, none⟩)] 81)
  have H1 : Hid (BlkF O _ w.heap.size 81 #[.pointer (some ⟨gM, 0, none⟩)]) := ⟨h4, h.fresh (Nat.le_refl _)⟩
  have HR := Lib.hid (h.below hb4)
  have HT := Lib.hid (TurnW.below (O := O) hb4)
  have HCT := Lib.hid (fun (w' : World) (h' : RSB (docB I (docOk hc)) I base gM bK O w' S) => rcontent_held I hc base gM bK k O S w' h' hk)
  have HKD := Lib.hid (fun (w' : World) (h' : RSB (docB I (docOk hc)) I base gM bK O w' S) => kind_says I hc base gM bK hns hk O S w' h')
  unfold Tells at HKD
  unfold CtSays at HCT
  rw [hkd] at HKD
  have HCO := Lib.hid (fun (A : Option Addr) (c : Nat) (w' : World) (h' : RSB (docB I (docOk hc)) I base gM bK O w' S) (hh : Held O w' A ((docB I (docOk hc)).content k)) => rcont_calls I hc base gM bK (k : Nat) ((docB I (docOk hc)).content k) i1 i3 O S w' pr A ((docB I (docOk hc)).content k).length c h' hp rfl hh (by omega) hsz)
  unfold Puts at HCO ⊢
  generalize flatR ((docB I (docOk hc)).containerT k (((docB I (docOk hc)).content k).map (docB I (docOk hc)).box)) pr S = S9 at HCO ⊢
  generalize (docB I (docOk hc)).content k = CL at HCT HCO
  clear hsz hns hcl i1 i2 i3 h4 hb4 IH hk hrk hkd h hp
  go_enter Tryz.func74, Tryz.ntmps74
  go_upto_region 1 with fail
  generalize World.alloc w _ = w1 at H1 HR HT ⊢
  generalize w.heap.size = g1 at H1 ⊢
  have c1 : w1.cell? ⟨g1, 0, none⟩ = some (.pointer (some ⟨gM, 0, none⟩)) := H1.out.1.cell 0
  rcases hkk with rfl | rfl
  all_goals
    go_wp2_with (first | (go_at_call 35; refine (HCT.out _ HR.out).mono ?_; rintro e wc ⟨A', c', rfl, hh, hbc⟩; have HH := Lib.hid hh; replace HR := Lib.hid (HR.out.below hbc); replace HT := Lib.hid (HT.out.thenB hbc); replace H1 := Lib.hid (H1.out.below hbc); have c2 : wc.cell? ⟨g1, 0, none⟩ = some (.pointer (some ⟨gM, 0, none⟩)) := H1.out.1.cell 0; clear hh hbc c1) | (go_at_call 115; refine (HKD.out _ HR.out).mono ?_; rintro e wk ⟨rfl, hrk, htk⟩; replace HR := Lib.hid hrk; replace HT := Lib.hid (HT.out.trans htk); replace H1 := Lib.hid (H1.out.turn htk); replace HH := Lib.hid (HH.out.turn htk); have c3 : wk.cell? ⟨g1, 0, none⟩ = some (.pointer (some ⟨gM, 0, none⟩)) := H1.out.1.cell 0; clear hrk htk c2) | (go_at_call 34; refine (HCO.out _ _ _ HR.out HH.out).mono ?_; rintro e wr ⟨rfl, O2, hrr, htr⟩; replace HR := Lib.hid hrr; replace HT := Lib.hid (HT.out.trans htr); clear hrr htr))
    (try simp only [Exit.inBlock, Exit.then]); refine bodyPost_end (results_none rfl _ _ _) rfl ?_
    exact ⟨rfl, O2, HR.out, HT.out⟩
/-- Box, by how deep a node stands. -/
theorem rbox_calls (I : BxV) (hc : checkE I.ns = 0) (base gM bK : Nat) : ∀ r, DeepSays I hc base gM bK r
  | 0, j, h, _, _ => by omega
  | r + 1, j, hj, hn, hnk => fun O S w pr h hp hsz => by
    have IH := rbox_calls I hc base gM bK r
    have hrk : rankN I.ns j ≤ r := by omega
    rcases (docB I (docOk hc)).box_cases j with ⟨h1, h2⟩ | ⟨h1, h2⟩ | ⟨h1, h2⟩ | ⟨h1, h2⟩ | ⟨h1, h2⟩ | ⟨h1, h2⟩
    · rw [h2] at hsz ⊢
      exact rboxText_calls I hc base gM bK r j IH hn hrk hnk h1 O S w pr h hp hsz
    · rw [h2] at hsz ⊢
      exact rboxInl_calls I hc base gM bK r j IH hn hrk h1 O S w pr h hp hsz
    · rw [h2] at hsz ⊢
      exact rboxAtom_calls I hc base gM bK r j IH hn hrk h1 O S w pr h hp hsz
    · rw [h2] at hsz ⊢
      exact rboxFlex_calls I hc base gM bK r j IH hn hrk h1 O S w pr h hp hsz
    · rw [h2] at hsz ⊢
      exact rboxTab_calls I hc base gM bK r j IH hn hrk h1 O S w pr h hp hsz
    · rw [h2] at hsz ⊢
      exact rboxDef_calls I hc base gM bK r j IH hn hrk _ h1 rfl O S w pr h hp hsz
end Go.Proofs.YtkmmlcnoeeaekaaGreatDoor
