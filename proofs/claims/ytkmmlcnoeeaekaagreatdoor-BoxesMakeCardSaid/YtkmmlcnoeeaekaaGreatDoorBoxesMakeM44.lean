/- Several texts in one: BxRz. -/
import Derived.Test.YtkmmlcnoeeaekaaGreatDoorBoxesMakeM43
/- Contracts of the closures of the reference's Box, on tables. -/
namespace Go.Proofs.YtkmmlcnoeeaekaaGreatDoor
open Go.RowKit Go.Maps
set_option linter.unusedVariables false
set_option linter.unusedSimpArgs false

/-- What Box says of all that stand deeper. -/
def DeepSays (I : BxV) (hc : checkE I.ns = 0) (base gM bK r : Nat) : Prop := ∀ j, rankN I.ns j < r → j < I.n → ((docB I (docOk hc)).nk j = 3 ∨ (docB I (docOk hc)).nk j = 2) → RBoxSays (docB I (docOk hc)) I base gM bK j
theorem DocB.content_kind (X : DocB) : ∀ (u n k : Nat), k ∈ X.contentF u n → X.nk k = 3 ∨ X.nk k = 2
  | 0, _, _, h => by cases h
  | u + 1, n, k, h => by
    rw [DocB.contentF, List.mem_flatMap] at h
    obtain ⟨j, hj, h⟩ := h
    split at h
    · rename_i h3
      simp at h; subst h; exact .inl h3
    · split at h
      · cases h
      · rename_i h4
        split at h
        · exact DocB.content_kind X u j k h
        · simp at h; subst h
          refine .inr ?_
          have h5 : ¬ X.nk k ≠ 2 := fun h6 => h4 (.inl h6)
          exact Classical.not_not.1 h5
theorem DeepSays.content {I : BxV} {hc : checkE I.ns = 0} {base gM bK r : Nat} (h : DeepSays I hc base gM bK r) (hI : I.ns.length = I.n) {k : Nat} (hk : rankN I.ns k ≤ r) : (∀ j ∈ (docB I (docOk hc)).content k, j < I.n) ∧ (∀ j ∈ (docB I (docOk hc)).content k, rankN I.ns j < rankN I.ns k) ∧ ∀ j ∈ (docB I (docOk hc)).content k, RBoxSays (docB I (docOk hc)) I base gM bK j := by
  have h1 : ∀ j ∈ (docB I (docOk hc)).content k, j < I.n := fun j hj => by have := content_lt I (docOk hc) hj; omega
  have h2 : ∀ j ∈ (docB I (docOk hc)).content k, rankN I.ns j < rankN I.ns k := fun j hj => DocB.content_deep (docB I (docOk hc)) hj
  exact ⟨h1, h2, fun j hj => h j (by have := h2 j hj; omega) (h1 j hj) ((docB I (docOk hc)).content_kind _ _ _ hj)⟩
set_option maxRecDepth 100000 in
set_option maxHeartbeats 4000000 in
theorem rb41_calls (I : BxV) (hc : checkE I.ns = 0) (base gM bK g1 g2 at_ r k : Nat) (IH : DeepSays I hc base gM bK r) (hk : k < I.n) (hrk : rankN I.ns k ≤ r) (O : Nat → Prop) (S : List PBox) (w : World) (h : RSB (docB I (docOk hc)) I base gM bK O w S) (h1 : BlkF O w g1 81 #[.pointer (some ⟨gM, 0, none⟩)]) (h2 : BlkF O w g2 3 #[.int .i64 (at_ : Nat)])
    (hat : at_ < S.length) (hsz : (flatR ((docB I (docOk hc)).cellT (docB I (docOk hc)).box k ((docB I (docOk hc)).content k)) at_ S).length ≤ 2000) :
    Calls Tryz.prog 122 #[.int .i64 (k : Nat), .pointer (some ⟨g1, 0, none⟩), .pointer (some ⟨g2, 0, none⟩)] w (Puts (docB I (docOk hc)) I base gM bK (flatR ((docB I (docOk hc)).cellT (docB I (docOk hc)).box k ((docB I (docOk hc)).content k)) at_ S) O w) := by
  have hns := h.okI.hn
  obtain ⟨i1, i2, i3⟩ := IH.content hns hrk
  have hcl := content_len I hc k
  have HCT := Lib.hid (fun (w' : World) (h' : RSB (docB I (docOk hc)) I base gM bK O w' S) => rcontent_held I hc base gM bK k O S w' h' hk)
  have HCE := Lib.hid (fun (A' : Option Addr) (c' : Nat) (w' : World) (h' : RSB (docB I (docOk hc)) I base gM bK O w' S) (hh : Held O w' A' ((docB I (docOk hc)).content k)) => rcell_calls I hc base gM bK (k : Nat) (at_ : Nat) ((docB I (docOk hc)).content k) i1 i3 O S w' A' ((docB I (docOk hc)).content k).length c' h' (by omega) rfl hh (by omega) hsz)
  have HR := Lib.hid h.drew
  have H1 := Lib.hid h1.drew
  have H2 := Lib.hid h2.drew
  have HT := Lib.hid (TurnW.refl O w).drew
  unfold CtSays at HCT
  unfold Puts at HCE ⊢
  have hS0 : (fun w' : World => w'.cell? ⟨g1, 0, none⟩ = some (.pointer (some ⟨gM, 0, none⟩)) ∧ w'.cell? ⟨g2, 0, none⟩ = some (.int .i64 (at_ : Nat))) (World.drew w) := ⟨H1.out.1.cell 0, H2.out.1.cell 0⟩
  generalize flatR ((docB I (docOk hc)).cellT (docB I (docOk hc)).box k ((docB I (docOk hc)).content k)) at_ S = S9 at HCE ⊢
  generalize (docB I (docOk hc)).content k = CL at HCT HCE
  clear h h1 h2 IH hns i1 i2 i3 hcl hsz hat hk hrk
  go_enter Tryz.func122, Tryz.ntmps122
  refine wp_region_noPanic ?_
  refine region_M (S := fun w' => w'.cell? ⟨g1, 0, none⟩ = some (.pointer (some ⟨gM, 0, none⟩)) ∧ w'.cell? ⟨g2, 0, none⟩ = some (.int .i64 (at_ : Nat))) (T := []) (by kernel_rfl) ?_
  generalize World.drew w = wd at HR H1 H2 HT hS0 ⊢
  refine anyM_take (i := 0) (oi := { dst := some 4, op := _, type := _, pos := _, after := _, guard := _ }) (v := ?_) rfl (by kernel_rfl) (fun _ _ _ h => h) (Or.inl ⟨by kernel_rfl, ?_⟩) hS0 ?_
  rotate_left 1
  · (intro w hSw; (try dsimp only at hSw); go_simp; try with_reducible rfl)
  try simp only [Act.put, Array.toArray_toList, List.setIfInBounds_toArray, List.set_cons_zero, List.set_cons_succ]
  refine anyM_free (i := 1) (oi := { dst := some 5, op := _, type := _, pos := _, after := _, guard := _ }) (v := ?_) rfl (by kernel_rfl) (fun _ _ _ h => h) (Or.inl ⟨by kernel_rfl, ?_⟩) (fun _ => hS0) ?_
  rotate_left 1
  · (intro w hSw; (try dsimp only at hSw); go_simp; try with_reducible rfl)
  try simp only [Act.put, Array.toArray_toList, List.setIfInBounds_toArray, List.set_cons_zero, List.set_cons_succ]
  refine anyM_take (i := 2) (oi := { dst := some 6, op := _, type := _, pos := _, after := _, guard := _ }) (v := ?_) rfl (by kernel_rfl) (fun _ _ _ h => h) (Or.inl ⟨by kernel_rfl, ?_⟩) hS0 ?_
  rotate_left 1
  · (intro w hSw; (try dsimp only at hSw); go_simp; try with_reducible rfl)
  try simp only [Act.put, Array.toArray_toList, List.setIfInBounds_toArray, List.set_cons_zero, List.set_cons_succ]
  refine anyM_take (i := 3) (oi := { dst := some 7, op := _, type := _, pos := _, after := _, guard := _ }) (v := ?_) rfl (by kernel_rfl) (fun _ _ _ h => h) (Or.inl ⟨by kernel_rfl, ?_⟩) hS0 ?_
  rotate_left 1
  · (intro w hSw; (try dsimp only at hSw); go_simp; try with_reducible rfl)
  try simp only [Act.put, Array.toArray_toList, List.setIfInBounds_toArray, List.set_cons_zero, List.set_cons_succ]
  refine anyM_free (i := 4) (oi := { dst := some 8, op := _, type := _, pos := _, after := _, guard := _ }) (v := ?_) rfl (by kernel_rfl) (fun _ _ _ h => h) (Or.inl ⟨by kernel_rfl, ?_⟩) (fun _ => hS0) ?_
  rotate_left 1
  · (intro w hSw; (try dsimp only at hSw); go_simp; try with_reducible rfl)
  try simp only [Act.put, Array.toArray_toList, List.setIfInBounds_toArray, List.set_cons_zero, List.set_cons_succ]
  refine anyM_one (i := 5) (by kernel_rfl) rfl (fun K hK => ?_)
  go_simp
  refine Calls.mono (HCT.out _ HR.out) ?_
  rintro e wc ⟨A', c', rfl, hh, hbc⟩
  have HH := Lib.hid hh
  replace HR := Lib.hid (HR.out.below hbc)
  replace HT := Lib.hid (HT.out.thenB hbc)
  replace H1 := Lib.hid (H1.out.below hbc)
  replace H2 := Lib.hid (H2.out.below hbc)
  clear hh hbc
  have hS0 : (fun w' : World => w'.cell? ⟨g1, 0, none⟩ = some (.pointer (some ⟨gM, 0, none⟩)) ∧ w'.cell? ⟨g2, 0, none⟩ = some (.int .i64 (at_ : Nat))) wc := ⟨H1.out.1.cell 0, H2.out.1.cell 0⟩
  refine hK.out _ _ (fun _ => hS0) ?_
  clear hK K
  try simp only [Act.put, Array.toArray_toList, List.setIfInBounds_toArray, List.set_cons_zero, List.set_cons_succ]
  refine anyM_one (i := 6) (by kernel_rfl) rfl (fun K hK => ?_)
  go_simp
  refine Calls.mono (HCE.out _ _ _ HR.out HH.out) ?_
  rintro e we ⟨rfl, O2, hr1, ht1⟩
  replace HR := Lib.hid hr1
  replace HT := Lib.hid (HT.out.trans ht1)
  replace H1 := Lib.hid (H1.out.turn ht1)
  replace H2 := Lib.hid (H2.out.turn ht1)
  clear hr1 ht1
  have hS0 : (fun w' : World => w'.cell? ⟨g1, 0, none⟩ = some (.pointer (some ⟨gM, 0, none⟩)) ∧ w'.cell? ⟨g2, 0, none⟩ = some (.int .i64 (at_ : Nat))) we := ⟨H1.out.1.cell 0, H2.out.1.cell 0⟩
  refine hK.out _ _ (fun _ => hS0) ?_
  clear hK K
  try simp only [Act.put, Array.toArray_toList, List.setIfInBounds_toArray, List.set_cons_zero, List.set_cons_succ]
  refine anyM_done (by kernel_rfl) ?_ _
  refine NoPanic.normal ?_
  clear hS0
  go_wp2_with fail
  (try simp only [Exit.inBlock, Exit.then]); refine bodyPost_end (results_none rfl _ _ _) rfl ?_
  exact ⟨rfl, O2, HR.out, HT.out⟩
set_option maxRecDepth 100000 in
set_option maxHeartbeats 4000000 in
theorem rb42_calls (I : BxV) (hc : checkE I.ns = 0) (base gM bK g1 g2 at_ : Nat) (us : List Nat) (A : Option Addr) (n c : Nat) (O : Nat → Prop) (S : List PBox) (w : World) (h : RSB (docB I (docOk hc)) I base gM bK O w S) (h1 : BlkF O w g1 81 #[.pointer (some ⟨gM, 0, none⟩)]) (h2 : BlkF O w g2 3 #[.int .i64 (at_ : Nat)])
    (hlt : ∀ k ∈ us, k < I.n) (HB : ∀ k ∈ us, RBoxSays (docB I (docOk hc)) I base gM bK k) (hl : us.length = n) (hH : Held O w A us) (hm : n ≤ 1000) (hat : at_ < S.length) (hsz : (flatR ((docB I (docOk hc)).cellT (docB I (docOk hc)).box (-1) us) at_ S).length ≤ 2000) :
    Calls Tryz.prog 124 #[.slice A n c, .pointer (some ⟨g1, 0, none⟩), .pointer (some ⟨g2, 0, none⟩)] w (Puts (docB I (docOk hc)) I base gM bK (flatR ((docB I (docOk hc)).cellT (docB I (docOk hc)).box (-1) us) at_ S) O w) := by
  have hC := rcell_calls I hc base gM bK (-1) (at_ : Nat) us hlt HB O S w A n c h (by omega) hl hH hm hsz
  unfold Puts at hC ⊢
  have HC := Lib.hid hC
  have c1 : w.cell? ⟨g1, 0, none⟩ = some (.pointer (some ⟨gM, 0, none⟩)) := h1.1.cell 0
  have c2 : w.cell? ⟨g2, 0, none⟩ = some (.int .i64 (at_ : Nat)) := h2.1.cell 0
  generalize flatR ((docB I (docOk hc)).cellT (docB I (docOk hc)).box (-1) us) at_ S = S9 at HC ⊢
  clear hC h h1 h2 hlt HB hl hH hm hat hsz
  go_enter Tryz.func124, Tryz.ntmps124
  go_wp2_with (go_at_call 123; refine HC.out.mono ?_; rintro e w1 ⟨rfl, O1, hr1, ht1⟩; have HR1 := Lib.hid hr1; have HT1 := Lib.hid ht1; clear hr1 ht1)
  (try simp only [Exit.inBlock, Exit.then]); refine bodyPost_end (results_none rfl _ _ _) rfl ?_
  exact ⟨rfl, O1, HR1.out, HT1.out⟩
set_option maxRecDepth 100000 in
set_option maxHeartbeats 4000000 in
theorem rb5_calls (I : BxV) (hc : checkE I.ns = 0) (base gM bK g1 g2 at_ : Nat) (us : List Nat) (A : Option Addr) (n c : Nat) (O : Nat → Prop) (S : List PBox) (w : World) (h : RSB (docB I (docOk hc)) I base gM bK O w S) (h1 : BlkF O w g1 81 #[.pointer (some ⟨gM, 0, none⟩)]) (h2 : BlkF O w g2 3 #[.int .i64 (at_ : Nat)])
    (hlt : ∀ k ∈ us, k < I.n) (HB : ∀ k ∈ us, RBoxSays (docB I (docOk hc)) I base gM bK k) (hl : us.length = n) (hH : Held O w A us) (hm : n ≤ 1000) (hat : at_ < S.length) (hsz : (flatR (.mk 8 (-1) noS [(docB I (docOk hc)).cellT (docB I (docOk hc)).box (-1) us]) at_ S).length ≤ 2000) :
    Calls Tryz.prog 125 #[.slice A n c, .pointer (some ⟨g1, 0, none⟩), .pointer (some ⟨g2, 0, none⟩)] w (Puts (docB I (docOk hc)) I base gM bK (flatR (.mk 8 (-1) noS [(docB I (docOk hc)).cellT (docB I (docOk hc)).box (-1) us]) at_ S) O w) := by
  have hz := hsz
  rw [flatR_size, tsz_mk] at hz
  have he : flatR (.mk 8 (-1) noS [(docB I (docOk hc)).cellT (docB I (docOk hc)).box (-1) us]) at_ S = flatR ((docB I (docOk hc)).cellT (docB I (docOk hc)).box (-1) us) (S.length : Nat) (putR 8 (-1) at_ noS S) := by
    rw [flatR_put _ _ _ _ _ _ (by omega), flatPs_cons, flatPs]
  rw [he] at hsz ⊢
  have HP := Lib.hid (fun (w' : World) (h' : RSB (docB I (docOk hc)) I base gM bK O w' S) => put0_calls (docB I (docOk hc)) I base gM bK 8 (-1) (at_ : Nat) O S w' h' (by omega) (by omega))
  have HCE := Lib.hid (fun (O' : Nat → Prop) (w' : World) (h' : RSB (docB I (docOk hc)) I base gM bK O' w' (putR 8 (-1) at_ noS S)) (hh : Held O' w' A us) => rcell_calls I hc base gM bK (-1) (S.length : Nat) us hlt HB O' (putR 8 (-1) at_ noS S) w' A n c h' (by rw [putR_len]; omega) hl hh hm hsz)
  have HR := Lib.hid h.drew
  have H1 := Lib.hid h1.drew
  have H2 := Lib.hid h2.drew
  have HH := Lib.hid hH.drew
  have HT := Lib.hid (TurnW.refl O w).drew
  unfold PutSays at HP
  unfold Puts at HCE ⊢
  have hS0 : (fun w' : World => w'.cell? ⟨g1, 0, none⟩ = some (.pointer (some ⟨gM, 0, none⟩)) ∧ w'.cell? ⟨g2, 0, none⟩ = some (.int .i64 (at_ : Nat))) (World.drew w) := ⟨H1.out.1.cell 0, H2.out.1.cell 0⟩
  generalize flatR ((docB I (docOk hc)).cellT (docB I (docOk hc)).box (-1) us) (S.length : Nat) (putR 8 (-1) at_ noS S) = S9 at HCE ⊢
  generalize putR 8 (-1) at_ noS S = S8 at HP HCE
  generalize hsl : S.length = sl at HP HCE
  clear h h1 h2 hz he hsz hlt HB hl hH hm hat hsl
  go_enter Tryz.func125, Tryz.ntmps125
  refine wp_region_noPanic ?_
  refine region_M (S := fun w' => w'.cell? ⟨g1, 0, none⟩ = some (.pointer (some ⟨gM, 0, none⟩)) ∧ w'.cell? ⟨g2, 0, none⟩ = some (.int .i64 (at_ : Nat))) (T := []) (by kernel_rfl) ?_
  generalize World.drew w = wd at HR H1 H2 HH HT hS0 ⊢
  refine anyM_take (i := 0) (oi := { dst := some 4, op := _, type := _, pos := _, after := _, guard := _ }) (v := ?_) rfl (by kernel_rfl) (fun _ _ _ h => h) (Or.inl ⟨by kernel_rfl, ?_⟩) hS0 ?_
  rotate_left 1
  · (intro w hSw; (try dsimp only at hSw); go_simp; try with_reducible rfl)
  try simp only [Act.put, Array.toArray_toList, List.setIfInBounds_toArray, List.set_cons_zero, List.set_cons_succ]
  refine anyM_take (i := 1) (oi := { dst := some 5, op := _, type := _, pos := _, after := _, guard := _ }) (v := ?_) rfl (by kernel_rfl) (fun _ _ _ h => h) (Or.inl ⟨by kernel_rfl, ?_⟩) hS0 ?_
  rotate_left 1
  · (intro w hSw; (try dsimp only at hSw); go_simp; try with_reducible rfl)
  try simp only [Act.put, Array.toArray_toList, List.setIfInBounds_toArray, List.set_cons_zero, List.set_cons_succ]
  refine anyM_take (i := 2) (oi := { dst := some 6, op := _, type := _, pos := _, after := _, guard := _ }) (v := ?_) rfl (by kernel_rfl) (fun _ _ _ h => h) (Or.inl ⟨by kernel_rfl, ?_⟩) hS0 ?_
  rotate_left 1
  · (intro w hSw; (try dsimp only at hSw); go_simp; try with_reducible rfl)
  try simp only [Act.put, Array.toArray_toList, List.setIfInBounds_toArray, List.set_cons_zero, List.set_cons_succ]
  refine anyM_free (i := 4) (oi := { dst := some 8, op := _, type := _, pos := _, after := _, guard := _ }) (v := ?_) rfl (by kernel_rfl) (fun _ _ _ h => h) (Or.inl ⟨by kernel_rfl, ?_⟩) (fun _ => hS0) ?_
  rotate_left 1
  · (intro w hSw; (try dsimp only at hSw); go_simp; try with_reducible rfl)
  try simp only [Act.put, Array.toArray_toList, List.setIfInBounds_toArray, List.set_cons_zero, List.set_cons_succ]
  refine anyM_one (i := 3) (by kernel_rfl) rfl (fun K hK => ?_)
  go_simp
  refine Calls.mono (HP.out _ HR.out) ?_
  rintro e wp ⟨rfl, O1, hr1, ht1⟩
  replace HR := Lib.hid hr1
  replace HT := Lib.hid (HT.out.trans ht1)
  replace H1 := Lib.hid (H1.out.turn ht1)
  replace H2 := Lib.hid (H2.out.turn ht1)
  replace HH := Lib.hid (HH.out.turn ht1)
  clear hr1 ht1
  have hS0 : (fun w' : World => w'.cell? ⟨g1, 0, none⟩ = some (.pointer (some ⟨gM, 0, none⟩)) ∧ w'.cell? ⟨g2, 0, none⟩ = some (.int .i64 (at_ : Nat))) wp := ⟨H1.out.1.cell 0, H2.out.1.cell 0⟩
  refine hK.out _ _ (fun _ => hS0) ?_
  clear hK K
  try simp only [Act.put, Array.toArray_toList, List.setIfInBounds_toArray, List.set_cons_zero, List.set_cons_succ]
  refine anyM_one (i := 5) (by kernel_rfl) rfl (fun K hK => ?_)
  go_simp
  refine Calls.mono (HCE.out _ _ HR.out HH.out) ?_
  rintro e we ⟨rfl, O2, hr1, ht1⟩
  replace HR := Lib.hid hr1
  replace HT := Lib.hid (HT.out.trans ht1)
  replace H1 := Lib.hid (H1.out.turn ht1)
  replace H2 := Lib.hid (H2.out.turn ht1)
  clear hr1 ht1
  have hS0 : (fun w' : World => w'.cell? ⟨g1, 0, none⟩ = some (.pointer (some ⟨gM, 0, none⟩)) ∧ w'.cell? ⟨g2, 0, none⟩ = some (.int .i64 (at_ : Nat))) we := ⟨H1.out.1.cell 0, H2.out.1.cell 0⟩
  refine hK.out _ _ (fun _ => hS0) ?_
  clear hK K
  try simp only [Act.put, Array.toArray_toList, List.setIfInBounds_toArray, List.set_cons_zero, List.set_cons_succ]
  refine anyM_done (by kernel_rfl) ?_ _
  refine NoPanic.normal ?_
  clear hS0
  go_wp2_with fail
  (try simp only [Exit.inBlock, Exit.then]); refine bodyPost_end (results_none rfl _ _ _) rfl ?_
  exact ⟨rfl, O2, HR.out, HT.out⟩
set_option maxRecDepth 100000 in
set_option maxHeartbeats 8000000 in
theorem rb4_calls (I : BxV) (hc : checkE I.ns = 0) (base gM bK g1 g2 at_ r k : Nat) (IH : DeepSays I hc base gM bK r) (hk : k < I.n) (hrk : rankN I.ns k ≤ r) (O : Nat → Prop) (S : List PBox) (w : World) (h : RSB (docB I (docOk hc)) I base gM bK O w S) (h1 : BlkF O w g1 81 #[.pointer (some ⟨gM, 0, none⟩)]) (h2 : BlkF O w g2 3 #[.int .i64 (at_ : Nat)])
    (hat : at_ < S.length) (hsz : (flatR (.mk 8 k noS ((docB I (docOk hc)).cellsT (docB I (docOk hc)).box ((docB I (docOk hc)).content k))) at_ S).length ≤ 2000) :
    Calls Tryz.prog 121 #[.int .i64 (k : Nat), .pointer (some ⟨g1, 0, none⟩), .pointer (some ⟨g2, 0, none⟩)] w (Puts (docB I (docOk hc)) I base gM bK (flatR (.mk 8 k noS ((docB I (docOk hc)).cellsT (docB I (docOk hc)).box ((docB I (docOk hc)).content k))) at_ S) O w) := by
  have hns := h.okI.hn
  obtain ⟨i1, i2, i3⟩ := IH.content hns hrk
  have hcl := content_len I hc k
  have hz := hsz
  rw [flatR_size, tsz_mk] at hz
  have he : flatR (.mk 8 k noS ((docB I (docOk hc)).cellsT (docB I (docOk hc)).box ((docB I (docOk hc)).content k))) at_ S = flatPs (pieces ((docB I (docOk hc)).named 7) (fun n => (docB I (docOk hc)).cellT (docB I (docOk hc)).box n ((docB I (docOk hc)).content n)) (fun r => (docB I (docOk hc)).cellT (docB I (docOk hc)).box (-1) r) (fun r => !(docB I (docOk hc)).idleT (r.map (docB I (docOk hc)).box)) [] ((docB I (docOk hc)).content k)) S.length (putR 8 k at_ noS S) := by
    rw [flatR_put _ _ _ _ _ _ (by omega)]
    rfl
  rw [he] at hsz ⊢
  have HP := Lib.hid (put0_calls (docB I (docOk hc)) I base gM bK 8 (k : Nat) (at_ : Nat) O S w h (by omega) (by omega))
  have HCT := Lib.hid (fun (O' : Nat → Prop) (w' : World) (h' : RSB (docB I (docOk hc)) I base gM bK O' w' (putR 8 k at_ noS S)) => rcontent_held I hc base gM bK k O' _ w' h' hk)
  have HNM := Lib.hid (fun (O' : Nat → Prop) (w' : World) (h' : RSB (docB I (docOk hc)) I base gM bK O' w' (putR 8 k at_ noS S)) => rnamed_calls gM 7 O' w' (fun b hb => h'.fresh hb))
  have HRU := Lib.hid (fun (g4 q1 q2 : Nat) (A' : Option Addr) (c' : Nat) (O' : Nat → Prop) (w' : World) (h' : RSB (docB I (docOk hc)) I base gM bK O' w' (putR 8 k at_ noS S)) (hH' : Held O' w' A' ((docB I (docOk hc)).content k)) (h1 : BlkF O' w' g1 81 #[.pointer (some ⟨gM, 0, none⟩)]) (h4 : BlkF O' w' g4 3 #[.int .i64 (S.length : Nat)]) (hq1 : BlkF O' w' q1 81 #[.pointer (some ⟨gM, 0, none⟩)]) (hq2 : BlkF O' w' q2 3 #[.int .i64 7]) =>
    runs_calls I hc base gM bK _ _ _ g1 g4 q1 q2 S.length _ _ Trio.cells [(g1, 81, #[.pointer (some ⟨gM, 0, none⟩)]), (g4, 3, #[.int .i64 (S.length : Nat)]), (q1, 81, #[.pointer (some ⟨gM, 0, none⟩)]), (q2, 3, #[.int .i64 7])] ((docB I (docOk hc)).named 7) (fun n => (docB I (docOk hc)).cellT (docB I (docOk hc)).box n ((docB I (docOk hc)).content n)) (fun r => (docB I (docOk hc)).cellT (docB I (docOk hc)).box (-1) r) ((docB I (docOk hc)).content k) A' ((docB I (docOk hc)).content k).length c' O' (putR 8 k at_ noS S) w' h'
      (fun x hx => by
        rcases List.mem_cons.1 hx with rfl | hx
        · exact h1
        · rcases List.mem_cons.1 hx with rfl | hx
          · exact h4
          · rcases List.mem_cons.1 hx with rfl | hx
            · exact hq1
            · simp at hx; subst hx; exact hq2) rfl hH' (by omega) (by rw [putR_len]; omega) i1 hsz
      (fun j hj O1 S1 w1 hr1 he1 => rnamed1_calls I hc base gM bK q1 q2 j 7 O1 S1 w1 hr1 (i1 j hj) (he1 (q1, _, _) (by simp)) (he1 (q2, _, _) (by simp)))
      (fun j hj O1 S1 w1 hr1 he1 ha1 hz1 => rb41_calls I hc base gM bK g1 g4 S.length r j IH (i1 j hj) (by have := i2 j hj; omega) O1 S1 w1 hr1 (he1 (g1, _, _) (by simp)) (he1 (g4, _, _) (by simp)) ha1 hz1)
      (fun us A2 m2 c2 O1 S1 w1 hu hul hml hr1 he1 hh1 ha1 hz1 => rb42_calls I hc base gM bK g1 g4 S.length us A2 m2 c2 O1 S1 w1 hr1 (he1 (g1, _, _) (by simp)) (he1 (g4, _, _) (by simp)) (fun j hj => i1 j (hu j hj)) (fun j hj => i3 j (hu j hj)) hul hh1 (by omega) ha1 hz1))
  have H1 := Lib.hid h1
  have c1 : w.cell? ⟨g1, 0, none⟩ = some (.pointer (some ⟨gM, 0, none⟩)) := h1.1.cell 0
  have c2 : w.cell? ⟨g2, 0, none⟩ = some (.int .i64 (at_ : Nat)) := h2.1.cell 0
  unfold PutSays at HP
  unfold CtSays at HCT
  unfold NamedSays at HNM
  unfold Puts at HRU ⊢
  generalize flatPs (pieces ((docB I (docOk hc)).named 7) (fun n => (docB I (docOk hc)).cellT (docB I (docOk hc)).box n ((docB I (docOk hc)).content n)) (fun r => (docB I (docOk hc)).cellT (docB I (docOk hc)).box (-1) r) (fun r => !(docB I (docOk hc)).idleT (r.map (docB I (docOk hc)).box)) [] ((docB I (docOk hc)).content k)) S.length (putR 8 k at_ noS S) = S9 at HRU ⊢
  generalize putR 8 k at_ noS S = S8 at HP HCT HNM HRU
  generalize (docB I (docOk hc)).content k = CL at HCT HRU
  generalize hsl : S.length = sl at HP HRU
  clear he hsz hz h h1 h2 hns i1 i2 i3 hcl IH hk hrk hat hsl
  go_enter Tryz.func121, Tryz.ntmps121
  go_upto_region 1 with (go_at_call 69; refine HP.out.mono ?_; rintro e wp ⟨rfl, O1, hrp, htp⟩; have HBA := Lib.hid (below_alloc (Below.refl wp.heap.size wp) (.cells #[.int .i64 (sl : Nat)] 3)); have H4 : Hid (BlkF O1 (wp.alloc (.cells #[.int .i64 (sl : Nat)] 3)) wp.heap.size 3 #[.int .i64 (sl : Nat)]) := ⟨Blk.new wp _ _, hrp.fresh (Nat.le_refl _)⟩; have HR := Lib.hid (hrp.below HBA.out); have HT := Lib.hid (htp.thenB HBA.out); replace H1 := Lib.hid ((H1.out.turn htp).below HBA.out); clear hrp htp)
  generalize World.alloc wp _ = w1 at H4 HR HT H1 ⊢
  generalize wp.heap.size = g4 at H4 ⊢
  replace HR := Lib.hid HR.out.drew
  replace HT := Lib.hid HT.out.drew
  replace H1 := Lib.hid H1.out.drew
  replace H4 := Lib.hid H4.out.drew
  have hS0 : (fun w' : World => w'.cell? ⟨g1, 0, none⟩ = some (.pointer (some ⟨gM, 0, none⟩))) (World.drew w1) := H1.out.1.cell 0
  clear c1 c2
  refine wp_region_noPanic ?_
  refine region_M (S := fun w' => w'.cell? ⟨g1, 0, none⟩ = some (.pointer (some ⟨gM, 0, none⟩))) (T := []) (by kernel_rfl) ?_
  generalize World.drew w1 = wd at HR H1 H4 HT hS0 ⊢
  refine anyM_take (i := 0) (oi := { dst := some 9, op := _, type := _, pos := _, after := _, guard := _ }) (v := ?_) rfl (by kernel_rfl) (fun _ _ _ h => h) (Or.inl ⟨by kernel_rfl, ?_⟩) hS0 ?_
  rotate_left 1
  · (intro w hSw; (try dsimp only at hSw); go_simp; try with_reducible rfl)
  try simp only [Act.put, Array.toArray_toList, List.setIfInBounds_toArray, List.set_cons_zero, List.set_cons_succ]
  refine anyM_take (i := 1) (oi := { dst := some 10, op := _, type := _, pos := _, after := _, guard := _ }) (v := ?_) rfl (by kernel_rfl) (fun _ _ _ h => h) (Or.inl ⟨by kernel_rfl, ?_⟩) hS0 ?_
  rotate_left 1
  · (intro w hSw; (try dsimp only at hSw); go_simp; try with_reducible rfl)
  try simp only [Act.put, Array.toArray_toList, List.setIfInBounds_toArray, List.set_cons_zero, List.set_cons_succ]
  refine anyM_free (i := 2) (oi := { dst := some 11, op := _, type := _, pos := _, after := _, guard := _ }) (v := ?_) rfl (by kernel_rfl) (fun _ _ _ h => h) (Or.inl ⟨by kernel_rfl, ?_⟩) (fun _ => hS0) ?_
  rotate_left 1
  · (intro w hSw; (try dsimp only at hSw); go_simp; try with_reducible rfl)
  try simp only [Act.put, Array.toArray_toList, List.setIfInBounds_toArray, List.set_cons_zero, List.set_cons_succ]
  refine anyM_take (i := 4) (oi := { dst := some 13, op := _, type := _, pos := _, after := _, guard := _ }) (v := ?_) rfl (by kernel_rfl) (fun _ _ _ h => h) (Or.inl ⟨by kernel_rfl, ?_⟩) hS0 ?_
  rotate_left 1
  · (intro w hSw; (try dsimp only at hSw); go_simp; try with_reducible rfl)
  try simp only [Act.put, Array.toArray_toList, List.setIfInBounds_toArray, List.set_cons_zero, List.set_cons_succ]
  refine anyM_free (i := 6) (oi := { dst := some 15, op := _, type := _, pos := _, after := _, guard := _ }) (v := ?_) rfl (by kernel_rfl) (fun _ _ _ h => h) (Or.inl ⟨by kernel_rfl, ?_⟩) (fun _ => hS0) ?_
  rotate_left 1
  · (intro w hSw; (try dsimp only at hSw); go_simp; try with_reducible rfl)
  try simp only [Act.put, Array.toArray_toList, List.setIfInBounds_toArray, List.set_cons_zero, List.set_cons_succ]
  refine anyM_free (i := 7) (oi := { dst := some 16, op := _, type := _, pos := _, after := _, guard := _ }) (v := ?_) rfl (by kernel_rfl) (fun _ _ _ h => h) (Or.inl ⟨by kernel_rfl, ?_⟩) (fun _ => hS0) ?_
  rotate_left 1
  · (intro w hSw; (try dsimp only at hSw); go_simp; try with_reducible rfl)
  try simp only [Act.put, Array.toArray_toList, List.setIfInBounds_toArray, List.set_cons_zero, List.set_cons_succ]
  refine anyM_one (i := 3) (by kernel_rfl) rfl (fun K hK => ?_)
  go_simp
  refine Calls.mono (HCT.out _ _ HR.out) ?_
  rintro e wc ⟨A', c', rfl, hh, hbc⟩
  have HH := Lib.hid hh
  replace HR := Lib.hid (HR.out.below hbc)
  replace HT := Lib.hid (HT.out.thenB hbc)
  replace H1 := Lib.hid (H1.out.below hbc)
  replace H4 := Lib.hid (H4.out.below hbc)
  clear hh hbc
  have hS0 : (fun w' : World => w'.cell? ⟨g1, 0, none⟩ = some (.pointer (some ⟨gM, 0, none⟩))) wc := H1.out.1.cell 0
  refine hK.out _ _ (fun _ => hS0) ?_
  clear hK K
  try simp only [Act.put, Array.toArray_toList, List.setIfInBounds_toArray, List.set_cons_zero, List.set_cons_succ]
  refine anyM_one (i := 5) (by kernel_rfl) rfl (fun K hK => ?_)
  go_simp
  refine Calls.mono (HNM.out _ _ HR.out) ?_
  rintro e wn ⟨q1, q2, rfl, hq1, hq2, hbn⟩
  have HQ1 := Lib.hid hq1
  have HQ2 := Lib.hid hq2
  replace HR := Lib.hid (HR.out.below hbn)
  replace HT := Lib.hid (HT.out.thenB hbn)
  replace H1 := Lib.hid (H1.out.below hbn)
  replace H4 := Lib.hid (H4.out.below hbn)
  replace HH := Lib.hid (HH.out.turn (TurnW.below hbn))
  clear hq1 hq2 hbn
  have hS0 : (fun w' : World => w'.cell? ⟨g1, 0, none⟩ = some (.pointer (some ⟨gM, 0, none⟩))) wn := H1.out.1.cell 0
  refine hK.out _ _ (fun _ => hS0) ?_
  clear hK K
  try simp only [Act.put, Array.toArray_toList, List.setIfInBounds_toArray, List.set_cons_zero, List.set_cons_succ]
  refine anyM_one (i := 8) (by kernel_rfl) rfl (fun K hK => ?_)
  go_simp
  refine Calls.mono (HRU.out g4 q1 q2 _ _ _ _ HR.out HH.out H1.out H4.out HQ1.out HQ2.out) ?_
  rintro e we ⟨rfl, O2, hr1, ht1⟩
  replace HR := Lib.hid hr1
  replace HT := Lib.hid (HT.out.trans ht1)
  replace H1 := Lib.hid (H1.out.turn ht1)
  clear hr1 ht1
  have hS0 : (fun w' : World => w'.cell? ⟨g1, 0, none⟩ = some (.pointer (some ⟨gM, 0, none⟩))) we := H1.out.1.cell 0
  refine hK.out _ _ (fun _ => hS0) ?_
  clear hK K
  try simp only [Act.put, Array.toArray_toList, List.setIfInBounds_toArray, List.set_cons_zero, List.set_cons_succ]
  refine anyM_done (by kernel_rfl) ?_ _
  refine NoPanic.normal ?_
  clear hS0
  go_wp2_with fail
  (try simp only [Exit.inBlock, Exit.then]); refine bodyPost_end (results_none rfl _ _ _) rfl ?_
  exact ⟨rfl, O2, HR.out, HT.out⟩
end Go.Proofs.YtkmmlcnoeeaekaaGreatDoor
