/- Several texts in one: BxRw, BxRx. -/
import Derived.Test.YtkmmlcnoeeaekaaGreatDoorBoxesMakeM41
/- Contracts of the closures of the reference's Container; Container; cell. -/
namespace Go.Proofs.YtkmmlcnoeeaekaaGreatDoor
open Go.RowKit Go.Maps
set_option linter.unusedVariables false
set_option linter.unusedSimpArgs false

theorem BlkF.below {O : Nat → Prop} {w w' : World} {g : Nat} {t : TypeId} {cs : Array Value} (h : BlkF O w g t cs) (hb : Below w.heap.size w w') : BlkF O w' g t cs := h.turn (TurnW.below hb)
theorem BlkF.drew {O : Nat → Prop} {w : World} {g : Nat} {t : TypeId} {cs : Array Value} (h : BlkF O w g t cs) : BlkF O w.drew g t cs := h
theorem Held.drew {O : Nat → Prop} {w : World} {A : Option Addr} {l : List Nat} (h : Held O w A l) : Held O w.drew A l := h
set_option maxRecDepth 100000 in
set_option maxHeartbeats 4000000 in
theorem cont1_calls (I : BxV) (hc : checkE I.ns = 0) (base gM bK g1 k : Nat) (O : Nat → Prop) (S : List PBox) (w : World) (h : RSB (docB I (docOk hc)) I base gM bK O w S) (hk : k < I.n) (h1 : BlkF O w g1 81 #[.pointer (some ⟨gM, 0, none⟩)]) :
    Calls Tryz.prog 71 #[.int .i64 (k : Nat), .pointer (some ⟨g1, 0, none⟩)] w (Tells (docB I (docOk hc)) I base gM bK (.bool ((docB I (docOk hc)).blockyN 1 k)) O S w) := by
  have HB := Lib.hid (blocky_says I hc base gM bK h.okI.hn 1 hk O S w h)
  have c1 : w.cell? ⟨g1, 0, none⟩ = some (.pointer (some ⟨gM, 0, none⟩)) := h1.1.cell 0
  unfold Tells at HB ⊢
  clear h hk h1
  go_enter Tryz.func71, Tryz.ntmps71
  go_wp2_with (go_at_call 72; refine HB.out.mono ?_; rintro e w1 ⟨rfl, hr1, ht1⟩; have HR1 := Lib.hid hr1; have HT1 := Lib.hid ht1; clear hr1 ht1)
  go_ret
  exact ⟨rfl, HR1.out, HT1.out⟩
set_option maxRecDepth 100000 in
set_option maxHeartbeats 4000000 in
theorem oneBox_calls (X : DocB) (I : BxV) (base gM bK f g1 g2 at_ k : Nat) (hf : f = 73 ∨ f = 118) (O : Nat → Prop) (S : List PBox) (w : World) (h : RSB X I base gM bK O w S) (h1 : BlkF O w g1 81 #[.pointer (some ⟨gM, 0, none⟩)]) (h2 : BlkF O w g2 3 #[.int .i64 (at_ : Nat)])
    (hat : at_ < S.length) (hsz : (flatR (X.box k) at_ S).length ≤ 2000) (HB : RBoxSays X I base gM bK k) :
    Calls Tryz.prog f #[.int .i64 (k : Nat), .pointer (some ⟨g1, 0, none⟩), .pointer (some ⟨g2, 0, none⟩)] w (Puts X I base gM bK (flatR (X.box k) at_ S) O w) := by
  have hb := HB O S w (at_ : Nat) h (by omega) hsz
  have c1 : w.cell? ⟨g1, 0, none⟩ = some (.pointer (some ⟨gM, 0, none⟩)) := h1.1.cell 0
  have c2 : w.cell? ⟨g2, 0, none⟩ = some (.int .i64 (at_ : Nat)) := h2.1.cell 0
  unfold Puts at hb ⊢
  have HC := Lib.hid hb
  clear h h1 h2 hb hat hsz HB
  rcases hf with rfl | rfl
  · go_enter Tryz.func73, Tryz.ntmps73
    go_wp2_with (go_at_call 74; refine HC.out.mono ?_; rintro e w1 ⟨rfl, O1, hr1, ht1⟩; have HR1 := Lib.hid hr1; have HT1 := Lib.hid ht1; clear hr1 ht1)
    (try simp only [Exit.inBlock, Exit.then]); refine bodyPost_end (results_none rfl _ _ _) rfl ?_
    exact ⟨rfl, O1, HR1.out, HT1.out⟩
  · go_enter Tryz.func118, Tryz.ntmps118
    go_wp2_with (go_at_call 74; refine HC.out.mono ?_; rintro e w1 ⟨rfl, O1, hr1, ht1⟩; have HR1 := Lib.hid hr1; have HT1 := Lib.hid ht1; clear hr1 ht1)
    (try simp only [Exit.inBlock, Exit.then]); refine bodyPost_end (results_none rfl _ _ _) rfl ?_
    exact ⟨rfl, O1, HR1.out, HT1.out⟩
/-- A list put below a box just put. -/
theorem putEach_says (X : DocB) (I : BxV) (base gM bK : Nat) (kd nd pr : Int) (l : List Nat) (A : Option Addr) (n c : Nat) (S : List PBox) (hl : l.length = n) (hm : n ≤ 1000) (hsz : (flatR (.mk kd nd noS (l.map X.box)) pr S).length ≤ 2000) (hp : pr < S.length) (HB : ∀ k ∈ l, RBoxSays X I base gM bK k) :
    (∀ (O : Nat → Prop) (w : World), RSB X I base gM bK O w S → Calls Tryz.prog 69 #[.pointer (some ⟨gM, 0, none⟩), .int .i64 kd, .int .i64 nd, .int .i64 pr, .string ⟨#[]⟩] w (PutSays X I base gM bK kd nd pr noS O S w)) ∧
    (∀ (O : Nat → Prop) (w : World), RSB X I base gM bK O w (putR kd nd pr noS S) → Held O w A l → Calls Tryz.prog 68 #[.pointer (some ⟨gM, 0, none⟩), .slice A n c, .int .i64 (S.length : Nat)] w (Puts X I base gM bK (flatR (.mk kd nd noS (l.map X.box)) pr S) O w)) := by
  have hz := hsz
  rw [flatR_size, tsz_mk] at hz
  refine ⟨fun O w h => put_calls X I base gM bK kd nd pr noS O S w h hp (by omega), fun O w h hH => ?_⟩
  rw [flatR_put _ _ _ _ _ _ hp] at hsz ⊢
  exact reach_calls X I base gM bK l A n c S.length O _ w h hl hH hm (by rw [putR_len]; omega) hsz HB
set_option maxRecDepth 100000 in
set_option maxHeartbeats 4000000 in
theorem runLines_calls (X : DocB) (I : BxV) (base gM bK f g1 g2 at_ : Nat) (hf : f = 75 ∨ f = 119) (us : List Nat) (A : Option Addr) (n c : Nat) (O : Nat → Prop) (S : List PBox) (w : World) (h : RSB X I base gM bK O w S) (h1 : BlkF O w g1 81 #[.pointer (some ⟨gM, 0, none⟩)]) (h2 : BlkF O w g2 3 #[.int .i64 (at_ : Nat)])
    (hl : us.length = n) (hH : Held O w A us) (hm : n ≤ 1000) (hat : at_ < S.length) (hsz : (flatR (DocB.linesT (us.map X.box)) at_ S).length ≤ 2000) (HB : ∀ k ∈ us, RBoxSays X I base gM bK k) :
    Calls Tryz.prog f #[.slice A n c, .pointer (some ⟨g1, 0, none⟩), .pointer (some ⟨g2, 0, none⟩)] w (Puts X I base gM bK (flatR (DocB.linesT (us.map X.box)) at_ S) O w) := by
  unfold DocB.linesT at hsz ⊢
  obtain ⟨hp, he⟩ := putEach_says X I base gM bK 2 (-1) (at_ : Nat) us A n c S hl hm hsz (by omega) HB
  have HP := Lib.hid hp
  have HEA := Lib.hid he
  have HR := Lib.hid h.drew
  have H1 := Lib.hid h1.drew
  have H2 := Lib.hid h2.drew
  have HH := Lib.hid hH.drew
  have HT := Lib.hid (TurnW.refl O w).drew
  unfold PutSays at HP
  unfold Puts at HEA ⊢
  have hS0 : (fun w' : World => w'.cell? ⟨g1, 0, none⟩ = some (.pointer (some ⟨gM, 0, none⟩)) ∧ w'.cell? ⟨g2, 0, none⟩ = some (.int .i64 (at_ : Nat))) (World.drew w) := ⟨h1.1.cell 0, h2.1.cell 0⟩
  generalize flatR (.mk 2 (-1) noS (us.map X.box)) at_ S = S9 at HEA ⊢
  generalize putR 2 (-1) at_ noS S = S8 at HP HEA
  generalize S.length = sl at HP HEA
  clear h h1 h2 hl hH hat hsz HB hp he
  rcases hf with rfl | rfl
  · go_enter Tryz.func75, Tryz.ntmps75
    refine wp_region_noPanic ?_
    refine region_M (S := fun w' => w'.cell? ⟨g1, 0, none⟩ = some (.pointer (some ⟨gM, 0, none⟩)) ∧ w'.cell? ⟨g2, 0, none⟩ = some (.int .i64 (at_ : Nat))) (T := []) (by kernel_rfl) ?_
    generalize World.drew w = wd at HR H1 H2 HH HT hS0 ⊢
    refine anyM_take (i := 0) (oi := { dst := some 4, op := _, type := _, pos := _, after := _, guard := _ }) (v := ?_) rfl (by kernel_rfl) (fun _ _ _ h => h) (Or.inl ⟨by kernel_rfl, ?_⟩) hS0 ?_
    rotate_left 1
    · (intro w hSw; (try dsimp only at hSw); go_simp; try with_reducible rfl)
    try simp only [Act.put, Array.toArray_toList, List.setIfInBounds_toArray, List.set_cons_zero, List.set_cons_succ]
    refine anyM_free (i := 1) (oi := { dst := some 5, op := _, type := _, pos := _, after := _, guard := _ }) (v := ?_) rfl (by kernel_rfl) (fun _ _ _ h => h) (Or.inl ⟨by kernel_rfl, ?_⟩) (fun _ => hS0) ?_
    rotate_left 1
    · (intro w hSw; (try dsimp only at hSw); go_simp; try with_reducible rfl)
    try simp only [Act.put, Array.toArray_toList, List.setIfInBounds_toArray, List.set_cons_zero, List.set_cons_succ]
    refine anyM_take (i := 2) (oi := { dst := some 6, op := _, type := _, pos := _, after := _, guard := _ }) (v := ?_) rfl (by kernel_rfl) (fun _ _ _ h => h) (Or.inl ⟨by kernel_rfl, ?_⟩) hS0 ?_
    rotate_left 1
    · (intro w hSw; (try dsimp only at hSw); go_simp; try with_reducible rfl)
    try simp only [Act.put, Array.toArray_toList, List.setIfInBounds_toArray, List.set_cons_zero, List.set_cons_succ]
    refine anyM_take (i := 3) (oi := { dst := some 7, op := _, type := _, pos := _, after := _, guard := _ }) (v := ?_) rfl (by kernel_rfl) (fun _ _ _ h => h) (Or.inl ⟨by kernel_rfl, ?_⟩) hS0 ?_
    rotate_left 1
    · (intro w hSw; (try dsimp only at hSw); go_simp; try with_reducible rfl)
    try simp only [Act.put, Array.toArray_toList, List.setIfInBounds_toArray, List.set_cons_zero, List.set_cons_succ]
    refine anyM_one (i := 4) (by kernel_rfl) rfl (fun K hK => ?_)
    go_simp
    refine Calls.mono (HP.out _ _ HR.out) ?_
    rintro e wp ⟨rfl, O1, hr1, ht1⟩
    replace HR := Lib.hid hr1
    replace HT := Lib.hid (HT.out.trans ht1)
    replace H1 := Lib.hid (H1.out.turn ht1)
    replace H2 := Lib.hid (H2.out.turn ht1)
    replace HH := Lib.hid (HH.out.turn ht1)
    clear hr1 ht1
    have hS0 : (fun w' : World => w'.cell? ⟨g1, 0, none⟩ = some (.pointer (some ⟨gM, 0, none⟩)) ∧ w'.cell? ⟨g2, 0, none⟩ = some (.int .i64 (at_ : Nat))) wp := ⟨H1.out.1.cell 0, H2.out.1.cell 0⟩
    refine hK.out _ _ (fun _ => hS0) ?_
    clear hK K
    try simp only [Act.put, Array.toArray_toList, List.setIfInBounds_toArray, List.set_cons_zero, List.set_cons_succ]
    refine anyM_one (i := 5) (by kernel_rfl) rfl (fun K hK => ?_)
    go_simp
    refine Calls.mono (HEA.out _ _ HR.out HH.out) ?_
    rintro e we ⟨rfl, O2, hr1, ht1⟩
    replace HR := Lib.hid hr1
    replace HT := Lib.hid (HT.out.trans ht1)
    replace H1 := Lib.hid (H1.out.turn ht1)
    replace H2 := Lib.hid (H2.out.turn ht1)
    clear hr1 ht1
    have hS0 : (fun w' : World => w'.cell? ⟨g1, 0, none⟩ = some (.pointer (some ⟨gM, 0, none⟩)) ∧ w'.cell? ⟨g2, 0, none⟩ = some (.int .i64 (at_ : Nat))) we := ⟨H1.out.1.cell 0, H2.out.1.cell 0⟩
    refine hK.out _ _ (fun _ => hS0) ?_
    clear hK K
    try simp only [Act.put, Array.toArray_toList, List.setIfInBounds_toArray, List.set_cons_zero, List.set_cons_succ]
    refine anyM_done (by kernel_rfl) ?_ _
    refine NoPanic.normal ?_
    clear hS0
    go_wp2_with fail
    (try simp only [Exit.inBlock, Exit.then]); refine bodyPost_end (results_none rfl _ _ _) rfl ?_
    exact ⟨rfl, O2, HR.out, HT.out⟩
  · go_enter Tryz.func119, Tryz.ntmps119
    refine wp_region_noPanic ?_
    refine region_M (S := fun w' => w'.cell? ⟨g1, 0, none⟩ = some (.pointer (some ⟨gM, 0, none⟩)) ∧ w'.cell? ⟨g2, 0, none⟩ = some (.int .i64 (at_ : Nat))) (T := []) (by kernel_rfl) ?_
    generalize World.drew w = wd at HR H1 H2 HH HT hS0 ⊢
    refine anyM_take (i := 0) (oi := { dst := some 4, op := _, type := _, pos := _, after := _, guard := _ }) (v := ?_) rfl (by kernel_rfl) (fun _ _ _ h => h) (Or.inl ⟨by kernel_rfl, ?_⟩) hS0 ?_
    rotate_left 1
    · (intro w hSw; (try dsimp only at hSw); go_simp; try with_reducible rfl)
    try simp only [Act.put, Array.toArray_toList, List.setIfInBounds_toArray, List.set_cons_zero, List.set_cons_succ]
    refine anyM_free (i := 1) (oi := { dst := some 5, op := _, type := _, pos := _, after := _, guard := _ }) (v := ?_) rfl (by kernel_rfl) (fun _ _ _ h => h) (Or.inl ⟨by kernel_rfl, ?_⟩) (fun _ => hS0) ?_
    rotate_left 1
    · (intro w hSw; (try dsimp only at hSw); go_simp; try with_reducible rfl)
    try simp only [Act.put, Array.toArray_toList, List.setIfInBounds_toArray, List.set_cons_zero, List.set_cons_succ]
    refine anyM_take (i := 2) (oi := { dst := some 6, op := _, type := _, pos := _, after := _, guard := _ }) (v := ?_) rfl (by kernel_rfl) (fun _ _ _ h => h) (Or.inl ⟨by kernel_rfl, ?_⟩) hS0 ?_
    rotate_left 1
    · (intro w hSw; (try dsimp only at hSw); go_simp; try with_reducible rfl)
    try simp only [Act.put, Array.toArray_toList, List.setIfInBounds_toArray, List.set_cons_zero, List.set_cons_succ]
    refine anyM_take (i := 3) (oi := { dst := some 7, op := _, type := _, pos := _, after := _, guard := _ }) (v := ?_) rfl (by kernel_rfl) (fun _ _ _ h => h) (Or.inl ⟨by kernel_rfl, ?_⟩) hS0 ?_
    rotate_left 1
    · (intro w hSw; (try dsimp only at hSw); go_simp; try with_reducible rfl)
    try simp only [Act.put, Array.toArray_toList, List.setIfInBounds_toArray, List.set_cons_zero, List.set_cons_succ]
    refine anyM_one (i := 4) (by kernel_rfl) rfl (fun K hK => ?_)
    go_simp
    refine Calls.mono (HP.out _ _ HR.out) ?_
    rintro e wp ⟨rfl, O1, hr1, ht1⟩
    replace HR := Lib.hid hr1
    replace HT := Lib.hid (HT.out.trans ht1)
    replace H1 := Lib.hid (H1.out.turn ht1)
    replace H2 := Lib.hid (H2.out.turn ht1)
    replace HH := Lib.hid (HH.out.turn ht1)
    clear hr1 ht1
    have hS0 : (fun w' : World => w'.cell? ⟨g1, 0, none⟩ = some (.pointer (some ⟨gM, 0, none⟩)) ∧ w'.cell? ⟨g2, 0, none⟩ = some (.int .i64 (at_ : Nat))) wp := ⟨H1.out.1.cell 0, H2.out.1.cell 0⟩
    refine hK.out _ _ (fun _ => hS0) ?_
    clear hK K
    try simp only [Act.put, Array.toArray_toList, List.setIfInBounds_toArray, List.set_cons_zero, List.set_cons_succ]
    refine anyM_one (i := 5) (by kernel_rfl) rfl (fun K hK => ?_)
    go_simp
    refine Calls.mono (HEA.out _ _ HR.out HH.out) ?_
    rintro e we ⟨rfl, O2, hr1, ht1⟩
    replace HR := Lib.hid hr1
    replace HT := Lib.hid (HT.out.trans ht1)
    replace H1 := Lib.hid (H1.out.turn ht1)
    replace H2 := Lib.hid (H2.out.turn ht1)
    clear hr1 ht1
    have hS0 : (fun w' : World => w'.cell? ⟨g1, 0, none⟩ = some (.pointer (some ⟨gM, 0, none⟩)) ∧ w'.cell? ⟨g2, 0, none⟩ = some (.int .i64 (at_ : Nat))) we := ⟨H1.out.1.cell 0, H2.out.1.cell 0⟩
    refine hK.out _ _ (fun _ => hS0) ?_
    clear hK K
    try simp only [Act.put, Array.toArray_toList, List.setIfInBounds_toArray, List.set_cons_zero, List.set_cons_succ]
    refine anyM_done (by kernel_rfl) ?_ _
    refine NoPanic.normal ?_
    clear hS0
    go_wp2_with fail
    (try simp only [Exit.inBlock, Exit.then]); refine bodyPost_end (results_none rfl _ _ _) rfl ?_
    exact ⟨rfl, O2, HR.out, HT.out⟩
end Go.Proofs.YtkmmlcnoeeaekaaGreatDoor
/- Contracts of the reference's Container and cell. -/
namespace Go.Proofs.YtkmmlcnoeeaekaaGreatDoor
open Go.RowKit Go.Maps
set_option linter.unusedVariables false
set_option linter.unusedSimpArgs false

theorem row_pieces (X : DocB) (al : TreeV → Bool) (l : List Nat) : X.rowT al (l.map X.box) = pieces (fun k => al (X.box k)) (fun k => X.box k) (fun r => DocB.linesT (r.map X.box)) (fun r => !X.idleT (r.map X.box)) [] l := by
  unfold DocB.rowT
  exact pieces_map X.box al id DocB.linesT (fun r => !X.idleT r) l []
theorem put0_calls (X : DocB) (I : BxV) (base gM bK : Nat) (kd nd pr : Int) (O : Nat → Prop) (S : List PBox) (w : World) (h : RSB X I base gM bK O w S) (hp : pr < S.length) (hz : S.length < 2000) :
    Calls Tryz.prog 69 #[.pointer (some ⟨gM, 0, none⟩), .int .i64 kd, .int .i64 nd, .int .i64 pr, .string ⟨#[]⟩] w (PutSays X I base gM bK kd nd pr noS O S w) := put_calls X I base gM bK kd nd pr noS O S w h hp hz
/-- What Container says. -/
def RContSays (X : DocB) (I : BxV) (base gM bK : Nat) (nd : Int) (l : List Nat) : Prop := ∀ (O : Nat → Prop) (S : List PBox) (w : World) (pr : Int) (A : Option Addr) (n c : Nat), RSB X I base gM bK O w S → pr < S.length → l.length = n → Held O w A l → n ≤ 1000 → (flatR (X.containerT nd (l.map X.box)) pr S).length ≤ 2000 →
  Calls Tryz.prog 34 #[.pointer (some ⟨gM, 0, none⟩), .int .i64 nd, .int .i64 pr, .slice A n c] w (Puts X I base gM bK (flatR (X.containerT nd (l.map X.box)) pr S) O w)
set_option maxRecDepth 100000 in
set_option maxHeartbeats 8000000 in
theorem rcont_calls (I : BxV) (hc : checkE I.ns = 0) (base gM bK : Nat) (nd : Int) (l : List Nat) (hlt : ∀ k ∈ l, k < I.n) (HB : ∀ k ∈ l, RBoxSays (docB I (docOk hc)) I base gM bK k) : RContSays (docB I (docOk hc)) I base gM bK nd l := by
  intro O S w pr A n c h hp hl hH hm hsz
  have hns := h.okI.hn
  have h4 := Blk.new w 81 #[.pointer (some ⟨gM, 0, none⟩)]
  have hb4 := below_alloc (Below.refl w.heap.size w) (.cells #[.pointer (some ⟨gM, 0, none⟩)] 81)
  have H1 : Hid (BlkF O _ w.heap.size 81 #[.pointer (some ⟨gM, 0, none⟩)]) := ⟨h4, h.fresh (Nat.le_refl _)⟩
  have HR := Lib.hid (h.below hb4)
  have HT := Lib.hid (TurnW.below (O := O) hb4)
  have HH := Lib.hid (hH.turn HT.out)
  have HSM := Lib.hid (fun (O' : Nat → Prop) (w' : World) (h' : RSB (docB I (docOk hc)) I base gM bK O' w' S) (hh : Held O' w' A l) => rsome_calls (docB I (docOk hc)) I base gM bK l A n c 1 O' S w' h' hl hh hm (fun k hk => blocky_says I hc base gM bK hns 1 (hlt k hk)))
  unfold Tells at HSM
  have hany := (docB I (docOk hc)).any_box 1 l
  have HCT : Hid ((docB I (docOk hc)).containerT nd (l.map (docB I (docOk hc)).box) = if l.any ((docB I (docOk hc)).blockyN 1) = true then TreeV.mk 1 nd noS ((docB I (docOk hc)).rowT ((docB I (docOk hc)).blockyT 1) (l.map (docB I (docOk hc)).box)) else TreeV.mk 2 nd noS (l.map (docB I (docOk hc)).box)) := by
    show _ = _
    unfold DocB.containerT
    rw [hany]
  cases han : l.any ((docB I (docOk hc)).blockyN 1) with
  | false =>
    rw [han] at HCT HSM
    have hct : (docB I (docOk hc)).containerT nd (l.map (docB I (docOk hc)).box) = TreeV.mk 2 nd noS (l.map (docB I (docOk hc)).box) := by rw [HCT.out]; rfl
    rw [hct] at hsz ⊢
    obtain ⟨hpu, hea⟩ := putEach_says (docB I (docOk hc)) I base gM bK 2 nd pr l A n c S hl hm hsz hp HB
    have HP := Lib.hid hpu
    have HEA := Lib.hid hea
    unfold PutSays at HP
    unfold Puts at HEA ⊢
    generalize flatR (.mk 2 nd noS (l.map (docB I (docOk hc)).box)) pr S = S9 at HEA ⊢
    generalize putR 2 nd pr noS S = S8 at HP HEA
    generalize hsl : S.length = sl at HP HEA
    clear hct han hany HCT hpu hea hsz hlt HB h hp hl hH hns h4 hb4 hsl
    go_enter Tryz.func34, Tryz.ntmps34
    go_upto_region 1 with fail
    generalize World.alloc w _ = w1 at H1 HR HT HH ⊢
    generalize w.heap.size = g1 at H1 ⊢
    have c1 : w1.cell? ⟨g1, 0, none⟩ = some (.pointer (some ⟨gM, 0, none⟩)) := H1.out.1.cell 0
    go_upto_region 2 with (go_at_call 67; refine (HSM.out _ _ HR.out HH.out).mono ?_; rintro e ws ⟨rfl, hrs, hts⟩; replace HR := Lib.hid hrs; replace HT := Lib.hid (HT.out.trans hts); replace H1 := Lib.hid (H1.out.turn hts); replace HH := Lib.hid (HH.out.turn hts); clear hrs hts c1)
    have hS0 : (fun w' : World => w'.cell? ⟨g1, 0, none⟩ = some (.pointer (some ⟨gM, 0, none⟩))) (World.drew ws) := H1.out.1.cell 0
    replace HR := Lib.hid HR.out.drew
    replace HT := Lib.hid HT.out.drew
    replace H1 := Lib.hid H1.out.drew
    replace HH := Lib.hid HH.out.drew
    refine wp_region_noPanic ?_
    refine region_M (S := fun w' => w'.cell? ⟨g1, 0, none⟩ = some (.pointer (some ⟨gM, 0, none⟩))) (T := []) (by kernel_rfl) ?_
    generalize World.drew ws = wd at HR H1 HH HT hS0 ⊢
    refine anyM_take (i := 0) (oi := { dst := some 13, op := _, type := _, pos := _, after := _, guard := _ }) (v := ?_) rfl (by kernel_rfl) (fun _ _ _ h => h) (Or.inl ⟨by kernel_rfl, ?_⟩) hS0 ?_
    rotate_left 1
    · (intro w hSw; (try dsimp only at hSw); go_simp; try with_reducible rfl)
    try simp only [Act.put, Array.toArray_toList, List.setIfInBounds_toArray, List.set_cons_zero, List.set_cons_succ]
    refine anyM_free (i := 1) (oi := { dst := some 14, op := _, type := _, pos := _, after := _, guard := _ }) (v := ?_) rfl (by kernel_rfl) (fun _ _ _ h => h) (Or.inl ⟨by kernel_rfl, ?_⟩) (fun _ => hS0) ?_
    rotate_left 1
    · (intro w hSw; (try dsimp only at hSw); go_simp; try with_reducible rfl)
    try simp only [Act.put, Array.toArray_toList, List.setIfInBounds_toArray, List.set_cons_zero, List.set_cons_succ]
    refine anyM_take (i := 2) (oi := { dst := some 15, op := _, type := _, pos := _, after := _, guard := _ }) (v := ?_) rfl (by kernel_rfl) (fun _ _ _ h => h) (Or.inl ⟨by kernel_rfl, ?_⟩) hS0 ?_
    rotate_left 1
    · (intro w hSw; (try dsimp only at hSw); go_simp; try with_reducible rfl)
    try simp only [Act.put, Array.toArray_toList, List.setIfInBounds_toArray, List.set_cons_zero, List.set_cons_succ]
    refine anyM_free (i := 3) (oi := { dst := some 16, op := _, type := _, pos := _, after := _, guard := _ }) (v := ?_) rfl (by kernel_rfl) (fun _ _ _ h => h) (Or.inl ⟨by kernel_rfl, ?_⟩) (fun _ => hS0) ?_
    rotate_left 1
    · (intro w hSw; (try dsimp only at hSw); go_simp; try with_reducible rfl)
    try simp only [Act.put, Array.toArray_toList, List.setIfInBounds_toArray, List.set_cons_zero, List.set_cons_succ]
    refine anyM_free (i := 4) (oi := { dst := some 17, op := _, type := _, pos := _, after := _, guard := _ }) (v := ?_) rfl (by kernel_rfl) (fun _ _ _ h => h) (Or.inl ⟨by kernel_rfl, ?_⟩) (fun _ => hS0) ?_
    rotate_left 1
    · (intro w hSw; (try dsimp only at hSw); go_simp; try with_reducible rfl)
    try simp only [Act.put, Array.toArray_toList, List.setIfInBounds_toArray, List.set_cons_zero, List.set_cons_succ]
    refine anyM_one (i := 5) (by kernel_rfl) rfl (fun K hK => ?_)
    go_simp
    refine Calls.mono (HP.out _ _ HR.out) ?_
    rintro e wp ⟨rfl, O1, hr1, ht1⟩
    replace HR := Lib.hid hr1
    replace HT := Lib.hid (HT.out.trans ht1)
    replace H1 := Lib.hid (H1.out.turn ht1)
    replace HH := Lib.hid (HH.out.turn ht1)
    clear hr1 ht1
    have hS0 : (fun w' : World => w'.cell? ⟨g1, 0, none⟩ = some (.pointer (some ⟨gM, 0, none⟩))) wp := H1.out.1.cell 0
    refine hK.out _ _ (fun _ => hS0) ?_
    clear hK K
    try simp only [Act.put, Array.toArray_toList, List.setIfInBounds_toArray, List.set_cons_zero, List.set_cons_succ]
    refine anyM_one (i := 6) (by kernel_rfl) rfl (fun K hK => ?_)
    go_simp
    refine Calls.mono (HEA.out _ _ HR.out HH.out) ?_
    rintro e we ⟨rfl, O2, hr1, ht1⟩
    replace HR := Lib.hid hr1
    replace HT := Lib.hid (HT.out.trans ht1)
    replace H1 := Lib.hid (H1.out.turn ht1)
    clear hr1 ht1
    have hS0 : (fun w' : World => w'.cell? ⟨g1, 0, none⟩ = some (.pointer (some ⟨gM, 0, none⟩))) we := H1.out.1.cell 0
    refine hK.out _ _ (fun _ => hS0) ?_
    clear hK K
    try simp only [Act.put, Array.toArray_toList, List.setIfInBounds_toArray, List.set_cons_zero, List.set_cons_succ]
    refine anyM_done (by kernel_rfl) ?_ _
    refine NoPanic.normal ?_
    clear hS0
    go_wp2_with fail
    (try simp only [Exit.inBlock, Exit.then]); refine bodyPost_ret (results_none rfl _ _ _) rfl ?_
    exact ⟨rfl, O2, HR.out, HT.out⟩
  | true =>
    rw [han] at HCT HSM
    have hct : (docB I (docOk hc)).containerT nd (l.map (docB I (docOk hc)).box) = TreeV.mk 1 nd noS ((docB I (docOk hc)).rowT ((docB I (docOk hc)).blockyT 1) (l.map (docB I (docOk hc)).box)) := by rw [HCT.out]; rfl
    rw [hct] at hsz ⊢
    have hz := hsz
    rw [flatR_size, tsz_mk] at hz
    rw [flatR_put _ _ _ _ _ _ hp, row_pieces] at hsz ⊢
    have HP := Lib.hid (fun (O' : Nat → Prop) (w' : World) (h' : RSB (docB I (docOk hc)) I base gM bK O' w' S) => put0_calls (docB I (docOk hc)) I base gM bK 1 nd pr O' S w' h' hp (by omega))
    have HRU := Lib.hid (fun (g1 g2 : Nat) (O' : Nat → Prop) (w' : World) (h' : RSB (docB I (docOk hc)) I base gM bK O' w' (putR 1 nd pr noS S)) (hH' : Held O' w' A l) (h1 : BlkF O' w' g1 81 #[.pointer (some ⟨gM, 0, none⟩)]) (h2 : BlkF O' w' g2 3 #[.int .i64 (S.length : Nat)]) =>
      runs_calls I hc base gM bK _ _ _ g1 g2 0 0 S.length _ _ Trio.cont [(g1, 81, #[.pointer (some ⟨gM, 0, none⟩)]), (g2, 3, #[.int .i64 (S.length : Nat)])] (fun k => (docB I (docOk hc)).blockyT 1 ((docB I (docOk hc)).box k)) (fun k => (docB I (docOk hc)).box k) (fun r => DocB.linesT (r.map (docB I (docOk hc)).box)) l A n c O' (putR 1 nd pr noS S) w' h'
        (fun x hx => by
          rcases List.mem_cons.1 hx with rfl | hx
          · exact h1
          · simp at hx; subst hx; exact h2) hl hH' hm (by rw [putR_len]; omega) hlt hsz
        (fun k hk O1 S1 w1 hr1 he1 => by
          have := cont1_calls I hc base gM bK g1 k O1 S1 w1 hr1 (hlt k hk) (he1 (g1, _, _) (by simp))
          rw [← DocB.blocky_box] at this
          exact this)
        (fun k hk O1 S1 w1 hr1 he1 ha1 hz1 => oneBox_calls (docB I (docOk hc)) I base gM bK _ g1 g2 S.length k (.inl rfl) O1 S1 w1 hr1 (he1 (g1, _, _) (by simp)) (he1 (g2, _, _) (by simp)) ha1 hz1 (HB k hk))
        (fun us A' m' c' O1 S1 w1 hu hul hml hr1 he1 hh1 ha1 hz1 => runLines_calls (docB I (docOk hc)) I base gM bK _ g1 g2 S.length (.inl rfl) us A' m' c' O1 S1 w1 hr1 (he1 (g1, _, _) (by simp)) (he1 (g2, _, _) (by simp)) hul hh1 (by omega) ha1 hz1 (fun k hk => HB k (hu k hk))))
    unfold PutSays at HP
    unfold Puts at HRU ⊢
    generalize flatPs (pieces (fun k => (docB I (docOk hc)).blockyT 1 ((docB I (docOk hc)).box k)) (fun k => (docB I (docOk hc)).box k) (fun r => DocB.linesT (r.map (docB I (docOk hc)).box)) (fun r => !(docB I (docOk hc)).idleT (r.map (docB I (docOk hc)).box)) [] l) S.length (putR 1 nd pr noS S) = S9 at HRU ⊢
    generalize putR 1 nd pr noS S = S8 at HP HRU
    generalize hsl : S.length = sl at HP HRU
    clear hct han hany HCT hsz hz hlt HB h hp hl hH hns h4 hb4 hsl
    go_enter Tryz.func34, Tryz.ntmps34
    go_upto_region 1 with fail
    generalize World.alloc w _ = w1 at H1 HR HT HH ⊢
    generalize w.heap.size = g1 at H1 ⊢
    have c1 : w1.cell? ⟨g1, 0, none⟩ = some (.pointer (some ⟨gM, 0, none⟩)) := H1.out.1.cell 0
    go_wp2_with (first | (go_at_call 67; refine (HSM.out _ _ HR.out HH.out).mono ?_; rintro e ws ⟨rfl, hrs, hts⟩; replace HR := Lib.hid hrs; replace HT := Lib.hid (HT.out.trans hts); replace H1 := Lib.hid (H1.out.turn hts); replace HH := Lib.hid (HH.out.turn hts); have c2 : ws.cell? ⟨g1, 0, none⟩ = some (.pointer (some ⟨gM, 0, none⟩)) := H1.out.1.cell 0; clear hrs hts c1) | (go_at_call 69; refine (HP.out _ _ HR.out).mono ?_; rintro e wp ⟨rfl, O1, hrp, htp⟩; have HBA := Lib.hid (below_alloc (Below.refl wp.heap.size wp) (.cells #[.int .i64 (sl : Nat)] 3)); have H2 : Hid (BlkF O1 (wp.alloc (.cells #[.int .i64 (sl : Nat)] 3)) wp.heap.size 3 #[.int .i64 (sl : Nat)]) := ⟨Blk.new wp _ _, hrp.fresh (Nat.le_refl _)⟩; replace HR := Lib.hid (hrp.below HBA.out); replace HT := Lib.hid ((HT.out.trans htp).thenB HBA.out); replace H1 := Lib.hid ((H1.out.turn htp).below HBA.out); replace HH := Lib.hid ((HH.out.turn htp).turn (TurnW.below HBA.out)); have c3 : (wp.alloc (.cells #[.int .i64 (sl : Nat)] 3)).cell? ⟨g1, 0, none⟩ = some (.pointer (some ⟨gM, 0, none⟩)) := H1.out.1.cell 0; clear hrp htp c2) | (go_at_call 70; refine (HRU.out g1 wp.heap.size _ _ HR.out HH.out H1.out H2.out).mono ?_; rintro e wr ⟨rfl, O2, hrr, htr⟩; replace HR := Lib.hid hrr; replace HT := Lib.hid (HT.out.trans htr); clear hrr htr))
    (try simp only [Exit.inBlock, Exit.then]); refine bodyPost_end (results_none rfl _ _ _) rfl ?_
    exact ⟨rfl, O2, HR.out, HT.out⟩
set_option maxRecDepth 100000 in
set_option maxHeartbeats 4000000 in
theorem rcell_calls (I : BxV) (hc : checkE I.ns = 0) (base gM bK : Nat) (nd pr : Int) (l : List Nat) (hlt : ∀ k ∈ l, k < I.n) (HB : ∀ k ∈ l, RBoxSays (docB I (docOk hc)) I base gM bK k) (O : Nat → Prop) (S : List PBox) (w : World) (A : Option Addr) (n c : Nat) (h : RSB (docB I (docOk hc)) I base gM bK O w S) (hp : pr < S.length) (hl : l.length = n) (hH : Held O w A l) (hm : n ≤ 1000)
    (hsz : (flatR ((docB I (docOk hc)).cellT (docB I (docOk hc)).box nd l) pr S).length ≤ 2000) :
    Calls Tryz.prog 123 #[.pointer (some ⟨gM, 0, none⟩), .int .i64 nd, .int .i64 pr, .slice A n c] w (Puts (docB I (docOk hc)) I base gM bK (flatR ((docB I (docOk hc)).cellT (docB I (docOk hc)).box nd l) pr S) O w) := by
  have hz := hsz
  unfold DocB.cellT at hz
  rw [flatR_size, tsz_mk] at hz
  have he : flatR ((docB I (docOk hc)).cellT (docB I (docOk hc)).box nd l) pr S = flatR ((docB I (docOk hc)).containerT (-1) (l.map (docB I (docOk hc)).box)) (S.length : Nat) (putR 9 nd pr noS S) := by
    unfold DocB.cellT
    rw [flatR_put _ _ _ _ _ _ hp, flatPs_cons, flatPs]
  rw [he] at hsz ⊢
  have hP := put0_calls (docB I (docOk hc)) I base gM bK 9 nd pr O S w h hp (by omega)
  have HCO := Lib.hid (fun (O' : Nat → Prop) (w' : World) (h' : RSB (docB I (docOk hc)) I base gM bK O' w' (putR 9 nd pr noS S)) (hH' : Held O' w' A l) => rcont_calls I hc base gM bK (-1) l hlt HB O' (putR 9 nd pr noS S) w' (S.length : Nat) A n c h' (by rw [putR_len]; omega) hl hH' hm hsz)
  unfold PutSays at hP
  have HP := Lib.hid hP
  have HH := Lib.hid hH
  unfold Puts at HCO ⊢
  generalize flatR ((docB I (docOk hc)).containerT (-1) (l.map (docB I (docOk hc)).box)) (S.length : Nat) (putR 9 nd pr noS S) = S9 at HCO ⊢
  generalize putR 9 nd pr noS S = S8 at HP HCO
  generalize hsl : S.length = sl at HP HCO
  clear hz he hsz hP hlt HB h hp hl hH hsl
  go_enter Tryz.func123, Tryz.ntmps123
  go_wp2_with (first | (go_at_call 69; refine HP.out.mono ?_; rintro e wp ⟨rfl, O1, hrp, htp⟩; have HR := Lib.hid hrp; have HT := Lib.hid htp; have HH1 := Lib.hid (HH.out.turn htp); clear hrp htp) | (go_at_call 34; refine (HCO.out _ _ HR.out HH1.out).mono ?_; rintro e wr ⟨rfl, O2, hrr, htr⟩; have HR2 := Lib.hid hrr; have HT2 := Lib.hid (HT.out.trans htr); clear hrr htr))
  (try simp only [Exit.inBlock, Exit.then]); refine bodyPost_end (results_none rfl _ _ _) rfl ?_
  exact ⟨rfl, O2, HR2.out, HT2.out⟩
end Go.Proofs.YtkmmlcnoeeaekaaGreatDoor
