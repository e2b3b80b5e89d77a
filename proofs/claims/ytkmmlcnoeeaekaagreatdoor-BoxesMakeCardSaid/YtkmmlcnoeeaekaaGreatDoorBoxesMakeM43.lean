/- Several texts in one: BxRy. -/
import Derived.Test.YtkmmlcnoeeaekaaGreatDoorBoxesMakeM42
/- Contracts of the closures of the reference's Box. -/
namespace Go.Proofs.YtkmmlcnoeeaekaaGreatDoor
open Go.RowKit Go.Maps
set_option linter.unusedVariables false
set_option linter.unusedSimpArgs false

set_option maxRecDepth 100000 in
set_option maxHeartbeats 4000000 in
theorem rbox1_calls (I : BxV) (hc : checkE I.ns = 0) (base gM bK g1 k : Nat) (O : Nat → Prop) (S : List PBox) (w : World) (h : RSB (docB I (docOk hc)) I base gM bK O w S) (hk : k < I.n) (h1 : BlkF O w g1 81 #[.pointer (some ⟨gM, 0, none⟩)]) :
    Calls Tryz.prog 117 #[.int .i64 (k : Nat), .pointer (some ⟨g1, 0, none⟩)] w (Tells (docB I (docOk hc)) I base gM bK (.bool ((docB I (docOk hc)).flexAlone ((docB I (docOk hc)).box k))) O S w) := by
  have hok := h.okI
  have hns := hok.hn
  have HBL := Lib.hid (blocky_says I hc base gM bK hns 2 hk O S w h)
  have HKD := Lib.hid (fun (O' : Nat → Prop) (w' : World) (h' : RSB (docB I (docOk hc)) I base gM bK O' w' S) => kind_says I hc base gM bK hns hk O' S w' h')
  obtain ⟨b, off, hA, hb, hr⟩ := hok.row hk
  have hz : (I.sty k).length = 118 := BxV.sty_len hok.hl (by rw [hok.same]; exact hk)
  have hkl : k < I.nl := by rw [hok.same]; exact hk
  have hklb : k ≤ 200 := by have := hok.n0; omega
  have HV : Hid ((docB I (docOk hc)).flexAlone ((docB I (docOk hc)).box k) = ((docB I (docOk hc)).blockyN 2 k || ((docB I (docOk hc)).kindN k != 4 && outS (I.sty k) == 2))) := by
    show _ = _
    unfold DocB.flexAlone
    rw [DocB.blocky_box, DocB.box_node]
    have h0 : decide ((0 : Int) ≤ (k : Int)) = true := decide_eq_true (by omega)
    have ho : (docB I (docOk hc)).out ((k : Int)).toNat = outS (I.sty k) := rfl
    rw [h0, ho, Bool.true_and]
    rfl
  have HSTY : Hid (∀ w', I.ok w' w'.heap.size → ∃ b', I.Al = some ⟨b', off, none⟩ ∧ w'.rangeAt b' (off + k * 118) (sty (I.sty k)).toList) := fun w' hw' => by
    obtain ⟨b', off', hA', _, hr'⟩ := hw'.row hk
    rw [hA] at hA'
    injection hA' with hA'
    injection hA' with e1 e2
    subst e1; subst e2
    exact ⟨b, hA, hr'⟩
  have c1 : w.cell? ⟨g1, 0, none⟩ = some (.pointer (some ⟨gM, 0, none⟩)) := h1.1.cell 0
  have H1 := Lib.hid h1
  unfold Tells at HBL HKD ⊢
  generalize (docB I (docOk hc)).flexAlone ((docB I (docOk hc)).box k) = r at HV ⊢
  generalize (docB I (docOk hc)).blockyN 2 k = bl at HV HBL
  generalize (docB I (docOk hc)).kindN k = kd at HV HKD
  obtain ⟨zs, hzs⟩ : ∃ zs, zs = I.sty k := ⟨_, rfl⟩
  rw [← hzs] at hz HV HSTY
  have HSZ : Hid ((Tryz.prog.info? 35).map (·.size) = some (sty zs).toList.length) := by show _ = _; rw [Array.length_toList, sty_size, hz]; kernel_rfl
  have HO := Lib.hid (fun w' => rout_calls zs w' hz)
  generalize outS zs = os at HO HV
  clear h hok hns hA hb hr hzs h1
  go_enter Tryz.func117, Tryz.ntmps117
  cases bl with
  | true =>
    have HE : Hid (r = true) := by show _ = _; rw [HV.out]; rfl
    go_wp2_with (first | (go_at_call 72; refine HBL.out.mono ?_; rintro e w1 ⟨rfl, hr1, ht1⟩; have HR1 := Lib.hid hr1; have HT1 := Lib.hid ht1; have d1 : w1.cell? ⟨g1, 0, none⟩ = some (.pointer (some ⟨gM, 0, none⟩)) := (H1.out.turn ht1).1.cell 0; clear hr1 ht1))
    go_ret
    exact ⟨by rw [HE.out]; rfl, HR1.out, HT1.out⟩
  | false =>
    by_cases h4 : kd = 4
    · have q4 : (kd != 4) = false := by simp [h4]
      have HE : Hid (r = false) := by show _ = _; rw [HV.out, q4]; rfl
      clear h4
      go_wp2_with (first | (go_at_call 72; refine HBL.out.mono ?_; rintro e w1 ⟨rfl, hr1, ht1⟩; have HR1 := Lib.hid hr1; have HT1 := Lib.hid ht1; have d1 : w1.cell? ⟨g1, 0, none⟩ = some (.pointer (some ⟨gM, 0, none⟩)) := (H1.out.turn ht1).1.cell 0; clear hr1 ht1) | (go_at_call 115; refine (HKD.out O w1 HR1.out).mono ?_; rintro e w2 ⟨rfl, hr2, ht2⟩; obtain ⟨b', hA', hrg⟩ := HSTY.out w2 hr2.okI; have m1 : w2.cell? ⟨gM, 1, none⟩ = some (.slice (some ⟨b', off, none⟩) I.nl I.cl) := (by rw [← hA']; exact hr2.mk.2.2); have e1 : w2.cell? ⟨g1, 0, none⟩ = some (.pointer (some ⟨gM, 0, none⟩)) := (H1.out.turn (HT1.out.trans ht2)).1.cell 0; have HRG := Lib.hid hrg; have HR2 := Lib.hid hr2; have HT2 := Lib.hid (HT1.out.trans ht2); clear hr2 ht2 hrg hA'))
      go_ret
      exact ⟨by rw [HE.out]; rfl, HR2.out, HT2.out⟩
    · have q4 : (kd != 4) = true := by simp [h4]
      have HE : Hid (r = (os == 2)) := by show _ = _; rw [HV.out, q4]; rfl
      clear h4
      go_wp2_with (first | (go_at_call 72; refine HBL.out.mono ?_; rintro e w1 ⟨rfl, hr1, ht1⟩; have HR1 := Lib.hid hr1; have HT1 := Lib.hid ht1; have d1 : w1.cell? ⟨g1, 0, none⟩ = some (.pointer (some ⟨gM, 0, none⟩)) := (H1.out.turn ht1).1.cell 0; clear hr1 ht1) | (go_at_call 115; refine (HKD.out O w1 HR1.out).mono ?_; rintro e w2 ⟨rfl, hr2, ht2⟩; obtain ⟨b', hA', hrg⟩ := HSTY.out w2 hr2.okI; have m1 : w2.cell? ⟨gM, 1, none⟩ = some (.slice (some ⟨b', off, none⟩) I.nl I.cl) := (by rw [← hA']; exact hr2.mk.2.2); have e1 : w2.cell? ⟨g1, 0, none⟩ = some (.pointer (some ⟨gM, 0, none⟩)) := (H1.out.turn (HT1.out.trans ht2)).1.cell 0; have HRG := Lib.hid hrg; have HR2 := Lib.hid hr2; have HT2 := Lib.hid (HT1.out.trans ht2); clear hr2 ht2 hrg hA') | (refine wpList_load_midB (by kernel_rfl) 35 _ rfl b' (off + k * 118) rfl (sty zs).toList _ HRG.out Tryz.underlying35 rfl HSZ.out ?_) | (go_at_call 10; refine (HO.out _).mono ?_; rintro e w4 ⟨rfl, hb4⟩; have HB4 := Lib.hid hb4; clear hb4))
      go_ret
      exact ⟨by rw [HE.out]; rfl, HR2.out.below HB4.out, HT2.out.thenB HB4.out⟩
/-- What named answers: a closure over two cells. -/
def NamedSays (gM : Nat) (i : Int) (O : Nat → Prop) (w : World) (e : Ending) (w' : World) : Prop := ∃ q1 q2, e = .returned (.func (.func 166) #[] #[.pointer (some ⟨q1, 0, none⟩), .pointer (some ⟨q2, 0, none⟩)]) ∧ BlkF O w' q1 81 #[.pointer (some ⟨gM, 0, none⟩)] ∧ BlkF O w' q2 3 #[.int .i64 i] ∧ Below w.heap.size w w'
set_option maxRecDepth 100000 in
set_option maxHeartbeats 4000000 in
theorem rnamed_calls (gM : Nat) (i : Int) (O : Nat → Prop) (w : World) (hf : ∀ b, w.heap.size ≤ b → ¬ O b) :
    Calls Tryz.prog 120 #[.pointer (some ⟨gM, 0, none⟩), .int .i64 i] w (NamedSays gM i O w) := by
  have hb := below_alloc (below_alloc (Below.refl w.heap.size w) (.cells #[.pointer (some ⟨gM, 0, none⟩)] 81)) (.cells #[.int .i64 i] 3)
  have h1 := (Blk.new w 81 #[.pointer (some ⟨gM, 0, none⟩)]).alloc (.cells #[.int .i64 i] 3)
  have h2 := Blk.new (w.alloc (.cells #[.pointer (some ⟨gM, 0, none⟩)] 81)) 3 #[.int .i64 i]
  rw [alloc_size] at h2
  have H1 := Lib.hid h1
  have H2 := Lib.hid h2
  have HB := Lib.hid hb
  have HF := Lib.hid hf
  clear hb h1 h2 hf
  go_enter Tryz.func120, Tryz.ntmps120
  go_wp2_with fail
  go_ret
  exact ⟨_, _, rfl, ⟨H1.out, HF.out _ (Nat.le_refl _)⟩, ⟨H2.out, HF.out _ (by omega)⟩, HB.out⟩
set_option maxRecDepth 100000 in
set_option maxHeartbeats 4000000 in
theorem rnamed1_calls (I : BxV) (hc : checkE I.ns = 0) (base gM bK q1 q2 k : Nat) (i : Int) (O : Nat → Prop) (S : List PBox) (w : World) (h : RSB (docB I (docOk hc)) I base gM bK O w S) (hk : k < I.n) (h1 : BlkF O w q1 81 #[.pointer (some ⟨gM, 0, none⟩)]) (h2 : BlkF O w q2 3 #[.int .i64 i]) :
    Calls Tryz.prog 166 #[.int .i64 (k : Nat), .pointer (some ⟨q1, 0, none⟩), .pointer (some ⟨q2, 0, none⟩)] w (Tells (docB I (docOk hc)) I base gM bK (.bool ((docB I (docOk hc)).named i k)) O S w) := by
  have hok := h.okI
  have hkb : k ≤ 200 := by have := hok.n0; omega
  have HV : Hid ((docB I (docOk hc)).named i k = ((nd I.ns k).kind == 2 && isS (I.sty k) == i)) := rfl
  obtain ⟨b, off, bs, os, hA, hS, hnf⟩ := node_facts hok hk
  have HNF : Hid (∀ w', RSB (docB I (docOk hc)) I base gM bK O w' S → w'.cell? ⟨gM, 0, none⟩ = some (.slice (some ⟨b, off, none⟩) I.n I.c) ∧ w'.cell? ⟨b, off + k * 6, none⟩ = some (.int .i64 (nd I.ns k).kind)) := fun w' h' => ⟨by rw [← hA]; exact h'.mk.2.1, (hnf w' _ h'.okI).1⟩
  have HIS := Lib.hid (fun w' (h' : RSB (docB I (docOk hc)) I base gM bK O w' S) => ris_calls I gM k w' h'.okI h'.mk hk)
  have HR := Lib.hid h.drew
  have HT := Lib.hid (TurnW.refl O w).drew
  have H1 := Lib.hid h1.drew
  have H2 := Lib.hid h2.drew
  unfold Tells
  generalize (docB I (docOk hc)).named i k = r at HV ⊢
  generalize isS (I.sty k) = isn at HV HIS
  generalize (nd I.ns k).kind = nk at HNF HV
  clear h hok hA hS hnf h1 h2
  have hS0 : (fun w' : World => w'.cell? ⟨q1, 0, none⟩ = some (.pointer (some ⟨gM, 0, none⟩)) ∧ w'.cell? ⟨q2, 0, none⟩ = some (.int .i64 i) ∧ w'.cell? ⟨gM, 0, none⟩ = some (.slice (some ⟨b, off, none⟩) I.n I.c) ∧ w'.cell? ⟨b, off + k * 6, none⟩ = some (.int .i64 nk)) (World.drew w) := ⟨H1.out.1.cell 0, H2.out.1.cell 0, (HNF.out _ HR.out).1, (HNF.out _ HR.out).2⟩
  go_enter Tryz.func166, Tryz.ntmps166
  go_upto_region 1 with fail
  by_cases hq : nk = 2
  · subst hq
    have HE : Hid (r = (isn == i)) := by show _ = _; rw [HV.out]; rfl
    refine wp_region_noPanic ?_
    refine region_M (S := fun w' => w'.cell? ⟨q1, 0, none⟩ = some (.pointer (some ⟨gM, 0, none⟩)) ∧ w'.cell? ⟨q2, 0, none⟩ = some (.int .i64 i) ∧ w'.cell? ⟨gM, 0, none⟩ = some (.slice (some ⟨b, off, none⟩) I.n I.c) ∧ w'.cell? ⟨b, off + k * 6, none⟩ = some (.int .i64 2)) (T := []) (by kernel_rfl) ?_
    generalize World.drew w = wd at HR H1 H2 HT hS0 ⊢
    refine anyM_take (i := 0) (oi := { dst := some 5, op := _, type := _, pos := _, after := _, guard := _ }) (v := ?_) rfl (by kernel_rfl) (fun _ _ _ h => h) (Or.inl ⟨by kernel_rfl, ?_⟩) hS0 ?_
    rotate_left 1
    · (intro w hSw; (try dsimp only at hSw); go_simp; try with_reducible rfl)
    try simp only [Act.put, Array.toArray_toList, List.setIfInBounds_toArray, List.set_cons_zero, List.set_cons_succ]
    refine anyM_free (i := 1) (oi := { dst := some 6, op := _, type := _, pos := _, after := _, guard := _ }) (v := ?_) rfl (by kernel_rfl) (fun _ _ _ h => h) (Or.inl ⟨by kernel_rfl, ?_⟩) (fun _ => hS0) ?_
    rotate_left 1
    · (intro w hSw; (try dsimp only at hSw); go_simp; try with_reducible rfl)
    try simp only [Act.put, Array.toArray_toList, List.setIfInBounds_toArray, List.set_cons_zero, List.set_cons_succ]
    refine anyM_free (i := 2) (oi := { dst := some 7, op := _, type := _, pos := _, after := _, guard := _ }) (v := ?_) rfl (by kernel_rfl) (fun _ _ _ h => h) (Or.inl ⟨by kernel_rfl, ?_⟩) (fun _ => hS0) ?_
    rotate_left 1
    · (intro w hSw; (try dsimp only at hSw); go_simp; try with_reducible rfl)
    try simp only [Act.put, Array.toArray_toList, List.setIfInBounds_toArray, List.set_cons_zero, List.set_cons_succ]
    refine anyM_take (i := 3) (oi := { dst := some 8, op := _, type := _, pos := _, after := _, guard := _ }) (v := ?_) rfl (by kernel_rfl) (fun _ _ _ h => h) (Or.inl ⟨by kernel_rfl, ?_⟩) hS0 ?_
    rotate_left 1
    · (intro w hSw; (try dsimp only at hSw); go_simp; try with_reducible rfl)
    try simp only [Act.put, Array.toArray_toList, List.setIfInBounds_toArray, List.set_cons_zero, List.set_cons_succ]
    refine anyM_free (i := 4) (oi := { dst := some 9, op := _, type := _, pos := _, after := _, guard := _ }) (v := ?_) rfl (by kernel_rfl) (fun _ _ _ h => h) (Or.inl ⟨by kernel_rfl, ?_⟩) (fun _ => hS0) ?_
    rotate_left 1
    · (intro w hSw; (try dsimp only at hSw); go_simp; try with_reducible rfl)
    try simp only [Act.put, Array.toArray_toList, List.setIfInBounds_toArray, List.set_cons_zero, List.set_cons_succ]
    refine anyM_free (i := 5) (oi := { dst := some 10, op := _, type := _, pos := _, after := _, guard := _ }) (v := ?_) rfl (by kernel_rfl) (fun _ _ _ h => h) (Or.inl ⟨by kernel_rfl, ?_⟩) (fun _ => hS0) ?_
    rotate_left 1
    · (intro w hSw; (try dsimp only at hSw); go_simp; try with_reducible rfl)
    try simp only [Act.put, Array.toArray_toList, List.setIfInBounds_toArray, List.set_cons_zero, List.set_cons_succ]
    refine anyM_free (i := 6) (oi := { dst := some 11, op := _, type := _, pos := _, after := _, guard := _ }) (v := ?_) rfl (by kernel_rfl) (fun _ _ _ h => h) (Or.inl ⟨by kernel_rfl, ?_⟩) (fun _ => hS0) ?_
    rotate_left 1
    · (intro w hSw; (try dsimp only at hSw); go_simp; try with_reducible rfl)
    try simp only [Act.put, Array.toArray_toList, List.setIfInBounds_toArray, List.set_cons_zero, List.set_cons_succ]
    refine anyM_take (i := 7) (oi := { dst := some 12, op := _, type := _, pos := _, after := _, guard := _ }) (v := ?_) rfl (by kernel_rfl) (fun _ _ _ h => h) (Or.inl ⟨by kernel_rfl, ?_⟩) hS0 ?_
    rotate_left 1
    · (intro w hSw; (try dsimp only at hSw); go_simp; try with_reducible rfl)
    try simp only [Act.put, Array.toArray_toList, List.setIfInBounds_toArray, List.set_cons_zero, List.set_cons_succ]
    refine anyM_free (i := 8) (oi := { dst := some 13, op := _, type := _, pos := _, after := _, guard := _ }) (v := ?_) rfl (by kernel_rfl) (fun _ _ _ h => h) (Or.inl ⟨by kernel_rfl, ?_⟩) (fun _ => hS0) ?_
    rotate_left 1
    · (intro w hSw; (try dsimp only at hSw); go_simp; try with_reducible rfl)
    try simp only [Act.put, Array.toArray_toList, List.setIfInBounds_toArray, List.set_cons_zero, List.set_cons_succ]
    refine anyM_free (i := 9) (oi := { dst := some 14, op := _, type := _, pos := _, after := _, guard := _ }) (v := ?_) rfl (by kernel_rfl) (fun _ _ _ h => h) (Or.inl ⟨by kernel_rfl, ?_⟩) (fun _ => hS0) ?_
    rotate_left 1
    · (intro w hSw; (try dsimp only at hSw); go_simp; try with_reducible rfl)
    try simp only [Act.put, Array.toArray_toList, List.setIfInBounds_toArray, List.set_cons_zero, List.set_cons_succ]
    refine anyM_take (i := 10) (oi := { dst := some 15, op := _, type := _, pos := _, after := _, guard := _ }) (v := ?_) rfl (by kernel_rfl) (fun _ _ _ h => h) (Or.inl ⟨by kernel_rfl, ?_⟩) hS0 ?_
    rotate_left 1
    · (intro w hSw; (try dsimp only at hSw); go_simp; try with_reducible rfl)
    try simp only [Act.put, Array.toArray_toList, List.setIfInBounds_toArray, List.set_cons_zero, List.set_cons_succ]
    refine anyM_free (i := 11) (oi := { dst := some 16, op := _, type := _, pos := _, after := _, guard := _ }) (v := ?_) rfl (by kernel_rfl) (fun _ _ _ h => h) (Or.inl ⟨by kernel_rfl, ?_⟩) (fun _ => hS0) ?_
    rotate_left 1
    · (intro w hSw; (try dsimp only at hSw); go_simp; try with_reducible rfl)
    try simp only [Act.put, Array.toArray_toList, List.setIfInBounds_toArray, List.set_cons_zero, List.set_cons_succ]
    refine anyM_take (i := 13) (oi := { dst := some 18, op := _, type := _, pos := _, after := _, guard := _ }) (v := ?_) rfl (by kernel_rfl) (fun _ _ _ h => h) (Or.inl ⟨by kernel_rfl, ?_⟩) hS0 ?_
    rotate_left 1
    · (intro w hSw; (try dsimp only at hSw); go_simp; try with_reducible rfl)
    try simp only [Act.put, Array.toArray_toList, List.setIfInBounds_toArray, List.set_cons_zero, List.set_cons_succ]
    refine anyM_one (i := 12) (by kernel_rfl) rfl (fun K hK => ?_)
    go_simp
    refine Calls.mono (HIS.out _ HR.out) ?_
    rintro e wi ⟨rfl, hbi⟩
    replace HR := Lib.hid (HR.out.below hbi)
    replace HT := Lib.hid (HT.out.thenB hbi)
    replace H1 := Lib.hid (H1.out.below hbi)
    replace H2 := Lib.hid (H2.out.below hbi)
    clear hbi
    have hS0 : (fun w' : World => w'.cell? ⟨q1, 0, none⟩ = some (.pointer (some ⟨gM, 0, none⟩)) ∧ w'.cell? ⟨q2, 0, none⟩ = some (.int .i64 i) ∧ w'.cell? ⟨gM, 0, none⟩ = some (.slice (some ⟨b, off, none⟩) I.n I.c) ∧ w'.cell? ⟨b, off + k * 6, none⟩ = some (.int .i64 2)) wi := ⟨H1.out.1.cell 0, H2.out.1.cell 0, (HNF.out _ HR.out).1, (HNF.out _ HR.out).2⟩
    refine hK.out _ _ (fun _ => hS0) ?_
    clear hK K
    try simp only [Act.put, Array.toArray_toList, List.setIfInBounds_toArray, List.set_cons_zero, List.set_cons_succ]
    refine anyM_free (i := 14) (oi := { dst := some 19, op := _, type := _, pos := _, after := _, guard := _ }) (v := ?_) rfl (by kernel_rfl) (fun _ _ _ h => h) (Or.inl ⟨by kernel_rfl, ?_⟩) (fun _ => hS0) ?_
    rotate_left 1
    · (intro w hSw; (try dsimp only at hSw); go_simp; try with_reducible rfl)
    try simp only [Act.put, Array.toArray_toList, List.setIfInBounds_toArray, List.set_cons_zero, List.set_cons_succ]
    refine anyM_free (i := 15) (oi := { dst := some 20, op := _, type := _, pos := _, after := _, guard := _ }) (v := ?_) rfl (by kernel_rfl) (fun _ _ _ h => h) (Or.inl ⟨by kernel_rfl, ?_⟩) (fun _ => hS0) ?_
    rotate_left 1
    · (intro w hSw; (try dsimp only at hSw); go_simp; try with_reducible rfl)
    try simp only [Act.put, Array.toArray_toList, List.setIfInBounds_toArray, List.set_cons_zero, List.set_cons_succ]
    refine anyM_free (i := 16) (oi := { dst := some 4, op := _, type := _, pos := _, after := _, guard := _ }) (v := ?_) rfl (by kernel_rfl) (fun _ _ _ h => h) (Or.inl ⟨by kernel_rfl, ?_⟩) (fun _ => hS0) ?_
    rotate_left 1
    · (intro w hSw; (try dsimp only at hSw); go_simp; try with_reducible rfl)
    try simp only [Act.put, Array.toArray_toList, List.setIfInBounds_toArray, List.set_cons_zero, List.set_cons_succ]
    refine anyM_done (by kernel_rfl) ?_ _
    refine NoPanic.normal ?_
    clear hS0
    go_wp2_with fail
    go_ret
    exact ⟨by rw [HE.out]; rfl, HR.out, HT.out⟩
  · have p2 : (nk == 2) = false := by simp [hq]
    have HE : Hid (r = false) := by show _ = _; rw [HV.out, p2]; rfl
    clear hq
    refine wp_region_noPanic ?_
    refine region_M (S := fun w' => w'.cell? ⟨q1, 0, none⟩ = some (.pointer (some ⟨gM, 0, none⟩)) ∧ w'.cell? ⟨q2, 0, none⟩ = some (.int .i64 i) ∧ w'.cell? ⟨gM, 0, none⟩ = some (.slice (some ⟨b, off, none⟩) I.n I.c) ∧ w'.cell? ⟨b, off + k * 6, none⟩ = some (.int .i64 nk)) (T := []) (by kernel_rfl) ?_
    generalize World.drew w = wd at HR H1 H2 HT hS0 ⊢
    refine anyM_take (i := 0) (oi := { dst := some 5, op := _, type := _, pos := _, after := _, guard := _ }) (v := ?_) rfl (by kernel_rfl) (fun _ _ _ h => h) (Or.inl ⟨by kernel_rfl, ?_⟩) hS0 ?_
    rotate_left 1
    · (intro w hSw; (try dsimp only at hSw); go_simp; try with_reducible rfl)
    try simp only [Act.put, Array.toArray_toList, List.setIfInBounds_toArray, List.set_cons_zero, List.set_cons_succ]
    refine anyM_free (i := 1) (oi := { dst := some 6, op := _, type := _, pos := _, after := _, guard := _ }) (v := ?_) rfl (by kernel_rfl) (fun _ _ _ h => h) (Or.inl ⟨by kernel_rfl, ?_⟩) (fun _ => hS0) ?_
    rotate_left 1
    · (intro w hSw; (try dsimp only at hSw); go_simp; try with_reducible rfl)
    try simp only [Act.put, Array.toArray_toList, List.setIfInBounds_toArray, List.set_cons_zero, List.set_cons_succ]
    refine anyM_free (i := 2) (oi := { dst := some 7, op := _, type := _, pos := _, after := _, guard := _ }) (v := ?_) rfl (by kernel_rfl) (fun _ _ _ h => h) (Or.inl ⟨by kernel_rfl, ?_⟩) (fun _ => hS0) ?_
    rotate_left 1
    · (intro w hSw; (try dsimp only at hSw); go_simp; try with_reducible rfl)
    try simp only [Act.put, Array.toArray_toList, List.setIfInBounds_toArray, List.set_cons_zero, List.set_cons_succ]
    refine anyM_take (i := 3) (oi := { dst := some 8, op := _, type := _, pos := _, after := _, guard := _ }) (v := ?_) rfl (by kernel_rfl) (fun _ _ _ h => h) (Or.inl ⟨by kernel_rfl, ?_⟩) hS0 ?_
    rotate_left 1
    · (intro w hSw; (try dsimp only at hSw); go_simp; try with_reducible rfl)
    try simp only [Act.put, Array.toArray_toList, List.setIfInBounds_toArray, List.set_cons_zero, List.set_cons_succ]
    refine anyM_free (i := 4) (oi := { dst := some 9, op := _, type := _, pos := _, after := _, guard := _ }) (v := ?_) rfl (by kernel_rfl) (fun _ _ _ h => h) (Or.inl ⟨by kernel_rfl, ?_⟩) (fun _ => hS0) ?_
    rotate_left 1
    · (intro w hSw; (try dsimp only at hSw); go_simp; try with_reducible rfl)
    try simp only [Act.put, Array.toArray_toList, List.setIfInBounds_toArray, List.set_cons_zero, List.set_cons_succ]
    refine anyM_free (i := 5) (oi := { dst := some 10, op := _, type := _, pos := _, after := _, guard := _ }) (v := ?_) rfl (by kernel_rfl) (fun _ _ _ h => h) (Or.inl ⟨by kernel_rfl, ?_⟩) (fun _ => hS0) ?_
    rotate_left 1
    · (intro w hSw; (try dsimp only at hSw); go_simp; try with_reducible rfl)
    try simp only [Act.put, Array.toArray_toList, List.setIfInBounds_toArray, List.set_cons_zero, List.set_cons_succ]
    refine anyM_free (i := 6) (oi := { dst := some 11, op := _, type := _, pos := _, after := _, guard := _ }) (v := ?_) rfl (by kernel_rfl) (fun _ _ _ h => h) (Or.inl ⟨by kernel_rfl, ?_⟩) (fun _ => hS0) ?_
    rotate_left 1
    · (intro w hSw; (try dsimp only at hSw); go_simp; try with_reducible rfl)
    try simp only [Act.put, Array.toArray_toList, List.setIfInBounds_toArray, List.set_cons_zero, List.set_cons_succ]
    refine anyM_take (i := 7) (oi := { dst := some 12, op := _, type := _, pos := _, after := _, guard := _ }) (v := ?_) rfl (by kernel_rfl) (fun _ _ _ h => h) (Or.inl ⟨by kernel_rfl, ?_⟩) hS0 ?_
    rotate_left 1
    · (intro w hSw; (try dsimp only at hSw); go_simp; try with_reducible rfl)
    try simp only [Act.put, Array.toArray_toList, List.setIfInBounds_toArray, List.set_cons_zero, List.set_cons_succ]
    refine anyM_free (i := 8) (oi := { dst := some 13, op := _, type := _, pos := _, after := _, guard := _ }) (v := ?_) rfl (by kernel_rfl) (fun _ _ _ h => h) (Or.inl ⟨by kernel_rfl, ?_⟩) (fun _ => hS0) ?_
    rotate_left 1
    · (intro w hSw; (try dsimp only at hSw); go_simp; try with_reducible rfl)
    try simp only [Act.put, Array.toArray_toList, List.setIfInBounds_toArray, List.set_cons_zero, List.set_cons_succ]
    refine anyM_free (i := 9) (oi := { dst := some 14, op := _, type := _, pos := _, after := _, guard := _ }) (v := ?_) rfl (by kernel_rfl) (fun _ _ _ h => h) (Or.inl ⟨by kernel_rfl, ?_⟩) (fun _ => hS0) ?_
    rotate_left 1
    · (intro w hSw; (try dsimp only at hSw); go_simp; try with_reducible rfl)
    try simp only [Act.put, Array.toArray_toList, List.setIfInBounds_toArray, List.set_cons_zero, List.set_cons_succ]
    refine anyM_free (i := 10) (oi := { dst := some 15, op := _, type := _, pos := _, after := _, guard := _ }) (v := undef) rfl (by kernel_rfl) (fun _ _ _ h => h) (Or.inr ⟨by kernel_rfl, rfl⟩) (fun _ => hS0) ?_
    try simp only [Act.put, Array.toArray_toList, List.setIfInBounds_toArray, List.set_cons_zero, List.set_cons_succ]
    refine anyM_free (i := 11) (oi := { dst := some 16, op := _, type := _, pos := _, after := _, guard := _ }) (v := undef) rfl (by kernel_rfl) (fun _ _ _ h => h) (Or.inr ⟨by kernel_rfl, rfl⟩) (fun _ => hS0) ?_
    try simp only [Act.put, Array.toArray_toList, List.setIfInBounds_toArray, List.set_cons_zero, List.set_cons_succ]
    refine anyM_free (i := 12) (oi := { dst := some 17, op := _, type := _, pos := _, after := _, guard := _ }) (v := undef) rfl (by kernel_rfl) (fun _ _ _ h => h) (Or.inr ⟨by kernel_rfl, rfl⟩) (fun _ => hS0) ?_
    try simp only [Act.put, Array.toArray_toList, List.setIfInBounds_toArray, List.set_cons_zero, List.set_cons_succ]
    refine anyM_free (i := 13) (oi := { dst := some 18, op := _, type := _, pos := _, after := _, guard := _ }) (v := undef) rfl (by kernel_rfl) (fun _ _ _ h => h) (Or.inr ⟨by kernel_rfl, rfl⟩) (fun _ => hS0) ?_
    try simp only [Act.put, Array.toArray_toList, List.setIfInBounds_toArray, List.set_cons_zero, List.set_cons_succ]
    refine anyM_free (i := 14) (oi := { dst := some 19, op := _, type := _, pos := _, after := _, guard := _ }) (v := undef) rfl (by kernel_rfl) (fun _ _ _ h => h) (Or.inr ⟨by kernel_rfl, rfl⟩) (fun _ => hS0) ?_
    try simp only [Act.put, Array.toArray_toList, List.setIfInBounds_toArray, List.set_cons_zero, List.set_cons_succ]
    refine anyM_free (i := 15) (oi := { dst := some 20, op := _, type := _, pos := _, after := _, guard := _ }) (v := ?_) rfl (by kernel_rfl) (fun _ _ _ h => h) (Or.inl ⟨by kernel_rfl, ?_⟩) (fun _ => hS0) ?_
    rotate_left 1
    · (intro w hSw; (try dsimp only at hSw); go_simp; try with_reducible rfl)
    try simp only [Act.put, Array.toArray_toList, List.setIfInBounds_toArray, List.set_cons_zero, List.set_cons_succ]
    refine anyM_free (i := 16) (oi := { dst := some 4, op := _, type := _, pos := _, after := _, guard := _ }) (v := ?_) rfl (by kernel_rfl) (fun _ _ _ h => h) (Or.inl ⟨by kernel_rfl, ?_⟩) (fun _ => hS0) ?_
    rotate_left 1
    · (intro w hSw; (try dsimp only at hSw); go_simp; try with_reducible rfl)
    try simp only [Act.put, Array.toArray_toList, List.setIfInBounds_toArray, List.set_cons_zero, List.set_cons_succ]
    refine anyM_done (by kernel_rfl) ?_ _
    refine NoPanic.normal ?_
    clear hS0
    go_wp2_with fail
    go_ret
    exact ⟨by rw [HE.out]; rfl, HR.out, HT.out⟩
end Go.Proofs.YtkmmlcnoeeaekaaGreatDoor
