/- Several texts in one: BxPc. -/
import Derived.Test.YtkmmlcnoeeaekaaGreatDoorBoxesMakeM38
/- Contract of the program's box, the other cases. -/
namespace Go.Proofs.YtkmmlcnoeeaekaaGreatDoor
open Go.RowKit
set_option linter.unusedVariables false
set_option linter.unusedSimpArgs false

set_option maxRecDepth 100000 in
set_option maxHeartbeats 8000000 in
theorem pboxAny_calls (I : BxV) (hc : checkE I.ns = 0) (r k : Nat) (IH : DeepP I hc r) (w : World) (h : I.ok w w.heap.size) (hk : k < I.n) (hrk : rankN I.ns k ≤ r) (h3 : ¬ (nd I.ns k).kind = 3) (hbr : ¬ ((nd I.ns k).name = brS ∧ isS (I.sty k) = 1)) (his : isS (I.sty k) = 1) (hany : (((docB I (docOk hc)).content k).map (docB I (docOk hc)).box).any ((docB I (docOk hc)).blockyT 1) = true) :
    Calls Tryz.prog 65 #[mkA I, .int .i64 (k : Nat)] w (MadeT w ((docB I (docOk hc)).containerT k (((docB I (docOk hc)).content k).map (docB I (docOk hc)).box))) := by
  have hkb : k ≤ 200 := by have := h.n0; omega
  obtain ⟨i1, i2, i3⟩ := IH.content h.hn hrk
  have hcl := content_len I hc k
  obtain ⟨b, off, hA, hnc⟩ := node_six h hk
  have HNC := Lib.hid (fun w' (hb : Below w.heap.size w w') => hnc w' _ (h.below hb (Nat.le_refl _)))
  have HS := Lib.hid (bxM_new I w #[.int .i64 4, .int .i64 (k : Nat), .int .i64 0, .slice none 0 0, .string ⟨#[]⟩, .slice none 0 0] rfl)
  have HIS := Lib.hid (fun w' (hb : Below w.heap.size w w') => is_calls I k w' ((h.below hb (Nat.le_refl _)).more hb.size) hk)
  have HCO := Lib.hid (fun w' (hb : Below w.heap.size w w') => content_says I hc k w' ((h.below hb (Nat.le_refl _)).more hb.size) hk)
  unfold ContSays at HCO
  have hnc0 : nodeC (nd I.ns k) = #[.int .i64 (nd I.ns k).kind, .string (nd I.ns k).name, .slice (nd I.ns k).attrsA (nd I.ns k).attrs.length (nd I.ns k).acap, .string (nd I.ns k).text, .int .i64 (nd I.ns k).parent, .slice (nd I.ns k).kidsA (nd I.ns k).kids.length (nd I.ns k).kcap] := rfl
  rw [hnc0] at HNC
  have hisb : ¬ (nd I.ns k).name = brS := fun e => hbr ⟨e, his⟩
  have pb : ((nd I.ns k).name.toList == [98, 114]) = false := by rw [← eBR, str_eqD]; exact decide_eq_false hisb
  rw [his] at HIS
  have HBX := Lib.hid (fun (A' : Option Addr) (c' : Nat) w' (hb : Below w.heap.size w w') (hH : Holds w' w'.heap.size A' (nums ((docB I (docOk hc)).content k))) => boxesB_calls (docB I (docOk hc)) I ((docB I (docOk hc)).content k) A' ((docB I (docOk hc)).content k).length c' w' ((h.below hb (Nat.le_refl _)).more hb.size) rfl hH hcl i3)
  have HCF := Lib.hid (fun (g : Nat) (A : Option Addr) (c : Nat) (Q : Nat → Prop) w' (hb : Below w.heap.size w w') (hM : MkB I g w') (hk : KidsAt w' Q (((docB I (docOk hc)).content k).map (docB I (docOk hc)).box) A ((docB I (docOk hc)).content k).length) (hq : ∀ b, Q b → b < w'.heap.size) => containsT_calls 110 g ((docB I (docOk hc)).blockyT 1) (((docB I (docOk hc)).content k).map (docB I (docOk hc)).box) A ((docB I (docOk hc)).content k).length c Q w' (by omega) (.inr (.inl rfl)) hk hq (says_box1 I (docOk hc) g (((docB I (docOk hc)).content k).map (docB I (docOk hc)).box) w' ((h.below hb (Nat.le_refl _)).more hb.size) hM (boxes_ok I (docOk hc) h.hn i1)))
  have HCT := Lib.hid (fun (A : Option Addr) (c : Nat) (Q : Nat → Prop) w' (hb : Below w.heap.size w w') (hcap : ((docB I (docOk hc)).content k).length ≤ c) (hk : KidsAt w' Q (((docB I (docOk hc)).content k).map (docB I (docOk hc)).box) A ((docB I (docOk hc)).content k).length) (hq : ∀ b, Q b → b < w'.heap.size) => container_calls I (docOk hc) (k : Nat) (((docB I (docOk hc)).content k).map (docB I (docOk hc)).box) A ((docB I (docOk hc)).content k).length c Q w' (by omega) hcap ((h.below hb (Nat.le_refl _)).more hb.size) hk hq (boxes_ok I (docOk hc) h.hn i1))
  rw [hany] at HCF
  clear hisb hbr his hany
  generalize (docB I (docOk hc)).containerT (k : Nat) (((docB I (docOk hc)).content k).map (docB I (docOk hc)).box) = CT at HCT ⊢
  generalize ((docB I (docOk hc)).content k).map (docB I (docOk hc)).box = TS at HBX HCT HCF
  generalize (docB I (docOk hc)).content k = CL at HCO HBX HCT HCF
  obtain ⟨ck, cn, ctx, cks⟩ := CT
  generalize (nd I.ns k).kind = nk at HNC h3
  generalize (nd I.ns k).name = nm at HNC pb
  generalize (nd I.ns k).attrsA = aA at HNC
  generalize (nd I.ns k).attrs.length = an at HNC
  generalize (nd I.ns k).acap = ac at HNC
  generalize (nd I.ns k).text = tx at HNC 
  generalize (nd I.ns k).parent = pa at HNC
  generalize (nd I.ns k).kidsA = kA at HNC
  generalize (nd I.ns k).kids.length = kn at HNC
  generalize (nd I.ns k).kcap = kc at HNC
  have HA := Lib.hid hA
  clear h hrk IH i1 i2 i3 hcl
  clear hnc0 hnc hA
  unfold mkA at HIS HCO HBX HCT ⊢
  go_enter Tryz.func65, Tryz.ntmps65
  go_upto_region 2 with fail
  generalize World.alloc (World.alloc (World.alloc w _) _) _ = w1 at HS ⊢
  generalize hg : w.heap.size = g at HS ⊢
  have HG := Lib.hid hg
  clear hg
  have m0 : w1.cell? ⟨g, 0, none⟩ = some (.slice (some ⟨b, off, none⟩) I.n I.c) := by rw [← HA.out]; exact HS.out.mkb.cell 0
  have n0 : w1.cell? ⟨b, off + k * 6, none⟩ = some (.int .i64 nk) := HNC.out w1 HS.out.bel 0 (by omega)
  have n1 : w1.cell? ⟨b, off + k * 6 + 1, none⟩ = some (.string nm) := HNC.out w1 HS.out.bel 1 (by omega)
  have n2 : w1.cell? ⟨b, off + k * 6 + 2, none⟩ = some (.slice aA an ac) := HNC.out w1 HS.out.bel 2 (by omega)
  have n3 : w1.cell? ⟨b, off + k * 6 + 3, none⟩ = some (.string tx) := HNC.out w1 HS.out.bel 3 (by omega)
  have n4 : w1.cell? ⟨b, off + k * 6 + 4, none⟩ = some (.int .i64 pa) := HNC.out w1 HS.out.bel 4 (by omega)
  have n5 : w1.cell? ⟨b, off + k * 6 + 5, none⟩ = some (.slice kA kn kc) := HNC.out w1 HS.out.bel 5 (by omega)
  have HV := Lib.hid (Blk.new w1 117 #[.int .i64 nk, .string nm, .slice aA an ac, .string tx, .int .i64 pa, .slice kA kn kc])
  replace HS := Lib.hid (HS.out.alloc (.cells #[.int .i64 nk, .string nm, .slice aA an ac, .string tx, .int .i64 pa, .slice kA kn kc] 117))
  go_upto_region 3 with fail
  generalize World.alloc w1 _ = w2 at HS HV ⊢
  generalize w1.heap.size = gv at HV ⊢
  clear m0 n0 n1 n2 n3 n4 n5 HNC
  have v0 : w2.cell? ⟨gv, 0, none⟩ = some (.int .i64 nk) := HV.out.cell 0
  have m0 : w2.cell? ⟨g, 0, none⟩ = some (.slice I.A I.n I.c) := HS.out.mkb.cell 0
  have m1 : w2.cell? ⟨g, 1, none⟩ = some (.slice I.Al I.nl I.cl) := HS.out.mkb.cell 1
  have p3 : (nk == 3) = false := by simp [h3]
  clear h3
  go_upto_region 26 with (first | (go_at_call 66; refine (HIS.out _ HS.out.bel).mono ?_; rintro e wi ⟨rfl, hbi⟩; replace HS := Lib.hid (HS.out.call hbi); replace HV := Lib.hid (HV.out.below hbi HV.out.lt); have u1 : wi.cell? ⟨gv, 1, none⟩ = some (.string nm) := HV.out.cell 1; have a0 : wi.cell? ⟨g, 0, none⟩ = some (.slice I.A I.n I.c) := HS.out.mkb.cell 0; have a1 : wi.cell? ⟨g, 1, none⟩ = some (.slice I.Al I.nl I.cl) := HS.out.mkb.cell 1; have y4 : wi.cell? ⟨g + 1 + 1, 4, none⟩ = some (.string ⟨#[]⟩) := HS.out.var.cell 4; have f4 : wi.frozen? ⟨g + 1 + 1, 4, none⟩ = false := HS.out.var.free 4; clear hbi) | (go_at_call 31; refine (HCO.out _ HS.out.bel).mono ?_; rintro e wc ⟨A', c', rfl, hcp, hhd, hbc⟩; have HCP := Lib.hid hcp; have HHD := Lib.hid hhd; replace HS := Lib.hid (HS.out.call hbc); have b0 : wc.cell? ⟨g, 0, none⟩ = some (.slice I.A I.n I.c) := HS.out.mkb.cell 0; have b1 : wc.cell? ⟨g, 1, none⟩ = some (.slice I.Al I.nl I.cl) := HS.out.mkb.cell 1; clear hcp hhd hbc) | (go_at_call 30; refine (HBX.out _ _ _ HS.out.bel HHD.out).mono ?_; rintro e wb ⟨Ab, cb, rfl, hcb, hkb, hbb⟩; have HKA := Lib.hid hkb; replace HS := Lib.hid (HS.out.call hbb); replace HHD := Lib.hid ((HHD.out.below hbb (Nat.le_refl _)).more hbb.size); have HMB := Lib.hid (show MkB I g wb from HS.out.mkb); clear hcb hkb hbb) | (go_at_call 63; refine (HCF.out g _ _ _ _ HS.out.bel HMB.out HKA.out (fun b hq => And.right hq)).mono ?_; rintro e wf ⟨rfl, hbf⟩; replace HS := Lib.hid (HS.out.call hbf); replace HHD := Lib.hid ((HHD.out.below hbf (Nat.le_refl _)).more hbf.size); have e0 : wf.cell? ⟨g, 0, none⟩ = some (.slice I.A I.n I.c) := HS.out.mkb.cell 0; have e1 : wf.cell? ⟨g, 1, none⟩ = some (.slice I.Al I.nl I.cl) := HS.out.mkb.cell 1; clear hbf))
  clear u1 a0 a1 b0 b1 y4 f4 v0 m0 m1
  clear e0 e1 HKA HMB
  replace HS := Lib.hid HS.out.drew
  have HGT : Hid (g + 1 + 1 < (World.drew wf).heap.size) := HS.out.gt
  have HHD : Hid (Holds (World.drew wf) (World.drew wf).heap.size A' (nums CL)) := HHD.out
  have hS0 : (fun w' : World => w'.cell? ⟨g, 0, none⟩ = some (.slice I.A I.n I.c) ∧ w'.cell? ⟨g, 1, none⟩ = some (.slice I.Al I.nl I.cl)) (World.drew wf) := ⟨HS.out.mkb.cell 0, HS.out.mkb.cell 1⟩
  refine wp_region_noPanic ?_
  refine region_M (S := fun w' => w'.cell? ⟨g, 0, none⟩ = some (.slice I.A I.n I.c) ∧ w'.cell? ⟨g, 1, none⟩ = some (.slice I.Al I.nl I.cl)) (T := [6]) (by kernel_rfl) ?_
  generalize World.drew wf = wd at HS HGT HHD hS0 ⊢
  refine anyM_take (i := 0) (oi := { dst := some 98, op := _, type := _, pos := _, after := _, guard := _ }) (v := ?_) rfl (by kernel_rfl) (fun _ _ _ h => h) (Or.inl ⟨by kernel_rfl, ?_⟩) hS0 ?_
  rotate_left 1
  · (intro w hSw; (try dsimp only at hSw); go_simp; try with_reducible rfl)
  try simp only [Act.put, Array.toArray_toList, List.setIfInBounds_toArray, List.set_cons_zero, List.set_cons_succ]
  refine anyM_free (i := 1) (oi := { dst := some 99, op := _, type := _, pos := _, after := _, guard := _ }) (v := ?_) rfl (by kernel_rfl) (fun _ _ _ h => h) (Or.inl ⟨by kernel_rfl, ?_⟩) (fun _ => hS0) ?_
  rotate_left 1
  · (intro w hSw; (try dsimp only at hSw); go_simp; try with_reducible rfl)
  try simp only [Act.put, Array.toArray_toList, List.setIfInBounds_toArray, List.set_cons_zero, List.set_cons_succ]
  refine anyM_take (i := 2) (oi := { dst := some 100, op := _, type := _, pos := _, after := _, guard := _ }) (v := ?_) rfl (by kernel_rfl) (fun _ _ _ h => h) (Or.inl ⟨by kernel_rfl, ?_⟩) hS0 ?_
  rotate_left 1
  · (intro w hSw; (try dsimp only at hSw); go_simp; try with_reducible rfl)
  try simp only [Act.put, Array.toArray_toList, List.setIfInBounds_toArray, List.set_cons_zero, List.set_cons_succ]
  refine anyM_free (i := 3) (oi := { dst := some 101, op := _, type := _, pos := _, after := _, guard := _ }) (v := ?_) rfl (by kernel_rfl) (fun _ _ _ h => h) (Or.inl ⟨by kernel_rfl, ?_⟩) (fun _ => hS0) ?_
  rotate_left 1
  · (intro w hSw; (try dsimp only at hSw); go_simp; try with_reducible rfl)
  try simp only [Act.put, Array.toArray_toList, List.setIfInBounds_toArray, List.set_cons_zero, List.set_cons_succ]
  refine anyM_one (i := 4) (by kernel_rfl) rfl (fun K hK => ?_)
  go_simp
  refine Calls.mono (HBX.out _ _ _ HS.out.bel HHD.out) ?_
  rintro e wa ⟨Ab, cb, rfl, hcb, hkb, hbb⟩
  have HCB := Lib.hid hcb
  have HKA := Lib.hid hkb
  have HBB := Lib.hid hbb
  replace HS := Lib.hid (HS.out.call hbb)
  clear hcb hkb hbb
  have hS0 : (fun w' : World => w'.cell? ⟨g, 0, none⟩ = some (.slice I.A I.n I.c) ∧ w'.cell? ⟨g, 1, none⟩ = some (.slice I.Al I.nl I.cl)) wa := ⟨HS.out.mkb.cell 0, HS.out.mkb.cell 1⟩
  refine hK.out _ _ (fun _ => hS0) ?_
  clear hK K
  try simp only [Act.put, Array.toArray_toList, List.setIfInBounds_toArray, List.set_cons_zero, List.set_cons_succ]
  refine anyM_one (i := 5) (by kernel_rfl) rfl (fun K hK => ?_)
  go_simp
  refine Calls.mono (HCT.out _ _ _ _ HS.out.bel HCB.out HKA.out (fun b hq => And.right hq)) ?_
  rintro e we hgt
  obtain ⟨A9, m9, c9, he, hk9, hb9⟩ := GotT.made (w1 := wd) hgt (fun b hq => hq) HBB.out.size
  obtain rfl : e = .returned (.agg #[.int .i64 ck, .int .i64 cn, .int .i64 0, .slice none 0 0, .string ctx, .slice A9 m9 c9]) := he
  have HK9 := Lib.hid hk9
  have HB9 := Lib.hid (Nat.le_trans HBB.out.size hb9.size)
  replace HS := Lib.hid (HS.out.call hb9)
  clear hgt hk9 hb9
  have hS0 : (fun w' : World => w'.cell? ⟨g, 0, none⟩ = some (.slice I.A I.n I.c) ∧ w'.cell? ⟨g, 1, none⟩ = some (.slice I.Al I.nl I.cl)) we := ⟨HS.out.mkb.cell 0, HS.out.mkb.cell 1⟩
  refine hK.out _ _ (fun _ => hS0) ?_
  clear hK K
  try simp only [Act.put, Array.toArray_toList, List.setIfInBounds_toArray, List.set_cons_zero, List.set_cons_succ]
  refine anyM_one (i := 6) (by kernel_rfl) rfl (fun K hK => ?_)
  rw [if_pos (by kernel_rfl)]
  refine wp_store_mid _ _ _ rfl (g + 1) 0 #[.int .i64 ck, .int .i64 cn, .int .i64 0, .slice none 0 0, .string ctx, .slice A9 m9 c9] rfl rfl (HS.out.fin #[.int .i64 ck, .int .i64 cn, .int .i64 0, .slice none 0 0, .string ctx, .slice A9 m9 c9] rfl).1 (by kernel_rfl) (by kernel_rfl) ?_
  obtain ⟨w9, hw9, hr9, hz9⟩ := (HS.out.fin #[.int .i64 ck, .int .i64 cn, .int .i64 0, .slice none 0 0, .string ctx, .slice A9 m9 c9] rfl).2
  rw [hw9]
  clear hw9
  have HS9 := Lib.hid hr9
  have HZ9 := Lib.hid hz9
  clear hr9 hz9
  change K (Act.put _ none undef) _
  refine hK.out _ _ (fun h => late_no h (by kernel_rfl)) ?_
  clear hK K
  try simp only [Act.put, Array.toArray_toList, List.setIfInBounds_toArray, List.set_cons_zero, List.set_cons_succ]
  refine anyM_done (by kernel_rfl) ?_ _
  refine NoPanic.normal ?_
  clear hS0
  go_wp2_with fail
  exact bodyPost_ret (ret_tree Tryz.results65 _ _ (g + 1) _ rfl HS9.out.res rfl) rfl ⟨_, _, _, rfl, KidsAt.earlier (KidsAt.moved HK9.out (by have := HGT.out; omega) HZ9.out) (by have := HG.out; have := HGT.out; omega), HS9.out.bel⟩
set_option maxRecDepth 100000 in
set_option maxHeartbeats 8000000 in
theorem pboxDef_calls (I : BxV) (hc : checkE I.ns = 0) (r k : Nat) (IH : DeepP I hc r) (w : World) (h : I.ok w w.heap.size) (hk : k < I.n) (hrk : rankN I.ns k ≤ r) (h3 : ¬ (nd I.ns k).kind = 3) (hbr : ¬ ((nd I.ns k).name = brS ∧ isS (I.sty k) = 1)) (isn : Int) (his : isS (I.sty k) = isn) (d1 : (isn == 1) = false) (d3 : (isn == 3) = false) (d4 : (isn == 4) = false) (d5 : (isn == 5) = false) :
    Calls Tryz.prog 65 #[mkA I, .int .i64 (k : Nat)] w (MadeT w ((docB I (docOk hc)).containerT k (((docB I (docOk hc)).content k).map (docB I (docOk hc)).box))) := by
  have hkb : k ≤ 200 := by have := h.n0; omega
  obtain ⟨i1, i2, i3⟩ := IH.content h.hn hrk
  have hcl := content_len I hc k
  obtain ⟨b, off, hA, hnc⟩ := node_six h hk
  have HNC := Lib.hid (fun w' (hb : Below w.heap.size w w') => hnc w' _ (h.below hb (Nat.le_refl _)))
  have HS := Lib.hid (bxM_new I w #[.int .i64 4, .int .i64 (k : Nat), .int .i64 0, .slice none 0 0, .string ⟨#[]⟩, .slice none 0 0] rfl)
  have HIS := Lib.hid (fun w' (hb : Below w.heap.size w w') => is_calls I k w' ((h.below hb (Nat.le_refl _)).more hb.size) hk)
  have HCO := Lib.hid (fun w' (hb : Below w.heap.size w w') => content_says I hc k w' ((h.below hb (Nat.le_refl _)).more hb.size) hk)
  unfold ContSays at HCO
  have hnc0 : nodeC (nd I.ns k) = #[.int .i64 (nd I.ns k).kind, .string (nd I.ns k).name, .slice (nd I.ns k).attrsA (nd I.ns k).attrs.length (nd I.ns k).acap, .string (nd I.ns k).text, .int .i64 (nd I.ns k).parent, .slice (nd I.ns k).kidsA (nd I.ns k).kids.length (nd I.ns k).kcap] := rfl
  rw [hnc0] at HNC
  have pb : ((nd I.ns k).name.toList == [98, 114]) = decide ((nd I.ns k).name = brS) := by rw [← eBR, str_eqD]
  generalize decide ((nd I.ns k).name = brS) = isb at pb
  rw [his] at HIS
  have HBX := Lib.hid (fun (A' : Option Addr) (c' : Nat) w' (hb : Below w.heap.size w w') (hH : Holds w' w'.heap.size A' (nums ((docB I (docOk hc)).content k))) => boxesB_calls (docB I (docOk hc)) I ((docB I (docOk hc)).content k) A' ((docB I (docOk hc)).content k).length c' w' ((h.below hb (Nat.le_refl _)).more hb.size) rfl hH hcl i3)
  have HCT := Lib.hid (fun (A : Option Addr) (c : Nat) (Q : Nat → Prop) w' (hb : Below w.heap.size w w') (hcap : ((docB I (docOk hc)).content k).length ≤ c) (hk : KidsAt w' Q (((docB I (docOk hc)).content k).map (docB I (docOk hc)).box) A ((docB I (docOk hc)).content k).length) (hq : ∀ b, Q b → b < w'.heap.size) => container_calls I (docOk hc) (k : Nat) (((docB I (docOk hc)).content k).map (docB I (docOk hc)).box) A ((docB I (docOk hc)).content k).length c Q w' (by omega) hcap ((h.below hb (Nat.le_refl _)).more hb.size) hk hq (boxes_ok I (docOk hc) h.hn i1))
  clear hbr his
  generalize (docB I (docOk hc)).containerT (k : Nat) (((docB I (docOk hc)).content k).map (docB I (docOk hc)).box) = CT at HCT ⊢
  generalize ((docB I (docOk hc)).content k).map (docB I (docOk hc)).box = TS at HBX HCT
  generalize (docB I (docOk hc)).content k = CL at HCO HBX HCT
  obtain ⟨ck, cn, ctx, cks⟩ := CT
  generalize (nd I.ns k).kind = nk at HNC h3
  generalize (nd I.ns k).name = nm at HNC pb
  generalize (nd I.ns k).attrsA = aA at HNC
  generalize (nd I.ns k).attrs.length = an at HNC
  generalize (nd I.ns k).acap = ac at HNC
  generalize (nd I.ns k).text = tx at HNC 
  generalize (nd I.ns k).parent = pa at HNC
  generalize (nd I.ns k).kidsA = kA at HNC
  generalize (nd I.ns k).kids.length = kn at HNC
  generalize (nd I.ns k).kcap = kc at HNC
  have HA := Lib.hid hA
  clear h hrk IH i1 i2 i3 hcl
  clear hnc0 hnc hA
  unfold mkA at HIS HCO HBX HCT ⊢
  go_enter Tryz.func65, Tryz.ntmps65
  go_upto_region 2 with fail
  generalize World.alloc (World.alloc (World.alloc w _) _) _ = w1 at HS ⊢
  generalize hg : w.heap.size = g at HS ⊢
  have HG := Lib.hid hg
  clear hg
  have m0 : w1.cell? ⟨g, 0, none⟩ = some (.slice (some ⟨b, off, none⟩) I.n I.c) := by rw [← HA.out]; exact HS.out.mkb.cell 0
  have n0 : w1.cell? ⟨b, off + k * 6, none⟩ = some (.int .i64 nk) := HNC.out w1 HS.out.bel 0 (by omega)
  have n1 : w1.cell? ⟨b, off + k * 6 + 1, none⟩ = some (.string nm) := HNC.out w1 HS.out.bel 1 (by omega)
  have n2 : w1.cell? ⟨b, off + k * 6 + 2, none⟩ = some (.slice aA an ac) := HNC.out w1 HS.out.bel 2 (by omega)
  have n3 : w1.cell? ⟨b, off + k * 6 + 3, none⟩ = some (.string tx) := HNC.out w1 HS.out.bel 3 (by omega)
  have n4 : w1.cell? ⟨b, off + k * 6 + 4, none⟩ = some (.int .i64 pa) := HNC.out w1 HS.out.bel 4 (by omega)
  have n5 : w1.cell? ⟨b, off + k * 6 + 5, none⟩ = some (.slice kA kn kc) := HNC.out w1 HS.out.bel 5 (by omega)
  have HV := Lib.hid (Blk.new w1 117 #[.int .i64 nk, .string nm, .slice aA an ac, .string tx, .int .i64 pa, .slice kA kn kc])
  replace HS := Lib.hid (HS.out.alloc (.cells #[.int .i64 nk, .string nm, .slice aA an ac, .string tx, .int .i64 pa, .slice kA kn kc] 117))
  go_upto_region 3 with fail
  generalize World.alloc w1 _ = w2 at HS HV ⊢
  generalize w1.heap.size = gv at HV ⊢
  clear m0 n0 n1 n2 n3 n4 n5 HNC
  have v0 : w2.cell? ⟨gv, 0, none⟩ = some (.int .i64 nk) := HV.out.cell 0
  have m0 : w2.cell? ⟨g, 0, none⟩ = some (.slice I.A I.n I.c) := HS.out.mkb.cell 0
  have m1 : w2.cell? ⟨g, 1, none⟩ = some (.slice I.Al I.nl I.cl) := HS.out.mkb.cell 1
  have p3 : (nk == 3) = false := by simp [h3]
  clear h3
  cases isb
  · skip
    go_upto_region 26 with (first | (go_at_call 66; refine (HIS.out _ HS.out.bel).mono ?_; rintro e wi ⟨rfl, hbi⟩; replace HS := Lib.hid (HS.out.call hbi); replace HV := Lib.hid (HV.out.below hbi HV.out.lt); have u1 : wi.cell? ⟨gv, 1, none⟩ = some (.string nm) := HV.out.cell 1; have a0 : wi.cell? ⟨g, 0, none⟩ = some (.slice I.A I.n I.c) := HS.out.mkb.cell 0; have a1 : wi.cell? ⟨g, 1, none⟩ = some (.slice I.Al I.nl I.cl) := HS.out.mkb.cell 1; have y4 : wi.cell? ⟨g + 1 + 1, 4, none⟩ = some (.string ⟨#[]⟩) := HS.out.var.cell 4; have f4 : wi.frozen? ⟨g + 1 + 1, 4, none⟩ = false := HS.out.var.free 4; clear hbi) | (go_at_call 31; refine (HCO.out _ HS.out.bel).mono ?_; rintro e wc ⟨A', c', rfl, hcp, hhd, hbc⟩; have HCP := Lib.hid hcp; have HHD := Lib.hid hhd; replace HS := Lib.hid (HS.out.call hbc); have b0 : wc.cell? ⟨g, 0, none⟩ = some (.slice I.A I.n I.c) := HS.out.mkb.cell 0; have b1 : wc.cell? ⟨g, 1, none⟩ = some (.slice I.Al I.nl I.cl) := HS.out.mkb.cell 1; clear hcp hhd hbc))
    clear u1 a0 a1 b0 b1 y4 f4 v0 m0 m1
    replace HS := Lib.hid HS.out.drew
    have HGT : Hid (g + 1 + 1 < (World.drew wc).heap.size) := HS.out.gt
    have HHD : Hid (Holds (World.drew wc) (World.drew wc).heap.size A' (nums CL)) := HHD.out
    have hS0 : (fun w' : World => w'.cell? ⟨g, 0, none⟩ = some (.slice I.A I.n I.c) ∧ w'.cell? ⟨g, 1, none⟩ = some (.slice I.Al I.nl I.cl)) (World.drew wc) := ⟨HS.out.mkb.cell 0, HS.out.mkb.cell 1⟩
    refine wp_region_noPanic ?_
    refine region_M (S := fun w' => w'.cell? ⟨g, 0, none⟩ = some (.slice I.A I.n I.c) ∧ w'.cell? ⟨g, 1, none⟩ = some (.slice I.Al I.nl I.cl)) (T := [6]) (by kernel_rfl) ?_
    generalize World.drew wc = wd at HS HGT HHD hS0 ⊢
    refine anyM_take (i := 0) (oi := { dst := some 98, op := _, type := _, pos := _, after := _, guard := _ }) (v := ?_) rfl (by kernel_rfl) (fun _ _ _ h => h) (Or.inl ⟨by kernel_rfl, ?_⟩) hS0 ?_
    rotate_left 1
    · (intro w hSw; (try dsimp only at hSw); go_simp; try with_reducible rfl)
    try simp only [Act.put, Array.toArray_toList, List.setIfInBounds_toArray, List.set_cons_zero, List.set_cons_succ]
    refine anyM_free (i := 1) (oi := { dst := some 99, op := _, type := _, pos := _, after := _, guard := _ }) (v := ?_) rfl (by kernel_rfl) (fun _ _ _ h => h) (Or.inl ⟨by kernel_rfl, ?_⟩) (fun _ => hS0) ?_
    rotate_left 1
    · (intro w hSw; (try dsimp only at hSw); go_simp; try with_reducible rfl)
    try simp only [Act.put, Array.toArray_toList, List.setIfInBounds_toArray, List.set_cons_zero, List.set_cons_succ]
    refine anyM_take (i := 2) (oi := { dst := some 100, op := _, type := _, pos := _, after := _, guard := _ }) (v := ?_) rfl (by kernel_rfl) (fun _ _ _ h => h) (Or.inl ⟨by kernel_rfl, ?_⟩) hS0 ?_
    rotate_left 1
    · (intro w hSw; (try dsimp only at hSw); go_simp; try with_reducible rfl)
    try simp only [Act.put, Array.toArray_toList, List.setIfInBounds_toArray, List.set_cons_zero, List.set_cons_succ]
    refine anyM_free (i := 3) (oi := { dst := some 101, op := _, type := _, pos := _, after := _, guard := _ }) (v := ?_) rfl (by kernel_rfl) (fun _ _ _ h => h) (Or.inl ⟨by kernel_rfl, ?_⟩) (fun _ => hS0) ?_
    rotate_left 1
    · (intro w hSw; (try dsimp only at hSw); go_simp; try with_reducible rfl)
    try simp only [Act.put, Array.toArray_toList, List.setIfInBounds_toArray, List.set_cons_zero, List.set_cons_succ]
    refine anyM_one (i := 4) (by kernel_rfl) rfl (fun K hK => ?_)
    go_simp
    refine Calls.mono (HBX.out _ _ _ HS.out.bel HHD.out) ?_
    rintro e wa ⟨Ab, cb, rfl, hcb, hkb, hbb⟩
    have HCB := Lib.hid hcb
    have HKA := Lib.hid hkb
    have HBB := Lib.hid hbb
    replace HS := Lib.hid (HS.out.call hbb)
    clear hcb hkb hbb
    have hS0 : (fun w' : World => w'.cell? ⟨g, 0, none⟩ = some (.slice I.A I.n I.c) ∧ w'.cell? ⟨g, 1, none⟩ = some (.slice I.Al I.nl I.cl)) wa := ⟨HS.out.mkb.cell 0, HS.out.mkb.cell 1⟩
    refine hK.out _ _ (fun _ => hS0) ?_
    clear hK K
    try simp only [Act.put, Array.toArray_toList, List.setIfInBounds_toArray, List.set_cons_zero, List.set_cons_succ]
    refine anyM_one (i := 5) (by kernel_rfl) rfl (fun K hK => ?_)
    go_simp
    refine Calls.mono (HCT.out _ _ _ _ HS.out.bel HCB.out HKA.out (fun b hq => And.right hq)) ?_
    rintro e we hgt
    obtain ⟨A9, m9, c9, he, hk9, hb9⟩ := GotT.made (w1 := wd) hgt (fun b hq => hq) HBB.out.size
    obtain rfl : e = .returned (.agg #[.int .i64 ck, .int .i64 cn, .int .i64 0, .slice none 0 0, .string ctx, .slice A9 m9 c9]) := he
    have HK9 := Lib.hid hk9
    have HB9 := Lib.hid (Nat.le_trans HBB.out.size hb9.size)
    replace HS := Lib.hid (HS.out.call hb9)
    clear hgt hk9 hb9
    have hS0 : (fun w' : World => w'.cell? ⟨g, 0, none⟩ = some (.slice I.A I.n I.c) ∧ w'.cell? ⟨g, 1, none⟩ = some (.slice I.Al I.nl I.cl)) we := ⟨HS.out.mkb.cell 0, HS.out.mkb.cell 1⟩
    refine hK.out _ _ (fun _ => hS0) ?_
    clear hK K
    try simp only [Act.put, Array.toArray_toList, List.setIfInBounds_toArray, List.set_cons_zero, List.set_cons_succ]
    refine anyM_one (i := 6) (by kernel_rfl) rfl (fun K hK => ?_)
    rw [if_pos (by kernel_rfl)]
    refine wp_store_mid _ _ _ rfl (g + 1) 0 #[.int .i64 ck, .int .i64 cn, .int .i64 0, .slice none 0 0, .string ctx, .slice A9 m9 c9] rfl rfl (HS.out.fin #[.int .i64 ck, .int .i64 cn, .int .i64 0, .slice none 0 0, .string ctx, .slice A9 m9 c9] rfl).1 (by kernel_rfl) (by kernel_rfl) ?_
    obtain ⟨w9, hw9, hr9, hz9⟩ := (HS.out.fin #[.int .i64 ck, .int .i64 cn, .int .i64 0, .slice none 0 0, .string ctx, .slice A9 m9 c9] rfl).2
    rw [hw9]
    clear hw9
    have HS9 := Lib.hid hr9
    have HZ9 := Lib.hid hz9
    clear hr9 hz9
    change K (Act.put _ none undef) _
    refine hK.out _ _ (fun h => late_no h (by kernel_rfl)) ?_
    clear hK K
    try simp only [Act.put, Array.toArray_toList, List.setIfInBounds_toArray, List.set_cons_zero, List.set_cons_succ]
    refine anyM_done (by kernel_rfl) ?_ _
    refine NoPanic.normal ?_
    clear hS0
    go_wp2_with fail
    exact bodyPost_ret (ret_tree Tryz.results65 _ _ (g + 1) _ rfl HS9.out.res rfl) rfl ⟨_, _, _, rfl, KidsAt.earlier (KidsAt.moved HK9.out (by have := HGT.out; omega) HZ9.out) (by have := HG.out; have := HGT.out; omega), HS9.out.bel⟩
  · skip
    go_upto_region 26 with (first | (go_at_call 66; refine (HIS.out _ HS.out.bel).mono ?_; rintro e wi ⟨rfl, hbi⟩; replace HS := Lib.hid (HS.out.call hbi); replace HV := Lib.hid (HV.out.below hbi HV.out.lt); have u1 : wi.cell? ⟨gv, 1, none⟩ = some (.string nm) := HV.out.cell 1; have a0 : wi.cell? ⟨g, 0, none⟩ = some (.slice I.A I.n I.c) := HS.out.mkb.cell 0; have a1 : wi.cell? ⟨g, 1, none⟩ = some (.slice I.Al I.nl I.cl) := HS.out.mkb.cell 1; have y4 : wi.cell? ⟨g + 1 + 1, 4, none⟩ = some (.string ⟨#[]⟩) := HS.out.var.cell 4; have f4 : wi.frozen? ⟨g + 1 + 1, 4, none⟩ = false := HS.out.var.free 4; clear hbi) | (go_at_call 31; refine (HCO.out _ HS.out.bel).mono ?_; rintro e wc ⟨A', c', rfl, hcp, hhd, hbc⟩; have HCP := Lib.hid hcp; have HHD := Lib.hid hhd; replace HS := Lib.hid (HS.out.call hbc); have b0 : wc.cell? ⟨g, 0, none⟩ = some (.slice I.A I.n I.c) := HS.out.mkb.cell 0; have b1 : wc.cell? ⟨g, 1, none⟩ = some (.slice I.Al I.nl I.cl) := HS.out.mkb.cell 1; clear hcp hhd hbc))
    clear u1 a0 a1 b0 b1 y4 f4 v0 m0 m1
    replace HS := Lib.hid HS.out.drew
    have HGT : Hid (g + 1 + 1 < (World.drew wc).heap.size) := HS.out.gt
    have HHD : Hid (Holds (World.drew wc) (World.drew wc).heap.size A' (nums CL)) := HHD.out
    have hS0 : (fun w' : World => w'.cell? ⟨g, 0, none⟩ = some (.slice I.A I.n I.c) ∧ w'.cell? ⟨g, 1, none⟩ = some (.slice I.Al I.nl I.cl)) (World.drew wc) := ⟨HS.out.mkb.cell 0, HS.out.mkb.cell 1⟩
    refine wp_region_noPanic ?_
    refine region_M (S := fun w' => w'.cell? ⟨g, 0, none⟩ = some (.slice I.A I.n I.c) ∧ w'.cell? ⟨g, 1, none⟩ = some (.slice I.Al I.nl I.cl)) (T := [6]) (by kernel_rfl) ?_
    generalize World.drew wc = wd at HS HGT HHD hS0 ⊢
    refine anyM_take (i := 0) (oi := { dst := some 98, op := _, type := _, pos := _, after := _, guard := _ }) (v := ?_) rfl (by kernel_rfl) (fun _ _ _ h => h) (Or.inl ⟨by kernel_rfl, ?_⟩) hS0 ?_
    rotate_left 1
    · (intro w hSw; (try dsimp only at hSw); go_simp; try with_reducible rfl)
    try simp only [Act.put, Array.toArray_toList, List.setIfInBounds_toArray, List.set_cons_zero, List.set_cons_succ]
    refine anyM_free (i := 1) (oi := { dst := some 99, op := _, type := _, pos := _, after := _, guard := _ }) (v := ?_) rfl (by kernel_rfl) (fun _ _ _ h => h) (Or.inl ⟨by kernel_rfl, ?_⟩) (fun _ => hS0) ?_
    rotate_left 1
    · (intro w hSw; (try dsimp only at hSw); go_simp; try with_reducible rfl)
    try simp only [Act.put, Array.toArray_toList, List.setIfInBounds_toArray, List.set_cons_zero, List.set_cons_succ]
    refine anyM_take (i := 2) (oi := { dst := some 100, op := _, type := _, pos := _, after := _, guard := _ }) (v := ?_) rfl (by kernel_rfl) (fun _ _ _ h => h) (Or.inl ⟨by kernel_rfl, ?_⟩) hS0 ?_
    rotate_left 1
    · (intro w hSw; (try dsimp only at hSw); go_simp; try with_reducible rfl)
    try simp only [Act.put, Array.toArray_toList, List.setIfInBounds_toArray, List.set_cons_zero, List.set_cons_succ]
    refine anyM_free (i := 3) (oi := { dst := some 101, op := _, type := _, pos := _, after := _, guard := _ }) (v := ?_) rfl (by kernel_rfl) (fun _ _ _ h => h) (Or.inl ⟨by kernel_rfl, ?_⟩) (fun _ => hS0) ?_
    rotate_left 1
    · (intro w hSw; (try dsimp only at hSw); go_simp; try with_reducible rfl)
    try simp only [Act.put, Array.toArray_toList, List.setIfInBounds_toArray, List.set_cons_zero, List.set_cons_succ]
    refine anyM_one (i := 4) (by kernel_rfl) rfl (fun K hK => ?_)
    go_simp
    refine Calls.mono (HBX.out _ _ _ HS.out.bel HHD.out) ?_
    rintro e wa ⟨Ab, cb, rfl, hcb, hkb, hbb⟩
    have HCB := Lib.hid hcb
    have HKA := Lib.hid hkb
    have HBB := Lib.hid hbb
    replace HS := Lib.hid (HS.out.call hbb)
    clear hcb hkb hbb
    have hS0 : (fun w' : World => w'.cell? ⟨g, 0, none⟩ = some (.slice I.A I.n I.c) ∧ w'.cell? ⟨g, 1, none⟩ = some (.slice I.Al I.nl I.cl)) wa := ⟨HS.out.mkb.cell 0, HS.out.mkb.cell 1⟩
    refine hK.out _ _ (fun _ => hS0) ?_
    clear hK K
    try simp only [Act.put, Array.toArray_toList, List.setIfInBounds_toArray, List.set_cons_zero, List.set_cons_succ]
    refine anyM_one (i := 5) (by kernel_rfl) rfl (fun K hK => ?_)
    go_simp
    refine Calls.mono (HCT.out _ _ _ _ HS.out.bel HCB.out HKA.out (fun b hq => And.right hq)) ?_
    rintro e we hgt
    obtain ⟨A9, m9, c9, he, hk9, hb9⟩ := GotT.made (w1 := wd) hgt (fun b hq => hq) HBB.out.size
    obtain rfl : e = .returned (.agg #[.int .i64 ck, .int .i64 cn, .int .i64 0, .slice none 0 0, .string ctx, .slice A9 m9 c9]) := he
    have HK9 := Lib.hid hk9
    have HB9 := Lib.hid (Nat.le_trans HBB.out.size hb9.size)
    replace HS := Lib.hid (HS.out.call hb9)
    clear hgt hk9 hb9
    have hS0 : (fun w' : World => w'.cell? ⟨g, 0, none⟩ = some (.slice I.A I.n I.c) ∧ w'.cell? ⟨g, 1, none⟩ = some (.slice I.Al I.nl I.cl)) we := ⟨HS.out.mkb.cell 0, HS.out.mkb.cell 1⟩
    refine hK.out _ _ (fun _ => hS0) ?_
    clear hK K
    try simp only [Act.put, Array.toArray_toList, List.setIfInBounds_toArray, List.set_cons_zero, List.set_cons_succ]
    refine anyM_one (i := 6) (by kernel_rfl) rfl (fun K hK => ?_)
    rw [if_pos (by kernel_rfl)]
    refine wp_store_mid _ _ _ rfl (g + 1) 0 #[.int .i64 ck, .int .i64 cn, .int .i64 0, .slice none 0 0, .string ctx, .slice A9 m9 c9] rfl rfl (HS.out.fin #[.int .i64 ck, .int .i64 cn, .int .i64 0, .slice none 0 0, .string ctx, .slice A9 m9 c9] rfl).1 (by kernel_rfl) (by kernel_rfl) ?_
    obtain ⟨w9, hw9, hr9, hz9⟩ := (HS.out.fin #[.int .i64 ck, .int .i64 cn, .int .i64 0, .slice none 0 0, .string ctx, .slice A9 m9 c9] rfl).2
    rw [hw9]
    clear hw9
    have HS9 := Lib.hid hr9
    have HZ9 := Lib.hid hz9
    clear hr9 hz9
    change K (Act.put _ none undef) _
    refine hK.out _ _ (fun h => late_no h (by kernel_rfl)) ?_
    clear hK K
    try simp only [Act.put, Array.toArray_toList, List.setIfInBounds_toArray, List.set_cons_zero, List.set_cons_succ]
    refine anyM_done (by kernel_rfl) ?_ _
    refine NoPanic.normal ?_
    clear hS0
    go_wp2_with fail
    exact bodyPost_ret (ret_tree Tryz.results65 _ _ (g + 1) _ rfl HS9.out.res rfl) rfl ⟨_, _, _, rfl, KidsAt.earlier (KidsAt.moved HK9.out (by have := HGT.out; omega) HZ9.out) (by have := HG.out; have := HGT.out; omega), HS9.out.bel⟩
set_option maxRecDepth 100000 in
set_option maxHeartbeats 8000000 in
theorem pboxAtom_calls (I : BxV) (hc : checkE I.ns = 0) (r k : Nat) (IH : DeepP I hc r) (w : World) (h : I.ok w w.heap.size) (hk : k < I.n) (hrk : rankN I.ns k ≤ r) (h3 : ¬ (nd I.ns k).kind = 3) (hbr : ¬ ((nd I.ns k).name = brS ∧ isS (I.sty k) = 1)) (his : isS (I.sty k) = 3) :
    Calls Tryz.prog 65 #[mkA I, .int .i64 (k : Nat)] w (MadeT w (.mk 5 k noS [(docB I (docOk hc)).containerT (-1) (((docB I (docOk hc)).content k).map (docB I (docOk hc)).box)])) := by
  have hkb : k ≤ 200 := by have := h.n0; omega
  obtain ⟨i1, i2, i3⟩ := IH.content h.hn hrk
  have hcl := content_len I hc k
  obtain ⟨b, off, hA, hnc⟩ := node_six h hk
  have HNC := Lib.hid (fun w' (hb : Below w.heap.size w w') => hnc w' _ (h.below hb (Nat.le_refl _)))
  have HS := Lib.hid (bxM_new I w #[.int .i64 4, .int .i64 (k : Nat), .int .i64 0, .slice none 0 0, .string ⟨#[]⟩, .slice none 0 0] rfl)
  have HIS := Lib.hid (fun w' (hb : Below w.heap.size w w') => is_calls I k w' ((h.below hb (Nat.le_refl _)).more hb.size) hk)
  have HCO := Lib.hid (fun w' (hb : Below w.heap.size w w') => content_says I hc k w' ((h.below hb (Nat.le_refl _)).more hb.size) hk)
  unfold ContSays at HCO
  have hnc0 : nodeC (nd I.ns k) = #[.int .i64 (nd I.ns k).kind, .string (nd I.ns k).name, .slice (nd I.ns k).attrsA (nd I.ns k).attrs.length (nd I.ns k).acap, .string (nd I.ns k).text, .int .i64 (nd I.ns k).parent, .slice (nd I.ns k).kidsA (nd I.ns k).kids.length (nd I.ns k).kcap] := rfl
  rw [hnc0] at HNC
  have pb : ((nd I.ns k).name.toList == [98, 114]) = decide ((nd I.ns k).name = brS) := by rw [← eBR, str_eqD]
  generalize decide ((nd I.ns k).name = brS) = isb at pb
  rw [his] at HIS
  have HBX := Lib.hid (fun (A' : Option Addr) (c' : Nat) w' (hb : Below w.heap.size w w') (hH : Holds w' w'.heap.size A' (nums ((docB I (docOk hc)).content k))) => boxesB_calls (docB I (docOk hc)) I ((docB I (docOk hc)).content k) A' ((docB I (docOk hc)).content k).length c' w' ((h.below hb (Nat.le_refl _)).more hb.size) rfl hH hcl i3)
  have HCT := Lib.hid (fun (A : Option Addr) (c : Nat) (Q : Nat → Prop) w' (hb : Below w.heap.size w w') (hcap : ((docB I (docOk hc)).content k).length ≤ c) (hk : KidsAt w' Q (((docB I (docOk hc)).content k).map (docB I (docOk hc)).box) A ((docB I (docOk hc)).content k).length) (hq : ∀ b, Q b → b < w'.heap.size) => container_calls I (docOk hc) (-1) (((docB I (docOk hc)).content k).map (docB I (docOk hc)).box) A ((docB I (docOk hc)).content k).length c Q w' (by omega) hcap ((h.below hb (Nat.le_refl _)).more hb.size) hk hq (boxes_ok I (docOk hc) h.hn i1))
  clear hbr his
  generalize (docB I (docOk hc)).containerT (-1) (((docB I (docOk hc)).content k).map (docB I (docOk hc)).box) = CT at HCT ⊢
  generalize ((docB I (docOk hc)).content k).map (docB I (docOk hc)).box = TS at HBX HCT
  generalize (docB I (docOk hc)).content k = CL at HCO HBX HCT
  obtain ⟨ck, cn, ctx, cks⟩ := CT
  generalize (nd I.ns k).kind = nk at HNC h3
  generalize (nd I.ns k).name = nm at HNC pb
  generalize (nd I.ns k).attrsA = aA at HNC
  generalize (nd I.ns k).attrs.length = an at HNC
  generalize (nd I.ns k).acap = ac at HNC
  generalize (nd I.ns k).text = tx at HNC 
  generalize (nd I.ns k).parent = pa at HNC
  generalize (nd I.ns k).kidsA = kA at HNC
  generalize (nd I.ns k).kids.length = kn at HNC
  generalize (nd I.ns k).kcap = kc at HNC
  have HA := Lib.hid hA
  clear h hrk IH i1 i2 i3 hcl
  clear hnc0 hnc hA
  unfold mkA at HIS HCO HBX HCT ⊢
  go_enter Tryz.func65, Tryz.ntmps65
  go_upto_region 2 with fail
  generalize World.alloc (World.alloc (World.alloc w _) _) _ = w1 at HS ⊢
  generalize hg : w.heap.size = g at HS ⊢
  have HG := Lib.hid hg
  clear hg
  have m0 : w1.cell? ⟨g, 0, none⟩ = some (.slice (some ⟨b, off, none⟩) I.n I.c) := by rw [← HA.out]; exact HS.out.mkb.cell 0
  have n0 : w1.cell? ⟨b, off + k * 6, none⟩ = some (.int .i64 nk) := HNC.out w1 HS.out.bel 0 (by omega)
  have n1 : w1.cell? ⟨b, off + k * 6 + 1, none⟩ = some (.string nm) := HNC.out w1 HS.out.bel 1 (by omega)
  have n2 : w1.cell? ⟨b, off + k * 6 + 2, none⟩ = some (.slice aA an ac) := HNC.out w1 HS.out.bel 2 (by omega)
  have n3 : w1.cell? ⟨b, off + k * 6 + 3, none⟩ = some (.string tx) := HNC.out w1 HS.out.bel 3 (by omega)
  have n4 : w1.cell? ⟨b, off + k * 6 + 4, none⟩ = some (.int .i64 pa) := HNC.out w1 HS.out.bel 4 (by omega)
  have n5 : w1.cell? ⟨b, off + k * 6 + 5, none⟩ = some (.slice kA kn kc) := HNC.out w1 HS.out.bel 5 (by omega)
  have HV := Lib.hid (Blk.new w1 117 #[.int .i64 nk, .string nm, .slice aA an ac, .string tx, .int .i64 pa, .slice kA kn kc])
  replace HS := Lib.hid (HS.out.alloc (.cells #[.int .i64 nk, .string nm, .slice aA an ac, .string tx, .int .i64 pa, .slice kA kn kc] 117))
  go_upto_region 3 with fail
  generalize World.alloc w1 _ = w2 at HS HV ⊢
  generalize w1.heap.size = gv at HV ⊢
  clear m0 n0 n1 n2 n3 n4 n5 HNC
  have v0 : w2.cell? ⟨gv, 0, none⟩ = some (.int .i64 nk) := HV.out.cell 0
  have m0 : w2.cell? ⟨g, 0, none⟩ = some (.slice I.A I.n I.c) := HS.out.mkb.cell 0
  have m1 : w2.cell? ⟨g, 1, none⟩ = some (.slice I.Al I.nl I.cl) := HS.out.mkb.cell 1
  have p3 : (nk == 3) = false := by simp [h3]
  clear h3
  cases isb
  · skip
    go_upto_region 18 with (first | (go_at_call 66; refine (HIS.out _ HS.out.bel).mono ?_; rintro e wi ⟨rfl, hbi⟩; replace HS := Lib.hid (HS.out.call hbi); replace HV := Lib.hid (HV.out.below hbi HV.out.lt); have u1 : wi.cell? ⟨gv, 1, none⟩ = some (.string nm) := HV.out.cell 1; have a0 : wi.cell? ⟨g, 0, none⟩ = some (.slice I.A I.n I.c) := HS.out.mkb.cell 0; have a1 : wi.cell? ⟨g, 1, none⟩ = some (.slice I.Al I.nl I.cl) := HS.out.mkb.cell 1; have y4 : wi.cell? ⟨g + 1 + 1, 4, none⟩ = some (.string ⟨#[]⟩) := HS.out.var.cell 4; have f4 : wi.frozen? ⟨g + 1 + 1, 4, none⟩ = false := HS.out.var.free 4; clear hbi) | (go_at_call 31; refine (HCO.out _ HS.out.bel).mono ?_; rintro e wc ⟨A', c', rfl, hcp, hhd, hbc⟩; have HCP := Lib.hid hcp; have HHD := Lib.hid hhd; replace HS := Lib.hid (HS.out.call hbc); have b0 : wc.cell? ⟨g, 0, none⟩ = some (.slice I.A I.n I.c) := HS.out.mkb.cell 0; have b1 : wc.cell? ⟨g, 1, none⟩ = some (.slice I.Al I.nl I.cl) := HS.out.mkb.cell 1; clear hcp hhd hbc))
    clear u1 a0 a1 b0 b1 y4 f4 v0 m0 m1
    replace HS := Lib.hid HS.out.drew
    have HGT : Hid (g + 1 + 1 < (World.drew wc).heap.size) := HS.out.gt
    have HHD : Hid (Holds (World.drew wc) (World.drew wc).heap.size A' (nums CL)) := HHD.out
    have hS0 : (fun w' : World => w'.cell? ⟨g, 0, none⟩ = some (.slice I.A I.n I.c) ∧ w'.cell? ⟨g, 1, none⟩ = some (.slice I.Al I.nl I.cl)) (World.drew wc) := ⟨HS.out.mkb.cell 0, HS.out.mkb.cell 1⟩
    refine wp_region_noPanic ?_
    refine region_M (S := fun w' => w'.cell? ⟨g, 0, none⟩ = some (.slice I.A I.n I.c) ∧ w'.cell? ⟨g, 1, none⟩ = some (.slice I.Al I.nl I.cl)) (T := [10]) (by kernel_rfl) ?_
    generalize World.drew wc = wd at HS HGT HHD hS0 ⊢
    refine anyM_take (i := 0) (oi := { dst := some 67, op := _, type := _, pos := _, after := _, guard := _ }) (v := ?_) rfl (by kernel_rfl) (fun _ _ _ h => h) (Or.inl ⟨by kernel_rfl, ?_⟩) hS0 ?_
    rotate_left 1
    · (intro w hSw; (try dsimp only at hSw); go_simp; try with_reducible rfl)
    try simp only [Act.put, Array.toArray_toList, List.setIfInBounds_toArray, List.set_cons_zero, List.set_cons_succ]
    refine anyM_take (i := 1) (oi := { dst := some 68, op := _, type := _, pos := _, after := _, guard := _ }) (v := ?_) rfl (by kernel_rfl) (fun _ _ _ h => h) (Or.inl ⟨by kernel_rfl, ?_⟩) hS0 ?_
    rotate_left 1
    · (intro w hSw; (try dsimp only at hSw); go_simp; try with_reducible rfl)
    try simp only [Act.put, Array.toArray_toList, List.setIfInBounds_toArray, List.set_cons_zero, List.set_cons_succ]
    refine anyM_free (i := 2) (oi := { dst := some 69, op := _, type := _, pos := _, after := _, guard := _ }) (v := ?_) rfl (by kernel_rfl) (fun _ _ _ h => h) (Or.inl ⟨by kernel_rfl, ?_⟩) (fun _ => hS0) ?_
    rotate_left 1
    · (intro w hSw; (try dsimp only at hSw); go_simp; try with_reducible rfl)
    try simp only [Act.put, Array.toArray_toList, List.setIfInBounds_toArray, List.set_cons_zero, List.set_cons_succ]
    refine anyM_free (i := 6) (oi := { dst := some 73, op := _, type := _, pos := _, after := _, guard := _ }) (v := ?_) rfl (by kernel_rfl) (fun _ _ _ h => h) (Or.inl ⟨by kernel_rfl, ?_⟩) (fun _ => hS0) ?_
    rotate_left 1
    · (intro w hSw; (try dsimp only at hSw); go_simp; try with_reducible rfl)
    try simp only [Act.put, Array.toArray_toList, List.setIfInBounds_toArray, List.set_cons_zero, List.set_cons_succ]
    refine anyM_free (i := 7) (oi := { dst := some 74, op := _, type := _, pos := _, after := _, guard := _ }) (v := ?_) rfl (by kernel_rfl) (fun _ _ _ h => h) (Or.inl ⟨by kernel_rfl, ?_⟩) (fun _ => hS0) ?_
    rotate_left 1
    · (intro w hSw; (try dsimp only at hSw); go_simp; try with_reducible rfl)
    try simp only [Act.put, Array.toArray_toList, List.setIfInBounds_toArray, List.set_cons_zero, List.set_cons_succ]
    refine anyM_one (i := 3) (by kernel_rfl) rfl (fun K hK => ?_)
    go_simp
    refine Calls.mono (HBX.out _ _ _ HS.out.bel HHD.out) ?_
    rintro e wa ⟨Ab, cb, rfl, hcb, hkb, hbb⟩
    have HCB := Lib.hid hcb
    have HKA := Lib.hid hkb
    have HBB := Lib.hid hbb
    replace HS := Lib.hid (HS.out.call hbb)
    clear hcb hkb hbb
    have hS0 : (fun w' : World => w'.cell? ⟨g, 0, none⟩ = some (.slice I.A I.n I.c) ∧ w'.cell? ⟨g, 1, none⟩ = some (.slice I.Al I.nl I.cl)) wa := ⟨HS.out.mkb.cell 0, HS.out.mkb.cell 1⟩
    refine hK.out _ _ (fun _ => hS0) ?_
    clear hK K
    try simp only [Act.put, Array.toArray_toList, List.setIfInBounds_toArray, List.set_cons_zero, List.set_cons_succ]
    refine anyM_one (i := 4) (by kernel_rfl) rfl (fun K hK => ?_)
    go_simp
    refine Calls.mono (HCT.out _ _ _ _ HS.out.bel HCB.out HKA.out (fun b hq => And.right hq)) ?_
    rintro e we hgt
    obtain ⟨A9, m9, c9, he, hk9, hb9⟩ := GotT.made (w1 := wd) hgt (fun b hq => hq) HBB.out.size
    obtain rfl : e = .returned (.agg #[.int .i64 ck, .int .i64 cn, .int .i64 0, .slice none 0 0, .string ctx, .slice A9 m9 c9]) := he
    have HK9 := Lib.hid hk9
    have HB9 := Lib.hid (Nat.le_trans HBB.out.size hb9.size)
    replace HS := Lib.hid (HS.out.call hb9)
    clear hgt hk9 hb9
    have hS0 : (fun w' : World => w'.cell? ⟨g, 0, none⟩ = some (.slice I.A I.n I.c) ∧ w'.cell? ⟨g, 1, none⟩ = some (.slice I.Al I.nl I.cl)) we := ⟨HS.out.mkb.cell 0, HS.out.mkb.cell 1⟩
    refine hK.out _ _ (fun _ => hS0) ?_
    clear hK K
    try simp only [Act.put, Array.toArray_toList, List.setIfInBounds_toArray, List.set_cons_zero, List.set_cons_succ]
    refine anyM_two (i := 5) (j := 8) (by kernel_rfl) rfl rfl (fun K hK => ?_) (fun K hK => ?_)
    · skip
      go_simp
      replace HS := Lib.hid (HS.out.alloc (.cells #[.int .i64 ck, .int .i64 cn, .int .i64 0, .slice none 0 0, .string ctx, .slice A9 m9 c9] 75))
      have HK1 := Lib.hid (show KidsAt (we.alloc (.cells #[.int .i64 ck, .int .i64 cn, .int .i64 0, .slice none 0 0, .string ctx, .slice A9 m9 c9] 75)) (MadeQ wd (we.alloc (.cells #[.int .i64 ck, .int .i64 cn, .int .i64 0, .slice none 0 0, .string ctx, .slice A9 m9 c9] 75))) [TreeV.mk ck cn ctx cks] (some ⟨we.heap.size, 0, none⟩) 1 from kids_one1 (t := .mk ck cn ctx cks) (c := c9) HK9.out HB9.out)
      generalize World.alloc we _ = wl at HS HK1 ⊢
      generalize (we).heap.size = gs at HK1 ⊢
      have hS0 : (fun w' : World => w'.cell? ⟨g, 0, none⟩ = some (.slice I.A I.n I.c) ∧ w'.cell? ⟨g, 1, none⟩ = some (.slice I.Al I.nl I.cl)) wl := ⟨HS.out.mkb.cell 0, HS.out.mkb.cell 1⟩
      refine hK.out _ _ (fun _ => hS0) ?_
      clear hK K
      try simp only [Act.put, Array.toArray_toList, List.setIfInBounds_toArray, List.set_cons_zero, List.set_cons_succ]
      refine anyM_one (i := 8) (by kernel_rfl) rfl (fun K hK => ?_)
      have yc : World.cell? _ ⟨g + 1 + 1, 0, none⟩ = some (.int .i64 4) := HS.out.var.cell 0
      have yf : World.frozen? _ ⟨g + 1 + 1, 0, none⟩ = false := HS.out.var.free 0
      go_simp
      replace HS := Lib.hid (show BxM I w g _ #[.int .i64 5, .int .i64 (k : Nat), .int .i64 0, .slice none 0 0, .string ⟨#[]⟩, .slice none 0 0] _ from HS.out.put 0 (.int .i64 5))
      replace HK1 := Lib.hid (KidsAt.put HK1.out (by have := HGT.out; omega) 0 (.int .i64 5))
      clear yc yf
      generalize World.setCell _ _ _ = wk at HS HK1 ⊢
      have hS0 : (fun w' : World => w'.cell? ⟨g, 0, none⟩ = some (.slice I.A I.n I.c) ∧ w'.cell? ⟨g, 1, none⟩ = some (.slice I.Al I.nl I.cl)) wk := ⟨HS.out.mkb.cell 0, HS.out.mkb.cell 1⟩
      refine hK.out _ _ (fun _ => hS0) ?_
      clear hK K
      try simp only [Act.put, Array.toArray_toList, List.setIfInBounds_toArray, List.set_cons_zero, List.set_cons_succ]
      refine anyM_free (i := 9) (oi := { dst := some 75, op := _, type := _, pos := _, after := _, guard := _ }) (v := ?_) rfl (by kernel_rfl) (fun _ _ _ h => h) (Or.inl ⟨by kernel_rfl, ?_⟩) (fun _ => hS0) ?_
      rotate_left 1
      · (intro w hSw; (try dsimp only at hSw); go_simp; try with_reducible rfl)
      try simp only [Act.put, Array.toArray_toList, List.setIfInBounds_toArray, List.set_cons_zero, List.set_cons_succ]
      refine anyM_one (i := 10) (by kernel_rfl) rfl (fun K hK => ?_)
      have yc : World.cell? _ ⟨g + 1 + 1, 5, none⟩ = some (.slice none 0 0) := HS.out.var.cell 5
      have yf : World.frozen? _ ⟨g + 1 + 1, 5, none⟩ = false := HS.out.var.free 5
      go_simp
      replace HS := Lib.hid (show BxM I w g _ #[.int .i64 5, .int .i64 (k : Nat), .int .i64 0, .slice none 0 0, .string ⟨#[]⟩, .slice (some ⟨gs, 0, none⟩) 1 1] _ from HS.out.put 5 (.slice (some ⟨gs, 0, none⟩) 1 1))
      replace HK1 := Lib.hid (KidsAt.put HK1.out (by have := HGT.out; omega) 5 (.slice (some ⟨gs, 0, none⟩) 1 1))
      clear yc yf
      generalize World.setCell _ _ _ = wz at HS HK1 ⊢
      refine hK.out _ _ (fun h => late_no h (by kernel_rfl)) ?_
      clear hK K
      try simp only [Act.put, Array.toArray_toList, List.setIfInBounds_toArray, List.set_cons_zero, List.set_cons_succ]
      refine anyM_done (by kernel_rfl) ?_ _
      refine NoPanic.normal ?_
      clear hS0
      have t0 : wz.cell? ⟨g + 1 + 1, 0, none⟩ = some (.int .i64 5) := HS.out.var.cell 0
      have t1 : wz.cell? ⟨g + 1 + 1, 1, none⟩ = some (.int .i64 (k : Nat)) := HS.out.var.cell 1
      have t2 : wz.cell? ⟨g + 1 + 1, 2, none⟩ = some (.int .i64 0) := HS.out.var.cell 2
      have t3 : wz.cell? ⟨g + 1 + 1, 3, none⟩ = some (.slice none 0 0) := HS.out.var.cell 3
      have t4 : wz.cell? ⟨g + 1 + 1, 4, none⟩ = some (.string ⟨#[]⟩) := HS.out.var.cell 4
      have t5 : wz.cell? ⟨g + 1 + 1, 5, none⟩ = some (.slice (some ⟨gs, 0, none⟩) 1 1) := HS.out.var.cell 5
      go_wp2_with (refine wpList_store_mid rfl _ _ _ rfl (g + 1) 0 #[.int .i64 5, .int .i64 (k : Nat), .int .i64 0, .slice none 0 0, .string ⟨#[]⟩, .slice (some ⟨gs, 0, none⟩) 1 1] rfl rfl (HS.out.fin _ rfl).1 (by kernel_rfl) (by kernel_rfl) ?_; obtain ⟨w9, hw9, hr9, hz9⟩ := (HS.out.fin #[.int .i64 5, .int .i64 (k : Nat), .int .i64 0, .slice none 0 0, .string ⟨#[]⟩, .slice (some ⟨gs, 0, none⟩) 1 1] rfl).2; rw [hw9]; clear hw9; have HS9 := Lib.hid hr9; have HZ9 := Lib.hid hz9; clear hr9 hz9)
      exact bodyPost_ret (ret_tree Tryz.results65 _ _ (g + 1) _ rfl HS9.out.res rfl) rfl ⟨_, _, _, rfl, KidsAt.earlier (KidsAt.moved HK1.out (by have := HGT.out; omega) HZ9.out) (by have := HG.out; have := HGT.out; omega), HS9.out.bel⟩
    · skip
      have yc : World.cell? _ ⟨g + 1 + 1, 0, none⟩ = some (.int .i64 4) := HS.out.var.cell 0
      have yf : World.frozen? _ ⟨g + 1 + 1, 0, none⟩ = false := HS.out.var.free 0
      go_simp
      replace HS := Lib.hid (show BxM I w g _ #[.int .i64 5, .int .i64 (k : Nat), .int .i64 0, .slice none 0 0, .string ⟨#[]⟩, .slice none 0 0] _ from HS.out.put 0 (.int .i64 5))
      replace HK9 := Lib.hid (KidsAt.put HK9.out (by have := HGT.out; omega) 0 (.int .i64 5))
      clear yc yf
      have hsz9 := HB9.out
      have HB9' : Hid (wd.heap.size ≤ (World.setCell we ⟨g + 1 + 1, 0, none⟩ (.int .i64 5)).heap.size) := by first | (show _ ≤ _; simpa using hsz9)
      clear hsz9
      generalize World.setCell _ _ _ = wk at HS HK9 HB9' ⊢
      replace HB9 := HB9'
      clear HB9'
      have hS0 : (fun w' : World => w'.cell? ⟨g, 0, none⟩ = some (.slice I.A I.n I.c) ∧ w'.cell? ⟨g, 1, none⟩ = some (.slice I.Al I.nl I.cl)) wk := ⟨HS.out.mkb.cell 0, HS.out.mkb.cell 1⟩
      refine hK.out _ _ (fun _ => hS0) ?_
      clear hK K
      try simp only [Act.put, Array.toArray_toList, List.setIfInBounds_toArray, List.set_cons_zero, List.set_cons_succ]
      refine anyM_one (i := 5) (by kernel_rfl) rfl (fun K hK => ?_)
      go_simp
      replace HS := Lib.hid (HS.out.alloc (.cells #[.int .i64 ck, .int .i64 cn, .int .i64 0, .slice none 0 0, .string ctx, .slice A9 m9 c9] 75))
      have HK1 := Lib.hid (show KidsAt (wk.alloc (.cells #[.int .i64 ck, .int .i64 cn, .int .i64 0, .slice none 0 0, .string ctx, .slice A9 m9 c9] 75)) (MadeQ wd (wk.alloc (.cells #[.int .i64 ck, .int .i64 cn, .int .i64 0, .slice none 0 0, .string ctx, .slice A9 m9 c9] 75))) [TreeV.mk ck cn ctx cks] (some ⟨wk.heap.size, 0, none⟩) 1 from kids_one1 (t := .mk ck cn ctx cks) (c := c9) HK9.out HB9.out)
      generalize World.alloc wk _ = wl at HS HK1 ⊢
      generalize (wk).heap.size = gs at HK1 ⊢
      have hS0 : (fun w' : World => w'.cell? ⟨g, 0, none⟩ = some (.slice I.A I.n I.c) ∧ w'.cell? ⟨g, 1, none⟩ = some (.slice I.Al I.nl I.cl)) wl := ⟨HS.out.mkb.cell 0, HS.out.mkb.cell 1⟩
      refine hK.out _ _ (fun _ => hS0) ?_
      clear hK K
      try simp only [Act.put, Array.toArray_toList, List.setIfInBounds_toArray, List.set_cons_zero, List.set_cons_succ]
      refine anyM_free (i := 9) (oi := { dst := some 75, op := _, type := _, pos := _, after := _, guard := _ }) (v := ?_) rfl (by kernel_rfl) (fun _ _ _ h => h) (Or.inl ⟨by kernel_rfl, ?_⟩) (fun _ => hS0) ?_
      rotate_left 1
      · (intro w hSw; (try dsimp only at hSw); go_simp; try with_reducible rfl)
      try simp only [Act.put, Array.toArray_toList, List.setIfInBounds_toArray, List.set_cons_zero, List.set_cons_succ]
      refine anyM_one (i := 10) (by kernel_rfl) rfl (fun K hK => ?_)
      have yc : World.cell? _ ⟨g + 1 + 1, 5, none⟩ = some (.slice none 0 0) := HS.out.var.cell 5
      have yf : World.frozen? _ ⟨g + 1 + 1, 5, none⟩ = false := HS.out.var.free 5
      go_simp
      replace HS := Lib.hid (show BxM I w g _ #[.int .i64 5, .int .i64 (k : Nat), .int .i64 0, .slice none 0 0, .string ⟨#[]⟩, .slice (some ⟨gs, 0, none⟩) 1 1] _ from HS.out.put 5 (.slice (some ⟨gs, 0, none⟩) 1 1))
      replace HK1 := Lib.hid (KidsAt.put HK1.out (by have := HGT.out; omega) 5 (.slice (some ⟨gs, 0, none⟩) 1 1))
      clear yc yf
      generalize World.setCell _ _ _ = wz at HS HK1 ⊢
      refine hK.out _ _ (fun h => late_no h (by kernel_rfl)) ?_
      clear hK K
      try simp only [Act.put, Array.toArray_toList, List.setIfInBounds_toArray, List.set_cons_zero, List.set_cons_succ]
      refine anyM_done (by kernel_rfl) ?_ _
      refine NoPanic.normal ?_
      clear hS0
      have t0 : wz.cell? ⟨g + 1 + 1, 0, none⟩ = some (.int .i64 5) := HS.out.var.cell 0
      have t1 : wz.cell? ⟨g + 1 + 1, 1, none⟩ = some (.int .i64 (k : Nat)) := HS.out.var.cell 1
      have t2 : wz.cell? ⟨g + 1 + 1, 2, none⟩ = some (.int .i64 0) := HS.out.var.cell 2
      have t3 : wz.cell? ⟨g + 1 + 1, 3, none⟩ = some (.slice none 0 0) := HS.out.var.cell 3
      have t4 : wz.cell? ⟨g + 1 + 1, 4, none⟩ = some (.string ⟨#[]⟩) := HS.out.var.cell 4
      have t5 : wz.cell? ⟨g + 1 + 1, 5, none⟩ = some (.slice (some ⟨gs, 0, none⟩) 1 1) := HS.out.var.cell 5
      go_wp2_with (refine wpList_store_mid rfl _ _ _ rfl (g + 1) 0 #[.int .i64 5, .int .i64 (k : Nat), .int .i64 0, .slice none 0 0, .string ⟨#[]⟩, .slice (some ⟨gs, 0, none⟩) 1 1] rfl rfl (HS.out.fin _ rfl).1 (by kernel_rfl) (by kernel_rfl) ?_; obtain ⟨w9, hw9, hr9, hz9⟩ := (HS.out.fin #[.int .i64 5, .int .i64 (k : Nat), .int .i64 0, .slice none 0 0, .string ⟨#[]⟩, .slice (some ⟨gs, 0, none⟩) 1 1] rfl).2; rw [hw9]; clear hw9; have HS9 := Lib.hid hr9; have HZ9 := Lib.hid hz9; clear hr9 hz9)
      exact bodyPost_ret (ret_tree Tryz.results65 _ _ (g + 1) _ rfl HS9.out.res rfl) rfl ⟨_, _, _, rfl, KidsAt.earlier (KidsAt.moved HK1.out (by have := HGT.out; omega) HZ9.out) (by have := HG.out; have := HGT.out; omega), HS9.out.bel⟩
  · skip
    go_upto_region 18 with (first | (go_at_call 66; refine (HIS.out _ HS.out.bel).mono ?_; rintro e wi ⟨rfl, hbi⟩; replace HS := Lib.hid (HS.out.call hbi); replace HV := Lib.hid (HV.out.below hbi HV.out.lt); have u1 : wi.cell? ⟨gv, 1, none⟩ = some (.string nm) := HV.out.cell 1; have a0 : wi.cell? ⟨g, 0, none⟩ = some (.slice I.A I.n I.c) := HS.out.mkb.cell 0; have a1 : wi.cell? ⟨g, 1, none⟩ = some (.slice I.Al I.nl I.cl) := HS.out.mkb.cell 1; have y4 : wi.cell? ⟨g + 1 + 1, 4, none⟩ = some (.string ⟨#[]⟩) := HS.out.var.cell 4; have f4 : wi.frozen? ⟨g + 1 + 1, 4, none⟩ = false := HS.out.var.free 4; clear hbi) | (go_at_call 31; refine (HCO.out _ HS.out.bel).mono ?_; rintro e wc ⟨A', c', rfl, hcp, hhd, hbc⟩; have HCP := Lib.hid hcp; have HHD := Lib.hid hhd; replace HS := Lib.hid (HS.out.call hbc); have b0 : wc.cell? ⟨g, 0, none⟩ = some (.slice I.A I.n I.c) := HS.out.mkb.cell 0; have b1 : wc.cell? ⟨g, 1, none⟩ = some (.slice I.Al I.nl I.cl) := HS.out.mkb.cell 1; clear hcp hhd hbc))
    clear u1 a0 a1 b0 b1 y4 f4 v0 m0 m1
    replace HS := Lib.hid HS.out.drew
    have HGT : Hid (g + 1 + 1 < (World.drew wc).heap.size) := HS.out.gt
    have HHD : Hid (Holds (World.drew wc) (World.drew wc).heap.size A' (nums CL)) := HHD.out
    have hS0 : (fun w' : World => w'.cell? ⟨g, 0, none⟩ = some (.slice I.A I.n I.c) ∧ w'.cell? ⟨g, 1, none⟩ = some (.slice I.Al I.nl I.cl)) (World.drew wc) := ⟨HS.out.mkb.cell 0, HS.out.mkb.cell 1⟩
    refine wp_region_noPanic ?_
    refine region_M (S := fun w' => w'.cell? ⟨g, 0, none⟩ = some (.slice I.A I.n I.c) ∧ w'.cell? ⟨g, 1, none⟩ = some (.slice I.Al I.nl I.cl)) (T := [10]) (by kernel_rfl) ?_
    generalize World.drew wc = wd at HS HGT HHD hS0 ⊢
    refine anyM_take (i := 0) (oi := { dst := some 67, op := _, type := _, pos := _, after := _, guard := _ }) (v := ?_) rfl (by kernel_rfl) (fun _ _ _ h => h) (Or.inl ⟨by kernel_rfl, ?_⟩) hS0 ?_
    rotate_left 1
    · (intro w hSw; (try dsimp only at hSw); go_simp; try with_reducible rfl)
    try simp only [Act.put, Array.toArray_toList, List.setIfInBounds_toArray, List.set_cons_zero, List.set_cons_succ]
    refine anyM_take (i := 1) (oi := { dst := some 68, op := _, type := _, pos := _, after := _, guard := _ }) (v := ?_) rfl (by kernel_rfl) (fun _ _ _ h => h) (Or.inl ⟨by kernel_rfl, ?_⟩) hS0 ?_
    rotate_left 1
    · (intro w hSw; (try dsimp only at hSw); go_simp; try with_reducible rfl)
    try simp only [Act.put, Array.toArray_toList, List.setIfInBounds_toArray, List.set_cons_zero, List.set_cons_succ]
    refine anyM_free (i := 2) (oi := { dst := some 69, op := _, type := _, pos := _, after := _, guard := _ }) (v := ?_) rfl (by kernel_rfl) (fun _ _ _ h => h) (Or.inl ⟨by kernel_rfl, ?_⟩) (fun _ => hS0) ?_
    rotate_left 1
    · (intro w hSw; (try dsimp only at hSw); go_simp; try with_reducible rfl)
    try simp only [Act.put, Array.toArray_toList, List.setIfInBounds_toArray, List.set_cons_zero, List.set_cons_succ]
    refine anyM_free (i := 6) (oi := { dst := some 73, op := _, type := _, pos := _, after := _, guard := _ }) (v := ?_) rfl (by kernel_rfl) (fun _ _ _ h => h) (Or.inl ⟨by kernel_rfl, ?_⟩) (fun _ => hS0) ?_
    rotate_left 1
    · (intro w hSw; (try dsimp only at hSw); go_simp; try with_reducible rfl)
    try simp only [Act.put, Array.toArray_toList, List.setIfInBounds_toArray, List.set_cons_zero, List.set_cons_succ]
    refine anyM_free (i := 7) (oi := { dst := some 74, op := _, type := _, pos := _, after := _, guard := _ }) (v := ?_) rfl (by kernel_rfl) (fun _ _ _ h => h) (Or.inl ⟨by kernel_rfl, ?_⟩) (fun _ => hS0) ?_
    rotate_left 1
    · (intro w hSw; (try dsimp only at hSw); go_simp; try with_reducible rfl)
    try simp only [Act.put, Array.toArray_toList, List.setIfInBounds_toArray, List.set_cons_zero, List.set_cons_succ]
    refine anyM_one (i := 3) (by kernel_rfl) rfl (fun K hK => ?_)
    go_simp
    refine Calls.mono (HBX.out _ _ _ HS.out.bel HHD.out) ?_
    rintro e wa ⟨Ab, cb, rfl, hcb, hkb, hbb⟩
    have HCB := Lib.hid hcb
    have HKA := Lib.hid hkb
    have HBB := Lib.hid hbb
    replace HS := Lib.hid (HS.out.call hbb)
    clear hcb hkb hbb
    have hS0 : (fun w' : World => w'.cell? ⟨g, 0, none⟩ = some (.slice I.A I.n I.c) ∧ w'.cell? ⟨g, 1, none⟩ = some (.slice I.Al I.nl I.cl)) wa := ⟨HS.out.mkb.cell 0, HS.out.mkb.cell 1⟩
    refine hK.out _ _ (fun _ => hS0) ?_
    clear hK K
    try simp only [Act.put, Array.toArray_toList, List.setIfInBounds_toArray, List.set_cons_zero, List.set_cons_succ]
    refine anyM_one (i := 4) (by kernel_rfl) rfl (fun K hK => ?_)
    go_simp
    refine Calls.mono (HCT.out _ _ _ _ HS.out.bel HCB.out HKA.out (fun b hq => And.right hq)) ?_
    rintro e we hgt
    obtain ⟨A9, m9, c9, he, hk9, hb9⟩ := GotT.made (w1 := wd) hgt (fun b hq => hq) HBB.out.size
    obtain rfl : e = .returned (.agg #[.int .i64 ck, .int .i64 cn, .int .i64 0, .slice none 0 0, .string ctx, .slice A9 m9 c9]) := he
    have HK9 := Lib.hid hk9
    have HB9 := Lib.hid (Nat.le_trans HBB.out.size hb9.size)
    replace HS := Lib.hid (HS.out.call hb9)
    clear hgt hk9 hb9
    have hS0 : (fun w' : World => w'.cell? ⟨g, 0, none⟩ = some (.slice I.A I.n I.c) ∧ w'.cell? ⟨g, 1, none⟩ = some (.slice I.Al I.nl I.cl)) we := ⟨HS.out.mkb.cell 0, HS.out.mkb.cell 1⟩
    refine hK.out _ _ (fun _ => hS0) ?_
    clear hK K
    try simp only [Act.put, Array.toArray_toList, List.setIfInBounds_toArray, List.set_cons_zero, List.set_cons_succ]
    refine anyM_two (i := 5) (j := 8) (by kernel_rfl) rfl rfl (fun K hK => ?_) (fun K hK => ?_)
    · skip
      go_simp
      replace HS := Lib.hid (HS.out.alloc (.cells #[.int .i64 ck, .int .i64 cn, .int .i64 0, .slice none 0 0, .string ctx, .slice A9 m9 c9] 75))
      have HK1 := Lib.hid (show KidsAt (we.alloc (.cells #[.int .i64 ck, .int .i64 cn, .int .i64 0, .slice none 0 0, .string ctx, .slice A9 m9 c9] 75)) (MadeQ wd (we.alloc (.cells #[.int .i64 ck, .int .i64 cn, .int .i64 0, .slice none 0 0, .string ctx, .slice A9 m9 c9] 75))) [TreeV.mk ck cn ctx cks] (some ⟨we.heap.size, 0, none⟩) 1 from kids_one1 (t := .mk ck cn ctx cks) (c := c9) HK9.out HB9.out)
      generalize World.alloc we _ = wl at HS HK1 ⊢
      generalize (we).heap.size = gs at HK1 ⊢
      have hS0 : (fun w' : World => w'.cell? ⟨g, 0, none⟩ = some (.slice I.A I.n I.c) ∧ w'.cell? ⟨g, 1, none⟩ = some (.slice I.Al I.nl I.cl)) wl := ⟨HS.out.mkb.cell 0, HS.out.mkb.cell 1⟩
      refine hK.out _ _ (fun _ => hS0) ?_
      clear hK K
      try simp only [Act.put, Array.toArray_toList, List.setIfInBounds_toArray, List.set_cons_zero, List.set_cons_succ]
      refine anyM_one (i := 8) (by kernel_rfl) rfl (fun K hK => ?_)
      have yc : World.cell? _ ⟨g + 1 + 1, 0, none⟩ = some (.int .i64 4) := HS.out.var.cell 0
      have yf : World.frozen? _ ⟨g + 1 + 1, 0, none⟩ = false := HS.out.var.free 0
      go_simp
      replace HS := Lib.hid (show BxM I w g _ #[.int .i64 5, .int .i64 (k : Nat), .int .i64 0, .slice none 0 0, .string ⟨#[]⟩, .slice none 0 0] _ from HS.out.put 0 (.int .i64 5))
      replace HK1 := Lib.hid (KidsAt.put HK1.out (by have := HGT.out; omega) 0 (.int .i64 5))
      clear yc yf
      generalize World.setCell _ _ _ = wk at HS HK1 ⊢
      have hS0 : (fun w' : World => w'.cell? ⟨g, 0, none⟩ = some (.slice I.A I.n I.c) ∧ w'.cell? ⟨g, 1, none⟩ = some (.slice I.Al I.nl I.cl)) wk := ⟨HS.out.mkb.cell 0, HS.out.mkb.cell 1⟩
      refine hK.out _ _ (fun _ => hS0) ?_
      clear hK K
      try simp only [Act.put, Array.toArray_toList, List.setIfInBounds_toArray, List.set_cons_zero, List.set_cons_succ]
      refine anyM_free (i := 9) (oi := { dst := some 75, op := _, type := _, pos := _, after := _, guard := _ }) (v := ?_) rfl (by kernel_rfl) (fun _ _ _ h => h) (Or.inl ⟨by kernel_rfl, ?_⟩) (fun _ => hS0) ?_
      rotate_left 1
      · (intro w hSw; (try dsimp only at hSw); go_simp; try with_reducible rfl)
      try simp only [Act.put, Array.toArray_toList, List.setIfInBounds_toArray, List.set_cons_zero, List.set_cons_succ]
      refine anyM_one (i := 10) (by kernel_rfl) rfl (fun K hK => ?_)
      have yc : World.cell? _ ⟨g + 1 + 1, 5, none⟩ = some (.slice none 0 0) := HS.out.var.cell 5
      have yf : World.frozen? _ ⟨g + 1 + 1, 5, none⟩ = false := HS.out.var.free 5
      go_simp
      replace HS := Lib.hid (show BxM I w g _ #[.int .i64 5, .int .i64 (k : Nat), .int .i64 0, .slice none 0 0, .string ⟨#[]⟩, .slice (some ⟨gs, 0, none⟩) 1 1] _ from HS.out.put 5 (.slice (some ⟨gs, 0, none⟩) 1 1))
      replace HK1 := Lib.hid (KidsAt.put HK1.out (by have := HGT.out; omega) 5 (.slice (some ⟨gs, 0, none⟩) 1 1))
      clear yc yf
      generalize World.setCell _ _ _ = wz at HS HK1 ⊢
      refine hK.out _ _ (fun h => late_no h (by kernel_rfl)) ?_
      clear hK K
      try simp only [Act.put, Array.toArray_toList, List.setIfInBounds_toArray, List.set_cons_zero, List.set_cons_succ]
      refine anyM_done (by kernel_rfl) ?_ _
      refine NoPanic.normal ?_
      clear hS0
      have t0 : wz.cell? ⟨g + 1 + 1, 0, none⟩ = some (.int .i64 5) := HS.out.var.cell 0
      have t1 : wz.cell? ⟨g + 1 + 1, 1, none⟩ = some (.int .i64 (k : Nat)) := HS.out.var.cell 1
      have t2 : wz.cell? ⟨g + 1 + 1, 2, none⟩ = some (.int .i64 0) := HS.out.var.cell 2
      have t3 : wz.cell? ⟨g + 1 + 1, 3, none⟩ = some (.slice none 0 0) := HS.out.var.cell 3
      have t4 : wz.cell? ⟨g + 1 + 1, 4, none⟩ = some (.string ⟨#[]⟩) := HS.out.var.cell 4
      have t5 : wz.cell? ⟨g + 1 + 1, 5, none⟩ = some (.slice (some ⟨gs, 0, none⟩) 1 1) := HS.out.var.cell 5
      go_wp2_with (refine wpList_store_mid rfl _ _ _ rfl (g + 1) 0 #[.int .i64 5, .int .i64 (k : Nat), .int .i64 0, .slice none 0 0, .string ⟨#[]⟩, .slice (some ⟨gs, 0, none⟩) 1 1] rfl rfl (HS.out.fin _ rfl).1 (by kernel_rfl) (by kernel_rfl) ?_; obtain ⟨w9, hw9, hr9, hz9⟩ := (HS.out.fin #[.int .i64 5, .int .i64 (k : Nat), .int .i64 0, .slice none 0 0, .string ⟨#[]⟩, .slice (some ⟨gs, 0, none⟩) 1 1] rfl).2; rw [hw9]; clear hw9; have HS9 := Lib.hid hr9; have HZ9 := Lib.hid hz9; clear hr9 hz9)
      exact bodyPost_ret (ret_tree Tryz.results65 _ _ (g + 1) _ rfl HS9.out.res rfl) rfl ⟨_, _, _, rfl, KidsAt.earlier (KidsAt.moved HK1.out (by have := HGT.out; omega) HZ9.out) (by have := HG.out; have := HGT.out; omega), HS9.out.bel⟩
    · skip
      have yc : World.cell? _ ⟨g + 1 + 1, 0, none⟩ = some (.int .i64 4) := HS.out.var.cell 0
      have yf : World.frozen? _ ⟨g + 1 + 1, 0, none⟩ = false := HS.out.var.free 0
      go_simp
      replace HS := Lib.hid (show BxM I w g _ #[.int .i64 5, .int .i64 (k : Nat), .int .i64 0, .slice none 0 0, .string ⟨#[]⟩, .slice none 0 0] _ from HS.out.put 0 (.int .i64 5))
      replace HK9 := Lib.hid (KidsAt.put HK9.out (by have := HGT.out; omega) 0 (.int .i64 5))
      clear yc yf
      have hsz9 := HB9.out
      have HB9' : Hid (wd.heap.size ≤ (World.setCell we ⟨g + 1 + 1, 0, none⟩ (.int .i64 5)).heap.size) := by first | (show _ ≤ _; simpa using hsz9)
      clear hsz9
      generalize World.setCell _ _ _ = wk at HS HK9 HB9' ⊢
      replace HB9 := HB9'
      clear HB9'
      have hS0 : (fun w' : World => w'.cell? ⟨g, 0, none⟩ = some (.slice I.A I.n I.c) ∧ w'.cell? ⟨g, 1, none⟩ = some (.slice I.Al I.nl I.cl)) wk := ⟨HS.out.mkb.cell 0, HS.out.mkb.cell 1⟩
      refine hK.out _ _ (fun _ => hS0) ?_
      clear hK K
      try simp only [Act.put, Array.toArray_toList, List.setIfInBounds_toArray, List.set_cons_zero, List.set_cons_succ]
      refine anyM_one (i := 5) (by kernel_rfl) rfl (fun K hK => ?_)
      go_simp
      replace HS := Lib.hid (HS.out.alloc (.cells #[.int .i64 ck, .int .i64 cn, .int .i64 0, .slice none 0 0, .string ctx, .slice A9 m9 c9] 75))
      have HK1 := Lib.hid (show KidsAt (wk.alloc (.cells #[.int .i64 ck, .int .i64 cn, .int .i64 0, .slice none 0 0, .string ctx, .slice A9 m9 c9] 75)) (MadeQ wd (wk.alloc (.cells #[.int .i64 ck, .int .i64 cn, .int .i64 0, .slice none 0 0, .string ctx, .slice A9 m9 c9] 75))) [TreeV.mk ck cn ctx cks] (some ⟨wk.heap.size, 0, none⟩) 1 from kids_one1 (t := .mk ck cn ctx cks) (c := c9) HK9.out HB9.out)
      generalize World.alloc wk _ = wl at HS HK1 ⊢
      generalize (wk).heap.size = gs at HK1 ⊢
      have hS0 : (fun w' : World => w'.cell? ⟨g, 0, none⟩ = some (.slice I.A I.n I.c) ∧ w'.cell? ⟨g, 1, none⟩ = some (.slice I.Al I.nl I.cl)) wl := ⟨HS.out.mkb.cell 0, HS.out.mkb.cell 1⟩
      refine hK.out _ _ (fun _ => hS0) ?_
      clear hK K
      try simp only [Act.put, Array.toArray_toList, List.setIfInBounds_toArray, List.set_cons_zero, List.set_cons_succ]
      refine anyM_free (i := 9) (oi := { dst := some 75, op := _, type := _, pos := _, after := _, guard := _ }) (v := ?_) rfl (by kernel_rfl) (fun _ _ _ h => h) (Or.inl ⟨by kernel_rfl, ?_⟩) (fun _ => hS0) ?_
      rotate_left 1
      · (intro w hSw; (try dsimp only at hSw); go_simp; try with_reducible rfl)
      try simp only [Act.put, Array.toArray_toList, List.setIfInBounds_toArray, List.set_cons_zero, List.set_cons_succ]
      refine anyM_one (i := 10) (by kernel_rfl) rfl (fun K hK => ?_)
      have yc : World.cell? _ ⟨g + 1 + 1, 5, none⟩ = some (.slice none 0 0) := HS.out.var.cell 5
      have yf : World.frozen? _ ⟨g + 1 + 1, 5, none⟩ = false := HS.out.var.free 5
      go_simp
      replace HS := Lib.hid (show BxM I w g _ #[.int .i64 5, .int .i64 (k : Nat), .int .i64 0, .slice none 0 0, .string ⟨#[]⟩, .slice (some ⟨gs, 0, none⟩) 1 1] _ from HS.out.put 5 (.slice (some ⟨gs, 0, none⟩) 1 1))
      replace HK1 := Lib.hid (KidsAt.put HK1.out (by have := HGT.out; omega) 5 (.slice (some ⟨gs, 0, none⟩) 1 1))
      clear yc yf
      generalize World.setCell _ _ _ = wz at HS HK1 ⊢
      refine hK.out _ _ (fun h => late_no h (by kernel_rfl)) ?_
      clear hK K
      try simp only [Act.put, Array.toArray_toList, List.setIfInBounds_toArray, List.set_cons_zero, List.set_cons_succ]
      refine anyM_done (by kernel_rfl) ?_ _
      refine NoPanic.normal ?_
      clear hS0
      have t0 : wz.cell? ⟨g + 1 + 1, 0, none⟩ = some (.int .i64 5) := HS.out.var.cell 0
      have t1 : wz.cell? ⟨g + 1 + 1, 1, none⟩ = some (.int .i64 (k : Nat)) := HS.out.var.cell 1
      have t2 : wz.cell? ⟨g + 1 + 1, 2, none⟩ = some (.int .i64 0) := HS.out.var.cell 2
      have t3 : wz.cell? ⟨g + 1 + 1, 3, none⟩ = some (.slice none 0 0) := HS.out.var.cell 3
      have t4 : wz.cell? ⟨g + 1 + 1, 4, none⟩ = some (.string ⟨#[]⟩) := HS.out.var.cell 4
      have t5 : wz.cell? ⟨g + 1 + 1, 5, none⟩ = some (.slice (some ⟨gs, 0, none⟩) 1 1) := HS.out.var.cell 5
      go_wp2_with (refine wpList_store_mid rfl _ _ _ rfl (g + 1) 0 #[.int .i64 5, .int .i64 (k : Nat), .int .i64 0, .slice none 0 0, .string ⟨#[]⟩, .slice (some ⟨gs, 0, none⟩) 1 1] rfl rfl (HS.out.fin _ rfl).1 (by kernel_rfl) (by kernel_rfl) ?_; obtain ⟨w9, hw9, hr9, hz9⟩ := (HS.out.fin #[.int .i64 5, .int .i64 (k : Nat), .int .i64 0, .slice none 0 0, .string ⟨#[]⟩, .slice (some ⟨gs, 0, none⟩) 1 1] rfl).2; rw [hw9]; clear hw9; have HS9 := Lib.hid hr9; have HZ9 := Lib.hid hz9; clear hr9 hz9)
      exact bodyPost_ret (ret_tree Tryz.results65 _ _ (g + 1) _ rfl HS9.out.res rfl) rfl ⟨_, _, _, rfl, KidsAt.earlier (KidsAt.moved HK1.out (by have := HGT.out; omega) HZ9.out) (by have := HG.out; have := HGT.out; omega), HS9.out.bel⟩
theorem KidsAt.both {w1 wa w : World} {ts : List TreeV} {A : Option Addr} {n : Nat} (h1 : w1.heap.size ≤ wa.heap.size) (h2 : wa.heap.size ≤ w.heap.size) (h : KidsAt w (fun b => MadeQ w1 wa b ∨ MadeQ wa w b) ts A n) : KidsAt w (MadeQ w1 w) ts A n :=
  h.mono fun b hq => ⟨hq.elim (fun h => ⟨h.1, Nat.lt_of_lt_of_le h.2 h2⟩) (fun h => ⟨Nat.le_trans h1 h.1, h.2⟩), rfl⟩
set_option maxRecDepth 100000 in
set_option maxHeartbeats 8000000 in
theorem pboxFlex_calls (I : BxV) (hc : checkE I.ns = 0) (r k : Nat) (IH : DeepP I hc r) (w : World) (h : I.ok w w.heap.size) (hk : k < I.n) (hrk : rankN I.ns k ≤ r) (h3 : ¬ (nd I.ns k).kind = 3) (hbr : ¬ ((nd I.ns k).name = brS ∧ isS (I.sty k) = 1)) (his : isS (I.sty k) = 4) :
    Calls Tryz.prog 65 #[mkA I, .int .i64 (k : Nat)] w (MadeT w (.mk 6 k noS ((docB I (docOk hc)).rowT (docB I (docOk hc)).flexAlone (((docB I (docOk hc)).content k).map (docB I (docOk hc)).box)))) := by
  have hkb : k ≤ 200 := by have := h.n0; omega
  obtain ⟨i1, i2, i3⟩ := IH.content h.hn hrk
  have hcl := content_len I hc k
  obtain ⟨b, off, hA, hnc⟩ := node_six h hk
  have HNC := Lib.hid (fun w' (hb : Below w.heap.size w w') => hnc w' _ (h.below hb (Nat.le_refl _)))
  have HS := Lib.hid (bxM_new I w #[.int .i64 4, .int .i64 (k : Nat), .int .i64 0, .slice none 0 0, .string ⟨#[]⟩, .slice none 0 0] rfl)
  have HIS := Lib.hid (fun w' (hb : Below w.heap.size w w') => is_calls I k w' ((h.below hb (Nat.le_refl _)).more hb.size) hk)
  have HCO := Lib.hid (fun w' (hb : Below w.heap.size w w') => content_says I hc k w' ((h.below hb (Nat.le_refl _)).more hb.size) hk)
  unfold ContSays at HCO
  have hnc0 : nodeC (nd I.ns k) = #[.int .i64 (nd I.ns k).kind, .string (nd I.ns k).name, .slice (nd I.ns k).attrsA (nd I.ns k).attrs.length (nd I.ns k).acap, .string (nd I.ns k).text, .int .i64 (nd I.ns k).parent, .slice (nd I.ns k).kidsA (nd I.ns k).kids.length (nd I.ns k).kcap] := rfl
  rw [hnc0] at HNC
  have pb : ((nd I.ns k).name.toList == [98, 114]) = decide ((nd I.ns k).name = brS) := by rw [← eBR, str_eqD]
  generalize decide ((nd I.ns k).name = brS) = isb at pb
  rw [his] at HIS
  have HBX := Lib.hid (fun (A' : Option Addr) (c' : Nat) w' (hb : Below w.heap.size w w') (hH : Holds w' w'.heap.size A' (nums ((docB I (docOk hc)).content k))) => boxesB_calls (docB I (docOk hc)) I ((docB I (docOk hc)).content k) A' ((docB I (docOk hc)).content k).length c' w' ((h.below hb (Nat.le_refl _)).more hb.size) rfl hH hcl i3)
  have HRW := Lib.hid (fun (g : Nat) (A : Option Addr) (c : Nat) (Q : Nat → Prop) w' (hb : Below w.heap.size w w') (hM : MkB I g w') (hcap : ((docB I (docOk hc)).content k).length ≤ c) (hk : KidsAt w' Q (((docB I (docOk hc)).content k).map (docB I (docOk hc)).box) A ((docB I (docOk hc)).content k).length) (hq : ∀ b, Q b → b < w'.heap.size) => rowM_calls I (docOk hc) 111 g (docB I (docOk hc)).flexAlone (.inr rfl) (((docB I (docOk hc)).content k).map (docB I (docOk hc)).box) A ((docB I (docOk hc)).content k).length c Q w' (by omega) hcap ((h.below hb (Nat.le_refl _)).more hb.size) hk hq (boxes_ok I (docOk hc) h.hn i1) (says_box2 I (docOk hc) g (((docB I (docOk hc)).content k).map (docB I (docOk hc)).box) w' ((h.below hb (Nat.le_refl _)).more hb.size) hM (boxes_ok I (docOk hc) h.hn i1)))
  clear hbr his
  generalize (docB I (docOk hc)).rowT (docB I (docOk hc)).flexAlone (((docB I (docOk hc)).content k).map (docB I (docOk hc)).box) = RT at HRW ⊢
  generalize ((docB I (docOk hc)).content k).map (docB I (docOk hc)).box = TS at HBX HRW
  generalize (docB I (docOk hc)).content k = CL at HCO HBX HRW
  generalize (nd I.ns k).kind = nk at HNC h3
  generalize (nd I.ns k).name = nm at HNC pb
  generalize (nd I.ns k).attrsA = aA at HNC
  generalize (nd I.ns k).attrs.length = an at HNC
  generalize (nd I.ns k).acap = ac at HNC
  generalize (nd I.ns k).text = tx at HNC 
  generalize (nd I.ns k).parent = pa at HNC
  generalize (nd I.ns k).kidsA = kA at HNC
  generalize (nd I.ns k).kids.length = kn at HNC
  generalize (nd I.ns k).kcap = kc at HNC
  have HA := Lib.hid hA
  clear h hrk IH i1 i2 i3 hcl
  clear hnc0 hnc hA
  unfold mkA at HIS HCO HBX HRW ⊢
  go_enter Tryz.func65, Tryz.ntmps65
  go_upto_region 2 with fail
  generalize World.alloc (World.alloc (World.alloc w _) _) _ = w1 at HS ⊢
  generalize hg : w.heap.size = g at HS ⊢
  have HG := Lib.hid hg
  clear hg
  have m0 : w1.cell? ⟨g, 0, none⟩ = some (.slice (some ⟨b, off, none⟩) I.n I.c) := by rw [← HA.out]; exact HS.out.mkb.cell 0
  have n0 : w1.cell? ⟨b, off + k * 6, none⟩ = some (.int .i64 nk) := HNC.out w1 HS.out.bel 0 (by omega)
  have n1 : w1.cell? ⟨b, off + k * 6 + 1, none⟩ = some (.string nm) := HNC.out w1 HS.out.bel 1 (by omega)
  have n2 : w1.cell? ⟨b, off + k * 6 + 2, none⟩ = some (.slice aA an ac) := HNC.out w1 HS.out.bel 2 (by omega)
  have n3 : w1.cell? ⟨b, off + k * 6 + 3, none⟩ = some (.string tx) := HNC.out w1 HS.out.bel 3 (by omega)
  have n4 : w1.cell? ⟨b, off + k * 6 + 4, none⟩ = some (.int .i64 pa) := HNC.out w1 HS.out.bel 4 (by omega)
  have n5 : w1.cell? ⟨b, off + k * 6 + 5, none⟩ = some (.slice kA kn kc) := HNC.out w1 HS.out.bel 5 (by omega)
  have HV := Lib.hid (Blk.new w1 117 #[.int .i64 nk, .string nm, .slice aA an ac, .string tx, .int .i64 pa, .slice kA kn kc])
  replace HS := Lib.hid (HS.out.alloc (.cells #[.int .i64 nk, .string nm, .slice aA an ac, .string tx, .int .i64 pa, .slice kA kn kc] 117))
  go_upto_region 3 with fail
  generalize World.alloc w1 _ = w2 at HS HV ⊢
  generalize w1.heap.size = gv at HV ⊢
  clear m0 n0 n1 n2 n3 n4 n5 HNC
  have v0 : w2.cell? ⟨gv, 0, none⟩ = some (.int .i64 nk) := HV.out.cell 0
  have m0 : w2.cell? ⟨g, 0, none⟩ = some (.slice I.A I.n I.c) := HS.out.mkb.cell 0
  have m1 : w2.cell? ⟨g, 1, none⟩ = some (.slice I.Al I.nl I.cl) := HS.out.mkb.cell 1
  have p3 : (nk == 3) = false := by simp [h3]
  clear h3
  cases isb
  · skip
    go_upto_region 21 with (first | (go_at_call 66; refine (HIS.out _ HS.out.bel).mono ?_; rintro e wi ⟨rfl, hbi⟩; replace HS := Lib.hid (HS.out.call hbi); replace HV := Lib.hid (HV.out.below hbi HV.out.lt); have u1 : wi.cell? ⟨gv, 1, none⟩ = some (.string nm) := HV.out.cell 1; have a0 : wi.cell? ⟨g, 0, none⟩ = some (.slice I.A I.n I.c) := HS.out.mkb.cell 0; have a1 : wi.cell? ⟨g, 1, none⟩ = some (.slice I.Al I.nl I.cl) := HS.out.mkb.cell 1; have y4 : wi.cell? ⟨g + 1 + 1, 4, none⟩ = some (.string ⟨#[]⟩) := HS.out.var.cell 4; have f4 : wi.frozen? ⟨g + 1 + 1, 4, none⟩ = false := HS.out.var.free 4; clear hbi) | (go_at_call 31; refine (HCO.out _ HS.out.bel).mono ?_; rintro e wc ⟨A', c', rfl, hcp, hhd, hbc⟩; have HCP := Lib.hid hcp; have HHD := Lib.hid hhd; replace HS := Lib.hid (HS.out.call hbc); have b0 : wc.cell? ⟨g, 0, none⟩ = some (.slice I.A I.n I.c) := HS.out.mkb.cell 0; have b1 : wc.cell? ⟨g, 1, none⟩ = some (.slice I.Al I.nl I.cl) := HS.out.mkb.cell 1; clear hcp hhd hbc))
    clear u1 a0 a1 b0 b1 y4 f4 v0 m0 m1
    replace HS := Lib.hid HS.out.drew
    have HGT : Hid (g + 1 + 1 < (World.drew wc).heap.size) := HS.out.gt
    have HHD : Hid (Holds (World.drew wc) (World.drew wc).heap.size A' (nums CL)) := HHD.out
    have hS0 : (fun w' : World => w'.cell? ⟨g, 0, none⟩ = some (.slice I.A I.n I.c) ∧ w'.cell? ⟨g, 1, none⟩ = some (.slice I.Al I.nl I.cl)) (World.drew wc) := ⟨HS.out.mkb.cell 0, HS.out.mkb.cell 1⟩
    refine wp_region_noPanic ?_
    refine region_M (S := fun w' => w'.cell? ⟨g, 0, none⟩ = some (.slice I.A I.n I.c) ∧ w'.cell? ⟨g, 1, none⟩ = some (.slice I.Al I.nl I.cl)) (T := [10]) (by kernel_rfl) ?_
    generalize World.drew wc = wd at HS HGT HHD hS0 ⊢
    refine anyM_take (i := 0) (oi := { dst := some 79, op := _, type := _, pos := _, after := _, guard := _ }) (v := ?_) rfl (by kernel_rfl) (fun _ _ _ h => h) (Or.inl ⟨by kernel_rfl, ?_⟩) hS0 ?_
    rotate_left 1
    · (intro w hSw; (try dsimp only at hSw); go_simp; try with_reducible rfl)
    try simp only [Act.put, Array.toArray_toList, List.setIfInBounds_toArray, List.set_cons_zero, List.set_cons_succ]
    refine anyM_take (i := 1) (oi := { dst := some 80, op := _, type := _, pos := _, after := _, guard := _ }) (v := ?_) rfl (by kernel_rfl) (fun _ _ _ h => h) (Or.inl ⟨by kernel_rfl, ?_⟩) hS0 ?_
    rotate_left 1
    · (intro w hSw; (try dsimp only at hSw); go_simp; try with_reducible rfl)
    try simp only [Act.put, Array.toArray_toList, List.setIfInBounds_toArray, List.set_cons_zero, List.set_cons_succ]
    refine anyM_free (i := 2) (oi := { dst := some 81, op := _, type := _, pos := _, after := _, guard := _ }) (v := ?_) rfl (by kernel_rfl) (fun _ _ _ h => h) (Or.inl ⟨by kernel_rfl, ?_⟩) (fun _ => hS0) ?_
    rotate_left 1
    · (intro w hSw; (try dsimp only at hSw); go_simp; try with_reducible rfl)
    try simp only [Act.put, Array.toArray_toList, List.setIfInBounds_toArray, List.set_cons_zero, List.set_cons_succ]
    refine anyM_free (i := 4) (oi := { dst := some 83, op := _, type := _, pos := _, after := _, guard := _ }) (v := ?_) rfl (by kernel_rfl) (fun _ _ _ h => h) (Or.inl ⟨by kernel_rfl, ?_⟩) (fun _ => hS0) ?_
    rotate_left 1
    · (intro w hSw; (try dsimp only at hSw); go_simp; try with_reducible rfl)
    try simp only [Act.put, Array.toArray_toList, List.setIfInBounds_toArray, List.set_cons_zero, List.set_cons_succ]
    refine anyM_free (i := 6) (oi := { dst := some 85, op := _, type := _, pos := _, after := _, guard := _ }) (v := ?_) rfl (by kernel_rfl) (fun _ _ _ h => h) (Or.inl ⟨by kernel_rfl, ?_⟩) (fun _ => hS0) ?_
    rotate_left 1
    · (intro w hSw; (try dsimp only at hSw); go_simp; try with_reducible rfl)
    try simp only [Act.put, Array.toArray_toList, List.setIfInBounds_toArray, List.set_cons_zero, List.set_cons_succ]
    refine anyM_free (i := 7) (oi := { dst := some 86, op := _, type := _, pos := _, after := _, guard := _ }) (v := ?_) rfl (by kernel_rfl) (fun _ _ _ h => h) (Or.inl ⟨by kernel_rfl, ?_⟩) (fun _ => hS0) ?_
    rotate_left 1
    · (intro w hSw; (try dsimp only at hSw); go_simp; try with_reducible rfl)
    try simp only [Act.put, Array.toArray_toList, List.setIfInBounds_toArray, List.set_cons_zero, List.set_cons_succ]
    refine anyM_one (i := 3) (by kernel_rfl) rfl (fun K hK => ?_)
    go_simp
    refine Calls.mono (HBX.out _ _ _ HS.out.bel HHD.out) ?_
    rintro e wa ⟨Ab, cb, rfl, hcb, hkb, hbb⟩
    have HCB := Lib.hid hcb
    have HKA := Lib.hid hkb
    have HBB := Lib.hid hbb
    replace HS := Lib.hid (HS.out.call hbb)
    clear hcb hkb hbb
    have hS0 : (fun w' : World => w'.cell? ⟨g, 0, none⟩ = some (.slice I.A I.n I.c) ∧ w'.cell? ⟨g, 1, none⟩ = some (.slice I.Al I.nl I.cl)) wa := ⟨HS.out.mkb.cell 0, HS.out.mkb.cell 1⟩
    refine hK.out _ _ (fun _ => hS0) ?_
    clear hK K
    try simp only [Act.put, Array.toArray_toList, List.setIfInBounds_toArray, List.set_cons_zero, List.set_cons_succ]
    refine anyM_one (i := 5) (by kernel_rfl) rfl (fun K hK => ?_)
    go_simp
    refine Calls.mono (HRW.out g _ _ _ _ HS.out.bel HS.out.mkb HCB.out HKA.out (fun b hq => And.right hq)) ?_
    rintro e we ⟨A9, n9, c9, rfl, hk9, hb9⟩
    have HK1 := Lib.hid (KidsAt.both HBB.out.size hb9.size hk9)
    replace HS := Lib.hid (HS.out.call hb9)
    clear hk9 hb9
    have hS0 : (fun w' : World => w'.cell? ⟨g, 0, none⟩ = some (.slice I.A I.n I.c) ∧ w'.cell? ⟨g, 1, none⟩ = some (.slice I.Al I.nl I.cl)) we := ⟨HS.out.mkb.cell 0, HS.out.mkb.cell 1⟩
    refine hK.out _ _ (fun _ => hS0) ?_
    clear hK K
    try simp only [Act.put, Array.toArray_toList, List.setIfInBounds_toArray, List.set_cons_zero, List.set_cons_succ]
    refine anyM_one (i := 8) (by kernel_rfl) rfl (fun K hK => ?_)
    have yc : World.cell? _ ⟨g + 1 + 1, 0, none⟩ = some (.int .i64 4) := HS.out.var.cell 0
    have yf : World.frozen? _ ⟨g + 1 + 1, 0, none⟩ = false := HS.out.var.free 0
    go_simp
    replace HS := Lib.hid (show BxM I w g _ #[.int .i64 6, .int .i64 (k : Nat), .int .i64 0, .slice none 0 0, .string ⟨#[]⟩, .slice none 0 0] _ from HS.out.put 0 (.int .i64 6))
    replace HK1 := Lib.hid (KidsAt.put HK1.out (by have := HGT.out; omega) 0 (.int .i64 6))
    clear yc yf
    generalize World.setCell _ _ _ = wk at HS HK1 ⊢
    have hS0 : (fun w' : World => w'.cell? ⟨g, 0, none⟩ = some (.slice I.A I.n I.c) ∧ w'.cell? ⟨g, 1, none⟩ = some (.slice I.Al I.nl I.cl)) wk := ⟨HS.out.mkb.cell 0, HS.out.mkb.cell 1⟩
    refine hK.out _ _ (fun _ => hS0) ?_
    clear hK K
    try simp only [Act.put, Array.toArray_toList, List.setIfInBounds_toArray, List.set_cons_zero, List.set_cons_succ]
    refine anyM_free (i := 9) (oi := { dst := some 87, op := _, type := _, pos := _, after := _, guard := _ }) (v := ?_) rfl (by kernel_rfl) (fun _ _ _ h => h) (Or.inl ⟨by kernel_rfl, ?_⟩) (fun _ => hS0) ?_
    rotate_left 1
    · (intro w hSw; (try dsimp only at hSw); go_simp; try with_reducible rfl)
    try simp only [Act.put, Array.toArray_toList, List.setIfInBounds_toArray, List.set_cons_zero, List.set_cons_succ]
    refine anyM_one (i := 10) (by kernel_rfl) rfl (fun K hK => ?_)
    have yc : World.cell? _ ⟨g + 1 + 1, 5, none⟩ = some (.slice none 0 0) := HS.out.var.cell 5
    have yf : World.frozen? _ ⟨g + 1 + 1, 5, none⟩ = false := HS.out.var.free 5
    go_simp
    replace HS := Lib.hid (show BxM I w g _ #[.int .i64 6, .int .i64 (k : Nat), .int .i64 0, .slice none 0 0, .string ⟨#[]⟩, .slice A9 n9 c9] _ from HS.out.put 5 (.slice A9 n9 c9))
    replace HK1 := Lib.hid (KidsAt.put HK1.out (by have := HGT.out; omega) 5 (.slice A9 n9 c9))
    clear yc yf
    generalize World.setCell _ _ _ = wz at HS HK1 ⊢
    refine hK.out _ _ (fun h => late_no h (by kernel_rfl)) ?_
    clear hK K
    try simp only [Act.put, Array.toArray_toList, List.setIfInBounds_toArray, List.set_cons_zero, List.set_cons_succ]
    refine anyM_done (by kernel_rfl) ?_ _
    refine NoPanic.normal ?_
    clear hS0
    have t0 : wz.cell? ⟨g + 1 + 1, 0, none⟩ = some (.int .i64 6) := HS.out.var.cell 0
    have t1 : wz.cell? ⟨g + 1 + 1, 1, none⟩ = some (.int .i64 (k : Nat)) := HS.out.var.cell 1
    have t2 : wz.cell? ⟨g + 1 + 1, 2, none⟩ = some (.int .i64 0) := HS.out.var.cell 2
    have t3 : wz.cell? ⟨g + 1 + 1, 3, none⟩ = some (.slice none 0 0) := HS.out.var.cell 3
    have t4 : wz.cell? ⟨g + 1 + 1, 4, none⟩ = some (.string ⟨#[]⟩) := HS.out.var.cell 4
    have t5 : wz.cell? ⟨g + 1 + 1, 5, none⟩ = some (.slice A9 n9 c9) := HS.out.var.cell 5
    go_wp2_with (refine wpList_store_mid rfl _ _ _ rfl (g + 1) 0 #[.int .i64 6, .int .i64 (k : Nat), .int .i64 0, .slice none 0 0, .string ⟨#[]⟩, .slice A9 n9 c9] rfl rfl (HS.out.fin _ rfl).1 (by kernel_rfl) (by kernel_rfl) ?_; obtain ⟨w9, hw9, hr9, hz9⟩ := (HS.out.fin #[.int .i64 6, .int .i64 (k : Nat), .int .i64 0, .slice none 0 0, .string ⟨#[]⟩, .slice A9 n9 c9] rfl).2; rw [hw9]; clear hw9; have HS9 := Lib.hid hr9; have HZ9 := Lib.hid hz9; clear hr9 hz9)
    exact bodyPost_ret (ret_tree Tryz.results65 _ _ (g + 1) _ rfl HS9.out.res rfl) rfl ⟨_, _, _, rfl, KidsAt.earlier (KidsAt.moved HK1.out (by have := HGT.out; omega) HZ9.out) (by have := HG.out; have := HGT.out; omega), HS9.out.bel⟩
  · skip
    go_upto_region 21 with (first | (go_at_call 66; refine (HIS.out _ HS.out.bel).mono ?_; rintro e wi ⟨rfl, hbi⟩; replace HS := Lib.hid (HS.out.call hbi); replace HV := Lib.hid (HV.out.below hbi HV.out.lt); have u1 : wi.cell? ⟨gv, 1, none⟩ = some (.string nm) := HV.out.cell 1; have a0 : wi.cell? ⟨g, 0, none⟩ = some (.slice I.A I.n I.c) := HS.out.mkb.cell 0; have a1 : wi.cell? ⟨g, 1, none⟩ = some (.slice I.Al I.nl I.cl) := HS.out.mkb.cell 1; have y4 : wi.cell? ⟨g + 1 + 1, 4, none⟩ = some (.string ⟨#[]⟩) := HS.out.var.cell 4; have f4 : wi.frozen? ⟨g + 1 + 1, 4, none⟩ = false := HS.out.var.free 4; clear hbi) | (go_at_call 31; refine (HCO.out _ HS.out.bel).mono ?_; rintro e wc ⟨A', c', rfl, hcp, hhd, hbc⟩; have HCP := Lib.hid hcp; have HHD := Lib.hid hhd; replace HS := Lib.hid (HS.out.call hbc); have b0 : wc.cell? ⟨g, 0, none⟩ = some (.slice I.A I.n I.c) := HS.out.mkb.cell 0; have b1 : wc.cell? ⟨g, 1, none⟩ = some (.slice I.Al I.nl I.cl) := HS.out.mkb.cell 1; clear hcp hhd hbc))
    clear u1 a0 a1 b0 b1 y4 f4 v0 m0 m1
    replace HS := Lib.hid HS.out.drew
    have HGT : Hid (g + 1 + 1 < (World.drew wc).heap.size) := HS.out.gt
    have HHD : Hid (Holds (World.drew wc) (World.drew wc).heap.size A' (nums CL)) := HHD.out
    have hS0 : (fun w' : World => w'.cell? ⟨g, 0, none⟩ = some (.slice I.A I.n I.c) ∧ w'.cell? ⟨g, 1, none⟩ = some (.slice I.Al I.nl I.cl)) (World.drew wc) := ⟨HS.out.mkb.cell 0, HS.out.mkb.cell 1⟩
    refine wp_region_noPanic ?_
    refine region_M (S := fun w' => w'.cell? ⟨g, 0, none⟩ = some (.slice I.A I.n I.c) ∧ w'.cell? ⟨g, 1, none⟩ = some (.slice I.Al I.nl I.cl)) (T := [10]) (by kernel_rfl) ?_
    generalize World.drew wc = wd at HS HGT HHD hS0 ⊢
    refine anyM_take (i := 0) (oi := { dst := some 79, op := _, type := _, pos := _, after := _, guard := _ }) (v := ?_) rfl (by kernel_rfl) (fun _ _ _ h => h) (Or.inl ⟨by kernel_rfl, ?_⟩) hS0 ?_
    rotate_left 1
    · (intro w hSw; (try dsimp only at hSw); go_simp; try with_reducible rfl)
    try simp only [Act.put, Array.toArray_toList, List.setIfInBounds_toArray, List.set_cons_zero, List.set_cons_succ]
    refine anyM_take (i := 1) (oi := { dst := some 80, op := _, type := _, pos := _, after := _, guard := _ }) (v := ?_) rfl (by kernel_rfl) (fun _ _ _ h => h) (Or.inl ⟨by kernel_rfl, ?_⟩) hS0 ?_
    rotate_left 1
    · (intro w hSw; (try dsimp only at hSw); go_simp; try with_reducible rfl)
    try simp only [Act.put, Array.toArray_toList, List.setIfInBounds_toArray, List.set_cons_zero, List.set_cons_succ]
    refine anyM_free (i := 2) (oi := { dst := some 81, op := _, type := _, pos := _, after := _, guard := _ }) (v := ?_) rfl (by kernel_rfl) (fun _ _ _ h => h) (Or.inl ⟨by kernel_rfl, ?_⟩) (fun _ => hS0) ?_
    rotate_left 1
    · (intro w hSw; (try dsimp only at hSw); go_simp; try with_reducible rfl)
    try simp only [Act.put, Array.toArray_toList, List.setIfInBounds_toArray, List.set_cons_zero, List.set_cons_succ]
    refine anyM_free (i := 4) (oi := { dst := some 83, op := _, type := _, pos := _, after := _, guard := _ }) (v := ?_) rfl (by kernel_rfl) (fun _ _ _ h => h) (Or.inl ⟨by kernel_rfl, ?_⟩) (fun _ => hS0) ?_
    rotate_left 1
    · (intro w hSw; (try dsimp only at hSw); go_simp; try with_reducible rfl)
    try simp only [Act.put, Array.toArray_toList, List.setIfInBounds_toArray, List.set_cons_zero, List.set_cons_succ]
    refine anyM_free (i := 6) (oi := { dst := some 85, op := _, type := _, pos := _, after := _, guard := _ }) (v := ?_) rfl (by kernel_rfl) (fun _ _ _ h => h) (Or.inl ⟨by kernel_rfl, ?_⟩) (fun _ => hS0) ?_
    rotate_left 1
    · (intro w hSw; (try dsimp only at hSw); go_simp; try with_reducible rfl)
    try simp only [Act.put, Array.toArray_toList, List.setIfInBounds_toArray, List.set_cons_zero, List.set_cons_succ]
    refine anyM_free (i := 7) (oi := { dst := some 86, op := _, type := _, pos := _, after := _, guard := _ }) (v := ?_) rfl (by kernel_rfl) (fun _ _ _ h => h) (Or.inl ⟨by kernel_rfl, ?_⟩) (fun _ => hS0) ?_
    rotate_left 1
    · (intro w hSw; (try dsimp only at hSw); go_simp; try with_reducible rfl)
    try simp only [Act.put, Array.toArray_toList, List.setIfInBounds_toArray, List.set_cons_zero, List.set_cons_succ]
    refine anyM_one (i := 3) (by kernel_rfl) rfl (fun K hK => ?_)
    go_simp
    refine Calls.mono (HBX.out _ _ _ HS.out.bel HHD.out) ?_
    rintro e wa ⟨Ab, cb, rfl, hcb, hkb, hbb⟩
    have HCB := Lib.hid hcb
    have HKA := Lib.hid hkb
    have HBB := Lib.hid hbb
    replace HS := Lib.hid (HS.out.call hbb)
    clear hcb hkb hbb
    have hS0 : (fun w' : World => w'.cell? ⟨g, 0, none⟩ = some (.slice I.A I.n I.c) ∧ w'.cell? ⟨g, 1, none⟩ = some (.slice I.Al I.nl I.cl)) wa := ⟨HS.out.mkb.cell 0, HS.out.mkb.cell 1⟩
    refine hK.out _ _ (fun _ => hS0) ?_
    clear hK K
    try simp only [Act.put, Array.toArray_toList, List.setIfInBounds_toArray, List.set_cons_zero, List.set_cons_succ]
    refine anyM_one (i := 5) (by kernel_rfl) rfl (fun K hK => ?_)
    go_simp
    refine Calls.mono (HRW.out g _ _ _ _ HS.out.bel HS.out.mkb HCB.out HKA.out (fun b hq => And.right hq)) ?_
    rintro e we ⟨A9, n9, c9, rfl, hk9, hb9⟩
    have HK1 := Lib.hid (KidsAt.both HBB.out.size hb9.size hk9)
    replace HS := Lib.hid (HS.out.call hb9)
    clear hk9 hb9
    have hS0 : (fun w' : World => w'.cell? ⟨g, 0, none⟩ = some (.slice I.A I.n I.c) ∧ w'.cell? ⟨g, 1, none⟩ = some (.slice I.Al I.nl I.cl)) we := ⟨HS.out.mkb.cell 0, HS.out.mkb.cell 1⟩
    refine hK.out _ _ (fun _ => hS0) ?_
    clear hK K
    try simp only [Act.put, Array.toArray_toList, List.setIfInBounds_toArray, List.set_cons_zero, List.set_cons_succ]
    refine anyM_one (i := 8) (by kernel_rfl) rfl (fun K hK => ?_)
    have yc : World.cell? _ ⟨g + 1 + 1, 0, none⟩ = some (.int .i64 4) := HS.out.var.cell 0
    have yf : World.frozen? _ ⟨g + 1 + 1, 0, none⟩ = false := HS.out.var.free 0
    go_simp
    replace HS := Lib.hid (show BxM I w g _ #[.int .i64 6, .int .i64 (k : Nat), .int .i64 0, .slice none 0 0, .string ⟨#[]⟩, .slice none 0 0] _ from HS.out.put 0 (.int .i64 6))
    replace HK1 := Lib.hid (KidsAt.put HK1.out (by have := HGT.out; omega) 0 (.int .i64 6))
    clear yc yf
    generalize World.setCell _ _ _ = wk at HS HK1 ⊢
    have hS0 : (fun w' : World => w'.cell? ⟨g, 0, none⟩ = some (.slice I.A I.n I.c) ∧ w'.cell? ⟨g, 1, none⟩ = some (.slice I.Al I.nl I.cl)) wk := ⟨HS.out.mkb.cell 0, HS.out.mkb.cell 1⟩
    refine hK.out _ _ (fun _ => hS0) ?_
    clear hK K
    try simp only [Act.put, Array.toArray_toList, List.setIfInBounds_toArray, List.set_cons_zero, List.set_cons_succ]
    refine anyM_free (i := 9) (oi := { dst := some 87, op := _, type := _, pos := _, after := _, guard := _ }) (v := ?_) rfl (by kernel_rfl) (fun _ _ _ h => h) (Or.inl ⟨by kernel_rfl, ?_⟩) (fun _ => hS0) ?_
    rotate_left 1
    · (intro w hSw; (try dsimp only at hSw); go_simp; try with_reducible rfl)
    try simp only [Act.put, Array.toArray_toList, List.setIfInBounds_toArray, List.set_cons_zero, List.set_cons_succ]
    refine anyM_one (i := 10) (by kernel_rfl) rfl (fun K hK => ?_)
    have yc : World.cell? _ ⟨g + 1 + 1, 5, none⟩ = some (.slice none 0 0) := HS.out.var.cell 5
    have yf : World.frozen? _ ⟨g + 1 + 1, 5, none⟩ = false := HS.out.var.free 5
    go_simp
    replace HS := Lib.hid (show BxM I w g _ #[.int .i64 6, .int .i64 (k : Nat), .int .i64 0, .slice none 0 0, .string ⟨#[]⟩, .slice A9 n9 c9] _ from HS.out.put 5 (.slice A9 n9 c9))
    replace HK1 := Lib.hid (KidsAt.put HK1.out (by have := HGT.out; omega) 5 (.slice A9 n9 c9))
    clear yc yf
    generalize World.setCell _ _ _ = wz at HS HK1 ⊢
    refine hK.out _ _ (fun h => late_no h (by kernel_rfl)) ?_
    clear hK K
    try simp only [Act.put, Array.toArray_toList, List.setIfInBounds_toArray, List.set_cons_zero, List.set_cons_succ]
    refine anyM_done (by kernel_rfl) ?_ _
    refine NoPanic.normal ?_
    clear hS0
    have t0 : wz.cell? ⟨g + 1 + 1, 0, none⟩ = some (.int .i64 6) := HS.out.var.cell 0
    have t1 : wz.cell? ⟨g + 1 + 1, 1, none⟩ = some (.int .i64 (k : Nat)) := HS.out.var.cell 1
    have t2 : wz.cell? ⟨g + 1 + 1, 2, none⟩ = some (.int .i64 0) := HS.out.var.cell 2
    have t3 : wz.cell? ⟨g + 1 + 1, 3, none⟩ = some (.slice none 0 0) := HS.out.var.cell 3
    have t4 : wz.cell? ⟨g + 1 + 1, 4, none⟩ = some (.string ⟨#[]⟩) := HS.out.var.cell 4
    have t5 : wz.cell? ⟨g + 1 + 1, 5, none⟩ = some (.slice A9 n9 c9) := HS.out.var.cell 5
    go_wp2_with (refine wpList_store_mid rfl _ _ _ rfl (g + 1) 0 #[.int .i64 6, .int .i64 (k : Nat), .int .i64 0, .slice none 0 0, .string ⟨#[]⟩, .slice A9 n9 c9] rfl rfl (HS.out.fin _ rfl).1 (by kernel_rfl) (by kernel_rfl) ?_; obtain ⟨w9, hw9, hr9, hz9⟩ := (HS.out.fin #[.int .i64 6, .int .i64 (k : Nat), .int .i64 0, .slice none 0 0, .string ⟨#[]⟩, .slice A9 n9 c9] rfl).2; rw [hw9]; clear hw9; have HS9 := Lib.hid hr9; have HZ9 := Lib.hid hz9; clear hr9 hz9)
    exact bodyPost_ret (ret_tree Tryz.results65 _ _ (g + 1) _ rfl HS9.out.res rfl) rfl ⟨_, _, _, rfl, KidsAt.earlier (KidsAt.moved HK1.out (by have := HGT.out; omega) HZ9.out) (by have := HG.out; have := HGT.out; omega), HS9.out.bel⟩
set_option maxRecDepth 100000 in
set_option maxHeartbeats 8000000 in
theorem pboxTab_calls (I : BxV) (hc : checkE I.ns = 0) (r k : Nat) (IH : DeepP I hc r) (w : World) (h : I.ok w w.heap.size) (hk : k < I.n) (hrk : rankN I.ns k ≤ r) (h3 : ¬ (nd I.ns k).kind = 3) (hbr : ¬ ((nd I.ns k).name = brS ∧ isS (I.sty k) = 1)) (his : isS (I.sty k) = 5) :
    Calls Tryz.prog 65 #[mkA I, .int .i64 (k : Nat)] w (MadeT w (.mk 7 k noS ((docB I (docOk hc)).rowsT (docB I (docOk hc)).box ((docB I (docOk hc)).content k)))) := by
  have hkb : k ≤ 200 := by have := h.n0; omega
  obtain ⟨i1, i2, i3⟩ := IH.content h.hn hrk
  have hcl := content_len I hc k
  obtain ⟨b, off, hA, hnc⟩ := node_six h hk
  have HNC := Lib.hid (fun w' (hb : Below w.heap.size w w') => hnc w' _ (h.below hb (Nat.le_refl _)))
  have HS := Lib.hid (bxM_new I w #[.int .i64 4, .int .i64 (k : Nat), .int .i64 0, .slice none 0 0, .string ⟨#[]⟩, .slice none 0 0] rfl)
  have HIS := Lib.hid (fun w' (hb : Below w.heap.size w w') => is_calls I k w' ((h.below hb (Nat.le_refl _)).more hb.size) hk)
  have HCO := Lib.hid (fun w' (hb : Below w.heap.size w w') => content_says I hc k w' ((h.below hb (Nat.le_refl _)).more hb.size) hk)
  unfold ContSays at HCO
  have hnc0 : nodeC (nd I.ns k) = #[.int .i64 (nd I.ns k).kind, .string (nd I.ns k).name, .slice (nd I.ns k).attrsA (nd I.ns k).attrs.length (nd I.ns k).acap, .string (nd I.ns k).text, .int .i64 (nd I.ns k).parent, .slice (nd I.ns k).kidsA (nd I.ns k).kids.length (nd I.ns k).kcap] := rfl
  rw [hnc0] at HNC
  have pb : ((nd I.ns k).name.toList == [98, 114]) = decide ((nd I.ns k).name = brS) := by rw [← eBR, str_eqD]
  generalize decide ((nd I.ns k).name = brS) = isb at pb
  rw [his] at HIS
  have HRW := Lib.hid (fun (A' : Option Addr) (c' : Nat) w' (hb : Below w.heap.size w w') (hH : Holds w' w'.heap.size A' (nums ((docB I (docOk hc)).content k))) (hcap : ((docB I (docOk hc)).content k).length ≤ c') => rowsM_calls I hc r IH ((docB I (docOk hc)).content k) A' ((docB I (docOk hc)).content k).length c' w' ((h.below hb (Nat.le_refl _)).more hb.size) rfl hH hcl hcap i1 (fun j hj => by have := i2 j hj; omega))
  clear hbr his
  generalize (docB I (docOk hc)).rowsT (docB I (docOk hc)).box ((docB I (docOk hc)).content k) = RT at HRW ⊢
  unfold SliceT at HRW
  generalize (docB I (docOk hc)).content k = CL at HCO HRW
  generalize (nd I.ns k).kind = nk at HNC h3
  generalize (nd I.ns k).name = nm at HNC pb
  generalize (nd I.ns k).attrsA = aA at HNC
  generalize (nd I.ns k).attrs.length = an at HNC
  generalize (nd I.ns k).acap = ac at HNC
  generalize (nd I.ns k).text = tx at HNC 
  generalize (nd I.ns k).parent = pa at HNC
  generalize (nd I.ns k).kidsA = kA at HNC
  generalize (nd I.ns k).kids.length = kn at HNC
  generalize (nd I.ns k).kcap = kc at HNC
  have HA := Lib.hid hA
  clear h hrk IH i1 i2 i3 hcl
  clear hnc0 hnc hA
  unfold mkA at HIS HCO HRW ⊢
  go_enter Tryz.func65, Tryz.ntmps65
  go_upto_region 2 with fail
  generalize World.alloc (World.alloc (World.alloc w _) _) _ = w1 at HS ⊢
  generalize hg : w.heap.size = g at HS ⊢
  have HG := Lib.hid hg
  clear hg
  have m0 : w1.cell? ⟨g, 0, none⟩ = some (.slice (some ⟨b, off, none⟩) I.n I.c) := by rw [← HA.out]; exact HS.out.mkb.cell 0
  have n0 : w1.cell? ⟨b, off + k * 6, none⟩ = some (.int .i64 nk) := HNC.out w1 HS.out.bel 0 (by omega)
  have n1 : w1.cell? ⟨b, off + k * 6 + 1, none⟩ = some (.string nm) := HNC.out w1 HS.out.bel 1 (by omega)
  have n2 : w1.cell? ⟨b, off + k * 6 + 2, none⟩ = some (.slice aA an ac) := HNC.out w1 HS.out.bel 2 (by omega)
  have n3 : w1.cell? ⟨b, off + k * 6 + 3, none⟩ = some (.string tx) := HNC.out w1 HS.out.bel 3 (by omega)
  have n4 : w1.cell? ⟨b, off + k * 6 + 4, none⟩ = some (.int .i64 pa) := HNC.out w1 HS.out.bel 4 (by omega)
  have n5 : w1.cell? ⟨b, off + k * 6 + 5, none⟩ = some (.slice kA kn kc) := HNC.out w1 HS.out.bel 5 (by omega)
  have HV := Lib.hid (Blk.new w1 117 #[.int .i64 nk, .string nm, .slice aA an ac, .string tx, .int .i64 pa, .slice kA kn kc])
  replace HS := Lib.hid (HS.out.alloc (.cells #[.int .i64 nk, .string nm, .slice aA an ac, .string tx, .int .i64 pa, .slice kA kn kc] 117))
  go_upto_region 3 with fail
  generalize World.alloc w1 _ = w2 at HS HV ⊢
  generalize w1.heap.size = gv at HV ⊢
  clear m0 n0 n1 n2 n3 n4 n5 HNC
  have v0 : w2.cell? ⟨gv, 0, none⟩ = some (.int .i64 nk) := HV.out.cell 0
  have m0 : w2.cell? ⟨g, 0, none⟩ = some (.slice I.A I.n I.c) := HS.out.mkb.cell 0
  have m1 : w2.cell? ⟨g, 1, none⟩ = some (.slice I.Al I.nl I.cl) := HS.out.mkb.cell 1
  have p3 : (nk == 3) = false := by simp [h3]
  clear h3
  cases isb
  · skip
    go_upto_region 25 with (first | (go_at_call 66; refine (HIS.out _ HS.out.bel).mono ?_; rintro e wi ⟨rfl, hbi⟩; replace HS := Lib.hid (HS.out.call hbi); replace HV := Lib.hid (HV.out.below hbi HV.out.lt); have u1 : wi.cell? ⟨gv, 1, none⟩ = some (.string nm) := HV.out.cell 1; have a0 : wi.cell? ⟨g, 0, none⟩ = some (.slice I.A I.n I.c) := HS.out.mkb.cell 0; have a1 : wi.cell? ⟨g, 1, none⟩ = some (.slice I.Al I.nl I.cl) := HS.out.mkb.cell 1; have y4 : wi.cell? ⟨g + 1 + 1, 4, none⟩ = some (.string ⟨#[]⟩) := HS.out.var.cell 4; have f4 : wi.frozen? ⟨g + 1 + 1, 4, none⟩ = false := HS.out.var.free 4; clear hbi) | (go_at_call 31; refine (HCO.out _ HS.out.bel).mono ?_; rintro e wc ⟨A', c', rfl, hcp, hhd, hbc⟩; have HCP := Lib.hid hcp; have HHD := Lib.hid hhd; replace HS := Lib.hid (HS.out.call hbc); have b0 : wc.cell? ⟨g, 0, none⟩ = some (.slice I.A I.n I.c) := HS.out.mkb.cell 0; have b1 : wc.cell? ⟨g, 1, none⟩ = some (.slice I.Al I.nl I.cl) := HS.out.mkb.cell 1; have HGC := Lib.hid HS.out.gt; clear hcp hhd hbc) | (go_at_call 112; refine (HRW.out _ _ _ HS.out.bel HHD.out HCP.out).mono ?_; rintro e wf ⟨A9, n9, c9, rfl, hk9, hb9⟩; have HK1 := Lib.hid hk9; replace HS := Lib.hid (HS.out.call hb9); have y0 : wf.cell? ⟨g + 1 + 1, 0, none⟩ = some (.int .i64 4) := HS.out.var.cell 0; have y5 : wf.cell? ⟨g + 1 + 1, 5, none⟩ = some (.slice none 0 0) := HS.out.var.cell 5; have f0 : wf.frozen? ⟨g + 1 + 1, 0, none⟩ = false := HS.out.var.free 0; have f5 : wf.frozen? ⟨g + 1 + 1, 5, none⟩ = false := HS.out.var.free 5; clear hk9 hb9))
    replace HS := Lib.hid (show BxM I w g _ #[.int .i64 7, .int .i64 (k : Nat), .int .i64 0, .slice none 0 0, .string ⟨#[]⟩, .slice A9 n9 c9] _ from (HS.out.put 0 (.int .i64 7)).put 5 (.slice A9 n9 c9))
    have HGT : Hid (g + 1 + 1 < wc.heap.size) := HGC.out
    replace HK1 := Lib.hid ((KidsAt.put HK1.out HGT.out 0 (.int .i64 7)).put HGT.out 5 (.slice A9 n9 c9))
    clear y0 y5 f0 f5 u1 a0 a1 b0 b1 y4 f4
    generalize World.setCell (World.setCell wf _ _) _ _ = ws at HS HK1 ⊢
    have t0 : ws.cell? ⟨g + 1 + 1, 0, none⟩ = some (.int .i64 7) := HS.out.var.cell 0
    have t1 : ws.cell? ⟨g + 1 + 1, 1, none⟩ = some (.int .i64 (k : Nat)) := HS.out.var.cell 1
    have t2 : ws.cell? ⟨g + 1 + 1, 2, none⟩ = some (.int .i64 0) := HS.out.var.cell 2
    have t3 : ws.cell? ⟨g + 1 + 1, 3, none⟩ = some (.slice none 0 0) := HS.out.var.cell 3
    have t4 : ws.cell? ⟨g + 1 + 1, 4, none⟩ = some (.string ⟨#[]⟩) := HS.out.var.cell 4
    have t5 : ws.cell? ⟨g + 1 + 1, 5, none⟩ = some (.slice A9 n9 c9) := HS.out.var.cell 5
    go_wp2_with (refine wpList_store_mid rfl _ _ _ rfl (g + 1) 0 #[.int .i64 7, .int .i64 (k : Nat), .int .i64 0, .slice none 0 0, .string ⟨#[]⟩, .slice A9 n9 c9] rfl rfl (HS.out.fin _ rfl).1 (by kernel_rfl) (by kernel_rfl) ?_; obtain ⟨w9, hw9, hr9, hz9⟩ := (HS.out.fin #[.int .i64 7, .int .i64 (k : Nat), .int .i64 0, .slice none 0 0, .string ⟨#[]⟩, .slice A9 n9 c9] rfl).2; rw [hw9]; clear hw9; have HS9 := Lib.hid hr9; have HZ9 := Lib.hid hz9; clear hr9 hz9)
    exact bodyPost_ret (ret_tree Tryz.results65 _ _ (g + 1) _ rfl HS9.out.res rfl) rfl ⟨_, _, _, rfl, KidsAt.earlier (KidsAt.moved HK1.out (by have := HGT.out; omega) HZ9.out) (by have := HG.out; have := HGT.out; omega), HS9.out.bel⟩
  · skip
    go_upto_region 25 with (first | (go_at_call 66; refine (HIS.out _ HS.out.bel).mono ?_; rintro e wi ⟨rfl, hbi⟩; replace HS := Lib.hid (HS.out.call hbi); replace HV := Lib.hid (HV.out.below hbi HV.out.lt); have u1 : wi.cell? ⟨gv, 1, none⟩ = some (.string nm) := HV.out.cell 1; have a0 : wi.cell? ⟨g, 0, none⟩ = some (.slice I.A I.n I.c) := HS.out.mkb.cell 0; have a1 : wi.cell? ⟨g, 1, none⟩ = some (.slice I.Al I.nl I.cl) := HS.out.mkb.cell 1; have y4 : wi.cell? ⟨g + 1 + 1, 4, none⟩ = some (.string ⟨#[]⟩) := HS.out.var.cell 4; have f4 : wi.frozen? ⟨g + 1 + 1, 4, none⟩ = false := HS.out.var.free 4; clear hbi) | (go_at_call 31; refine (HCO.out _ HS.out.bel).mono ?_; rintro e wc ⟨A', c', rfl, hcp, hhd, hbc⟩; have HCP := Lib.hid hcp; have HHD := Lib.hid hhd; replace HS := Lib.hid (HS.out.call hbc); have b0 : wc.cell? ⟨g, 0, none⟩ = some (.slice I.A I.n I.c) := HS.out.mkb.cell 0; have b1 : wc.cell? ⟨g, 1, none⟩ = some (.slice I.Al I.nl I.cl) := HS.out.mkb.cell 1; have HGC := Lib.hid HS.out.gt; clear hcp hhd hbc) | (go_at_call 112; refine (HRW.out _ _ _ HS.out.bel HHD.out HCP.out).mono ?_; rintro e wf ⟨A9, n9, c9, rfl, hk9, hb9⟩; have HK1 := Lib.hid hk9; replace HS := Lib.hid (HS.out.call hb9); have y0 : wf.cell? ⟨g + 1 + 1, 0, none⟩ = some (.int .i64 4) := HS.out.var.cell 0; have y5 : wf.cell? ⟨g + 1 + 1, 5, none⟩ = some (.slice none 0 0) := HS.out.var.cell 5; have f0 : wf.frozen? ⟨g + 1 + 1, 0, none⟩ = false := HS.out.var.free 0; have f5 : wf.frozen? ⟨g + 1 + 1, 5, none⟩ = false := HS.out.var.free 5; clear hk9 hb9))
    replace HS := Lib.hid (show BxM I w g _ #[.int .i64 7, .int .i64 (k : Nat), .int .i64 0, .slice none 0 0, .string ⟨#[]⟩, .slice A9 n9 c9] _ from (HS.out.put 0 (.int .i64 7)).put 5 (.slice A9 n9 c9))
    have HGT : Hid (g + 1 + 1 < wc.heap.size) := HGC.out
    replace HK1 := Lib.hid ((KidsAt.put HK1.out HGT.out 0 (.int .i64 7)).put HGT.out 5 (.slice A9 n9 c9))
    clear y0 y5 f0 f5 u1 a0 a1 b0 b1 y4 f4
    generalize World.setCell (World.setCell wf _ _) _ _ = ws at HS HK1 ⊢
    have t0 : ws.cell? ⟨g + 1 + 1, 0, none⟩ = some (.int .i64 7) := HS.out.var.cell 0
    have t1 : ws.cell? ⟨g + 1 + 1, 1, none⟩ = some (.int .i64 (k : Nat)) := HS.out.var.cell 1
    have t2 : ws.cell? ⟨g + 1 + 1, 2, none⟩ = some (.int .i64 0) := HS.out.var.cell 2
    have t3 : ws.cell? ⟨g + 1 + 1, 3, none⟩ = some (.slice none 0 0) := HS.out.var.cell 3
    have t4 : ws.cell? ⟨g + 1 + 1, 4, none⟩ = some (.string ⟨#[]⟩) := HS.out.var.cell 4
    have t5 : ws.cell? ⟨g + 1 + 1, 5, none⟩ = some (.slice A9 n9 c9) := HS.out.var.cell 5
    go_wp2_with (refine wpList_store_mid rfl _ _ _ rfl (g + 1) 0 #[.int .i64 7, .int .i64 (k : Nat), .int .i64 0, .slice none 0 0, .string ⟨#[]⟩, .slice A9 n9 c9] rfl rfl (HS.out.fin _ rfl).1 (by kernel_rfl) (by kernel_rfl) ?_; obtain ⟨w9, hw9, hr9, hz9⟩ := (HS.out.fin #[.int .i64 7, .int .i64 (k : Nat), .int .i64 0, .slice none 0 0, .string ⟨#[]⟩, .slice A9 n9 c9] rfl).2; rw [hw9]; clear hw9; have HS9 := Lib.hid hr9; have HZ9 := Lib.hid hz9; clear hr9 hz9)
    exact bodyPost_ret (ret_tree Tryz.results65 _ _ (g + 1) _ rfl HS9.out.res rfl) rfl ⟨_, _, _, rfl, KidsAt.earlier (KidsAt.moved HK1.out (by have := HGT.out; omega) HZ9.out) (by have := HG.out; have := HGT.out; omega), HS9.out.bel⟩
end Go.Proofs.YtkmmlcnoeeaekaaGreatDoor
