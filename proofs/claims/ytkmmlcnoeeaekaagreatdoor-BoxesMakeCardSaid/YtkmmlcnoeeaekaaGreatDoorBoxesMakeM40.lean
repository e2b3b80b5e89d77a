/- Several texts in one: BxSy, BxPd, BxRu. -/
import Derived.Test.YtkmmlcnoeeaekaaGreatDoorBoxesMakeM22
import Derived.Test.YtkmmlcnoeeaekaaGreatDoorBoxesMakeM33
import Derived.Test.YtkmmlcnoeeaekaaGreatDoorBoxesMakeM39
import Derived.Test.YtkmmlcnoeeaekaaGreatDoorBoxesMakeM36
/- Plain law: how many boxes a document that may be comes to. -/
namespace Go.Proofs.YtkmmlcnoeeaekaaGreatDoor
open Go.RowKit
set_option linter.unusedVariables false

theorem wF_sub (I : BxV) (h : DocOk I.ns) : ∀ (u n : Nat), (docB I h).wF u n = 1 + (subN I.ns u n).length
  | 0, _ => rfl
  | u + 1, n => by
    rw [DocB.wF, subN, List.length_flatMap]
    show 1 + (List.map _ (kidN I.ns n)).sum = _
    congr 2
    refine List.map_congr_left fun k hk => ?_
    rw [wF_sub I h u k, List.length_cons]
    omega
theorem root_le (I : BxV) (hc : checkE I.ns = 0) : tsz ((docB I (docOk hc)).rootT 0) ≤ 1608 := by
  have h1 := (docB I (docOk hc)).root_size 0
  have h2 := wF_sub I (docOk hc) (rankN I.ns 0) 0
  have h3 := sub_len hc (rankN I.ns 0) 0
  have h4 := (docOk hc).len
  have h5 : (docB I (docOk hc)).wt 0 = (docB I (docOk hc)).wF (rankN I.ns 0) 0 := rfl
  omega
end Go.Proofs.YtkmmlcnoeeaekaaGreatDoor
/- Contracts: box, by how deep a node stands; Make. -/
namespace Go.Proofs.YtkmmlcnoeeaekaaGreatDoor
open Go.RowKit
set_option linter.unusedVariables false
set_option linter.unusedSimpArgs false

theorem pbox_calls (I : BxV) (hc : checkE I.ns = 0) : ∀ r, DeepP I hc r
  | 0, j, h, _ => by omega
  | r + 1, j, hj, hn => fun w h => by
    have IH := pbox_calls I hc r
    have hrk : rankN I.ns j ≤ r := by omega
    show Calls _ _ _ _ (MadeT w ((docB I (docOk hc)).box j))
    have hb := (docB I (docOk hc)).box_eq j
    unfold DocB.boxB at hb
    have e1 : (docB I (docOk hc)).nk j = (nd I.ns j).kind := rfl
    have e2 : (docB I (docOk hc)).br j = decide ((nd I.ns j).name = brS) := rfl
    have e3 : (docB I (docOk hc)).is j = isS (I.sty j) := rfl
    rw [e1, e2, e3] at hb
    by_cases h3 : (nd I.ns j).kind = 3
    · rw [if_pos h3] at hb
      rw [hb]
      exact pboxText_calls I hc r j IH w h hn hrk h3
    · rw [if_neg h3] at hb
      by_cases hbr : (nd I.ns j).name = brS ∧ isS (I.sty j) = 1
      · rw [if_pos ⟨decide_eq_true hbr.1, hbr.2⟩] at hb
        rw [hb]
        exact pboxBr_calls I hc r j IH w h hn hrk h3 hbr.1 hbr.2
      · rw [if_neg (fun h => hbr ⟨of_decide_eq_true h.1, h.2⟩)] at hb
        by_cases h1 : isS (I.sty j) = 1
        · cases hany : (((docB I (docOk hc)).content j).map (docB I (docOk hc)).box).any ((docB I (docOk hc)).blockyT 1) with
          | false =>
            rw [if_pos ⟨h1, hany⟩] at hb
            rw [hb]
            exact pboxInl_calls I hc r j IH w h hn hrk h3 hbr h1 hany
          | true =>
            rw [if_neg (fun h => by rw [hany] at h; cases h.2), if_neg (by omega), if_neg (by omega), if_neg (by omega)] at hb
            rw [hb]
            exact pboxAny_calls I hc r j IH w h hn hrk h3 hbr h1 hany
        · rw [if_neg (fun h => h1 h.1)] at hb
          by_cases g3 : isS (I.sty j) = 3
          · rw [if_pos g3] at hb
            rw [hb]
            exact pboxAtom_calls I hc r j IH w h hn hrk h3 hbr g3
          · rw [if_neg g3] at hb
            by_cases g4 : isS (I.sty j) = 4
            · rw [if_pos g4] at hb
              rw [hb]
              exact pboxFlex_calls I hc r j IH w h hn hrk h3 hbr g4
            · rw [if_neg g4] at hb
              by_cases g5 : isS (I.sty j) = 5
              · rw [if_pos g5] at hb
                rw [hb]
                exact pboxTab_calls I hc r j IH w h hn hrk h3 hbr g5
              · rw [if_neg g5] at hb
                rw [hb]
                exact pboxDef_calls I hc r j IH w h hn hrk h3 hbr _ rfl (by simp [h1]) (by simp [g3]) (by simp [g4]) (by simp [g5])
/-- What Make answers where all may be. -/
def MakeOk (S : List PBox) (w : World) (e : Ending) (w' : World) : Prop := ∃ A n c base rs, e = .returned (.tuple #[.slice A n c, .int .i64 0]) ∧ rs.length = n ∧ BoxL w' base (.slice A n c) rs ∧ FewS rs ∧ rs.map (·.1) = S ∧ Below w.heap.size w w'
def MakeBad (er : Int) (w : World) (e : Ending) (w' : World) : Prop := e = .returned (.tuple #[.slice none 0 0, .int .i64 er]) ∧ Below w.heap.size w w'
set_option maxRecDepth 100000 in
set_option maxHeartbeats 8000000 in
theorem makeBad_calls (A : Option Addr) (n c B : Nat) (q : Bool) (ns : List NodeV) (Al : Option Addr) (nl cl : Nat) (lz : List Int) (w : World) (hn : ns.length = n) (h : Nodes w B A ns) (hB : B ≤ w.heap.size) (hm : n ≤ 140737488355328) (hl : lz.length = nl * 118) (h2 : Holds w B Al (ints lz)) (hm2 : nl ≤ 140737488355328) (hne : sfitsE ns nl lz ≠ 0) :
    Calls Tryz.prog 6 #[.agg #[.slice A n c, .bool q], .slice Al nl cl] w (MakeBad (sfitsE ns nl lz) w) := by
  have HD := Lib.hid (Blk.new w 24 #[.slice A n c, .bool q])
  have HW := Lib.hid (below_alloc (Below.refl w.heap.size w) (.cells #[.slice A n c, .bool q] 24))
  have HN := Lib.hid (h.below HW.out hB)
  have HS := Lib.hid (h2.below HW.out hB)
  have HN2 := Lib.hid (Nat.le_trans hB HW.out.size)
  have HDC := Lib.hid (dcheck_calls A n c B q ns (w.alloc (.cells #[.slice A n c, .bool q] 24)) hn HN.out HN2.out hm)
  have HFI := Lib.hid (fun (ww : World) (hb : Below (w.alloc (.cells #[.slice A n c, .bool q] 24)).heap.size (w.alloc (.cells #[.slice A n c, .bool q] 24)) ww) => sfits_calls A n c B q ns Al nl cl lz ww hn (HN.out.below hb HN2.out) (Nat.le_trans HN2.out hb.size) hm hl (HS.out.below hb HN2.out) hm2)
  have HSO := Lib.hid (fun h => sfits_of (ns := ns) (nl := nl) (lz := lz) h)
  obtain ⟨ce, hce⟩ : ∃ ce, ce = checkE ns := ⟨_, rfl⟩
  rw [← hce] at HDC HSO
  obtain ⟨r, hr⟩ : ∃ r, r = sfitsE ns nl lz := ⟨_, rfl⟩
  rw [← hr] at HFI HSO hne ⊢
  unfold MakeBad
  clear h h2 hce hr hn hl
  by_cases g1 : ce = 0
  · have q1 : (ce != 0) = false := by simp [g1]
    have q2 : (r != 0) = true := by simp [hne]
    clear g1 HSO hne
    go_enter Tryz.func6, Tryz.ntmps6
    go_wp2_with (first | (go_at_call 26; refine HDC.out.mono ?_; rintro e w1 ⟨rfl, hb1⟩; have HB1 := Lib.hid hb1; have d0 : w1.cell? ⟨w.heap.size, 0, none⟩ = some (.slice A n c) := (HD.out.below hb1 HD.out.lt).cell 0; have d1 : w1.cell? ⟨w.heap.size, 1, none⟩ = some (.bool q) := (HD.out.below hb1 HD.out.lt).cell 1; clear hb1) | (go_at_call 27; refine (HFI.out w1 HB1.out).mono ?_; rintro e w2 ⟨rfl, hb2⟩))
    exact bodyPost_ret (results_tmp2 rfl _ _ _) rfl ⟨rfl, below_then (below_then HW.out HB1.out) hb2⟩
  · have q1 : (ce != 0) = true := by simp [g1]
    have HE : Hid (r = ce) := HSO.out g1
    clear g1 HSO HFI hne
    go_enter Tryz.func6, Tryz.ntmps6
    go_wp2_with (go_at_call 26; refine HDC.out.mono ?_; rintro e w1 ⟨rfl, hb1⟩; have HB1 := Lib.hid hb1; have d0 : w1.cell? ⟨w.heap.size, 0, none⟩ = some (.slice A n c) := (HD.out.below hb1 HD.out.lt).cell 0; have d1 : w1.cell? ⟨w.heap.size, 1, none⟩ = some (.bool q) := (HD.out.below hb1 HD.out.lt).cell 1; clear hb1)
    exact bodyPost_ret (results_tmp2 rfl _ _ _) rfl ⟨by rw [HE.out]; rfl, below_then HW.out HB1.out⟩
set_option maxRecDepth 100000 in
set_option maxHeartbeats 8000000 in
theorem makeOk_calls (I : BxV) (hc : checkE I.ns = 0) (q : Bool) (w : World) (h : I.ok w w.heap.size) (hfit : sfitsE I.ns I.nl I.lz = 0) :
    Calls Tryz.prog 6 #[.agg #[.slice I.A I.n I.c, .bool q], .slice I.Al I.nl I.cl] w (MakeOk (flatR ((docB I (docOk hc)).rootT 0) (-1) []) w) := by
  have hpos : 0 < I.n := by have := (docOk hc).pos; have := h.hn; omega
  have hm : I.n ≤ 140737488355328 := by have := h.n0; omega
  have hm2 : I.nl ≤ 140737488355328 := by have := h.n0; have := h.same; omega
  have HD := Lib.hid (Blk.new w 24 #[.slice I.A I.n I.c, .bool q])
  have HW := Lib.hid (below_alloc (Below.refl w.heap.size w) (.cells #[.slice I.A I.n I.c, .bool q] 24))
  have HOK := Lib.hid (fun (ww : World) (hb : Below w.heap.size w ww) => (h.below hb (Nat.le_refl _)).more hb.size)
  have HDC := Lib.hid (fun (ww : World) (hb : Below w.heap.size w ww) => dcheck_calls I.A I.n I.c ww.heap.size q I.ns ww h.hn (HOK.out ww hb).nodes (Nat.le_refl _) hm)
  have HFI := Lib.hid (fun (ww : World) (hb : Below w.heap.size w ww) => sfits_calls I.A I.n I.c ww.heap.size q I.ns I.Al I.nl I.cl I.lz ww h.hn (HOK.out ww hb).nodes (Nat.le_refl _) hm h.hl (HOK.out ww hb).looks hm2)
  rw [hc] at HDC
  rw [hfit] at HFI
  obtain ⟨i1, i2, i3⟩ := (pbox_calls I hc (rankN I.ns 0)).content h.hn (Nat.le_refl _)
  have hcl := content_len I hc 0
  have hroot : (docB I (docOk hc)).rootT 0 = (docB I (docOk hc)).containerT 0 (((docB I (docOk hc)).content 0).map (docB I (docOk hc)).box) := rfl
  have hsz := root_le I hc
  have HCO := Lib.hid (fun w' (hb : Below w.heap.size w w') => content_says I hc 0 w' (HOK.out w' hb) hpos)
  have HBX := Lib.hid (fun (A' : Option Addr) (c' : Nat) w' (hb : Below w.heap.size w w') (hH : Holds w' w'.heap.size A' (nums ((docB I (docOk hc)).content 0))) => boxesB_calls (docB I (docOk hc)) I ((docB I (docOk hc)).content 0) A' ((docB I (docOk hc)).content 0).length c' w' (HOK.out w' hb) rfl hH hcl i3)
  have HCT := Lib.hid (fun (A : Option Addr) (c : Nat) (Q : Nat → Prop) w' (hb : Below w.heap.size w w') (hcap : ((docB I (docOk hc)).content 0).length ≤ c) (hk : KidsAt w' Q (((docB I (docOk hc)).content 0).map (docB I (docOk hc)).box) A ((docB I (docOk hc)).content 0).length) (hq : ∀ b, Q b → b < w'.heap.size) => container_calls I (docOk hc) 0 (((docB I (docOk hc)).content 0).map (docB I (docOk hc)).box) A ((docB I (docOk hc)).content 0).length c Q w' (by omega) hcap (HOK.out w' hb) hk hq (boxes_ok I (docOk hc) h.hn i1))
  rw [← hroot] at HCT
  have HFL := Lib.hid (fun (A : Option Addr) (m c : Nat) (Q : Nat → Prop) (w' : World) (hk : KidsAt w' Q ((docB I (docOk hc)).rootT 0).kids A m) (hq : ∀ b, Q b → b < w'.heap.size) => flat_calls 1608 ((docB I (docOk hc)).rootT 0) A m c (-1) Q w'.heap.size none 0 0 [] w' hsz hq (Nat.le_refl _) hk (boxL_nil _ _) rfl (FewS.weak fewS_nil) (by omega))
  have HE : Hid (flatR ((docB I (docOk hc)).rootT 0) (-1) [] = flatP ((docB I (docOk hc)).rootT 0) (-1) []) := rfl
  rw [HE.out]
  unfold FlatSays at HFL
  rw [List.map_nil] at HFL
  unfold ContSays at HCO

  generalize flatP ((docB I (docOk hc)).rootT 0) (-1) [] = S9 at HFL ⊢
  generalize (docB I (docOk hc)).rootT 0 = RT at HCT HFL
  generalize ((docB I (docOk hc)).content 0).map (docB I (docOk hc)).box = TS at HBX HCT
  generalize (docB I (docOk hc)).content 0 = CL at HCO HBX HCT
  obtain ⟨ck, cn, ctx, cks⟩ := RT
  unfold treeC at HFL
  unfold mkA at HCO HBX HCT
  clear h hpos hm hm2 HOK i1 i2 i3 hcl hroot hsz HE hfit
  go_enter Tryz.func6, Tryz.ntmps6
  go_upto_region 8 with (first | (go_at_call 26; refine (HDC.out _ HW.out).mono ?_; rintro e w1 ⟨rfl, hb1⟩; have HB1 := Lib.hid (below_then HW.out hb1); have HD1 := Lib.hid (HD.out.below hb1 HD.out.lt); have d0 : w1.cell? ⟨w.heap.size, 0, none⟩ = some (.slice I.A I.n I.c) := HD1.out.cell 0; have d1 : w1.cell? ⟨w.heap.size, 1, none⟩ = some (.bool q) := HD1.out.cell 1; clear hb1) | (go_at_call 27; refine (HFI.out w1 HB1.out).mono ?_; rintro e w2 ⟨rfl, hb2⟩; have HB2 := Lib.hid (below_then HB1.out hb2); have e0 : w2.cell? ⟨w.heap.size, 0, none⟩ = some (.slice I.A I.n I.c) := (HD1.out.below hb2 HD1.out.lt).cell 0; clear hb2))
  have hM8 := Blk.new w2 69 #[.slice I.A I.n I.c, .slice I.Al I.nl I.cl]
  have HM := Lib.hid hM8
  replace HB2 := Lib.hid (below_then HB2.out (below_alloc (Below.refl w2.heap.size w2) (.cells #[.slice I.A I.n I.c, .slice I.Al I.nl I.cl] 69)))
  clear hM8 HDC HFI HD HW
  generalize World.alloc w2 _ = w3 at HM HB2 ⊢
  generalize w2.heap.size = g at HM ⊢
  have HS : Hid (Below w.heap.size w (World.drew w3)) := ⟨HB2.out.os, HB2.out.tape, HB2.out.output, HB2.out.size, HB2.out.block⟩
  have HM : Hid (Blk (World.drew w3) g 69 #[.slice I.A I.n I.c, .slice I.Al I.nl I.cl]) := HM.out
  have hS0 : (fun w' : World => w'.cell? ⟨g, 0, none⟩ = some (.slice I.A I.n I.c) ∧ w'.cell? ⟨g, 1, none⟩ = some (.slice I.Al I.nl I.cl)) (World.drew w3) := ⟨HM.out.cell 0, HM.out.cell 1⟩
  clear HB2
  refine wp_region_noPanic ?_
  refine region_M (S := fun w' => w'.cell? ⟨g, 0, none⟩ = some (.slice I.A I.n I.c) ∧ w'.cell? ⟨g, 1, none⟩ = some (.slice I.Al I.nl I.cl)) (T := []) (by kernel_rfl) ?_
  generalize World.drew w3 = wd at HS HM hS0 ⊢
  refine anyM_take (i := 0) (oi := { dst := some 24, op := _, type := _, pos := _, after := _, guard := _ }) (v := ?_) rfl (by kernel_rfl) (fun _ _ _ h => h) (Or.inl ⟨by kernel_rfl, ?_⟩) hS0 ?_
  rotate_left 1
  · (intro w hSw; (try dsimp only at hSw); go_simp; try with_reducible rfl)
  try simp only [Act.put, Array.toArray_toList, List.setIfInBounds_toArray, List.set_cons_zero, List.set_cons_succ]
  refine anyM_take (i := 1) (oi := { dst := some 25, op := _, type := _, pos := _, after := _, guard := _ }) (v := ?_) rfl (by kernel_rfl) (fun _ _ _ h => h) (Or.inl ⟨by kernel_rfl, ?_⟩) hS0 ?_
  rotate_left 1
  · (intro w hSw; (try dsimp only at hSw); go_simp; try with_reducible rfl)
  try simp only [Act.put, Array.toArray_toList, List.setIfInBounds_toArray, List.set_cons_zero, List.set_cons_succ]
  refine anyM_take (i := 2) (oi := { dst := some 26, op := _, type := _, pos := _, after := _, guard := _ }) (v := ?_) rfl (by kernel_rfl) (fun _ _ _ h => h) (Or.inl ⟨by kernel_rfl, ?_⟩) hS0 ?_
  rotate_left 1
  · (intro w hSw; (try dsimp only at hSw); go_simp; try with_reducible rfl)
  try simp only [Act.put, Array.toArray_toList, List.setIfInBounds_toArray, List.set_cons_zero, List.set_cons_succ]
  refine anyM_one (i := 3) (by kernel_rfl) rfl (fun K hK => ?_)
  go_simp
  refine Calls.mono (HCO.out _ HS.out) ?_
  rintro e wc ⟨A', c', rfl, hcp, hhd, hbc⟩
  have HHD := Lib.hid hhd
  replace HS := Lib.hid (below_then HS.out hbc)
  replace HM := Lib.hid (HM.out.below hbc HM.out.lt)
  have hS0 : (fun w' : World => w'.cell? ⟨g, 0, none⟩ = some (.slice I.A I.n I.c) ∧ w'.cell? ⟨g, 1, none⟩ = some (.slice I.Al I.nl I.cl)) wc := ⟨HM.out.cell 0, HM.out.cell 1⟩
  clear hcp hhd hbc
  refine hK.out _ _ (fun _ => hS0) ?_
  clear hK K
  try simp only [Act.put, Array.toArray_toList, List.setIfInBounds_toArray, List.set_cons_zero, List.set_cons_succ]
  refine anyM_one (i := 4) (by kernel_rfl) rfl (fun K hK => ?_)
  go_simp
  refine Calls.mono (HBX.out _ _ _ HS.out HHD.out) ?_
  rintro e wa ⟨Ab, cb, rfl, hcb, hka, hba⟩
  have HCB := Lib.hid hcb
  have HKA := Lib.hid hka
  replace HS := Lib.hid (below_then HS.out hba)
  replace HM := Lib.hid (HM.out.below hba HM.out.lt)
  have hS0 : (fun w' : World => w'.cell? ⟨g, 0, none⟩ = some (.slice I.A I.n I.c) ∧ w'.cell? ⟨g, 1, none⟩ = some (.slice I.Al I.nl I.cl)) wa := ⟨HM.out.cell 0, HM.out.cell 1⟩
  clear hcb hka hba
  refine hK.out _ _ (fun _ => hS0) ?_
  clear hK K
  try simp only [Act.put, Array.toArray_toList, List.setIfInBounds_toArray, List.set_cons_zero, List.set_cons_succ]
  refine anyM_one (i := 5) (by kernel_rfl) rfl (fun K hK => ?_)
  go_simp
  refine Calls.mono (HCT.out _ _ _ _ HS.out HCB.out HKA.out (fun b hq => And.right hq)) ?_
  rintro e we ⟨A9, m9, c9, he, hk9, hb9⟩
  obtain rfl : e = .returned (.agg #[.int .i64 ck, .int .i64 cn, .int .i64 0, .slice none 0 0, .string ctx, .slice A9 m9 c9]) := he
  have HK9 := Lib.hid hk9
  have HQ9 := Lib.hid (fun (b : Nat) (hq : MadeQ wc wa b ∨ MadeQ wa we b) => hq.elim (fun h => Nat.lt_of_lt_of_le h.2 hb9.size) (fun h => h.2))
  replace HS := Lib.hid (below_then HS.out hb9)
  replace HM := Lib.hid (HM.out.below hb9 HM.out.lt)
  have hS0 : (fun w' : World => w'.cell? ⟨g, 0, none⟩ = some (.slice I.A I.n I.c) ∧ w'.cell? ⟨g, 1, none⟩ = some (.slice I.Al I.nl I.cl)) we := ⟨HM.out.cell 0, HM.out.cell 1⟩
  clear hk9 hb9
  refine hK.out _ _ (fun _ => hS0) ?_
  clear hK K
  try simp only [Act.put, Array.toArray_toList, List.setIfInBounds_toArray, List.set_cons_zero, List.set_cons_succ]
  refine anyM_one (i := 6) (by kernel_rfl) rfl (fun K hK => ?_)
  go_simp
  refine Calls.mono (HFL.out _ _ _ _ _ HK9.out HQ9.out) ?_
  rintro e wf ⟨A8, n8, c8, rs8, rfl, hn8, hl8, hf8, hm8, hb8⟩
  have HN8 := Lib.hid hn8
  have HL8 := Lib.hid hl8
  have HF8 := Lib.hid hf8
  have HM8 := Lib.hid hm8
  replace HS := Lib.hid (below_then HS.out hb8)
  replace HM := Lib.hid (HM.out.below hb8 HM.out.lt)
  have hS0 : (fun w' : World => w'.cell? ⟨g, 0, none⟩ = some (.slice I.A I.n I.c) ∧ w'.cell? ⟨g, 1, none⟩ = some (.slice I.Al I.nl I.cl)) wf := ⟨HM.out.cell 0, HM.out.cell 1⟩
  clear hn8 hl8 hf8 hm8 hb8
  refine hK.out _ _ (fun _ => hS0) ?_
  clear hK K
  try simp only [Act.put, Array.toArray_toList, List.setIfInBounds_toArray, List.set_cons_zero, List.set_cons_succ]
  refine anyM_free (i := 7) (oi := { dst := some 4, op := _, type := _, pos := _, after := _, guard := _ }) (v := ?_) rfl (by kernel_rfl) (fun _ _ _ h => h) (Or.inl ⟨by kernel_rfl, ?_⟩) (fun _ => hS0) ?_
  rotate_left 1
  · (intro w hSw; (try dsimp only at hSw); go_simp; try with_reducible rfl)
  try simp only [Act.put, Array.toArray_toList, List.setIfInBounds_toArray, List.set_cons_zero, List.set_cons_succ]
  refine anyM_free (i := 8) (oi := { dst := some 5, op := _, type := _, pos := _, after := _, guard := _ }) (v := ?_) rfl (by kernel_rfl) (fun _ _ _ h => h) (Or.inl ⟨by kernel_rfl, ?_⟩) (fun _ => hS0) ?_
  rotate_left 1
  · (intro w hSw; (try dsimp only at hSw); go_simp; try with_reducible rfl)
  try simp only [Act.put, Array.toArray_toList, List.setIfInBounds_toArray, List.set_cons_zero, List.set_cons_succ]
  refine anyM_done (by kernel_rfl) ?_ _
  refine NoPanic.normal ?_
  clear hS0
  go_wp2_with fail
  exact bodyPost_ret (results_tmp2 rfl _ _ _) rfl ⟨A8, n8, c8, _, rs8, rfl, HN8.out, HL8.out, HF8.out, HM8.out, HS.out⟩
end Go.Proofs.YtkmmlcnoeeaekaaGreatDoor
/- Contracts of the reference's each, and of the end of a run. -/
namespace Go.Proofs.YtkmmlcnoeeaekaaGreatDoor
open Go.RowKit Go.Maps
set_option linter.unusedVariables false
set_option linter.unusedSimpArgs false

/-- A call that puts boxes. -/
def Puts (X : DocB) (I : BxV) (base gM bK : Nat) (S' : List PBox) (O : Nat → Prop) (w : World) (e : Ending) (w' : World) : Prop := e = .returned (.tuple #[]) ∧ ∃ O', RSB X I base gM bK O' w' S' ∧ TurnW O w O' w'
/-- What Box says of a node. -/
def RBoxSays (X : DocB) (I : BxV) (base gM bK k : Nat) : Prop := ∀ (O : Nat → Prop) (S : List PBox) (w : World) (pr : Int), RSB X I base gM bK O w S → pr < S.length → (flatR (X.box k) pr S).length ≤ 2000 →
  Calls Tryz.prog 74 #[.pointer (some ⟨gM, 0, none⟩), .int .i64 (k : Nat), .int .i64 pr] w (Puts X I base gM bK (flatR (X.box k) pr S) O w)
set_option maxRecDepth 100000 in
set_option maxHeartbeats 4000000 in
theorem reach_calls (X : DocB) (I : BxV) (base gM bK : Nat) (l : List Nat) (A : Option Addr) (n c at_ : Nat) (O : Nat → Prop) (S : List PBox) (w : World) (h : RSB X I base gM bK O w S) (hl : l.length = n) (hL : Held O w A l) (hm : n ≤ 1000) (hat : at_ < S.length) (hsz : (flatPs (l.map X.box) at_ S).length ≤ 2000) (HB : ∀ k ∈ l, RBoxSays X I base gM bK k) :
    Calls Tryz.prog 68 #[.pointer (some ⟨gM, 0, none⟩), .slice A n c, .int .i64 (at_ : Nat)] w (Puts X I base gM bK (flatPs (l.map X.box) at_ S) O w) := by
  have HH := Lib.hid hL
  have HN := Lib.hid hl
  have HR0 := Lib.hid h
  have HBS := Lib.hid HB
  have HAT := Lib.hid hat
  obtain ⟨r, hr⟩ : ∃ r, r = flatPs (l.map X.box) at_ S := ⟨_, rfl⟩
  rw [← hr] at hsz ⊢
  have HR := Lib.hid hr
  have HSZ := Lib.hid hsz
  unfold Puts
  clear h hl hL hr HB hat hsz
  go_enter Tryz.func68, Tryz.ntmps68
  go_wp2_with fail
  go_loopw [10] (fun i wr => ∃ (k : Nat) (O' : Nat → Prop) (S' : List PBox), k ≤ n ∧ i = .int .i64 k ∧ Hid (r = flatPs ((l.drop k).map X.box) at_ S') ∧ Hid (RSB X I base gM bK O' wr S') ∧ Hid (TurnW O w O' wr) ∧ Hid (at_ < S'.length)) (fun i _ => n - (intOf i).toNat)
  case atStart => exact ⟨0, O, S, Nat.zero_le _, rfl, HR.out, HR0.out, TurnW.refl _ _, HAT.out⟩
  case round =>
    obtain ⟨k, O', S', hk, rfl, HK, HS, HT, HA'⟩ := hrel
    by_cases hlt : k < n
    · have hkl : k < l.length := by rw [HN.out]; exact hlt
      obtain ⟨b, off, hA, hb, ho, hc⟩ := (HH.out.turn HT.out) (by omega)
      subst hA
      have c0 := hc k hkl
      obtain ⟨t, ht⟩ : ∃ t, t = l.getD k 0 := ⟨_, rfl⟩
      rw [← ht] at c0
      have htk : l[k] = t := by rw [ht, List.getD_eq_getElem?_getD, List.getElem?_eq_getElem hkl]; rfl
      have HD : Hid (r = flatPs ((l.drop (k + 1)).map X.box) at_ (flatR (X.box t) at_ S')) := by show _ = _; rw [HK.out, List.drop_eq_getElem_cons hkl, htk, List.map_cons, flatPs_cons]
      have hmem : t ∈ l := by rw [← htk]; exact List.getElem_mem hkl
      have hfl : (flatR (X.box t) at_ S').length ≤ 2000 := Nat.le_trans (by rw [HD.out]; exact flatPs_len _ _ _) HSZ.out
      have hcb := HBS.out t hmem O' S' wr (at_ : Nat) HS.out (by have := HA'.out; omega) hfl
      unfold Puts at hcb
      have HC := Lib.hid hcb
      have HA2 : Hid (at_ < (flatR (X.box t) at_ S').length) := by show _ < _; rw [flatR_size]; have := HA'.out; omega
      clear ht hkl htk hmem hb ho hc hcb hfl
      generalize flatR (X.box t) at_ S' = S2 at HD HC HA2
      go_wp2_with (go_at_call 74; refine HC.out.mono ?_; rintro e w1 ⟨rfl, O1, hr1, ht1⟩; have HR1 := Lib.hid hr1; have HT1 := Lib.hid (HT.out.trans ht1); clear hr1 ht1)
      go_round
      case rel => exact ⟨k + 1, O1, S2, by omega, by go_num, HD.out, HR1.out, HT1.out, HA2.out⟩
      case measure => simp [intOf]; omega
    · obtain rfl : k = n := by omega
      have HE : Hid (r = S') := by show _ = _; rw [HK.out, ← HN.out, List.drop_length]; rfl
      go_wp2_with fail
      (try simp only [Exit.inBlock, Exit.then]); refine bodyPost_end (results_none rfl _ _ _) rfl ?_
      exact ⟨rfl, O', by rw [HE.out]; exact HS.out, HT.out⟩
/-- Blocks that stand as they are. -/
def EnvL (L : List (Nat × TypeId × Array Value)) (O : Nat → Prop) (w : World) : Prop := ∀ x ∈ L, BlkF O w x.1 x.2.1 x.2.2
theorem EnvL.turn {L : List (Nat × TypeId × Array Value)} {O O' : Nat → Prop} {w w' : World} (h : EnvL L O w) (ht : TurnW O w O' w') : EnvL L O' w' := fun x hx => (h x hx).turn ht
theorem EnvL.set {L : List (Nat × TypeId × Array Value)} {O : Nat → Prop} {w : World} (h : EnvL L O w) {g : Nat} (hg : ∀ x ∈ L, x.1 ≠ g) (i : Nat) (u : Value) : EnvL L O (w.setCell ⟨g, i, none⟩ u) := fun x hx => ⟨(h x hx).1.far (hg x hx) u, (h x hx).2⟩
theorem Held.far {O : Nat → Prop} {w : World} {A : Option Addr} {l : List Nat} (h : Held O w A l) {g : Nat} (hg : ∀ b off, A = some ⟨b, off, none⟩ → 0 < l.length → b ≠ g) (i : Nat) (u : Value) : Held O (w.setCell ⟨g, i, none⟩ u) A l := fun hn => by
  obtain ⟨b, off, hA, hb, ho, hc⟩ := h hn
  exact ⟨b, off, hA, by simpa using hb, ho, fun j hj => (cell_same (Below.heap_setCell w ⟨g, i, none⟩ u b (hg b off hA hn))).trans (hc j hj)⟩
/-- The closures of runs: a run told. -/
def IsRun (f : Nat) : Prop := f = 75 ∨ f = 119 ∨ f = 125 ∨ f = 124
def RunR (X : DocB) (I : BxV) (base gM bK fr g1 g2 at_ : Nat) (L : List (Nat × TypeId × Array Value)) (run : List Nat → TreeV) (l : List Nat) : Prop := ∀ (us : List Nat) (A : Option Addr) (m c : Nat) (O : Nat → Prop) (S : List PBox) (w : World), (∀ k ∈ us, k ∈ l) → us.length = m → m ≤ l.length → RSB X I base gM bK O w S → EnvL L O w → Held O w A us → at_ < S.length → (flatR (run us) at_ S).length ≤ 2000 →
  Calls Tryz.prog fr #[.slice A m c, .pointer (some ⟨g1, 0, none⟩), .pointer (some ⟨g2, 0, none⟩)] w (Puts X I base gM bK (flatR (run us) at_ S) O w)
/-- What the end of a run says. -/
def EndSays (X : DocB) (I : BxV) (base gM bK g10 : Nat) (S' : List PBox) (O : Nat → Prop) (w : World) (e : Ending) (w' : World) : Prop := e = .returned (.tuple #[]) ∧ ∃ O' w1, w' = w1.setCell ⟨g10, 0, none⟩ (.slice none 0 0) ∧ RSB X I base gM bK O' w1 S' ∧ TurnW O w O' w1
set_option maxRecDepth 100000 in
set_option maxHeartbeats 4000000 in
theorem runsEnd_calls (I : BxV) (hc : checkE I.ns = 0) (base gM bK fr g1 g2 at_ g5 g9 g10 : Nat) (hfr : IsRun fr) (L : List (Nat × TypeId × Array Value)) (run : List Nat → TreeV) (l us : List Nat) (An : Option Addr) (mn cn : Nat) (O : Nat → Prop) (S : List PBox) (w : World)
    (h : RSB (docB I (docOk hc)) I base gM bK O w S) (hE : EnvL L O w) (h5 : BlkF O w g5 81 #[.pointer (some ⟨gM, 0, none⟩)]) (h9 : BlkF O w g9 131 #[.func (.func fr) #[] #[.pointer (some ⟨g1, 0, none⟩), .pointer (some ⟨g2, 0, none⟩)]]) (h10 : BlkF O w g10 44 #[.slice An mn cn])
    (hus : ∀ k ∈ us, k ∈ l) (hlen : us.length = mn) (hml : mn ≤ l.length) (hH : Held O w An us) (hm : mn ≤ 1000) (hat : at_ < S.length) (hlt : ∀ k ∈ l, k < I.n)
    (hsz : (if (docB I (docOk hc)).idleT (us.map (docB I (docOk hc)).box) = true then S else flatR (run us) at_ S).length ≤ 2000) (HR : RunR (docB I (docOk hc)) I base gM bK fr g1 g2 at_ L run l) :
    Calls Tryz.prog 113 #[.pointer (some ⟨g5, 0, none⟩), .pointer (some ⟨g10, 0, none⟩), .pointer (some ⟨g9, 0, none⟩)] w (EndSays (docB I (docOk hc)) I base gM bK g10 (if (docB I (docOk hc)).idleT (us.map (docB I (docOk hc)).box) = true then S else flatR (run us) at_ S) O w) := by
  have HI := Lib.hid (ridleM_calls I hc base gM bK us An mn cn O S w h hlen hH hm (fun k hk => hlt k (hus k hk)))
  obtain ⟨idl, hidl⟩ : ∃ idl, idl = (docB I (docOk hc)).idleT (us.map (docB I (docOk hc)).box) := ⟨_, rfl⟩
  rw [← hidl] at HI hsz ⊢
  have HRN : Hid (idl = false → ∀ (O' : Nat → Prop) (w' : World), RSB (docB I (docOk hc)) I base gM bK O' w' S → TurnW O w O' w' → Calls Tryz.prog fr #[.slice An mn cn, .pointer (some ⟨g1, 0, none⟩), .pointer (some ⟨g2, 0, none⟩)] w' (Puts (docB I (docOk hc)) I base gM bK (flatR (run us) at_ S) O' w')) :=
    fun hi O' w' hr ht => HR us An mn cn O' S w' hus hlen hml hr (hE.turn ht) (hH.turn ht) hat (by rw [hi] at hsz; simpa using hsz)
  have H5 := Lib.hid h5
  have H9 := Lib.hid h9
  have H10 := Lib.hid h10
  unfold EndSays
  unfold Tells at HI
  unfold Puts at HRN
  have c5 : w.cell? ⟨g5, 0, none⟩ = some (.pointer (some ⟨gM, 0, none⟩)) := h5.1.cell 0
  have c10 : w.cell? ⟨g10, 0, none⟩ = some (.slice An mn cn) := h10.1.cell 0
  clear hidl h hE h5 h9 h10 hus hlen hml hH hat hlt hsz HR
  generalize flatR (run us) at_ S = S2 at HRN ⊢
  go_enter Tryz.func113, Tryz.ntmps113
  cases idl with
  | true =>
    go_wp2_with (go_at_call 114; refine HI.out.mono ?_; rintro e w1 ⟨rfl, hr1, ht1⟩; have HR1 := Lib.hid hr1; have HT1 := Lib.hid ht1; have f10 : w1.frozen? ⟨g10, 0, none⟩ = false := (H10.out.turn ht1).1.free 0; have d10 : w1.cell? ⟨g10, 0, none⟩ = some (.slice An mn cn) := (H10.out.turn ht1).1.cell 0; clear hr1 ht1)
    (try simp only [Exit.inBlock, Exit.then]); refine bodyPost_end (results_none rfl _ _ _) rfl ?_
    exact ⟨rfl, O, w1, rfl, HR1.out, HT1.out⟩
  | false =>
    have HRX := Lib.hid (HRN.out rfl)
    clear HRN
    rcases hfr with rfl | rfl | rfl | rfl
    all_goals
      go_wp2_with (first | (go_at_call 114; refine HI.out.mono ?_; rintro e w1 ⟨rfl, hr1, ht1⟩; have HR1 := Lib.hid hr1; have HT1 := Lib.hid ht1; have d9 : w1.cell? ⟨g9, 0, none⟩ = some (.func (.func _) #[] #[.pointer (some ⟨g1, 0, none⟩), .pointer (some ⟨g2, 0, none⟩)]) := (H9.out.turn ht1).1.cell 0; have d10 : w1.cell? ⟨g10, 0, none⟩ = some (.slice An mn cn) := (H10.out.turn ht1).1.cell 0; clear hr1 ht1) | ((first | go_at_call 75 | go_at_call 119 | go_at_call 125 | go_at_call 124); refine (HRX.out O w1 HR1.out HT1.out).mono ?_; rintro e w2 ⟨rfl, O2, hr2, ht2⟩; have HR2 := Lib.hid hr2; have HT2 := Lib.hid (HT1.out.trans ht2); have f10 : w2.frozen? ⟨g10, 0, none⟩ = false := (H10.out.turn HT2.out).1.free 0; have e10 : w2.cell? ⟨g10, 0, none⟩ = some (.slice An mn cn) := (H10.out.turn HT2.out).1.cell 0; clear hr2 ht2))
      (try simp only [Exit.inBlock, Exit.then]); refine bodyPost_end (results_none rfl _ _ _) rfl ?_
      exact ⟨rfl, O2, w2, rfl, HR2.out, HT2.out⟩
end Go.Proofs.YtkmmlcnoeeaekaaGreatDoor
