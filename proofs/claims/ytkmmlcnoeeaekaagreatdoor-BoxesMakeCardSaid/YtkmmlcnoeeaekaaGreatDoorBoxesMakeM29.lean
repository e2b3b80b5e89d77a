/- Several texts in one: BxQ. -/
import Derived.Test.YtkmmlcnoeeaekaaGreatDoorBoxesMakeM28
/- Contracts: idleNodes, the closures of cells. -/
namespace Go.Proofs.YtkmmlcnoeeaekaaGreatDoor
open Go.RowKit
set_option linter.unusedVariables false
set_option linter.unusedSimpArgs false

set_option maxRecDepth 100000 in
set_option maxHeartbeats 4000000 in
theorem idleNodes_calls (I : BxV) (hc : DocOk I.ns) (l : List Nat) (Al : Option Addr) (nl cl : Nat) (w : World) (h : I.ok w w.heap.size) (hl : l.length = nl) (hL : Holds w w.heap.size Al (nums l)) (hm : nl ≤ 200) (hlt : ∀ k ∈ l, k < I.n)
    (IH : ∀ k ∈ l, ∀ w' : World, I.ok w' w'.heap.size → BoxSays (docB I hc) I k w') :
    Calls Tryz.prog 162 #[mkA I, .slice Al nl cl] w fun e w' => e = .returned (.bool ((docB I hc).idleT (l.map (docB I hc).box))) ∧ Below w.heap.size w w' := by
  have hR := MkR.new I w #[.int .i64 0, .int .i64 0, .int .i64 0, .slice none 0 0, .string ⟨#[]⟩, .slice none 0 0] rfl
  have HB := Lib.hid (below_alloc (Below.refl w.heap.size w) (.cells #[.slice I.A I.n I.c, .slice I.Al I.nl I.cl] 69))
  have HM := Lib.hid (mkB_new I w)
  have HBX := Lib.hid (fun w' (hb : Below w.heap.size w w') => boxesB_calls (docB I hc) I l Al nl cl w' ((h.below hb (Nat.le_refl _)).more hb.size) hl ((hL.below hb (Nat.le_refl _)).more hb.size) hm IH)
  have HID := Lib.hid (fun (A : Option Addr) (c : Nat) (Q : Nat → Prop) w' (hb : Below w.heap.size w w') (hk : KidsAt w' Q ((l.map (docB I hc).box)) A nl) (hq : ∀ b, Q b → b < w'.heap.size) => idleM_calls I hc (l.map (docB I hc).box) A nl c Q w' (by omega) ((h.below hb (Nat.le_refl _)).more hb.size) hk hq (boxes_ok I hc h.hn hlt))
  generalize (docB I hc).idleT (l.map (docB I hc).box) = id at HID ⊢
  generalize l.map (docB I hc).box = TS at HBX HID
  clear h hl hL IH hlt hR
  unfold mkA at HID HBX ⊢
  go_enter Tryz.func162, Tryz.ntmps162
  go_upto_region 1 with fail
  generalize World.alloc w _ = w1 at HB HM ⊢
  have hS0 : (fun w' => w'.cell? ⟨w.heap.size, 0, none⟩ = some (.slice I.A I.n I.c) ∧ w'.cell? ⟨w.heap.size, 1, none⟩ = some (.slice I.Al I.nl I.cl)) w1 := ⟨Blk.cell HM.out 0, Blk.cell HM.out 1⟩
  refine wp_region_noPanic ?_
  refine region_M (S := fun w' => w'.cell? ⟨w.heap.size, 0, none⟩ = some (.slice I.A I.n I.c) ∧ w'.cell? ⟨w.heap.size, 1, none⟩ = some (.slice I.Al I.nl I.cl)) (T := []) (by kernel_rfl) ?_
  refine anyM_take (i := 0) (oi := { dst := some 5, op := _, type := _, pos := _, after := _, guard := _ }) (v := ?_) rfl (by kernel_rfl) (fun _ _ _ h => h) (Or.inl ⟨by kernel_rfl, ?_⟩) hS0 ?_
  rotate_left 1
  · (intro w hSw; (try dsimp only at hSw); go_simp; try with_reducible rfl)
  try simp only [Act.put, Array.toArray_toList, List.setIfInBounds_toArray, List.set_cons_zero, List.set_cons_succ]
  refine anyM_take (i := 1) (oi := { dst := some 6, op := _, type := _, pos := _, after := _, guard := _ }) (v := ?_) rfl (by kernel_rfl) (fun _ _ _ h => h) (Or.inl ⟨by kernel_rfl, ?_⟩) hS0 ?_
  rotate_left 1
  · (intro w hSw; (try dsimp only at hSw); go_simp; try with_reducible rfl)
  try simp only [Act.put, Array.toArray_toList, List.setIfInBounds_toArray, List.set_cons_zero, List.set_cons_succ]
  refine anyM_free (i := 2) (oi := { dst := some 7, op := _, type := _, pos := _, after := _, guard := _ }) (v := ?_) rfl (by kernel_rfl) (fun _ _ _ h => h) (Or.inl ⟨by kernel_rfl, ?_⟩) (fun _ => hS0) ?_
  rotate_left 1
  · (intro w hSw; (try dsimp only at hSw); go_simp; try with_reducible rfl)
  try simp only [Act.put, Array.toArray_toList, List.setIfInBounds_toArray, List.set_cons_zero, List.set_cons_succ]
  refine anyM_one (i := 3) (by kernel_rfl) rfl (fun K hK => ?_)
  go_simp
  refine Calls.mono (HBX.out _ (by first | exact HB.out | exact HB.out.drew)) ?_
  rintro e wa ⟨Ab, cb, rfl, hcb, hkwa, hbwa⟩
  replace HM := Lib.hid (show MkB I w.heap.size wa from (by first | exact Blk.below HM.out hbwa (Blk.lt HM.out) | exact Blk.below (Blk.drew HM.out) hbwa (Blk.lt HM.out)))
  have HBW := Lib.hid hbwa
  replace HB := Lib.hid (by first | exact below_then HB.out hbwa | exact below_then HB.out.drew hbwa)
  have HKA := Lib.hid hkwa
  clear hkwa hbwa hcb
  have hS0 : (fun w' => w'.cell? ⟨w.heap.size, 0, none⟩ = some (.slice I.A I.n I.c) ∧ w'.cell? ⟨w.heap.size, 1, none⟩ = some (.slice I.Al I.nl I.cl)) wa := ⟨Blk.cell HM.out 0, Blk.cell HM.out 1⟩
  refine hK.out _ _ (fun _ => hS0) ?_
  clear hK K
  try simp only [Act.put, Array.toArray_toList, List.setIfInBounds_toArray, List.set_cons_zero, List.set_cons_succ]
  refine anyM_one (i := 4) (by kernel_rfl) rfl (fun K hK => ?_)
  go_simp
  refine Calls.mono (HID.out _ _ _ _ (by first | exact HB.out | exact HB.out.drew) HKA.out (fun b hq => And.right hq)) ?_
  rintro e wb ⟨rfl, hbwb⟩
  replace HM := Lib.hid (show MkB I w.heap.size wb from Blk.below HM.out hbwb (Blk.lt HM.out))
  replace HB := Lib.hid (by first | exact below_then HB.out hbwb | exact below_then HB.out.drew hbwb)
  clear hbwb
  have hS0 : (fun w' => w'.cell? ⟨w.heap.size, 0, none⟩ = some (.slice I.A I.n I.c) ∧ w'.cell? ⟨w.heap.size, 1, none⟩ = some (.slice I.Al I.nl I.cl)) wb := ⟨Blk.cell HM.out 0, Blk.cell HM.out 1⟩
  refine hK.out _ _ (fun _ => hS0) ?_
  clear hK K
  try simp only [Act.put, Array.toArray_toList, List.setIfInBounds_toArray, List.set_cons_zero, List.set_cons_succ]
  refine anyM_free (i := 5) (oi := { dst := some 4, op := _, type := _, pos := _, after := _, guard := _ }) (v := ?_) rfl (by kernel_rfl) (fun _ _ _ h => h) (Or.inl ⟨by kernel_rfl, ?_⟩) (fun _ => hS0) ?_
  rotate_left 1
  · (intro w hSw; (try dsimp only at hSw); go_simp; try with_reducible rfl)
  try simp only [Act.put, Array.toArray_toList, List.setIfInBounds_toArray, List.set_cons_zero, List.set_cons_succ]
  refine anyM_done (by kernel_rfl) ?_ _
  refine NoPanic.normal ?_
  go_wp2_with fail
  go_ret
  exact ⟨rfl, HB.out⟩

set_option maxRecDepth 100000 in
set_option maxHeartbeats 4000000 in
theorem cells1_calls (I : BxV) (hc : checkE I.ns = 0) (g k : Nat) (w : World) (h : I.ok w w.heap.size) (hM : MkB I g w) (hk : k < I.n)
    (IH : ∀ j ∈ (docB I (docOk hc)).content k, ∀ w' : World, I.ok w' w'.heap.size → BoxSays (docB I (docOk hc)) I j w') :
    Calls Tryz.prog 183 #[.int .i64 (k : Nat), .pointer (some ⟨g, 0, none⟩)] w (MadeT w ((docB I (docOk hc)).cellT (docB I (docOk hc)).box k ((docB I (docOk hc)).content k))) := by
  have HR := Lib.hid (MkR.clos I g w hM #[.int .i64 0, .int .i64 0, .int .i64 0, .slice none 0 0, .string ⟨#[]⟩, .slice none 0 0] rfl)
  have HCO := Lib.hid (fun w' (hb : Below w.heap.size w w') => content_says I hc k w' ((h.below hb (Nat.le_refl _)).more hb.size) hk)
  have hcl := content_len I hc k
  have HCE := Lib.hid (fun (A' : Option Addr) (c' : Nat) w' (hb : Below w.heap.size w w') (hH : Holds w' w'.heap.size A' (nums ((docB I (docOk hc)).content k))) => cellM_calls I (docOk hc) (k : Nat) ((docB I (docOk hc)).content k) A' ((docB I (docOk hc)).content k).length c' w' ((h.below hb (Nat.le_refl _)).more hb.size) rfl hH hcl (fun j hj => by have := content_lt I (docOk hc) hj; rw [h.hn] at this; exact this) IH)
  generalize (docB I (docOk hc)).cellT (docB I (docOk hc)).box k ((docB I (docOk hc)).content k) = CT at HCE ⊢
  unfold ContSays at HCO
  generalize (docB I (docOk hc)).content k = CL at HCO HCE
  clear h hM hk IH hcl
  unfold mkA at HCO HCE
  obtain ⟨ck, cn, ctx, cks⟩ := CT
  go_enter Tryz.func183, Tryz.ntmps183
  go_upto_region 1 with fail
  have HZ := Lib.hid (show (w.alloc (.cells #[.int .i64 0, .int .i64 0, .int .i64 0, .slice none 0 0, .string ⟨#[]⟩, .slice none 0 0] 75)).heap.size = w.heap.size + 1 by simp)
  generalize World.alloc w _ = w1 at HR HZ ⊢
  have hS0 : (fun w' => w'.cell? ⟨g, 0, none⟩ = some (.slice I.A I.n I.c) ∧ w'.cell? ⟨g, 1, none⟩ = some (.slice I.Al I.nl I.cl)) w1 := HR.out.s
  refine wp_region_noPanic ?_
  refine region_M (S := fun w' => w'.cell? ⟨g, 0, none⟩ = some (.slice I.A I.n I.c) ∧ w'.cell? ⟨g, 1, none⟩ = some (.slice I.Al I.nl I.cl)) (T := []) (by kernel_rfl) ?_
  refine anyM_take (i := 0) (oi := { dst := some 4, op := _, type := _, pos := _, after := _, guard := _ }) (v := ?_) rfl (by kernel_rfl) (fun _ _ _ h => h) (Or.inl ⟨by kernel_rfl, ?_⟩) hS0 ?_
  rotate_left 1
  · (intro w hSw; (try dsimp only at hSw); go_simp; try with_reducible rfl)
  try simp only [Act.put, Array.toArray_toList, List.setIfInBounds_toArray, List.set_cons_zero, List.set_cons_succ]
  refine anyM_free (i := 1) (oi := { dst := some 5, op := _, type := _, pos := _, after := _, guard := _ }) (v := ?_) rfl (by kernel_rfl) (fun _ _ _ h => h) (Or.inl ⟨by kernel_rfl, ?_⟩) (fun _ => hS0) ?_
  rotate_left 1
  · (intro w hSw; (try dsimp only at hSw); go_simp; try with_reducible rfl)
  try simp only [Act.put, Array.toArray_toList, List.setIfInBounds_toArray, List.set_cons_zero, List.set_cons_succ]
  refine anyM_take (i := 2) (oi := { dst := some 6, op := _, type := _, pos := _, after := _, guard := _ }) (v := ?_) rfl (by kernel_rfl) (fun _ _ _ h => h) (Or.inl ⟨by kernel_rfl, ?_⟩) hS0 ?_
  rotate_left 1
  · (intro w hSw; (try dsimp only at hSw); go_simp; try with_reducible rfl)
  try simp only [Act.put, Array.toArray_toList, List.setIfInBounds_toArray, List.set_cons_zero, List.set_cons_succ]
  refine anyM_free (i := 3) (oi := { dst := some 7, op := _, type := _, pos := _, after := _, guard := _ }) (v := ?_) rfl (by kernel_rfl) (fun _ _ _ h => h) (Or.inl ⟨by kernel_rfl, ?_⟩) (fun _ => hS0) ?_
  rotate_left 1
  · (intro w hSw; (try dsimp only at hSw); go_simp; try with_reducible rfl)
  try simp only [Act.put, Array.toArray_toList, List.setIfInBounds_toArray, List.set_cons_zero, List.set_cons_succ]
  refine anyM_one (i := 4) (by kernel_rfl) rfl (fun K hK => ?_)
  go_simp
  refine Calls.mono (HCO.out _ (by first | exact HR.out.bel | exact HR.out.drew.bel)) ?_
  rintro e wa ⟨A', c', rfl, hcp, hhd, hbwa⟩
  have HCP := Lib.hid hcp
  have HHD := Lib.hid hhd
  have HSA := Lib.hid (show w1.heap.size ≤ wa.heap.size from hbwa.size)
  replace HR := Lib.hid (by first | exact HR.out.call hbwa | exact HR.out.drew.call hbwa)
  clear hcp hhd hbwa
  have hS0 := HR.out.s
  refine hK.out _ _ (fun _ => hS0) ?_
  clear hK K
  try simp only [Act.put, Array.toArray_toList, List.setIfInBounds_toArray, List.set_cons_zero, List.set_cons_succ]
  refine anyM_one (i := 5) (by kernel_rfl) rfl (fun K hK => ?_)
  go_simp
  refine Calls.mono (HCE.out _ _ _ (by first | exact HR.out.bel | exact HR.out.drew.bel) (by first | exact HHD.out | exact HHD.out)) ?_
  rintro e wb ⟨A9, m9, c9, he, hk9, hb9⟩
  obtain rfl : e = .returned (.agg #[.int .i64 ck, .int .i64 cn, .int .i64 0, .slice none 0 0, .string ctx, .slice A9 m9 c9]) := he
  have HK9 := Lib.hid (show KidsAt wb (MadeQ w1 wb) _ _ _ from KidsAt.earlier hk9 HSA.out)
  have HSB := Lib.hid (Nat.le_trans (show w1.heap.size ≤ _ from HSA.out) hb9.size)
  replace HR := Lib.hid (by first | exact HR.out.call hb9 | exact HR.out.drew.call hb9)
  clear hk9 hb9
  have hS0 := HR.out.s
  refine hK.out _ _ (fun _ => hS0) ?_
  clear hK K
  try simp only [Act.put, Array.toArray_toList, List.setIfInBounds_toArray, List.set_cons_zero, List.set_cons_succ]
  refine anyM_one (i := 6) (by kernel_rfl) rfl (fun K hK => ?_)
  rw [if_pos (by kernel_rfl)]
  refine wp_store_mid _ _ _ rfl w.heap.size 0 #[.int .i64 ck, .int .i64 cn, .int .i64 0, .slice none 0 0, .string ctx, .slice A9 m9 c9] rfl rfl (by first | exact (HR.out.set2 #[.int .i64 ck, .int .i64 cn, .int .i64 0, .slice none 0 0, .string ctx, .slice A9 m9 c9] rfl).1 | exact (HR.out.drew.set2 #[.int .i64 ck, .int .i64 cn, .int .i64 0, .slice none 0 0, .string ctx, .slice A9 m9 c9] rfl).1) (by kernel_rfl) (by kernel_rfl) ?_
  first | (obtain ⟨wd, hwwd, hrwd, hzwd⟩ := (HR.out.set2 #[.int .i64 ck, .int .i64 cn, .int .i64 0, .slice none 0 0, .string ctx, .slice A9 m9 c9] rfl).2; rw [hwwd]; clear hwwd; replace HR := Lib.hid hrwd; have HZS := Lib.hid hzwd; clear hrwd hzwd) | (obtain ⟨wd, hwwd, hrwd, hzwd⟩ := (HR.out.drew.set2 #[.int .i64 ck, .int .i64 cn, .int .i64 0, .slice none 0 0, .string ctx, .slice A9 m9 c9] rfl).2; rw [hwwd]; clear hwwd; replace HR := Lib.hid hrwd; have HZS := Lib.hid hzwd; clear hrwd hzwd)
  change K (Act.put _ none undef) _
  have hS0 := HR.out.s
  refine hK.out _ _ (fun _ => hS0) ?_
  clear hK K
  try simp only [Act.put, Array.toArray_toList, List.setIfInBounds_toArray, List.set_cons_zero, List.set_cons_succ]
  refine anyM_done (by kernel_rfl) ?_ _
  refine NoPanic.normal ?_
  go_wp2_with fail
  exact bodyPost_ret (ret_tree Tryz.results183 _ _ w.heap.size _ rfl HR.out.res rfl) rfl ⟨_, _, _, rfl, KidsAt.earlier (KidsAt.moved (w1 := w1) HK9.out (by have := HZ.out; omega) HZS.out) (by have := HZ.out; omega), HR.out.bel⟩

/-- What comes back where all is new, and a bool. -/
def MadeB (w : World) (t : TreeV) (b : Bool) (e : Ending) (w' : World) : Prop := ∃ A m c, e = .returned (.tuple #[.agg (treeC t A m c).toArray, .bool b]) ∧ KidsAt w' (MadeQ w w') t.kids A m ∧ Below w.heap.size w w'
set_option maxRecDepth 100000 in
set_option maxHeartbeats 4000000 in
theorem cells2_calls (I : BxV) (hc : checkE I.ns = 0) (g : Nat) (l : List Nat) (Al : Option Addr) (nl cl : Nat) (w : World) (h : I.ok w w.heap.size) (hM : MkB I g w) (hl : l.length = nl) (hL : Holds w w.heap.size Al (nums l)) (hm : nl ≤ 200) (hlt : ∀ k ∈ l, k < I.n)
    (IH : ∀ j ∈ l, ∀ w' : World, I.ok w' w'.heap.size → BoxSays (docB I (docOk hc)) I j w') :
    Calls Tryz.prog 184 #[.slice Al nl cl, .pointer (some ⟨g, 0, none⟩)] w (MadeB w ((docB I (docOk hc)).cellT (docB I (docOk hc)).box (-1) l) (!(docB I (docOk hc)).idleT (l.map (docB I (docOk hc)).box))) := by
  have HR := Lib.hid (MkR.clos I g w hM #[.int .i64 0, .int .i64 0, .int .i64 0, .slice none 0 0, .string ⟨#[]⟩, .slice none 0 0] rfl)
  have HCE := Lib.hid (fun w' (hb : Below w.heap.size w w') => cellM_calls I (docOk hc) (-1) l Al nl cl w' ((h.below hb (Nat.le_refl _)).more hb.size) hl ((hL.below hb (Nat.le_refl _)).more hb.size) hm hlt IH)
  have HIN := Lib.hid (fun w' (hb : Below w.heap.size w w') => idleNodes_calls I (docOk hc) l Al nl cl w' ((h.below hb (Nat.le_refl _)).more hb.size) hl ((hL.below hb (Nat.le_refl _)).more hb.size) hm hlt IH)
  generalize (docB I (docOk hc)).cellT (docB I (docOk hc)).box (-1) l = CT at HCE ⊢
  generalize (docB I (docOk hc)).idleT (l.map (docB I (docOk hc)).box) = id at HIN ⊢
  clear h hM hl hL IH hm hlt
  unfold mkA at HIN HCE
  obtain ⟨ck, cn, ctx, cks⟩ := CT
  go_enter Tryz.func184, Tryz.ntmps184
  go_upto_region 1 with fail
  have HZ := Lib.hid (show (w.alloc (.cells #[.int .i64 0, .int .i64 0, .int .i64 0, .slice none 0 0, .string ⟨#[]⟩, .slice none 0 0] 75)).heap.size = w.heap.size + 1 by simp)
  generalize World.alloc w _ = w1 at HR HZ ⊢
  have hS0 : (fun w' => w'.cell? ⟨g, 0, none⟩ = some (.slice I.A I.n I.c) ∧ w'.cell? ⟨g, 1, none⟩ = some (.slice I.Al I.nl I.cl)) w1 := HR.out.s
  refine wp_region_noPanic ?_
  refine region_M (S := fun w' => w'.cell? ⟨g, 0, none⟩ = some (.slice I.A I.n I.c) ∧ w'.cell? ⟨g, 1, none⟩ = some (.slice I.Al I.nl I.cl)) (T := []) (by kernel_rfl) ?_
  refine anyM_take (i := 0) (oi := { dst := some 5, op := _, type := _, pos := _, after := _, guard := _ }) (v := ?_) rfl (by kernel_rfl) (fun _ _ _ h => h) (Or.inl ⟨by kernel_rfl, ?_⟩) hS0 ?_
  rotate_left 1
  · (intro w hSw; (try dsimp only at hSw); go_simp; try with_reducible rfl)
  try simp only [Act.put, Array.toArray_toList, List.setIfInBounds_toArray, List.set_cons_zero, List.set_cons_succ]
  refine anyM_free (i := 1) (oi := { dst := some 6, op := _, type := _, pos := _, after := _, guard := _ }) (v := ?_) rfl (by kernel_rfl) (fun _ _ _ h => h) (Or.inl ⟨by kernel_rfl, ?_⟩) (fun _ => hS0) ?_
  rotate_left 1
  · (intro w hSw; (try dsimp only at hSw); go_simp; try with_reducible rfl)
  try simp only [Act.put, Array.toArray_toList, List.setIfInBounds_toArray, List.set_cons_zero, List.set_cons_succ]
  refine anyM_take (i := 3) (oi := { dst := some 8, op := _, type := _, pos := _, after := _, guard := _ }) (v := ?_) rfl (by kernel_rfl) (fun _ _ _ h => h) (Or.inl ⟨by kernel_rfl, ?_⟩) hS0 ?_
  rotate_left 1
  · (intro w hSw; (try dsimp only at hSw); go_simp; try with_reducible rfl)
  try simp only [Act.put, Array.toArray_toList, List.setIfInBounds_toArray, List.set_cons_zero, List.set_cons_succ]
  refine anyM_free (i := 4) (oi := { dst := some 9, op := _, type := _, pos := _, after := _, guard := _ }) (v := ?_) rfl (by kernel_rfl) (fun _ _ _ h => h) (Or.inl ⟨by kernel_rfl, ?_⟩) (fun _ => hS0) ?_
  rotate_left 1
  · (intro w hSw; (try dsimp only at hSw); go_simp; try with_reducible rfl)
  try simp only [Act.put, Array.toArray_toList, List.setIfInBounds_toArray, List.set_cons_zero, List.set_cons_succ]
  refine anyM_one (i := 2) (by kernel_rfl) rfl (fun K hK => ?_)
  go_simp
  refine Calls.mono (HCE.out _ (by first | exact HR.out.bel | exact HR.out.drew.bel)) ?_
  rintro e wb ⟨A9, m9, c9, he, hk9, hb9⟩
  obtain rfl : e = .returned (.agg #[.int .i64 ck, .int .i64 cn, .int .i64 0, .slice none 0 0, .string ctx, .slice A9 m9 c9]) := he
  have HK9 := Lib.hid (show KidsAt wb (MadeQ w1 wb) _ _ _ from KidsAt.earlier hk9 (Nat.le_refl _))
  have HSB := Lib.hid (Nat.le_trans (show w1.heap.size ≤ _ from (Nat.le_refl _)) hb9.size)
  replace HR := Lib.hid (by first | exact HR.out.call hb9 | exact HR.out.drew.call hb9)
  clear hk9 hb9
  have hS0 := HR.out.s
  refine hK.out _ _ (fun _ => hS0) ?_
  clear hK K
  try simp only [Act.put, Array.toArray_toList, List.setIfInBounds_toArray, List.set_cons_zero, List.set_cons_succ]
  refine anyM_one (i := 5) (by kernel_rfl) rfl (fun K hK => ?_)
  go_simp
  refine Calls.mono (HIN.out _ (by first | exact HR.out.bel | exact HR.out.drew.bel)) ?_
  rintro e wc ⟨rfl, hbwc⟩
  replace HK9 := Lib.hid (KidsAt.step HK9.out hbwc)
  replace HSB := Lib.hid (Nat.le_trans HSB.out hbwc.size)
  replace HR := Lib.hid (by first | exact HR.out.call hbwc | exact HR.out.drew.call hbwc)
  clear hbwc
  have hS0 := HR.out.s
  refine hK.out _ _ (fun _ => hS0) ?_
  clear hK K
  try simp only [Act.put, Array.toArray_toList, List.setIfInBounds_toArray, List.set_cons_zero, List.set_cons_succ]
  refine anyM_free (i := 6) (oi := { dst := some 11, op := _, type := _, pos := _, after := _, guard := _ }) (v := ?_) rfl (by kernel_rfl) (fun _ _ _ h => h) (Or.inl ⟨by kernel_rfl, ?_⟩) (fun _ => hS0) ?_
  rotate_left 1
  · (intro w hSw; (try dsimp only at hSw); go_simp; try with_reducible rfl)
  try simp only [Act.put, Array.toArray_toList, List.setIfInBounds_toArray, List.set_cons_zero, List.set_cons_succ]
  refine anyM_one (i := 7) (by kernel_rfl) rfl (fun K hK => ?_)
  rw [if_pos (by kernel_rfl)]
  refine wp_store_mid _ _ _ rfl w.heap.size 0 #[.int .i64 ck, .int .i64 cn, .int .i64 0, .slice none 0 0, .string ctx, .slice A9 m9 c9] rfl rfl (by first | exact (HR.out.set2 #[.int .i64 ck, .int .i64 cn, .int .i64 0, .slice none 0 0, .string ctx, .slice A9 m9 c9] rfl).1 | exact (HR.out.drew.set2 #[.int .i64 ck, .int .i64 cn, .int .i64 0, .slice none 0 0, .string ctx, .slice A9 m9 c9] rfl).1) (by kernel_rfl) (by kernel_rfl) ?_
  first | (obtain ⟨wd, hwwd, hrwd, hzwd⟩ := (HR.out.set2 #[.int .i64 ck, .int .i64 cn, .int .i64 0, .slice none 0 0, .string ctx, .slice A9 m9 c9] rfl).2; rw [hwwd]; clear hwwd; replace HR := Lib.hid hrwd; have HZS := Lib.hid hzwd; clear hrwd hzwd) | (obtain ⟨wd, hwwd, hrwd, hzwd⟩ := (HR.out.drew.set2 #[.int .i64 ck, .int .i64 cn, .int .i64 0, .slice none 0 0, .string ctx, .slice A9 m9 c9] rfl).2; rw [hwwd]; clear hwwd; replace HR := Lib.hid hrwd; have HZS := Lib.hid hzwd; clear hrwd hzwd)
  change K (Act.put _ none undef) _
  have hS0 := HR.out.s
  refine hK.out _ _ (fun _ => hS0) ?_
  clear hK K
  try simp only [Act.put, Array.toArray_toList, List.setIfInBounds_toArray, List.set_cons_zero, List.set_cons_succ]
  refine anyM_free (i := 8) (oi := { dst := some 4, op := _, type := _, pos := _, after := _, guard := _ }) (v := ?_) rfl (by kernel_rfl) (fun _ _ _ h => h) (Or.inl ⟨by kernel_rfl, ?_⟩) (fun _ => hS0) ?_
  rotate_left 1
  · (intro w hSw; (try dsimp only at hSw); go_simp; try with_reducible rfl)
  try simp only [Act.put, Array.toArray_toList, List.setIfInBounds_toArray, List.set_cons_zero, List.set_cons_succ]
  refine anyM_done (by kernel_rfl) ?_ _
  refine NoPanic.normal ?_
  go_wp2_with fail
  exact bodyPost_ret (ret_tree2 Tryz.results184 _ _ w.heap.size _ rfl HR.out.res rfl) rfl ⟨_, _, _, rfl, KidsAt.earlier (KidsAt.moved (w1 := w1) HK9.out (by have := HZ.out; omega) HZS.out) (by have := HZ.out; omega), HR.out.bel⟩

end Go.Proofs.YtkmmlcnoeeaekaaGreatDoor
