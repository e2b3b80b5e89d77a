/- Several texts in one: BxSb. -/
import Derived.Test.YtkmmlcnoeeaekaaGreatDoorBoxesMakeM45
import Derived.Test.YtkmmlcnoeeaekaaGreatDoorBoxesMakeM30
/- Contracts of the reference's Boxes, SameBox, SameBoxes. -/
namespace Go.Proofs.YtkmmlcnoeeaekaaGreatDoor
open Go.RowKit Go.Maps
set_option linter.unusedVariables false
set_option linter.unusedSimpArgs false

/-- What Boxes answers: a list of boxes that is told. -/
def ListSays (S : List PBox) (w : World) (e : Ending) (w' : World) : Prop := ∃ A n c rs, e = .returned (.slice A n c) ∧ rs.length = n ∧ BoxL w' w.heap.size (.slice A n c) rs ∧ rs.map (·.1) = S ∧ Below w.heap.size w w'
set_option maxRecDepth 100000 in
set_option maxHeartbeats 4000000 in
theorem rboxes_calls (I : BxV) (hc : checkE I.ns = 0) (q : Bool) (w : World) (h : I.ok w w.heap.size) (hz : tsz ((docB I (docOk hc)).rootT 0) ≤ 1608) :
    Calls Tryz.prog 12 #[.agg #[.slice I.A I.n I.c, .bool q], .slice I.Al I.nl I.cl] w (ListSays (flatR ((docB I (docOk hc)).rootT 0) (-1) []) w) := by
  have hmm := @run_makeMap Tryz.prog
  have hpos : 0 < I.n := by have := (docOk hc).pos; have := h.hn; omega
  have hb1 := below_alloc (below_alloc (below_alloc (Below.refl w.heap.size w) (.cells #[.slice I.A I.n I.c, .bool q] 24)) (.map #[] 0)) (.cells #[.slice I.A I.n I.c, .slice I.Al I.nl I.cl, .slice none 0 0, .map (some (w.heap.size + 1))] 84)
  have hM := Blk.new ((w.alloc (.cells #[.slice I.A I.n I.c, .bool q] 24)).alloc (.map #[] 0)) 84 #[.slice I.A I.n I.c, .slice I.Al I.nl I.cl, .slice none 0 0, .map (some (w.heap.size + 1))]
  have hK := ((World.ownsMap_made (H := Unit) (w.alloc (.cells #[.slice I.A I.n I.c, .bool q] 24)) Tryz.prog 3 (plainElem Tryz.prog 3)).mono (Nat.zero_le 300)).alloc (.cells #[.slice I.A I.n I.c, .slice I.Al I.nl I.cl, .slice none 0 0, .map (some (w.heap.size + 1))] 84)
  rw [alloc_size, alloc_size] at hM
  rw [alloc_size] at hK
  have HD := Lib.hid (Blk.new w 24 #[.slice I.A I.n I.c, .bool q])
  have hsz3 : (((w.alloc (.cells #[.slice I.A I.n I.c, .bool q] 24)).alloc (.map #[] 0)).alloc (.cells #[.slice I.A I.n I.c, .slice I.Al I.nl I.cl, .slice none 0 0, .map (some (w.heap.size + 1))] 84)).heap.size = w.heap.size + 3 := by simp
  have hrng : ∀ b, OwnR (w.heap.size + 1 + 1) (w.heap.size + 1) (.slice none 0 0) [] b → w.heap.size ≤ b ∧ b < (((w.alloc (.cells #[.slice I.A I.n I.c, .bool q] 24)).alloc (.map #[] 0)).alloc (.cells #[.slice I.A I.n I.c, .slice I.Al I.nl I.cl, .slice none 0 0, .map (some (w.heap.size + 1))] 84)).heap.size := fun b hb => by
    rw [hsz3]
    rcases hb with rfl | rfl | hb
    · omega
    · omega
    · rcases hb with hb | ⟨r, hr, _⟩
      · simp [Value.ownBlock] at hb
      · cases hr
  have HR : Hid (RSB (docB I (docOk hc)) I w.heap.size (w.heap.size + 1 + 1) (w.heap.size + 1) (OwnR (w.heap.size + 1 + 1) (w.heap.size + 1) (.slice none 0 0) []) _ []) := ⟨none, 0, 0, [], .map [], { ok := h.below hb1 (Nat.le_refl _), bw := hb1.size, blk := hM, len := rfl, out := boxL_nil _ _, few := fewS_nil, map := hK, kinds := kinds_made _, ownM := .inl rfl, ownK := .inr (.inl rfl), ownL := fun b hb => .inr (.inr hb), rng := hrng }, rfl⟩
  have HB := Lib.hid hb1
  have IH := rbox_calls I hc w.heap.size (w.heap.size + 1 + 1) (w.heap.size + 1) (rankN I.ns 0)
  obtain ⟨i1, i2, i3⟩ := IH.content h.hn (Nat.le_refl _)
  have hcl := content_len I hc 0
  have hroot : (docB I (docOk hc)).rootT 0 = (docB I (docOk hc)).containerT 0 (((docB I (docOk hc)).content 0).map (docB I (docOk hc)).box) := rfl
  have HCT := Lib.hid (fun (O : Nat → Prop) (w' : World) (h' : RSB (docB I (docOk hc)) I w.heap.size (w.heap.size + 1 + 1) (w.heap.size + 1) O w' []) => rcontent_held I hc w.heap.size (w.heap.size + 1 + 1) (w.heap.size + 1) 0 O [] w' h' hpos)
  have HCO := Lib.hid (fun (A : Option Addr) (c : Nat) (O : Nat → Prop) (w' : World) (h' : RSB (docB I (docOk hc)) I w.heap.size (w.heap.size + 1 + 1) (w.heap.size + 1) O w' []) (hh : Held O w' A ((docB I (docOk hc)).content 0)) => rcont_calls I hc w.heap.size (w.heap.size + 1 + 1) (w.heap.size + 1) 0 ((docB I (docOk hc)).content 0) i1 i3 O [] w' (-1) A ((docB I (docOk hc)).content 0).length c h' (by simp) rfl hh (by omega) (by rw [← hroot, flatR_size]; simp; omega))
  rw [← hroot] at HCO
  unfold CtSays at HCT
  unfold Puts at HCO
  unfold ListSays
  generalize flatR ((docB I (docOk hc)).rootT 0) (-1) [] = S9 at HCO ⊢
  generalize (docB I (docOk hc)).content 0 = CL at HCT HCO
  generalize hO : OwnR (w.heap.size + 1 + 1) (w.heap.size + 1) (.slice none 0 0) [] = O0 at HR
  have HO0 : Hid (∀ b, O0 b → w.heap.size ≤ b) := fun b hb => HR.out.lo b hb
  clear h hpos hb1 hM hK hrng hsz3 IH i1 i2 i3 hcl hroot hz hO
  go_enter Tryz.func12, Tryz.ntmps12
  go_upto_region 1 with fail
  have d0 : (w.alloc (.cells #[.slice I.A I.n I.c, .bool q] 24)).cell? ⟨w.heap.size, 0, none⟩ = some (.slice I.A I.n I.c) := HD.out.cell 0
  have d1 : (w.alloc (.cells #[.slice I.A I.n I.c, .bool q] 24)).cell? ⟨w.heap.size, 1, none⟩ = some (.bool q) := HD.out.cell 1
  go_upto_region 2 with fail
  generalize World.alloc (World.alloc (World.alloc w _) _) _ = w3 at HR HB ⊢
  go_wp2_with (first | (go_at_call 35; refine (HCT.out _ _ HR.out).mono ?_; rintro e wc ⟨A', c', rfl, hh, hbc⟩; have HH := Lib.hid hh; have HR1 := Lib.hid (HR.out.below hbc); have HB1 := Lib.hid (below_then HB.out (hbc)); clear hh hbc) | (go_at_call 34; refine (HCO.out _ _ _ _ HR1.out HH.out).mono ?_; rintro e we ⟨rfl, O2, hr2, ht2⟩; have HB2 := Lib.hid (HB1.out.trans (ht2.base (Nat.le_trans HB1.out.size (Nat.le_refl _)) HO0.out)); obtain ⟨A9, n9, c9, rs9, D9, hR9, hS9⟩ := hr2; have m9 : we.cell? ⟨w.heap.size + 1 + 1, 2, none⟩ = some (.slice A9 n9 c9) := hR9.blk.cell 2; have HR9 := Lib.hid hR9; have HS9 := Lib.hid hS9; clear ht2 hR9 hS9))
  go_ret
  exact ⟨A9, n9, c9, rs9, rfl, HR9.out.len, HR9.out.out, HS9.out, HB2.out⟩
theorem eqNumB_calls (A A' : Option Addr) (n c c' B B' : Nat) (l : List Nat) (w : World) (hn : l.length = n) (h : Holds w B A (nums l)) (h' : Holds w B' A' (nums l)) (hm : n ≤ 2000) :
    Calls Tryz.prog 20 #[.slice A n c, .slice A' n c'] w fun e w' => e = .returned (.bool true) ∧ w = w' := by
  subst hn
  go_enter Tryz.func20, Tryz.ntmps20
  go_wp2
  go_loop [14] (fun i => ∃ k : Nat, k ≤ l.length ∧ i = .int .i64 k) (fun i => l.length - (intOf i).toNat)
  case atStart => exact ⟨0, Nat.zero_le _, rfl⟩
  case round =>
    obtain ⟨k, hk, rfl⟩ := hrel
    by_cases hlt : k < l.length
    · obtain ⟨b, off, rfl, hb, hcc⟩ := h.num hlt
      obtain ⟨b', off', rfl, hb', hcc'⟩ := h'.num hlt
      obtain ⟨z, hz⟩ : ∃ z, z = l.getD k 0 := ⟨_, rfl⟩
      rw [← hz] at hcc hcc'
      clear hz h h'
      go_wp2
      go_round
      case rel => exact ⟨k + 1, by omega, by go_num⟩
      case measure => simp [intOf]; omega
    · obtain rfl : k = l.length := by omega
      go_wp2
      go_ret
      exact ⟨rfl, rfl⟩
set_option maxRecDepth 100000 in
set_option maxHeartbeats 4000000 in
theorem sameBox_calls (k n p : Int) (tx : ByteArray) (l : List Nat) (A A' : Option Addr) (m c c' : Nat) (w : World) (hl : l.length = m) (hm : m ≤ 2000) (h : Holds w w.heap.size A (nums l)) (h' : Holds w w.heap.size A' (nums l)) :
    Calls Tryz.prog 33 #[.agg #[.int .i64 k, .int .i64 n, .int .i64 p, .slice A m c, .string tx], .agg #[.int .i64 k, .int .i64 n, .int .i64 p, .slice A' m c', .string tx]] w fun e w' => e = .returned (.bool true) ∧ Below w.heap.size w w' := by
  have hb := below_alloc (below_alloc (Below.refl w.heap.size w) (.cells #[.int .i64 k, .int .i64 n, .int .i64 p, .slice A m c, .string tx] 72)) (.cells #[.int .i64 k, .int .i64 n, .int .i64 p, .slice A' m c', .string tx] 72)
  have h1 := (Blk.new w 72 #[.int .i64 k, .int .i64 n, .int .i64 p, .slice A m c, .string tx]).alloc (.cells #[.int .i64 k, .int .i64 n, .int .i64 p, .slice A' m c', .string tx] 72)
  have h2 := Blk.new (w.alloc (.cells #[.int .i64 k, .int .i64 n, .int .i64 p, .slice A m c, .string tx] 72)) 72 #[.int .i64 k, .int .i64 n, .int .i64 p, .slice A' m c', .string tx]
  rw [alloc_size] at h2
  have H1 := Lib.hid h1
  have H2 := Lib.hid h2
  have HB := Lib.hid hb
  have HEQ := Lib.hid (eqNumB_calls A A' m c c' w.heap.size w.heap.size l _ hl (h.below hb (Nat.le_refl _)) (h'.below hb (Nat.le_refl _)) hm)
  clear h h' hb h1 h2 hl
  go_enter Tryz.func33, Tryz.ntmps33
  go_upto_region 1 with fail
  generalize World.alloc (World.alloc w _) _ = w1 at H1 H2 HB HEQ ⊢
  have a0 : w1.cell? ⟨w.heap.size, 0, none⟩ = some (.int .i64 k) := H1.out.cell 0
  have a1 : w1.cell? ⟨w.heap.size, 1, none⟩ = some (.int .i64 n) := H1.out.cell 1
  have a2 : w1.cell? ⟨w.heap.size, 2, none⟩ = some (.int .i64 p) := H1.out.cell 2
  have a3 : w1.cell? ⟨w.heap.size, 3, none⟩ = some (.slice A m c) := H1.out.cell 3
  have a4 : w1.cell? ⟨w.heap.size, 4, none⟩ = some (.string tx) := H1.out.cell 4
  have b0 : w1.cell? ⟨w.heap.size + 1, 0, none⟩ = some (.int .i64 k) := H2.out.cell 0
  have b1 : w1.cell? ⟨w.heap.size + 1, 1, none⟩ = some (.int .i64 n) := H2.out.cell 1
  have b2 : w1.cell? ⟨w.heap.size + 1, 2, none⟩ = some (.int .i64 p) := H2.out.cell 2
  have b3 : w1.cell? ⟨w.heap.size + 1, 3, none⟩ = some (.slice A' m c') := H2.out.cell 3
  have b4 : w1.cell? ⟨w.heap.size + 1, 4, none⟩ = some (.string tx) := H2.out.cell 4
  have qt : (tx.toList == tx.toList) = true := by simp
  go_wp2_with (go_at_call 20; refine HEQ.out.mono ?_; rintro e w2 ⟨rfl, rfl⟩)
  go_ret
  exact ⟨rfl, HB.out⟩
set_option maxRecDepth 100000 in
set_option maxHeartbeats 4000000 in
theorem sameBoxes_calls (A1 A2 : Option Addr) (n c1 c2 base1 base2 : Nat) (rs1 rs2 : List RowB) (w : World) (h1 : BoxL w base1 (.slice A1 n c1) rs1) (h2 : BoxL w base2 (.slice A2 n c2) rs2) (hn1 : rs1.length = n) (hf : FewS rs1) (hm : n ≤ 2000) (he : rs1.map (·.1) = rs2.map (·.1)) :
    Calls Tryz.prog 11 #[.slice A1 n c1, .slice A2 n c2] w fun e w' => e = .returned (.bool true) ∧ Below w.heap.size w w' := by
  have hn2 : rs2.length = n := by have := congrArg List.length he; rw [List.length_map, List.length_map] at this; omega
  have HL1 := Lib.hid h1
  have HL2 := Lib.hid h2
  have HN1 := Lib.hid hn1
  have HN2 := Lib.hid hn2
  have HF := Lib.hid hf
  have HE := Lib.hid he
  clear h1 h2 hn1 hn2 hf he
  go_enter Tryz.func11, Tryz.ntmps11
  go_wp2_with fail
  go_loopw [13] (fun i wr => ∃ k : Nat, k ≤ n ∧ i = .int .i64 k ∧ Hid (Below w.heap.size w wr)) (fun i _ => n - (intOf i).toNat)
  case atStart => exact ⟨0, Nat.zero_le _, rfl, Below.refl _ _⟩
  case round =>
    obtain ⟨k, hk, rfl, HB⟩ := hrel
    by_cases hlt : k < n
    · have L1 := HL1.out.below HB.out
      have L2 := HL2.out.below HB.out
      obtain ⟨g1, p1, hA1, _, _⟩ := own_some (L1.ownN HN1.out) (by omega)
      obtain ⟨g2, p2, hA2, _, _⟩ := own_some (L2.ownN HN2.out) (by omega)
      injection hA1 with hA1 x1 y1
      injection hA2 with hA2 x2 y2
      clear x1 y1 x2 y2
      subst hA1; subst hA2
      have k1 : k < rs1.length := by rw [HN1.out]; exact hlt
      have k2 : k < rs2.length := by rw [HN2.out]; exact hlt
      have hf1 : rs2[k].1 = rs1[k].1 := by
        have h3 := congrArg (fun l => l[k]?) HE.out
        simp only [List.getElem?_map, List.getElem?_eq_getElem k1, List.getElem?_eq_getElem k2, Option.map_some] at h3
        injection h3 with h3
        exact h3.symm
      have hK1 := L1.kids rs1[k] (List.getElem_mem k1)
      have hK2 := L2.kids rs2[k] (List.getElem_mem k2)
      have hml : rs1[k].1.kids.length ≤ 2000 := by have h5 := HF.out rs1[k] (List.getElem_mem k1); have h6 := HN1.out; omega
      have u := fun j v hv => L1.cells (j := j) (u := v) k1 hv
      have v := fun j v hv => L2.cells (j := j) (u := v) k2 hv
      generalize rs1[k] = R1 at hf1 hK1 hml u
      generalize rs2[k] = R2 at hf1 hK2 v
      obtain ⟨⟨kd, nd, pr, kk, tx⟩, Aa, ca⟩ := R1
      obtain ⟨B2, Ab, cb⟩ := R2
      dsimp only at hf1
      subst hf1
      unfold kidV at hK1 hK2
      dsimp only at hK1 hK2 hml
      obtain ⟨ml, hmle⟩ : ∃ ml, ml = kk.length := ⟨_, rfl⟩
      rw [← hmle] at hK1 hK2 hml
      have u0 : wr.cell? ⟨g1, k * 5, none⟩ = some (.int .i64 kd) := u 0 _ rfl
      have u1 : wr.cell? ⟨g1, k * 5 + 1, none⟩ = some (.int .i64 nd) := u 1 _ rfl
      have u2 : wr.cell? ⟨g1, k * 5 + 2, none⟩ = some (.int .i64 pr) := u 2 _ rfl
      have u3 : wr.cell? ⟨g1, k * 5 + 3, none⟩ = some (.slice Aa ml ca) := by rw [hmle]; exact u 3 _ rfl
      have u4 : wr.cell? ⟨g1, k * 5 + 4, none⟩ = some (.string tx) := u 4 _ rfl
      have v0 : wr.cell? ⟨g2, k * 5, none⟩ = some (.int .i64 kd) := v 0 _ rfl
      have v1 : wr.cell? ⟨g2, k * 5 + 1, none⟩ = some (.int .i64 nd) := v 1 _ rfl
      have v2 : wr.cell? ⟨g2, k * 5 + 2, none⟩ = some (.int .i64 pr) := v 2 _ rfl
      have v3 : wr.cell? ⟨g2, k * 5 + 3, none⟩ = some (.slice Ab ml cb) := by rw [hmle]; exact v 3 _ rfl
      have v4 : wr.cell? ⟨g2, k * 5 + 4, none⟩ = some (.string tx) := v 4 _ rfl
      have HSB := Lib.hid (sameBox_calls kd nd pr tx kk Aa Ab ml ca cb (World.drew wr) hmle.symm hml (show Holds (World.drew wr) (World.drew wr).heap.size Aa (nums kk) from Holds.of_own hK1) (show Holds (World.drew wr) (World.drew wr).heap.size Ab (nums kk) from Holds.of_own hK2))
      have HB0 : Hid (Below w.heap.size w (World.drew wr)) := ⟨HB.out.os, HB.out.tape, HB.out.output, HB.out.size, HB.out.block⟩
      clear L1 L2 hK1 hK2 u v hml hmle k1 k2
      go_upto_region 6 with fail
      have hS0 : (fun w' : World => w'.cell? ⟨g1, k * 5, none⟩ = some (.int .i64 kd) ∧ w'.cell? ⟨g1, k * 5 + 1, none⟩ = some (.int .i64 nd) ∧ w'.cell? ⟨g1, k * 5 + 2, none⟩ = some (.int .i64 pr) ∧ w'.cell? ⟨g1, k * 5 + 3, none⟩ = some (.slice Aa ml ca) ∧ w'.cell? ⟨g1, k * 5 + 4, none⟩ = some (.string tx) ∧ w'.cell? ⟨g2, k * 5, none⟩ = some (.int .i64 kd) ∧ w'.cell? ⟨g2, k * 5 + 1, none⟩ = some (.int .i64 nd) ∧ w'.cell? ⟨g2, k * 5 + 2, none⟩ = some (.int .i64 pr) ∧ w'.cell? ⟨g2, k * 5 + 3, none⟩ = some (.slice Ab ml cb) ∧ w'.cell? ⟨g2, k * 5 + 4, none⟩ = some (.string tx)) (World.drew wr) := ⟨u0, u1, u2, u3, u4, v0, v1, v2, v3, v4⟩
      clear u0 u1 u2 u3 u4 v0 v1 v2 v3 v4
      refine wp_region_noPanic ?_
      refine region_M (S := fun w' => w'.cell? ⟨g1, k * 5, none⟩ = some (.int .i64 kd) ∧ w'.cell? ⟨g1, k * 5 + 1, none⟩ = some (.int .i64 nd) ∧ w'.cell? ⟨g1, k * 5 + 2, none⟩ = some (.int .i64 pr) ∧ w'.cell? ⟨g1, k * 5 + 3, none⟩ = some (.slice Aa ml ca) ∧ w'.cell? ⟨g1, k * 5 + 4, none⟩ = some (.string tx) ∧ w'.cell? ⟨g2, k * 5, none⟩ = some (.int .i64 kd) ∧ w'.cell? ⟨g2, k * 5 + 1, none⟩ = some (.int .i64 nd) ∧ w'.cell? ⟨g2, k * 5 + 2, none⟩ = some (.int .i64 pr) ∧ w'.cell? ⟨g2, k * 5 + 3, none⟩ = some (.slice Ab ml cb) ∧ w'.cell? ⟨g2, k * 5 + 4, none⟩ = some (.string tx)) (T := [8]) (by kernel_rfl) ?_
      generalize World.drew wr = wd at HSB HB0 hS0 ⊢
      refine anyM_free (i := 0) (oi := { dst := some 16, op := _, type := _, pos := _, after := _, guard := _ }) (v := ?_) rfl (by kernel_rfl) (fun _ _ _ h => h) (Or.inl ⟨by kernel_rfl, ?_⟩) (fun _ => hS0) ?_
      rotate_left 1
      · (intro w hSw; (try dsimp only at hSw); go_simp; try with_reducible rfl)
      try simp only [Act.put, Array.toArray_toList, List.setIfInBounds_toArray, List.set_cons_zero, List.set_cons_succ]
      refine anyM_free (i := 1) (oi := { dst := some 17, op := _, type := _, pos := _, after := _, guard := _ }) (v := ?_) rfl (by kernel_rfl) (fun _ _ _ h => h) (Or.inl ⟨by kernel_rfl, ?_⟩) (fun _ => hS0) ?_
      rotate_left 1
      · (intro w hSw; (try dsimp only at hSw); go_simp; try with_reducible rfl)
      try simp only [Act.put, Array.toArray_toList, List.setIfInBounds_toArray, List.set_cons_zero, List.set_cons_succ]
      refine anyM_free (i := 2) (oi := { dst := some 18, op := _, type := _, pos := _, after := _, guard := _ }) (v := ?_) rfl (by kernel_rfl) (fun _ _ _ h => h) (Or.inl ⟨by kernel_rfl, ?_⟩) (fun _ => hS0) ?_
      rotate_left 1
      · (intro w hSw; (try dsimp only at hSw); go_simp; try with_reducible rfl)
      try simp only [Act.put, Array.toArray_toList, List.setIfInBounds_toArray, List.set_cons_zero, List.set_cons_succ]
      refine anyM_take (i := 3) (oi := { dst := some 19, op := _, type := _, pos := _, after := _, guard := _ }) (v := ?_) rfl (by kernel_rfl) (fun _ _ _ h => h) (Or.inl ⟨by kernel_rfl, ?_⟩) hS0 ?_
      rotate_left 1
      · (intro w hSw; (try dsimp only at hSw); go_simp; try with_reducible rfl)
      try simp only [Act.put, Array.toArray_toList, List.setIfInBounds_toArray, List.set_cons_zero, List.set_cons_succ]
      refine anyM_free (i := 4) (oi := { dst := some 20, op := _, type := _, pos := _, after := _, guard := _ }) (v := ?_) rfl (by kernel_rfl) (fun _ _ _ h => h) (Or.inl ⟨by kernel_rfl, ?_⟩) (fun _ => hS0) ?_
      rotate_left 1
      · (intro w hSw; (try dsimp only at hSw); go_simp; try with_reducible rfl)
      try simp only [Act.put, Array.toArray_toList, List.setIfInBounds_toArray, List.set_cons_zero, List.set_cons_succ]
      refine anyM_free (i := 5) (oi := { dst := some 21, op := _, type := _, pos := _, after := _, guard := _ }) (v := ?_) rfl (by kernel_rfl) (fun _ _ _ h => h) (Or.inl ⟨by kernel_rfl, ?_⟩) (fun _ => hS0) ?_
      rotate_left 1
      · (intro w hSw; (try dsimp only at hSw); go_simp; try with_reducible rfl)
      try simp only [Act.put, Array.toArray_toList, List.setIfInBounds_toArray, List.set_cons_zero, List.set_cons_succ]
      refine anyM_free (i := 6) (oi := { dst := some 22, op := _, type := _, pos := _, after := _, guard := _ }) (v := ?_) rfl (by kernel_rfl) (fun _ _ _ h => h) (Or.inl ⟨by kernel_rfl, ?_⟩) (fun _ => hS0) ?_
      rotate_left 1
      · (intro w hSw; (try dsimp only at hSw); go_simp; try with_reducible rfl)
      try simp only [Act.put, Array.toArray_toList, List.setIfInBounds_toArray, List.set_cons_zero, List.set_cons_succ]
      refine anyM_take (i := 7) (oi := { dst := some 23, op := _, type := _, pos := _, after := _, guard := _ }) (v := ?_) rfl (by kernel_rfl) (fun _ _ _ h => h) (Or.inl ⟨by kernel_rfl, ?_⟩) hS0 ?_
      rotate_left 1
      · (intro w hSw; (try dsimp only at hSw); go_simp; try with_reducible rfl)
      try simp only [Act.put, Array.toArray_toList, List.setIfInBounds_toArray, List.set_cons_zero, List.set_cons_succ]
      refine anyM_one (i := 8) (by kernel_rfl) rfl (fun K hK => ?_)
      go_simp
      refine Calls.mono HSB.out ?_
      rintro e ws ⟨rfl, hbs⟩
      have HB2 := Lib.hid (below_then HB0.out hbs)
      clear hbs
      refine hK.out _ _ (fun h => late_no h (by kernel_rfl)) ?_
      clear hK K
      try simp only [Act.put, Array.toArray_toList, List.setIfInBounds_toArray, List.set_cons_zero, List.set_cons_succ]
      refine anyM_freeL (i := 9) (oi := { dst := some 25, op := _, type := _, pos := _, after := _, guard := _ }) (v := ?_) rfl (by kernel_rfl) (fun _ _ _ h => h) (Or.inl ⟨by kernel_rfl, ?_⟩) ?_
      rotate_left 1
      · (intro w hSw; (try dsimp only at hSw); go_simp; try with_reducible rfl)
      try simp only [Act.put, Array.toArray_toList, List.setIfInBounds_toArray, List.set_cons_zero, List.set_cons_succ]
      refine anyM_done (by kernel_rfl) ?_ _
      refine NoPanic.normal ?_
      clear hS0
      go_wp2_with fail
      go_round
      case rel => exact ⟨k + 1, by omega, by go_num, HB2.out⟩
      case measure => simp [intOf]; omega
    · obtain rfl : k = n := by omega
      go_wp2_with fail
      go_ret
      exact ⟨rfl, HB.out⟩
end Go.Proofs.YtkmmlcnoeeaekaaGreatDoor
