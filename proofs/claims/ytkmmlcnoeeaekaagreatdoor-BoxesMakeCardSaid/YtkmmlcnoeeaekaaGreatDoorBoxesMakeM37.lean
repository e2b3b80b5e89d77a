/- Several texts in one: BxPr. -/
import Derived.Test.YtkmmlcnoeeaekaaGreatDoorBoxesMakeM30
import Derived.Test.YtkmmlcnoeeaekaaGreatDoorBoxesMakeM36
/- Contracts: named, cells, rows, and their closures. -/
namespace Go.Proofs.YtkmmlcnoeeaekaaGreatDoor
open Go.RowKit
set_option linter.unusedVariables false
set_option linter.unusedSimpArgs false

/-- A slice of trees, all new. -/
def SliceT (w : World) (ts : List TreeV) (e : Ending) (w' : World) : Prop := ∃ A n c, e = .returned (.slice A n c) ∧ KidsAt w' (MadeQ w w') ts A n ∧ Below w.heap.size w w'
/-- What named answers. -/
def NamedT (I : BxV) (i : Int) (w : World) (e : Ending) (w' : World) : Prop := ∃ gm gi, e = .returned (.func (.func 182) #[] #[.pointer (some ⟨gm, 0, none⟩), .pointer (some ⟨gi, 0, none⟩)]) ∧ MkB I gm w' ∧ Blk w' gi 3 #[.int .i64 i] ∧ Below w.heap.size w w'
set_option maxRecDepth 100000 in
set_option maxHeartbeats 4000000 in
theorem namedB_calls (I : BxV) (i : Int) (w : World) : Calls Tryz.prog 157 #[mkA I, .int .i64 i] w (NamedT I i w) := by
  have hb := below_alloc (below_alloc (Below.refl w.heap.size w) (.cells #[.slice I.A I.n I.c, .slice I.Al I.nl I.cl] 69)) (.cells #[.int .i64 i] 3)
  have h1 := (Blk.new w 69 #[.slice I.A I.n I.c, .slice I.Al I.nl I.cl]).alloc (.cells #[.int .i64 i] 3)
  have h2 := Blk.new (w.alloc (.cells #[.slice I.A I.n I.c, .slice I.Al I.nl I.cl] 69)) 3 #[.int .i64 i]
  rw [alloc_size] at h2
  have H1 := Lib.hid h1
  have H2 := Lib.hid h2
  have HB := Lib.hid hb
  clear hb h1 h2
  unfold mkA
  go_enter Tryz.func157, Tryz.ntmps157
  go_wp2_with fail
  go_ret
  exact ⟨_, _, rfl, H1.out, H2.out, HB.out⟩
set_option maxRecDepth 100000 in
set_option maxHeartbeats 4000000 in
theorem namedB1_calls (I : BxV) (hc : DocOk I.ns) (gm gi k : Nat) (i : Int) (w : World) (h : I.ok w w.heap.size) (hk : k < I.n) (hM : MkB I gm w) (hG : Blk w gi 3 #[.int .i64 i]) :
    Calls Tryz.prog 182 #[.int .i64 (k : Nat), .pointer (some ⟨gm, 0, none⟩), .pointer (some ⟨gi, 0, none⟩)] w fun e w' => e = .returned (.bool ((docB I hc).named i k)) ∧ Below w.heap.size w w' := by
  have hkb : k ≤ 200 := by have := h.n0; omega
  have HV : Hid ((docB I hc).named i k = ((nd I.ns k).kind == 2 && isS (I.sty k) == i)) := rfl
  obtain ⟨b, off, bs, os, hA, hS, hnf⟩ := node_facts h hk
  have HIS := Lib.hid (fun w' (hb : Below w.heap.size w w') => is_calls I k w' ((h.below hb (Nat.le_refl _)).more hb.size) hk)
  have HNK : Hid (∀ w', Below w.heap.size w w' → w'.cell? ⟨b, off + k * 6, none⟩ = some (.int .i64 (nd I.ns k).kind)) := fun w' hb => (hnf w' _ (h.below hb (Nat.le_refl _))).1
  have HB : Hid (Below w.heap.size w (World.drew w)) := Lib.hid ⟨rfl, rfl, rfl, Nat.le_refl _, fun _ _ => rfl⟩
  have HM : Hid (Blk (World.drew w) gm 69 #[.slice I.A I.n I.c, .slice I.Al I.nl I.cl]) := hM
  have HG : Hid (Blk (World.drew w) gi 3 #[.int .i64 i]) := hG
  generalize (docB I hc).named i k = r at HV ⊢
  generalize isS (I.sty k) = isn at HV HIS
  generalize (nd I.ns k).kind = nk at HNK HV
  unfold mkA at HIS
  rw [hA] at HM HIS
  clear h hnf hA hS hM hG
  have hS0 : (fun w' : World => w'.cell? ⟨gm, 0, none⟩ = some (.slice (some ⟨b, off, none⟩) I.n I.c) ∧ w'.cell? ⟨gm, 1, none⟩ = some (.slice I.Al I.nl I.cl) ∧ w'.cell? ⟨gi, 0, none⟩ = some (.int .i64 i) ∧ w'.cell? ⟨b, off + k * 6, none⟩ = some (.int .i64 nk)) (World.drew w) := ⟨HM.out.cell 0, HM.out.cell 1, HG.out.cell 0, HNK.out _ HB.out⟩
  go_enter Tryz.func182, Tryz.ntmps182
  go_upto_region 1 with fail
  by_cases hq : nk = 2
  · subst hq
    have HE : Hid (r = (isn == i)) := by show _ = _; rw [HV.out]; rfl
    refine wp_region_noPanic ?_
    refine region_M (S := fun w' => w'.cell? ⟨gm, 0, none⟩ = some (.slice (some ⟨b, off, none⟩) I.n I.c) ∧ w'.cell? ⟨gm, 1, none⟩ = some (.slice I.Al I.nl I.cl) ∧ w'.cell? ⟨gi, 0, none⟩ = some (.int .i64 i) ∧ w'.cell? ⟨b, off + k * 6, none⟩ = some (.int .i64 2)) (T := []) (by kernel_rfl) ?_
    generalize World.drew w = wd at HB HM HG hS0 ⊢
    refine anyM_free (i := 0) (oi := { dst := some 5, op := _, type := _, pos := _, after := _, guard := _ }) (v := ?_) rfl (by kernel_rfl) (fun _ _ _ h => h) (Or.inl ⟨by kernel_rfl, ?_⟩) (fun _ => hS0) ?_
    rotate_left 1
    · (intro w hSw; (try dsimp only at hSw); go_simp; try with_reducible rfl)
    try simp only [Act.put, Array.toArray_toList, List.setIfInBounds_toArray, List.set_cons_zero, List.set_cons_succ]
    refine anyM_take (i := 1) (oi := { dst := some 6, op := _, type := _, pos := _, after := _, guard := _ }) (v := ?_) rfl (by kernel_rfl) (fun _ _ _ h => h) (Or.inl ⟨by kernel_rfl, ?_⟩) hS0 ?_
    rotate_left 1
    · (intro w hSw; (try dsimp only at hSw); go_simp; try with_reducible rfl)
    try simp only [Act.put, Array.toArray_toList, List.setIfInBounds_toArray, List.set_cons_zero, List.set_cons_succ]
    refine anyM_free (i := 2) (oi := { dst := some 7, op := _, type := _, pos := _, after := _, guard := _ }) (v := ?_) rfl (by kernel_rfl) (fun _ _ _ h => h) (Or.inl ⟨by kernel_rfl, ?_⟩) (fun _ => hS0) ?_
    rotate_left 1
    · (intro w hSw; (try dsimp only at hSw); go_simp; try with_reducible rfl)
    try simp only [Act.put, Array.toArray_toList, List.setIfInBounds_toArray, List.set_cons_zero, List.set_cons_succ]
    refine anyM_free (i := 3) (oi := { dst := some 8, op := _, type := _, pos := _, after := _, guard := _ }) (v := ?_) rfl (by kernel_rfl) (fun _ _ _ h => h) (Or.inl ⟨by kernel_rfl, ?_⟩) (fun _ => hS0) ?_
    rotate_left 1
    · (intro w hSw; (try dsimp only at hSw); go_simp; try with_reducible rfl)
    try simp only [Act.put, Array.toArray_toList, List.setIfInBounds_toArray, List.set_cons_zero, List.set_cons_succ]
    refine anyM_free (i := 4) (oi := { dst := some 9, op := _, type := _, pos := _, after := _, guard := _ }) (v := ?_) rfl (by kernel_rfl) (fun _ _ _ h => h) (Or.inl ⟨by kernel_rfl, ?_⟩) (fun _ => hS0) ?_
    rotate_left 1
    · (intro w hSw; (try dsimp only at hSw); go_simp; try with_reducible rfl)
    try simp only [Act.put, Array.toArray_toList, List.setIfInBounds_toArray, List.set_cons_zero, List.set_cons_succ]
    refine anyM_take (i := 5) (oi := { dst := some 10, op := _, type := _, pos := _, after := _, guard := _ }) (v := ?_) rfl (by kernel_rfl) (fun _ _ _ h => h) (Or.inl ⟨by kernel_rfl, ?_⟩) hS0 ?_
    rotate_left 1
    · (intro w hSw; (try dsimp only at hSw); go_simp; try with_reducible rfl)
    try simp only [Act.put, Array.toArray_toList, List.setIfInBounds_toArray, List.set_cons_zero, List.set_cons_succ]
    refine anyM_free (i := 6) (oi := { dst := some 11, op := _, type := _, pos := _, after := _, guard := _ }) (v := ?_) rfl (by kernel_rfl) (fun _ _ _ h => h) (Or.inl ⟨by kernel_rfl, ?_⟩) (fun _ => hS0) ?_
    rotate_left 1
    · (intro w hSw; (try dsimp only at hSw); go_simp; try with_reducible rfl)
    try simp only [Act.put, Array.toArray_toList, List.setIfInBounds_toArray, List.set_cons_zero, List.set_cons_succ]
    refine anyM_free (i := 7) (oi := { dst := some 12, op := _, type := _, pos := _, after := _, guard := _ }) (v := ?_) rfl (by kernel_rfl) (fun _ _ _ h => h) (Or.inl ⟨by kernel_rfl, ?_⟩) (fun _ => hS0) ?_
    rotate_left 1
    · (intro w hSw; (try dsimp only at hSw); go_simp; try with_reducible rfl)
    try simp only [Act.put, Array.toArray_toList, List.setIfInBounds_toArray, List.set_cons_zero, List.set_cons_succ]
    refine anyM_take (i := 8) (oi := { dst := some 13, op := _, type := _, pos := _, after := _, guard := _ }) (v := ?_) rfl (by kernel_rfl) (fun _ _ _ h => h) (Or.inl ⟨by kernel_rfl, ?_⟩) hS0 ?_
    rotate_left 1
    · (intro w hSw; (try dsimp only at hSw); go_simp; try with_reducible rfl)
    try simp only [Act.put, Array.toArray_toList, List.setIfInBounds_toArray, List.set_cons_zero, List.set_cons_succ]
    refine anyM_free (i := 9) (oi := { dst := some 14, op := _, type := _, pos := _, after := _, guard := _ }) (v := ?_) rfl (by kernel_rfl) (fun _ _ _ h => h) (Or.inl ⟨by kernel_rfl, ?_⟩) (fun _ => hS0) ?_
    rotate_left 1
    · (intro w hSw; (try dsimp only at hSw); go_simp; try with_reducible rfl)
    try simp only [Act.put, Array.toArray_toList, List.setIfInBounds_toArray, List.set_cons_zero, List.set_cons_succ]
    refine anyM_take (i := 11) (oi := { dst := some 16, op := _, type := _, pos := _, after := _, guard := _ }) (v := ?_) rfl (by kernel_rfl) (fun _ _ _ h => h) (Or.inl ⟨by kernel_rfl, ?_⟩) hS0 ?_
    rotate_left 1
    · (intro w hSw; (try dsimp only at hSw); go_simp; try with_reducible rfl)
    try simp only [Act.put, Array.toArray_toList, List.setIfInBounds_toArray, List.set_cons_zero, List.set_cons_succ]
    refine anyM_one (i := 10) (by kernel_rfl) rfl (fun K hK => ?_)
    go_simp
    refine Calls.mono (HIS.out _ HB.out) ?_
    rintro e wi ⟨rfl, hbi⟩
    replace HB := Lib.hid (below_then HB.out hbi)
    replace HM := Lib.hid (Blk.below HM.out hbi HM.out.lt)
    replace HG := Lib.hid (Blk.below HG.out hbi HG.out.lt)
    clear hbi
    have hS0 : (fun w' : World => w'.cell? ⟨gm, 0, none⟩ = some (.slice (some ⟨b, off, none⟩) I.n I.c) ∧ w'.cell? ⟨gm, 1, none⟩ = some (.slice I.Al I.nl I.cl) ∧ w'.cell? ⟨gi, 0, none⟩ = some (.int .i64 i) ∧ w'.cell? ⟨b, off + k * 6, none⟩ = some (.int .i64 2)) wi := ⟨HM.out.cell 0, HM.out.cell 1, HG.out.cell 0, HNK.out _ HB.out⟩
    refine hK.out _ _ (fun _ => hS0) ?_
    clear hK K
    try simp only [Act.put, Array.toArray_toList, List.setIfInBounds_toArray, List.set_cons_zero, List.set_cons_succ]
    refine anyM_free (i := 12) (oi := { dst := some 17, op := _, type := _, pos := _, after := _, guard := _ }) (v := ?_) rfl (by kernel_rfl) (fun _ _ _ h => h) (Or.inl ⟨by kernel_rfl, ?_⟩) (fun _ => hS0) ?_
    rotate_left 1
    · (intro w hSw; (try dsimp only at hSw); go_simp; try with_reducible rfl)
    try simp only [Act.put, Array.toArray_toList, List.setIfInBounds_toArray, List.set_cons_zero, List.set_cons_succ]
    refine anyM_free (i := 13) (oi := { dst := some 18, op := _, type := _, pos := _, after := _, guard := _ }) (v := ?_) rfl (by kernel_rfl) (fun _ _ _ h => h) (Or.inl ⟨by kernel_rfl, ?_⟩) (fun _ => hS0) ?_
    rotate_left 1
    · (intro w hSw; (try dsimp only at hSw); go_simp; try with_reducible rfl)
    try simp only [Act.put, Array.toArray_toList, List.setIfInBounds_toArray, List.set_cons_zero, List.set_cons_succ]
    refine anyM_free (i := 14) (oi := { dst := some 4, op := _, type := _, pos := _, after := _, guard := _ }) (v := ?_) rfl (by kernel_rfl) (fun _ _ _ h => h) (Or.inl ⟨by kernel_rfl, ?_⟩) (fun _ => hS0) ?_
    rotate_left 1
    · (intro w hSw; (try dsimp only at hSw); go_simp; try with_reducible rfl)
    try simp only [Act.put, Array.toArray_toList, List.setIfInBounds_toArray, List.set_cons_zero, List.set_cons_succ]
    refine anyM_done (by kernel_rfl) ?_ _
    refine NoPanic.normal ?_
    clear hS0
    go_wp2_with fail
    go_ret
    exact ⟨by rw [HE.out]; rfl, HB.out⟩
  · have p2 : (nk == 2) = false := by simp [hq]
    have HE : Hid (r = false) := by show _ = _; rw [HV.out, p2]; rfl
    clear hq
    refine wp_region_noPanic ?_
    refine region_M (S := fun w' => w'.cell? ⟨gm, 0, none⟩ = some (.slice (some ⟨b, off, none⟩) I.n I.c) ∧ w'.cell? ⟨gm, 1, none⟩ = some (.slice I.Al I.nl I.cl) ∧ w'.cell? ⟨gi, 0, none⟩ = some (.int .i64 i) ∧ w'.cell? ⟨b, off + k * 6, none⟩ = some (.int .i64 nk)) (T := []) (by kernel_rfl) ?_
    generalize World.drew w = wd at HB HM HG hS0 ⊢
    refine anyM_free (i := 0) (oi := { dst := some 5, op := _, type := _, pos := _, after := _, guard := _ }) (v := ?_) rfl (by kernel_rfl) (fun _ _ _ h => h) (Or.inl ⟨by kernel_rfl, ?_⟩) (fun _ => hS0) ?_
    rotate_left 1
    · (intro w hSw; (try dsimp only at hSw); go_simp; try with_reducible rfl)
    try simp only [Act.put, Array.toArray_toList, List.setIfInBounds_toArray, List.set_cons_zero, List.set_cons_succ]
    refine anyM_take (i := 1) (oi := { dst := some 6, op := _, type := _, pos := _, after := _, guard := _ }) (v := ?_) rfl (by kernel_rfl) (fun _ _ _ h => h) (Or.inl ⟨by kernel_rfl, ?_⟩) hS0 ?_
    rotate_left 1
    · (intro w hSw; (try dsimp only at hSw); go_simp; try with_reducible rfl)
    try simp only [Act.put, Array.toArray_toList, List.setIfInBounds_toArray, List.set_cons_zero, List.set_cons_succ]
    refine anyM_free (i := 2) (oi := { dst := some 7, op := _, type := _, pos := _, after := _, guard := _ }) (v := ?_) rfl (by kernel_rfl) (fun _ _ _ h => h) (Or.inl ⟨by kernel_rfl, ?_⟩) (fun _ => hS0) ?_
    rotate_left 1
    · (intro w hSw; (try dsimp only at hSw); go_simp; try with_reducible rfl)
    try simp only [Act.put, Array.toArray_toList, List.setIfInBounds_toArray, List.set_cons_zero, List.set_cons_succ]
    refine anyM_free (i := 3) (oi := { dst := some 8, op := _, type := _, pos := _, after := _, guard := _ }) (v := ?_) rfl (by kernel_rfl) (fun _ _ _ h => h) (Or.inl ⟨by kernel_rfl, ?_⟩) (fun _ => hS0) ?_
    rotate_left 1
    · (intro w hSw; (try dsimp only at hSw); go_simp; try with_reducible rfl)
    try simp only [Act.put, Array.toArray_toList, List.setIfInBounds_toArray, List.set_cons_zero, List.set_cons_succ]
    refine anyM_free (i := 4) (oi := { dst := some 9, op := _, type := _, pos := _, after := _, guard := _ }) (v := ?_) rfl (by kernel_rfl) (fun _ _ _ h => h) (Or.inl ⟨by kernel_rfl, ?_⟩) (fun _ => hS0) ?_
    rotate_left 1
    · (intro w hSw; (try dsimp only at hSw); go_simp; try with_reducible rfl)
    try simp only [Act.put, Array.toArray_toList, List.setIfInBounds_toArray, List.set_cons_zero, List.set_cons_succ]
    refine anyM_take (i := 5) (oi := { dst := some 10, op := _, type := _, pos := _, after := _, guard := _ }) (v := ?_) rfl (by kernel_rfl) (fun _ _ _ h => h) (Or.inl ⟨by kernel_rfl, ?_⟩) hS0 ?_
    rotate_left 1
    · (intro w hSw; (try dsimp only at hSw); go_simp; try with_reducible rfl)
    try simp only [Act.put, Array.toArray_toList, List.setIfInBounds_toArray, List.set_cons_zero, List.set_cons_succ]
    refine anyM_free (i := 6) (oi := { dst := some 11, op := _, type := _, pos := _, after := _, guard := _ }) (v := ?_) rfl (by kernel_rfl) (fun _ _ _ h => h) (Or.inl ⟨by kernel_rfl, ?_⟩) (fun _ => hS0) ?_
    rotate_left 1
    · (intro w hSw; (try dsimp only at hSw); go_simp; try with_reducible rfl)
    try simp only [Act.put, Array.toArray_toList, List.setIfInBounds_toArray, List.set_cons_zero, List.set_cons_succ]
    refine anyM_free (i := 7) (oi := { dst := some 12, op := _, type := _, pos := _, after := _, guard := _ }) (v := ?_) rfl (by kernel_rfl) (fun _ _ _ h => h) (Or.inl ⟨by kernel_rfl, ?_⟩) (fun _ => hS0) ?_
    rotate_left 1
    · (intro w hSw; (try dsimp only at hSw); go_simp; try with_reducible rfl)
    try simp only [Act.put, Array.toArray_toList, List.setIfInBounds_toArray, List.set_cons_zero, List.set_cons_succ]
    refine anyM_free (i := 8) (oi := { dst := some 13, op := _, type := _, pos := _, after := _, guard := _ }) (v := undef) rfl (by kernel_rfl) (fun _ _ _ h => h) (Or.inr ⟨by kernel_rfl, rfl⟩) (fun _ => hS0) ?_
    try simp only [Act.put, Array.toArray_toList, List.setIfInBounds_toArray, List.set_cons_zero, List.set_cons_succ]
    refine anyM_free (i := 9) (oi := { dst := some 14, op := _, type := _, pos := _, after := _, guard := _ }) (v := undef) rfl (by kernel_rfl) (fun _ _ _ h => h) (Or.inr ⟨by kernel_rfl, rfl⟩) (fun _ => hS0) ?_
    try simp only [Act.put, Array.toArray_toList, List.setIfInBounds_toArray, List.set_cons_zero, List.set_cons_succ]
    refine anyM_free (i := 10) (oi := { dst := some 15, op := _, type := _, pos := _, after := _, guard := _ }) (v := undef) rfl (by kernel_rfl) (fun _ _ _ h => h) (Or.inr ⟨by kernel_rfl, rfl⟩) (fun _ => hS0) ?_
    try simp only [Act.put, Array.toArray_toList, List.setIfInBounds_toArray, List.set_cons_zero, List.set_cons_succ]
    refine anyM_free (i := 11) (oi := { dst := some 16, op := _, type := _, pos := _, after := _, guard := _ }) (v := undef) rfl (by kernel_rfl) (fun _ _ _ h => h) (Or.inr ⟨by kernel_rfl, rfl⟩) (fun _ => hS0) ?_
    try simp only [Act.put, Array.toArray_toList, List.setIfInBounds_toArray, List.set_cons_zero, List.set_cons_succ]
    refine anyM_free (i := 12) (oi := { dst := some 17, op := _, type := _, pos := _, after := _, guard := _ }) (v := undef) rfl (by kernel_rfl) (fun _ _ _ h => h) (Or.inr ⟨by kernel_rfl, rfl⟩) (fun _ => hS0) ?_
    try simp only [Act.put, Array.toArray_toList, List.setIfInBounds_toArray, List.set_cons_zero, List.set_cons_succ]
    refine anyM_free (i := 13) (oi := { dst := some 18, op := _, type := _, pos := _, after := _, guard := _ }) (v := ?_) rfl (by kernel_rfl) (fun _ _ _ h => h) (Or.inl ⟨by kernel_rfl, ?_⟩) (fun _ => hS0) ?_
    rotate_left 1
    · (intro w hSw; (try dsimp only at hSw); go_simp; try with_reducible rfl)
    try simp only [Act.put, Array.toArray_toList, List.setIfInBounds_toArray, List.set_cons_zero, List.set_cons_succ]
    refine anyM_free (i := 14) (oi := { dst := some 4, op := _, type := _, pos := _, after := _, guard := _ }) (v := ?_) rfl (by kernel_rfl) (fun _ _ _ h => h) (Or.inl ⟨by kernel_rfl, ?_⟩) (fun _ => hS0) ?_
    rotate_left 1
    · (intro w hSw; (try dsimp only at hSw); go_simp; try with_reducible rfl)
    try simp only [Act.put, Array.toArray_toList, List.setIfInBounds_toArray, List.set_cons_zero, List.set_cons_succ]
    refine anyM_done (by kernel_rfl) ?_ _
    refine NoPanic.normal ?_
    clear hS0
    go_wp2_with fail
    go_ret
    exact ⟨by rw [HE.out]; rfl, HB.out⟩
theorem named_says (I : BxV) (hc : DocOk I.ns) (gm gi : Nat) (i : Int) (l : List Nat) (w : World) (h : I.ok w w.heap.size) (hlt : ∀ k ∈ l, k < I.n) (hM : MkB I gm w) (hG : Blk w gi 3 #[.int .i64 i]) : SaysN gm gi ((docB I hc).named i) l w :=
  fun k hk w' hb => namedB1_calls I hc gm gi k i w' ((h.below hb (Nat.le_refl _)).more hb.size) (hlt k hk) (hM.below hb) (hG.below hb hG.lt)
/-- What box says of all that stand deeper. -/
def DeepP (I : BxV) (hc : checkE I.ns = 0) (r : Nat) : Prop := ∀ j, rankN I.ns j < r → j < I.n → ∀ w : World, I.ok w w.heap.size → BoxSays (docB I (docOk hc)) I j w
theorem DeepP.content {I : BxV} {hc : checkE I.ns = 0} {r : Nat} (h : DeepP I hc r) (hI : I.ns.length = I.n) {k : Nat} (hk : rankN I.ns k ≤ r) : (∀ j ∈ (docB I (docOk hc)).content k, j < I.n) ∧ (∀ j ∈ (docB I (docOk hc)).content k, rankN I.ns j < rankN I.ns k) ∧ ∀ j ∈ (docB I (docOk hc)).content k, ∀ w : World, I.ok w w.heap.size → BoxSays (docB I (docOk hc)) I j w := by
  have h1 : ∀ j ∈ (docB I (docOk hc)).content k, j < I.n := fun j hj => by have := content_lt I (docOk hc) hj; omega
  have h2 : ∀ j ∈ (docB I (docOk hc)).content k, rankN I.ns j < rankN I.ns k := fun j hj => DocB.content_deep (docB I (docOk hc)) hj
  exact ⟨h1, h2, fun j hj => h j (by have := h2 j hj; omega) (h1 j hj)⟩
set_option maxRecDepth 100000 in
set_option maxHeartbeats 4000000 in
theorem cellsM_calls (I : BxV) (hc : checkE I.ns = 0) (r : Nat) (IH : DeepP I hc r) (l : List Nat) (A : Option Addr) (n c : Nat) (w : World) (h : I.ok w w.heap.size) (hl : l.length = n) (hL : Holds w w.heap.size A (nums l)) (hm : n ≤ 200) (hcap : n ≤ c) (hlt : ∀ k ∈ l, k < I.n) (hr : ∀ k ∈ l, rankN I.ns k < r) :
    Calls Tryz.prog 159 #[mkA I, .slice A n c] w (SliceT w ((docB I (docOk hc)).cellsT (docB I (docOk hc)).box l)) := by
  have hba := below_alloc (Below.refl w.heap.size w) (.cells #[.slice I.A I.n I.c, .slice I.Al I.nl I.cl] 69)
  have HB := Lib.hid hba
  have HM := Lib.hid (mkB_new I w)
  have HNM := Lib.hid (fun w' => namedB_calls I 7 w')
  have HSP := Lib.hid (fun (gm gi : Nat) w' (hb : Below w.heap.size w w') (hg : MkB I w.heap.size w') (hM : MkB I gm w') (hG : Blk w' gi 3 #[.int .i64 7]) =>
    splitN_calls 183 184 gm gi w.heap.size ((docB I (docOk hc)).named 7) (fun k => (docB I (docOk hc)).cellT (docB I (docOk hc)).box k ((docB I (docOk hc)).content k)) (fun r => (docB I (docOk hc)).cellT (docB I (docOk hc)).box (-1) r) (fun r => !(docB I (docOk hc)).idleT (r.map (docB I (docOk hc)).box)) rfl (.inl ⟨rfl, rfl⟩) l A n c w' (by omega) hcap hl ((hL.below hb (Nat.le_refl _)).more hb.size)
      (named_says I (docOk hc) gm gi 7 l w' ((h.below hb (Nat.le_refl _)).more hb.size) hlt hM hG)
      (fun k hk w2 hb2 => cells1_calls I hc w.heap.size k w2 ((h.below (below_then hb hb2) (Nat.le_refl _)).more (below_then hb hb2).size) (hg.below hb2) (hlt k hk) (IH.content h.hn (by have := hr k hk; omega)).2.2)
      (fun us A' m c' w2 hu hul hml hb2 hH => cells2_calls I hc w.heap.size us A' m c' w2 ((h.below (below_then hb hb2) (Nat.le_refl _)).more (below_then hb hb2).size) (hg.below hb2) hul hH (by omega) (fun k hk => hlt k (hu k hk)) (fun j hj => IH j (hr j (hu j hj)) (hlt j (hu j hj)))))
  have HV : Hid ((docB I (docOk hc)).cellsT (docB I (docOk hc)).box l = pieces ((docB I (docOk hc)).named 7) (fun k => (docB I (docOk hc)).cellT (docB I (docOk hc)).box k ((docB I (docOk hc)).content k)) (fun r => (docB I (docOk hc)).cellT (docB I (docOk hc)).box (-1) r) (fun r => !(docB I (docOk hc)).idleT (r.map (docB I (docOk hc)).box)) [] l) := rfl
  rw [← HV.out] at HSP
  generalize (docB I (docOk hc)).cellsT (docB I (docOk hc)).box l = TS at HSP ⊢
  unfold NamedT at HNM
  unfold SliceT
  unfold mkA at HNM ⊢
  clear hba h hl hL hm hcap hlt hr IH HV
  go_enter Tryz.func159, Tryz.ntmps159
  go_wp2_with (first | (go_at_call 157; refine (HNM.out _).mono ?_; rintro e wn ⟨gm, gi, rfl, hgm, hgi, hbn⟩; have HGM := Lib.hid hgm; have HGI := Lib.hid hgi; have HB1 := Lib.hid (below_then HB.out hbn); have HM1 := Lib.hid (MkB.below HM.out hbn); clear hgm hgi hbn) | (go_at_call 156; refine (HSP.out gm gi _ HB1.out HM1.out HGM.out HGI.out).mono ?_; rintro e ws ⟨A9, n9, c9, rfl, _, hk9, hb9⟩; have HB9 := Lib.hid (below_then HB1.out hb9); have HK9 := Lib.hid (KidsAt.earlier hk9 HB1.out.size); clear hk9 hb9))
  go_ret
  exact ⟨A9, n9, c9, rfl, HK9.out, HB9.out⟩
set_option maxRecDepth 100000 in
set_option maxHeartbeats 4000000 in
theorem rows1_calls (I : BxV) (hc : checkE I.ns = 0) (r : Nat) (IH : DeepP I hc r) (g k : Nat) (w : World) (h : I.ok w w.heap.size) (hM : MkB I g w) (hk : k < I.n) (hr : rankN I.ns k ≤ r) :
    Calls Tryz.prog 158 #[.int .i64 (k : Nat), .pointer (some ⟨g, 0, none⟩)] w (MadeT w (.mk 8 k noS ((docB I (docOk hc)).cellsT (docB I (docOk hc)).box ((docB I (docOk hc)).content k)))) := by
  obtain ⟨i1, i2, i3⟩ := IH.content h.hn hr
  have HR := Lib.hid (MkR.clos I g w hM #[.int .i64 0, .int .i64 0, .int .i64 0, .slice none 0 0, .string ⟨#[]⟩, .slice none 0 0] rfl)
  have HCO := Lib.hid (fun w' (hb : Below w.heap.size w w') => content_says I hc k w' ((h.below hb (Nat.le_refl _)).more hb.size) hk)
  have hcl := content_len I hc k
  have HCE := Lib.hid (fun (A' : Option Addr) (c' : Nat) w' (hb : Below w.heap.size w w') (hH : Holds w' w'.heap.size A' (nums ((docB I (docOk hc)).content k))) (hcap : ((docB I (docOk hc)).content k).length ≤ c') => cellsM_calls I hc r IH ((docB I (docOk hc)).content k) A' ((docB I (docOk hc)).content k).length c' w' ((h.below hb (Nat.le_refl _)).more hb.size) rfl hH hcl hcap i1 (fun j hj => by have := i2 j hj; omega))
  generalize (docB I (docOk hc)).cellsT (docB I (docOk hc)).box ((docB I (docOk hc)).content k) = TS at HCE ⊢
  unfold ContSays at HCO
  unfold SliceT at HCE
  generalize (docB I (docOk hc)).content k = CL at HCO HCE
  clear h hM hk IH hcl hr i1 i2 i3
  unfold mkA at HCO HCE
  go_enter Tryz.func158, Tryz.ntmps158
  go_upto_region 1 with fail
  have HZ := Lib.hid (show (w.alloc (.cells #[.int .i64 0, .int .i64 0, .int .i64 0, .slice none 0 0, .string ⟨#[]⟩, .slice none 0 0] 75)).heap.size = w.heap.size + 1 by simp)
  generalize World.alloc w _ = w1 at HR HZ ⊢
  have hS0 : (fun w' => w'.cell? ⟨g, 0, none⟩ = some (.slice I.A I.n I.c) ∧ w'.cell? ⟨g, 1, none⟩ = some (.slice I.Al I.nl I.cl)) w1 := HR.out.s
  refine wp_region_noPanic ?_
  refine region_M (S := fun w' => w'.cell? ⟨g, 0, none⟩ = some (.slice I.A I.n I.c) ∧ w'.cell? ⟨g, 1, none⟩ = some (.slice I.Al I.nl I.cl)) (T := []) (by kernel_rfl) ?_
  refine anyM_free (i := 0) (oi := { dst := some 4, op := _, type := _, pos := _, after := _, guard := _ }) (v := ?_) rfl (by kernel_rfl) (fun _ _ _ h => h) (Or.inl ⟨by kernel_rfl, ?_⟩) (fun _ => hS0) ?_
  rotate_left 1
  · (intro w hSw; (try dsimp only at hSw); go_simp; try with_reducible rfl)
  try simp only [Act.put, Array.toArray_toList, List.setIfInBounds_toArray, List.set_cons_zero, List.set_cons_succ]
  refine anyM_free (i := 1) (oi := { dst := some 5, op := _, type := _, pos := _, after := _, guard := _ }) (v := ?_) rfl (by kernel_rfl) (fun _ _ _ h => h) (Or.inl ⟨by kernel_rfl, ?_⟩) (fun _ => hS0) ?_
  rotate_left 1
  · (intro w hSw; (try dsimp only at hSw); go_simp; try with_reducible rfl)
  try simp only [Act.put, Array.toArray_toList, List.setIfInBounds_toArray, List.set_cons_zero, List.set_cons_succ]
  refine anyM_take (i := 2) (oi := { dst := some 6, op := _, type := _, pos := _, after := _, guard := _ }) (v := ?_) rfl (by kernel_rfl) (fun _ _ _ h => h) (Or.inl ⟨by kernel_rfl, ?_⟩) hS0 ?_
  rotate_left 1
  · (intro w hSw; (try dsimp only at hSw); go_simp; try with_reducible rfl)
  try simp only [Act.put, Array.toArray_toList, List.setIfInBounds_toArray, List.set_cons_zero, List.set_cons_succ]
  refine anyM_take (i := 3) (oi := { dst := some 7, op := _, type := _, pos := _, after := _, guard := _ }) (v := ?_) rfl (by kernel_rfl) (fun _ _ _ h => h) (Or.inl ⟨by kernel_rfl, ?_⟩) hS0 ?_
  rotate_left 1
  · (intro w hSw; (try dsimp only at hSw); go_simp; try with_reducible rfl)
  try simp only [Act.put, Array.toArray_toList, List.setIfInBounds_toArray, List.set_cons_zero, List.set_cons_succ]
  refine anyM_free (i := 4) (oi := { dst := some 8, op := _, type := _, pos := _, after := _, guard := _ }) (v := ?_) rfl (by kernel_rfl) (fun _ _ _ h => h) (Or.inl ⟨by kernel_rfl, ?_⟩) (fun _ => hS0) ?_
  rotate_left 1
  · (intro w hSw; (try dsimp only at hSw); go_simp; try with_reducible rfl)
  try simp only [Act.put, Array.toArray_toList, List.setIfInBounds_toArray, List.set_cons_zero, List.set_cons_succ]
  refine anyM_one (i := 5) (by kernel_rfl) rfl (fun K hK => ?_)
  go_simp
  refine Calls.mono (HCO.out _ (by first | exact HR.out.bel | exact HR.out.drew.bel)) ?_
  rintro e wa ⟨A', c', rfl, hcp, hhd, hbwa⟩
  have HCP := Lib.hid hcp
  have HHD := Lib.hid hhd
  have HSA := Lib.hid (show w1.heap.size ≤ wa.heap.size from hbwa.size)
  replace HR := Lib.hid (by first | exact HR.out.call hbwa | exact HR.out.drew.call hbwa)
  clear hcp hhd hbwa
  have hS0 := HR.out.s
  refine hK.out _ _ (fun _ => hS0) ?_
  clear hK K
  try simp only [Act.put, Array.toArray_toList, List.setIfInBounds_toArray, List.set_cons_zero, List.set_cons_succ]
  refine anyM_one (i := 6) (by kernel_rfl) rfl (fun K hK => ?_)
  go_simp
  refine Calls.mono (HCE.out _ _ _ (by first | exact HR.out.bel | exact HR.out.drew.bel) (by first | exact HHD.out | exact HHD.out) HCP.out) ?_
  rintro e wb ⟨A9, n9, c9, rfl, hk9, hb9⟩
  have HK9 := Lib.hid (show KidsAt wb (MadeQ w1 wb) _ _ _ from KidsAt.earlier hk9 HSA.out)
  have HSB := Lib.hid (Nat.le_trans HSA.out hb9.size)
  replace HR := Lib.hid (by first | exact HR.out.call hb9 | exact HR.out.drew.call hb9)
  clear hk9 hb9
  have hS0 := HR.out.s
  refine hK.out _ _ (fun _ => hS0) ?_
  clear hK K
  try simp only [Act.put, Array.toArray_toList, List.setIfInBounds_toArray, List.set_cons_zero, List.set_cons_succ]
  refine anyM_free (i := 7) (oi := { dst := some 11, op := _, type := _, pos := _, after := _, guard := _ }) (v := ?_) rfl (by kernel_rfl) (fun _ _ _ h => h) (Or.inl ⟨by kernel_rfl, ?_⟩) (fun _ => hS0) ?_
  rotate_left 1
  · (intro w hSw; (try dsimp only at hSw); go_simp; try with_reducible rfl)
  try simp only [Act.put, Array.toArray_toList, List.setIfInBounds_toArray, List.set_cons_zero, List.set_cons_succ]
  refine anyM_one (i := 8) (by kernel_rfl) rfl (fun K hK => ?_)
  rw [if_pos (by kernel_rfl)]
  refine wp_store_mid _ _ _ rfl w.heap.size 0 #[.int .i64 8, .int .i64 (k : Nat), .int .i64 0, .slice none 0 0, .string ⟨#[]⟩, .slice A9 n9 c9] rfl rfl (by first | exact (HR.out.set2 #[.int .i64 8, .int .i64 (k : Nat), .int .i64 0, .slice none 0 0, .string ⟨#[]⟩, .slice A9 n9 c9] rfl).1 | exact (HR.out.drew.set2 #[.int .i64 8, .int .i64 (k : Nat), .int .i64 0, .slice none 0 0, .string ⟨#[]⟩, .slice A9 n9 c9] rfl).1) (by kernel_rfl) (by kernel_rfl) ?_
  first | (obtain ⟨wd, hwwd, hrwd, hzwd⟩ := (HR.out.set2 #[.int .i64 8, .int .i64 (k : Nat), .int .i64 0, .slice none 0 0, .string ⟨#[]⟩, .slice A9 n9 c9] rfl).2; rw [hwwd]; clear hwwd; replace HR := Lib.hid hrwd; have HZS := Lib.hid hzwd; clear hrwd hzwd) | (obtain ⟨wd, hwwd, hrwd, hzwd⟩ := (HR.out.drew.set2 #[.int .i64 8, .int .i64 (k : Nat), .int .i64 0, .slice none 0 0, .string ⟨#[]⟩, .slice A9 n9 c9] rfl).2; rw [hwwd]; clear hwwd; replace HR := Lib.hid hrwd; have HZS := Lib.hid hzwd; clear hrwd hzwd)
  change K (Act.put _ none undef) _
  have hS0 := HR.out.s
  refine hK.out _ _ (fun _ => hS0) ?_
  clear hK K
  try simp only [Act.put, Array.toArray_toList, List.setIfInBounds_toArray, List.set_cons_zero, List.set_cons_succ]
  refine anyM_done (by kernel_rfl) ?_ _
  refine NoPanic.normal ?_
  go_wp2_with fail
  exact bodyPost_ret (ret_tree Tryz.results158 _ _ w.heap.size _ rfl HR.out.res rfl) rfl ⟨_, _, _, rfl, KidsAt.earlier (KidsAt.moved (w1 := w1) HK9.out (by have := HZ.out; omega) HZS.out) (by have := HZ.out; omega), HR.out.bel⟩

set_option maxRecDepth 100000 in
set_option maxHeartbeats 4000000 in
theorem rows2_calls (I : BxV) (hc : checkE I.ns = 0) (g : Nat) (l : List Nat) (Al : Option Addr) (nl cl : Nat) (w : World) (h : I.ok w w.heap.size) (hM : MkB I g w) (hl : l.length = nl) (hL : Holds w w.heap.size Al (nums l)) (hm : nl ≤ 200) (hlt : ∀ k ∈ l, k < I.n)
    (IH : ∀ j ∈ l, ∀ w' : World, I.ok w' w'.heap.size → BoxSays (docB I (docOk hc)) I j w') :
    Calls Tryz.prog 160 #[.slice Al nl cl, .pointer (some ⟨g, 0, none⟩)] w (MadeB w (.mk 8 (-1) noS [(docB I (docOk hc)).cellT (docB I (docOk hc)).box (-1) l]) (!(docB I (docOk hc)).idleT (l.map (docB I (docOk hc)).box))) := by
  have HR := Lib.hid (MkR.clos I g w hM #[.int .i64 0, .int .i64 0, .int .i64 0, .slice none 0 0, .string ⟨#[]⟩, .slice none 0 0] rfl)
  have HCE := Lib.hid (fun w' (hb : Below w.heap.size w w') => cellM_calls I (docOk hc) (-1) l Al nl cl w' ((h.below hb (Nat.le_refl _)).more hb.size) hl ((hL.below hb (Nat.le_refl _)).more hb.size) hm hlt IH)
  have HIN := Lib.hid (fun w' (hb : Below w.heap.size w w') => idleNodes_calls I (docOk hc) l Al nl cl w' ((h.below hb (Nat.le_refl _)).more hb.size) hl ((hL.below hb (Nat.le_refl _)).more hb.size) hm hlt IH)
  have HAN := Lib.hid (fun (A : Option Addr) w' => anon_calls 8 A 1 1 w')
  generalize (docB I (docOk hc)).cellT (docB I (docOk hc)).box (-1) l = CT at HCE ⊢
  generalize (docB I (docOk hc)).idleT (l.map (docB I (docOk hc)).box) = id at HIN ⊢
  clear h hM hl hL IH hm hlt
  unfold mkA at HIN HCE
  obtain ⟨ck, cn, ctx, cks⟩ := CT
  go_enter Tryz.func160, Tryz.ntmps160
  go_upto_region 1 with fail
  have HZ := Lib.hid (show (w.alloc (.cells #[.int .i64 0, .int .i64 0, .int .i64 0, .slice none 0 0, .string ⟨#[]⟩, .slice none 0 0] 75)).heap.size = w.heap.size + 1 by simp)
  generalize World.alloc w _ = w1 at HR HZ ⊢
  have hS0 : (fun w' => w'.cell? ⟨g, 0, none⟩ = some (.slice I.A I.n I.c) ∧ w'.cell? ⟨g, 1, none⟩ = some (.slice I.Al I.nl I.cl)) w1 := HR.out.s
  refine wp_region_noPanic ?_
  refine region_M (S := fun w' => w'.cell? ⟨g, 0, none⟩ = some (.slice I.A I.n I.c) ∧ w'.cell? ⟨g, 1, none⟩ = some (.slice I.Al I.nl I.cl)) (T := []) (by kernel_rfl) ?_
  refine anyM_take (i := 0) (oi := { dst := some 5, op := _, type := _, pos := _, after := _, guard := _ }) (v := ?_) rfl (by kernel_rfl) (fun _ _ _ h => h) (Or.inl ⟨by kernel_rfl, ?_⟩) hS0 ?_
  rotate_left 1
  · (intro w hSw; (try dsimp only at hSw); go_simp; try with_reducible rfl)
  try simp only [Act.put, Array.toArray_toList, List.setIfInBounds_toArray, List.set_cons_zero, List.set_cons_succ]
  refine anyM_free (i := 1) (oi := { dst := some 6, op := _, type := _, pos := _, after := _, guard := _ }) (v := ?_) rfl (by kernel_rfl) (fun _ _ _ h => h) (Or.inl ⟨by kernel_rfl, ?_⟩) (fun _ => hS0) ?_
  rotate_left 1
  · (intro w hSw; (try dsimp only at hSw); go_simp; try with_reducible rfl)
  try simp only [Act.put, Array.toArray_toList, List.setIfInBounds_toArray, List.set_cons_zero, List.set_cons_succ]
  refine anyM_take (i := 5) (oi := { dst := some 10, op := _, type := _, pos := _, after := _, guard := _ }) (v := ?_) rfl (by kernel_rfl) (fun _ _ _ h => h) (Or.inl ⟨by kernel_rfl, ?_⟩) hS0 ?_
  rotate_left 1
  · (intro w hSw; (try dsimp only at hSw); go_simp; try with_reducible rfl)
  try simp only [Act.put, Array.toArray_toList, List.setIfInBounds_toArray, List.set_cons_zero, List.set_cons_succ]
  refine anyM_free (i := 6) (oi := { dst := some 11, op := _, type := _, pos := _, after := _, guard := _ }) (v := ?_) rfl (by kernel_rfl) (fun _ _ _ h => h) (Or.inl ⟨by kernel_rfl, ?_⟩) (fun _ => hS0) ?_
  rotate_left 1
  · (intro w hSw; (try dsimp only at hSw); go_simp; try with_reducible rfl)
  try simp only [Act.put, Array.toArray_toList, List.setIfInBounds_toArray, List.set_cons_zero, List.set_cons_succ]
  refine anyM_one (i := 2) (by kernel_rfl) rfl (fun K hK => ?_)
  go_simp
  refine Calls.mono (HCE.out _ (by first | exact HR.out.bel | exact HR.out.drew.bel)) ?_
  rintro e wb ⟨A9, m9, c9, he, hk9, hb9⟩
  obtain rfl : e = .returned (.agg #[.int .i64 ck, .int .i64 cn, .int .i64 0, .slice none 0 0, .string ctx, .slice A9 m9 c9]) := he
  have HK9 := Lib.hid (show KidsAt wb (MadeQ w1 wb) _ _ _ from KidsAt.earlier hk9 (Nat.le_refl _))
  have HSB := Lib.hid (Nat.le_trans (show w1.heap.size ≤ _ from (Nat.le_refl _)) hb9.size)
  replace HR := Lib.hid (by first | exact HR.out.call hb9 | exact HR.out.drew.call hb9)
  clear hk9 hb9
  have hS0 := HR.out.s
  refine hK.out _ _ (fun _ => hS0) ?_
  clear hK K
  try simp only [Act.put, Array.toArray_toList, List.setIfInBounds_toArray, List.set_cons_zero, List.set_cons_succ]
  refine anyM_one (i := 3) (by kernel_rfl) rfl (fun K hK => ?_)
  go_simp
  replace HR := Lib.hid (HR.out.alloc (.cells #[.int .i64 ck, .int .i64 cn, .int .i64 0, .slice none 0 0, .string ctx, .slice A9 m9 c9] 75))
  have HK1 := Lib.hid (kids_one1 (t := .mk ck cn ctx cks) (c := c9) HK9.out HSB.out)
  replace HSB : Hid (w1.heap.size ≤ (wb.alloc (.cells #[.int .i64 ck, .int .i64 cn, .int .i64 0, .slice none 0 0, .string ctx, .slice A9 m9 c9] 75)).heap.size) := Nat.le_trans HSB.out (by simp)
  have hS0 := HR.out.s
  refine hK.out _ _ (fun _ => hS0) ?_
  clear hK K
  try simp only [Act.put, Array.toArray_toList, List.setIfInBounds_toArray, List.set_cons_zero, List.set_cons_succ]
  refine anyM_one (i := 4) (by kernel_rfl) rfl (fun K hK => ?_)
  go_simp
  refine Calls.mono (HAN.out _ _) ?_
  rintro e wan ⟨rfl, hban⟩
  replace HK1 := Lib.hid (KidsAt.step HK1.out hban)
  replace HSB := Lib.hid (Nat.le_trans HSB.out hban.size)
  replace HR := Lib.hid (by first | exact HR.out.call hban | exact HR.out.drew.call hban)
  clear hban
  have hS0 := HR.out.s
  refine hK.out _ _ (fun _ => hS0) ?_
  clear hK K
  try simp only [Act.put, Array.toArray_toList, List.setIfInBounds_toArray, List.set_cons_zero, List.set_cons_succ]
  refine anyM_one (i := 7) (by kernel_rfl) rfl (fun K hK => ?_)
  go_simp
  refine Calls.mono (HIN.out _ (by first | exact HR.out.bel | exact HR.out.drew.bel)) ?_
  rintro e wc ⟨rfl, hbwc⟩
  replace HK1 := Lib.hid (KidsAt.step HK1.out hbwc)
  replace HSB := Lib.hid (Nat.le_trans HSB.out hbwc.size)
  replace HR := Lib.hid (by first | exact HR.out.call hbwc | exact HR.out.drew.call hbwc)
  clear hbwc
  have hS0 := HR.out.s
  refine hK.out _ _ (fun _ => hS0) ?_
  clear hK K
  try simp only [Act.put, Array.toArray_toList, List.setIfInBounds_toArray, List.set_cons_zero, List.set_cons_succ]
  refine anyM_free (i := 8) (oi := { dst := some 13, op := _, type := _, pos := _, after := _, guard := _ }) (v := ?_) rfl (by kernel_rfl) (fun _ _ _ h => h) (Or.inl ⟨by kernel_rfl, ?_⟩) (fun _ => hS0) ?_
  rotate_left 1
  · (intro w hSw; (try dsimp only at hSw); go_simp; try with_reducible rfl)
  try simp only [Act.put, Array.toArray_toList, List.setIfInBounds_toArray, List.set_cons_zero, List.set_cons_succ]
  refine anyM_one (i := 9) (by kernel_rfl) rfl (fun K hK => ?_)
  rw [if_pos (by kernel_rfl)]
  refine wp_store_mid _ _ _ rfl w.heap.size 0 #[.int .i64 8, .int .i64 (-1), .int .i64 0, .slice none 0 0, .string ⟨#[]⟩, .slice (some ⟨wb.heap.size, 0, none⟩) 1 1] rfl rfl (by first | exact (HR.out.set2 #[.int .i64 8, .int .i64 (-1), .int .i64 0, .slice none 0 0, .string ⟨#[]⟩, .slice (some ⟨wb.heap.size, 0, none⟩) 1 1] rfl).1 | exact (HR.out.drew.set2 #[.int .i64 8, .int .i64 (-1), .int .i64 0, .slice none 0 0, .string ⟨#[]⟩, .slice (some ⟨wb.heap.size, 0, none⟩) 1 1] rfl).1) (by kernel_rfl) (by kernel_rfl) ?_
  first | (obtain ⟨wd, hwwd, hrwd, hzwd⟩ := (HR.out.set2 #[.int .i64 8, .int .i64 (-1), .int .i64 0, .slice none 0 0, .string ⟨#[]⟩, .slice (some ⟨wb.heap.size, 0, none⟩) 1 1] rfl).2; rw [hwwd]; clear hwwd; replace HR := Lib.hid hrwd; have HZS := Lib.hid hzwd; clear hrwd hzwd) | (obtain ⟨wd, hwwd, hrwd, hzwd⟩ := (HR.out.drew.set2 #[.int .i64 8, .int .i64 (-1), .int .i64 0, .slice none 0 0, .string ⟨#[]⟩, .slice (some ⟨wb.heap.size, 0, none⟩) 1 1] rfl).2; rw [hwwd]; clear hwwd; replace HR := Lib.hid hrwd; have HZS := Lib.hid hzwd; clear hrwd hzwd)
  change K (Act.put _ none undef) _
  have hS0 := HR.out.s
  refine hK.out _ _ (fun _ => hS0) ?_
  clear hK K
  try simp only [Act.put, Array.toArray_toList, List.setIfInBounds_toArray, List.set_cons_zero, List.set_cons_succ]
  refine anyM_free (i := 10) (oi := { dst := some 4, op := _, type := _, pos := _, after := _, guard := _ }) (v := ?_) rfl (by kernel_rfl) (fun _ _ _ h => h) (Or.inl ⟨by kernel_rfl, ?_⟩) (fun _ => hS0) ?_
  rotate_left 1
  · (intro w hSw; (try dsimp only at hSw); go_simp; try with_reducible rfl)
  try simp only [Act.put, Array.toArray_toList, List.setIfInBounds_toArray, List.set_cons_zero, List.set_cons_succ]
  refine anyM_done (by kernel_rfl) ?_ _
  refine NoPanic.normal ?_
  go_wp2_with fail
  exact bodyPost_ret (ret_tree2 Tryz.results160 _ _ w.heap.size _ rfl HR.out.res rfl) rfl ⟨_, _, _, rfl, KidsAt.earlier (KidsAt.moved (w1 := w1) HK1.out (by have := HZ.out; omega) HZS.out) (by have := HZ.out; omega), HR.out.bel⟩

set_option maxRecDepth 100000 in
set_option maxHeartbeats 4000000 in
theorem rowsM_calls (I : BxV) (hc : checkE I.ns = 0) (r : Nat) (IH : DeepP I hc r) (l : List Nat) (A : Option Addr) (n c : Nat) (w : World) (h : I.ok w w.heap.size) (hl : l.length = n) (hL : Holds w w.heap.size A (nums l)) (hm : n ≤ 200) (hcap : n ≤ c) (hlt : ∀ k ∈ l, k < I.n) (hr : ∀ k ∈ l, rankN I.ns k < r) :
    Calls Tryz.prog 112 #[mkA I, .slice A n c] w (SliceT w ((docB I (docOk hc)).rowsT (docB I (docOk hc)).box l)) := by
  have hba := below_alloc (Below.refl w.heap.size w) (.cells #[.slice I.A I.n I.c, .slice I.Al I.nl I.cl] 69)
  have HB := Lib.hid hba
  have HM := Lib.hid (mkB_new I w)
  have HNM := Lib.hid (fun w' => namedB_calls I 6 w')
  have HSP := Lib.hid (fun (gm gi : Nat) w' (hb : Below w.heap.size w w') (hg : MkB I w.heap.size w') (hM : MkB I gm w') (hG : Blk w' gi 3 #[.int .i64 6]) =>
    splitN_calls 158 160 gm gi w.heap.size ((docB I (docOk hc)).named 6) (fun k => .mk 8 k noS ((docB I (docOk hc)).cellsT (docB I (docOk hc)).box ((docB I (docOk hc)).content k))) (fun r => .mk 8 (-1) noS [(docB I (docOk hc)).cellT (docB I (docOk hc)).box (-1) r]) (fun r => !(docB I (docOk hc)).idleT (r.map (docB I (docOk hc)).box)) rfl (.inr ⟨rfl, rfl⟩) l A n c w' (by omega) hcap hl ((hL.below hb (Nat.le_refl _)).more hb.size)
      (named_says I (docOk hc) gm gi 6 l w' ((h.below hb (Nat.le_refl _)).more hb.size) hlt hM hG)
      (fun k hk w2 hb2 => rows1_calls I hc r IH w.heap.size k w2 ((h.below (below_then hb hb2) (Nat.le_refl _)).more (below_then hb hb2).size) (hg.below hb2) (hlt k hk) (by have := hr k hk; omega))
      (fun us A' m c' w2 hu hul hml hb2 hH => rows2_calls I hc w.heap.size us A' m c' w2 ((h.below (below_then hb hb2) (Nat.le_refl _)).more (below_then hb hb2).size) (hg.below hb2) hul hH (by omega) (fun k hk => hlt k (hu k hk)) (fun j hj => IH j (hr j (hu j hj)) (hlt j (hu j hj)))))
  have HV : Hid ((docB I (docOk hc)).rowsT (docB I (docOk hc)).box l = pieces ((docB I (docOk hc)).named 6) (fun k => .mk 8 k noS ((docB I (docOk hc)).cellsT (docB I (docOk hc)).box ((docB I (docOk hc)).content k))) (fun r => .mk 8 (-1) noS [(docB I (docOk hc)).cellT (docB I (docOk hc)).box (-1) r]) (fun r => !(docB I (docOk hc)).idleT (r.map (docB I (docOk hc)).box)) [] l) := rfl
  rw [← HV.out] at HSP
  generalize (docB I (docOk hc)).rowsT (docB I (docOk hc)).box l = TS at HSP ⊢
  unfold NamedT at HNM
  unfold SliceT
  unfold mkA at HNM ⊢
  clear hba h hl hL hm hcap hlt hr IH HV
  go_enter Tryz.func112, Tryz.ntmps112
  go_wp2_with (first | (go_at_call 157; refine (HNM.out _).mono ?_; rintro e wn ⟨gm, gi, rfl, hgm, hgi, hbn⟩; have HGM := Lib.hid hgm; have HGI := Lib.hid hgi; have HB1 := Lib.hid (below_then HB.out hbn); have HM1 := Lib.hid (MkB.below HM.out hbn); clear hgm hgi hbn) | (go_at_call 156; refine (HSP.out gm gi _ HB1.out HM1.out HGM.out HGI.out).mono ?_; rintro e ws ⟨A9, n9, c9, rfl, _, hk9, hb9⟩; have HB9 := Lib.hid (below_then HB1.out hb9); have HK9 := Lib.hid (KidsAt.earlier hk9 HB1.out.size); clear hk9 hb9))
  go_ret
  exact ⟨A9, n9, c9, rfl, HK9.out, HB9.out⟩
end Go.Proofs.YtkmmlcnoeeaekaaGreatDoor
