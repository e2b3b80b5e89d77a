/- Several texts in one: TfL. -/
import Derived.Test.YtcghahfboccceaaGreatDoorTopEscapeM34
import Derived.Test.YtcghahfboccceaaGreatDoorTopEscapeM12
/- Contracts of the parser's html, block. Printed by genTfL.py. -/
namespace Go.Proofs.YtcghahfboccceaaGreatDoor
open Go.RowKit Go.Shelf
set_option linter.unusedVariables false
set_option linter.unusedSimpArgs false

def htmlN : ByteArray := ⟨#[104, 116, 109, 108]⟩
theorem RP.opNil {B b : Nat} {m : Int} {S : PS} {w : World} (h : RP B b m S w) : RP B b m { S with op := [] } (w.setCell ⟨b, 1, none⟩ (.slice none 0 0)) ∧ Left B w (w.setCell ⟨b, 1, none⟩ (.slice none 0 0)) := by
  obtain ⟨v, vo, ns, h⟩ := h
  have := h.field (S' := { S with op := [] }) (v' := v) (vo' := .slice none 0 0) (ns' := ns) (j := 1) (u := .slice none 0 0) (Below.refl _ _) (Keep.refl _) h.blk (h.tree.openTo (World.ownsRow_nil _ _ _ _) (.inr rfl)) h.abs rfl
  exact ⟨⟨_, _, _, this.1⟩, this.2⟩
set_option maxRecDepth 100000 in
set_option maxHeartbeats 2000000 in
theorem html_calls (B b : Nat) (m : Int) (S : PS) (x : Nd) (w : World) (h : RP B b m S w) (hx : S.ns[0]? = some x) (hf : S.ns.length < 100000) (hkl : x.kids.length < 100000) :
    Calls Tryz.prog 166 #[.pointer (some ⟨b, 0, none⟩), .slice none 0 0] w fun e w' => e = .returned (.tuple #[]) ∧ RP B b m (({ S with op := [] } : PS).element 0 htmlN []) w' ∧ Left B w w' := by
  have c1 : ∃ u, w.cell? ⟨b, 1, none⟩ = some u := by obtain ⟨v, vo, ns, h⟩ := h; exact ⟨_, h.blk.cell 1⟩
  obtain ⟨u1, c1⟩ := c1
  have f1 := h.cells.2.2.2.2.2.2.2.2.2 1
  obtain ⟨S1, hS1⟩ : ∃ S1 : PS, S1 = { S with op := [] } := ⟨_, rfl⟩
  have HO := h.opNil
  rw [← hS1] at HO ⊢
  have hx1 : S1.ns[0]? = some x := by rw [hS1]; exact hx
  obtain ⟨kl, hk⟩ : ∃ kl, kl = x.kids.length := ⟨_, rfl⟩
  have hop : S1.op.length < 100000 := by rw [hS1]; simp
  have hf1 : S1.ns.length < 100000 := by rw [hS1]; exact hf
  have RR := Lib.hid HO.1
  have LL := Lib.hid HO.2
  have HB := Lib.hid (fun W (hR : RP B b m S1 W) => behind_calls B b m S1 0 kl x W hR hx1 hk.symm)
  have HE := Lib.hid (fun W (hR : RP B b m S1 W) => element_calls B b m S1 0 kl x htmlN (.slice none 0 0) [] W hR (AttrsAt.none B W) hx1 hk.symm hf1 (by omega) (by simp) hop)
  unfold htmlN at HE ⊢
  clear h hx hS1 HO hx1 hk
  go_enter Tryz.func166, Tryz.ntmps166
  go_wp2
  have hS0 : (fun w' : World => True) (w.setCell ⟨b, 1, none⟩ (.slice none 0 0)) := trivial
  refine wp_region_noPanic ?_
  refine region_M (S := fun w' => True) (T := []) (by kernel_rfl) ?_
  have hS0 : (fun w' : World => True) (World.drew (w.setCell ⟨b, 1, none⟩ (.slice none 0 0))) := trivial
  have RR : Hid (RP B b m S1 (World.drew (w.setCell ⟨b, 1, none⟩ (.slice none 0 0)))) := RR.out.below (below_drewN (Below.refl _ _) 1)
  have LL : Hid (Left B w (World.drew (w.setCell ⟨b, 1, none⟩ (.slice none 0 0)))) := LL.out.trans (Left.of_below (below_drewN (Below.refl _ _) 1) (by have := RR.out.bw; exact this))
  generalize World.drew (w.setCell ⟨b, 1, none⟩ (.slice none 0 0)) = wd at RR LL hS0 ⊢
  refine anyM_free (i := 0) (oi := { dst := some 8, op := _, type := _, pos := _, after := _, guard := _ }) (v := ?_) rfl (by kernel_rfl) (fun _ _ _ h => h) (Or.inl ⟨by kernel_rfl, ?_⟩) (fun _ => hS0) ?_
  rotate_left 1
  · (intro w hSw; (try dsimp only at hSw); go_simp; try with_reducible rfl)
  try simp only [Act.put, Array.toArray_toList, List.setIfInBounds_toArray, List.set_cons_zero, List.set_cons_succ]
  refine anyM_free (i := 1) (oi := { dst := some 9, op := _, type := _, pos := _, after := _, guard := _ }) (v := ?_) rfl (by kernel_rfl) (fun _ _ _ h => h) (Or.inl ⟨by kernel_rfl, ?_⟩) (fun _ => hS0) ?_
  rotate_left 1
  · (intro w hSw; (try dsimp only at hSw); go_simp; try with_reducible rfl)
  try simp only [Act.put, Array.toArray_toList, List.setIfInBounds_toArray, List.set_cons_zero, List.set_cons_succ]
  refine anyM_free (i := 2) (oi := { dst := some 10, op := _, type := _, pos := _, after := _, guard := _ }) (v := ?_) rfl (by kernel_rfl) (fun _ _ _ h => h) (Or.inl ⟨by kernel_rfl, ?_⟩) (fun _ => hS0) ?_
  rotate_left 1
  · (intro w hSw; (try dsimp only at hSw); go_simp; try with_reducible rfl)
  try simp only [Act.put, Array.toArray_toList, List.setIfInBounds_toArray, List.set_cons_zero, List.set_cons_succ]
  refine anyM_free (i := 3) (oi := { dst := some 11, op := _, type := _, pos := _, after := _, guard := _ }) (v := ?_) rfl (by kernel_rfl) (fun _ _ _ h => h) (Or.inl ⟨by kernel_rfl, ?_⟩) (fun _ => hS0) ?_
  rotate_left 1
  · (intro w hSw; (try dsimp only at hSw); go_simp; try with_reducible rfl)
  try simp only [Act.put, Array.toArray_toList, List.setIfInBounds_toArray, List.set_cons_zero, List.set_cons_succ]
  refine anyM_free (i := 4) (oi := { dst := some 12, op := _, type := _, pos := _, after := _, guard := _ }) (v := ?_) rfl (by kernel_rfl) (fun _ _ _ h => h) (Or.inl ⟨by kernel_rfl, ?_⟩) (fun _ => hS0) ?_
  rotate_left 1
  · (intro w hSw; (try dsimp only at hSw); go_simp; try with_reducible rfl)
  try simp only [Act.put, Array.toArray_toList, List.setIfInBounds_toArray, List.set_cons_zero, List.set_cons_succ]
  refine anyM_free (i := 5) (oi := { dst := some 13, op := _, type := _, pos := _, after := _, guard := _ }) (v := ?_) rfl (by kernel_rfl) (fun _ _ _ h => h) (Or.inl ⟨by kernel_rfl, ?_⟩) (fun _ => hS0) ?_
  rotate_left 1
  · (intro w hSw; (try dsimp only at hSw); go_simp; try with_reducible rfl)
  try simp only [Act.put, Array.toArray_toList, List.setIfInBounds_toArray, List.set_cons_zero, List.set_cons_succ]
  refine anyM_free (i := 7) (oi := { dst := some 15, op := _, type := _, pos := _, after := _, guard := _ }) (v := ?_) rfl (by kernel_rfl) (fun _ _ _ h => h) (Or.inl ⟨by kernel_rfl, ?_⟩) (fun _ => hS0) ?_
  rotate_left 1
  · (intro w hSw; (try dsimp only at hSw); go_simp; try with_reducible rfl)
  try simp only [Act.put, Array.toArray_toList, List.setIfInBounds_toArray, List.set_cons_zero, List.set_cons_succ]
  refine anyM_one (i := 6) (by kernel_rfl) rfl (fun K hK => ?_)
  go_simp
  refine (HB.out _ RR.out).mono ?_
  rintro e w8 ⟨rfl, hb8⟩
  have R8 := Lib.hid (RR.out.below hb8)
  have L8 := Lib.hid (LL.out.trans (Left.of_below hb8 RR.out.bw))
  have hS0 : (fun w' : World => True) w8 := trivial
  clear hb8
  refine hK.out _ _ (fun _ => hS0) ?_
  clear hK K
  try simp only [Act.put, Array.toArray_toList, List.setIfInBounds_toArray, List.set_cons_zero, List.set_cons_succ]
  refine anyM_one (i := 8) (by kernel_rfl) rfl (fun K hK => ?_)
  go_simp
  refine (HE.out _ R8.out).mono ?_
  rintro e w9 ⟨rfl, hr9, hl9⟩
  have R9 := Lib.hid hr9
  have L9 := Lib.hid hl9
  have hS0 : (fun w' : World => True) w9 := trivial
  clear hr9 hl9
  refine hK.out _ _ (fun _ => hS0) ?_
  clear hK K
  try simp only [Act.put, Array.toArray_toList, List.setIfInBounds_toArray, List.set_cons_zero, List.set_cons_succ]
  refine anyM_done (by kernel_rfl) ?_ _
  refine NoPanic.normal ?_
  clear hS0
  go_wp2_with fail
  go_end0
  exact ⟨rfl, R9.out, L8.out.trans L9.out⟩
set_option maxRecDepth 100000 in
set_option maxHeartbeats 2000000 in
theorem block_calls (B b : Nat) (m : Int) (S : PS) (i : Nat) (x : Nd) (kind f t : Int) (nm tx : ByteArray) (A : Option Addr) (n c : Nat) (sf : Bool) (attrs : List (ByteArray × ByteArray)) (L : List ByteArray) (w : World) (h : RP B b m S w) (hat : AttrsAt B (.slice A n c) attrs w) (hi : S.op.getLast? = some (i : Int)) (hx : S.ns[i]? = some x) (hf : S.ns.length < 100000) (hkl : x.kids.length < 100000) (hal : attrs.length ≤ 100000) (hop : S.op.length < 100000)
    (hL : NamesOf S L) (h0 : 0 < L.length) (hfL : L.length ≤ 100000) (hs : ∀ x ∈ L, x.size ≤ 100000) (hq : hasB ⟨#[112]⟩ L.reverse = false) :
    Calls Tryz.prog 210 #[.pointer (some ⟨b, 0, none⟩), .agg #[.int .i64 kind, .string nm, .slice A n c, .string tx, .bool sf, .int .i64 f, .int .i64 t]] w fun e w' => e = .returned (.tuple #[]) ∧ RP B b m (S.element i nm attrs) w' ∧ Left B w w' := by
  obtain ⟨g, hg⟩ : ∃ g, g = w.heap.size := ⟨_, rfl⟩
  obtain ⟨wa, hwa⟩ : ∃ wa, wa = w.alloc (.cells #[.int .i64 kind, .string nm, .slice A n c, .string tx, .bool sf, .int .i64 f, .int .i64 t] 114) := ⟨_, rfl⟩
  have TB : Hid (Blk wa g 114 #[.int .i64 kind, .string nm, .slice A n c, .string tx, .bool sf, .int .i64 f, .int .i64 t]) := by show Blk _ _ _ _; rw [hwa, hg]; exact Blk.new w _ _
  have B0 : Hid (Below w.heap.size w wa) := by show Below _ _ _; rw [hwa]; exact (Below.refl _ w).alloc (Nat.le_refl _) _
  have RR := Lib.hid (h.below B0.out)
  have BW := Lib.hid h.bw
  have HC := Lib.hid (closeP_no B b m S L wa RR.out hL h0 hfL hs hq)
  have HS := Lib.hid (fun W (hR : RP B b m S W) (hA : AttrsAt B (.slice A n c) attrs W) => start_calls B b m S i x nm (.slice A n c) attrs W hR hA hi hx hf hkl hal hop)
  have AA := Lib.hid (own_below hat B0.out)
  obtain ⟨S', hS'⟩ : ∃ S', S' = S.element i nm attrs := ⟨_, rfl⟩
  rw [← hS'] at HS ⊢
  have HWA := Lib.hid hwa
  have HG := Lib.hid hg
  clear h hat hi hx hL hs hq hwa hg hS'
  go_enter Tryz.func210, Tryz.ntmps210
  go_wp2_with (go_at_call 211; rw [← HWA.out, ← HG.out]; refine HC.out.mono ?_; rintro e w1 ⟨rfl, hb1⟩; (have B1 := Lib.hid (B0.out.trans (hb1.mono B0.out.size))); (have R1 := Lib.hid (RR.out.below hb1)); (have T1 := Lib.hid (TB.out.below hb1 TB.out.lt)); (have A1 := Lib.hid (own_below AA.out hb1)); clear hb1)
  have hS0 : (fun w' : World => w'.cell? ⟨g, 1, none⟩ = some (.string nm) ∧ w'.cell? ⟨g, 2, none⟩ = some (.slice A n c)) w1 := ⟨T1.out.cell 1, T1.out.cell 2⟩
  refine wp_region_noPanic ?_
  refine region_M (S := fun w' => w'.cell? ⟨g, 1, none⟩ = some (.string nm) ∧ w'.cell? ⟨g, 2, none⟩ = some (.slice A n c)) (T := []) (by kernel_rfl) ?_
  have hS0 : (fun w' : World => w'.cell? ⟨g, 1, none⟩ = some (.string nm) ∧ w'.cell? ⟨g, 2, none⟩ = some (.slice A n c)) (World.drew w1) := hS0
  have B1 : Hid (Below w.heap.size w (World.drew w1)) := B1.out.drew
  have R1 : Hid (RP B b m S (World.drew w1)) := R1.out.below (below_drewN (Below.refl _ _) 1)
  have T1 : Hid (Blk (World.drew w1) g 114 #[.int .i64 kind, .string nm, .slice A n c, .string tx, .bool sf, .int .i64 f, .int .i64 t]) := T1.out
  have A1 : Hid (AttrsAt B (.slice A n c) attrs (World.drew w1)) := own_below A1.out (below_drewN (Below.refl _ _) 1)
  generalize World.drew w1 = wd at B1 R1 T1 A1 hS0 ⊢
  refine anyM_free (i := 0) (oi := { dst := some 8, op := _, type := _, pos := _, after := _, guard := _ }) (v := ?_) rfl (by kernel_rfl) (fun _ _ _ h => h) (Or.inl ⟨by kernel_rfl, ?_⟩) (fun _ => hS0) ?_
  rotate_left 1
  · (intro w hSw; (try dsimp only at hSw); go_simp; try with_reducible rfl)
  try simp only [Act.put, Array.toArray_toList, List.setIfInBounds_toArray, List.set_cons_zero, List.set_cons_succ]
  refine anyM_free (i := 1) (oi := { dst := some 9, op := _, type := _, pos := _, after := _, guard := _ }) (v := ?_) rfl (by kernel_rfl) (fun _ _ _ h => h) (Or.inl ⟨by kernel_rfl, ?_⟩) (fun _ => hS0) ?_
  rotate_left 1
  · (intro w hSw; (try dsimp only at hSw); go_simp; try with_reducible rfl)
  try simp only [Act.put, Array.toArray_toList, List.setIfInBounds_toArray, List.set_cons_zero, List.set_cons_succ]
  refine anyM_free (i := 2) (oi := { dst := some 10, op := _, type := _, pos := _, after := _, guard := _ }) (v := ?_) rfl (by kernel_rfl) (fun _ _ _ h => h) (Or.inl ⟨by kernel_rfl, ?_⟩) (fun _ => hS0) ?_
  rotate_left 1
  · (intro w hSw; (try dsimp only at hSw); go_simp; try with_reducible rfl)
  try simp only [Act.put, Array.toArray_toList, List.setIfInBounds_toArray, List.set_cons_zero, List.set_cons_succ]
  refine anyM_free (i := 3) (oi := { dst := some 11, op := _, type := _, pos := _, after := _, guard := _ }) (v := ?_) rfl (by kernel_rfl) (fun _ _ _ h => h) (Or.inl ⟨by kernel_rfl, ?_⟩) (fun _ => hS0) ?_
  rotate_left 1
  · (intro w hSw; (try dsimp only at hSw); go_simp; try with_reducible rfl)
  try simp only [Act.put, Array.toArray_toList, List.setIfInBounds_toArray, List.set_cons_zero, List.set_cons_succ]
  refine anyM_free (i := 4) (oi := { dst := some 12, op := _, type := _, pos := _, after := _, guard := _ }) (v := ?_) rfl (by kernel_rfl) (fun _ _ _ h => h) (Or.inl ⟨by kernel_rfl, ?_⟩) (fun _ => hS0) ?_
  rotate_left 1
  · (intro w hSw; (try dsimp only at hSw); go_simp; try with_reducible rfl)
  try simp only [Act.put, Array.toArray_toList, List.setIfInBounds_toArray, List.set_cons_zero, List.set_cons_succ]
  refine anyM_take (i := 5) (oi := { dst := some 13, op := _, type := _, pos := _, after := _, guard := _ }) (v := ?_) rfl (by kernel_rfl) (fun _ _ _ h => h) (Or.inl ⟨by kernel_rfl, ?_⟩) hS0 ?_
  rotate_left 1
  · (intro w hSw; (try dsimp only at hSw); go_simp; try with_reducible rfl)
  try simp only [Act.put, Array.toArray_toList, List.setIfInBounds_toArray, List.set_cons_zero, List.set_cons_succ]
  refine anyM_free (i := 6) (oi := { dst := some 14, op := _, type := _, pos := _, after := _, guard := _ }) (v := ?_) rfl (by kernel_rfl) (fun _ _ _ h => h) (Or.inl ⟨by kernel_rfl, ?_⟩) (fun _ => hS0) ?_
  rotate_left 1
  · (intro w hSw; (try dsimp only at hSw); go_simp; try with_reducible rfl)
  try simp only [Act.put, Array.toArray_toList, List.setIfInBounds_toArray, List.set_cons_zero, List.set_cons_succ]
  refine anyM_free (i := 7) (oi := { dst := some 15, op := _, type := _, pos := _, after := _, guard := _ }) (v := ?_) rfl (by kernel_rfl) (fun _ _ _ h => h) (Or.inl ⟨by kernel_rfl, ?_⟩) (fun _ => hS0) ?_
  rotate_left 1
  · (intro w hSw; (try dsimp only at hSw); go_simp; try with_reducible rfl)
  try simp only [Act.put, Array.toArray_toList, List.setIfInBounds_toArray, List.set_cons_zero, List.set_cons_succ]
  refine anyM_take (i := 8) (oi := { dst := some 16, op := _, type := _, pos := _, after := _, guard := _ }) (v := ?_) rfl (by kernel_rfl) (fun _ _ _ h => h) (Or.inl ⟨by kernel_rfl, ?_⟩) hS0 ?_
  rotate_left 1
  · (intro w hSw; (try dsimp only at hSw); go_simp; try with_reducible rfl)
  try simp only [Act.put, Array.toArray_toList, List.setIfInBounds_toArray, List.set_cons_zero, List.set_cons_succ]
  refine anyM_one (i := 9) (by kernel_rfl) rfl (fun K hK => ?_)
  go_simp
  refine (HS.out _ R1.out A1.out).mono ?_
  rintro e w9 ⟨rfl, hr9, hl9⟩
  have R9 := Lib.hid hr9
  have L9 := Lib.hid hl9
  have T9 := Lib.hid (hl9.keep.blk T1.out (by decide) (by decide) (by decide))
  have hS0 : (fun w' : World => w'.cell? ⟨g, 1, none⟩ = some (.string nm) ∧ w'.cell? ⟨g, 2, none⟩ = some (.slice A n c)) w9 := ⟨T9.out.cell 1, T9.out.cell 2⟩
  clear hr9 hl9
  refine hK.out _ _ (fun _ => hS0) ?_
  clear hK K
  try simp only [Act.put, Array.toArray_toList, List.setIfInBounds_toArray, List.set_cons_zero, List.set_cons_succ]
  refine anyM_done (by kernel_rfl) ?_ _
  refine NoPanic.normal ?_
  clear hS0
  go_wp2_with fail
  go_end0
  exact ⟨rfl, R9.out, (Left.of_below B1.out BW.out).trans L9.out⟩
end Go.Proofs.YtcghahfboccceaaGreatDoor
