/- The maker of items: its state, and put. -/
import Derived.Test.YtpamfhplklhnpaaDoorItmPlain
import Derived.Test.YtpamfhplklhnpaaDoorStkI
namespace Go.Proofs.YtpamfhplklhnpaaDoor
open Go.RowKit
set_option linter.unusedVariables false
set_option linter.unusedSimpArgs false

theorem info_item : (Tryd.prog.info? 40).map (fun i => (i.zero, i.size, i.bytes)) = some (some (.agg #[.int .i64 0, .int .i64 0, .string ⟨#[]⟩, .int .i64 0, .int .i64 0, .int .i64 0, .int .i64 0, .int .i64 0, .int .i64 0, .int .i64 0, .int .i64 0]), 11, 96) := by kernel_rfl
/-- What the maker works on. -/
structure MkV where
  Ab : Option Addr
  nb : Nat
  cb : Nat
  bs : List BoxV
  Al : Option Addr
  nl : Nat
  cl : Nat
  lz : List Int
  room : Int
def mkC (M : MkV) (bl : Bool) (v : Value) : Array Value := #[.slice M.Ab M.nb M.cb, .slice M.Al M.nl M.cl, .int .i64 M.room, .bool bl, v]
structure MSt (M : MkV) (B gM : Nat) (bl : Bool) (v : Value) (xs : List ItemV) (w : World) : Prop where
  blk : Blk w gM 63 (mkC M bl v)
  own : w.ownsRow B 40 11 v xs.length (items xs)
  boxes : Boxes w B M.Ab M.bs
  looks : Holds w B M.Al (ints M.lz)
  hB : B ≤ w.heap.size
  hg : B ≤ gM
section
variable {M : MkV} {B gM : Nat} {bl : Bool} {v v1 : Value} {xs : List ItemV} {w w' w0 w1 : World}
theorem MSt.below (h : MSt M B gM bl v xs w) (hb : Below w.heap.size w w') : MSt M B gM bl v xs w' :=
  ⟨h.blk.below hb h.blk.lt, own_below h.own hb, h.boxes.below hb h.hB, h.looks.below hb h.hB, Nat.le_trans h.hB hb.size, h.hg⟩
theorem MSt.drew (h : MSt M B gM bl v xs w) : MSt M B gM bl v xs w.drew := h.below (below_drewN (Below.refl _ _) 1)
theorem MSt.under (h : MSt M B gM bl v xs w) (hf : Fr gM v w w') : Below B w w' := hf.under h.hB h.hg (fun k hk => (h.own.lt k hk).1)
theorem MSt.pushed {x : ItemV} (h : MSt M B gM bl v xs w) (hb : Below w.heap.size w w0) (o1 : w1.ownsRow B 40 11 v1 (xs.length + 1) (items xs ++ items [x])) (hg1 : w0.grownBy w1 v.ownBlock)
    (hat : v1.ownBlock = v.ownBlock ∨ v1.ownBlock = some w0.heap.size) : MSt M B gM bl v1 (xs ++ [x]) (w1.setCell ⟨gM, 4, none⟩ v1) ∧ Fr gM v w (w1.setCell ⟨gM, 4, none⟩ v1) ∧ OwnRel v v1 w := by
  have h0 := h.below hb
  have hne := blk_ne h0.blk h0.own (show (63 : TypeId) ≠ 40 by decide)
  have hb1 : Blk w1 gM 63 (mkC M bl v) := blk_grown h0.blk hg1 hne
  have hne1 := blk_ne hb1 o1 (show (63 : TypeId) ≠ 40 by decide)
  have hrel : OwnRel v v1 w := by
    rcases hat with hat | hat
    · exact .inl hat
    · exact .inr ⟨_, hat, hb.size⟩
  have hF : Fr gM v w (w1.setCell ⟨gM, 4, none⟩ v1) := ((Fr.below hb).trans (.inl rfl) (Fr.grown hg1)).trans hrel (Fr.set 4 v1)
  have hbB := h.under hF
  refine ⟨⟨hb1.stored 4 v1, ?_, h.boxes.below hbB (Nat.le_refl _), h.looks.below hbB (Nat.le_refl _), Nat.le_trans h.hB hF.size, h.hg⟩, hF, hrel⟩
  have := own_setFar (b := gM) (j := 4) (u := v1) o1 hne1
  rw [items_append, List.length_append]
  exact this
theorem MSt.blank (h : MSt M B gM bl v xs w) (b2 : Bool) : MSt M B gM b2 v xs (w.setCell ⟨gM, 3, none⟩ (.bool b2)) ∧ Fr gM v w (w.setCell ⟨gM, 3, none⟩ (.bool b2)) := by
  have hne := blk_ne h.blk h.own (show (63 : TypeId) ≠ 40 by decide)
  have hF : Fr gM v w (w.setCell ⟨gM, 3, none⟩ (.bool b2)) := Fr.set 3 _
  have hbB := h.under hF
  exact ⟨⟨h.blk.stored 3 _, own_setFar h.own hne, h.boxes.below hbB (Nat.le_refl _), h.looks.below hbB (Nat.le_refl _), Nat.le_trans h.hB hF.size, h.hg⟩, hF⟩
theorem blk_item {g : Nat} {x : ItemV} (h : Blk w g 40 (itemC x)) : ∀ j u, (items [x])[j]? = some u → w.cell? ⟨g, 0 + j, none⟩ = some u := fun j u hj => by
  rw [Nat.zero_add, h.cell]
  simp only [items, List.flatMap_cons, List.flatMap_nil, List.append_nil, itemF] at hj
  simpa using hj
end
def PutPost (M : MkV) (B gM : Nat) (bl : Bool) (v : Value) (xs : List ItemV) (x : ItemV) (w : World) (e : Ending) (w' : World) : Prop :=
  e = .returned (.tuple #[]) ∧ ∃ v', MSt M B gM bl v' (xs ++ [x]) w' ∧ Fr gM v w w' ∧ OwnRel v v' w
set_option maxRecDepth 1000000 in
set_option maxHeartbeats 4000000 in
theorem put_calls (M : MkV) (B gM : Nat) (bl : Bool) (v : Value) (xs : List ItemV) (x : ItemV) (w : World) (h : MSt M B gM bl v xs w) (hn : xs.length ≤ 4194304) :
    Calls Tryd.prog 59 #[.pointer (some ⟨gM, 0, none⟩), .agg (itemC x)] w (PutPost M B gM bl v xs x w) := by
  obtain ⟨i1, hib, hzb0, hzb1, hzb2⟩ := info_parts info_item
  have mixed : Tryd.prog.follows .mixedOrders = true := by kernel_rfl
  obtain ⟨A0, c0, rfl⟩ := own_open h.own
  obtain ⟨x0, x1, x2, x3, x4, x5, x6, x7, x8, x9, x10⟩ := x
  unfold itemC
  simp only
  have HWP0 := Lib.hid (below_alloc (Below.refl w.heap.size w) (.cells #[.int .i64 x0, .int .i64 x1, .string x2, .int .i64 x3, .int .i64 x4, .int .i64 x5, .int .i64 x6, .int .i64 x7, .int .i64 x8, .int .i64 x9, .int .i64 x10] 40))
  have HXB0 := Lib.hid (Blk.new w 40 #[.int .i64 x0, .int .i64 x1, .string x2, .int .i64 x3, .int .i64 x4, .int .i64 x5, .int .i64 x6, .int .i64 x7, .int .i64 x8, .int .i64 x9, .int .i64 x10])
  have HGN : Hid ((Value.slice A0 xs.length c0).ownBlock ≠ some w.heap.size) := fun e => by have := (h.own.lt _ e).2; omega
  have HGL : Hid (w.heap.size < (w.alloc (.cells #[.int .i64 x0, .int .i64 x1, .string x2, .int .i64 x3, .int .i64 x4, .int .i64 x5, .int .i64 x6, .int .i64 x7, .int .i64 x8, .int .i64 x9, .int .i64 x10] 40)).heap.size) := by show _ < _; rw [alloc_size]; omega
  have HSZL : Hid ((Tryd.prog.info? 40).map (·.size) = some (#[.int .i64 x0, .int .i64 x1, .string x2, .int .i64 x3, .int .i64 x4, .int .i64 x5, .int .i64 x6, .int .i64 x7, .int .i64 x8, .int .i64 x9, .int .i64 x10] : Array Value).toList.length) := by show _ = _; kernel_rfl
  have HD0 := Lib.hid (h.below HWP0.out)
  clear h
  go_enter Tryd.func59, Tryd.ntmps59
  go_wp2_with fail
  generalize World.alloc w _ = wP at HD0 HXB0 HWP0 HGL ⊢
  have HD := Lib.hid HD0.out.drew
  have HDP : Hid (Below w.heap.size w wP.drew) := HWP0.out.drew
  have HGL : Hid (w.heap.size < wP.drew.heap.size) := HGL.out
  have HSX : Hid (∀ w', Below wP.drew.heap.size wP.drew w' → Blk w' gM 63 (mkC M bl (.slice A0 xs.length c0)) → w'.rangeAt w.heap.size 0 (#[.int .i64 x0, .int .i64 x1, .string x2, .int .i64 x3, .int .i64 x4, .int .i64 x5, .int .i64 x6, .int .i64 x7, .int .i64 x8, .int .i64 x9, .int .i64 x10] : Array Value).toList ∧ w'.cell? ⟨gM, 4, none⟩ = some (.slice A0 xs.length c0)) := fun w' hb hB => ⟨fun j v hv => by
    have h1 := (HXB0.out.drew.below hb HXB0.out.drew.lt).cell j
    rw [Nat.zero_add, h1]
    simpa using hv, hB.cell 4⟩
  have hS0 : (fun w' : World => w'.rangeAt w.heap.size 0 (#[.int .i64 x0, .int .i64 x1, .string x2, .int .i64 x3, .int .i64 x4, .int .i64 x5, .int .i64 x6, .int .i64 x7, .int .i64 x8, .int .i64 x9, .int .i64 x10] : Array Value).toList ∧ w'.cell? ⟨gM, 4, none⟩ = some (.slice A0 xs.length c0)) wP.drew := HSX.out _ (Below.refl _ _) HD.out.blk
  clear HD0 HXB0 HWP0
  refine wp_region_noPanic ?_
  refine region_M (S := fun w' => w'.rangeAt w.heap.size 0 (#[.int .i64 x0, .int .i64 x1, .string x2, .int .i64 x3, .int .i64 x4, .int .i64 x5, .int .i64 x6, .int .i64 x7, .int .i64 x8, .int .i64 x9, .int .i64 x10] : Array Value).toList ∧ w'.cell? ⟨gM, 4, none⟩ = some (.slice A0 xs.length c0)) (T := [10]) (by kernel_rfl) ?_
  generalize World.drew wP = wd at HD HDP HSX HGL hS0 ⊢
  refine anyM_free (i := 0) (oi := { dst := some 4, op := _, type := _, pos := _, after := _, guard := _ }) (v := ?_) rfl (by kernel_rfl) (fun _ _ _ h => h) (Or.inl ⟨by kernel_rfl, ?_⟩) (fun _ => hS0) ?_
  rotate_left 1
  · (intro w hSw; (try dsimp only at hSw); go_simp; try with_reducible rfl)
  try simp only [Act.put, Array.toArray_toList, List.setIfInBounds_toArray, List.set_cons_zero, List.set_cons_succ]
  refine anyM_free (i := 1) (oi := { dst := some 5, op := _, type := _, pos := _, after := _, guard := _ }) (v := ?_) rfl (by kernel_rfl) (fun _ _ _ h => h) (Or.inl ⟨by kernel_rfl, ?_⟩) (fun _ => hS0) ?_
  rotate_left 1
  · (intro w hSw; (try dsimp only at hSw); go_simp; try with_reducible rfl)
  try simp only [Act.put, Array.toArray_toList, List.setIfInBounds_toArray, List.set_cons_zero, List.set_cons_succ]
  refine anyM_free (i := 2) (oi := { dst := some 6, op := _, type := _, pos := _, after := _, guard := _ }) (v := ?_) rfl (by kernel_rfl) (fun _ _ _ h => h) (Or.inl ⟨by kernel_rfl, ?_⟩) (fun _ => hS0) ?_
  rotate_left 1
  · (intro w hSw; (try dsimp only at hSw); go_simp; try with_reducible rfl)
  try simp only [Act.put, Array.toArray_toList, List.setIfInBounds_toArray, List.set_cons_zero, List.set_cons_succ]
  refine anyM_free (i := 3) (oi := { dst := some 7, op := _, type := _, pos := _, after := _, guard := _ }) (v := ?_) rfl (by kernel_rfl) (fun _ _ _ h => h) (Or.inl ⟨by kernel_rfl, ?_⟩) (fun _ => hS0) ?_
  rotate_left 1
  · (intro w hSw; (try dsimp only at hSw); go_simp; try with_reducible rfl)
  try simp only [Act.put, Array.toArray_toList, List.setIfInBounds_toArray, List.set_cons_zero, List.set_cons_succ]
  refine anyM_take (i := 4) (oi := { dst := some 8, op := _, type := _, pos := _, after := _, guard := _ }) (v := ?_) rfl (by kernel_rfl) (fun _ _ _ h => h) (Or.inl ⟨by kernel_rfl, ?_⟩) hS0 ?_
  rotate_left 1
  · (intro w hSw; (try dsimp only at hSw); go_simp; try with_reducible rfl)
  try simp only [Act.put, Array.toArray_toList, List.setIfInBounds_toArray, List.set_cons_zero, List.set_cons_succ]
  refine anyM_take (i := 5) (oi := { dst := some 9, op := _, type := _, pos := _, after := _, guard := _ }) (v := _) rfl (by kernel_rfl) (fun _ _ _ h => h) (yieldsIf_load_mid (by kernel_rfl) _ _ rfl _ _ rfl (#[.int .i64 x0, .int .i64 x1, .string x2, .int .i64 x3, .int .i64 x4, .int .i64 x5, .int .i64 x6, .int .i64 x7, .int .i64 x8, .int .i64 x9, .int .i64 x10] : Array Value).toList _ (fun w' h => by simpa using h.1) Tryd.underlying40 rfl HSZL.out) hS0 ?_
  try simp only [Act.put, Array.toArray_toList, List.setIfInBounds_toArray, List.set_cons_zero, List.set_cons_succ]
  refine anyM_one (i := 6) (by kernel_rfl) rfl (fun K hK => ?_)
  go_simp
  generalize hwx : World.alloc wd _ = wx
  have BX := Lib.hid (blk_neq hwx)
  have HBX := Lib.hid (below_aeq hwx (Below.refl _ _))
  have HTX := Lib.hid (HD.out.below HBX.out)
  have hS0 : (fun w' : World => w'.rangeAt w.heap.size 0 (#[.int .i64 x0, .int .i64 x1, .string x2, .int .i64 x3, .int .i64 x4, .int .i64 x5, .int .i64 x6, .int .i64 x7, .int .i64 x8, .int .i64 x9, .int .i64 x10] : Array Value).toList ∧ w'.cell? ⟨gM, 4, none⟩ = some (.slice A0 xs.length c0)) wx := HSX.out _ HBX.out HTX.out.blk
  clear hwx
  refine hK.out _ _ (fun _ => hS0) ?_
  clear hK K
  try simp only [Act.put, Array.toArray_toList, List.setIfInBounds_toArray, List.set_cons_zero, List.set_cons_succ]
  refine anyM_one (i := 7) (by kernel_rfl) rfl (fun K hK => ?_)
  refine step_append_any (by rfl) _ _ 30 (by rfl) B 40 i1 (.agg #[.int .i64 0, .int .i64 0, .string ⟨#[]⟩, .int .i64 0, .int .i64 0, .int .i64 0, .int .i64 0, .int .i64 0, .int .i64 0, .int .i64 0, .int .i64 0]) 11 96 Tryd.underlying30 hib hzb0 hzb1 hzb2 rfl (by decide) (.slice A0 xs.length c0) xs.length (items xs) (by rfl) HTX.out.own (some ⟨wd.heap.size, 0, none⟩) 1 1 (items [(⟨x0, x1, x2, x3, x4, x5, x6, x7, x8, x9, x10⟩ : ItemV)]) (by rfl) (by simp [items, itemF, itemC]) (.inl ⟨_, 0, rfl, blk_item BX.out⟩) (items_one _) (by unfold maxLen; omega) (by omega) HTX.out.hB ?_
  intro A8 c8 w8 o8 hg8 hat8
  have HP := Lib.hid (HD.out.pushed HBX.out o8 hg8 hat8)
  have hne8 := blk_ne HTX.out.blk HTX.out.own (by decide)
  have hb9 := blk_grown HTX.out.blk hg8 hne8
  have hS0 : (fun w' : World => w'.rangeAt w.heap.size 0 (#[.int .i64 x0, .int .i64 x1, .string x2, .int .i64 x3, .int .i64 x4, .int .i64 x5, .int .i64 x6, .int .i64 x7, .int .i64 x8, .int .i64 x9, .int .i64 x10] : Array Value).toList ∧ w'.cell? ⟨gM, 4, none⟩ = some (.slice A0 xs.length c0)) w8 := ⟨fun j v hv => (World.cell?_of_block (hg8.block w.heap.size (Nat.lt_of_lt_of_le HGL.out HBX.out.size) (fun e => HGN.out e.symm))).trans (hS0.1 j v hv), hb9.cell 4⟩
  have z5 : w8.frozen? ⟨gM, 4, none⟩ = false := hb9.free 4
  clear o8 hg8 hat8 hne8 hb9
  refine hK.out _ _ (fun _ => hS0) ?_
  clear hK K
  try simp only [Act.put, Array.toArray_toList, List.setIfInBounds_toArray, List.set_cons_zero, List.set_cons_succ]
  refine anyM_free (i := 8) (oi := { dst := some 12, op := _, type := _, pos := _, after := _, guard := _ }) (v := ?_) rfl (by kernel_rfl) (fun _ _ _ h => h) (Or.inl ⟨by kernel_rfl, ?_⟩) (fun _ => hS0) ?_
  rotate_left 1
  · (intro w hSw; (try dsimp only at hSw); go_simp; try with_reducible rfl)
  try simp only [Act.put, Array.toArray_toList, List.setIfInBounds_toArray, List.set_cons_zero, List.set_cons_succ]
  refine anyM_free (i := 9) (oi := { dst := some 13, op := _, type := _, pos := _, after := _, guard := _ }) (v := ?_) rfl (by kernel_rfl) (fun _ _ _ h => h) (Or.inl ⟨by kernel_rfl, ?_⟩) (fun _ => hS0) ?_
  rotate_left 1
  · (intro w hSw; (try dsimp only at hSw); go_simp; try with_reducible rfl)
  try simp only [Act.put, Array.toArray_toList, List.setIfInBounds_toArray, List.set_cons_zero, List.set_cons_succ]
  refine anyM_one (i := 10) (by kernel_rfl) rfl (fun K hK => ?_)
  go_simp
  refine hK.out _ _ (fun h => late_no h (by kernel_rfl)) ?_
  clear hK K
  try simp only [Act.put, Array.toArray_toList, List.setIfInBounds_toArray, List.set_cons_zero, List.set_cons_succ]
  refine anyM_done (by kernel_rfl) ?_ _
  refine NoPanic.normal ?_
  generalize World.setCell w8 _ _ = W1 at HP ⊢
  clear hS0 z5 BX HTX HBX
  go_wp2_with fail
  (try simp only [Exit.inBlock, Exit.then]); refine bodyPost_ret (results_none rfl _ _ _) rfl ?_
  exact ⟨rfl, _, HP.out.1, (Fr.below HDP.out).trans (.inl rfl) HP.out.2.1, HP.out.2.2.imp id (fun ⟨g, a, b⟩ => ⟨g, a, Nat.le_trans HDP.out.size b⟩)⟩
end Go.Proofs.YtpamfhplklhnpaaDoor
