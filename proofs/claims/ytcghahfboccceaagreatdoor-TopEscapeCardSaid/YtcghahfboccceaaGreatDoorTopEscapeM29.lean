/- Several texts in one: TfD. -/
import Derived.Test.YtcghahfboccceaaGreatDoorTopEscapeM28
/- Contract of the tree's make. Printed by genTfD.py. -/
namespace Go.Proofs.YtcghahfboccceaaGreatDoor
open Go.RowKit Go.Shelf
set_option linter.unusedVariables false
set_option linter.unusedSimpArgs false

theorem infoNode : (Tryz.prog.info? 35).map (fun i => (i.zero, i.size, i.bytes)) = some (some (.agg #[.int .i64 0, .string ⟨#[]⟩, .slice none 0 0, .string ⟨#[]⟩, .int .i64 0, .slice none 0 0]), 6, 96) := by kernel_rfl
theorem treeO_n {w : World} {base n size : Nat} {v : Value} {xs : List Value} (h : w.ownsRow base 35 size v n xs) : ∀ g, v.ownBlock = some g → ∃ o, w.heap[g]? = some o ∧ treeO o := fun g hg => by
  obtain ⟨c, fz, hc⟩ := own_obj h hg
  exact ⟨_, hc, _, _, _, rfl, .inl rfl⟩
theorem treeO_i {w : World} {base n size : Nat} {v : Value} {xs : List Value} (h : w.ownsRow base 3 size v n xs) : ∀ g, v.ownBlock = some g → ∃ o, w.heap[g]? = some o ∧ treeO o := fun g hg => by
  obtain ⟨c, fz, hc⟩ := own_obj h hg
  exact ⟨_, hc, _, _, _, rfl, .inr (.inl rfl)⟩
/-- A node appended, and stored. -/
theorem RPx.made {B b : Nat} {m : Int} {S : PS} {v vo : Value} {ns : List NodeV} {w w8 : World} {n : Nat} {A8 : Option Addr} {c8 : Nat} {x : NodeV} (h : RPx B b m S v vo ns w) (hn : ns.length = n) (hx : x.kidsA = none) (hxk : x.kids = []) (hxc : x.kcap = 0)
    (hxa : w.ownsRow B 91 2 (attrsV x) x.attrs.length (x.attrs.flatMap attrF))
    (ho : w8.ownsRow B 35 6 (.slice A8 (n + 1) c8) (n + 1) (ns.flatMap nodeL ++ nodeL x)) (hg : w.grownBy w8 v.ownBlock) :
    Blk w8 b 56 (pcells S v vo) ∧ RPx B b m { S with ns := S.ns ++ [x.abs] } (.slice A8 (n + 1) c8) vo (ns ++ [x]) (w8.setCell ⟨b, 0, none⟩ (.slice A8 (n + 1) c8)) ∧ Left B w (w8.setCell ⟨b, 0, none⟩ (.slice A8 (n + 1) c8)) := by
  have hb8 : Blk w8 b 56 (pcells S v vo) := blk_grown h.blk hg (blk_ne h.blk h.tree.own (by decide))
  refine ⟨hb8, h.field (S' := { S with ns := S.ns ++ [x.abs] }) (v' := .slice A8 (n + 1) c8) (vo' := vo) (ns' := ns ++ [x]) (j := 0) (u := .slice A8 (n + 1) c8) ((Below.refl B w).grown hg h.bw (fun k hk => (h.tree.own.lt k hk).1)) (Keep.grown hg (treeO_n h.tree.own)) hb8 (h.tree.app hn hx hxk hxc hxa ho hg) (by rw [List.map_append, h.abs]; rfl) rfl⟩
set_option maxRecDepth 100000 in
set_option maxHeartbeats 8000000 in
theorem make_calls (B b : Nat) (m : Int) (S : PS) (kind p0 : Int) (nm tx : ByteArray) (av : Value) (attrs : List (ByteArray × ByteArray)) (w : World) (h : RP B b m S w) (hat : AttrsAt B av attrs w) (hf : S.ns.length < 100000) :
    Calls Tryz.prog 38 #[.pointer (some ⟨b, 0, none⟩), .agg #[.int .i64 kind, .string nm, av, .string tx, .int .i64 p0, .slice none 0 0]] w fun e w' =>
      e = .returned (.int .i64 (S.ns.length : Int)) ∧ RP B b m { S with ns := S.ns ++ [⟨kind, nm, attrs, tx, -1, []⟩] } w' ∧ Left B w w' := by
  obtain ⟨i0, hi, hz0, hz1, hz2⟩ := info_parts infoNode
  obtain ⟨v, vo, ns, h⟩ := h
  obtain ⟨n, hn⟩ : ∃ n, n = ns.length := ⟨_, rfl⟩
  have hSn : S.ns.length = n := by rw [hn, h.len]
  rw [hSn] at hf ⊢
  have hown := h.tree.own
  rw [← hn] at hown
  obtain ⟨A, cp, rfl⟩ : ∃ A cp, v = .slice A n cp := own_open hown
  obtain ⟨A', c', rfl⟩ := hat.open
  obtain ⟨na, hna⟩ : ∃ na, na = attrs.length := ⟨_, rfl⟩
  obtain ⟨x, hx⟩ : ∃ x : NodeV, x = ⟨kind, nm, A', attrs, c', tx, -1, none, [], 0⟩ := ⟨_, rfl⟩
  have HX := Lib.hid hx
  have HXL : Hid (nodeL x = [.int .i64 kind, .string nm, .slice A' na c', .string tx, .int .i64 (-1), .slice none 0 0]) := by show _ = _; rw [hx, hna]; rfl
  have HXA : Hid (∀ W, Below w.heap.size w W → W.ownsRow B 91 2 (attrsV x) x.attrs.length (x.attrs.flatMap attrF)) := fun W hb => by rw [hx]; exact own_below hat hb
  have HABS : Hid (x.abs = ⟨kind, nm, attrs, tx, -1, []⟩) := by show _ = _; rw [hx]; rfl
  obtain ⟨S', hS'⟩ : ∃ S' : PS, S' = { S with ns := S.ns ++ [⟨kind, nm, attrs, tx, -1, []⟩] } := ⟨_, rfl⟩
  rw [← hS']
  have HS' := Lib.hid hS'
  rw [← hna]
  obtain ⟨g, hg⟩ : ∃ g, g = w.heap.size := ⟨_, rfl⟩
  obtain ⟨wa, hwa⟩ : ∃ wa, wa = w.alloc (.cells #[.int .i64 kind, .string nm, .slice A' na c', .string tx, .int .i64 p0, .slice none 0 0] 35) := ⟨_, rfl⟩
  have P0 : Hid (Blk wa g 35 #[.int .i64 kind, .string nm, .slice A' na c', .string tx, .int .i64 p0, .slice none 0 0]) := by show Blk _ _ _ _; rw [hwa, hg]; exact Blk.new w _ _
  have B0 : Hid (Below w.heap.size w wa) := by show Below _ _ _; rw [hwa]; exact (Below.refl _ w).alloc (Nat.le_refl _) _
  have m4 : wa.cell? ⟨g, 4, none⟩ = some (.int .i64 p0) := P0.out.cell 4
  have f4 : wa.frozen? ⟨g, 4, none⟩ = false := P0.out.free 4
  have P1 := Lib.hid (P0.out.stored 4 (.int .i64 (-1)))
  have B1 : Hid (Below w.heap.size w (wa.setCell ⟨g, 4, none⟩ (.int .i64 (-1)))) := B0.out.setCell (p := ⟨g, 4, none⟩) (Nat.le_of_eq hg.symm) _
  have HWA := Lib.hid hwa
  have HG := Lib.hid hg
  have H := Lib.hid h
  have HN := Lib.hid hn
  clear hn hwa hg h hown hSn hat hna hx hS' P0 B0
  go_enter Tryz.func38, Tryz.ntmps38
  go_upto_region 1 with fail
  rw [← HWA.out, ← HG.out]
  go_upto_region 2 with fail
  generalize wa.setCell ⟨g, 4, none⟩ (.int .i64 (-1)) = we at P1 B1 ⊢
  have P1 : Hid (Blk (World.drew we) g 35 #[.int .i64 kind, .string nm, .slice A' na c', .string tx, .int .i64 (-1), .slice none 0 0]) := P1.out
  have B1 : Hid (Below w.heap.size w (World.drew we)) := B1.out.drew
  have R1 : Hid (RPx B b m S (.slice A n cp) vo ns (World.drew we)) := H.out.below B1.out
  have hS0 : (fun w' : World => w'.cell? ⟨b, 0, none⟩ = some (.slice A n cp) ∧ w'.cell? ⟨g, 0, none⟩ = some (.int .i64 kind) ∧ w'.cell? ⟨g, 1, none⟩ = some (.string nm) ∧ w'.cell? ⟨g, 2, none⟩ = some (.slice A' na c') ∧ w'.cell? ⟨g, 3, none⟩ = some (.string tx) ∧ w'.cell? ⟨g, 4, none⟩ = some (.int .i64 (-1)) ∧ w'.cell? ⟨g, 5, none⟩ = some (.slice none 0 0)) (World.drew we) := ⟨R1.out.blk.cell 0, P1.out.cell 0, P1.out.cell 1, P1.out.cell 2, P1.out.cell 3, P1.out.cell 4, P1.out.cell 5⟩
  clear m4 f4 HWA
  refine wp_region_noPanic ?_
  refine region_M (S := fun w' => w'.cell? ⟨b, 0, none⟩ = some (.slice A n cp) ∧ w'.cell? ⟨g, 0, none⟩ = some (.int .i64 kind) ∧ w'.cell? ⟨g, 1, none⟩ = some (.string nm) ∧ w'.cell? ⟨g, 2, none⟩ = some (.slice A' na c') ∧ w'.cell? ⟨g, 3, none⟩ = some (.string tx) ∧ w'.cell? ⟨g, 4, none⟩ = some (.int .i64 (-1)) ∧ w'.cell? ⟨g, 5, none⟩ = some (.slice none 0 0)) (T := [10]) (by kernel_rfl) ?_
  generalize World.drew we = wf at P1 B1 R1 hS0 ⊢
  refine anyM_free (i := 0) (oi := { dst := some 6, op := _, type := _, pos := _, after := _, guard := _ }) (v := ?_) rfl (by kernel_rfl) (fun _ _ _ h => h) (Or.inl ⟨by kernel_rfl, ?_⟩) (fun _ => hS0) ?_
  rotate_left 1
  · (intro w hSw; (try dsimp only at hSw); go_simp; try with_reducible rfl)
  try simp only [Act.put, Array.toArray_toList, List.setIfInBounds_toArray, List.set_cons_zero, List.set_cons_succ]
  refine anyM_free (i := 1) (oi := { dst := some 7, op := _, type := _, pos := _, after := _, guard := _ }) (v := ?_) rfl (by kernel_rfl) (fun _ _ _ h => h) (Or.inl ⟨by kernel_rfl, ?_⟩) (fun _ => hS0) ?_
  rotate_left 1
  · (intro w hSw; (try dsimp only at hSw); go_simp; try with_reducible rfl)
  try simp only [Act.put, Array.toArray_toList, List.setIfInBounds_toArray, List.set_cons_zero, List.set_cons_succ]
  refine anyM_free (i := 2) (oi := { dst := some 8, op := _, type := _, pos := _, after := _, guard := _ }) (v := ?_) rfl (by kernel_rfl) (fun _ _ _ h => h) (Or.inl ⟨by kernel_rfl, ?_⟩) (fun _ => hS0) ?_
  rotate_left 1
  · (intro w hSw; (try dsimp only at hSw); go_simp; try with_reducible rfl)
  try simp only [Act.put, Array.toArray_toList, List.setIfInBounds_toArray, List.set_cons_zero, List.set_cons_succ]
  refine anyM_free (i := 3) (oi := { dst := some 9, op := _, type := _, pos := _, after := _, guard := _ }) (v := ?_) rfl (by kernel_rfl) (fun _ _ _ h => h) (Or.inl ⟨by kernel_rfl, ?_⟩) (fun _ => hS0) ?_
  rotate_left 1
  · (intro w hSw; (try dsimp only at hSw); go_simp; try with_reducible rfl)
  try simp only [Act.put, Array.toArray_toList, List.setIfInBounds_toArray, List.set_cons_zero, List.set_cons_succ]
  refine anyM_take (i := 4) (oi := { dst := some 10, op := _, type := _, pos := _, after := _, guard := _ }) (v := ?_) rfl (by kernel_rfl) (fun _ _ _ h => h) (Or.inl ⟨by kernel_rfl, ?_⟩) hS0 ?_
  rotate_left 1
  · (intro w hSw; (try dsimp only at hSw); go_simp; try with_reducible rfl)
  try simp only [Act.put, Array.toArray_toList, List.setIfInBounds_toArray, List.set_cons_zero, List.set_cons_succ]
  refine anyM_take (i := 5) (oi := { dst := some 11, op := _, type := _, pos := _, after := _, guard := _ }) (v := ?_) rfl (by kernel_rfl) (fun _ _ _ h => h) (Or.inl ⟨by kernel_rfl, ?_⟩) hS0 ?_
  rotate_left 1
  · (intro w hSw; (try dsimp only at hSw); go_simp; try with_reducible rfl)
  try simp only [Act.put, Array.toArray_toList, List.setIfInBounds_toArray, List.set_cons_zero, List.set_cons_succ]
  refine anyM_one (i := 6) (by kernel_rfl) rfl (fun K hK => ?_)
  go_simp
  have hbx := below_alloc (Below.refl wf.heap.size wf) (.cells #[.int .i64 kind, .string nm, .slice A' na c', .string tx, .int .i64 (-1), .slice none 0 0] 35)
  have HNI := Lib.hid (Blk.new wf 35 #[.int .i64 kind, .string nm, .slice A' na c', .string tx, .int .i64 (-1), .slice none 0 0])
  have Q1 := Lib.hid (P1.out.alloc (.cells #[.int .i64 kind, .string nm, .slice A' na c', .string tx, .int .i64 (-1), .slice none 0 0] 35))
  have Q2 : Hid (Below w.heap.size w (wf.alloc (.cells #[.int .i64 kind, .string nm, .slice A' na c', .string tx, .int .i64 (-1), .slice none 0 0] 35))) := B1.out.alloc B1.out.size _
  have Q3 := Lib.hid (R1.out.below hbx)
  have hS0 : (fun w' : World => w'.cell? ⟨b, 0, none⟩ = some (.slice A n cp) ∧ w'.cell? ⟨g, 0, none⟩ = some (.int .i64 kind) ∧ w'.cell? ⟨g, 1, none⟩ = some (.string nm) ∧ w'.cell? ⟨g, 2, none⟩ = some (.slice A' na c') ∧ w'.cell? ⟨g, 3, none⟩ = some (.string tx) ∧ w'.cell? ⟨g, 4, none⟩ = some (.int .i64 (-1)) ∧ w'.cell? ⟨g, 5, none⟩ = some (.slice none 0 0)) (wf.alloc (.cells #[.int .i64 kind, .string nm, .slice A' na c', .string tx, .int .i64 (-1), .slice none 0 0] 35)) := ⟨Q3.out.blk.cell 0, Q1.out.cell 0, Q1.out.cell 1, Q1.out.cell 2, Q1.out.cell 3, Q1.out.cell 4, Q1.out.cell 5⟩
  have hown := Q3.out.tree.own
  rw [← HN.out] at hown
  have Q4 := Lib.hid hown
  clear hown
  clear hbx
  refine hK.out _ _ (fun _ => hS0) ?_
  clear hK K
  try simp only [Act.put, Array.toArray_toList, List.setIfInBounds_toArray, List.set_cons_zero, List.set_cons_succ]
  refine anyM_one (i := 7) (by kernel_rfl) rfl (fun K hK => ?_)
  rw [if_pos (by kernel_rfl)]
  refine wp_append_any _ _ 25 rfl B 35 i0 (.agg #[.int .i64 0, .string ⟨#[]⟩, .slice none 0 0, .string ⟨#[]⟩, .int .i64 0, .slice none 0 0]) 6 96 Tryz.underlying25 hi hz0 hz1 hz2 rfl (by decide) (.slice A n cp) n (ns.flatMap nodeL) rfl Q4.out (some ⟨wf.heap.size, 0, none⟩) 1 1 (nodeL x) rfl rfl (.inl ⟨wf.heap.size, 0, rfl, fun j u hj => by rw [HXL.out] at hj; rw [Nat.zero_add, HNI.out.cell j]; simpa using hj⟩) (nodeL_one x) (by unfold maxLen; omega) (by omega) (by have := Q3.out.bw; omega) ?_
  intro A8 c8 w8 ho8 hg8 hat8
  have HM := Lib.hid (Q3.out.made HN.out.symm (by rw [HX.out]) (by rw [HX.out]) (by rw [HX.out]) (HXA.out _ Q2.out) ho8 hg8)
  have T1 := Lib.hid (blk_grown Q1.out hg8 (fun e => by have h1 := (Q4.out.lt g e).2; have h2 := (H.out.tree.own.lt g e).2; have := HG.out; omega))
  have f8 : w8.frozen? ⟨b, 0, none⟩ = false := HM.out.1.free 0
  have m8 : w8.cell? ⟨b, 0, none⟩ = some (.slice A n cp) := HM.out.1.cell 0
  have hS0 : (fun w' : World => w'.cell? ⟨b, 0, none⟩ = some (.slice A n cp) ∧ w'.cell? ⟨g, 0, none⟩ = some (.int .i64 kind) ∧ w'.cell? ⟨g, 1, none⟩ = some (.string nm) ∧ w'.cell? ⟨g, 2, none⟩ = some (.slice A' na c') ∧ w'.cell? ⟨g, 3, none⟩ = some (.string tx) ∧ w'.cell? ⟨g, 4, none⟩ = some (.int .i64 (-1)) ∧ w'.cell? ⟨g, 5, none⟩ = some (.slice none 0 0)) w8 := ⟨HM.out.1.cell 0, T1.out.cell 0, T1.out.cell 1, T1.out.cell 2, T1.out.cell 3, T1.out.cell 4, T1.out.cell 5⟩
  clear ho8 hg8 hat8
  change K (Act.put _ (some 13) _) _
  refine hK.out _ _ (fun _ => hS0) ?_
  clear hK K
  try simp only [Act.put, Array.toArray_toList, List.setIfInBounds_toArray, List.set_cons_zero, List.set_cons_succ]
  refine anyM_free (i := 8) (oi := { dst := some 14, op := _, type := _, pos := _, after := _, guard := _ }) (v := ?_) rfl (by kernel_rfl) (fun _ _ _ h => h) (Or.inl ⟨by kernel_rfl, ?_⟩) (fun _ => hS0) ?_
  rotate_left 1
  · (intro w hSw; (try dsimp only at hSw); go_simp; try with_reducible rfl)
  try simp only [Act.put, Array.toArray_toList, List.setIfInBounds_toArray, List.set_cons_zero, List.set_cons_succ]
  refine anyM_free (i := 9) (oi := { dst := some 15, op := _, type := _, pos := _, after := _, guard := _ }) (v := ?_) rfl (by kernel_rfl) (fun _ _ _ h => h) (Or.inl ⟨by kernel_rfl, ?_⟩) (fun _ => hS0) ?_
  rotate_left 1
  · (intro w hSw; (try dsimp only at hSw); go_simp; try with_reducible rfl)
  try simp only [Act.put, Array.toArray_toList, List.setIfInBounds_toArray, List.set_cons_zero, List.set_cons_succ]
  refine anyM_one (i := 10) (by kernel_rfl) rfl (fun K hK => ?_)
  go_simp
  skip
  refine hK.out _ _ (fun h => late_no h (by kernel_rfl)) ?_
  clear hK K
  try simp only [Act.put, Array.toArray_toList, List.setIfInBounds_toArray, List.set_cons_zero, List.set_cons_succ]
  refine anyM_done (by kernel_rfl) ?_ _
  refine NoPanic.normal ?_
  clear hS0 m8 f8
  have m9 : (w8.setCell ⟨b, 0, none⟩ (.slice A8 (n + 1) c8)).cell? ⟨b, 0, none⟩ = some (.slice A8 (n + 1) c8) := HM.out.2.1.blk.cell 0
  have e9 : ((n + 1 : Nat) : Int) - 1 = (n : Int) := by omega
  have e8 : (n : Int) + 1 - 1 = (n : Int) := by omega
  go_wp2_with fail
  go_ret
  refine ⟨rfl, ?_, ?_⟩
  · rw [HS'.out, ← HABS.out]
    exact ⟨_, _, _, HM.out.2.1⟩
  · have h1 : Left B w wf := .of_below B1.out H.out.bw |> fun k => k
    exact (Left.of_below Q2.out H.out.bw).trans HM.out.2.2
end Go.Proofs.YtcghahfboccceaaGreatDoor
