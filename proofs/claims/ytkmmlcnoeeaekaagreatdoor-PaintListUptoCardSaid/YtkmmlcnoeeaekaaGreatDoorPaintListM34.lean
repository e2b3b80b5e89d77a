/- Several texts in one: StkN. -/
import Derived.Test.YtkmmlcnoeeaekaaGreatDoorPaintListM33
/- The program's tell: what is painted ahead of what. -/
namespace Go.Proofs.YtkmmlcnoeeaekaaGreatDoor
open Go.RowKit
set_option linter.unusedVariables false
set_option linter.unusedSimpArgs false

/-- An order that has told the steps xs. -/
structure PSt (L : LayV) (B gO gM cM gK cK : Nat) (v : Value) (xs : List (Nat × Nat)) (w : World) : Prop where
  k : KSt L B gO gM cM gK cK v w
  own : w.ownsRow B 94 2 v xs.length (steps xs)
section
variable {L : LayV} {B gO gM cM gK cK : Nat} {v v1 : Value} {xs : List (Nat × Nat)} {w w' w0 w1 : World}
theorem PSt.below (h : PSt L B gO gM cM gK cK v xs w) (hb : Below w.heap.size w w') : PSt L B gO gM cM gK cK v xs w' := ⟨h.k.below hb, own_below h.own hb⟩
theorem PSt.drew (h : PSt L B gO gM cM gK cK v xs w) : PSt L B gO gM cM gK cK v xs w.drew := h.below (below_drewN (Below.refl _ _) 1)
theorem PSt.frame (h : PSt L B gO gM cM gK cK v xs w) (hf : Fr gO v w w') : ∀ k, k < B → k ≠ gO → w'.heap[k]? = w.heap[k]? := fun k hk hne =>
  hf.block k (Nat.lt_of_lt_of_le hk h.k.hB) hne (fun e => by have := (h.own.lt k e).1; omega)
theorem PSt.pushed {p : Nat × Nat} (h : PSt L B gO gM cM gK cK v xs w) (hb : Below w.heap.size w w0) (o1 : w1.ownsRow B 94 2 v1 (xs.length + 1) (steps xs ++ steps [p])) (hg1 : w0.grownBy w1 v.ownBlock)
    (hat : v1.ownBlock = v.ownBlock ∨ v1.ownBlock = some w0.heap.size) : PSt L B gO gM cM gK cK v1 (xs ++ [p]) (w1.setCell ⟨gO, 2, none⟩ v1) ∧ Fr gO v w (w1.setCell ⟨gO, 2, none⟩ v1) ∧ OwnRel v v1 w := by
  have h0 := h.below hb
  have hne := blk_ne h0.k.blk h0.own (show (136 : TypeId) ≠ 94 by decide)
  have hb1 : Blk w1 gO 136 (orC L gM cM gK cK v) := blk_grown h0.k.blk hg1 hne
  have hne1 := blk_ne hb1 o1 (show (136 : TypeId) ≠ 94 by decide)
  have hrel : OwnRel v v1 w := by
    rcases hat with hat | hat
    · exact .inl hat
    · exact .inr ⟨_, hat, hb.size⟩
  have hF : Fr gO v w (w1.setCell ⟨gO, 2, none⟩ v1) := ((Fr.below hb).trans (.inl rfl) (Fr.grown hg1)).trans hrel (Fr.set 2 v1)
  refine ⟨⟨h.k.carry (h.frame hF) (hb1.stored 2 v1) (Nat.le_trans h.k.hB hF.size), ?_⟩, hF, hrel⟩
  have := own_setFar (b := gO) (j := 2) (u := v1) o1 hne1
  rw [steps_append, List.length_append]
  exact this
theorem PSt.ended {g n c a b f : Nat} {l r : List (Nat × Nat)} (h : PSt L B gO gM cM gK cK (.slice (some ⟨g, 0, none⟩) n c) (l ++ (f, a) :: r) w) : PSt L B gO gM cM gK cK (.slice (some ⟨g, 0, none⟩) n c) (l ++ (f, b) :: r) (w.setCell ⟨g, l.length * 2 + 1, none⟩ (.int .i64 (b : Nat))) ∧ Fr gO (.slice (some ⟨g, 0, none⟩) n c) w (w.setCell ⟨g, l.length * 2 + 1, none⟩ (.int .i64 (b : Nat))) := by
  have hne := blk_ne h.k.blk h.own (show (136 : TypeId) ≠ 94 by decide)
  have hF : Fr gO (.slice (some ⟨g, 0, none⟩) n c) w (w.setCell ⟨g, l.length * 2 + 1, none⟩ (.int .i64 (b : Nat))) := Fr.setOwn rfl
  have hn : n = (l ++ (f, a) :: r).length := by
    rcases h.own.2 with ⟨h1, _⟩ | ⟨_, _, _, hv, _⟩
    · cases h1
    · injection hv
  refine ⟨⟨h.k.carry (h.frame hF) (h.k.blk.far (fun e => hne (by rw [e]; rfl)) _) (Nat.le_trans h.k.hB hF.size), ?_⟩, hF⟩
  have h1 := h.own
  rw [← hn] at h1
  have h2 := own_set (j := l.length * 2 + 1) (u := .int .i64 (b : Nat)) h1
  rw [steps_end] at h2
  have e : (l ++ (f, b) :: r).length = n := by rw [hn]; simp
  rw [e]; exact h2
end
def TellPostP (L : LayV) (B gO gM cM gK cK : Nat) (v : Value) (xs : List (Nat × Nat)) (u f : Nat) (w : World) (e : Ending) (w' : World) : Prop :=
  e = .returned (.tuple #[]) ∧ ∃ v', PSt L B gO gM cM gK cK v' (xs ++ tellN L.ownF u f xs.length) w' ∧ Fr gO v w w' ∧ OwnRel v v' w
def TellSaysP (L : LayV) (B gO gM cM gK cK u : Nat) : Prop := ∀ (f : Nat) (v : Value) (xs : List (Nat × Nat)) (w : World), PSt L B gO gM cM gK cK v xs w → f < L.nf → L.nf ≤ f + u → xs.length + (tellN L.ownF u f xs.length).length ≤ 2097152 →
  Calls Tryz.prog 78 #[.pointer (some ⟨gO, 0, none⟩), .int .i64 (f : Nat)] w (TellPostP L B gO gM cM gK cK v xs u f w)
set_option maxRecDepth 1000000 in
set_option maxHeartbeats 20000000 in
theorem tell_step (L : LayV) (B gO gM cM gK cK u : Nat) (ih : TellSaysP L B gO gM cM gK cK u) : TellSaysP L B gO gM cM gK cK (u + 1) := by
  intro f v xs w hP hf hn hlen
  obtain ⟨i1, hib, hzb0, hzb1, hzb2⟩ := info_parts info_step
  have mixed : Tryz.prog.follows .mixedOrders = true := by kernel_rfl
  obtain ⟨A0, c0, rfl⟩ := own_open hP.own
  have HWP := Lib.hid (below_alloc (Below.refl w.heap.size w) (.cells #[.pointer (some ⟨gO, 0, none⟩)] 132))
  have hgP : (w.alloc (.cells #[.pointer (some ⟨gO, 0, none⟩)] 132)).cell? ⟨w.heap.size, 0, none⟩ = some (.pointer (some ⟨gO, 0, none⟩)) := new_cell w _ _ 0
  have hgo : gO < w.heap.size := hP.k.blk.lt
  have HGL0 : Hid (w.heap.size < (w.alloc (.cells #[.pointer (some ⟨gO, 0, none⟩)] 132)).heap.size) := by show _ < _; rw [alloc_size]; omega
  have HGN : Hid ((Value.slice A0 xs.length c0).ownBlock ≠ some w.heap.size) := fun e => by have := (hP.own.lt _ e).2; omega
  have HGPF : Hid (∀ X, Fr gO (.slice A0 xs.length c0) (w.alloc (.cells #[.pointer (some ⟨gO, 0, none⟩)] 132)) X → X.cell? ⟨w.heap.size, 0, none⟩ = some (.pointer (some ⟨gO, 0, none⟩))) := fun X hX =>
    (World.cell?_of_block (hX.block w.heap.size HGL0.out (by omega) HGN.out)).trans hgP
  have HPW := Lib.hid (hP.below HWP.out)
  have s2 : (w.alloc (.cells #[.pointer (some ⟨gO, 0, none⟩)] 132)).cell? ⟨gO, 2, none⟩ = some (.slice A0 xs.length c0) := HPW.out.k.blk.cell 2
  have hnf := hP.k.nf0
  have HLEN : Hid (xs.length + 1 + sumC (cntT L.ownF u) (L.ownF f) ≤ 2097152) := by
    have h1 := hlen
    rw [tellN, List.length_cons, tells_sum] at h1
    show _ ≤ _; omega
  have hxl : xs.length ≤ 2097151 := by have := HLEN.out; omega
  have IH := Lib.hid ih
  have HLT := Lib.hid hn
  have HPP := Lib.hid hP.k.hp
  have HG0 := Lib.hid hgP
  clear hP ih hn hlen hgP
  go_enter Tryz.func78, Tryz.ntmps78
  go_wp2_with fail
  generalize hwP : World.alloc w _ = wP at HWP HGL0 HGPF HPW HG0 s2 ⊢
  have HD := Lib.hid HPW.out.drew
  have HDP := Lib.hid (Fr.below (gS := gO) (v := (.slice A0 xs.length c0)) (below_drw (Below.refl wP.heap.size wP)))
  have HGD : Hid (wP.drew.cell? ⟨w.heap.size, 0, none⟩ = some (.pointer (some ⟨gO, 0, none⟩))) := HG0.out
  have HGL : Hid (w.heap.size < wP.drew.heap.size) := HGL0.out
  have hS0 : (fun w' : World => w'.cell? ⟨w.heap.size, 0, none⟩ = some (.pointer (some ⟨gO, 0, none⟩)) ∧ w'.cell? ⟨gO, 2, none⟩ = some (.slice A0 xs.length c0)) wP.drew := ⟨HGD.out, HD.out.k.blk.cell 2⟩
  clear hwP s2
  refine wp_region_noPanic ?_
  refine region_M (S := fun w' => w'.cell? ⟨w.heap.size, 0, none⟩ = some (.pointer (some ⟨gO, 0, none⟩)) ∧ w'.cell? ⟨gO, 2, none⟩ = some (.slice A0 xs.length c0)) (T := [11]) (by kernel_rfl) ?_
  generalize World.drew wP = wd at HD HDP HGD HGL hS0 ⊢
  refine anyM_take (i := 0) (oi := { dst := some 13, op := _, type := _, pos := _, after := _, guard := _ }) (v := ?_) rfl (by kernel_rfl) (fun _ _ _ h => h) (Or.inl ⟨by kernel_rfl, ?_⟩) hS0 ?_
  rotate_left 1
  · (intro w hSw; (try dsimp only at hSw); go_simp; try with_reducible rfl)
  try simp only [Act.put, Array.toArray_toList, List.setIfInBounds_toArray, List.set_cons_zero, List.set_cons_succ]
  refine anyM_take (i := 1) (oi := { dst := some 14, op := _, type := _, pos := _, after := _, guard := _ }) (v := ?_) rfl (by kernel_rfl) (fun _ _ _ h => h) (Or.inl ⟨by kernel_rfl, ?_⟩) hS0 ?_
  rotate_left 1
  · (intro w hSw; (try dsimp only at hSw); go_simp; try with_reducible rfl)
  try simp only [Act.put, Array.toArray_toList, List.setIfInBounds_toArray, List.set_cons_zero, List.set_cons_succ]
  refine anyM_free (i := 2) (oi := { dst := some 15, op := _, type := _, pos := _, after := _, guard := _ }) (v := ?_) rfl (by kernel_rfl) (fun _ _ _ h => h) (Or.inl ⟨by kernel_rfl, ?_⟩) (fun _ => hS0) ?_
  rotate_left 1
  · (intro w hSw; (try dsimp only at hSw); go_simp; try with_reducible rfl)
  try simp only [Act.put, Array.toArray_toList, List.setIfInBounds_toArray, List.set_cons_zero, List.set_cons_succ]
  refine anyM_free (i := 3) (oi := { dst := some 16, op := _, type := _, pos := _, after := _, guard := _ }) (v := ?_) rfl (by kernel_rfl) (fun _ _ _ h => h) (Or.inl ⟨by kernel_rfl, ?_⟩) (fun _ => hS0) ?_
  rotate_left 1
  · (intro w hSw; (try dsimp only at hSw); go_simp; try with_reducible rfl)
  try simp only [Act.put, Array.toArray_toList, List.setIfInBounds_toArray, List.set_cons_zero, List.set_cons_succ]
  refine anyM_take (i := 4) (oi := { dst := some 17, op := _, type := _, pos := _, after := _, guard := _ }) (v := ?_) rfl (by kernel_rfl) (fun _ _ _ h => h) (Or.inl ⟨by kernel_rfl, ?_⟩) hS0 ?_
  rotate_left 1
  · (intro w hSw; (try dsimp only at hSw); go_simp; try with_reducible rfl)
  try simp only [Act.put, Array.toArray_toList, List.setIfInBounds_toArray, List.set_cons_zero, List.set_cons_succ]
  refine anyM_free (i := 5) (oi := { dst := some 18, op := _, type := _, pos := _, after := _, guard := _ }) (v := ?_) rfl (by kernel_rfl) (fun _ _ _ h => h) (Or.inl ⟨by kernel_rfl, ?_⟩) (fun _ => hS0) ?_
  rotate_left 1
  · (intro w hSw; (try dsimp only at hSw); go_simp; try with_reducible rfl)
  try simp only [Act.put, Array.toArray_toList, List.setIfInBounds_toArray, List.set_cons_zero, List.set_cons_succ]
  refine anyM_free (i := 6) (oi := { dst := some 19, op := _, type := _, pos := _, after := _, guard := _ }) (v := ?_) rfl (by kernel_rfl) (fun _ _ _ h => h) (Or.inl ⟨by kernel_rfl, ?_⟩) (fun _ => hS0) ?_
  rotate_left 1
  · (intro w hSw; (try dsimp only at hSw); go_simp; try with_reducible rfl)
  try simp only [Act.put, Array.toArray_toList, List.setIfInBounds_toArray, List.set_cons_zero, List.set_cons_succ]
  refine anyM_one (i := 7) (by kernel_rfl) rfl (fun K hK => ?_)
  go_simp
  generalize hwx : World.alloc wd _ = wx
  have BX := Lib.hid (blk_neq hwx)
  have HBX := Lib.hid (below_aeq hwx (Below.refl _ _))
  have HTX := Lib.hid (HD.out.below HBX.out)
  have hS0 : (fun w' : World => w'.cell? ⟨w.heap.size, 0, none⟩ = some (.pointer (some ⟨gO, 0, none⟩)) ∧ w'.cell? ⟨gO, 2, none⟩ = some (.slice A0 xs.length c0)) wx := ⟨(HBX.out.cell (p := ⟨w.heap.size, 0, none⟩) HGL.out).trans HGD.out, HTX.out.k.blk.cell 2⟩
  clear hwx
  refine hK.out _ _ (fun _ => hS0) ?_
  clear hK K
  try simp only [Act.put, Array.toArray_toList, List.setIfInBounds_toArray, List.set_cons_zero, List.set_cons_succ]
  refine anyM_one (i := 8) (by kernel_rfl) rfl (fun K hK => ?_)
  refine step_append_any (by rfl) _ _ 60 (by rfl) (B) 94 i1 (.agg #[.int .i64 0, .int .i64 0]) 2 16 Tryz.underlying60 hib hzb0 hzb1 hzb2 rfl (by decide) (.slice A0 xs.length c0) xs.length (steps xs) (by rfl) HTX.out.own (some ⟨wd.heap.size, 0, none⟩) 1 1 (steps [(f, 0)]) (by rfl) (by simp [steps, stepF]) (.inl ⟨_, 0, rfl, blk_two' BX.out⟩) (steps_one _) (by unfold maxLen; omega) (by omega) HTX.out.k.hB ?_
  intro A8 c8 w8 o8 hg8 hat8
  have HP := Lib.hid (HD.out.pushed HBX.out o8 hg8 hat8)
  have hne8 := blk_ne HTX.out.k.blk HTX.out.own (by decide)
  have hb9 := blk_grown HTX.out.k.blk hg8 hne8
  have hS0 : (fun w' : World => w'.cell? ⟨w.heap.size, 0, none⟩ = some (.pointer (some ⟨gO, 0, none⟩)) ∧ w'.cell? ⟨gO, 2, none⟩ = some (.slice A0 xs.length c0)) w8 := ⟨(World.cell?_of_block (hg8.block w.heap.size (Nat.lt_of_lt_of_le HGL.out HBX.out.size) (fun e => HGN.out e.symm))).trans hS0.1, hb9.cell 2⟩
  have z5 : w8.frozen? ⟨gO, 2, none⟩ = false := hb9.free 2
  clear o8 hg8 hat8 hne8 hb9
  refine hK.out _ _ (fun _ => hS0) ?_
  clear hK K
  try simp only [Act.put, Array.toArray_toList, List.setIfInBounds_toArray, List.set_cons_zero, List.set_cons_succ]
  refine anyM_free (i := 9) (oi := { dst := some 22, op := _, type := _, pos := _, after := _, guard := _ }) (v := ?_) rfl (by kernel_rfl) (fun _ _ _ h => h) (Or.inl ⟨by kernel_rfl, ?_⟩) (fun _ => hS0) ?_
  rotate_left 1
  · (intro w hSw; (try dsimp only at hSw); go_simp; try with_reducible rfl)
  try simp only [Act.put, Array.toArray_toList, List.setIfInBounds_toArray, List.set_cons_zero, List.set_cons_succ]
  refine anyM_free (i := 10) (oi := { dst := some 23, op := _, type := _, pos := _, after := _, guard := _ }) (v := ?_) rfl (by kernel_rfl) (fun _ _ _ h => h) (Or.inl ⟨by kernel_rfl, ?_⟩) (fun _ => hS0) ?_
  rotate_left 1
  · (intro w hSw; (try dsimp only at hSw); go_simp; try with_reducible rfl)
  try simp only [Act.put, Array.toArray_toList, List.setIfInBounds_toArray, List.set_cons_zero, List.set_cons_succ]
  refine anyM_one (i := 11) (by kernel_rfl) rfl (fun K hK => ?_)
  go_simp
  refine hK.out _ _ (fun h => late_no h (by kernel_rfl)) ?_
  clear hK K
  try simp only [Act.put, Array.toArray_toList, List.setIfInBounds_toArray, List.set_cons_zero, List.set_cons_succ]
  refine anyM_done (by kernel_rfl) ?_ _
  refine NoPanic.normal ?_
  generalize World.setCell w8 _ _ = W1 at HP ⊢
  clear hS0 z5 BX HTX
  have HP1 := Lib.hid HP.out.1
  have HF1 := Lib.hid (HDP.out.trans (.inl rfl) HP.out.2.1)
  have HO1 := Lib.hid (HP.out.2.2.mono HDP.out.size)
  have p0 : W1.cell? ⟨w.heap.size, 0, none⟩ = some (.pointer (some ⟨gO, 0, none⟩)) := HGPF.out _ HF1.out
  have o0 : W1.cell? ⟨gO, 0, none⟩ = some (.slice (some ⟨gM, 0, none⟩) L.nf cM) := HP1.out.k.blk.cell 0
  have m0 := (HP1.out.k.marks f hf).1
  have HFL := Lib.hid (is_flat L f)
  obtain ⟨iv, hiv⟩ : ∃ x, x = L.isF f := ⟨_, rfl⟩
  rw [← hiv] at m0 HFL
  clear hiv HP HDP HD HGD HGL HBX hgo
  by_cases hfl : L.flatF f = true
  · have qf : (iv == 0) = true := by rw [HFL.out]; exact hfl
    have qf' : (iv != 0) = false := by simpa using qf
    have hof : L.ownF f = [] := by unfold LayV.ownF; rw [hfl]; rfl
    obtain ⟨r, hr⟩ : ∃ r, r = tells (tellN L.ownF u) (L.ownF f) (xs.length + 1) := ⟨_, rfl⟩
    obtain ⟨ys, hys⟩ : ∃ ys, ys = xs ++ [(f, 0)] := ⟨_, rfl⟩
    have HRR := Lib.hid hr
    have HYR : Hid (ys = xs ++ (f, 0) :: r) := by show _ = _; rw [hys, hr, hof]; rfl
    have HYL : Hid (ys.length = xs.length + 1 + r.length) := by show _ = _; rw [HYR.out]; simp; omega
    obtain ⟨WY, hWY⟩ : ∃ x, x = W1 := ⟨_, rfl⟩
    subst hWY
    obtain ⟨cY, hcY⟩ : ∃ x, x = c8 := ⟨_, rfl⟩
    subst hcY
    have HPY : Hid (PSt L B gO gM cM gK cK (.slice A8 ys.length cY) ys WY) := by
      have h1 := HP1.out
      have e : xs.length + 1 = ys.length := by rw [hys]; simp
      rw [← hys, e] at h1
      exact h1
    have HFY := Lib.hid HF1.out
    have HOY : Hid (OwnRel (.slice A0 xs.length c0) (.slice A8 ys.length cY) wP) := by
      have h1 := HO1.out
      have e : xs.length + 1 = ys.length := by rw [hys]; simp
      rw [e] at h1
      exact h1
    clear hfl hof hr hys
    obtain ⟨gY, capY, e2, hga, hgb⟩ := own_some HPY.out.own (by rw [HYL.out]; omega)
    injection e2 with e2 _ e3
    subst e2; subst e3
    have HEND : Hid (TellPostP L B gO gM cM gK cK (.slice A0 xs.length c0) xs (u + 1) f w (.returned (.tuple #[])) ((World.drew WY).setCell ⟨gY, xs.length * 2 + 1, none⟩ (.int .i64 (ys.length : Nat)))) := by
      have h1 : PSt L B gO gM cM gK cK (.slice (some ⟨gY, 0, none⟩) ys.length cY) (xs ++ (f, 0) :: r) WY.drew := by rw [← HYR.out]; exact HPY.out.drew
      have h2 := h1.ended (b := ys.length)
      refine ⟨rfl, _, ?_, (Fr.below HWP.out).trans (.inl rfl) (HFY.out.trans HOY.out ((Fr.below (below_drw (Below.refl _ _))).trans (.inl rfl) h2.2)), HOY.out.mono HWP.out.size⟩
      have e : xs ++ tellN L.ownF (u + 1) f xs.length = xs ++ (f, ys.length) :: r := by rw [tellN, ← HRR.out, HYL.out]
      rw [e]; exact h2.1
    have y0 : WY.cell? ⟨gY, xs.length * 2 + 1, none⟩ = some (.int .i64 ((0 : Nat) : Int)) := own_cell HPY.out.own (by
      rw [HYR.out, steps_append, List.getElem?_append_right (by rw [steps_len]; omega), steps_len]
      have e : xs.length * 2 + 1 - xs.length * 2 = 1 := by omega
      rw [e]; simp [steps, stepF])
    have yf : WY.frozen? ⟨gY, xs.length * 2 + 1, none⟩ = false := own_free HPY.out.own
    have hS0 : (fun w' : World => w'.cell? ⟨w.heap.size, 0, none⟩ = some (.pointer (some ⟨gO, 0, none⟩)) ∧ w'.cell? ⟨gO, 2, none⟩ = some (.slice (some ⟨gY, 0, none⟩) ys.length cY)) (World.drew WY) := ⟨(HGPF.out WY HFY.out), HPY.out.k.blk.cell 2⟩
    have hxy : xs.length < ys.length := by rw [HYL.out]; omega
    clear hga hgb
    go_wp2_with fail
    refine wp_region_noPanic ?_
    refine region_M (S := fun w' => w'.cell? ⟨w.heap.size, 0, none⟩ = some (.pointer (some ⟨gO, 0, none⟩)) ∧ w'.cell? ⟨gO, 2, none⟩ = some (.slice (some ⟨gY, 0, none⟩) ys.length cY)) (T := [12]) (by kernel_rfl) ?_
    refine anyM_take (i := 0) (oi := { dst := some 49, op := _, type := _, pos := _, after := _, guard := _ }) (v := ?_) rfl (by kernel_rfl) (fun _ _ _ h => h) (Or.inl ⟨by kernel_rfl, ?_⟩) hS0 ?_
    rotate_left 1
    · (intro w hSw; (try dsimp only at hSw); go_simp; try with_reducible rfl)
    try simp only [Act.put, Array.toArray_toList, List.setIfInBounds_toArray, List.set_cons_zero, List.set_cons_succ]
    refine anyM_free (i := 1) (oi := { dst := some 50, op := _, type := _, pos := _, after := _, guard := _ }) (v := ?_) rfl (by kernel_rfl) (fun _ _ _ h => h) (Or.inl ⟨by kernel_rfl, ?_⟩) (fun _ => hS0) ?_
    rotate_left 1
    · (intro w hSw; (try dsimp only at hSw); go_simp; try with_reducible rfl)
    try simp only [Act.put, Array.toArray_toList, List.setIfInBounds_toArray, List.set_cons_zero, List.set_cons_succ]
    refine anyM_free (i := 2) (oi := { dst := some 51, op := _, type := _, pos := _, after := _, guard := _ }) (v := ?_) rfl (by kernel_rfl) (fun _ _ _ h => h) (Or.inl ⟨by kernel_rfl, ?_⟩) (fun _ => hS0) ?_
    rotate_left 1
    · (intro w hSw; (try dsimp only at hSw); go_simp; try with_reducible rfl)
    try simp only [Act.put, Array.toArray_toList, List.setIfInBounds_toArray, List.set_cons_zero, List.set_cons_succ]
    refine anyM_take (i := 3) (oi := { dst := some 52, op := _, type := _, pos := _, after := _, guard := _ }) (v := ?_) rfl (by kernel_rfl) (fun _ _ _ h => h) (Or.inl ⟨by kernel_rfl, ?_⟩) hS0 ?_
    rotate_left 1
    · (intro w hSw; (try dsimp only at hSw); go_simp; try with_reducible rfl)
    try simp only [Act.put, Array.toArray_toList, List.setIfInBounds_toArray, List.set_cons_zero, List.set_cons_succ]
    refine anyM_free (i := 4) (oi := { dst := some 53, op := _, type := _, pos := _, after := _, guard := _ }) (v := ?_) rfl (by kernel_rfl) (fun _ _ _ h => h) (Or.inl ⟨by kernel_rfl, ?_⟩) (fun _ => hS0) ?_
    rotate_left 1
    · (intro w hSw; (try dsimp only at hSw); go_simp; try with_reducible rfl)
    try simp only [Act.put, Array.toArray_toList, List.setIfInBounds_toArray, List.set_cons_zero, List.set_cons_succ]
    refine anyM_take (i := 5) (oi := { dst := some 54, op := _, type := _, pos := _, after := _, guard := _ }) (v := ?_) rfl (by kernel_rfl) (fun _ _ _ h => h) (Or.inl ⟨by kernel_rfl, ?_⟩) hS0 ?_
    rotate_left 1
    · (intro w hSw; (try dsimp only at hSw); go_simp; try with_reducible rfl)
    try simp only [Act.put, Array.toArray_toList, List.setIfInBounds_toArray, List.set_cons_zero, List.set_cons_succ]
    refine anyM_free (i := 6) (oi := { dst := some 55, op := _, type := _, pos := _, after := _, guard := _ }) (v := ?_) rfl (by kernel_rfl) (fun _ _ _ h => h) (Or.inl ⟨by kernel_rfl, ?_⟩) (fun _ => hS0) ?_
    rotate_left 1
    · (intro w hSw; (try dsimp only at hSw); go_simp; try with_reducible rfl)
    try simp only [Act.put, Array.toArray_toList, List.setIfInBounds_toArray, List.set_cons_zero, List.set_cons_succ]
    refine anyM_free (i := 7) (oi := { dst := some 56, op := _, type := _, pos := _, after := _, guard := _ }) (v := ?_) rfl (by kernel_rfl) (fun _ _ _ h => h) (Or.inl ⟨by kernel_rfl, ?_⟩) (fun _ => hS0) ?_
    rotate_left 1
    · (intro w hSw; (try dsimp only at hSw); go_simp; try with_reducible rfl)
    try simp only [Act.put, Array.toArray_toList, List.setIfInBounds_toArray, List.set_cons_zero, List.set_cons_succ]
    refine anyM_take (i := 8) (oi := { dst := some 57, op := _, type := _, pos := _, after := _, guard := _ }) (v := ?_) rfl (by kernel_rfl) (fun _ _ _ h => h) (Or.inl ⟨by kernel_rfl, ?_⟩) hS0 ?_
    rotate_left 1
    · (intro w hSw; (try dsimp only at hSw); go_simp; try with_reducible rfl)
    try simp only [Act.put, Array.toArray_toList, List.setIfInBounds_toArray, List.set_cons_zero, List.set_cons_succ]
    refine anyM_free (i := 9) (oi := { dst := some 58, op := _, type := _, pos := _, after := _, guard := _ }) (v := ?_) rfl (by kernel_rfl) (fun _ _ _ h => h) (Or.inl ⟨by kernel_rfl, ?_⟩) (fun _ => hS0) ?_
    rotate_left 1
    · (intro w hSw; (try dsimp only at hSw); go_simp; try with_reducible rfl)
    try simp only [Act.put, Array.toArray_toList, List.setIfInBounds_toArray, List.set_cons_zero, List.set_cons_succ]
    refine anyM_free (i := 10) (oi := { dst := some 59, op := _, type := _, pos := _, after := _, guard := _ }) (v := ?_) rfl (by kernel_rfl) (fun _ _ _ h => h) (Or.inl ⟨by kernel_rfl, ?_⟩) (fun _ => hS0) ?_
    rotate_left 1
    · (intro w hSw; (try dsimp only at hSw); go_simp; try with_reducible rfl)
    try simp only [Act.put, Array.toArray_toList, List.setIfInBounds_toArray, List.set_cons_zero, List.set_cons_succ]
    refine anyM_free (i := 11) (oi := { dst := some 60, op := _, type := _, pos := _, after := _, guard := _ }) (v := ?_) rfl (by kernel_rfl) (fun _ _ _ h => h) (Or.inl ⟨by kernel_rfl, ?_⟩) (fun _ => hS0) ?_
    rotate_left 1
    · (intro w hSw; (try dsimp only at hSw); go_simp; try with_reducible rfl)
    try simp only [Act.put, Array.toArray_toList, List.setIfInBounds_toArray, List.set_cons_zero, List.set_cons_succ]
    refine anyM_one (i := 12) (by kernel_rfl) rfl (fun K hK => ?_)
    go_simp
    refine hK.out _ _ (fun h => late_no h (by kernel_rfl)) ?_
    clear hK K
    try simp only [Act.put, Array.toArray_toList, List.setIfInBounds_toArray, List.set_cons_zero, List.set_cons_succ]
    refine anyM_done (by kernel_rfl) ?_ _
    refine NoPanic.normal ?_
    clear hS0 y0 yf
    go_wp2_with fail
    (try simp only [Exit.inBlock, Exit.then]); refine bodyPost_ret (results_none rfl _ _ _) rfl ?_
    exact HEND.out
  · have qf : (iv == 0) = false := by rw [HFL.out]; simpa using hfl
    have qf' : (iv != 0) = true := by simpa using qf
    have HFF : Hid (L.flatF f = false) := by show _ = _; simpa using hfl
    have HBE := Lib.hid (bel_calls L B gO gM cM gK cK L.nf f _ W1 HP1.out.k hf (by omega))
    have HBN : Hid ((belongP L.nf L.par L.flatF L.nf f).length ≤ L.nf) := len_nodup (belong_nodup L.nf L.par L.flatF HPP.out L.nf f (by omega)) (fun x hx => (belong_gt L.nf L.par L.flatF HPP.out _ _ _ hx).2)
    have HWS : Hid (w.heap.size < W1.heap.size) := Nat.lt_of_lt_of_le HGL0.out HF1.out.size
    have HQ : Hid (∀ A n c (X : World), X.ownsRow W1.heap.size 3 1 (.slice A n c) n (nums (belongP L.nf L.par L.flatF L.nf f)) → Below W1.heap.size W1 X → n ≤ L.nf ∧ Calls Tryz.prog 129 #[.slice A n c, .func (.func 130) #[] #[.pointer (some ⟨w.heap.size, 0, none⟩)]] X fun e w' => e = .returned (.tuple #[]) ∧ ∃ l', Hid (l' = L.ownF f) ∧ w'.ownsRow W1.heap.size 3 1 (.slice A n c) n (nums l') ∧ Below W1.heap.size W1 w') := fun A n c X ho hb => by
      have hn1 : n ≤ L.nf := by have h1 := ho.1; rw [nums_len] at h1; have := HBN.out; omega
      refine ⟨hn1, (sort_calls L B gO gM cM gK cK w.heap.size W1.heap.size n c _ A _ X (HP1.out.k.below hb) ((hb.cell (p := ⟨w.heap.size, 0, none⟩) HWS.out).trans (HGPF.out _ HF1.out)) ho (fun x hx => (belong_gt L.nf L.par L.flatF HPP.out _ _ _ hx).2) HP1.out.k.hB HWS.out (by omega)).mono ?_⟩
      rintro e w' ⟨rfl, l', h1, h2, h3, h4⟩
      refine ⟨rfl, l', ?_, h3, below_grownB hb ho (Nat.le_refl _) h4⟩
      show _ = _
      rw [sorted_own L.nf L.par L.flatF L.rankF L.phaseF HPP.out (u := L.nf) (f := f) (by omega) (.inr HFF.out) (own_phase L) h1 h2]
      unfold LayV.ownF; rw [HFF.out]; rfl
    clear hfl HFL
    go_wp2_with (first | (go_at_call 128; refine HBE.out.mono ?_; rintro e w5 ⟨A5, n5, c5, rfl, ho5, hb5⟩; have hn5 := (HQ.out A5 n5 c5 _ ho5 hb5).1; have HSO := Lib.hid (HQ.out A5 n5 c5 _ ho5 hb5).2; have p0 : w5.cell? ⟨w.heap.size, 0, none⟩ = some (.pointer (some ⟨gO, 0, none⟩)) := (hb5.cell (p := ⟨w.heap.size, 0, none⟩) HWS.out).trans (HGPF.out _ HF1.out); clear ho5 hb5) | (go_at_call 129; refine HSO.out.mono ?_; rintro e w6 ⟨rfl, l, HL, ho6, hb6⟩; have HL6 := Lib.hid ho6; have HB6 := Lib.hid hb6; clear ho6 hb6))
    have hln : Hid (l.length = n5) := by have := HL6.out.1; rw [nums_len] at this; show _ = _; omega
    go_loopw [41] (fun s wr => ∃ (j : Nat) (v4 : Value) (zs : List (Nat × Nat)), j ≤ n5 ∧ s = .int .i64 j ∧ PSt L B gO gM cM gK cK v4 zs wr ∧ Fr gO (.slice A0 xs.length c0) wP wr ∧ OwnRel (.slice A0 xs.length c0) v4 wP ∧ wr.ownsRow W1.heap.size 3 1 (.slice A5 n5 c5) n5 (nums l) ∧ Hid (zs = xs ++ (f, 0) :: tells (tellN L.ownF u) (l.take j) (xs.length + 1))) (fun s _ => n5 - (intOf s).toNat)
    case atStart => exact ⟨0, _, xs ++ [(f, 0)], Nat.zero_le _, rfl, HP1.out.below HB6.out, HF1.out.trans HO1.out (Fr.below HB6.out), HO1.out, HL6.out, by show _ = _; simp [tells]⟩
    case round =>
      clear HB6 HL6 HBE HQ HP1 HF1 HO1
      obtain ⟨j, v4, zs, hj, rfl, hP4, hF4, hO4, hL4, HZS⟩ := hrel
      obtain ⟨wj, rfl⟩ : ∃ x, x = wr := ⟨_, rfl⟩
      obtain ⟨A4, c4, rfl⟩ := own_open hP4.own
      have HP4 := Lib.hid hP4
      have HF4 := Lib.hid hF4
      have HO4 := Lib.hid hO4
      have HLW := Lib.hid hL4
      have p0 : wj.cell? ⟨w.heap.size, 0, none⟩ = some (.pointer (some ⟨gO, 0, none⟩)) := HGPF.out _ hF4
      clear hP4 hF4 hO4
      by_cases hjl : j < n5
      · obtain ⟨g2, cap2, e2, hg2a, hg2b⟩ := own_some hL4 (by omega)
        injection e2 with e2 _ e3
        subst e2; subst e3
        have hjl' : j < l.length := by rw [hln.out]; exact hjl
        have hcl : wj.cell? ⟨g2, j, none⟩ = some (.int .i64 (l.getD j 0 : Nat)) := own_cell hL4 (nums_at l hjl')
        have hmk : (0 < l.getD j 0 ∧ l.getD j 0 < L.nf) ∧ ownerP L.par L.flatF (l.getD j 0) = f := by
          have h1 : l.getD j 0 ∈ ownL L.nf L.par L.flatF L.rankF L.phaseF f := by
            have h2 : l = ownL L.nf L.par L.flatF L.rankF L.phaseF f := by rw [HL.out]; unfold LayV.ownF; rw [HFF.out]; rfl
            rw [← h2]; simp [List.getD, hjl']
          exact (mem_ownL L.nf L.par L.flatF L.rankF L.phaseF (own_phase L)).1 h1
        have hsn := take_snoc l 0 j hjl'
        have hst := sumC_take (cntT L.ownF u) l j hjl'
        obtain ⟨k, hk⟩ : ∃ x, x = l.getD j 0 := ⟨_, rfl⟩
        rw [← hk] at hcl hmk hsn hst
        obtain ⟨⟨hk0, hkn⟩, hko⟩ := hmk
        have hfk : f < k := by rw [← hko]; exact owner_lt HPP.out hk0 hkn
        have hzl : zs.length = xs.length + 1 + sumC (cntT L.ownF u) (l.take j) := by rw [HZS.out, List.length_append, List.length_cons, tells_sum]; omega
        have hlk : zs.length + (tellN L.ownF u k zs.length).length ≤ 2097152 := by
          rw [tellN_len]; have := HLEN.out; rw [← HL.out] at this; omega
        have HNEXT : Hid (zs ++ tellN L.ownF u k zs.length = xs ++ (f, 0) :: tells (tellN L.ownF u) (l.take (j + 1)) (xs.length + 1)) := by
          show _ = _
          rw [hsn, tells_append, tells_sum, ← hzl]
          conv => lhs; lhs; rw [HZS.out]
          simp [tells]
        have HTE : Hid (∀ w', PSt L B gO gM cM gK cK (.slice A4 zs.length c4) zs w' → Calls Tryz.prog 78 #[.pointer (some ⟨gO, 0, none⟩), .int .i64 (k : Nat)] w' (TellPostP L B gO gM cM gK cK (.slice A4 zs.length c4) zs u k w')) := fun w' h => IH.out k _ zs w' h hkn (by have := HLT.out; omega) hlk
        have JJ := Lib.hid (show j ≤ n5 ∧ j < n5 from ⟨hj, hjl⟩)
        have qj : decide (j < n5) = true := decide_eq_true hjl
        clear hzl hlk hsn hst hk hko hL4 hjl' hj
        go_wp2_with (go_at_call 78; refine (HTE.out _ HP4.out).mono ?_; rintro e w5 hpost; obtain ⟨rfl, v5, hT5, hF5, hO5⟩ := hpost; have HT5 := Lib.hid hT5; have HF5 := Lib.hid hF5; have HO5 := Lib.hid hO5; clear hT5 hF5 hO5)
        go_roundw
        case rel => exact ⟨j + 1, v5, zs ++ tellN L.ownF u k zs.length, by have := JJ.out; omega, by go_num, HT5.out, HF4.out.trans HO4.out HF5.out, HO4.out.trans HF4.out.size HO5.out, own_fr HLW.out HF5.out HP4.out.k.blk HP4.out.own (by decide) (by decide), HNEXT.out⟩
        case measure => have := JJ.out; simp [intOf]; omega
      · obtain rfl : j = n5 := by omega
        obtain ⟨r, hr⟩ : ∃ r, r = tells (tellN L.ownF u) (L.ownF f) (xs.length + 1) := ⟨_, rfl⟩
        obtain ⟨ys, hys⟩ : ∃ ys, ys = zs := ⟨_, rfl⟩
        subst hys
        have HRR := Lib.hid hr
        have HYR : Hid (ys = xs ++ (f, 0) :: r) := by show _ = _; rw [HZS.out, hr, ← HL.out, List.take_of_length_le (by rw [hln.out]; exact Nat.le_refl _)]
        have HYL : Hid (ys.length = xs.length + 1 + r.length) := by show _ = _; rw [HYR.out]; simp; omega
        obtain ⟨WY, hWY⟩ : ∃ x, x = wj := ⟨_, rfl⟩
        subst hWY
        obtain ⟨cY, hcY⟩ : ∃ x, x = c4 := ⟨_, rfl⟩
        subst hcY
        have HPY := Lib.hid HP4.out
        have HFY := Lib.hid HF4.out
        have HOY := Lib.hid HO4.out
        have qj : decide (j < j) = false := decide_eq_false (by omega)
        clear hr hL4 hjl hj
        obtain ⟨gY, capY, e2, hga, hgb⟩ := own_some HPY.out.own (by rw [HYL.out]; omega)
        injection e2 with e2 _ e3
        subst e2; subst e3
        have HEND : Hid (TellPostP L B gO gM cM gK cK (.slice A0 xs.length c0) xs (u + 1) f w (.returned (.tuple #[])) ((World.drew WY).setCell ⟨gY, xs.length * 2 + 1, none⟩ (.int .i64 (ys.length : Nat)))) := by
          have h1 : PSt L B gO gM cM gK cK (.slice (some ⟨gY, 0, none⟩) ys.length cY) (xs ++ (f, 0) :: r) WY.drew := by rw [← HYR.out]; exact HPY.out.drew
          have h2 := h1.ended (b := ys.length)
          refine ⟨rfl, _, ?_, (Fr.below HWP.out).trans (.inl rfl) (HFY.out.trans HOY.out ((Fr.below (below_drw (Below.refl _ _))).trans (.inl rfl) h2.2)), HOY.out.mono HWP.out.size⟩
          have e : xs ++ tellN L.ownF (u + 1) f xs.length = xs ++ (f, ys.length) :: r := by rw [tellN, ← HRR.out, HYL.out]
          rw [e]; exact h2.1
        have y0 : WY.cell? ⟨gY, xs.length * 2 + 1, none⟩ = some (.int .i64 ((0 : Nat) : Int)) := own_cell HPY.out.own (by
          rw [HYR.out, steps_append, List.getElem?_append_right (by rw [steps_len]; omega), steps_len]
          have e : xs.length * 2 + 1 - xs.length * 2 = 1 := by omega
          rw [e]; simp [steps, stepF])
        have yf : WY.frozen? ⟨gY, xs.length * 2 + 1, none⟩ = false := own_free HPY.out.own
        have hS0 : (fun w' : World => w'.cell? ⟨w.heap.size, 0, none⟩ = some (.pointer (some ⟨gO, 0, none⟩)) ∧ w'.cell? ⟨gO, 2, none⟩ = some (.slice (some ⟨gY, 0, none⟩) ys.length cY)) (World.drew WY) := ⟨(HGPF.out WY HFY.out), HPY.out.k.blk.cell 2⟩
        have hxy : xs.length < ys.length := by rw [HYL.out]; omega
        clear hga hgb
        go_wp2_with fail
        refine wp_region_noPanic ?_
        refine region_M (S := fun w' => w'.cell? ⟨w.heap.size, 0, none⟩ = some (.pointer (some ⟨gO, 0, none⟩)) ∧ w'.cell? ⟨gO, 2, none⟩ = some (.slice (some ⟨gY, 0, none⟩) ys.length cY)) (T := [12]) (by kernel_rfl) ?_
        refine anyM_take (i := 0) (oi := { dst := some 49, op := _, type := _, pos := _, after := _, guard := _ }) (v := ?_) rfl (by kernel_rfl) (fun _ _ _ h => h) (Or.inl ⟨by kernel_rfl, ?_⟩) hS0 ?_
        rotate_left 1
        · (intro w hSw; (try dsimp only at hSw); go_simp; try with_reducible rfl)
        try simp only [Act.put, Array.toArray_toList, List.setIfInBounds_toArray, List.set_cons_zero, List.set_cons_succ]
        refine anyM_free (i := 1) (oi := { dst := some 50, op := _, type := _, pos := _, after := _, guard := _ }) (v := ?_) rfl (by kernel_rfl) (fun _ _ _ h => h) (Or.inl ⟨by kernel_rfl, ?_⟩) (fun _ => hS0) ?_
        rotate_left 1
        · (intro w hSw; (try dsimp only at hSw); go_simp; try with_reducible rfl)
        try simp only [Act.put, Array.toArray_toList, List.setIfInBounds_toArray, List.set_cons_zero, List.set_cons_succ]
        refine anyM_free (i := 2) (oi := { dst := some 51, op := _, type := _, pos := _, after := _, guard := _ }) (v := ?_) rfl (by kernel_rfl) (fun _ _ _ h => h) (Or.inl ⟨by kernel_rfl, ?_⟩) (fun _ => hS0) ?_
        rotate_left 1
        · (intro w hSw; (try dsimp only at hSw); go_simp; try with_reducible rfl)
        try simp only [Act.put, Array.toArray_toList, List.setIfInBounds_toArray, List.set_cons_zero, List.set_cons_succ]
        refine anyM_take (i := 3) (oi := { dst := some 52, op := _, type := _, pos := _, after := _, guard := _ }) (v := ?_) rfl (by kernel_rfl) (fun _ _ _ h => h) (Or.inl ⟨by kernel_rfl, ?_⟩) hS0 ?_
        rotate_left 1
        · (intro w hSw; (try dsimp only at hSw); go_simp; try with_reducible rfl)
        try simp only [Act.put, Array.toArray_toList, List.setIfInBounds_toArray, List.set_cons_zero, List.set_cons_succ]
        refine anyM_free (i := 4) (oi := { dst := some 53, op := _, type := _, pos := _, after := _, guard := _ }) (v := ?_) rfl (by kernel_rfl) (fun _ _ _ h => h) (Or.inl ⟨by kernel_rfl, ?_⟩) (fun _ => hS0) ?_
        rotate_left 1
        · (intro w hSw; (try dsimp only at hSw); go_simp; try with_reducible rfl)
        try simp only [Act.put, Array.toArray_toList, List.setIfInBounds_toArray, List.set_cons_zero, List.set_cons_succ]
        refine anyM_take (i := 5) (oi := { dst := some 54, op := _, type := _, pos := _, after := _, guard := _ }) (v := ?_) rfl (by kernel_rfl) (fun _ _ _ h => h) (Or.inl ⟨by kernel_rfl, ?_⟩) hS0 ?_
        rotate_left 1
        · (intro w hSw; (try dsimp only at hSw); go_simp; try with_reducible rfl)
        try simp only [Act.put, Array.toArray_toList, List.setIfInBounds_toArray, List.set_cons_zero, List.set_cons_succ]
        refine anyM_free (i := 6) (oi := { dst := some 55, op := _, type := _, pos := _, after := _, guard := _ }) (v := ?_) rfl (by kernel_rfl) (fun _ _ _ h => h) (Or.inl ⟨by kernel_rfl, ?_⟩) (fun _ => hS0) ?_
        rotate_left 1
        · (intro w hSw; (try dsimp only at hSw); go_simp; try with_reducible rfl)
        try simp only [Act.put, Array.toArray_toList, List.setIfInBounds_toArray, List.set_cons_zero, List.set_cons_succ]
        refine anyM_free (i := 7) (oi := { dst := some 56, op := _, type := _, pos := _, after := _, guard := _ }) (v := ?_) rfl (by kernel_rfl) (fun _ _ _ h => h) (Or.inl ⟨by kernel_rfl, ?_⟩) (fun _ => hS0) ?_
        rotate_left 1
        · (intro w hSw; (try dsimp only at hSw); go_simp; try with_reducible rfl)
        try simp only [Act.put, Array.toArray_toList, List.setIfInBounds_toArray, List.set_cons_zero, List.set_cons_succ]
        refine anyM_take (i := 8) (oi := { dst := some 57, op := _, type := _, pos := _, after := _, guard := _ }) (v := ?_) rfl (by kernel_rfl) (fun _ _ _ h => h) (Or.inl ⟨by kernel_rfl, ?_⟩) hS0 ?_
        rotate_left 1
        · (intro w hSw; (try dsimp only at hSw); go_simp; try with_reducible rfl)
        try simp only [Act.put, Array.toArray_toList, List.setIfInBounds_toArray, List.set_cons_zero, List.set_cons_succ]
        refine anyM_free (i := 9) (oi := { dst := some 58, op := _, type := _, pos := _, after := _, guard := _ }) (v := ?_) rfl (by kernel_rfl) (fun _ _ _ h => h) (Or.inl ⟨by kernel_rfl, ?_⟩) (fun _ => hS0) ?_
        rotate_left 1
        · (intro w hSw; (try dsimp only at hSw); go_simp; try with_reducible rfl)
        try simp only [Act.put, Array.toArray_toList, List.setIfInBounds_toArray, List.set_cons_zero, List.set_cons_succ]
        refine anyM_free (i := 10) (oi := { dst := some 59, op := _, type := _, pos := _, after := _, guard := _ }) (v := ?_) rfl (by kernel_rfl) (fun _ _ _ h => h) (Or.inl ⟨by kernel_rfl, ?_⟩) (fun _ => hS0) ?_
        rotate_left 1
        · (intro w hSw; (try dsimp only at hSw); go_simp; try with_reducible rfl)
        try simp only [Act.put, Array.toArray_toList, List.setIfInBounds_toArray, List.set_cons_zero, List.set_cons_succ]
        refine anyM_free (i := 11) (oi := { dst := some 60, op := _, type := _, pos := _, after := _, guard := _ }) (v := ?_) rfl (by kernel_rfl) (fun _ _ _ h => h) (Or.inl ⟨by kernel_rfl, ?_⟩) (fun _ => hS0) ?_
        rotate_left 1
        · (intro w hSw; (try dsimp only at hSw); go_simp; try with_reducible rfl)
        try simp only [Act.put, Array.toArray_toList, List.setIfInBounds_toArray, List.set_cons_zero, List.set_cons_succ]
        refine anyM_one (i := 12) (by kernel_rfl) rfl (fun K hK => ?_)
        go_simp
        refine hK.out _ _ (fun h => late_no h (by kernel_rfl)) ?_
        clear hK K
        try simp only [Act.put, Array.toArray_toList, List.setIfInBounds_toArray, List.set_cons_zero, List.set_cons_succ]
        refine anyM_done (by kernel_rfl) ?_ _
        refine NoPanic.normal ?_
        clear hS0 y0 yf
        go_wp2_with fail
        (try simp only [Exit.inBlock, Exit.then]); refine bodyPost_ret (results_none rfl _ _ _) rfl ?_
        exact HEND.out
theorem tell_calls (L : LayV) (B gO gM cM gK cK : Nat) : ∀ u, TellSaysP L B gO gM cM gK cK u
  | 0 => fun f v xs w hP hf hn _ => absurd hn (by omega)
  | u + 1 => tell_step L B gO gM cM gK cK u (tell_calls L B gO gM cM gK cK u)
end Go.Proofs.YtkmmlcnoeeaekaaGreatDoor
