/- Several texts in one: StkL. -/
import Derived.Test.YtkmmlcnoeeaekaaGreatDoorPaintListM31
import Derived.Test.YtkmmlcnoeeaekaaGreatDoorPaintListM9
/- The comparison of what belongs to an owner; its sort. -/
namespace Go.Proofs.YtkmmlcnoeeaekaaGreatDoor
open Go.RowKit Go.Sort
set_option linter.unusedVariables false
set_option linter.unusedSimpArgs false

/-- Worlds that some draws and some new blocks lead to. -/
def GW (W w : World) : Prop := ∃ q os, w = grow (W.drewN q) os
theorem GW.refl (W : World) : GW W W := ⟨0, #[], by rw [grow_empty]; rfl⟩
theorem GW.drew {W w : World} (h : GW W w) : GW W w.drew := by
  obtain ⟨q, os, rfl⟩ := h
  exact ⟨q + 1, os, rfl⟩
theorem GW.alloc_eq {W w wx : World} {o : Obj} (hx : w.alloc o = wx) (h : GW W w) : GW W wx := by
  obtain ⟨q, os, rfl⟩ := h
  exact ⟨q, os ++ #[o], by rw [← hx, alloc_eq_grow, grow_grow]⟩
theorem GW.size {W w : World} (h : GW W w) : W.heap.size ≤ w.heap.size := by
  obtain ⟨q, os, rfl⟩ := h
  rw [size_grow]
  exact Nat.le_add_right _ _
theorem GW.setCell {W w : World} {g j : Nat} {u : Value} (h : GW W w) (hg : W.heap.size ≤ g) : GW W (w.setCell ⟨g, j, none⟩ u) := by
  obtain ⟨q, os, rfl⟩ := h
  exact ⟨q, _, by rw [setCell_eq, mapBlock_grow_new _ _ _ _ (by exact hg)]⟩
theorem GW.setCells {W : World} {g : Nat} {w : World} (h : GW W w) (hg : W.heap.size ≤ g) : ∀ (vs : List Value) (o : Nat), GW W (w.setCells g o vs) := by
  intro vs
  induction vs generalizing w with
  | nil => intro o; exact h
  | cons v r ih => intro o; rw [World.setCells]; exact ih (h.setCell hg) (o + 1)
theorem GW.cell {W w : World} {b o : Nat} (h : GW W w) (hb : b < W.heap.size) : w.cell? ⟨b, o, none⟩ = W.cell? ⟨b, o, none⟩ := by
  obtain ⟨q, os, rfl⟩ := h
  rw [cell?_grow _ _ _ (by exact hb)]; rfl
theorem blk_aeq {w wx : World} {o : Obj} {g : Nat} {t : TypeId} {cs : Array Value} (hx : w.alloc o = wx) (h : Blk w g t cs) : Blk wx g t cs := by rw [← hx]; exact h.alloc _
def cmpI (x y : Int) : Int := if x < y then -1 else if y < x then 1 else 0
def orI (a b c : Int) : Int := if a ≠ 0 then a else if b ≠ 0 then b else c
set_option maxHeartbeats 1000000 in
theorem cmpI_calls (x y : Int) (w : World) : Calls Tryz.prog 132 #[.int .i64 x, .int .i64 y] w fun e w' => e = .returned (.int .i64 (cmpI x y)) ∧ w = w' := by
  have hn : ∀ (x : Int) (w : World), Calls Tryz.prog 169 #[.int .i64 x] w fun e w' => e = .returned (.bool false) ∧ w' = w := fun x w => by first | exact Tryz.cmp_isNaN_int x w | exact Tryz.cmp_isNaN_int2 x w
  have HN := Lib.hid hn
  clear hn
  by_cases h1 : x < y
  · have e : cmpI x y = -1 := by unfold cmpI; rw [if_pos h1]
    rw [e]
    have q1 : decide (x < y) = true := decide_eq_true h1
    clear e h1
    go_enter Tryz.func132, Tryz.ntmps132
    go_wp2_with (go_at_call 169; refine (HN.out _ _).mono ?_; rintro e w' ⟨rfl, rfl⟩)
    go_ret
    exact ⟨rfl, rfl⟩
  have q1 : decide (x < y) = false := decide_eq_false h1
  by_cases h2 : y < x
  · have e : cmpI x y = 1 := by unfold cmpI; rw [if_neg h1, if_pos h2]
    rw [e]
    have q2 : decide (y < x) = true := decide_eq_true h2
    clear e h1 h2
    go_enter Tryz.func132, Tryz.ntmps132
    go_wp2_with (go_at_call 169; refine (HN.out _ _).mono ?_; rintro e w' ⟨rfl, rfl⟩)
    go_ret
    exact ⟨rfl, rfl⟩
  · have e : cmpI x y = 0 := by unfold cmpI; rw [if_neg h1, if_neg h2]
    rw [e]
    have q2 : decide (y < x) = false := decide_eq_false h2
    clear e h1 h2
    go_enter Tryz.func132, Tryz.ntmps132
    go_wp2_with (go_at_call 169; refine (HN.out _ _).mono ?_; rintro e w' ⟨rfl, rfl⟩)
    go_ret
    exact ⟨rfl, rfl⟩
set_option maxHeartbeats 1000000 in
theorem orI_calls (a b c : Int) (g : Nat) (w : World) (h : Blk w g 3 #[.int .i64 a, .int .i64 b, .int .i64 c]) : Calls Tryz.prog 131 #[.slice (some ⟨g, 0, none⟩) 3 3] w fun e w' => e = .returned (.int .i64 (orI a b c)) ∧ w = w' := by
  have c0 : w.cell? ⟨g, 0, none⟩ = some (.int .i64 a) := h.cell 0
  have c1 : w.cell? ⟨g, 1, none⟩ = some (.int .i64 b) := h.cell 1
  have c2 : w.cell? ⟨g, 2, none⟩ = some (.int .i64 c) := h.cell 2
  clear h
  by_cases ha : a = 0
  · by_cases hb : b = 0
    · by_cases hc : c = 0
      · subst ha; subst hb; subst hc
        have e : orI 0 0 0 = 0 := by decide
        rw [e]
        go_enter Tryz.func131, Tryz.ntmps131
        go_wp2_with fail
        refine wp_loop_rounds 4 ?_
        rw [rounds_succ]
        go_wp2_with fail
        rw [rounds_succ]
        go_wp2_with fail
        rw [rounds_succ]
        go_wp2_with fail
        rw [rounds_succ]
        go_wp2_with fail
        go_ret
        exact ⟨rfl, rfl⟩
      · subst ha; subst hb
        have e : orI 0 0 c = c := by unfold orI; simp
        rw [e]
        have q : (c != 0) = true := by simpa using hc
        clear hc e
        go_enter Tryz.func131, Tryz.ntmps131
        go_wp2_with fail
        refine wp_loop_rounds 3 ?_
        rw [rounds_succ]
        go_wp2_with fail
        rw [rounds_succ]
        go_wp2_with fail
        rw [rounds_succ]
        go_wp2_with fail
        go_ret
        exact ⟨rfl, rfl⟩
    · subst ha
      have e : orI 0 b c = b := by unfold orI; rw [if_neg (by simp), if_pos hb]
      rw [e]
      have q : (b != 0) = true := by simpa using hb
      clear hb e
      go_enter Tryz.func131, Tryz.ntmps131
      go_wp2_with fail
      refine wp_loop_rounds 2 ?_
      rw [rounds_succ]
      go_wp2_with fail
      rw [rounds_succ]
      go_wp2_with fail
      go_ret
      exact ⟨rfl, rfl⟩
  · have e : orI a b c = a := by unfold orI; rw [if_pos ha]
    rw [e]
    have q : (a != 0) = true := by simpa using ha
    clear ha e
    go_enter Tryz.func131, Tryz.ntmps131
    go_wp2_with fail
    refine wp_loop_rounds 1 ?_
    rw [rounds_succ]
    go_wp2_with fail
    go_ret
    exact ⟨rfl, rfl⟩
/-- How two are compared. -/
def cfF (L : LayV) (a b : Nat) : Int := orI (cmpI (L.phaseF a) (L.phaseF b)) (cmpI (L.rankF a) (L.rankF b)) (cmpI a b)
theorem cf_lt (L : LayV) (a b : Nat) : cfF L a b < 0 ↔ ltP L.rankF L.phaseF a b := by
  unfold cfF orI cmpI ltP
  split <;> split <;> (repeat' split) <;> omega
set_option maxRecDepth 1000000 in
set_option maxHeartbeats 8000000 in
theorem cf_calls (L : LayV) (B gO gM cM gK cK gP a b : Nat) (v : Value) (W : World) (hK : KSt L B gO gM cM gK cK v W) (hP : W.cell? ⟨gP, 0, none⟩ = some (.pointer (some ⟨gO, 0, none⟩))) (ha : a < L.nf) (hb : b < L.nf) :
    Calls Tryz.prog 130 #[.int .i64 (a : Nat), .int .i64 (b : Nat), .pointer (some ⟨gP, 0, none⟩)] W fun e w' => e = .returned (.int .i64 (cfF L a b)) ∧ GW W w' := by
  have mixed : Tryz.prog.follows .mixedOrders = true := by kernel_rfl
  obtain ⟨a0, a1, a2⟩ := hK.marks a ha
  obtain ⟨b0, b1, b2⟩ := hK.marks b hb
  have s0 : W.cell? ⟨gO, 0, none⟩ = some (.slice (some ⟨gM, 0, none⟩) L.nf cM) := hK.blk.cell 0
  have hcf : cfF L a b = orI (cmpI (L.phaseF a) (L.phaseF b)) (cmpI (L.rankF a) (L.rankF b)) (cmpI a b) := rfl
  obtain ⟨ia, hia⟩ : ∃ x, x = L.isF a := ⟨_, rfl⟩
  obtain ⟨ib, hib⟩ : ∃ x, x = L.isF b := ⟨_, rfl⟩
  obtain ⟨za, hza⟩ : ∃ x, x = L.rankF a := ⟨_, rfl⟩
  obtain ⟨zb, hzb⟩ : ∃ x, x = L.rankF b := ⟨_, rfl⟩
  obtain ⟨pa, hpa⟩ : ∃ x, x = L.phaseF a := ⟨_, rfl⟩
  obtain ⟨pb, hpb⟩ : ∃ x, x = L.phaseF b := ⟨_, rfl⟩
  rw [hcf]
  rw [← hia] at a0
  rw [← hib] at b0
  rw [← hza] at a1 ⊢
  rw [← hzb] at b1 ⊢
  rw [← hpa] at a2 ⊢
  rw [← hpb] at b2 ⊢
  have hgm : gM < W.heap.size := Nat.lt_of_lt_of_le hK.gm hK.hB
  have hgo : gO < W.heap.size := hK.blk.lt
  have hgp : gP < W.heap.size := block_lt_of_cell hP
  have HSS : Hid (∀ w', GW W w' → w'.cell? ⟨gP, 0, none⟩ = some (.pointer (some ⟨gO, 0, none⟩)) ∧ w'.cell? ⟨gO, 0, none⟩ = some (.slice (some ⟨gM, 0, none⟩) L.nf cM) ∧ w'.cell? ⟨gM, a * 3, none⟩ = some (.int .i64 ia) ∧ w'.cell? ⟨gM, a * 3 + 1, none⟩ = some (.int .i64 za) ∧ w'.cell? ⟨gM, a * 3 + 2, none⟩ = some (.int .i64 pa) ∧ w'.cell? ⟨gM, b * 3, none⟩ = some (.int .i64 ib) ∧ w'.cell? ⟨gM, b * 3 + 1, none⟩ = some (.int .i64 zb) ∧ w'.cell? ⟨gM, b * 3 + 2, none⟩ = some (.int .i64 pb)) := fun w' h => by
    rw [h.cell hgp, h.cell hgo, h.cell hgm, h.cell hgm, h.cell hgm, h.cell hgm, h.cell hgm, h.cell hgm]
    exact ⟨hP, s0, a0, a1, a2, b0, b1, b2⟩
  have HG := Lib.hid (GW.refl W).drew
  have hS0 : (fun w' : World => w'.cell? ⟨gP, 0, none⟩ = some (.pointer (some ⟨gO, 0, none⟩)) ∧ w'.cell? ⟨gO, 0, none⟩ = some (.slice (some ⟨gM, 0, none⟩) L.nf cM) ∧ w'.cell? ⟨gM, a * 3, none⟩ = some (.int .i64 ia) ∧ w'.cell? ⟨gM, a * 3 + 1, none⟩ = some (.int .i64 za) ∧ w'.cell? ⟨gM, a * 3 + 2, none⟩ = some (.int .i64 pa) ∧ w'.cell? ⟨gM, b * 3, none⟩ = some (.int .i64 ib) ∧ w'.cell? ⟨gM, b * 3 + 1, none⟩ = some (.int .i64 zb) ∧ w'.cell? ⟨gM, b * 3 + 2, none⟩ = some (.int .i64 pb)) W.drew := HSS.out _ HG.out
  clear hcf hia hib hza hzb hpa hpb hK a0 a1 a2 b0 b1 b2 s0 hP hgm hgo hgp
  go_enter Tryz.func130, Tryz.ntmps130
  go_wp2_with fail
  refine wp_region_noPanic ?_
  refine region_M (S := fun w' => w'.cell? ⟨gP, 0, none⟩ = some (.pointer (some ⟨gO, 0, none⟩)) ∧ w'.cell? ⟨gO, 0, none⟩ = some (.slice (some ⟨gM, 0, none⟩) L.nf cM) ∧ w'.cell? ⟨gM, a * 3, none⟩ = some (.int .i64 ia) ∧ w'.cell? ⟨gM, a * 3 + 1, none⟩ = some (.int .i64 za) ∧ w'.cell? ⟨gM, a * 3 + 2, none⟩ = some (.int .i64 pa) ∧ w'.cell? ⟨gM, b * 3, none⟩ = some (.int .i64 ib) ∧ w'.cell? ⟨gM, b * 3 + 1, none⟩ = some (.int .i64 zb) ∧ w'.cell? ⟨gM, b * 3 + 2, none⟩ = some (.int .i64 pb)) (T := [17]) (by kernel_rfl) ?_
  generalize World.drew _ = wd at HG hS0 ⊢
  refine anyM_take (i := 0) (oi := { dst := some 8, op := _, type := _, pos := _, after := _, guard := _ }) (v := ?_) rfl (by kernel_rfl) (fun _ _ _ h => h) (Or.inl ⟨by kernel_rfl, ?_⟩) hS0 ?_
  rotate_left 1
  · (intro w hSw; (try dsimp only at hSw); go_simp; try with_reducible rfl)
  try simp only [Act.put, Array.toArray_toList, List.setIfInBounds_toArray, List.set_cons_zero, List.set_cons_succ]
  refine anyM_free (i := 1) (oi := { dst := some 9, op := _, type := _, pos := _, after := _, guard := _ }) (v := ?_) rfl (by kernel_rfl) (fun _ _ _ h => h) (Or.inl ⟨by kernel_rfl, ?_⟩) (fun _ => hS0) ?_
  rotate_left 1
  · (intro w hSw; (try dsimp only at hSw); go_simp; try with_reducible rfl)
  try simp only [Act.put, Array.toArray_toList, List.setIfInBounds_toArray, List.set_cons_zero, List.set_cons_succ]
  refine anyM_free (i := 2) (oi := { dst := some 10, op := _, type := _, pos := _, after := _, guard := _ }) (v := ?_) rfl (by kernel_rfl) (fun _ _ _ h => h) (Or.inl ⟨by kernel_rfl, ?_⟩) (fun _ => hS0) ?_
  rotate_left 1
  · (intro w hSw; (try dsimp only at hSw); go_simp; try with_reducible rfl)
  try simp only [Act.put, Array.toArray_toList, List.setIfInBounds_toArray, List.set_cons_zero, List.set_cons_succ]
  refine anyM_take (i := 3) (oi := { dst := some 11, op := _, type := _, pos := _, after := _, guard := _ }) (v := ?_) rfl (by kernel_rfl) (fun _ _ _ h => h) (Or.inl ⟨by kernel_rfl, ?_⟩) hS0 ?_
  rotate_left 1
  · (intro w hSw; (try dsimp only at hSw); go_simp; try with_reducible rfl)
  try simp only [Act.put, Array.toArray_toList, List.setIfInBounds_toArray, List.set_cons_zero, List.set_cons_succ]
  refine anyM_free (i := 4) (oi := { dst := some 12, op := _, type := _, pos := _, after := _, guard := _ }) (v := ?_) rfl (by kernel_rfl) (fun _ _ _ h => h) (Or.inl ⟨by kernel_rfl, ?_⟩) (fun _ => hS0) ?_
  rotate_left 1
  · (intro w hSw; (try dsimp only at hSw); go_simp; try with_reducible rfl)
  try simp only [Act.put, Array.toArray_toList, List.setIfInBounds_toArray, List.set_cons_zero, List.set_cons_succ]
  refine anyM_free (i := 5) (oi := { dst := some 13, op := _, type := _, pos := _, after := _, guard := _ }) (v := ?_) rfl (by kernel_rfl) (fun _ _ _ h => h) (Or.inl ⟨by kernel_rfl, ?_⟩) (fun _ => hS0) ?_
  rotate_left 1
  · (intro w hSw; (try dsimp only at hSw); go_simp; try with_reducible rfl)
  try simp only [Act.put, Array.toArray_toList, List.setIfInBounds_toArray, List.set_cons_zero, List.set_cons_succ]
  refine anyM_take (i := 6) (oi := { dst := some 14, op := _, type := _, pos := _, after := _, guard := _ }) (v := ?_) rfl (by kernel_rfl) (fun _ _ _ h => h) (Or.inl ⟨by kernel_rfl, ?_⟩) hS0 ?_
  rotate_left 1
  · (intro w hSw; (try dsimp only at hSw); go_simp; try with_reducible rfl)
  try simp only [Act.put, Array.toArray_toList, List.setIfInBounds_toArray, List.set_cons_zero, List.set_cons_succ]
  refine anyM_take (i := 7) (oi := { dst := some 15, op := _, type := _, pos := _, after := _, guard := _ }) (v := ?_) rfl (by kernel_rfl) (fun _ _ _ h => h) (Or.inl ⟨by kernel_rfl, ?_⟩) hS0 ?_
  rotate_left 1
  · (intro w hSw; (try dsimp only at hSw); go_simp; try with_reducible rfl)
  try simp only [Act.put, Array.toArray_toList, List.setIfInBounds_toArray, List.set_cons_zero, List.set_cons_succ]
  refine anyM_free (i := 8) (oi := { dst := some 16, op := _, type := _, pos := _, after := _, guard := _ }) (v := ?_) rfl (by kernel_rfl) (fun _ _ _ h => h) (Or.inl ⟨by kernel_rfl, ?_⟩) (fun _ => hS0) ?_
  rotate_left 1
  · (intro w hSw; (try dsimp only at hSw); go_simp; try with_reducible rfl)
  try simp only [Act.put, Array.toArray_toList, List.setIfInBounds_toArray, List.set_cons_zero, List.set_cons_succ]
  refine anyM_free (i := 9) (oi := { dst := some 17, op := _, type := _, pos := _, after := _, guard := _ }) (v := ?_) rfl (by kernel_rfl) (fun _ _ _ h => h) (Or.inl ⟨by kernel_rfl, ?_⟩) (fun _ => hS0) ?_
  rotate_left 1
  · (intro w hSw; (try dsimp only at hSw); go_simp; try with_reducible rfl)
  try simp only [Act.put, Array.toArray_toList, List.setIfInBounds_toArray, List.set_cons_zero, List.set_cons_succ]
  refine anyM_take (i := 10) (oi := { dst := some 18, op := _, type := _, pos := _, after := _, guard := _ }) (v := ?_) rfl (by kernel_rfl) (fun _ _ _ h => h) (Or.inl ⟨by kernel_rfl, ?_⟩) hS0 ?_
  rotate_left 1
  · (intro w hSw; (try dsimp only at hSw); go_simp; try with_reducible rfl)
  try simp only [Act.put, Array.toArray_toList, List.setIfInBounds_toArray, List.set_cons_zero, List.set_cons_succ]
  refine anyM_free (i := 11) (oi := { dst := some 19, op := _, type := _, pos := _, after := _, guard := _ }) (v := ?_) rfl (by kernel_rfl) (fun _ _ _ h => h) (Or.inl ⟨by kernel_rfl, ?_⟩) (fun _ => hS0) ?_
  rotate_left 1
  · (intro w hSw; (try dsimp only at hSw); go_simp; try with_reducible rfl)
  try simp only [Act.put, Array.toArray_toList, List.setIfInBounds_toArray, List.set_cons_zero, List.set_cons_succ]
  refine anyM_free (i := 12) (oi := { dst := some 20, op := _, type := _, pos := _, after := _, guard := _ }) (v := ?_) rfl (by kernel_rfl) (fun _ _ _ h => h) (Or.inl ⟨by kernel_rfl, ?_⟩) (fun _ => hS0) ?_
  rotate_left 1
  · (intro w hSw; (try dsimp only at hSw); go_simp; try with_reducible rfl)
  try simp only [Act.put, Array.toArray_toList, List.setIfInBounds_toArray, List.set_cons_zero, List.set_cons_succ]
  refine anyM_take (i := 13) (oi := { dst := some 21, op := _, type := _, pos := _, after := _, guard := _ }) (v := ?_) rfl (by kernel_rfl) (fun _ _ _ h => h) (Or.inl ⟨by kernel_rfl, ?_⟩) hS0 ?_
  rotate_left 1
  · (intro w hSw; (try dsimp only at hSw); go_simp; try with_reducible rfl)
  try simp only [Act.put, Array.toArray_toList, List.setIfInBounds_toArray, List.set_cons_zero, List.set_cons_succ]
  refine anyM_two (i := 14) (j := 15) (by kernel_rfl) rfl rfl (fun K hK => ?_) (fun K hK => ?_)
  · skip
    go_simp
    generalize hwx : World.alloc wd _ = wx14
    have HG14 := Lib.hid (GW.alloc_eq hwx HG.out)
    have HB14 := Lib.hid (blk_neq hwx)
    have HLT := Lib.hid HB14.out.lt
    have HN14 : Hid (W.heap.size ≤ wd.heap.size) := HG.out.size
    have hS0 : (fun w' : World => w'.cell? ⟨gP, 0, none⟩ = some (.pointer (some ⟨gO, 0, none⟩)) ∧ w'.cell? ⟨gO, 0, none⟩ = some (.slice (some ⟨gM, 0, none⟩) L.nf cM) ∧ w'.cell? ⟨gM, a * 3, none⟩ = some (.int .i64 ia) ∧ w'.cell? ⟨gM, a * 3 + 1, none⟩ = some (.int .i64 za) ∧ w'.cell? ⟨gM, a * 3 + 2, none⟩ = some (.int .i64 pa) ∧ w'.cell? ⟨gM, b * 3, none⟩ = some (.int .i64 ib) ∧ w'.cell? ⟨gM, b * 3 + 1, none⟩ = some (.int .i64 zb) ∧ w'.cell? ⟨gM, b * 3 + 2, none⟩ = some (.int .i64 pb)) wx14 := HSS.out _ HG14.out
    clear hwx
    refine hK.out _ _ (fun _ => hS0) ?_
    clear hK K
    try simp only [Act.put, Array.toArray_toList, List.setIfInBounds_toArray, List.set_cons_zero, List.set_cons_succ]
    refine anyM_one (i := 15) (by kernel_rfl) rfl (fun K hK => ?_)
    go_simp
    generalize hwx : World.alloc wx14 _ = wx15
    have HG15 := Lib.hid (GW.alloc_eq hwx HG14.out)
    have HB15 := Lib.hid (blk_neq hwx)
    have HB14 := Lib.hid (blk_aeq hwx HB14.out)
    have HN15 : Hid (W.heap.size ≤ wx14.heap.size) := HG14.out.size
    have hS0 : (fun w' : World => w'.cell? ⟨gP, 0, none⟩ = some (.pointer (some ⟨gO, 0, none⟩)) ∧ w'.cell? ⟨gO, 0, none⟩ = some (.slice (some ⟨gM, 0, none⟩) L.nf cM) ∧ w'.cell? ⟨gM, a * 3, none⟩ = some (.int .i64 ia) ∧ w'.cell? ⟨gM, a * 3 + 1, none⟩ = some (.int .i64 za) ∧ w'.cell? ⟨gM, a * 3 + 2, none⟩ = some (.int .i64 pa) ∧ w'.cell? ⟨gM, b * 3, none⟩ = some (.int .i64 ib) ∧ w'.cell? ⟨gM, b * 3 + 1, none⟩ = some (.int .i64 zb) ∧ w'.cell? ⟨gM, b * 3 + 2, none⟩ = some (.int .i64 pb)) wx15 := HSS.out _ HG15.out
    clear hwx
    refine hK.out _ _ (fun _ => hS0) ?_
    clear hK K
    try simp only [Act.put, Array.toArray_toList, List.setIfInBounds_toArray, List.set_cons_zero, List.set_cons_succ]
    refine anyM_one (i := 16) (by kernel_rfl) rfl (fun K hK => ?_)
    rw [if_pos (by kernel_rfl)]
    refine wp_store_mid _ _ _ rfl wd.heap.size 0 #[.int .i64 ia, .int .i64 za, .int .i64 pa] rfl rfl (HB14.out.there _ (Nat.le_refl _)) (by kernel_rfl) (by simp [Value.oneCell']) ?_
    have HGs := Lib.hid (GW.setCells HG15.out HN14.out #[.int .i64 ia, .int .i64 za, .int .i64 pa].toList 0)
    have HB14 := Lib.hid (HB14.out.setAll #[.int .i64 ia, .int .i64 za, .int .i64 pa] rfl)
    have HB15 := Lib.hid (Blk.farCells (Nat.ne_of_gt HLT.out) #[.int .i64 ia, .int .i64 za, .int .i64 pa].toList 0 _ _ HB15.out)
    generalize World.setCells _ _ _ _ = ws at HGs HB14 HB15 ⊢
    have hS0 : (fun w' : World => w'.cell? ⟨gP, 0, none⟩ = some (.pointer (some ⟨gO, 0, none⟩)) ∧ w'.cell? ⟨gO, 0, none⟩ = some (.slice (some ⟨gM, 0, none⟩) L.nf cM) ∧ w'.cell? ⟨gM, a * 3, none⟩ = some (.int .i64 ia) ∧ w'.cell? ⟨gM, a * 3 + 1, none⟩ = some (.int .i64 za) ∧ w'.cell? ⟨gM, a * 3 + 2, none⟩ = some (.int .i64 pa) ∧ w'.cell? ⟨gM, b * 3, none⟩ = some (.int .i64 ib) ∧ w'.cell? ⟨gM, b * 3 + 1, none⟩ = some (.int .i64 zb) ∧ w'.cell? ⟨gM, b * 3 + 2, none⟩ = some (.int .i64 pb)) ws := HSS.out _ HGs.out
    refine hK.out _ _ (fun _ => hS0) ?_
    clear hK K
    try simp only [Act.put, Array.toArray_toList, List.setIfInBounds_toArray, List.set_cons_zero, List.set_cons_succ]
    refine anyM_one (i := 17) (by kernel_rfl) rfl (fun K hK => ?_)
    rw [if_pos (by kernel_rfl)]
    refine wp_store_mid _ _ _ rfl wx14.heap.size 0 #[.int .i64 ib, .int .i64 zb, .int .i64 pb] rfl rfl (HB15.out.there _ (Nat.le_refl _)) (by kernel_rfl) (by simp [Value.oneCell']) ?_
    have HGt := Lib.hid (GW.setCells HGs.out HN15.out #[.int .i64 ib, .int .i64 zb, .int .i64 pb].toList 0)
    have HB15 := Lib.hid (HB15.out.setAll #[.int .i64 ib, .int .i64 zb, .int .i64 pb] rfl)
    have HB14 := Lib.hid (Blk.farCells (Nat.ne_of_lt HLT.out) #[.int .i64 ib, .int .i64 zb, .int .i64 pb].toList 0 _ _ HB14.out)
    generalize World.setCells _ _ _ _ = wt at HGt HB14 HB15 ⊢
    refine hK.out _ _ (fun h => late_no h (by kernel_rfl)) ?_
    clear hK K
    try simp only [Act.put, Array.toArray_toList, List.setIfInBounds_toArray, List.set_cons_zero, List.set_cons_succ]
    refine anyM_done (by kernel_rfl) ?_ _
    refine NoPanic.normal ?_
    go_wp2_with fail
    have hS0 : (fun w' : World => w'.cell? ⟨wd.heap.size, 1, none⟩ = some (.int .i64 za) ∧ w'.cell? ⟨wd.heap.size, 2, none⟩ = some (.int .i64 pa) ∧ w'.cell? ⟨wx14.heap.size, 1, none⟩ = some (.int .i64 zb) ∧ w'.cell? ⟨wx14.heap.size, 2, none⟩ = some (.int .i64 pb)) (World.drew wt) := ⟨HB14.out.cell 1, HB14.out.cell 2, HB15.out.cell 1, HB15.out.cell 2⟩
    have HGt2 := Lib.hid HGt.out.drew
    have HB14 := Lib.hid HB14.out.drew
    have HB15 := Lib.hid HB15.out.drew
    refine wp_region_noPanic ?_
    refine region_M (S := fun w' => w'.cell? ⟨wd.heap.size, 1, none⟩ = some (.int .i64 za) ∧ w'.cell? ⟨wd.heap.size, 2, none⟩ = some (.int .i64 pa) ∧ w'.cell? ⟨wx14.heap.size, 1, none⟩ = some (.int .i64 zb) ∧ w'.cell? ⟨wx14.heap.size, 2, none⟩ = some (.int .i64 pb)) (T := []) (by kernel_rfl) ?_
    generalize World.drew _ = wt2 at HGt2 HB14 HB15 hS0 ⊢
    refine anyM_free (i := 0) (oi := { dst := some 22, op := _, type := _, pos := _, after := _, guard := _ }) (v := ?_) rfl (by kernel_rfl) (fun _ _ _ h => h) (Or.inl ⟨by kernel_rfl, ?_⟩) (fun _ => hS0) ?_
    rotate_left 1
    · (intro w hSw; (try dsimp only at hSw); go_simp; try with_reducible rfl)
    try simp only [Act.put, Array.toArray_toList, List.setIfInBounds_toArray, List.set_cons_zero, List.set_cons_succ]
    refine anyM_take (i := 1) (oi := { dst := some 23, op := _, type := _, pos := _, after := _, guard := _ }) (v := ?_) rfl (by kernel_rfl) (fun _ _ _ h => h) (Or.inl ⟨by kernel_rfl, ?_⟩) hS0 ?_
    rotate_left 1
    · (intro w hSw; (try dsimp only at hSw); go_simp; try with_reducible rfl)
    try simp only [Act.put, Array.toArray_toList, List.setIfInBounds_toArray, List.set_cons_zero, List.set_cons_succ]
    refine anyM_free (i := 2) (oi := { dst := some 24, op := _, type := _, pos := _, after := _, guard := _ }) (v := ?_) rfl (by kernel_rfl) (fun _ _ _ h => h) (Or.inl ⟨by kernel_rfl, ?_⟩) (fun _ => hS0) ?_
    rotate_left 1
    · (intro w hSw; (try dsimp only at hSw); go_simp; try with_reducible rfl)
    try simp only [Act.put, Array.toArray_toList, List.setIfInBounds_toArray, List.set_cons_zero, List.set_cons_succ]
    refine anyM_take (i := 3) (oi := { dst := some 25, op := _, type := _, pos := _, after := _, guard := _ }) (v := ?_) rfl (by kernel_rfl) (fun _ _ _ h => h) (Or.inl ⟨by kernel_rfl, ?_⟩) hS0 ?_
    rotate_left 1
    · (intro w hSw; (try dsimp only at hSw); go_simp; try with_reducible rfl)
    try simp only [Act.put, Array.toArray_toList, List.setIfInBounds_toArray, List.set_cons_zero, List.set_cons_succ]
    refine anyM_free (i := 5) (oi := { dst := some 27, op := _, type := _, pos := _, after := _, guard := _ }) (v := ?_) rfl (by kernel_rfl) (fun _ _ _ h => h) (Or.inl ⟨by kernel_rfl, ?_⟩) (fun _ => hS0) ?_
    rotate_left 1
    · (intro w hSw; (try dsimp only at hSw); go_simp; try with_reducible rfl)
    try simp only [Act.put, Array.toArray_toList, List.setIfInBounds_toArray, List.set_cons_zero, List.set_cons_succ]
    refine anyM_take (i := 6) (oi := { dst := some 28, op := _, type := _, pos := _, after := _, guard := _ }) (v := ?_) rfl (by kernel_rfl) (fun _ _ _ h => h) (Or.inl ⟨by kernel_rfl, ?_⟩) hS0 ?_
    rotate_left 1
    · (intro w hSw; (try dsimp only at hSw); go_simp; try with_reducible rfl)
    try simp only [Act.put, Array.toArray_toList, List.setIfInBounds_toArray, List.set_cons_zero, List.set_cons_succ]
    refine anyM_free (i := 7) (oi := { dst := some 29, op := _, type := _, pos := _, after := _, guard := _ }) (v := ?_) rfl (by kernel_rfl) (fun _ _ _ h => h) (Or.inl ⟨by kernel_rfl, ?_⟩) (fun _ => hS0) ?_
    rotate_left 1
    · (intro w hSw; (try dsimp only at hSw); go_simp; try with_reducible rfl)
    try simp only [Act.put, Array.toArray_toList, List.setIfInBounds_toArray, List.set_cons_zero, List.set_cons_succ]
    refine anyM_take (i := 8) (oi := { dst := some 30, op := _, type := _, pos := _, after := _, guard := _ }) (v := ?_) rfl (by kernel_rfl) (fun _ _ _ h => h) (Or.inl ⟨by kernel_rfl, ?_⟩) hS0 ?_
    rotate_left 1
    · (intro w hSw; (try dsimp only at hSw); go_simp; try with_reducible rfl)
    try simp only [Act.put, Array.toArray_toList, List.setIfInBounds_toArray, List.set_cons_zero, List.set_cons_succ]
    refine anyM_free (i := 10) (oi := { dst := some 32, op := _, type := _, pos := _, after := _, guard := _ }) (v := ?_) rfl (by kernel_rfl) (fun _ _ _ h => h) (Or.inl ⟨by kernel_rfl, ?_⟩) (fun _ => hS0) ?_
    rotate_left 1
    · (intro w hSw; (try dsimp only at hSw); go_simp; try with_reducible rfl)
    try simp only [Act.put, Array.toArray_toList, List.setIfInBounds_toArray, List.set_cons_zero, List.set_cons_succ]
    refine anyM_free (i := 11) (oi := { dst := some 33, op := _, type := _, pos := _, after := _, guard := _ }) (v := ?_) rfl (by kernel_rfl) (fun _ _ _ h => h) (Or.inl ⟨by kernel_rfl, ?_⟩) (fun _ => hS0) ?_
    rotate_left 1
    · (intro w hSw; (try dsimp only at hSw); go_simp; try with_reducible rfl)
    try simp only [Act.put, Array.toArray_toList, List.setIfInBounds_toArray, List.set_cons_zero, List.set_cons_succ]
    refine anyM_one (i := 4) (by kernel_rfl) rfl (fun K hK => ?_)
    go_simp
    refine (cmpI_calls _ _ _).mono ?_
    rintro e' w' ⟨rfl, rfl⟩
    refine hK.out _ _ (fun _ => hS0) ?_
    clear hK K
    try simp only [Act.put, Array.toArray_toList, List.setIfInBounds_toArray, List.set_cons_zero, List.set_cons_succ]
    refine anyM_one (i := 9) (by kernel_rfl) rfl (fun K hK => ?_)
    go_simp
    refine (cmpI_calls _ _ _).mono ?_
    rintro e' w' ⟨rfl, rfl⟩
    refine hK.out _ _ (fun _ => hS0) ?_
    clear hK K
    try simp only [Act.put, Array.toArray_toList, List.setIfInBounds_toArray, List.set_cons_zero, List.set_cons_succ]
    refine anyM_one (i := 12) (by kernel_rfl) rfl (fun K hK => ?_)
    go_simp
    refine (cmpI_calls _ _ _).mono ?_
    rintro e' w' ⟨rfl, rfl⟩
    refine hK.out _ _ (fun _ => hS0) ?_
    clear hK K
    try simp only [Act.put, Array.toArray_toList, List.setIfInBounds_toArray, List.set_cons_zero, List.set_cons_succ]
    refine anyM_one (i := 13) (by kernel_rfl) rfl (fun K hK => ?_)
    go_simp
    generalize hwx : World.alloc wt2 _ = wy
    have HGy := Lib.hid (GW.alloc_eq hwx HGt2.out)
    have HBy := Lib.hid (blk_neq hwx)
    have HB14 := Lib.hid (blk_aeq hwx HB14.out)
    have HB15 := Lib.hid (blk_aeq hwx HB15.out)
    have hS0 : (fun w' : World => w'.cell? ⟨wd.heap.size, 1, none⟩ = some (.int .i64 za) ∧ w'.cell? ⟨wd.heap.size, 2, none⟩ = some (.int .i64 pa) ∧ w'.cell? ⟨wx14.heap.size, 1, none⟩ = some (.int .i64 zb) ∧ w'.cell? ⟨wx14.heap.size, 2, none⟩ = some (.int .i64 pb)) wy := ⟨HB14.out.cell 1, HB14.out.cell 2, HB15.out.cell 1, HB15.out.cell 2⟩
    clear hwx
    refine hK.out _ _ (fun _ => hS0) ?_
    clear hK K
    try simp only [Act.put, Array.toArray_toList, List.setIfInBounds_toArray, List.set_cons_zero, List.set_cons_succ]
    refine anyM_one (i := 14) (by kernel_rfl) rfl (fun K hK => ?_)
    go_simp
    refine (orI_calls _ _ _ _ _ HBy.out).mono ?_
    rintro e' w' ⟨rfl, rfl⟩
    refine hK.out _ _ (fun _ => hS0) ?_
    clear hK K
    try simp only [Act.put, Array.toArray_toList, List.setIfInBounds_toArray, List.set_cons_zero, List.set_cons_succ]
    refine anyM_free (i := 15) (oi := { dst := some 5, op := _, type := _, pos := _, after := _, guard := _ }) (v := ?_) rfl (by kernel_rfl) (fun _ _ _ h => h) (Or.inl ⟨by kernel_rfl, ?_⟩) (fun _ => hS0) ?_
    rotate_left 1
    · (intro w hSw; (try dsimp only at hSw); go_simp; try with_reducible rfl)
    try simp only [Act.put, Array.toArray_toList, List.setIfInBounds_toArray, List.set_cons_zero, List.set_cons_succ]
    refine anyM_done (by kernel_rfl) ?_ _
    refine NoPanic.normal ?_
    go_wp2_with fail
    go_ret
    exact ⟨rfl, HGy.out⟩
  · skip
    go_simp
    generalize hwx : World.alloc wd _ = wx15
    have HG15 := Lib.hid (GW.alloc_eq hwx HG.out)
    have HB15 := Lib.hid (blk_neq hwx)
    have HLT := Lib.hid HB15.out.lt
    have HN15 : Hid (W.heap.size ≤ wd.heap.size) := HG.out.size
    have hS0 : (fun w' : World => w'.cell? ⟨gP, 0, none⟩ = some (.pointer (some ⟨gO, 0, none⟩)) ∧ w'.cell? ⟨gO, 0, none⟩ = some (.slice (some ⟨gM, 0, none⟩) L.nf cM) ∧ w'.cell? ⟨gM, a * 3, none⟩ = some (.int .i64 ia) ∧ w'.cell? ⟨gM, a * 3 + 1, none⟩ = some (.int .i64 za) ∧ w'.cell? ⟨gM, a * 3 + 2, none⟩ = some (.int .i64 pa) ∧ w'.cell? ⟨gM, b * 3, none⟩ = some (.int .i64 ib) ∧ w'.cell? ⟨gM, b * 3 + 1, none⟩ = some (.int .i64 zb) ∧ w'.cell? ⟨gM, b * 3 + 2, none⟩ = some (.int .i64 pb)) wx15 := HSS.out _ HG15.out
    clear hwx
    refine hK.out _ _ (fun _ => hS0) ?_
    clear hK K
    try simp only [Act.put, Array.toArray_toList, List.setIfInBounds_toArray, List.set_cons_zero, List.set_cons_succ]
    refine anyM_one (i := 14) (by kernel_rfl) rfl (fun K hK => ?_)
    go_simp
    generalize hwx : World.alloc wx15 _ = wx14
    have HG14 := Lib.hid (GW.alloc_eq hwx HG15.out)
    have HB14 := Lib.hid (blk_neq hwx)
    have HB15 := Lib.hid (blk_aeq hwx HB15.out)
    have HN14 : Hid (W.heap.size ≤ wx15.heap.size) := HG15.out.size
    have hS0 : (fun w' : World => w'.cell? ⟨gP, 0, none⟩ = some (.pointer (some ⟨gO, 0, none⟩)) ∧ w'.cell? ⟨gO, 0, none⟩ = some (.slice (some ⟨gM, 0, none⟩) L.nf cM) ∧ w'.cell? ⟨gM, a * 3, none⟩ = some (.int .i64 ia) ∧ w'.cell? ⟨gM, a * 3 + 1, none⟩ = some (.int .i64 za) ∧ w'.cell? ⟨gM, a * 3 + 2, none⟩ = some (.int .i64 pa) ∧ w'.cell? ⟨gM, b * 3, none⟩ = some (.int .i64 ib) ∧ w'.cell? ⟨gM, b * 3 + 1, none⟩ = some (.int .i64 zb) ∧ w'.cell? ⟨gM, b * 3 + 2, none⟩ = some (.int .i64 pb)) wx14 := HSS.out _ HG14.out
    clear hwx
    refine hK.out _ _ (fun _ => hS0) ?_
    clear hK K
    try simp only [Act.put, Array.toArray_toList, List.setIfInBounds_toArray, List.set_cons_zero, List.set_cons_succ]
    refine anyM_one (i := 16) (by kernel_rfl) rfl (fun K hK => ?_)
    rw [if_pos (by kernel_rfl)]
    refine wp_store_mid _ _ _ rfl wx15.heap.size 0 #[.int .i64 ia, .int .i64 za, .int .i64 pa] rfl rfl (HB14.out.there _ (Nat.le_refl _)) (by kernel_rfl) (by simp [Value.oneCell']) ?_
    have HGs := Lib.hid (GW.setCells HG14.out HN14.out #[.int .i64 ia, .int .i64 za, .int .i64 pa].toList 0)
    have HB14 := Lib.hid (HB14.out.setAll #[.int .i64 ia, .int .i64 za, .int .i64 pa] rfl)
    have HB15 := Lib.hid (Blk.farCells (Nat.ne_of_lt HLT.out) #[.int .i64 ia, .int .i64 za, .int .i64 pa].toList 0 _ _ HB15.out)
    generalize World.setCells _ _ _ _ = ws at HGs HB14 HB15 ⊢
    have hS0 : (fun w' : World => w'.cell? ⟨gP, 0, none⟩ = some (.pointer (some ⟨gO, 0, none⟩)) ∧ w'.cell? ⟨gO, 0, none⟩ = some (.slice (some ⟨gM, 0, none⟩) L.nf cM) ∧ w'.cell? ⟨gM, a * 3, none⟩ = some (.int .i64 ia) ∧ w'.cell? ⟨gM, a * 3 + 1, none⟩ = some (.int .i64 za) ∧ w'.cell? ⟨gM, a * 3 + 2, none⟩ = some (.int .i64 pa) ∧ w'.cell? ⟨gM, b * 3, none⟩ = some (.int .i64 ib) ∧ w'.cell? ⟨gM, b * 3 + 1, none⟩ = some (.int .i64 zb) ∧ w'.cell? ⟨gM, b * 3 + 2, none⟩ = some (.int .i64 pb)) ws := HSS.out _ HGs.out
    refine hK.out _ _ (fun _ => hS0) ?_
    clear hK K
    try simp only [Act.put, Array.toArray_toList, List.setIfInBounds_toArray, List.set_cons_zero, List.set_cons_succ]
    refine anyM_one (i := 17) (by kernel_rfl) rfl (fun K hK => ?_)
    rw [if_pos (by kernel_rfl)]
    refine wp_store_mid _ _ _ rfl wd.heap.size 0 #[.int .i64 ib, .int .i64 zb, .int .i64 pb] rfl rfl (HB15.out.there _ (Nat.le_refl _)) (by kernel_rfl) (by simp [Value.oneCell']) ?_
    have HGt := Lib.hid (GW.setCells HGs.out HN15.out #[.int .i64 ib, .int .i64 zb, .int .i64 pb].toList 0)
    have HB15 := Lib.hid (HB15.out.setAll #[.int .i64 ib, .int .i64 zb, .int .i64 pb] rfl)
    have HB14 := Lib.hid (Blk.farCells (Nat.ne_of_gt HLT.out) #[.int .i64 ib, .int .i64 zb, .int .i64 pb].toList 0 _ _ HB14.out)
    generalize World.setCells _ _ _ _ = wt at HGt HB14 HB15 ⊢
    refine hK.out _ _ (fun h => late_no h (by kernel_rfl)) ?_
    clear hK K
    try simp only [Act.put, Array.toArray_toList, List.setIfInBounds_toArray, List.set_cons_zero, List.set_cons_succ]
    refine anyM_done (by kernel_rfl) ?_ _
    refine NoPanic.normal ?_
    go_wp2_with fail
    have hS0 : (fun w' : World => w'.cell? ⟨wx15.heap.size, 1, none⟩ = some (.int .i64 za) ∧ w'.cell? ⟨wx15.heap.size, 2, none⟩ = some (.int .i64 pa) ∧ w'.cell? ⟨wd.heap.size, 1, none⟩ = some (.int .i64 zb) ∧ w'.cell? ⟨wd.heap.size, 2, none⟩ = some (.int .i64 pb)) (World.drew wt) := ⟨HB14.out.cell 1, HB14.out.cell 2, HB15.out.cell 1, HB15.out.cell 2⟩
    have HGt2 := Lib.hid HGt.out.drew
    have HB14 := Lib.hid HB14.out.drew
    have HB15 := Lib.hid HB15.out.drew
    refine wp_region_noPanic ?_
    refine region_M (S := fun w' => w'.cell? ⟨wx15.heap.size, 1, none⟩ = some (.int .i64 za) ∧ w'.cell? ⟨wx15.heap.size, 2, none⟩ = some (.int .i64 pa) ∧ w'.cell? ⟨wd.heap.size, 1, none⟩ = some (.int .i64 zb) ∧ w'.cell? ⟨wd.heap.size, 2, none⟩ = some (.int .i64 pb)) (T := []) (by kernel_rfl) ?_
    generalize World.drew _ = wt2 at HGt2 HB14 HB15 hS0 ⊢
    refine anyM_free (i := 0) (oi := { dst := some 22, op := _, type := _, pos := _, after := _, guard := _ }) (v := ?_) rfl (by kernel_rfl) (fun _ _ _ h => h) (Or.inl ⟨by kernel_rfl, ?_⟩) (fun _ => hS0) ?_
    rotate_left 1
    · (intro w hSw; (try dsimp only at hSw); go_simp; try with_reducible rfl)
    try simp only [Act.put, Array.toArray_toList, List.setIfInBounds_toArray, List.set_cons_zero, List.set_cons_succ]
    refine anyM_take (i := 1) (oi := { dst := some 23, op := _, type := _, pos := _, after := _, guard := _ }) (v := ?_) rfl (by kernel_rfl) (fun _ _ _ h => h) (Or.inl ⟨by kernel_rfl, ?_⟩) hS0 ?_
    rotate_left 1
    · (intro w hSw; (try dsimp only at hSw); go_simp; try with_reducible rfl)
    try simp only [Act.put, Array.toArray_toList, List.setIfInBounds_toArray, List.set_cons_zero, List.set_cons_succ]
    refine anyM_free (i := 2) (oi := { dst := some 24, op := _, type := _, pos := _, after := _, guard := _ }) (v := ?_) rfl (by kernel_rfl) (fun _ _ _ h => h) (Or.inl ⟨by kernel_rfl, ?_⟩) (fun _ => hS0) ?_
    rotate_left 1
    · (intro w hSw; (try dsimp only at hSw); go_simp; try with_reducible rfl)
    try simp only [Act.put, Array.toArray_toList, List.setIfInBounds_toArray, List.set_cons_zero, List.set_cons_succ]
    refine anyM_take (i := 3) (oi := { dst := some 25, op := _, type := _, pos := _, after := _, guard := _ }) (v := ?_) rfl (by kernel_rfl) (fun _ _ _ h => h) (Or.inl ⟨by kernel_rfl, ?_⟩) hS0 ?_
    rotate_left 1
    · (intro w hSw; (try dsimp only at hSw); go_simp; try with_reducible rfl)
    try simp only [Act.put, Array.toArray_toList, List.setIfInBounds_toArray, List.set_cons_zero, List.set_cons_succ]
    refine anyM_free (i := 5) (oi := { dst := some 27, op := _, type := _, pos := _, after := _, guard := _ }) (v := ?_) rfl (by kernel_rfl) (fun _ _ _ h => h) (Or.inl ⟨by kernel_rfl, ?_⟩) (fun _ => hS0) ?_
    rotate_left 1
    · (intro w hSw; (try dsimp only at hSw); go_simp; try with_reducible rfl)
    try simp only [Act.put, Array.toArray_toList, List.setIfInBounds_toArray, List.set_cons_zero, List.set_cons_succ]
    refine anyM_take (i := 6) (oi := { dst := some 28, op := _, type := _, pos := _, after := _, guard := _ }) (v := ?_) rfl (by kernel_rfl) (fun _ _ _ h => h) (Or.inl ⟨by kernel_rfl, ?_⟩) hS0 ?_
    rotate_left 1
    · (intro w hSw; (try dsimp only at hSw); go_simp; try with_reducible rfl)
    try simp only [Act.put, Array.toArray_toList, List.setIfInBounds_toArray, List.set_cons_zero, List.set_cons_succ]
    refine anyM_free (i := 7) (oi := { dst := some 29, op := _, type := _, pos := _, after := _, guard := _ }) (v := ?_) rfl (by kernel_rfl) (fun _ _ _ h => h) (Or.inl ⟨by kernel_rfl, ?_⟩) (fun _ => hS0) ?_
    rotate_left 1
    · (intro w hSw; (try dsimp only at hSw); go_simp; try with_reducible rfl)
    try simp only [Act.put, Array.toArray_toList, List.setIfInBounds_toArray, List.set_cons_zero, List.set_cons_succ]
    refine anyM_take (i := 8) (oi := { dst := some 30, op := _, type := _, pos := _, after := _, guard := _ }) (v := ?_) rfl (by kernel_rfl) (fun _ _ _ h => h) (Or.inl ⟨by kernel_rfl, ?_⟩) hS0 ?_
    rotate_left 1
    · (intro w hSw; (try dsimp only at hSw); go_simp; try with_reducible rfl)
    try simp only [Act.put, Array.toArray_toList, List.setIfInBounds_toArray, List.set_cons_zero, List.set_cons_succ]
    refine anyM_free (i := 10) (oi := { dst := some 32, op := _, type := _, pos := _, after := _, guard := _ }) (v := ?_) rfl (by kernel_rfl) (fun _ _ _ h => h) (Or.inl ⟨by kernel_rfl, ?_⟩) (fun _ => hS0) ?_
    rotate_left 1
    · (intro w hSw; (try dsimp only at hSw); go_simp; try with_reducible rfl)
    try simp only [Act.put, Array.toArray_toList, List.setIfInBounds_toArray, List.set_cons_zero, List.set_cons_succ]
    refine anyM_free (i := 11) (oi := { dst := some 33, op := _, type := _, pos := _, after := _, guard := _ }) (v := ?_) rfl (by kernel_rfl) (fun _ _ _ h => h) (Or.inl ⟨by kernel_rfl, ?_⟩) (fun _ => hS0) ?_
    rotate_left 1
    · (intro w hSw; (try dsimp only at hSw); go_simp; try with_reducible rfl)
    try simp only [Act.put, Array.toArray_toList, List.setIfInBounds_toArray, List.set_cons_zero, List.set_cons_succ]
    refine anyM_one (i := 4) (by kernel_rfl) rfl (fun K hK => ?_)
    go_simp
    refine (cmpI_calls _ _ _).mono ?_
    rintro e' w' ⟨rfl, rfl⟩
    refine hK.out _ _ (fun _ => hS0) ?_
    clear hK K
    try simp only [Act.put, Array.toArray_toList, List.setIfInBounds_toArray, List.set_cons_zero, List.set_cons_succ]
    refine anyM_one (i := 9) (by kernel_rfl) rfl (fun K hK => ?_)
    go_simp
    refine (cmpI_calls _ _ _).mono ?_
    rintro e' w' ⟨rfl, rfl⟩
    refine hK.out _ _ (fun _ => hS0) ?_
    clear hK K
    try simp only [Act.put, Array.toArray_toList, List.setIfInBounds_toArray, List.set_cons_zero, List.set_cons_succ]
    refine anyM_one (i := 12) (by kernel_rfl) rfl (fun K hK => ?_)
    go_simp
    refine (cmpI_calls _ _ _).mono ?_
    rintro e' w' ⟨rfl, rfl⟩
    refine hK.out _ _ (fun _ => hS0) ?_
    clear hK K
    try simp only [Act.put, Array.toArray_toList, List.setIfInBounds_toArray, List.set_cons_zero, List.set_cons_succ]
    refine anyM_one (i := 13) (by kernel_rfl) rfl (fun K hK => ?_)
    go_simp
    generalize hwx : World.alloc wt2 _ = wy
    have HGy := Lib.hid (GW.alloc_eq hwx HGt2.out)
    have HBy := Lib.hid (blk_neq hwx)
    have HB14 := Lib.hid (blk_aeq hwx HB14.out)
    have HB15 := Lib.hid (blk_aeq hwx HB15.out)
    have hS0 : (fun w' : World => w'.cell? ⟨wx15.heap.size, 1, none⟩ = some (.int .i64 za) ∧ w'.cell? ⟨wx15.heap.size, 2, none⟩ = some (.int .i64 pa) ∧ w'.cell? ⟨wd.heap.size, 1, none⟩ = some (.int .i64 zb) ∧ w'.cell? ⟨wd.heap.size, 2, none⟩ = some (.int .i64 pb)) wy := ⟨HB14.out.cell 1, HB14.out.cell 2, HB15.out.cell 1, HB15.out.cell 2⟩
    clear hwx
    refine hK.out _ _ (fun _ => hS0) ?_
    clear hK K
    try simp only [Act.put, Array.toArray_toList, List.setIfInBounds_toArray, List.set_cons_zero, List.set_cons_succ]
    refine anyM_one (i := 14) (by kernel_rfl) rfl (fun K hK => ?_)
    go_simp
    refine (orI_calls _ _ _ _ _ HBy.out).mono ?_
    rintro e' w' ⟨rfl, rfl⟩
    refine hK.out _ _ (fun _ => hS0) ?_
    clear hK K
    try simp only [Act.put, Array.toArray_toList, List.setIfInBounds_toArray, List.set_cons_zero, List.set_cons_succ]
    refine anyM_free (i := 15) (oi := { dst := some 5, op := _, type := _, pos := _, after := _, guard := _ }) (v := ?_) rfl (by kernel_rfl) (fun _ _ _ h => h) (Or.inl ⟨by kernel_rfl, ?_⟩) (fun _ => hS0) ?_
    rotate_left 1
    · (intro w hSw; (try dsimp only at hSw); go_simp; try with_reducible rfl)
    try simp only [Act.put, Array.toArray_toList, List.setIfInBounds_toArray, List.set_cons_zero, List.set_cons_succ]
    refine anyM_done (by kernel_rfl) ?_ _
    refine NoPanic.normal ?_
    go_wp2_with fail
    go_ret
    exact ⟨rfl, HGy.out⟩
end Go.Proofs.YtkmmlcnoeeaekaaGreatDoor
