/- Contracts for the closed fact lined: the item's parts. -/
import Derived.Test.YtabbpdlnlibngaaLinG
import Derived.Test.YtabbpdlnlibngaaPieces
namespace Go.Proofs.Ytabbpdlnlibngaa
open Go.RowKit Go.Sort
set_option linter.unusedVariables false
set_option linter.unusedSimpArgs false
attribute [local go_sem high] run_min2 run_max2

theorem step_append_lies {P : Program} {w : World} {ops : Array Oper} {o : Oper} {a : Act} {K : Act → World → Prop} {Q : Exit → Act → World → Prop} {E : Prop} (hgd : o.guard = none) (s x : Operand) (t : TypeId)
    (ho : o.op = .call { callee := .builtin .append, args := #[s, x], argTypes := #[t, t] })
    (base : Nat) (e : TypeId) (i : TypeInfo) (z : Value) (size bytes : Nat) (ht : P.underlying t = some (.slice e)) (hi : P.info? e = some i) (hz : i.zero = some z)
    (hsize : i.size = size) (hby : i.bytes = bytes) (hzs : z.cells.size = size) (hsz : 0 < size)
    (v : Value) (n : Nat) (xs : List Value) (hs : a.eval s = v) (hown : w.ownsRow base e size v n xs)
    (ad : Addr) (m c : Nat) (news : List Value) (hx : a.eval x = .slice (some ad) m c) (hl : news.length = m * size) (hnews : ∀ j u, news[j]? = some u → w.cell? (ad.add j) = some u) (h1 : ∀ u ∈ news, u.oneCell' = true)
    (hm : 0 < m) (h63 : n + m ≤ maxLen) (hbytes : (n + m) * bytes ≤ 140737488355328) (hbase : base ≤ w.heap.size) (H : Nat) (hH : w.heap.size = H)
    (h : ∀ g cap w', w'.ownsRow base e size (.slice (some ⟨g, 0, none⟩) (n + m) cap) (n + m) (xs ++ news) → w.grownBy w' v.ownBlock → (v.ownBlock = some g ∨ g = H) → g < w'.heap.size → K (a.put o.dst (.slice (some ⟨g, 0, none⟩) (n + m) cap)) w') :
    if Region.wanted o (yielded ops a.tmps) = true then Oper.wp P o a w K Q else E := by
  have hw : Region.wanted o (yielded ops a.tmps) = true := by simp [Region.wanted, hgd]
  rw [if_pos hw]
  exact wp_append_lies w s x t ho base e i z size bytes ht hi hz hsize hby hzs hsz v n xs hs hown ad m c news hx hl hnews h1 hm h63 hbytes hbase H hH fun g cap w' h2 h3 h4 h5 => h g cap w' h2 h3 h4 h5
theorem own_grown2 {w w' : World} {base size n : Nat} {e : TypeId} {v : Value} {xs : List Value} {row : Option Nat} (h : w.ownsRow base e size v n xs) (hg : w.grownBy w' row) (hne : ∀ g, v.ownBlock = some g → row ≠ some g) : w'.ownsRow base e size v n xs :=
  own_heap h fun g hgb => hg.block g (h.lt g hgb).2 (fun e => hne g hgb e.symm)
theorem own_blk {w : World} {base g cap n size : Nat} {e : TypeId} {xs : List Value} (h : w.ownsRow base e size (.slice (some ⟨g, 0, none⟩) n cap) n xs) : ∃ cur, True ∧ Blk w g e cur := by
  rcases h.2 with ⟨h1, _⟩ | ⟨g', cap', cur, hv, h1, h2, h3, h4, h5, h6⟩
  · cases h1
  · injection hv with hv1 hv2 hv3
    injection hv1 with hv1
    injection hv1 with hv1
    subst hv1
    exact ⟨cur, trivial, h2⟩
theorem pc_len : (pieces 0 ⟨#[97, 97, 32, 97, 97]⟩).length = 2 := by decide +kernel
theorem pc_two : pstr ⟨#[97, 97, 32, 97, 97]⟩ (pieces 0 ⟨#[97, 97, 32, 97, 97]⟩) = [.string tAAB, .string tAA] := by
  have h : pieces 0 ⟨#[97, 97, 32, 97, 97]⟩ = [(0, 3), (3, 5)] := by decide +kernel
  rw [h]
  rfl
set_option maxRecDepth 100000 in
set_option maxHeartbeats 8000000 in
theorem parts_calls (gL cL : Nat) (w : World) (hI : Blk w gL 28 itemC) :
    Calls Try.prog 16 #[.slice (some ⟨gL, 0, none⟩) 1 cL] w fun e w' => ∃ g c, e = .returned (.slice (some ⟨g, 0, none⟩) 2 c) ∧ w'.ownsRow w.heap.size 54 5 (.slice (some ⟨g, 0, none⟩) 2 c) 2 ((#[.pointer (some ⟨gL, 0, none⟩), .int .i64 0, .string tAAB, .int .i64 80, .bool false] : Array Value).toList ++ (#[.pointer (some ⟨gL, 0, none⟩), .int .i64 0, .string tAA, .int .i64 64, .bool true] : Array Value).toList) ∧ Below w.heap.size w w' := by
  obtain ⟨i1, hib, hzb0, hzb1, hzb2⟩ := info_parts info_prt
  have mixed : Try.prog.follows .mixedOrders = true := by kernel_rfl
  have HPC : Hid (∀ X, Calls Try.prog 27 #[.string ⟨#[97, 97, 32, 97, 97]⟩, .int .i64 0] X fun e w' => ∃ v, e = .returned v ∧ w'.ownsRow X.heap.size 9 1 v 2 [.string tAAB, .string tAA] ∧ Below X.heap.size X w') := fun X => by
    refine (pieces_calls ⟨#[97, 97, 32, 97, 97]⟩ 0 X (by decide)).mono ?_
    rintro e w' ⟨v, rfl, ho, hb⟩
    rw [pc_two, pc_len] at ho
    exact ⟨v, rfl, ho, hb⟩
  have HW0 : Hid (∀ W, Calls Try.prog 28 #[.string tAAB, .int .i64 64, .int .i64 0] W fun e w' => e = .returned (.int .i64 80) ∧ Below W.heap.size W w') := fun W => (fwidth_calls tAAB ok_AAB W).mono (by
    rintro e w' ⟨h1, h2⟩
    rw [acc_AAB] at h1
    exact ⟨h1, by rw [h2]; exact below_alloc (Below.refl _ _) _⟩)
  have HW1 : Hid (∀ W, Calls Try.prog 28 #[.string tAA, .int .i64 64, .int .i64 0] W fun e w' => e = .returned (.int .i64 64) ∧ Below W.heap.size W w') := fun W => (fwidth_calls tAA ok_AA W).mono (by
    rintro e w' ⟨h1, h2⟩
    rw [acc_AA] at h1
    exact ⟨h1, by rw [h2]; exact below_alloc (Below.refl _ _) _⟩)
  have k0 : w.cell? ⟨gL, 0, none⟩ = some (.int .i64 1) := hI.cell 0
  have hw1 : IntKind.i64.wrap 1 = 1 := by decide
  have hq0 : ((0 : Int) == 1) = false := by decide
  have hq1 : ((1 : Int) == 1) = true := by decide
  have HI := Lib.hid hI.drew
  have HBW := Lib.hid (show Below w.heap.size w w.drew from below_drewN (Below.refl _ _) 1)
  have hS0 : (fun w' : World => w'.cell? ⟨gL, 2, none⟩ = some (.string ⟨#[97, 97, 32, 97, 97]⟩) ∧ w'.cell? ⟨gL, 6, none⟩ = some (.int .i64 0)) w.drew := ⟨HI.out.cell 2, HI.out.cell 6⟩
  clear hI
  go_enter Try.func16, Try.ntmps16
  go_wp2_with fail
  refine wp_loop_rounds 2 ?_
  rw [rounds_succ]
  go_upto_region 9 with fail
  clear k0
  refine wp_region_noPanic ?_
  refine region_M (S := fun w' => w'.cell? ⟨gL, 2, none⟩ = some (.string ⟨#[97, 97, 32, 97, 97]⟩) ∧ w'.cell? ⟨gL, 6, none⟩ = some (.int .i64 0)) (T := []) (by kernel_rfl) ?_
  generalize World.drew w = wd at HI HBW hS0 ⊢
  refine anyM_free (i := 0) (oi := { dst := some 34, op := _, type := _, pos := _, after := _, guard := _ }) (v := ?_) rfl (by kernel_rfl) (fun _ _ _ h => h) (Or.inl ⟨by kernel_rfl, ?_⟩) (fun _ => hS0) ?_
  rotate_left 1
  · (intro w hSw; (try dsimp only at hSw); go_simp; try with_reducible rfl)
  try simp only [Act.put, Array.toArray_toList, List.setIfInBounds_toArray, List.set_cons_zero, List.set_cons_succ]
  refine anyM_free (i := 1) (oi := { dst := some 35, op := _, type := _, pos := _, after := _, guard := _ }) (v := ?_) rfl (by kernel_rfl) (fun _ _ _ h => h) (Or.inl ⟨by kernel_rfl, ?_⟩) (fun _ => hS0) ?_
  rotate_left 1
  · (intro w hSw; (try dsimp only at hSw); go_simp; try with_reducible rfl)
  try simp only [Act.put, Array.toArray_toList, List.setIfInBounds_toArray, List.set_cons_zero, List.set_cons_succ]
  refine anyM_free (i := 2) (oi := { dst := some 36, op := _, type := _, pos := _, after := _, guard := _ }) (v := ?_) rfl (by kernel_rfl) (fun _ _ _ h => h) (Or.inl ⟨by kernel_rfl, ?_⟩) (fun _ => hS0) ?_
  rotate_left 1
  · (intro w hSw; (try dsimp only at hSw); go_simp; try with_reducible rfl)
  try simp only [Act.put, Array.toArray_toList, List.setIfInBounds_toArray, List.set_cons_zero, List.set_cons_succ]
  refine anyM_take (i := 3) (oi := { dst := some 37, op := _, type := _, pos := _, after := _, guard := _ }) (v := ?_) rfl (by kernel_rfl) (fun _ _ _ h => h) (Or.inl ⟨by kernel_rfl, ?_⟩) hS0 ?_
  rotate_left 1
  · (intro w hSw; (try dsimp only at hSw); go_simp; try with_reducible rfl)
  try simp only [Act.put, Array.toArray_toList, List.setIfInBounds_toArray, List.set_cons_zero, List.set_cons_succ]
  refine anyM_free (i := 4) (oi := { dst := some 38, op := _, type := _, pos := _, after := _, guard := _ }) (v := ?_) rfl (by kernel_rfl) (fun _ _ _ h => h) (Or.inl ⟨by kernel_rfl, ?_⟩) (fun _ => hS0) ?_
  rotate_left 1
  · (intro w hSw; (try dsimp only at hSw); go_simp; try with_reducible rfl)
  try simp only [Act.put, Array.toArray_toList, List.setIfInBounds_toArray, List.set_cons_zero, List.set_cons_succ]
  refine anyM_free (i := 5) (oi := { dst := some 39, op := _, type := _, pos := _, after := _, guard := _ }) (v := ?_) rfl (by kernel_rfl) (fun _ _ _ h => h) (Or.inl ⟨by kernel_rfl, ?_⟩) (fun _ => hS0) ?_
  rotate_left 1
  · (intro w hSw; (try dsimp only at hSw); go_simp; try with_reducible rfl)
  try simp only [Act.put, Array.toArray_toList, List.setIfInBounds_toArray, List.set_cons_zero, List.set_cons_succ]
  refine anyM_free (i := 6) (oi := { dst := some 40, op := _, type := _, pos := _, after := _, guard := _ }) (v := ?_) rfl (by kernel_rfl) (fun _ _ _ h => h) (Or.inl ⟨by kernel_rfl, ?_⟩) (fun _ => hS0) ?_
  rotate_left 1
  · (intro w hSw; (try dsimp only at hSw); go_simp; try with_reducible rfl)
  try simp only [Act.put, Array.toArray_toList, List.setIfInBounds_toArray, List.set_cons_zero, List.set_cons_succ]
  refine anyM_take (i := 7) (oi := { dst := some 41, op := _, type := _, pos := _, after := _, guard := _ }) (v := ?_) rfl (by kernel_rfl) (fun _ _ _ h => h) (Or.inl ⟨by kernel_rfl, ?_⟩) hS0 ?_
  rotate_left 1
  · (intro w hSw; (try dsimp only at hSw); go_simp; try with_reducible rfl)
  try simp only [Act.put, Array.toArray_toList, List.setIfInBounds_toArray, List.set_cons_zero, List.set_cons_succ]
  refine anyM_one (i := 8) (by kernel_rfl) rfl (fun K hK => ?_)
  go_simp
  refine (HPC.out _).mono ?_
  rintro e wp ⟨v, rfl, ho, hbp⟩
  obtain ⟨gP, cP, rfl, hgP, hgl⟩ := own_some ho (by omega)
  have HOP := Lib.hid ho
  have HI := Lib.hid (HI.out.below hbp HI.out.lt)
  have HBW := Lib.hid (below_then HBW.out hbp)
  have hS0 : (fun w' : World => w'.cell? ⟨gL, 2, none⟩ = some (.string ⟨#[97, 97, 32, 97, 97]⟩) ∧ w'.cell? ⟨gL, 6, none⟩ = some (.int .i64 0)) wp := ⟨HI.out.cell 2, HI.out.cell 6⟩
  clear ho hbp
  refine hK.out _ _ (fun _ => hS0) ?_
  clear hK K
  try simp only [Act.put, Array.toArray_toList, List.setIfInBounds_toArray, List.set_cons_zero, List.set_cons_succ]
  refine anyM_free (i := 9) (oi := { dst := some 6, op := _, type := _, pos := _, after := _, guard := _ }) (v := ?_) rfl (by kernel_rfl) (fun _ _ _ h => h) (Or.inl ⟨by kernel_rfl, ?_⟩) (fun _ => hS0) ?_
  rotate_left 1
  · (intro w hSw; (try dsimp only at hSw); go_simp; try with_reducible rfl)
  try simp only [Act.put, Array.toArray_toList, List.setIfInBounds_toArray, List.set_cons_zero, List.set_cons_succ]
  refine anyM_done (by kernel_rfl) ?_ _
  refine NoPanic.normal ?_
  clear hS0
  have hcell : ∀ X : World, X.ownsRow wd.heap.size 9 1 (.slice (some ⟨gP, 0, none⟩) 2 cP) 2 [.string tAAB, .string tAA] → X.cell? ⟨gP, 0, none⟩ = some (.string tAAB) ∧ X.cell? ⟨gP, 1, none⟩ = some (.string tAA) := fun X hX => by
    obtain ⟨b, off, e, _, hc⟩ := (Holds.of_own hX) (by simp)
    injection e with e
    injection e with e1 e2
    subst e1; subst e2
    exact ⟨by have := hc 0 (by simp); simpa using this, by have := hc 1 (by simp); simpa using this⟩
  have HCE := Lib.hid hcell
  clear hcell
  go_wp2_with fail
  refine wp_loop_rounds 3 ?_
  rw [rounds_succ]
  have p0 := (HCE.out _ HOP.out).1
  go_upto_region 13 with fail
  have HI := Lib.hid HI.out.drew
  have HOP := Lib.hid (show World.ownsRow (World.drew wp) _ _ _ _ _ _ from HOP.out)
  have HBW := Lib.hid (show Below w.heap.size w wp.drew from HBW.out.drew)
  have hS0 : (fun w' : World => w'.cell? ⟨gL, 3, none⟩ = some (.int .i64 64) ∧ w'.cell? ⟨gL, 4, none⟩ = some (.int .i64 0)) wp.drew := ⟨HI.out.cell 3, HI.out.cell 4⟩
  clear p0
  refine wp_region_noPanic ?_
  refine region_M (S := fun w' => w'.cell? ⟨gL, 3, none⟩ = some (.int .i64 64) ∧ w'.cell? ⟨gL, 4, none⟩ = some (.int .i64 0)) (T := []) (by kernel_rfl) ?_
  generalize World.drew wp = wd at HI HOP HBW hS0 ⊢
  refine anyM_free (i := 0) (oi := { dst := some 50, op := _, type := _, pos := _, after := _, guard := _ }) (v := ?_) rfl (by kernel_rfl) (fun _ _ _ h => h) (Or.inl ⟨by kernel_rfl, ?_⟩) (fun _ => hS0) ?_
  rotate_left 1
  · (intro w hSw; (try dsimp only at hSw); go_simp; try with_reducible rfl)
  try simp only [Act.put, Array.toArray_toList, List.setIfInBounds_toArray, List.set_cons_zero, List.set_cons_succ]
  refine anyM_free (i := 1) (oi := { dst := some 51, op := _, type := _, pos := _, after := _, guard := _ }) (v := ?_) rfl (by kernel_rfl) (fun _ _ _ h => h) (Or.inl ⟨by kernel_rfl, ?_⟩) (fun _ => hS0) ?_
  rotate_left 1
  · (intro w hSw; (try dsimp only at hSw); go_simp; try with_reducible rfl)
  try simp only [Act.put, Array.toArray_toList, List.setIfInBounds_toArray, List.set_cons_zero, List.set_cons_succ]
  refine anyM_free (i := 2) (oi := { dst := some 52, op := _, type := _, pos := _, after := _, guard := _ }) (v := ?_) rfl (by kernel_rfl) (fun _ _ _ h => h) (Or.inl ⟨by kernel_rfl, ?_⟩) (fun _ => hS0) ?_
  rotate_left 1
  · (intro w hSw; (try dsimp only at hSw); go_simp; try with_reducible rfl)
  try simp only [Act.put, Array.toArray_toList, List.setIfInBounds_toArray, List.set_cons_zero, List.set_cons_succ]
  refine anyM_free (i := 3) (oi := { dst := some 53, op := _, type := _, pos := _, after := _, guard := _ }) (v := ?_) rfl (by kernel_rfl) (fun _ _ _ h => h) (Or.inl ⟨by kernel_rfl, ?_⟩) (fun _ => hS0) ?_
  rotate_left 1
  · (intro w hSw; (try dsimp only at hSw); go_simp; try with_reducible rfl)
  try simp only [Act.put, Array.toArray_toList, List.setIfInBounds_toArray, List.set_cons_zero, List.set_cons_succ]
  refine anyM_free (i := 4) (oi := { dst := some 54, op := _, type := _, pos := _, after := _, guard := _ }) (v := ?_) rfl (by kernel_rfl) (fun _ _ _ h => h) (Or.inl ⟨by kernel_rfl, ?_⟩) (fun _ => hS0) ?_
  rotate_left 1
  · (intro w hSw; (try dsimp only at hSw); go_simp; try with_reducible rfl)
  try simp only [Act.put, Array.toArray_toList, List.setIfInBounds_toArray, List.set_cons_zero, List.set_cons_succ]
  refine anyM_free (i := 5) (oi := { dst := some 55, op := _, type := _, pos := _, after := _, guard := _ }) (v := ?_) rfl (by kernel_rfl) (fun _ _ _ h => h) (Or.inl ⟨by kernel_rfl, ?_⟩) (fun _ => hS0) ?_
  rotate_left 1
  · (intro w hSw; (try dsimp only at hSw); go_simp; try with_reducible rfl)
  try simp only [Act.put, Array.toArray_toList, List.setIfInBounds_toArray, List.set_cons_zero, List.set_cons_succ]
  refine anyM_free (i := 6) (oi := { dst := some 56, op := _, type := _, pos := _, after := _, guard := _ }) (v := ?_) rfl (by kernel_rfl) (fun _ _ _ h => h) (Or.inl ⟨by kernel_rfl, ?_⟩) (fun _ => hS0) ?_
  rotate_left 1
  · (intro w hSw; (try dsimp only at hSw); go_simp; try with_reducible rfl)
  try simp only [Act.put, Array.toArray_toList, List.setIfInBounds_toArray, List.set_cons_zero, List.set_cons_succ]
  refine anyM_free (i := 7) (oi := { dst := some 57, op := _, type := _, pos := _, after := _, guard := _ }) (v := ?_) rfl (by kernel_rfl) (fun _ _ _ h => h) (Or.inl ⟨by kernel_rfl, ?_⟩) (fun _ => hS0) ?_
  rotate_left 1
  · (intro w hSw; (try dsimp only at hSw); go_simp; try with_reducible rfl)
  try simp only [Act.put, Array.toArray_toList, List.setIfInBounds_toArray, List.set_cons_zero, List.set_cons_succ]
  refine anyM_take (i := 8) (oi := { dst := some 58, op := _, type := _, pos := _, after := _, guard := _ }) (v := ?_) rfl (by kernel_rfl) (fun _ _ _ h => h) (Or.inl ⟨by kernel_rfl, ?_⟩) hS0 ?_
  rotate_left 1
  · (intro w hSw; (try dsimp only at hSw); go_simp; try with_reducible rfl)
  try simp only [Act.put, Array.toArray_toList, List.setIfInBounds_toArray, List.set_cons_zero, List.set_cons_succ]
  refine anyM_free (i := 9) (oi := { dst := some 59, op := _, type := _, pos := _, after := _, guard := _ }) (v := ?_) rfl (by kernel_rfl) (fun _ _ _ h => h) (Or.inl ⟨by kernel_rfl, ?_⟩) (fun _ => hS0) ?_
  rotate_left 1
  · (intro w hSw; (try dsimp only at hSw); go_simp; try with_reducible rfl)
  try simp only [Act.put, Array.toArray_toList, List.setIfInBounds_toArray, List.set_cons_zero, List.set_cons_succ]
  refine anyM_free (i := 10) (oi := { dst := some 60, op := _, type := _, pos := _, after := _, guard := _ }) (v := ?_) rfl (by kernel_rfl) (fun _ _ _ h => h) (Or.inl ⟨by kernel_rfl, ?_⟩) (fun _ => hS0) ?_
  rotate_left 1
  · (intro w hSw; (try dsimp only at hSw); go_simp; try with_reducible rfl)
  try simp only [Act.put, Array.toArray_toList, List.setIfInBounds_toArray, List.set_cons_zero, List.set_cons_succ]
  refine anyM_free (i := 11) (oi := { dst := some 61, op := _, type := _, pos := _, after := _, guard := _ }) (v := ?_) rfl (by kernel_rfl) (fun _ _ _ h => h) (Or.inl ⟨by kernel_rfl, ?_⟩) (fun _ => hS0) ?_
  rotate_left 1
  · (intro w hSw; (try dsimp only at hSw); go_simp; try with_reducible rfl)
  try simp only [Act.put, Array.toArray_toList, List.setIfInBounds_toArray, List.set_cons_zero, List.set_cons_succ]
  refine anyM_take (i := 12) (oi := { dst := some 62, op := _, type := _, pos := _, after := _, guard := _ }) (v := ?_) rfl (by kernel_rfl) (fun _ _ _ h => h) (Or.inl ⟨by kernel_rfl, ?_⟩) hS0 ?_
  rotate_left 1
  · (intro w hSw; (try dsimp only at hSw); go_simp; try with_reducible rfl)
  try simp only [Act.put, Array.toArray_toList, List.setIfInBounds_toArray, List.set_cons_zero, List.set_cons_succ]
  refine anyM_free (i := 14) (oi := { dst := some 64, op := _, type := _, pos := _, after := _, guard := _ }) (v := ?_) rfl (by kernel_rfl) (fun _ _ _ h => h) (Or.inl ⟨by kernel_rfl, ?_⟩) (fun _ => hS0) ?_
  rotate_left 1
  · (intro w hSw; (try dsimp only at hSw); go_simp; try with_reducible rfl)
  try simp only [Act.put, Array.toArray_toList, List.setIfInBounds_toArray, List.set_cons_zero, List.set_cons_succ]
  refine anyM_free (i := 15) (oi := { dst := some 65, op := _, type := _, pos := _, after := _, guard := _ }) (v := ?_) rfl (by kernel_rfl) (fun _ _ _ h => h) (Or.inl ⟨by kernel_rfl, ?_⟩) (fun _ => hS0) ?_
  rotate_left 1
  · (intro w hSw; (try dsimp only at hSw); go_simp; try with_reducible rfl)
  try simp only [Act.put, Array.toArray_toList, List.setIfInBounds_toArray, List.set_cons_zero, List.set_cons_succ]
  refine anyM_free (i := 16) (oi := { dst := some 66, op := _, type := _, pos := _, after := _, guard := _ }) (v := ?_) rfl (by kernel_rfl) (fun _ _ _ h => h) (Or.inl ⟨by kernel_rfl, ?_⟩) (fun _ => hS0) ?_
  rotate_left 1
  · (intro w hSw; (try dsimp only at hSw); go_simp; try with_reducible rfl)
  try simp only [Act.put, Array.toArray_toList, List.setIfInBounds_toArray, List.set_cons_zero, List.set_cons_succ]
  refine anyM_free (i := 17) (oi := { dst := some 67, op := _, type := _, pos := _, after := _, guard := _ }) (v := ?_) rfl (by kernel_rfl) (fun _ _ _ h => h) (Or.inl ⟨by kernel_rfl, ?_⟩) (fun _ => hS0) ?_
  rotate_left 1
  · (intro w hSw; (try dsimp only at hSw); go_simp; try with_reducible rfl)
  try simp only [Act.put, Array.toArray_toList, List.setIfInBounds_toArray, List.set_cons_zero, List.set_cons_succ]
  refine anyM_free (i := 18) (oi := { dst := some 68, op := _, type := _, pos := _, after := _, guard := _ }) (v := ?_) rfl (by kernel_rfl) (fun _ _ _ h => h) (Or.inl ⟨by kernel_rfl, ?_⟩) (fun _ => hS0) ?_
  rotate_left 1
  · (intro w hSw; (try dsimp only at hSw); go_simp; try with_reducible rfl)
  try simp only [Act.put, Array.toArray_toList, List.setIfInBounds_toArray, List.set_cons_zero, List.set_cons_succ]
  refine anyM_one (i := 13) (by kernel_rfl) rfl (fun K hK => ?_)
  go_simp
  refine (HW0.out _).mono ?_
  rintro e wv ⟨rfl, hbv⟩
  have HI := Lib.hid (HI.out.below hbv HI.out.lt)
  have HOP := Lib.hid (own_below HOP.out hbv)
  have HBW := Lib.hid (below_then HBW.out hbv)
  have hS0 : (fun w' : World => w'.cell? ⟨gL, 3, none⟩ = some (.int .i64 64) ∧ w'.cell? ⟨gL, 4, none⟩ = some (.int .i64 0)) wv := ⟨HI.out.cell 3, HI.out.cell 4⟩
  clear hbv
  refine hK.out _ _ (fun _ => hS0) ?_
  clear hK K
  try simp only [Act.put, Array.toArray_toList, List.setIfInBounds_toArray, List.set_cons_zero, List.set_cons_succ]
  refine anyM_free (i := 19) (oi := { dst := some 69, op := _, type := _, pos := _, after := _, guard := _ }) (v := ?_) rfl (by kernel_rfl) (fun _ _ _ h => h) (Or.inl ⟨by kernel_rfl, ?_⟩) (fun _ => hS0) ?_
  rotate_left 1
  · (intro w hSw; (try dsimp only at hSw); go_simp; try with_reducible rfl)
  try simp only [Act.put, Array.toArray_toList, List.setIfInBounds_toArray, List.set_cons_zero, List.set_cons_succ]
  refine anyM_one (i := 20) (by kernel_rfl) rfl (fun K hK => ?_)
  go_simp
  generalize hwx : World.alloc wv _ = wx
  have BX := Lib.hid (show Blk wx wv.heap.size 54 #[.pointer (some ⟨gL, 0, none⟩), .int .i64 0, .string tAAB, .int .i64 80, .bool false] from hwx ▸ Blk.new _ _ _)
  have hbv := below_alloc (Below.refl wv.heap.size wv) (.cells #[.pointer (some ⟨gL, 0, none⟩), .int .i64 0, .string tAAB, .int .i64 80, .bool false] 54)
  rw [hwx] at hbv
  have HI := Lib.hid (HI.out.below hbv HI.out.lt)
  have HOP := Lib.hid (own_below HOP.out hbv)
  have HBW := Lib.hid (below_then HBW.out hbv)
  have hS0 : (fun w' : World => w'.cell? ⟨gL, 3, none⟩ = some (.int .i64 64) ∧ w'.cell? ⟨gL, 4, none⟩ = some (.int .i64 0)) wx := ⟨HI.out.cell 3, HI.out.cell 4⟩
  clear hbv hwx
  refine hK.out _ _ (fun _ => hS0) ?_
  clear hK K
  try simp only [Act.put, Array.toArray_toList, List.setIfInBounds_toArray, List.set_cons_zero, List.set_cons_succ]
  refine anyM_one (i := 21) (by kernel_rfl) rfl (fun K hK => ?_)
  refine step_append_lies (by rfl) _ _ 40 (by rfl) w.heap.size 54 i1 (.agg #[.pointer none, .int .i64 0, .string ⟨#[]⟩, .int .i64 0, .bool false]) 5 48 Try.underlying40 hib hzb0 hzb1 hzb2 rfl (by decide) (.slice none 0 0) 0 [] (by rfl) (World.ownsRow_nil _ _ _ _) ⟨wv.heap.size, 0, none⟩ 1 1 (#[.pointer (some ⟨gL, 0, none⟩), .int .i64 0, .string tAAB, .int .i64 80, .bool false] : Array Value).toList (by rfl) rfl (blk_adds BX.out) (prt_one _ _ _ _) (by omega) (by unfold maxLen; omega) (by omega) HBW.out.size _ rfl ?_
  intro g1 c1 w1 o1 hg1 hat1 hlt1
  have HO1 := Lib.hid o1
  have HI := Lib.hid (blk_grown HI.out hg1 (by intro e; cases e))
  have HOP := Lib.hid (own_grown2 HOP.out hg1 (fun g _ h => by cases h))
  have HBW := Lib.hid (HBW.out.grown hg1 HBW.out.size (fun k hk => by cases hk))
  have hS0 : (fun w' : World => w'.cell? ⟨gL, 3, none⟩ = some (.int .i64 64) ∧ w'.cell? ⟨gL, 4, none⟩ = some (.int .i64 0)) w1 := ⟨HI.out.cell 3, HI.out.cell 4⟩
  clear o1 hg1 hat1 hlt1
  refine hK.out _ _ (fun _ => hS0) ?_
  clear hK K
  try simp only [Act.put, Array.toArray_toList, List.setIfInBounds_toArray, List.set_cons_zero, List.set_cons_succ]
  refine anyM_free (i := 22) (oi := { dst := some 3, op := _, type := _, pos := _, after := _, guard := _ }) (v := ?_) rfl (by kernel_rfl) (fun _ _ _ h => h) (Or.inl ⟨by kernel_rfl, ?_⟩) (fun _ => hS0) ?_
  rotate_left 1
  · (intro w hSw; (try dsimp only at hSw); go_simp; try with_reducible rfl)
  try simp only [Act.put, Array.toArray_toList, List.setIfInBounds_toArray, List.set_cons_zero, List.set_cons_succ]
  refine anyM_done (by kernel_rfl) ?_ _
  refine NoPanic.normal ?_
  clear hS0
  go_wp2_with fail
  rw [rounds_succ]
  have p1 := (HCE.out _ HOP.out).2
  go_upto_region 13 with fail
  have HI := Lib.hid HI.out.drew
  have HOP := Lib.hid (show World.ownsRow (World.drew w1) _ _ _ _ _ _ from HOP.out)
  have HNE : Hid (∀ g, (Value.slice (some ⟨gP, 0, none⟩) 2 cP).ownBlock = some g → (Value.slice (some ⟨g1, 0, none⟩) (0 + 1) c1).ownBlock ≠ some g) := fun g h1 h2 => by
    have h3 : gP = g := by injection h1
    have h4 : g1 = g := by injection h2
    subst h3
    exact (blk_ne (own_blk HO1.out).choose_spec.2 HOP.out (by decide)) (by rw [h4]; rfl)
  have HO1 := Lib.hid (show World.ownsRow (World.drew w1) _ _ _ _ _ _ from HO1.out)
  have HBW := Lib.hid (show Below w.heap.size w w1.drew from HBW.out.drew)
  have hS0 : (fun w' : World => w'.cell? ⟨gL, 3, none⟩ = some (.int .i64 64) ∧ w'.cell? ⟨gL, 4, none⟩ = some (.int .i64 0)) w1.drew := ⟨HI.out.cell 3, HI.out.cell 4⟩
  clear p1
  refine wp_region_noPanic ?_
  refine region_M (S := fun w' => w'.cell? ⟨gL, 3, none⟩ = some (.int .i64 64) ∧ w'.cell? ⟨gL, 4, none⟩ = some (.int .i64 0)) (T := []) (by kernel_rfl) ?_
  generalize World.drew w1 = wd at HI HOP HBW hS0 HO1 ⊢
  refine anyM_free (i := 0) (oi := { dst := some 50, op := _, type := _, pos := _, after := _, guard := _ }) (v := ?_) rfl (by kernel_rfl) (fun _ _ _ h => h) (Or.inl ⟨by kernel_rfl, ?_⟩) (fun _ => hS0) ?_
  rotate_left 1
  · (intro w hSw; (try dsimp only at hSw); go_simp; try with_reducible rfl)
  try simp only [Act.put, Array.toArray_toList, List.setIfInBounds_toArray, List.set_cons_zero, List.set_cons_succ]
  refine anyM_free (i := 1) (oi := { dst := some 51, op := _, type := _, pos := _, after := _, guard := _ }) (v := ?_) rfl (by kernel_rfl) (fun _ _ _ h => h) (Or.inl ⟨by kernel_rfl, ?_⟩) (fun _ => hS0) ?_
  rotate_left 1
  · (intro w hSw; (try dsimp only at hSw); go_simp; try with_reducible rfl)
  try simp only [Act.put, Array.toArray_toList, List.setIfInBounds_toArray, List.set_cons_zero, List.set_cons_succ]
  refine anyM_free (i := 2) (oi := { dst := some 52, op := _, type := _, pos := _, after := _, guard := _ }) (v := ?_) rfl (by kernel_rfl) (fun _ _ _ h => h) (Or.inl ⟨by kernel_rfl, ?_⟩) (fun _ => hS0) ?_
  rotate_left 1
  · (intro w hSw; (try dsimp only at hSw); go_simp; try with_reducible rfl)
  try simp only [Act.put, Array.toArray_toList, List.setIfInBounds_toArray, List.set_cons_zero, List.set_cons_succ]
  refine anyM_free (i := 3) (oi := { dst := some 53, op := _, type := _, pos := _, after := _, guard := _ }) (v := ?_) rfl (by kernel_rfl) (fun _ _ _ h => h) (Or.inl ⟨by kernel_rfl, ?_⟩) (fun _ => hS0) ?_
  rotate_left 1
  · (intro w hSw; (try dsimp only at hSw); go_simp; try with_reducible rfl)
  try simp only [Act.put, Array.toArray_toList, List.setIfInBounds_toArray, List.set_cons_zero, List.set_cons_succ]
  refine anyM_free (i := 4) (oi := { dst := some 54, op := _, type := _, pos := _, after := _, guard := _ }) (v := ?_) rfl (by kernel_rfl) (fun _ _ _ h => h) (Or.inl ⟨by kernel_rfl, ?_⟩) (fun _ => hS0) ?_
  rotate_left 1
  · (intro w hSw; (try dsimp only at hSw); go_simp; try with_reducible rfl)
  try simp only [Act.put, Array.toArray_toList, List.setIfInBounds_toArray, List.set_cons_zero, List.set_cons_succ]
  refine anyM_free (i := 5) (oi := { dst := some 55, op := _, type := _, pos := _, after := _, guard := _ }) (v := ?_) rfl (by kernel_rfl) (fun _ _ _ h => h) (Or.inl ⟨by kernel_rfl, ?_⟩) (fun _ => hS0) ?_
  rotate_left 1
  · (intro w hSw; (try dsimp only at hSw); go_simp; try with_reducible rfl)
  try simp only [Act.put, Array.toArray_toList, List.setIfInBounds_toArray, List.set_cons_zero, List.set_cons_succ]
  refine anyM_free (i := 6) (oi := { dst := some 56, op := _, type := _, pos := _, after := _, guard := _ }) (v := ?_) rfl (by kernel_rfl) (fun _ _ _ h => h) (Or.inl ⟨by kernel_rfl, ?_⟩) (fun _ => hS0) ?_
  rotate_left 1
  · (intro w hSw; (try dsimp only at hSw); go_simp; try with_reducible rfl)
  try simp only [Act.put, Array.toArray_toList, List.setIfInBounds_toArray, List.set_cons_zero, List.set_cons_succ]
  refine anyM_free (i := 7) (oi := { dst := some 57, op := _, type := _, pos := _, after := _, guard := _ }) (v := ?_) rfl (by kernel_rfl) (fun _ _ _ h => h) (Or.inl ⟨by kernel_rfl, ?_⟩) (fun _ => hS0) ?_
  rotate_left 1
  · (intro w hSw; (try dsimp only at hSw); go_simp; try with_reducible rfl)
  try simp only [Act.put, Array.toArray_toList, List.setIfInBounds_toArray, List.set_cons_zero, List.set_cons_succ]
  refine anyM_take (i := 8) (oi := { dst := some 58, op := _, type := _, pos := _, after := _, guard := _ }) (v := ?_) rfl (by kernel_rfl) (fun _ _ _ h => h) (Or.inl ⟨by kernel_rfl, ?_⟩) hS0 ?_
  rotate_left 1
  · (intro w hSw; (try dsimp only at hSw); go_simp; try with_reducible rfl)
  try simp only [Act.put, Array.toArray_toList, List.setIfInBounds_toArray, List.set_cons_zero, List.set_cons_succ]
  refine anyM_free (i := 9) (oi := { dst := some 59, op := _, type := _, pos := _, after := _, guard := _ }) (v := ?_) rfl (by kernel_rfl) (fun _ _ _ h => h) (Or.inl ⟨by kernel_rfl, ?_⟩) (fun _ => hS0) ?_
  rotate_left 1
  · (intro w hSw; (try dsimp only at hSw); go_simp; try with_reducible rfl)
  try simp only [Act.put, Array.toArray_toList, List.setIfInBounds_toArray, List.set_cons_zero, List.set_cons_succ]
  refine anyM_free (i := 10) (oi := { dst := some 60, op := _, type := _, pos := _, after := _, guard := _ }) (v := ?_) rfl (by kernel_rfl) (fun _ _ _ h => h) (Or.inl ⟨by kernel_rfl, ?_⟩) (fun _ => hS0) ?_
  rotate_left 1
  · (intro w hSw; (try dsimp only at hSw); go_simp; try with_reducible rfl)
  try simp only [Act.put, Array.toArray_toList, List.setIfInBounds_toArray, List.set_cons_zero, List.set_cons_succ]
  refine anyM_free (i := 11) (oi := { dst := some 61, op := _, type := _, pos := _, after := _, guard := _ }) (v := ?_) rfl (by kernel_rfl) (fun _ _ _ h => h) (Or.inl ⟨by kernel_rfl, ?_⟩) (fun _ => hS0) ?_
  rotate_left 1
  · (intro w hSw; (try dsimp only at hSw); go_simp; try with_reducible rfl)
  try simp only [Act.put, Array.toArray_toList, List.setIfInBounds_toArray, List.set_cons_zero, List.set_cons_succ]
  refine anyM_take (i := 12) (oi := { dst := some 62, op := _, type := _, pos := _, after := _, guard := _ }) (v := ?_) rfl (by kernel_rfl) (fun _ _ _ h => h) (Or.inl ⟨by kernel_rfl, ?_⟩) hS0 ?_
  rotate_left 1
  · (intro w hSw; (try dsimp only at hSw); go_simp; try with_reducible rfl)
  try simp only [Act.put, Array.toArray_toList, List.setIfInBounds_toArray, List.set_cons_zero, List.set_cons_succ]
  refine anyM_free (i := 14) (oi := { dst := some 64, op := _, type := _, pos := _, after := _, guard := _ }) (v := ?_) rfl (by kernel_rfl) (fun _ _ _ h => h) (Or.inl ⟨by kernel_rfl, ?_⟩) (fun _ => hS0) ?_
  rotate_left 1
  · (intro w hSw; (try dsimp only at hSw); go_simp; try with_reducible rfl)
  try simp only [Act.put, Array.toArray_toList, List.setIfInBounds_toArray, List.set_cons_zero, List.set_cons_succ]
  refine anyM_free (i := 15) (oi := { dst := some 65, op := _, type := _, pos := _, after := _, guard := _ }) (v := ?_) rfl (by kernel_rfl) (fun _ _ _ h => h) (Or.inl ⟨by kernel_rfl, ?_⟩) (fun _ => hS0) ?_
  rotate_left 1
  · (intro w hSw; (try dsimp only at hSw); go_simp; try with_reducible rfl)
  try simp only [Act.put, Array.toArray_toList, List.setIfInBounds_toArray, List.set_cons_zero, List.set_cons_succ]
  refine anyM_free (i := 16) (oi := { dst := some 66, op := _, type := _, pos := _, after := _, guard := _ }) (v := ?_) rfl (by kernel_rfl) (fun _ _ _ h => h) (Or.inl ⟨by kernel_rfl, ?_⟩) (fun _ => hS0) ?_
  rotate_left 1
  · (intro w hSw; (try dsimp only at hSw); go_simp; try with_reducible rfl)
  try simp only [Act.put, Array.toArray_toList, List.setIfInBounds_toArray, List.set_cons_zero, List.set_cons_succ]
  refine anyM_free (i := 17) (oi := { dst := some 67, op := _, type := _, pos := _, after := _, guard := _ }) (v := ?_) rfl (by kernel_rfl) (fun _ _ _ h => h) (Or.inl ⟨by kernel_rfl, ?_⟩) (fun _ => hS0) ?_
  rotate_left 1
  · (intro w hSw; (try dsimp only at hSw); go_simp; try with_reducible rfl)
  try simp only [Act.put, Array.toArray_toList, List.setIfInBounds_toArray, List.set_cons_zero, List.set_cons_succ]
  refine anyM_free (i := 18) (oi := { dst := some 68, op := _, type := _, pos := _, after := _, guard := _ }) (v := ?_) rfl (by kernel_rfl) (fun _ _ _ h => h) (Or.inl ⟨by kernel_rfl, ?_⟩) (fun _ => hS0) ?_
  rotate_left 1
  · (intro w hSw; (try dsimp only at hSw); go_simp; try with_reducible rfl)
  try simp only [Act.put, Array.toArray_toList, List.setIfInBounds_toArray, List.set_cons_zero, List.set_cons_succ]
  refine anyM_one (i := 13) (by kernel_rfl) rfl (fun K hK => ?_)
  go_simp
  refine (HW1.out _).mono ?_
  rintro e wv ⟨rfl, hbv⟩
  have HI := Lib.hid (HI.out.below hbv HI.out.lt)
  have HOP := Lib.hid (own_below HOP.out hbv)
  have HBW := Lib.hid (below_then HBW.out hbv)
  have HO1 := Lib.hid (own_below HO1.out hbv)
  have hS0 : (fun w' : World => w'.cell? ⟨gL, 3, none⟩ = some (.int .i64 64) ∧ w'.cell? ⟨gL, 4, none⟩ = some (.int .i64 0)) wv := ⟨HI.out.cell 3, HI.out.cell 4⟩
  clear hbv
  refine hK.out _ _ (fun _ => hS0) ?_
  clear hK K
  try simp only [Act.put, Array.toArray_toList, List.setIfInBounds_toArray, List.set_cons_zero, List.set_cons_succ]
  refine anyM_free (i := 19) (oi := { dst := some 69, op := _, type := _, pos := _, after := _, guard := _ }) (v := ?_) rfl (by kernel_rfl) (fun _ _ _ h => h) (Or.inl ⟨by kernel_rfl, ?_⟩) (fun _ => hS0) ?_
  rotate_left 1
  · (intro w hSw; (try dsimp only at hSw); go_simp; try with_reducible rfl)
  try simp only [Act.put, Array.toArray_toList, List.setIfInBounds_toArray, List.set_cons_zero, List.set_cons_succ]
  refine anyM_one (i := 20) (by kernel_rfl) rfl (fun K hK => ?_)
  go_simp
  generalize hwx : World.alloc wv _ = wx
  have BX := Lib.hid (show Blk wx wv.heap.size 54 #[.pointer (some ⟨gL, 0, none⟩), .int .i64 0, .string tAA, .int .i64 64, .bool true] from hwx ▸ Blk.new _ _ _)
  have hbv := below_alloc (Below.refl wv.heap.size wv) (.cells #[.pointer (some ⟨gL, 0, none⟩), .int .i64 0, .string tAA, .int .i64 64, .bool true] 54)
  rw [hwx] at hbv
  have HI := Lib.hid (HI.out.below hbv HI.out.lt)
  have HOP := Lib.hid (own_below HOP.out hbv)
  have HBW := Lib.hid (below_then HBW.out hbv)
  have HO1 := Lib.hid (own_below HO1.out hbv)
  have hS0 : (fun w' : World => w'.cell? ⟨gL, 3, none⟩ = some (.int .i64 64) ∧ w'.cell? ⟨gL, 4, none⟩ = some (.int .i64 0)) wx := ⟨HI.out.cell 3, HI.out.cell 4⟩
  clear hbv hwx
  refine hK.out _ _ (fun _ => hS0) ?_
  clear hK K
  try simp only [Act.put, Array.toArray_toList, List.setIfInBounds_toArray, List.set_cons_zero, List.set_cons_succ]
  refine anyM_one (i := 21) (by kernel_rfl) rfl (fun K hK => ?_)
  refine step_append_lies (by rfl) _ _ 40 (by rfl) w.heap.size 54 i1 (.agg #[.pointer none, .int .i64 0, .string ⟨#[]⟩, .int .i64 0, .bool false]) 5 48 Try.underlying40 hib hzb0 hzb1 hzb2 rfl (by decide) (.slice (some ⟨g1, 0, none⟩) 1 c1) 1 ([] ++ (#[.pointer (some ⟨gL, 0, none⟩), .int .i64 0, .string tAAB, .int .i64 80, .bool false] : Array Value).toList) (by rfl) HO1.out ⟨wv.heap.size, 0, none⟩ 1 1 (#[.pointer (some ⟨gL, 0, none⟩), .int .i64 0, .string tAA, .int .i64 64, .bool true] : Array Value).toList (by rfl) rfl (blk_adds BX.out) (prt_one _ _ _ _) (by omega) (by unfold maxLen; omega) (by omega) HBW.out.size _ rfl ?_
  intro g2 c2 w2 o2 hg2 hat2 hlt2
  have HO2 := Lib.hid o2
  have HI := Lib.hid (blk_grown HI.out hg2 (blk_ne HI.out HO1.out (by decide)))
  have HOP := Lib.hid (own_grown2 HOP.out hg2 (HNE.out))
  have HBW := Lib.hid (HBW.out.grown hg2 HBW.out.size (fun k hk => by injection hk with hk; subst hk; exact (HO1.out.lt _ rfl).1))
  have hS0 : (fun w' : World => w'.cell? ⟨gL, 3, none⟩ = some (.int .i64 64) ∧ w'.cell? ⟨gL, 4, none⟩ = some (.int .i64 0)) w2 := ⟨HI.out.cell 3, HI.out.cell 4⟩
  clear o2 hg2 hat2 hlt2
  refine hK.out _ _ (fun _ => hS0) ?_
  clear hK K
  try simp only [Act.put, Array.toArray_toList, List.setIfInBounds_toArray, List.set_cons_zero, List.set_cons_succ]
  refine anyM_free (i := 22) (oi := { dst := some 3, op := _, type := _, pos := _, after := _, guard := _ }) (v := ?_) rfl (by kernel_rfl) (fun _ _ _ h => h) (Or.inl ⟨by kernel_rfl, ?_⟩) (fun _ => hS0) ?_
  rotate_left 1
  · (intro w hSw; (try dsimp only at hSw); go_simp; try with_reducible rfl)
  try simp only [Act.put, Array.toArray_toList, List.setIfInBounds_toArray, List.set_cons_zero, List.set_cons_succ]
  refine anyM_done (by kernel_rfl) ?_ _
  refine NoPanic.normal ?_
  clear hS0
  go_wp2_with fail
  rw [rounds_succ]
  go_wp2_with fail
  rw [rounds_succ]
  go_wp2_with fail
  go_ret
  exact ⟨g2, c2, rfl, HO2.out, HBW.out⟩
end Go.Proofs.Ytabbpdlnlibngaa
