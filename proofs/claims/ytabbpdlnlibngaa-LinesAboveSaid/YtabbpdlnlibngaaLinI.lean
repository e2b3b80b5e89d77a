/- Contracts for the closed fact lined: may a line end between the two parts? -/
import Derived.Test.YtabbpdlnlibngaaLinH
import Derived.Test.YtabbpdlnlibngaaFan
import Derived.Test.YtabbpdlnlibngaaCells
namespace Go.Proofs.Ytabbpdlnlibngaa
open Go.RowKit Go.Sort
set_option linter.unusedVariables false
set_option linter.unusedSimpArgs false
attribute [local go_sem high] run_min2 run_max2

def F2 (wd : World) (L : Nat → Prop) (f : Nat → Value) (w' : World) : Prop :=
  Below wd.heap.size wd w' ∧ (∀ i, L i → ∃ g, f i = .pointer (some ⟨g, 0, none⟩) ∧ Blk w' g 54 #[.pointer none, .int .i64 0, .string ⟨#[]⟩, .int .i64 0, .bool false] ∧ wd.heap.size ≤ g) ∧ (∀ i j, L i → L j → i ≠ j → f i ≠ f j)
theorem F2.start (wd : World) (f : Nat → Value) : F2 wd (fun _ => False) f wd := ⟨Below.refl _ _, fun _ h => h.elim, fun _ _ h => h.elim⟩
theorem F2.alloc {wd w1 : World} {L : Nat → Prop} {f : Nat → Value} {i : Nat} (h : F2 wd L f w1) (hn : ¬ L i) : F2 wd (fun x => L x ∨ x = i) (updV f i (.pointer (some ⟨w1.heap.size, 0, none⟩))) (w1.alloc (.cells #[.pointer none, .int .i64 0, .string ⟨#[]⟩, .int .i64 0, .bool false] 54)) := by
  have hb : Below w1.heap.size w1 (w1.alloc (.cells #[.pointer none, .int .i64 0, .string ⟨#[]⟩, .int .i64 0, .bool false] 54)) := below_alloc (Below.refl _ _) _
  have hne : ∀ j, L j → j ≠ i := fun j hj e => hn (e ▸ hj)
  have hfr : ∀ j, L j → f j ≠ .pointer (some ⟨w1.heap.size, 0, none⟩) := fun j hj e => by
    obtain ⟨g, a1, a2, a3⟩ := h.2.1 j hj
    rw [a1] at e
    have h1 := a2.lt
    have h2 : g = w1.heap.size := by injection e with e; injection e with e; injection e
    omega
  refine ⟨below_then h.1 hb, fun j hj => ?_, fun j k hj hk hjk => ?_⟩
  · rcases hj with hj | rfl
    · obtain ⟨g, a1, a2, a3⟩ := h.2.1 j hj
      exact ⟨g, by rw [updV_ne (hne j hj)]; exact a1, a2.below hb a2.lt, a3⟩
    · exact ⟨_, updV_same _ _ _, Blk.new _ _ _, h.1.size⟩
  · rcases hj with hj | rfl
    · rcases hk with hk | rfl
      · rw [updV_ne (hne j hj), updV_ne (hne k hk)]; exact h.2.2 j k hj hk hjk
      · rw [updV_ne (hne j hj), updV_same]; exact hfr j hj
    · rcases hk with hk | rfl
      · rw [updV_ne (hne k hk), updV_same]; exact fun e => hfr k hk e.symm
      · exact absurd rfl hjk
theorem F2.fin {wd w1 : World} {L : Nat → Prop} {f : Nat → Value} (h : F2 wd L f w1) (h8 : L 8) (h9 : L 9) : Below wd.heap.size wd w1 ∧ (∃ g, f 8 = .pointer (some ⟨g, 0, none⟩) ∧ Blk w1 g 54 #[.pointer none, .int .i64 0, .string ⟨#[]⟩, .int .i64 0, .bool false] ∧ wd.heap.size ≤ g) ∧ (∃ g, f 9 = .pointer (some ⟨g, 0, none⟩) ∧ Blk w1 g 54 #[.pointer none, .int .i64 0, .string ⟨#[]⟩, .int .i64 0, .bool false] ∧ wd.heap.size ≤ g) ∧ f 8 ≠ f 9 :=
  ⟨h.1, h.2.1 _ h8, h.2.1 _ h9, h.2.2 _ _ h8 h9 (by decide)⟩
set_option maxRecDepth 100000 in
set_option maxHeartbeats 8000000 in
theorem mayEnd_calls (g c gL : Nat) (w : World) (h0 : PartAt w g 0 gL tAAB 80 false) (h1 : PartAt w g 5 gL tAA 64 true) (hI : Blk w gL 28 itemC) :
    Calls Try.prog 26 #[.slice (some ⟨g, 0, none⟩) 2 c, .int .i64 1] w fun e w' => e = .returned (.bool true) ∧ Below w.heap.size w w' := by
  have mixed : Try.prog.follows .mixedOrders = true := by kernel_rfl
  have hss : ∀ w', Below w.heap.size w w' → (fun w' : World => w'.cell? ⟨g, 0, none⟩ = some (.pointer (some ⟨gL, 0, none⟩)) ∧ w'.cell? ⟨g, 1, none⟩ = some (.int .i64 0) ∧ w'.cell? ⟨g, 2, none⟩ = some (.string tAAB) ∧ w'.cell? ⟨g, 3, none⟩ = some (.int .i64 80) ∧ w'.cell? ⟨g, 4, none⟩ = some (.bool false) ∧ w'.cell? ⟨g, 5, none⟩ = some (.pointer (some ⟨gL, 0, none⟩)) ∧ w'.cell? ⟨g, 6, none⟩ = some (.int .i64 0) ∧ w'.cell? ⟨g, 7, none⟩ = some (.string tAA) ∧ w'.cell? ⟨g, 8, none⟩ = some (.int .i64 64) ∧ w'.cell? ⟨g, 9, none⟩ = some (.bool true)) w' := fun w' hb => by
    have a := h0.below hb
    have b := h1.below hb
    exact ⟨a.c0, a.c1, a.c2, a.c3, a.c4, b.c0, b.c1, b.c2, b.c3, b.c4⟩
  have HSS : Hid (∀ w', Below w.drew.heap.size w.drew w' → (fun w' : World => w'.cell? ⟨g, 0, none⟩ = some (.pointer (some ⟨gL, 0, none⟩)) ∧ w'.cell? ⟨g, 1, none⟩ = some (.int .i64 0) ∧ w'.cell? ⟨g, 2, none⟩ = some (.string tAAB) ∧ w'.cell? ⟨g, 3, none⟩ = some (.int .i64 80) ∧ w'.cell? ⟨g, 4, none⟩ = some (.bool false) ∧ w'.cell? ⟨g, 5, none⟩ = some (.pointer (some ⟨gL, 0, none⟩)) ∧ w'.cell? ⟨g, 6, none⟩ = some (.int .i64 0) ∧ w'.cell? ⟨g, 7, none⟩ = some (.string tAA) ∧ w'.cell? ⟨g, 8, none⟩ = some (.int .i64 64) ∧ w'.cell? ⟨g, 9, none⟩ = some (.bool true)) w') := fun w' hb => hss w' ((below_drewN (Below.refl _ _) 1).trans hb)
  have HI := Lib.hid hI.drew
  have HBW := Lib.hid (show Below w.heap.size w w.drew from below_drewN (Below.refl _ _) 1)
  have hS0 : (fun w' : World => w'.cell? ⟨g, 0, none⟩ = some (.pointer (some ⟨gL, 0, none⟩)) ∧ w'.cell? ⟨g, 1, none⟩ = some (.int .i64 0) ∧ w'.cell? ⟨g, 2, none⟩ = some (.string tAAB) ∧ w'.cell? ⟨g, 3, none⟩ = some (.int .i64 80) ∧ w'.cell? ⟨g, 4, none⟩ = some (.bool false) ∧ w'.cell? ⟨g, 5, none⟩ = some (.pointer (some ⟨gL, 0, none⟩)) ∧ w'.cell? ⟨g, 6, none⟩ = some (.int .i64 0) ∧ w'.cell? ⟨g, 7, none⟩ = some (.string tAA) ∧ w'.cell? ⟨g, 8, none⟩ = some (.int .i64 64) ∧ w'.cell? ⟨g, 9, none⟩ = some (.bool true)) w.drew := HSS.out _ (Below.refl _ _)
  have k0 : w.cell? ⟨gL, 0, none⟩ = some (.int .i64 1) := hI.cell 0
  have q0 := h0.c0
  have q5 := h1.c0
  have hw1 : IntKind.i64.wrap 1 = 1 := by decide
  have hw0 : IntKind.i64.wrap 0 = 0 := by decide
  clear h0 h1 hI hss
  go_enter Try.func26, Try.ntmps26
  go_wp2_with fail
  refine wp_loop_rounds 1 ?_
  rw [rounds_succ]
  go_wp2_with fail
  refine wp_loop_rounds 1 ?_
  rw [rounds_succ]
  go_upto_region 10 with fail
  clear k0 q0 q5
  refine wp_region_noPanic ?_
  refine region_M (S := fun w' => w'.cell? ⟨g, 0, none⟩ = some (.pointer (some ⟨gL, 0, none⟩)) ∧ w'.cell? ⟨g, 1, none⟩ = some (.int .i64 0) ∧ w'.cell? ⟨g, 2, none⟩ = some (.string tAAB) ∧ w'.cell? ⟨g, 3, none⟩ = some (.int .i64 80) ∧ w'.cell? ⟨g, 4, none⟩ = some (.bool false) ∧ w'.cell? ⟨g, 5, none⟩ = some (.pointer (some ⟨gL, 0, none⟩)) ∧ w'.cell? ⟨g, 6, none⟩ = some (.int .i64 0) ∧ w'.cell? ⟨g, 7, none⟩ = some (.string tAA) ∧ w'.cell? ⟨g, 8, none⟩ = some (.int .i64 64) ∧ w'.cell? ⟨g, 9, none⟩ = some (.bool true)) (T := []) (by kernel_rfl) ?_
  generalize World.drew w = wd at HI HBW HSS hS0 ⊢
  refine anyM_free (i := 0) (oi := { dst := some 118, op := _, type := _, pos := _, after := _, guard := _ }) (v := ?_) rfl (by kernel_rfl) (fun _ _ _ h => h) (Or.inl ⟨by kernel_rfl, ?_⟩) (fun _ => hS0) ?_
  rotate_left 1
  · (intro w hSw; (try dsimp only at hSw); go_simp; try with_reducible rfl)
  try simp only [Act.put, Array.toArray_toList, List.setIfInBounds_toArray, List.set_cons_zero, List.set_cons_succ]
  refine anyM_free (i := 1) (oi := { dst := some 119, op := _, type := _, pos := _, after := _, guard := _ }) (v := ?_) rfl (by kernel_rfl) (fun _ _ _ h => h) (Or.inl ⟨by kernel_rfl, ?_⟩) (fun _ => hS0) ?_
  rotate_left 1
  · (intro w hSw; (try dsimp only at hSw); go_simp; try with_reducible rfl)
  try simp only [Act.put, Array.toArray_toList, List.setIfInBounds_toArray, List.set_cons_zero, List.set_cons_succ]
  refine anyM_free (i := 2) (oi := { dst := some 120, op := _, type := _, pos := _, after := _, guard := _ }) (v := ?_) rfl (by kernel_rfl) (fun _ _ _ h => h) (Or.inl ⟨by kernel_rfl, ?_⟩) (fun _ => hS0) ?_
  rotate_left 1
  · (intro w hSw; (try dsimp only at hSw); go_simp; try with_reducible rfl)
  try simp only [Act.put, Array.toArray_toList, List.setIfInBounds_toArray, List.set_cons_zero, List.set_cons_succ]
  refine anyM_take (i := 3) (oi := { dst := some 121, op := _, type := _, pos := _, after := _, guard := _ }) (v := ?_) rfl (by kernel_rfl) (fun _ _ _ h => h) (Or.inl ⟨by kernel_rfl, ?_⟩) hS0 ?_
  rotate_left 1
  · (intro w hSw; (try dsimp only at hSw); obtain ⟨s0, s1, s2, s3, s4, s5, s6, s7, s8, s9⟩ := hSw; go_simp; try with_reducible rfl)
  try simp only [Act.put, Array.toArray_toList, List.setIfInBounds_toArray, List.set_cons_zero, List.set_cons_succ]
  refine anyM_free (i := 4) (oi := { dst := some 122, op := _, type := _, pos := _, after := _, guard := _ }) (v := ?_) rfl (by kernel_rfl) (fun _ _ _ h => h) (Or.inl ⟨by kernel_rfl, ?_⟩) (fun _ => hS0) ?_
  rotate_left 1
  · (intro w hSw; (try dsimp only at hSw); go_simp; try with_reducible rfl)
  try simp only [Act.put, Array.toArray_toList, List.setIfInBounds_toArray, List.set_cons_zero, List.set_cons_succ]
  refine anyM_free (i := 5) (oi := { dst := some 123, op := _, type := _, pos := _, after := _, guard := _ }) (v := ?_) rfl (by kernel_rfl) (fun _ _ _ h => h) (Or.inl ⟨by kernel_rfl, ?_⟩) (fun _ => hS0) ?_
  rotate_left 1
  · (intro w hSw; (try dsimp only at hSw); go_simp; try with_reducible rfl)
  try simp only [Act.put, Array.toArray_toList, List.setIfInBounds_toArray, List.set_cons_zero, List.set_cons_succ]
  refine anyM_free (i := 6) (oi := { dst := some 124, op := _, type := _, pos := _, after := _, guard := _ }) (v := ?_) rfl (by kernel_rfl) (fun _ _ _ h => h) (Or.inl ⟨by kernel_rfl, ?_⟩) (fun _ => hS0) ?_
  rotate_left 1
  · (intro w hSw; (try dsimp only at hSw); go_simp; try with_reducible rfl)
  try simp only [Act.put, Array.toArray_toList, List.setIfInBounds_toArray, List.set_cons_zero, List.set_cons_succ]
  refine anyM_take (i := 7) (oi := { dst := some 125, op := _, type := _, pos := _, after := _, guard := _ }) (v := ?_) rfl (by kernel_rfl) (fun _ _ _ h => h) (Or.inl ⟨by kernel_rfl, ?_⟩) hS0 ?_
  rotate_left 1
  · (intro w hSw; (try dsimp only at hSw); obtain ⟨s0, s1, s2, s3, s4, s5, s6, s7, s8, s9⟩ := hSw; go_simp; try with_reducible rfl)
  try simp only [Act.put, Array.toArray_toList, List.setIfInBounds_toArray, List.set_cons_zero, List.set_cons_succ]
  refine anyM_fan0 (fun _ _ _ _ _ h => h) [(8, 7), (9, 8)] [8, 9] (fun _ => []) (by decide) _ (F2 wd) (fun L f w' h => HSS.out _ h.1) 2 2 _ (markL (Array.replicate 12 false) [0, 1, 2, 3, 4, 5, 6, 7, 8, 9]) _ rfl (by rfl) (by kernel_rfl) (by decide) (by decide) (by decide) wd (fun f => F2.start _ f) ?_ ?_
  · intro p hp hpM L f w1 hnL hR
    have HRR := Lib.hid hR
    clear hR hS0
    rcases (by simpa using hp : p = (8, 7) ∨ p = (9, 8)) with rfl | rfl
    · refine ⟨_, rfl, fun K' hK => ?_⟩
      simp only [layP, Act.put, Array.toArray_toList, List.setIfInBounds_toArray, List.set_cons_zero, List.set_cons_succ]
      go_simp
      exact hK.out _ (.pointer (some ⟨w1.heap.size, 0, none⟩)) _ _ (by simp only [layP, Act.put, Array.toArray_toList, List.setIfInBounds_toArray, List.set_cons_zero, List.set_cons_succ]) rfl (HRR.out.alloc (i := 8) hnL)
    · refine ⟨_, rfl, fun K' hK => ?_⟩
      simp only [layP, Act.put, Array.toArray_toList, List.setIfInBounds_toArray, List.set_cons_zero, List.set_cons_succ]
      go_simp
      exact hK.out _ (.pointer (some ⟨w1.heap.size, 0, none⟩)) _ _ (by simp only [layP, Act.put, Array.toArray_toList, List.setIfInBounds_toArray, List.set_cons_zero, List.set_cons_succ]) rfl (HRR.out.alloc (i := 9) hnL)
  intro f L w1 hR hL
  obtain ⟨hb7, h8, h9, n1⟩ := hR.fin (hL 8 (by simp)) (hL 9 (by simp))
  obtain ⟨g7, e7, B7, hg7⟩ := h8
  obtain ⟨g8, e8, B8, hg8⟩ := h9
  have u1 : g7 ≠ g8 := fun e => n1 (by rw [e7, e8, e])
  simp only [layP, Act.put, Array.toArray_toList, List.setIfInBounds_toArray, List.set_cons_zero, List.set_cons_succ, e7, e8]
  have hS0 := HSS.out _ hb7
  clear e7 e8 hL hR n1 L f
  have HB7 := Lib.hid B7
  have HB8 := Lib.hid B8
  have HBW7 := Lib.hid hb7
  clear B7 B8 hb7
  refine anyM_one (i := 10) (by kernel_rfl) rfl (fun K hK => ?_)
  rw [if_pos (by kernel_rfl)]
  refine wp_store_mid _ _ _ rfl g7 0 #[.pointer (some ⟨gL, 0, none⟩), .int .i64 0, .string tAAB, .int .i64 80, .bool false] rfl rfl (HB7.out.there _ (Nat.le_refl 5)) (by kernel_rfl) (by simp [Value.oneCell']) ?_
  generalize hws : World.setCells _ g7 0 _ = ws
  have HN9 : Hid (Blk ws g7 54 #[.pointer (some ⟨gL, 0, none⟩), .int .i64 0, .string tAAB, .int .i64 80, .bool false] ∧ Blk ws g8 54 #[.pointer none, .int .i64 0, .string ⟨#[]⟩, .int .i64 0, .bool false] ∧ Below wd.heap.size wd ws) := ⟨hws ▸ HB7.out.setAll #[.pointer (some ⟨gL, 0, none⟩), .int .i64 0, .string tAAB, .int .i64 80, .bool false] rfl, hws ▸ Blk.farCells u1.symm _ _ _ _ HB8.out, hws ▸ below_setCells hg7 _ _ _ HBW7.out⟩
  have HB7 := Lib.hid HN9.out.1
  have HB8 := Lib.hid HN9.out.2.1
  have HBW7 := Lib.hid HN9.out.2.2
  clear HN9 hws
  have hS0 := HSS.out _ HBW7.out
  refine hK.out _ _ (fun _ => hS0) ?_
  clear hK K
  try simp only [Act.put, Array.toArray_toList, List.setIfInBounds_toArray, List.set_cons_zero, List.set_cons_succ]
  refine anyM_one (i := 11) (by kernel_rfl) rfl (fun K hK => ?_)
  rw [if_pos (by kernel_rfl)]
  refine wp_store_mid _ _ _ rfl g8 0 #[.pointer (some ⟨gL, 0, none⟩), .int .i64 0, .string tAA, .int .i64 64, .bool true] rfl rfl (HB8.out.there _ (Nat.le_refl 5)) (by kernel_rfl) (by simp [Value.oneCell']) ?_
  generalize hws : World.setCells _ g8 0 _ = ws
  have HN9 : Hid (Blk ws g8 54 #[.pointer (some ⟨gL, 0, none⟩), .int .i64 0, .string tAA, .int .i64 64, .bool true] ∧ Blk ws g7 54 #[.pointer (some ⟨gL, 0, none⟩), .int .i64 0, .string tAAB, .int .i64 80, .bool false] ∧ Below wd.heap.size wd ws) := ⟨hws ▸ HB8.out.setAll #[.pointer (some ⟨gL, 0, none⟩), .int .i64 0, .string tAA, .int .i64 64, .bool true] rfl, hws ▸ Blk.farCells u1 _ _ _ _ HB7.out, hws ▸ below_setCells hg8 _ _ _ HBW7.out⟩
  have HB8 := Lib.hid HN9.out.1
  have HB7 := Lib.hid HN9.out.2.1
  have HBW7 := Lib.hid HN9.out.2.2
  clear HN9 hws
  have hS0 := HSS.out _ HBW7.out
  refine hK.out _ _ (fun _ => hS0) ?_
  clear hK K
  try simp only [Act.put, Array.toArray_toList, List.setIfInBounds_toArray, List.set_cons_zero, List.set_cons_succ]
  refine anyM_done (by kernel_rfl) ?_ _
  refine NoPanic.normal ?_
  clear hS0
  have k0 : ws.cell? ⟨gL, 0, none⟩ = some (.int .i64 1) := (HI.out.below HBW7.out HI.out.lt).cell 0
  have k6 : ws.cell? ⟨gL, 6, none⟩ = some (.int .i64 0) := (HI.out.below HBW7.out HI.out.lt).cell 6
  have q7 : ws.cell? ⟨g7, 0, none⟩ = some (.pointer (some ⟨gL, 0, none⟩)) := HB7.out.cell 0
  have q74 : ws.cell? ⟨g7, 4, none⟩ = some (.bool false) := HB7.out.cell 4
  have q8 : ws.cell? ⟨g8, 0, none⟩ = some (.pointer (some ⟨gL, 0, none⟩)) := HB8.out.cell 0
  have HBE := Lib.hid (below_then HBW.out HBW7.out)
  clear HSS HB7 HB8 HBW7 HI
  go_wp2_with fail
  go_ret
  exact ⟨rfl, HBE.out⟩
end Go.Proofs.Ytabbpdlnlibngaa
