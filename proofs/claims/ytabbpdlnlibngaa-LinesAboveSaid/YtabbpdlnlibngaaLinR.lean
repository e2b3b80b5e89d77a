/- Contracts for the closed fact lined: tell. -/
import Derived.Test.YtabbpdlnlibngaaLinP
import Derived.Test.YtabbpdlnlibngaaCells
namespace Go.Proofs.Ytabbpdlnlibngaa
open Go.RowKit Go.Sort
set_option linter.unusedVariables false
set_option linter.unusedSimpArgs false
attribute [local go_sem high] run_min2 run_max2

theorem part_far {g b gL : Nat} {t : ByteArray} {wd : Int} {last : Bool} (hb : g ≠ b) (vs : List Value) (o : Nat) (w : World) (h : PartAt w g 0 gL t wd last) : PartAt (w.setCells b o vs) g 0 gL t wd last := by
  have hk : ∀ (vs : List Value) (o : Nat) (w : World), (w.setCells b o vs).heap[g]? = w.heap[g]? := fun vs => by
    induction vs with
    | nil => intro o w; rfl
    | cons v r ih => intro o w; rw [World.setCells, ih]; exact Below.heap_setCell w ⟨b, o, none⟩ v g hb
  have hs : ∀ (vs : List Value) (o : Nat) (w : World), (w.setCells b o vs).heap.size = w.heap.size := fun vs => by
    induction vs with
    | nil => intro o w; rfl
    | cons v r ih => intro o w; rw [World.setCells, ih]; simp
  have hc : ∀ i, (w.setCells b o vs).cell? ⟨g, i, none⟩ = w.cell? ⟨g, i, none⟩ := fun i => World.cell?_of_block (hk vs o w)
  exact ⟨(hc _).trans h.c0, (hc _).trans h.c1, (hc _).trans h.c2, (hc _).trans h.c3, (hc _).trans h.c4, by rw [hs]; exact h.lt⟩
set_option maxRecDepth 100000 in
set_option maxHeartbeats 40000000 in
theorem tell_calls : TellSaid := by
  intro gB gF y full b o c gL t wd lp last ht hy0 hy1 base n A co xs w hn hbase hB hP hI hO
  have mixed : Try.prog.follows .mixedOrders = true := by kernel_rfl
  obtain ⟨iP, hPb, hPz0, hPz1, hPz2⟩ := info_parts info_piece
  obtain ⟨iL, hLb, hLz0, hLz1, hLz2⟩ := info_parts info_line
  have HC : Hid (∀ m : Int, 0 ≤ m → m ≤ 1000 → ∀ X, Calls Try.prog 13 #[.int .i64 m] X fun e w' => e = .returned (.int .i64 m) ∧ X = w') := fun m h0 h1 X => by
    have hc : cut m = m := by unfold cut; omega
    have := cut_calls m X
    rw [hc] at this
    exact this.mono fun e w' h => ⟨h.1, h.2⟩
  have HB := Lib.hid hB
  have HP := Lib.hid hP
  have HI := Lib.hid hI
  have HO := Lib.hid hO
  have HT := Lib.hid ht
  have a8 : w.cell? ⟨gB, 8, none⟩ = some (.slice (some ⟨b, o, none⟩) 1 c) := hB.cell 8
  clear hB hP hI hO ht
  go_enter Try.func36, Try.ntmps36
  go_wp2_with (go_at_call 49; refine (clone1_calls b o c gL t wd lp w HP.out).mono ?_; rintro e w1 ⟨g, c1, rfl, ho1, hb1⟩; have HO1 := Lib.hid ho1; have HBW := Lib.hid hb1; clear ho1 hb1)
  have HQ := Lib.hid (part_own HO1.out).1
  obtain ⟨cur, _, hbl⟩ := own_blk HO1.out
  have HQB := Lib.hid hbl
  have HGE : Hid (w.heap.size ≤ g) := (part_own HO1.out).2
  clear hbl HO1
  refine wp_loop_rounds 2 ?_
  rw [rounds_succ]
  have q0 := HQ.out.c0
  have q1 := HQ.out.c1
  have q2 := HQ.out.c2
  have q3 := HQ.out.c3
  have q4 := HQ.out.c4
  have HBX := Lib.hid (below_then HBW.out (below_alloc (Below.refl w1.heap.size w1) (.cells #[.pointer (some ⟨gL, 0, none⟩), .int .i64 0, .string t, .int .i64 wd, .bool lp] 54)))
  have HIX := Lib.hid ((HI.out.below HBW.out HI.out.lt).alloc (.cells #[.pointer (some ⟨gL, 0, none⟩), .int .i64 0, .string t, .int .i64 wd, .bool lp] 54))
  go_wp2_with (go_at_call 43; refine (solid_calls gL t wd lp _ HIX.out).mono ?_; rintro e w' ⟨rfl, rfl⟩)
  rw [rounds_succ]
  obtain ⟨tl, htl⟩ : ∃ tl : Int, (t = tAAB ∧ wd = 80 ∧ tl = 16) ∨ (t = tAA ∧ wd = 64 ∧ tl = 0) := by
    rcases HT.out with ⟨h1, h2⟩ | ⟨h1, h2⟩
    · exact ⟨16, .inl ⟨h1, h2, rfl⟩⟩
    · exact ⟨0, .inr ⟨h1, h2, rfl⟩⟩
  have HTT := Lib.hid htl
  have HTL : Hid (∀ X, Blk X gL 28 itemC → Calls Try.prog 45 #[.agg #[.pointer (some ⟨gL, 0, none⟩), .int .i64 0, .string t, .int .i64 wd, .bool lp]] X fun e w' => e = .returned (.int .i64 tl) ∧ Below X.heap.size X w') := fun X hX => by
    rcases htl with ⟨rfl, rfl, rfl⟩ | ⟨rfl, rfl, rfl⟩
    · exact ptailB_calls gL lp X hX
    · exact ptailA_calls gL lp 64 X hX
  clear htl HT
  have HG2 := Lib.hid (HBX.out.size)
  have hB2 := below_alloc (below_alloc (Below.refl w1.heap.size w1) (.cells #[.pointer (some ⟨gL, 0, none⟩), .int .i64 0, .string t, .int .i64 wd, .bool lp] 54)) (.cells #[.pointer (some ⟨gL, 0, none⟩), .int .i64 0, .string t, .int .i64 wd, .bool lp] 54)
  have HBY := Lib.hid (below_then HBW.out hB2)
  have HQY := Lib.hid (HQ.out.below hB2)
  have HQBY := Lib.hid (HQB.out.below hB2 HQB.out.lt)
  have HIY := Lib.hid (HI.out.below HBY.out HI.out.lt)
  clear hB2 HBX HIX
  go_upto_region 8 with fail
  clear q0 q1 q2 q3 q4
  generalize World.alloc (World.alloc w1 _) _ = wy at HBY HQY HQBY HIY ⊢
  generalize w1.heap.size = gV
  have q0 := HQY.out.c0
  have q1 := HQY.out.c1
  have q2 := HQY.out.c2
  have q3 := HQY.out.c3
  have q4 := HQY.out.c4
  go_upto_if 43 with (go_at_call 45; refine (HTL.out _ HIY.out).mono ?_; rintro e wz ⟨rfl, hbz⟩; have HBZ := Lib.hid (below_then HBY.out hbz); have HQZ := Lib.hid (HQY.out.below hbz); have HQBZ := Lib.hid (HQBY.out.below hbz HQBY.out.lt); clear hbz)
  clear q0 q1 q2 q3 q4 HQY HQBY HIY HBY HQ HQB HBW
  have HIZ := Lib.hid (HI.out.below HBZ.out HI.out.lt)
  go_cut [5] from 34 to 73 (fun v wx => v = .int .i64 0 ∧ Hid (PartAt wx g 0 gL tAA 64 lp ∧ Below w.heap.size w wx))
  case first =>
    rcases HTT.out with ⟨rfl, rfl, rfl⟩ | ⟨rfl, rfl, rfl⟩
    · clear HTT
      have hw64 : IntKind.i64.wrap 64 = 64 := by decide
      have hw2 : IntKind.i64.wrap 2 = 2 := by decide
      have HQW := Lib.hid (show PartAt wz.drew g 0 gL tAAB 80 lp from HQZ.out.below (below_drewN (Below.refl _ _) 1))
      have HQBW := Lib.hid HQBZ.out.drew
      have HIW := Lib.hid HIZ.out.drew
      have HBW9 := Lib.hid (show Below w.heap.size w wz.drew from below_drewN HBZ.out 1)
      have hS0 : (fun w' : World => w'.cell? ⟨g, 0, none⟩ = some (.pointer (some ⟨gL, 0, none⟩)) ∧ w'.cell? ⟨g, 1, none⟩ = some (.int .i64 0) ∧ w'.cell? ⟨g, 2, none⟩ = some (.string tAAB) ∧ w'.cell? ⟨g, 3, none⟩ = some (.int .i64 80) ∧ w'.cell? ⟨g, 4, none⟩ = some (.bool lp)) wz.drew := ⟨HQW.out.c0, HQW.out.c1, HQW.out.c2, HQW.out.c3, HQW.out.c4⟩
      clear HQZ HQBZ HIZ HBZ
      go_upto_region 9 with fail
      refine wp_region_noPanic ?_
      refine region_M (S := fun w' => w'.cell? ⟨g, 0, none⟩ = some (.pointer (some ⟨gL, 0, none⟩)) ∧ w'.cell? ⟨g, 1, none⟩ = some (.int .i64 0) ∧ w'.cell? ⟨g, 2, none⟩ = some (.string tAAB) ∧ w'.cell? ⟨g, 3, none⟩ = some (.int .i64 80) ∧ w'.cell? ⟨g, 4, none⟩ = some (.bool lp)) (T := [13]) (by kernel_rfl) ?_
      generalize World.drew wz = wd9 at HQW HQBW HIW HBW9 hS0 ⊢
      refine anyM_free (i := 0) (oi := { dst := some 44, op := _, type := _, pos := _, after := _, guard := _ }) (v := ?_) rfl (by kernel_rfl) (fun _ _ _ h => h) (Or.inl ⟨by kernel_rfl, ?_⟩) (fun _ => hS0) ?_
      rotate_left 1
      · (intro w hSw; (try dsimp only at hSw); (try obtain ⟨s0, s1, s2, s3, s4⟩ := hSw); go_simp; try with_reducible rfl)
      try simp only [Act.put, Array.toArray_toList, List.setIfInBounds_toArray, List.set_cons_zero, List.set_cons_succ]
      refine anyM_free (i := 1) (oi := { dst := some 45, op := _, type := _, pos := _, after := _, guard := _ }) (v := ?_) rfl (by kernel_rfl) (fun _ _ _ h => h) (Or.inl ⟨by kernel_rfl, ?_⟩) (fun _ => hS0) ?_
      rotate_left 1
      · (intro w hSw; (try dsimp only at hSw); (try obtain ⟨s0, s1, s2, s3, s4⟩ := hSw); go_simp; try with_reducible rfl)
      try simp only [Act.put, Array.toArray_toList, List.setIfInBounds_toArray, List.set_cons_zero, List.set_cons_succ]
      refine anyM_free (i := 2) (oi := { dst := some 46, op := _, type := _, pos := _, after := _, guard := _ }) (v := ?_) rfl (by kernel_rfl) (fun _ _ _ h => h) (Or.inl ⟨by kernel_rfl, ?_⟩) (fun _ => hS0) ?_
      rotate_left 1
      · (intro w hSw; (try dsimp only at hSw); (try obtain ⟨s0, s1, s2, s3, s4⟩ := hSw); go_simp; try with_reducible rfl)
      try simp only [Act.put, Array.toArray_toList, List.setIfInBounds_toArray, List.set_cons_zero, List.set_cons_succ]
      refine anyM_free (i := 3) (oi := { dst := some 47, op := _, type := _, pos := _, after := _, guard := _ }) (v := ?_) rfl (by kernel_rfl) (fun _ _ _ h => h) (Or.inl ⟨by kernel_rfl, ?_⟩) (fun _ => hS0) ?_
      rotate_left 1
      · (intro w hSw; (try dsimp only at hSw); (try obtain ⟨s0, s1, s2, s3, s4⟩ := hSw); go_simp; try with_reducible rfl)
      try simp only [Act.put, Array.toArray_toList, List.setIfInBounds_toArray, List.set_cons_zero, List.set_cons_succ]
      refine anyM_take (i := 4) (oi := { dst := some 48, op := _, type := _, pos := _, after := _, guard := _ }) (v := ?_) rfl (by kernel_rfl) (fun _ _ _ h => h) (Or.inl ⟨by kernel_rfl, ?_⟩) hS0 ?_
      rotate_left 1
      · (intro w hSw; (try dsimp only at hSw); (try obtain ⟨s0, s1, s2, s3, s4⟩ := hSw); go_simp; try with_reducible rfl)
      try simp only [Act.put, Array.toArray_toList, List.setIfInBounds_toArray, List.set_cons_zero, List.set_cons_succ]
      refine anyM_free (i := 5) (oi := { dst := some 49, op := _, type := _, pos := _, after := _, guard := _ }) (v := ?_) rfl (by kernel_rfl) (fun _ _ _ h => h) (Or.inl ⟨by kernel_rfl, ?_⟩) (fun _ => hS0) ?_
      rotate_left 1
      · (intro w hSw; (try dsimp only at hSw); (try obtain ⟨s0, s1, s2, s3, s4⟩ := hSw); go_simp; try with_reducible rfl)
      try simp only [Act.put, Array.toArray_toList, List.setIfInBounds_toArray, List.set_cons_zero, List.set_cons_succ]
      refine anyM_free (i := 6) (oi := { dst := some 50, op := _, type := _, pos := _, after := _, guard := _ }) (v := ?_) rfl (by kernel_rfl) (fun _ _ _ h => h) (Or.inl ⟨by kernel_rfl, ?_⟩) (fun _ => hS0) ?_
      rotate_left 1
      · (intro w hSw; (try dsimp only at hSw); (try obtain ⟨s0, s1, s2, s3, s4⟩ := hSw); go_simp; try with_reducible rfl)
      try simp only [Act.put, Array.toArray_toList, List.setIfInBounds_toArray, List.set_cons_zero, List.set_cons_succ]
      refine anyM_free (i := 7) (oi := { dst := some 51, op := _, type := _, pos := _, after := _, guard := _ }) (v := ?_) rfl (by kernel_rfl) (fun _ _ _ h => h) (Or.inl ⟨by kernel_rfl, ?_⟩) (fun _ => hS0) ?_
      rotate_left 1
      · (intro w hSw; (try dsimp only at hSw); (try obtain ⟨s0, s1, s2, s3, s4⟩ := hSw); go_simp; try with_reducible rfl)
      try simp only [Act.put, Array.toArray_toList, List.setIfInBounds_toArray, List.set_cons_zero, List.set_cons_succ]
      refine anyM_take (i := 8) (oi := { dst := some 52, op := _, type := _, pos := _, after := _, guard := _ }) (v := ?_) rfl (by kernel_rfl) (fun _ _ _ h => h) (Or.inl ⟨by kernel_rfl, ?_⟩) hS0 ?_
      rotate_left 1
      · (intro w hSw; (try dsimp only at hSw); (try obtain ⟨s0, s1, s2, s3, s4⟩ := hSw); go_simp; try with_reducible rfl)
      try simp only [Act.put, Array.toArray_toList, List.setIfInBounds_toArray, List.set_cons_zero, List.set_cons_succ]
      refine anyM_one (i := 9) (by kernel_rfl) rfl (fun K hK => ?_)
      go_simp
      refine (HTL.out _ HIW.out).mono ?_
      rintro e wt ⟨rfl, hbt⟩
      have HBT := Lib.hid (below_then HBW9.out hbt)
      have HQT := Lib.hid (HQW.out.below hbt)
      have HQBT := Lib.hid (HQBW.out.below hbt HQBW.out.lt)
      have hS0 : (fun w' : World => w'.cell? ⟨g, 0, none⟩ = some (.pointer (some ⟨gL, 0, none⟩)) ∧ w'.cell? ⟨g, 1, none⟩ = some (.int .i64 0) ∧ w'.cell? ⟨g, 2, none⟩ = some (.string tAAB) ∧ w'.cell? ⟨g, 3, none⟩ = some (.int .i64 80) ∧ w'.cell? ⟨g, 4, none⟩ = some (.bool lp)) wt := ⟨HQT.out.c0, HQT.out.c1, HQT.out.c2, HQT.out.c3, HQT.out.c4⟩
      have a3 : wt.cell? ⟨g, 3, none⟩ = some (.int .i64 80) := HQT.out.c3
      have z3 : wt.frozen? ⟨g, 3, none⟩ = false := HQBT.out.free 3
      clear hbt
      refine hK.out _ _ (fun _ => hS0) ?_
      clear hK K
      try simp only [Act.put, Array.toArray_toList, List.setIfInBounds_toArray, List.set_cons_zero, List.set_cons_succ]
      refine anyM_free (i := 10) (oi := { dst := some 54, op := _, type := _, pos := _, after := _, guard := _ }) (v := ?_) rfl (by kernel_rfl) (fun _ _ _ h => h) (Or.inl ⟨by kernel_rfl, ?_⟩) (fun _ => hS0) ?_
      rotate_left 1
      · (intro w hSw; (try dsimp only at hSw); (try obtain ⟨s0, s1, s2, s3, s4⟩ := hSw); go_simp; try with_reducible rfl)
      try simp only [Act.put, Array.toArray_toList, List.setIfInBounds_toArray, List.set_cons_zero, List.set_cons_succ]
      refine anyM_free (i := 11) (oi := { dst := some 55, op := _, type := _, pos := _, after := _, guard := _ }) (v := ?_) rfl (by kernel_rfl) (fun _ _ _ h => h) (Or.inl ⟨by kernel_rfl, ?_⟩) (fun _ => hS0) ?_
      rotate_left 1
      · (intro w hSw; (try dsimp only at hSw); (try obtain ⟨s0, s1, s2, s3, s4⟩ := hSw); go_simp; try with_reducible rfl)
      try simp only [Act.put, Array.toArray_toList, List.setIfInBounds_toArray, List.set_cons_zero, List.set_cons_succ]
      refine anyM_free (i := 12) (oi := { dst := some 56, op := _, type := _, pos := _, after := _, guard := _ }) (v := ?_) rfl (by kernel_rfl) (fun _ _ _ h => h) (Or.inl ⟨by kernel_rfl, ?_⟩) (fun _ => hS0) ?_
      rotate_left 1
      · (intro w hSw; (try dsimp only at hSw); (try obtain ⟨s0, s1, s2, s3, s4⟩ := hSw); go_simp; try with_reducible rfl)
      try simp only [Act.put, Array.toArray_toList, List.setIfInBounds_toArray, List.set_cons_zero, List.set_cons_succ]
      refine anyM_one (i := 13) (by kernel_rfl) rfl (fun K hK => ?_)
      go_simp
      have HQ9 := Lib.hid (part_w HQBT.out HQT.out 64).1
      have HQB9 := Lib.hid (part_w HQBT.out HQT.out 64).2
      have HB9 := Lib.hid (show Below w.heap.size w (wt.setCell ⟨g, 3, none⟩ (.int .i64 64)) from below_set HBT.out HGE.out _)
      clear a3 z3
      generalize World.setCell wt _ _ = w9 at HQ9 HQB9 HB9 ⊢
      refine hK.out _ _ (fun h => late_no h (by kernel_rfl)) ?_
      clear hK K
      try simp only [Act.put, Array.toArray_toList, List.setIfInBounds_toArray, List.set_cons_zero, List.set_cons_succ]
      refine anyM_done (by kernel_rfl) ?_ _
      refine NoPanic.normal ?_
      clear hS0
      go_upto_region 10 with fail
      have HQX := Lib.hid (show PartAt w9.drew g 0 gL tAAB 64 lp from HQ9.out.below (below_drewN (Below.refl _ _) 1))
      have HQBX := Lib.hid HQB9.out.drew
      have HBX := Lib.hid (show Below w.heap.size w w9.drew from below_drewN HB9.out 1)
      have hS0 : (fun w' : World => w'.cell? ⟨g, 0, none⟩ = some (.pointer (some ⟨gL, 0, none⟩)) ∧ w'.cell? ⟨g, 1, none⟩ = some (.int .i64 0) ∧ w'.cell? ⟨g, 2, none⟩ = some (.string tAAB) ∧ w'.cell? ⟨g, 3, none⟩ = some (.int .i64 64) ∧ w'.cell? ⟨g, 4, none⟩ = some (.bool lp)) w9.drew := ⟨HQX.out.c0, HQX.out.c1, HQX.out.c2, HQX.out.c3, HQX.out.c4⟩
      have a2 : w9.drew.cell? ⟨g, 2, none⟩ = some (.string tAAB) := HQX.out.c2
      have z2 : w9.drew.frozen? ⟨g, 2, none⟩ = false := HQBX.out.free 2
      have hex := ex_AAB
      have hsz := sz_AAB
      clear HQ9 HQB9 HB9
      refine wp_region_noPanic ?_
      refine region_M (S := fun w' => w'.cell? ⟨g, 0, none⟩ = some (.pointer (some ⟨gL, 0, none⟩)) ∧ w'.cell? ⟨g, 1, none⟩ = some (.int .i64 0) ∧ w'.cell? ⟨g, 2, none⟩ = some (.string tAAB) ∧ w'.cell? ⟨g, 3, none⟩ = some (.int .i64 64) ∧ w'.cell? ⟨g, 4, none⟩ = some (.bool lp)) (T := [17]) (by kernel_rfl) ?_
      generalize World.drew w9 = wd10 at HQX HQBX HBX hS0 a2 z2 ⊢
      refine anyM_free (i := 0) (oi := { dst := some 57, op := _, type := _, pos := _, after := _, guard := _ }) (v := ?_) rfl (by kernel_rfl) (fun _ _ _ h => h) (Or.inl ⟨by kernel_rfl, ?_⟩) (fun _ => hS0) ?_
      rotate_left 1
      · (intro w hSw; (try dsimp only at hSw); (try obtain ⟨s0, s1, s2, s3, s4⟩ := hSw); go_simp; try with_reducible rfl)
      try simp only [Act.put, Array.toArray_toList, List.setIfInBounds_toArray, List.set_cons_zero, List.set_cons_succ]
      refine anyM_free (i := 1) (oi := { dst := some 58, op := _, type := _, pos := _, after := _, guard := _ }) (v := ?_) rfl (by kernel_rfl) (fun _ _ _ h => h) (Or.inl ⟨by kernel_rfl, ?_⟩) (fun _ => hS0) ?_
      rotate_left 1
      · (intro w hSw; (try dsimp only at hSw); (try obtain ⟨s0, s1, s2, s3, s4⟩ := hSw); go_simp; try with_reducible rfl)
      try simp only [Act.put, Array.toArray_toList, List.setIfInBounds_toArray, List.set_cons_zero, List.set_cons_succ]
      refine anyM_free (i := 2) (oi := { dst := some 59, op := _, type := _, pos := _, after := _, guard := _ }) (v := ?_) rfl (by kernel_rfl) (fun _ _ _ h => h) (Or.inl ⟨by kernel_rfl, ?_⟩) (fun _ => hS0) ?_
      rotate_left 1
      · (intro w hSw; (try dsimp only at hSw); (try obtain ⟨s0, s1, s2, s3, s4⟩ := hSw); go_simp; try with_reducible rfl)
      try simp only [Act.put, Array.toArray_toList, List.setIfInBounds_toArray, List.set_cons_zero, List.set_cons_succ]
      refine anyM_free (i := 3) (oi := { dst := some 60, op := _, type := _, pos := _, after := _, guard := _ }) (v := ?_) rfl (by kernel_rfl) (fun _ _ _ h => h) (Or.inl ⟨by kernel_rfl, ?_⟩) (fun _ => hS0) ?_
      rotate_left 1
      · (intro w hSw; (try dsimp only at hSw); (try obtain ⟨s0, s1, s2, s3, s4⟩ := hSw); go_simp; try with_reducible rfl)
      try simp only [Act.put, Array.toArray_toList, List.setIfInBounds_toArray, List.set_cons_zero, List.set_cons_succ]
      refine anyM_free (i := 4) (oi := { dst := some 61, op := _, type := _, pos := _, after := _, guard := _ }) (v := ?_) rfl (by kernel_rfl) (fun _ _ _ h => h) (Or.inl ⟨by kernel_rfl, ?_⟩) (fun _ => hS0) ?_
      rotate_left 1
      · (intro w hSw; (try dsimp only at hSw); (try obtain ⟨s0, s1, s2, s3, s4⟩ := hSw); go_simp; try with_reducible rfl)
      try simp only [Act.put, Array.toArray_toList, List.setIfInBounds_toArray, List.set_cons_zero, List.set_cons_succ]
      refine anyM_free (i := 5) (oi := { dst := some 62, op := _, type := _, pos := _, after := _, guard := _ }) (v := ?_) rfl (by kernel_rfl) (fun _ _ _ h => h) (Or.inl ⟨by kernel_rfl, ?_⟩) (fun _ => hS0) ?_
      rotate_left 1
      · (intro w hSw; (try dsimp only at hSw); (try obtain ⟨s0, s1, s2, s3, s4⟩ := hSw); go_simp; try with_reducible rfl)
      try simp only [Act.put, Array.toArray_toList, List.setIfInBounds_toArray, List.set_cons_zero, List.set_cons_succ]
      refine anyM_take (i := 6) (oi := { dst := some 63, op := _, type := _, pos := _, after := _, guard := _ }) (v := ?_) rfl (by kernel_rfl) (fun _ _ _ h => h) (Or.inl ⟨by kernel_rfl, ?_⟩) hS0 ?_
      rotate_left 1
      · (intro w hSw; (try dsimp only at hSw); (try obtain ⟨s0, s1, s2, s3, s4⟩ := hSw); go_simp; try with_reducible rfl)
      try simp only [Act.put, Array.toArray_toList, List.setIfInBounds_toArray, List.set_cons_zero, List.set_cons_succ]
      refine anyM_free (i := 7) (oi := { dst := some 64, op := _, type := _, pos := _, after := _, guard := _ }) (v := ?_) rfl (by kernel_rfl) (fun _ _ _ h => h) (Or.inl ⟨by kernel_rfl, ?_⟩) (fun _ => hS0) ?_
      rotate_left 1
      · (intro w hSw; (try dsimp only at hSw); (try obtain ⟨s0, s1, s2, s3, s4⟩ := hSw); go_simp; try with_reducible rfl)
      try simp only [Act.put, Array.toArray_toList, List.setIfInBounds_toArray, List.set_cons_zero, List.set_cons_succ]
      refine anyM_free (i := 8) (oi := { dst := some 65, op := _, type := _, pos := _, after := _, guard := _ }) (v := ?_) rfl (by kernel_rfl) (fun _ _ _ h => h) (Or.inl ⟨by kernel_rfl, ?_⟩) (fun _ => hS0) ?_
      rotate_left 1
      · (intro w hSw; (try dsimp only at hSw); (try obtain ⟨s0, s1, s2, s3, s4⟩ := hSw); go_simp; try with_reducible rfl)
      try simp only [Act.put, Array.toArray_toList, List.setIfInBounds_toArray, List.set_cons_zero, List.set_cons_succ]
      refine anyM_free (i := 9) (oi := { dst := some 66, op := _, type := _, pos := _, after := _, guard := _ }) (v := ?_) rfl (by kernel_rfl) (fun _ _ _ h => h) (Or.inl ⟨by kernel_rfl, ?_⟩) (fun _ => hS0) ?_
      rotate_left 1
      · (intro w hSw; (try dsimp only at hSw); (try obtain ⟨s0, s1, s2, s3, s4⟩ := hSw); go_simp; try with_reducible rfl)
      try simp only [Act.put, Array.toArray_toList, List.setIfInBounds_toArray, List.set_cons_zero, List.set_cons_succ]
      refine anyM_free (i := 10) (oi := { dst := some 67, op := _, type := _, pos := _, after := _, guard := _ }) (v := ?_) rfl (by kernel_rfl) (fun _ _ _ h => h) (Or.inl ⟨by kernel_rfl, ?_⟩) (fun _ => hS0) ?_
      rotate_left 1
      · (intro w hSw; (try dsimp only at hSw); (try obtain ⟨s0, s1, s2, s3, s4⟩ := hSw); go_simp; try with_reducible rfl)
      try simp only [Act.put, Array.toArray_toList, List.setIfInBounds_toArray, List.set_cons_zero, List.set_cons_succ]
      refine anyM_take (i := 11) (oi := { dst := some 68, op := _, type := _, pos := _, after := _, guard := _ }) (v := ?_) rfl (by kernel_rfl) (fun _ _ _ h => h) (Or.inl ⟨by kernel_rfl, ?_⟩) hS0 ?_
      rotate_left 1
      · (intro w hSw; (try dsimp only at hSw); (try obtain ⟨s0, s1, s2, s3, s4⟩ := hSw); go_simp; try with_reducible rfl)
      try simp only [Act.put, Array.toArray_toList, List.setIfInBounds_toArray, List.set_cons_zero, List.set_cons_succ]
      refine anyM_free (i := 12) (oi := { dst := some 69, op := _, type := _, pos := _, after := _, guard := _ }) (v := ?_) rfl (by kernel_rfl) (fun _ _ _ h => h) (Or.inl ⟨by kernel_rfl, ?_⟩) (fun _ => hS0) ?_
      rotate_left 1
      · (intro w hSw; (try dsimp only at hSw); (try obtain ⟨s0, s1, s2, s3, s4⟩ := hSw); go_simp; try with_reducible rfl)
      try simp only [Act.put, Array.toArray_toList, List.setIfInBounds_toArray, List.set_cons_zero, List.set_cons_succ]
      refine anyM_free (i := 13) (oi := { dst := some 70, op := _, type := _, pos := _, after := _, guard := _ }) (v := ?_) rfl (by kernel_rfl) (fun _ _ _ h => h) (Or.inl ⟨by kernel_rfl, ?_⟩) (fun _ => hS0) ?_
      rotate_left 1
      · (intro w hSw; (try dsimp only at hSw); (try obtain ⟨s0, s1, s2, s3, s4⟩ := hSw); go_simp; try with_reducible rfl)
      try simp only [Act.put, Array.toArray_toList, List.setIfInBounds_toArray, List.set_cons_zero, List.set_cons_succ]
      refine anyM_free (i := 14) (oi := { dst := some 71, op := _, type := _, pos := _, after := _, guard := _ }) (v := ?_) rfl (by kernel_rfl) (fun _ _ _ h => h) (Or.inl ⟨by kernel_rfl, ?_⟩) (fun _ => hS0) ?_
      rotate_left 1
      · (intro w hSw; (try dsimp only at hSw); (try obtain ⟨s0, s1, s2, s3, s4⟩ := hSw); go_simp; try with_reducible rfl)
      try simp only [Act.put, Array.toArray_toList, List.setIfInBounds_toArray, List.set_cons_zero, List.set_cons_succ]
      refine anyM_free (i := 15) (oi := { dst := some 72, op := _, type := _, pos := _, after := _, guard := _ }) (v := ?_) rfl (by kernel_rfl) (fun _ _ _ h => h) (Or.inl ⟨by kernel_rfl, ?_⟩) (fun _ => hS0) ?_
      rotate_left 1
      · (intro w hSw; (try dsimp only at hSw); (try obtain ⟨s0, s1, s2, s3, s4⟩ := hSw); go_simp; try with_reducible rfl)
      try simp only [Act.put, Array.toArray_toList, List.setIfInBounds_toArray, List.set_cons_zero, List.set_cons_succ]
      refine anyM_free (i := 16) (oi := { dst := some 73, op := _, type := _, pos := _, after := _, guard := _ }) (v := ?_) rfl (by kernel_rfl) (fun _ _ _ h => h) (Or.inl ⟨by kernel_rfl, ?_⟩) (fun _ => hS0) ?_
      rotate_left 1
      · (intro w hSw; (try dsimp only at hSw); (try obtain ⟨s0, s1, s2, s3, s4⟩ := hSw); go_simp; try with_reducible rfl)
      try simp only [Act.put, Array.toArray_toList, List.setIfInBounds_toArray, List.set_cons_zero, List.set_cons_succ]
      refine anyM_one (i := 17) (by kernel_rfl) rfl (fun K hK => ?_)
      go_simp
      have HQ10 := Lib.hid (part_t HQBX.out HQX.out tAA).1
      have HB10 := Lib.hid (show Below w.heap.size w (wd10.setCell ⟨g, 2, none⟩ (.string tAA)) from below_set HBX.out HGE.out _)
      clear a2 z2
      generalize World.setCell wd10 _ _ = w10 at HQ10 HB10 ⊢
      refine hK.out _ _ (fun h => late_no h (by kernel_rfl)) ?_
      clear hK K
      try simp only [Act.put, Array.toArray_toList, List.setIfInBounds_toArray, List.set_cons_zero, List.set_cons_succ]
      refine anyM_done (by kernel_rfl) ?_ _
      refine NoPanic.normal ?_
      clear hS0
      go_wp2_with fail
      go_meet
      case rel => exact ⟨rfl, HQ10.out, HB10.out⟩
    · clear HTT
      go_wp2_with fail
      go_meet
      case rel => exact ⟨rfl, HQZ.out, HBZ.out⟩
  case rest =>
    clear HTT HQZ HQBZ HIZ HBZ HTL
    obtain ⟨wq, rfl⟩ : ∃ x, x = wc := ⟨_, rfl⟩
    obtain ⟨rfl, hq⟩ := hcut
    have HQ3 := Lib.hid hq.out.1
    have HB3 := Lib.hid hq.out.2
    clear hq
    have HM : Hid (Calls Try.prog 50 #[.pointer (some ⟨gB, 0, none⟩)] wq fun e w' => e = .returned (.tuple #[.int .i64 56, .int .i64 80]) ∧ Below wq.heap.size wq w') := metrics_calls gB gF y 0 100 full (.slice A n co) b o c gL t wd lp wq (HB.out.below HB3.out HB.out.lt) (HP.out.below HB3.out) (HI.out.below HB3.out HI.out.lt)
    go_upto_region 12 with (go_at_call 50; refine HM.out.mono ?_; rintro e wm ⟨rfl, hbm⟩; have HQM := Lib.hid (HQ3.out.below hbm); have HBM := Lib.hid (below_then HB3.out hbm); clear hbm)
    clear HM HQ3 HB3
    have HQE := Lib.hid (show PartAt wm.drew g 0 gL tAA 64 lp from HQM.out.below (below_drewN (Below.refl _ _) 1))
    have HBE := Lib.hid (show Below w.heap.size w wm.drew from below_drewN HBM.out 1)
    have HBB := Lib.hid (HB.out.below HBE.out HB.out.lt)
    have HQL := Lib.hid HQE.out.lt
    have hS0 : (fun w' : World => w'.cell? ⟨gB, 6, none⟩ = some (.int .i64 0) ∧ w'.cell? ⟨gB, 1, none⟩ = some (.int .i64 y)) wm.drew := ⟨HBB.out.cell 6, HBB.out.cell 1⟩
    clear HQM HBM
    refine wp_region_noPanic ?_
    refine region_M (S := fun w' => w'.cell? ⟨gB, 6, none⟩ = some (.int .i64 0) ∧ w'.cell? ⟨gB, 1, none⟩ = some (.int .i64 y)) (T := [13]) (by kernel_rfl) ?_
    generalize World.drew wm = we at HQE HBE HBB HQL hS0 ⊢
    refine anyM_free (i := 0) (oi := { dst := some 79, op := _, type := _, pos := _, after := _, guard := _ }) (v := ?_) rfl (by kernel_rfl) (fun _ _ _ h => h) (Or.inl ⟨by kernel_rfl, ?_⟩) (fun _ => hS0) ?_
    rotate_left 1
    · (intro w hSw; (try dsimp only at hSw); go_simp; try with_reducible rfl)
    try simp only [Act.put, Array.toArray_toList, List.setIfInBounds_toArray, List.set_cons_zero, List.set_cons_succ]
    refine anyM_free (i := 1) (oi := { dst := some 80, op := _, type := _, pos := _, after := _, guard := _ }) (v := ?_) rfl (by kernel_rfl) (fun _ _ _ h => h) (Or.inl ⟨by kernel_rfl, ?_⟩) (fun _ => hS0) ?_
    rotate_left 1
    · (intro w hSw; (try dsimp only at hSw); go_simp; try with_reducible rfl)
    try simp only [Act.put, Array.toArray_toList, List.setIfInBounds_toArray, List.set_cons_zero, List.set_cons_succ]
    refine anyM_free (i := 2) (oi := { dst := some 81, op := _, type := _, pos := _, after := _, guard := _ }) (v := ?_) rfl (by kernel_rfl) (fun _ _ _ h => h) (Or.inl ⟨by kernel_rfl, ?_⟩) (fun _ => hS0) ?_
    rotate_left 1
    · (intro w hSw; (try dsimp only at hSw); go_simp; try with_reducible rfl)
    try simp only [Act.put, Array.toArray_toList, List.setIfInBounds_toArray, List.set_cons_zero, List.set_cons_succ]
    refine anyM_take (i := 3) (oi := { dst := some 82, op := _, type := _, pos := _, after := _, guard := _ }) (v := ?_) rfl (by kernel_rfl) (fun _ _ _ h => h) (Or.inl ⟨by kernel_rfl, ?_⟩) hS0 ?_
    rotate_left 1
    · (intro w hSw; (try dsimp only at hSw); go_simp; try with_reducible rfl)
    try simp only [Act.put, Array.toArray_toList, List.setIfInBounds_toArray, List.set_cons_zero, List.set_cons_succ]
    refine anyM_free (i := 4) (oi := { dst := some 83, op := _, type := _, pos := _, after := _, guard := _ }) (v := ?_) rfl (by kernel_rfl) (fun _ _ _ h => h) (Or.inl ⟨by kernel_rfl, ?_⟩) (fun _ => hS0) ?_
    rotate_left 1
    · (intro w hSw; (try dsimp only at hSw); go_simp; try with_reducible rfl)
    try simp only [Act.put, Array.toArray_toList, List.setIfInBounds_toArray, List.set_cons_zero, List.set_cons_succ]
    refine anyM_free (i := 5) (oi := { dst := some 84, op := _, type := _, pos := _, after := _, guard := _ }) (v := ?_) rfl (by kernel_rfl) (fun _ _ _ h => h) (Or.inl ⟨by kernel_rfl, ?_⟩) (fun _ => hS0) ?_
    rotate_left 1
    · (intro w hSw; (try dsimp only at hSw); go_simp; try with_reducible rfl)
    try simp only [Act.put, Array.toArray_toList, List.setIfInBounds_toArray, List.set_cons_zero, List.set_cons_succ]
    refine anyM_free (i := 6) (oi := { dst := some 85, op := _, type := _, pos := _, after := _, guard := _ }) (v := ?_) rfl (by kernel_rfl) (fun _ _ _ h => h) (Or.inl ⟨by kernel_rfl, ?_⟩) (fun _ => hS0) ?_
    rotate_left 1
    · (intro w hSw; (try dsimp only at hSw); go_simp; try with_reducible rfl)
    try simp only [Act.put, Array.toArray_toList, List.setIfInBounds_toArray, List.set_cons_zero, List.set_cons_succ]
    refine anyM_take (i := 7) (oi := { dst := some 86, op := _, type := _, pos := _, after := _, guard := _ }) (v := ?_) rfl (by kernel_rfl) (fun _ _ _ h => h) (Or.inl ⟨by kernel_rfl, ?_⟩) hS0 ?_
    rotate_left 1
    · (intro w hSw; (try dsimp only at hSw); go_simp; try with_reducible rfl)
    try simp only [Act.put, Array.toArray_toList, List.setIfInBounds_toArray, List.set_cons_zero, List.set_cons_succ]
    refine anyM_free (i := 8) (oi := { dst := some 87, op := _, type := _, pos := _, after := _, guard := _ }) (v := ?_) rfl (by kernel_rfl) (fun _ _ _ h => h) (Or.inl ⟨by kernel_rfl, ?_⟩) (fun _ => hS0) ?_
    rotate_left 1
    · (intro w hSw; (try dsimp only at hSw); go_simp; try with_reducible rfl)
    try simp only [Act.put, Array.toArray_toList, List.setIfInBounds_toArray, List.set_cons_zero, List.set_cons_succ]
    refine anyM_free (i := 9) (oi := { dst := some 88, op := _, type := _, pos := _, after := _, guard := _ }) (v := ?_) rfl (by kernel_rfl) (fun _ _ _ h => h) (Or.inl ⟨by kernel_rfl, ?_⟩) (fun _ => hS0) ?_
    rotate_left 1
    · (intro w hSw; (try dsimp only at hSw); go_simp; try with_reducible rfl)
    try simp only [Act.put, Array.toArray_toList, List.setIfInBounds_toArray, List.set_cons_zero, List.set_cons_succ]
    refine anyM_free (i := 10) (oi := { dst := some 89, op := _, type := _, pos := _, after := _, guard := _ }) (v := ?_) rfl (by kernel_rfl) (fun _ _ _ h => h) (Or.inl ⟨by kernel_rfl, ?_⟩) (fun _ => hS0) ?_
    rotate_left 1
    · (intro w hSw; (try dsimp only at hSw); go_simp; try with_reducible rfl)
    try simp only [Act.put, Array.toArray_toList, List.setIfInBounds_toArray, List.set_cons_zero, List.set_cons_succ]
    refine anyM_free (i := 11) (oi := { dst := some 90, op := _, type := _, pos := _, after := _, guard := _ }) (v := ?_) rfl (by kernel_rfl) (fun _ _ _ h => h) (Or.inl ⟨by kernel_rfl, ?_⟩) (fun _ => hS0) ?_
    rotate_left 1
    · (intro w hSw; (try dsimp only at hSw); go_simp; try with_reducible rfl)
    try simp only [Act.put, Array.toArray_toList, List.setIfInBounds_toArray, List.set_cons_zero, List.set_cons_succ]
    refine anyM_one (i := 12) (by kernel_rfl) rfl (fun K hK => ?_)
    go_simp
    obtain ⟨gX, hgX⟩ : ∃ x, x = we.heap.size := ⟨_, rfl⟩
    generalize hwx : World.alloc we _ = wx
    have BX := Lib.hid (show Blk wx gX 34 #[.int .i64 0, .int .i64 0, .int .i64 0, .int .i64 0, .int .i64 0, .slice none 0 0, .bool false] from hgX ▸ hwx ▸ Blk.new _ _ _)
    have hbx : Below we.heap.size we wx := hwx ▸ below_alloc (Below.refl _ _) _
    have HQE := Lib.hid (HQE.out.below hbx)
    have HGX : Hid (w.heap.size ≤ gX) := by show w.heap.size ≤ gX; rw [hgX]; exact HBE.out.size
    have HBE := Lib.hid (below_then HBE.out hbx)
    have HBB := Lib.hid (HBB.out.below hbx HBB.out.lt)
    rw [← hgX]
    have hS0 : (fun w' : World => w'.cell? ⟨gB, 6, none⟩ = some (.int .i64 0) ∧ w'.cell? ⟨gB, 1, none⟩ = some (.int .i64 y)) wx := ⟨HBB.out.cell 6, HBB.out.cell 1⟩
    have HNE : Hid (g ≠ gX) := by show g ≠ gX; rw [hgX]; exact Nat.ne_of_lt HQL.out
    clear hbx hwx hgX
    refine hK.out _ _ (fun _ => hS0) ?_
    clear hK K
    try simp only [Act.put, Array.toArray_toList, List.setIfInBounds_toArray, List.set_cons_zero, List.set_cons_succ]
    refine anyM_one (i := 13) (by kernel_rfl) rfl (fun K hK => ?_)
    rw [if_pos (by kernel_rfl)]
    refine wp_store_mid _ _ _ rfl gX 0 #[.int .i64 0, .int .i64 y, .int .i64 0, .int .i64 80, .int .i64 56, .slice none 0 0, .bool last] rfl rfl (BX.out.there _ (Nat.le_refl 7)) (by kernel_rfl) (by simp [Value.oneCell']) ?_
    generalize hws : World.setCells _ gX 0 _ = ws
    have HX := Lib.hid (show Blk ws gX 34 #[.int .i64 0, .int .i64 y, .int .i64 0, .int .i64 80, .int .i64 56, .slice none 0 0, .bool last] from hws ▸ BX.out.setAll #[.int .i64 0, .int .i64 y, .int .i64 0, .int .i64 80, .int .i64 56, .slice none 0 0, .bool last] rfl)
    have HQF : Hid (PartAt ws g 0 gL tAA 64 lp) := hws ▸ part_far HNE.out _ _ _ HQE.out
    have HBF : Hid (Below w.heap.size w ws) := hws ▸ below_setCells HGX.out _ _ _ HBE.out
    clear hws
    refine hK.out _ _ (fun h => late_no h (by kernel_rfl)) ?_
    clear hK K
    try simp only [Act.put, Array.toArray_toList, List.setIfInBounds_toArray, List.set_cons_zero, List.set_cons_succ]
    refine anyM_done (by kernel_rfl) ?_ _
    refine NoPanic.normal ?_
    clear hS0
    go_upto_region 13 with fail
    clear HBB HBE HQE BX
    have HQF := Lib.hid (show PartAt ws.drew g 0 gL tAA 64 lp from HQF.out.below (below_drewN (Below.refl _ _) 1))
    have HX := Lib.hid HX.out.drew
    have HBF := Lib.hid (show Below w.heap.size w ws.drew from below_drewN HBF.out 1)
    have HBB := Lib.hid (HB.out.below HBF.out HB.out.lt)
    have hS0 : (fun w' : World => w'.cell? ⟨gB, 7, none⟩ = some (.int .i64 100) ∧ w'.cell? ⟨gB, 6, none⟩ = some (.int .i64 0)) ws.drew := ⟨HBB.out.cell 7, HBB.out.cell 6⟩
    have hw100 : IntKind.i64.wrap 100 = 100 := by decide
    have hw36 : IntKind.i64.wrap 36 = 36 := by decide
    have hm36 : max (0 : Int) 36 = 36 := by decide
    refine wp_region_noPanic ?_
    refine region_M (S := fun w' => w'.cell? ⟨gB, 7, none⟩ = some (.int .i64 100) ∧ w'.cell? ⟨gB, 6, none⟩ = some (.int .i64 0)) (T := []) (by kernel_rfl) ?_
    generalize World.drew ws = wf at HQF HX HBF HBB hS0 ⊢
    refine anyM_free (i := 0) (oi := { dst := some 91, op := _, type := _, pos := _, after := _, guard := _ }) (v := ?_) rfl (by kernel_rfl) (fun _ _ _ h => h) (Or.inl ⟨by kernel_rfl, ?_⟩) (fun _ => hS0) ?_
    rotate_left 1
    · (intro w hSw; (try dsimp only at hSw); go_simp; try with_reducible rfl)
    try simp only [Act.put, Array.toArray_toList, List.setIfInBounds_toArray, List.set_cons_zero, List.set_cons_succ]
    refine anyM_free (i := 1) (oi := { dst := some 92, op := _, type := _, pos := _, after := _, guard := _ }) (v := ?_) rfl (by kernel_rfl) (fun _ _ _ h => h) (Or.inl ⟨by kernel_rfl, ?_⟩) (fun _ => hS0) ?_
    rotate_left 1
    · (intro w hSw; (try dsimp only at hSw); go_simp; try with_reducible rfl)
    try simp only [Act.put, Array.toArray_toList, List.setIfInBounds_toArray, List.set_cons_zero, List.set_cons_succ]
    refine anyM_free (i := 2) (oi := { dst := some 93, op := _, type := _, pos := _, after := _, guard := _ }) (v := ?_) rfl (by kernel_rfl) (fun _ _ _ h => h) (Or.inl ⟨by kernel_rfl, ?_⟩) (fun _ => hS0) ?_
    rotate_left 1
    · (intro w hSw; (try dsimp only at hSw); go_simp; try with_reducible rfl)
    try simp only [Act.put, Array.toArray_toList, List.setIfInBounds_toArray, List.set_cons_zero, List.set_cons_succ]
    refine anyM_take (i := 3) (oi := { dst := some 94, op := _, type := _, pos := _, after := _, guard := _ }) (v := ?_) rfl (by kernel_rfl) (fun _ _ _ h => h) (Or.inl ⟨by kernel_rfl, ?_⟩) hS0 ?_
    rotate_left 1
    · (intro w hSw; (try dsimp only at hSw); go_simp; try with_reducible rfl)
    try simp only [Act.put, Array.toArray_toList, List.setIfInBounds_toArray, List.set_cons_zero, List.set_cons_succ]
    refine anyM_free (i := 4) (oi := { dst := some 95, op := _, type := _, pos := _, after := _, guard := _ }) (v := ?_) rfl (by kernel_rfl) (fun _ _ _ h => h) (Or.inl ⟨by kernel_rfl, ?_⟩) (fun _ => hS0) ?_
    rotate_left 1
    · (intro w hSw; (try dsimp only at hSw); go_simp; try with_reducible rfl)
    try simp only [Act.put, Array.toArray_toList, List.setIfInBounds_toArray, List.set_cons_zero, List.set_cons_succ]
    refine anyM_free (i := 5) (oi := { dst := some 96, op := _, type := _, pos := _, after := _, guard := _ }) (v := ?_) rfl (by kernel_rfl) (fun _ _ _ h => h) (Or.inl ⟨by kernel_rfl, ?_⟩) (fun _ => hS0) ?_
    rotate_left 1
    · (intro w hSw; (try dsimp only at hSw); go_simp; try with_reducible rfl)
    try simp only [Act.put, Array.toArray_toList, List.setIfInBounds_toArray, List.set_cons_zero, List.set_cons_succ]
    refine anyM_free (i := 6) (oi := { dst := some 97, op := _, type := _, pos := _, after := _, guard := _ }) (v := ?_) rfl (by kernel_rfl) (fun _ _ _ h => h) (Or.inl ⟨by kernel_rfl, ?_⟩) (fun _ => hS0) ?_
    rotate_left 1
    · (intro w hSw; (try dsimp only at hSw); go_simp; try with_reducible rfl)
    try simp only [Act.put, Array.toArray_toList, List.setIfInBounds_toArray, List.set_cons_zero, List.set_cons_succ]
    refine anyM_take (i := 7) (oi := { dst := some 98, op := _, type := _, pos := _, after := _, guard := _ }) (v := ?_) rfl (by kernel_rfl) (fun _ _ _ h => h) (Or.inl ⟨by kernel_rfl, ?_⟩) hS0 ?_
    rotate_left 1
    · (intro w hSw; (try dsimp only at hSw); go_simp; try with_reducible rfl)
    try simp only [Act.put, Array.toArray_toList, List.setIfInBounds_toArray, List.set_cons_zero, List.set_cons_succ]
    refine anyM_free (i := 8) (oi := { dst := some 99, op := _, type := _, pos := _, after := _, guard := _ }) (v := ?_) rfl (by kernel_rfl) (fun _ _ _ h => h) (Or.inl ⟨by kernel_rfl, ?_⟩) (fun _ => hS0) ?_
    rotate_left 1
    · (intro w hSw; (try dsimp only at hSw); go_simp; try with_reducible rfl)
    try simp only [Act.put, Array.toArray_toList, List.setIfInBounds_toArray, List.set_cons_zero, List.set_cons_succ]
    refine anyM_free (i := 9) (oi := { dst := some 100, op := _, type := _, pos := _, after := _, guard := _ }) (v := ?_) rfl (by kernel_rfl) (fun _ _ _ h => h) (Or.inl ⟨by kernel_rfl, ?_⟩) (fun _ => hS0) ?_
    rotate_left 1
    · (intro w hSw; (try dsimp only at hSw); go_simp; try with_reducible rfl)
    try simp only [Act.put, Array.toArray_toList, List.setIfInBounds_toArray, List.set_cons_zero, List.set_cons_succ]
    refine anyM_one (i := 10) (by kernel_rfl) rfl (fun K hK => ?_)
    go_simp
    refine (width1_calls g 0 c1 gL tAA 64 lp _ HQF.out (by decide) (by decide)).mono ?_
    rintro e wv ⟨rfl, hbv⟩
    have HQF := Lib.hid (HQF.out.below hbv)
    have HX := Lib.hid (HX.out.below hbv HX.out.lt)
    have HBF := Lib.hid (below_then HBF.out hbv)
    have HBB := Lib.hid (HB.out.below HBF.out HB.out.lt)
    have hS0 : (fun w' : World => w'.cell? ⟨gB, 7, none⟩ = some (.int .i64 100) ∧ w'.cell? ⟨gB, 6, none⟩ = some (.int .i64 0)) wv := ⟨HBB.out.cell 7, HBB.out.cell 6⟩
    clear hbv
    refine hK.out _ _ (fun _ => hS0) ?_
    clear hK K
    try simp only [Act.put, Array.toArray_toList, List.setIfInBounds_toArray, List.set_cons_zero, List.set_cons_succ]
    refine anyM_free (i := 11) (oi := { dst := some 102, op := _, type := _, pos := _, after := _, guard := _ }) (v := ?_) rfl (by kernel_rfl) (fun _ _ _ h => h) (Or.inl ⟨by kernel_rfl, ?_⟩) (fun _ => hS0) ?_
    rotate_left 1
    · (intro w hSw; (try dsimp only at hSw); go_simp; try with_reducible rfl)
    try simp only [Act.put, Array.toArray_toList, List.setIfInBounds_toArray, List.set_cons_zero, List.set_cons_succ]
    refine anyM_free (i := 12) (oi := { dst := some 103, op := _, type := _, pos := _, after := _, guard := _ }) (v := ?_) rfl (by kernel_rfl) (fun _ _ _ h => h) (Or.inl ⟨by kernel_rfl, ?_⟩) (fun _ => hS0) ?_
    rotate_left 1
    · (intro w hSw; (try dsimp only at hSw); go_simp; try with_reducible rfl)
    try simp only [Act.put, Array.toArray_toList, List.setIfInBounds_toArray, List.set_cons_zero, List.set_cons_succ]
    refine anyM_free (i := 13) (oi := { dst := some 11, op := _, type := _, pos := _, after := _, guard := _ }) (v := ?_) rfl (by kernel_rfl) (fun _ _ _ h => h) (Or.inl ⟨by kernel_rfl, ?_⟩) (fun _ => hS0) ?_
    rotate_left 1
    · (intro w hSw; (try dsimp only at hSw); go_simp; try with_reducible rfl)
    try simp only [Act.put, Array.toArray_toList, List.setIfInBounds_toArray, List.set_cons_zero, List.set_cons_succ]
    refine anyM_done (by kernel_rfl) ?_ _
    refine NoPanic.normal ?_
    clear hS0
    have a4 : (wv.alloc (.cells #[.int .i64 0] 3)).cell? ⟨gB, 4, none⟩ = some (.int .i64 0) := (HBB.out.alloc _).cell 4
    have hmk : ∀ w, (Instr.makeSlice 83 (.int .i64 1) (.int .i64 1)).run Try.prog w = .ok (.slice (some ⟨w.heap.size, 0, none⟩) 1 1) (w.alloc (.cells #[.int .i64 0] 3)) := fun _ => by kernel_rfl
    go_wp2_with fail
    clear hmk
    have HQG := Lib.hid (HQF.out.below (below_alloc (Below.refl wv.heap.size wv) (.cells #[.int .i64 0] 3)))
    have HXG := Lib.hid (HX.out.alloc (.cells #[.int .i64 0] 3))
    have HBG := Lib.hid (below_then HBF.out (below_alloc (Below.refl wv.heap.size wv) (.cells #[.int .i64 0] 3)))
    have HGG := Lib.hid (Blk.new wv 3 #[.int .i64 0])
    have HNG : Hid (wv.heap.size ≠ gX) := Nat.ne_of_gt HX.out.lt
    clear HQF HX HBF HBB a4
    obtain ⟨gG, hgG⟩ : ∃ x, x = wv.heap.size := ⟨_, rfl⟩
    generalize World.alloc wv _ = wg at HQG HXG HBG HGG ⊢
    rw [← hgG] at HGG HNG ⊢
    clear hgG
    refine wp_loop_rounds 2 ?_
    rw [rounds_succ]
    have q0 := HQG.out.c0
    have q1 := HQG.out.c1
    have q2 := HQG.out.c2
    have q3 := HQG.out.c3
    have q4 := HQG.out.c4
    have HIG := Lib.hid (HI.out.below HBG.out HI.out.lt)
    have k0 : (wg.alloc (.cells #[.pointer (some ⟨gL, 0, none⟩), .int .i64 0, .string tAA, .int .i64 64, .bool lp] 54)).cell? ⟨gL, 0, none⟩ = some (.int .i64 1) := (HIG.out.alloc _).cell 0
    have HV := Lib.hid (Blk.new wg 54 #[.pointer (some ⟨gL, 0, none⟩), .int .i64 0, .string tAA, .int .i64 64, .bool lp])
    have HX := Lib.hid (HXG.out.alloc (.cells #[.pointer (some ⟨gL, 0, none⟩), .int .i64 0, .string tAA, .int .i64 64, .bool lp] 54))
    have HGG := Lib.hid (HGG.out.alloc (.cells #[.pointer (some ⟨gL, 0, none⟩), .int .i64 0, .string tAA, .int .i64 64, .bool lp] 54))
    have HBW := Lib.hid (below_then HBG.out (below_alloc (Below.refl wg.heap.size wg) (.cells #[.pointer (some ⟨gL, 0, none⟩), .int .i64 0, .string tAA, .int .i64 64, .bool lp] 54)))
    have HNV : Hid (wg.heap.size ≠ gX) := Nat.ne_of_gt HXG.out.lt
    clear HQG HXG HBG HIG
    go_upto_region 32 with fail
    clear q0 q1 q2 q3 q4 k0
    obtain ⟨gW, hgW⟩ : ∃ x, x = wg.heap.size := ⟨_, rfl⟩
    generalize World.alloc wg _ = wh at HV HX HGG HBW ⊢
    rw [← hgW] at HV HNV ⊢
    clear hgW
    have HV := Lib.hid HV.out.drew
    have HX := Lib.hid HX.out.drew
    have HGG := Lib.hid HGG.out.drew
    have HBW := Lib.hid (show Below w.heap.size w wh.drew from below_drewN HBW.out 1)
    have hS0 : (fun w' : World => w'.cell? ⟨gX, 5, none⟩ = some (.slice none 0 0) ∧ w'.cell? ⟨gW, 1, none⟩ = some (.int .i64 0) ∧ w'.cell? ⟨gW, 3, none⟩ = some (.int .i64 64) ∧ w'.cell? ⟨gW, 2, none⟩ = some (.string tAA)) wh.drew := ⟨HX.out.cell 5, HV.out.cell 1, HV.out.cell 3, HV.out.cell 2⟩
    refine wp_region_noPanic ?_
    refine region_M (S := fun w' => w'.cell? ⟨gX, 5, none⟩ = some (.slice none 0 0) ∧ w'.cell? ⟨gW, 1, none⟩ = some (.int .i64 0) ∧ w'.cell? ⟨gW, 3, none⟩ = some (.int .i64 64) ∧ w'.cell? ⟨gW, 2, none⟩ = some (.string tAA)) (T := [15]) (by kernel_rfl) ?_
    generalize World.drew wh = wi at HX HV HGG HBW hS0 ⊢
    refine anyM_free (i := 0) (oi := { dst := some 172, op := _, type := _, pos := _, after := _, guard := _ }) (v := ?_) rfl (by kernel_rfl) (fun _ _ _ h => h) (Or.inl ⟨by kernel_rfl, ?_⟩) (fun _ => hS0) ?_
    rotate_left 1
    · (intro w hSw; (try dsimp only at hSw); go_simp; try with_reducible rfl)
    try simp only [Act.put, Array.toArray_toList, List.setIfInBounds_toArray, List.set_cons_zero, List.set_cons_succ]
    refine anyM_take (i := 1) (oi := { dst := some 173, op := _, type := _, pos := _, after := _, guard := _ }) (v := ?_) rfl (by kernel_rfl) (fun _ _ _ h => h) (Or.inl ⟨by kernel_rfl, ?_⟩) hS0 ?_
    rotate_left 1
    · (intro w hSw; (try dsimp only at hSw); go_simp; try with_reducible rfl)
    try simp only [Act.put, Array.toArray_toList, List.setIfInBounds_toArray, List.set_cons_zero, List.set_cons_succ]
    refine anyM_free (i := 2) (oi := { dst := some 174, op := _, type := _, pos := _, after := _, guard := _ }) (v := ?_) rfl (by kernel_rfl) (fun _ _ _ h => h) (Or.inl ⟨by kernel_rfl, ?_⟩) (fun _ => hS0) ?_
    rotate_left 1
    · (intro w hSw; (try dsimp only at hSw); go_simp; try with_reducible rfl)
    try simp only [Act.put, Array.toArray_toList, List.setIfInBounds_toArray, List.set_cons_zero, List.set_cons_succ]
    refine anyM_take (i := 3) (oi := { dst := some 175, op := _, type := _, pos := _, after := _, guard := _ }) (v := ?_) rfl (by kernel_rfl) (fun _ _ _ h => h) (Or.inl ⟨by kernel_rfl, ?_⟩) hS0 ?_
    rotate_left 1
    · (intro w hSw; (try dsimp only at hSw); go_simp; try with_reducible rfl)
    try simp only [Act.put, Array.toArray_toList, List.setIfInBounds_toArray, List.set_cons_zero, List.set_cons_succ]
    refine anyM_free (i := 4) (oi := { dst := some 176, op := _, type := _, pos := _, after := _, guard := _ }) (v := ?_) rfl (by kernel_rfl) (fun _ _ _ h => h) (Or.inl ⟨by kernel_rfl, ?_⟩) (fun _ => hS0) ?_
    rotate_left 1
    · (intro w hSw; (try dsimp only at hSw); go_simp; try with_reducible rfl)
    try simp only [Act.put, Array.toArray_toList, List.setIfInBounds_toArray, List.set_cons_zero, List.set_cons_succ]
    refine anyM_free (i := 6) (oi := { dst := some 178, op := _, type := _, pos := _, after := _, guard := _ }) (v := ?_) rfl (by kernel_rfl) (fun _ _ _ h => h) (Or.inl ⟨by kernel_rfl, ?_⟩) (fun _ => hS0) ?_
    rotate_left 1
    · (intro w hSw; (try dsimp only at hSw); go_simp; try with_reducible rfl)
    try simp only [Act.put, Array.toArray_toList, List.setIfInBounds_toArray, List.set_cons_zero, List.set_cons_succ]
    refine anyM_take (i := 7) (oi := { dst := some 179, op := _, type := _, pos := _, after := _, guard := _ }) (v := ?_) rfl (by kernel_rfl) (fun _ _ _ h => h) (Or.inl ⟨by kernel_rfl, ?_⟩) hS0 ?_
    rotate_left 1
    · (intro w hSw; (try dsimp only at hSw); go_simp; try with_reducible rfl)
    try simp only [Act.put, Array.toArray_toList, List.setIfInBounds_toArray, List.set_cons_zero, List.set_cons_succ]
    refine anyM_free (i := 9) (oi := { dst := some 181, op := _, type := _, pos := _, after := _, guard := _ }) (v := ?_) rfl (by kernel_rfl) (fun _ _ _ h => h) (Or.inl ⟨by kernel_rfl, ?_⟩) (fun _ => hS0) ?_
    rotate_left 1
    · (intro w hSw; (try dsimp only at hSw); go_simp; try with_reducible rfl)
    try simp only [Act.put, Array.toArray_toList, List.setIfInBounds_toArray, List.set_cons_zero, List.set_cons_succ]
    refine anyM_take (i := 10) (oi := { dst := some 182, op := _, type := _, pos := _, after := _, guard := _ }) (v := ?_) rfl (by kernel_rfl) (fun _ _ _ h => h) (Or.inl ⟨by kernel_rfl, ?_⟩) hS0 ?_
    rotate_left 1
    · (intro w hSw; (try dsimp only at hSw); go_simp; try with_reducible rfl)
    try simp only [Act.put, Array.toArray_toList, List.setIfInBounds_toArray, List.set_cons_zero, List.set_cons_succ]
    refine anyM_one (i := 5) (by kernel_rfl) rfl (fun K hK => ?_)
    go_simp
    refine (HC.out 0 (by decide) (by decide) _).mono ?_
    rintro e w' ⟨rfl, rfl⟩
    refine hK.out _ _ (fun _ => hS0) ?_
    clear hK K
    try simp only [Act.put, Array.toArray_toList, List.setIfInBounds_toArray, List.set_cons_zero, List.set_cons_succ]
    refine anyM_one (i := 8) (by kernel_rfl) rfl (fun K hK => ?_)
    go_simp
    refine (HC.out 64 (by decide) (by decide) _).mono ?_
    rintro e w' ⟨rfl, rfl⟩
    refine hK.out _ _ (fun _ => hS0) ?_
    clear hK K
    try simp only [Act.put, Array.toArray_toList, List.setIfInBounds_toArray, List.set_cons_zero, List.set_cons_succ]
    refine anyM_free (i := 11) (oi := { dst := some 183, op := _, type := _, pos := _, after := _, guard := _ }) (v := ?_) rfl (by kernel_rfl) (fun _ _ _ h => h) (Or.inl ⟨by kernel_rfl, ?_⟩) (fun _ => hS0) ?_
    rotate_left 1
    · (intro w hSw; (try dsimp only at hSw); go_simp; try with_reducible rfl)
    try simp only [Act.put, Array.toArray_toList, List.setIfInBounds_toArray, List.set_cons_zero, List.set_cons_succ]
    refine anyM_one (i := 12) (by kernel_rfl) rfl (fun K hK => ?_)
    go_simp
    generalize hwx : World.alloc wi _ = wj
    have BX := Lib.hid (show Blk wj wi.heap.size 36 #[.int .i64 0, .int .i64 0, .int .i64 64, .string tAA] from hwx ▸ Blk.new _ _ _)
    have hbx : Below wi.heap.size wi wj := hwx ▸ below_alloc (Below.refl _ _) _
    have HX := Lib.hid (HX.out.below hbx HX.out.lt)
    have HV := Lib.hid (HV.out.below hbx HV.out.lt)
    have HGG := Lib.hid (HGG.out.below hbx HGG.out.lt)
    have HBW := Lib.hid (below_then HBW.out hbx)
    have hS0 : (fun w' : World => w'.cell? ⟨gX, 5, none⟩ = some (.slice none 0 0) ∧ w'.cell? ⟨gW, 1, none⟩ = some (.int .i64 0) ∧ w'.cell? ⟨gW, 3, none⟩ = some (.int .i64 64) ∧ w'.cell? ⟨gW, 2, none⟩ = some (.string tAA)) wj := ⟨HX.out.cell 5, HV.out.cell 1, HV.out.cell 3, HV.out.cell 2⟩
    clear hbx hwx
    refine hK.out _ _ (fun _ => hS0) ?_
    clear hK K
    try simp only [Act.put, Array.toArray_toList, List.setIfInBounds_toArray, List.set_cons_zero, List.set_cons_succ]
    refine anyM_one (i := 13) (by kernel_rfl) rfl (fun K hK => ?_)
    refine step_append_lies (by rfl) _ _ 32 (by rfl) w.heap.size 36 iP (.agg #[.int .i64 0, .int .i64 0, .int .i64 0, .string ⟨#[]⟩]) 4 40 Try.underlying32 hPb hPz0 hPz1 hPz2 rfl (by decide) (.slice none 0 0) 0 [] (by rfl) (World.ownsRow_nil _ _ _ _) ⟨wi.heap.size, 0, none⟩ 1 1 pieceC.toList (by rfl) rfl (blk_adds BX.out) piece_one (by omega) (by unfold maxLen; omega) (by omega) HBW.out.size _ rfl ?_
    intro gp cc wk ok hgk hatk hltk
    have hbk : Below wj.heap.size wj wk := (Below.refl _ _).grown hgk (Nat.le_refl _) (fun k hk => by cases hk)
    have HX := Lib.hid (HX.out.below hbk HX.out.lt)
    have HV := Lib.hid (HV.out.below hbk HV.out.lt)
    have HGG := Lib.hid (HGG.out.below hbk HGG.out.lt)
    have HBW := Lib.hid (below_then HBW.out hbk)
    have HPC := Lib.hid ok
    have hS0 : (fun w' : World => w'.cell? ⟨gX, 5, none⟩ = some (.slice none 0 0) ∧ w'.cell? ⟨gW, 1, none⟩ = some (.int .i64 0) ∧ w'.cell? ⟨gW, 3, none⟩ = some (.int .i64 64) ∧ w'.cell? ⟨gW, 2, none⟩ = some (.string tAA)) wk := ⟨HX.out.cell 5, HV.out.cell 1, HV.out.cell 3, HV.out.cell 2⟩
    have a5 : wk.cell? ⟨gX, 5, none⟩ = some (.slice none 0 0) := HX.out.cell 5
    have z5 : wk.frozen? ⟨gX, 5, none⟩ = false := HX.out.free 5
    clear ok hgk hatk hltk hbk
    refine hK.out _ _ (fun _ => hS0) ?_
    clear hK K
    try simp only [Act.put, Array.toArray_toList, List.setIfInBounds_toArray, List.set_cons_zero, List.set_cons_succ]
    refine anyM_free (i := 14) (oi := { dst := some 186, op := _, type := _, pos := _, after := _, guard := _ }) (v := ?_) rfl (by kernel_rfl) (fun _ _ _ h => h) (Or.inl ⟨by kernel_rfl, ?_⟩) (fun _ => hS0) ?_
    rotate_left 1
    · (intro w hSw; (try dsimp only at hSw); go_simp; try with_reducible rfl)
    try simp only [Act.put, Array.toArray_toList, List.setIfInBounds_toArray, List.set_cons_zero, List.set_cons_succ]
    refine anyM_one (i := 15) (by kernel_rfl) rfl (fun K hK => ?_)
    go_simp
    have HNP := Lib.hid (blk_ne HX.out HPC.out (by decide))
    have HPC := Lib.hid (own_setFar (j := 5) (u := .slice (some ⟨gp, 0, none⟩) (0 + 1) cc) HPC.out HNP.out)
    have HV := Lib.hid (HV.out.far HNV.out (i := 5) (.slice (some ⟨gp, 0, none⟩) (0 + 1) cc))
    have HGG := Lib.hid (HGG.out.far HNG.out (i := 5) (.slice (some ⟨gp, 0, none⟩) (0 + 1) cc))
    have HBW := Lib.hid (show Below w.heap.size w (wk.setCell ⟨gX, 5, none⟩ (.slice (some ⟨gp, 0, none⟩) (0 + 1) cc)) from below_set HBW.out HGX.out _)
    have HX := Lib.hid (HX.out.stored 5 (.slice (some ⟨gp, 0, none⟩) (0 + 1) cc))
    clear a5 z5 HNP
    generalize World.setCell wk _ _ = wl at HX HV HGG HBW HPC ⊢
    refine hK.out _ _ (fun h => late_no h (by kernel_rfl)) ?_
    clear hK K
    try simp only [Act.put, Array.toArray_toList, List.setIfInBounds_toArray, List.set_cons_zero, List.set_cons_succ]
    refine anyM_done (by kernel_rfl) ?_ _
    refine NoPanic.normal ?_
    clear hS0
    go_upto_region 33 with fail
    have HX := Lib.hid HX.out.drew
    have HBW := Lib.hid (show Below w.heap.size w wl.drew from below_drewN HBW.out 1)
    have HPC := Lib.hid (show World.ownsRow (World.drew wl) _ _ _ _ _ _ from HPC.out)
    have hS0 : (fun w' : World => w'.cell? ⟨gW, 3, none⟩ = some (.int .i64 64) ∧ w'.cell? ⟨gG, 0, none⟩ = some (.int .i64 0)) wl.drew := ⟨HV.out.drew.cell 3, HGG.out.drew.cell 0⟩
    have hw64 : IntKind.i64.wrap 64 = 64 := by decide
    have hw0 : IntKind.i64.wrap 0 = 0 := by decide
    have hw1 : IntKind.i64.wrap 1 = 1 := by decide
    clear HV HGG
    refine wp_region_noPanic ?_
    refine region_M (S := fun w' => w'.cell? ⟨gW, 3, none⟩ = some (.int .i64 64) ∧ w'.cell? ⟨gG, 0, none⟩ = some (.int .i64 0)) (T := []) (by kernel_rfl) ?_
    generalize World.drew wl = wm2 at HX HBW HPC hS0 ⊢
    refine anyM_free (i := 0) (oi := { dst := some 187, op := _, type := _, pos := _, after := _, guard := _ }) (v := ?_) rfl (by kernel_rfl) (fun _ _ _ h => h) (Or.inl ⟨by kernel_rfl, ?_⟩) (fun _ => hS0) ?_
    rotate_left 1
    · (intro w hSw; (try dsimp only at hSw); go_simp; try with_reducible rfl)
    try simp only [Act.put, Array.toArray_toList, List.setIfInBounds_toArray, List.set_cons_zero, List.set_cons_succ]
    refine anyM_free (i := 1) (oi := { dst := some 188, op := _, type := _, pos := _, after := _, guard := _ }) (v := ?_) rfl (by kernel_rfl) (fun _ _ _ h => h) (Or.inl ⟨by kernel_rfl, ?_⟩) (fun _ => hS0) ?_
    rotate_left 1
    · (intro w hSw; (try dsimp only at hSw); go_simp; try with_reducible rfl)
    try simp only [Act.put, Array.toArray_toList, List.setIfInBounds_toArray, List.set_cons_zero, List.set_cons_succ]
    refine anyM_take (i := 2) (oi := { dst := some 189, op := _, type := _, pos := _, after := _, guard := _ }) (v := ?_) rfl (by kernel_rfl) (fun _ _ _ h => h) (Or.inl ⟨by kernel_rfl, ?_⟩) hS0 ?_
    rotate_left 1
    · (intro w hSw; (try dsimp only at hSw); go_simp; try with_reducible rfl)
    try simp only [Act.put, Array.toArray_toList, List.setIfInBounds_toArray, List.set_cons_zero, List.set_cons_succ]
    refine anyM_free (i := 3) (oi := { dst := some 190, op := _, type := _, pos := _, after := _, guard := _ }) (v := ?_) rfl (by kernel_rfl) (fun _ _ _ h => h) (Or.inl ⟨by kernel_rfl, ?_⟩) (fun _ => hS0) ?_
    rotate_left 1
    · (intro w hSw; (try dsimp only at hSw); go_simp; try with_reducible rfl)
    try simp only [Act.put, Array.toArray_toList, List.setIfInBounds_toArray, List.set_cons_zero, List.set_cons_succ]
    refine anyM_free (i := 4) (oi := { dst := some 191, op := _, type := _, pos := _, after := _, guard := _ }) (v := ?_) rfl (by kernel_rfl) (fun _ _ _ h => h) (Or.inl ⟨by kernel_rfl, ?_⟩) (fun _ => hS0) ?_
    rotate_left 1
    · (intro w hSw; (try dsimp only at hSw); go_simp; try with_reducible rfl)
    try simp only [Act.put, Array.toArray_toList, List.setIfInBounds_toArray, List.set_cons_zero, List.set_cons_succ]
    refine anyM_free (i := 5) (oi := { dst := some 192, op := _, type := _, pos := _, after := _, guard := _ }) (v := ?_) rfl (by kernel_rfl) (fun _ _ _ h => h) (Or.inl ⟨by kernel_rfl, ?_⟩) (fun _ => hS0) ?_
    rotate_left 1
    · (intro w hSw; (try dsimp only at hSw); go_simp; try with_reducible rfl)
    try simp only [Act.put, Array.toArray_toList, List.setIfInBounds_toArray, List.set_cons_zero, List.set_cons_succ]
    refine anyM_take (i := 6) (oi := { dst := some 193, op := _, type := _, pos := _, after := _, guard := _ }) (v := ?_) rfl (by kernel_rfl) (fun _ _ _ h => h) (Or.inl ⟨by kernel_rfl, ?_⟩) hS0 ?_
    rotate_left 1
    · (intro w hSw; (try dsimp only at hSw); go_simp; try with_reducible rfl)
    try simp only [Act.put, Array.toArray_toList, List.setIfInBounds_toArray, List.set_cons_zero, List.set_cons_succ]
    refine anyM_free (i := 7) (oi := { dst := some 194, op := _, type := _, pos := _, after := _, guard := _ }) (v := ?_) rfl (by kernel_rfl) (fun _ _ _ h => h) (Or.inl ⟨by kernel_rfl, ?_⟩) (fun _ => hS0) ?_
    rotate_left 1
    · (intro w hSw; (try dsimp only at hSw); go_simp; try with_reducible rfl)
    try simp only [Act.put, Array.toArray_toList, List.setIfInBounds_toArray, List.set_cons_zero, List.set_cons_succ]
    refine anyM_free (i := 8) (oi := { dst := some 195, op := _, type := _, pos := _, after := _, guard := _ }) (v := ?_) rfl (by kernel_rfl) (fun _ _ _ h => h) (Or.inl ⟨by kernel_rfl, ?_⟩) (fun _ => hS0) ?_
    rotate_left 1
    · (intro w hSw; (try dsimp only at hSw); go_simp; try with_reducible rfl)
    try simp only [Act.put, Array.toArray_toList, List.setIfInBounds_toArray, List.set_cons_zero, List.set_cons_succ]
    refine anyM_free (i := 9) (oi := { dst := some 15, op := _, type := _, pos := _, after := _, guard := _ }) (v := ?_) rfl (by kernel_rfl) (fun _ _ _ h => h) (Or.inl ⟨by kernel_rfl, ?_⟩) (fun _ => hS0) ?_
    rotate_left 1
    · (intro w hSw; (try dsimp only at hSw); go_simp; try with_reducible rfl)
    try simp only [Act.put, Array.toArray_toList, List.setIfInBounds_toArray, List.set_cons_zero, List.set_cons_succ]
    refine anyM_done (by kernel_rfl) ?_ _
    refine NoPanic.normal ?_
    clear hS0
    go_wp2_with fail
    rw [rounds_succ]
    go_upto_region 35 with fail
    have HX := Lib.hid HX.out.drew
    have HBW := Lib.hid (show Below w.heap.size w wm2.drew from below_drewN HBW.out 1)
    have HPC := Lib.hid (show World.ownsRow (World.drew wm2) _ _ _ _ _ _ from HPC.out)
    have hS0 : (fun w' : World => w'.cell? ⟨gX, 0, none⟩ = some (.int .i64 0) ∧ w'.cell? ⟨gX, 1, none⟩ = some (.int .i64 y) ∧ w'.cell? ⟨gX, 3, none⟩ = some (.int .i64 80) ∧ w'.cell? ⟨gX, 4, none⟩ = some (.int .i64 56)) wm2.drew := ⟨HX.out.cell 0, HX.out.cell 1, HX.out.cell 3, HX.out.cell 4⟩
    have a0 : wm2.drew.cell? ⟨gX, 0, none⟩ = some (.int .i64 0) := HX.out.cell 0
    have z0 : wm2.drew.frozen? ⟨gX, 0, none⟩ = false := HX.out.free 0
    refine wp_region_noPanic ?_
    refine region_M (S := fun w' => w'.cell? ⟨gX, 0, none⟩ = some (.int .i64 0) ∧ w'.cell? ⟨gX, 1, none⟩ = some (.int .i64 y) ∧ w'.cell? ⟨gX, 3, none⟩ = some (.int .i64 80) ∧ w'.cell? ⟨gX, 4, none⟩ = some (.int .i64 56)) (T := [15, 17, 19, 21, 23]) (by kernel_rfl) ?_
    generalize World.drew wm2 = wn at HX HBW HPC hS0 a0 z0 ⊢
    refine anyM_free (i := 0) (oi := { dst := some 197, op := _, type := _, pos := _, after := _, guard := _ }) (v := ?_) rfl (by kernel_rfl) (fun _ _ _ h => h) (Or.inl ⟨by kernel_rfl, ?_⟩) (fun _ => hS0) ?_
    rotate_left 1
    · (intro w hSw; (try dsimp only at hSw); go_simp; try with_reducible rfl)
    try simp only [Act.put, Array.toArray_toList, List.setIfInBounds_toArray, List.set_cons_zero, List.set_cons_succ]
    refine anyM_take (i := 1) (oi := { dst := some 198, op := _, type := _, pos := _, after := _, guard := _ }) (v := ?_) rfl (by kernel_rfl) (fun _ _ _ h => h) (Or.inl ⟨by kernel_rfl, ?_⟩) hS0 ?_
    rotate_left 1
    · (intro w hSw; (try dsimp only at hSw); go_simp; try with_reducible rfl)
    try simp only [Act.put, Array.toArray_toList, List.setIfInBounds_toArray, List.set_cons_zero, List.set_cons_succ]
    refine anyM_free (i := 3) (oi := { dst := some 200, op := _, type := _, pos := _, after := _, guard := _ }) (v := ?_) rfl (by kernel_rfl) (fun _ _ _ h => h) (Or.inl ⟨by kernel_rfl, ?_⟩) (fun _ => hS0) ?_
    rotate_left 1
    · (intro w hSw; (try dsimp only at hSw); go_simp; try with_reducible rfl)
    try simp only [Act.put, Array.toArray_toList, List.setIfInBounds_toArray, List.set_cons_zero, List.set_cons_succ]
    refine anyM_free (i := 5) (oi := { dst := some 202, op := _, type := _, pos := _, after := _, guard := _ }) (v := ?_) rfl (by kernel_rfl) (fun _ _ _ h => h) (Or.inl ⟨by kernel_rfl, ?_⟩) (fun _ => hS0) ?_
    rotate_left 1
    · (intro w hSw; (try dsimp only at hSw); go_simp; try with_reducible rfl)
    try simp only [Act.put, Array.toArray_toList, List.setIfInBounds_toArray, List.set_cons_zero, List.set_cons_succ]
    refine anyM_take (i := 6) (oi := { dst := some 203, op := _, type := _, pos := _, after := _, guard := _ }) (v := ?_) rfl (by kernel_rfl) (fun _ _ _ h => h) (Or.inl ⟨by kernel_rfl, ?_⟩) hS0 ?_
    rotate_left 1
    · (intro w hSw; (try dsimp only at hSw); go_simp; try with_reducible rfl)
    try simp only [Act.put, Array.toArray_toList, List.setIfInBounds_toArray, List.set_cons_zero, List.set_cons_succ]
    refine anyM_free (i := 8) (oi := { dst := some 205, op := _, type := _, pos := _, after := _, guard := _ }) (v := ?_) rfl (by kernel_rfl) (fun _ _ _ h => h) (Or.inl ⟨by kernel_rfl, ?_⟩) (fun _ => hS0) ?_
    rotate_left 1
    · (intro w hSw; (try dsimp only at hSw); go_simp; try with_reducible rfl)
    try simp only [Act.put, Array.toArray_toList, List.setIfInBounds_toArray, List.set_cons_zero, List.set_cons_succ]
    refine anyM_take (i := 9) (oi := { dst := some 206, op := _, type := _, pos := _, after := _, guard := _ }) (v := ?_) rfl (by kernel_rfl) (fun _ _ _ h => h) (Or.inl ⟨by kernel_rfl, ?_⟩) hS0 ?_
    rotate_left 1
    · (intro w hSw; (try dsimp only at hSw); go_simp; try with_reducible rfl)
    try simp only [Act.put, Array.toArray_toList, List.setIfInBounds_toArray, List.set_cons_zero, List.set_cons_succ]
    refine anyM_free (i := 11) (oi := { dst := some 208, op := _, type := _, pos := _, after := _, guard := _ }) (v := ?_) rfl (by kernel_rfl) (fun _ _ _ h => h) (Or.inl ⟨by kernel_rfl, ?_⟩) (fun _ => hS0) ?_
    rotate_left 1
    · (intro w hSw; (try dsimp only at hSw); go_simp; try with_reducible rfl)
    try simp only [Act.put, Array.toArray_toList, List.setIfInBounds_toArray, List.set_cons_zero, List.set_cons_succ]
    refine anyM_take (i := 12) (oi := { dst := some 209, op := _, type := _, pos := _, after := _, guard := _ }) (v := ?_) rfl (by kernel_rfl) (fun _ _ _ h => h) (Or.inl ⟨by kernel_rfl, ?_⟩) hS0 ?_
    rotate_left 1
    · (intro w hSw; (try dsimp only at hSw); go_simp; try with_reducible rfl)
    try simp only [Act.put, Array.toArray_toList, List.setIfInBounds_toArray, List.set_cons_zero, List.set_cons_succ]
    refine anyM_one (i := 2) (by kernel_rfl) rfl (fun K hK => ?_)
    go_simp
    refine (HC.out 0 (by decide) (by decide) _).mono ?_
    rintro e w' ⟨rfl, rfl⟩
    refine hK.out _ _ (fun _ => hS0) ?_
    clear hK K
    try simp only [Act.put, Array.toArray_toList, List.setIfInBounds_toArray, List.set_cons_zero, List.set_cons_succ]
    refine anyM_free (i := 14) (oi := { dst := some 211, op := _, type := _, pos := _, after := _, guard := _ }) (v := ?_) rfl (by kernel_rfl) (fun _ _ _ h => h) (Or.inl ⟨by kernel_rfl, ?_⟩) (fun _ => hS0) ?_
    rotate_left 1
    · (intro w hSw; (try dsimp only at hSw); go_simp; try with_reducible rfl)
    try simp only [Act.put, Array.toArray_toList, List.setIfInBounds_toArray, List.set_cons_zero, List.set_cons_succ]
    refine anyM_one (i := 4) (by kernel_rfl) rfl (fun K hK => ?_)
    go_simp
    refine (HC.out 64 (by decide) (by decide) _).mono ?_
    rintro e w' ⟨rfl, rfl⟩
    refine hK.out _ _ (fun _ => hS0) ?_
    clear hK K
    try simp only [Act.put, Array.toArray_toList, List.setIfInBounds_toArray, List.set_cons_zero, List.set_cons_succ]
    refine anyM_one (i := 7) (by kernel_rfl) rfl (fun K hK => ?_)
    go_simp
    refine (HC.out y hy0 hy1 _).mono ?_
    rintro e w' ⟨rfl, rfl⟩
    refine hK.out _ _ (fun _ => hS0) ?_
    clear hK K
    try simp only [Act.put, Array.toArray_toList, List.setIfInBounds_toArray, List.set_cons_zero, List.set_cons_succ]
    refine anyM_one (i := 10) (by kernel_rfl) rfl (fun K hK => ?_)
    go_simp
    refine (HC.out 80 (by decide) (by decide) _).mono ?_
    rintro e w' ⟨rfl, rfl⟩
    refine hK.out _ _ (fun _ => hS0) ?_
    clear hK K
    try simp only [Act.put, Array.toArray_toList, List.setIfInBounds_toArray, List.set_cons_zero, List.set_cons_succ]
    refine anyM_one (i := 13) (by kernel_rfl) rfl (fun K hK => ?_)
    go_simp
    refine (HC.out 56 (by decide) (by decide) _).mono ?_
    rintro e w' ⟨rfl, rfl⟩
    refine hK.out _ _ (fun _ => hS0) ?_
    clear hK K
    try simp only [Act.put, Array.toArray_toList, List.setIfInBounds_toArray, List.set_cons_zero, List.set_cons_succ]
    refine anyM_one (i := 15) (by kernel_rfl) rfl (fun K hK => ?_)
    go_simp
    have HPC := Lib.hid (own_setFar (j := 0) (u := .int .i64 0) HPC.out (blk_ne HX.out HPC.out (by decide)))
    have HBW := Lib.hid (show Below w.heap.size w (World.setCell wn ⟨gX, 0, none⟩ (.int .i64 0)) from below_set HBW.out HGX.out _)
    have HX := Lib.hid (HX.out.stored 0 (.int .i64 0))
    clear a0 z0
    generalize World.setCell wn _ _ = wo0 at HX HBW HPC ⊢
    have a2 : wo0.cell? ⟨gX, 2, none⟩ = some (.int .i64 0) := HX.out.cell 2
    have z2 : wo0.frozen? ⟨gX, 2, none⟩ = false := HX.out.free 2
    refine hK.out _ _ (fun h => late_no h (by kernel_rfl)) ?_
    clear hK K
    try simp only [Act.put, Array.toArray_toList, List.setIfInBounds_toArray, List.set_cons_zero, List.set_cons_succ]
    refine anyM_freeL (i := 16) (oi := { dst := some 212, op := _, type := _, pos := _, after := _, guard := _ }) (v := ?_) rfl (by kernel_rfl) (fun _ _ _ h => h) (Or.inl ⟨by kernel_rfl, ?_⟩) ?_
    rotate_left 1
    · (intro w hSw; (try dsimp only at hSw); go_simp; try with_reducible rfl)
    try simp only [Act.put, Array.toArray_toList, List.setIfInBounds_toArray, List.set_cons_zero, List.set_cons_succ]
    refine anyM_one (i := 17) (by kernel_rfl) rfl (fun K hK => ?_)
    go_simp
    have HPC := Lib.hid (own_setFar (j := 2) (u := .int .i64 64) HPC.out (blk_ne HX.out HPC.out (by decide)))
    have HBW := Lib.hid (show Below w.heap.size w (World.setCell wo0 ⟨gX, 2, none⟩ (.int .i64 64)) from below_set HBW.out HGX.out _)
    have HX := Lib.hid (HX.out.stored 2 (.int .i64 64))
    clear a2 z2
    generalize World.setCell wo0 _ _ = wo2 at HX HBW HPC ⊢
    have a1 : wo2.cell? ⟨gX, 1, none⟩ = some (.int .i64 y) := HX.out.cell 1
    have z1 : wo2.frozen? ⟨gX, 1, none⟩ = false := HX.out.free 1
    refine hK.out _ _ (fun h => late_no h (by kernel_rfl)) ?_
    clear hK K
    try simp only [Act.put, Array.toArray_toList, List.setIfInBounds_toArray, List.set_cons_zero, List.set_cons_succ]
    refine anyM_freeL (i := 18) (oi := { dst := some 213, op := _, type := _, pos := _, after := _, guard := _ }) (v := ?_) rfl (by kernel_rfl) (fun _ _ _ h => h) (Or.inl ⟨by kernel_rfl, ?_⟩) ?_
    rotate_left 1
    · (intro w hSw; (try dsimp only at hSw); go_simp; try with_reducible rfl)
    try simp only [Act.put, Array.toArray_toList, List.setIfInBounds_toArray, List.set_cons_zero, List.set_cons_succ]
    refine anyM_one (i := 19) (by kernel_rfl) rfl (fun K hK => ?_)
    go_simp
    have HPC := Lib.hid (own_setFar (j := 1) (u := .int .i64 y) HPC.out (blk_ne HX.out HPC.out (by decide)))
    have HBW := Lib.hid (show Below w.heap.size w (World.setCell wo2 ⟨gX, 1, none⟩ (.int .i64 y)) from below_set HBW.out HGX.out _)
    have HX := Lib.hid (HX.out.stored 1 (.int .i64 y))
    clear a1 z1
    generalize World.setCell wo2 _ _ = wo1 at HX HBW HPC ⊢
    have a3 : wo1.cell? ⟨gX, 3, none⟩ = some (.int .i64 80) := HX.out.cell 3
    have z3 : wo1.frozen? ⟨gX, 3, none⟩ = false := HX.out.free 3
    refine hK.out _ _ (fun h => late_no h (by kernel_rfl)) ?_
    clear hK K
    try simp only [Act.put, Array.toArray_toList, List.setIfInBounds_toArray, List.set_cons_zero, List.set_cons_succ]
    refine anyM_freeL (i := 20) (oi := { dst := some 214, op := _, type := _, pos := _, after := _, guard := _ }) (v := ?_) rfl (by kernel_rfl) (fun _ _ _ h => h) (Or.inl ⟨by kernel_rfl, ?_⟩) ?_
    rotate_left 1
    · (intro w hSw; (try dsimp only at hSw); go_simp; try with_reducible rfl)
    try simp only [Act.put, Array.toArray_toList, List.setIfInBounds_toArray, List.set_cons_zero, List.set_cons_succ]
    refine anyM_one (i := 21) (by kernel_rfl) rfl (fun K hK => ?_)
    go_simp
    have HPC := Lib.hid (own_setFar (j := 3) (u := .int .i64 80) HPC.out (blk_ne HX.out HPC.out (by decide)))
    have HBW := Lib.hid (show Below w.heap.size w (World.setCell wo1 ⟨gX, 3, none⟩ (.int .i64 80)) from below_set HBW.out HGX.out _)
    have HX := Lib.hid (HX.out.stored 3 (.int .i64 80))
    clear a3 z3
    generalize World.setCell wo1 _ _ = wo3 at HX HBW HPC ⊢
    have a4 : wo3.cell? ⟨gX, 4, none⟩ = some (.int .i64 56) := HX.out.cell 4
    have z4 : wo3.frozen? ⟨gX, 4, none⟩ = false := HX.out.free 4
    refine hK.out _ _ (fun h => late_no h (by kernel_rfl)) ?_
    clear hK K
    try simp only [Act.put, Array.toArray_toList, List.setIfInBounds_toArray, List.set_cons_zero, List.set_cons_succ]
    refine anyM_freeL (i := 22) (oi := { dst := some 215, op := _, type := _, pos := _, after := _, guard := _ }) (v := ?_) rfl (by kernel_rfl) (fun _ _ _ h => h) (Or.inl ⟨by kernel_rfl, ?_⟩) ?_
    rotate_left 1
    · (intro w hSw; (try dsimp only at hSw); go_simp; try with_reducible rfl)
    try simp only [Act.put, Array.toArray_toList, List.setIfInBounds_toArray, List.set_cons_zero, List.set_cons_succ]
    refine anyM_one (i := 23) (by kernel_rfl) rfl (fun K hK => ?_)
    go_simp
    have HPC := Lib.hid (own_setFar (j := 4) (u := .int .i64 56) HPC.out (blk_ne HX.out HPC.out (by decide)))
    have HBW := Lib.hid (show Below w.heap.size w (World.setCell wo3 ⟨gX, 4, none⟩ (.int .i64 56)) from below_set HBW.out HGX.out _)
    have HX := Lib.hid (HX.out.stored 4 (.int .i64 56))
    clear a4 z4
    generalize World.setCell wo3 _ _ = wo4 at HX HBW HPC ⊢
    refine hK.out _ _ (fun h => late_no h (by kernel_rfl)) ?_
    clear hK K
    try simp only [Act.put, Array.toArray_toList, List.setIfInBounds_toArray, List.set_cons_zero, List.set_cons_succ]
    refine anyM_done (by kernel_rfl) ?_ _
    refine NoPanic.normal ?_
    clear hS0
    go_upto_region 36 with fail
    have HX := Lib.hid (show Blk wo4.drew gX 34 #[.int .i64 0, .int .i64 y, .int .i64 64, .int .i64 80, .int .i64 56, .slice (some ⟨gp, 0, none⟩) 1 cc, .bool last] from HX.out.drew)
    have HBW := Lib.hid (show Below w.heap.size w wo4.drew from below_drewN HBW.out 1)
    have HPC := Lib.hid (show World.ownsRow (World.drew wo4) _ _ _ _ _ _ from HPC.out)
    have HBB := Lib.hid (HB.out.below HBW.out HB.out.lt)
    have HOC := Lib.hid (own_below HO.out HBW.out)
    have HXA : Hid ((Value.slice A n co).ownBlock ≠ some gX) := fun e => by
      have h1 := (HO.out.lt _ e).2
      have h2 := HGX.out
      omega
    have HFA : Hid (∀ k, (Value.slice (some ⟨gp, 0, none⟩) (0 + 1) cc).ownBlock = some k → (Value.slice A n co).ownBlock ≠ some k) := fun k h1 h2 => by
      rcases own_far HOC.out HPC.out (by decide) with h | h
      · rw [h] at h2; cases h2
      · exact h (h2.trans h1.symm)
    have hS0 : (fun w' : World => w'.cell? ⟨gB, 11, none⟩ = some (.slice A n co) ∧ w'.cell? ⟨gX, 0, none⟩ = some (.int .i64 0) ∧ w'.cell? ⟨gX, 1, none⟩ = some (.int .i64 y) ∧ w'.cell? ⟨gX, 2, none⟩ = some (.int .i64 64) ∧ w'.cell? ⟨gX, 3, none⟩ = some (.int .i64 80) ∧ w'.cell? ⟨gX, 4, none⟩ = some (.int .i64 56) ∧ w'.cell? ⟨gX, 5, none⟩ = some (.slice (some ⟨gp, 0, none⟩) 1 cc) ∧ w'.cell? ⟨gX, 6, none⟩ = some (.bool last)) wo4.drew := ⟨HBB.out.cell 11, HX.out.cell 0, HX.out.cell 1, HX.out.cell 2, HX.out.cell 3, HX.out.cell 4, HX.out.cell 5, HX.out.cell 6⟩
    refine wp_region_noPanic ?_
    refine region_M (S := fun w' => w'.cell? ⟨gB, 11, none⟩ = some (.slice A n co) ∧ w'.cell? ⟨gX, 0, none⟩ = some (.int .i64 0) ∧ w'.cell? ⟨gX, 1, none⟩ = some (.int .i64 y) ∧ w'.cell? ⟨gX, 2, none⟩ = some (.int .i64 64) ∧ w'.cell? ⟨gX, 3, none⟩ = some (.int .i64 80) ∧ w'.cell? ⟨gX, 4, none⟩ = some (.int .i64 56) ∧ w'.cell? ⟨gX, 5, none⟩ = some (.slice (some ⟨gp, 0, none⟩) 1 cc) ∧ w'.cell? ⟨gX, 6, none⟩ = some (.bool last)) (T := [10]) (by kernel_rfl) ?_
    generalize World.drew wo4 = wp at HX HBW HPC HBB HOC hS0 ⊢
    refine anyM_free (i := 0) (oi := { dst := some 216, op := _, type := _, pos := _, after := _, guard := _ }) (v := ?_) rfl (by kernel_rfl) (fun _ _ _ h => h) (Or.inl ⟨by kernel_rfl, ?_⟩) (fun _ => hS0) ?_
    rotate_left 1
    · (intro w hSw; (try dsimp only at hSw); (try obtain ⟨s11, s0, s1, s2, s3, s4, s5, s6⟩ := hSw); go_simp; try with_reducible rfl)
    try simp only [Act.put, Array.toArray_toList, List.setIfInBounds_toArray, List.set_cons_zero, List.set_cons_succ]
    refine anyM_free (i := 1) (oi := { dst := some 217, op := _, type := _, pos := _, after := _, guard := _ }) (v := ?_) rfl (by kernel_rfl) (fun _ _ _ h => h) (Or.inl ⟨by kernel_rfl, ?_⟩) (fun _ => hS0) ?_
    rotate_left 1
    · (intro w hSw; (try dsimp only at hSw); (try obtain ⟨s11, s0, s1, s2, s3, s4, s5, s6⟩ := hSw); go_simp; try with_reducible rfl)
    try simp only [Act.put, Array.toArray_toList, List.setIfInBounds_toArray, List.set_cons_zero, List.set_cons_succ]
    refine anyM_free (i := 2) (oi := { dst := some 218, op := _, type := _, pos := _, after := _, guard := _ }) (v := ?_) rfl (by kernel_rfl) (fun _ _ _ h => h) (Or.inl ⟨by kernel_rfl, ?_⟩) (fun _ => hS0) ?_
    rotate_left 1
    · (intro w hSw; (try dsimp only at hSw); (try obtain ⟨s11, s0, s1, s2, s3, s4, s5, s6⟩ := hSw); go_simp; try with_reducible rfl)
    try simp only [Act.put, Array.toArray_toList, List.setIfInBounds_toArray, List.set_cons_zero, List.set_cons_succ]
    refine anyM_free (i := 3) (oi := { dst := some 219, op := _, type := _, pos := _, after := _, guard := _ }) (v := ?_) rfl (by kernel_rfl) (fun _ _ _ h => h) (Or.inl ⟨by kernel_rfl, ?_⟩) (fun _ => hS0) ?_
    rotate_left 1
    · (intro w hSw; (try dsimp only at hSw); (try obtain ⟨s11, s0, s1, s2, s3, s4, s5, s6⟩ := hSw); go_simp; try with_reducible rfl)
    try simp only [Act.put, Array.toArray_toList, List.setIfInBounds_toArray, List.set_cons_zero, List.set_cons_succ]
    refine anyM_take (i := 4) (oi := { dst := some 220, op := _, type := _, pos := _, after := _, guard := _ }) (v := ?_) rfl (by kernel_rfl) (fun _ _ _ h => h) (Or.inl ⟨by kernel_rfl, ?_⟩) hS0 ?_
    rotate_left 1
    · (intro w hSw; (try dsimp only at hSw); (try obtain ⟨s11, s0, s1, s2, s3, s4, s5, s6⟩ := hSw); go_simp; try with_reducible rfl)
    try simp only [Act.put, Array.toArray_toList, List.setIfInBounds_toArray, List.set_cons_zero, List.set_cons_succ]
    refine anyM_take (i := 5) (oi := { dst := some 221, op := _, type := _, pos := _, after := _, guard := _ }) (v := ?_) rfl (by kernel_rfl) (fun _ _ _ h => h) (Or.inl ⟨by kernel_rfl, ?_⟩) hS0 ?_
    rotate_left 1
    · (intro w hSw; (try dsimp only at hSw); (try obtain ⟨s11, s0, s1, s2, s3, s4, s5, s6⟩ := hSw); go_simp; try with_reducible rfl)
    try simp only [Act.put, Array.toArray_toList, List.setIfInBounds_toArray, List.set_cons_zero, List.set_cons_succ]
    refine anyM_one (i := 6) (by kernel_rfl) rfl (fun K hK => ?_)
    go_simp
    generalize hwx : World.alloc wp _ = wr
    have BX := Lib.hid (show Blk wr wp.heap.size 34 #[.int .i64 0, .int .i64 y, .int .i64 64, .int .i64 80, .int .i64 56, .slice (some ⟨gp, 0, none⟩) 1 cc, .bool last] from hwx ▸ Blk.new _ _ _)
    have hbx : Below wp.heap.size wp wr := hwx ▸ below_alloc (Below.refl _ _) _
    have HX := Lib.hid (HX.out.below hbx HX.out.lt)
    have HBW := Lib.hid (below_then HBW.out hbx)
    have HPC := Lib.hid (own_below HPC.out hbx)
    have HBB := Lib.hid (HBB.out.below hbx HBB.out.lt)
    have HOC := Lib.hid (own_below HOC.out hbx)
    have hS0 : (fun w' : World => w'.cell? ⟨gB, 11, none⟩ = some (.slice A n co) ∧ w'.cell? ⟨gX, 0, none⟩ = some (.int .i64 0) ∧ w'.cell? ⟨gX, 1, none⟩ = some (.int .i64 y) ∧ w'.cell? ⟨gX, 2, none⟩ = some (.int .i64 64) ∧ w'.cell? ⟨gX, 3, none⟩ = some (.int .i64 80) ∧ w'.cell? ⟨gX, 4, none⟩ = some (.int .i64 56) ∧ w'.cell? ⟨gX, 5, none⟩ = some (.slice (some ⟨gp, 0, none⟩) 1 cc) ∧ w'.cell? ⟨gX, 6, none⟩ = some (.bool last)) wr := ⟨HBB.out.cell 11, HX.out.cell 0, HX.out.cell 1, HX.out.cell 2, HX.out.cell 3, HX.out.cell 4, HX.out.cell 5, HX.out.cell 6⟩
    clear hbx hwx
    refine hK.out _ _ (fun _ => hS0) ?_
    clear hK K
    try simp only [Act.put, Array.toArray_toList, List.setIfInBounds_toArray, List.set_cons_zero, List.set_cons_succ]
    refine anyM_one (i := 7) (by kernel_rfl) rfl (fun K hK => ?_)
    refine step_append_lies (by rfl) _ _ 25 (by rfl) base 34 iL (.agg #[.int .i64 0, .int .i64 0, .int .i64 0, .int .i64 0, .int .i64 0, .slice none 0 0, .bool false]) 7 72 Try.underlying25 hLb hLz0 hLz1 hLz2 rfl (by decide) (.slice A n co) n xs (by rfl) HOC.out ⟨wp.heap.size, 0, none⟩ 1 1 (lineC y gp cc last).toList (by rfl) rfl (blk_adds BX.out) (line_one _ _ _ _) (by omega) (by unfold maxLen; omega) (by omega) (Nat.le_trans hbase HBW.out.size) _ rfl ?_
    intro g2 cp wt ot hgt hatt hltt
    have HOT := Lib.hid ot
    have HPC := Lib.hid (own_grown2 HPC.out hgt (fun k h1 h2 => HFA.out _ h1 h2))
    have HBB := Lib.hid (blk_grown HBB.out hgt (blk_ne HBB.out HOC.out (by decide)))
    have HX := Lib.hid (blk_grown HX.out hgt HXA.out)
    have HF := Lib.hid (show Fr gB (.slice A n co) w wt from (Fr.below HBW.out).trans (.inl rfl) (Fr.grown hgt))
    have HAT : Hid ((Value.slice A n co).ownBlock = some g2 ∨ w.heap.size ≤ g2) := hatt.imp_right (fun e => by rw [e]; exact HBW.out.size)
    have hS0 : (fun w' : World => w'.cell? ⟨gB, 11, none⟩ = some (.slice A n co) ∧ w'.cell? ⟨gX, 0, none⟩ = some (.int .i64 0) ∧ w'.cell? ⟨gX, 1, none⟩ = some (.int .i64 y) ∧ w'.cell? ⟨gX, 2, none⟩ = some (.int .i64 64) ∧ w'.cell? ⟨gX, 3, none⟩ = some (.int .i64 80) ∧ w'.cell? ⟨gX, 4, none⟩ = some (.int .i64 56) ∧ w'.cell? ⟨gX, 5, none⟩ = some (.slice (some ⟨gp, 0, none⟩) 1 cc) ∧ w'.cell? ⟨gX, 6, none⟩ = some (.bool last)) wt := ⟨HBB.out.cell 11, HX.out.cell 0, HX.out.cell 1, HX.out.cell 2, HX.out.cell 3, HX.out.cell 4, HX.out.cell 5, HX.out.cell 6⟩
    have a11 : wt.cell? ⟨gB, 11, none⟩ = some (.slice A n co) := HBB.out.cell 11
    have z11 : wt.frozen? ⟨gB, 11, none⟩ = false := HBB.out.free 11
    clear ot hgt hatt hltt
    refine hK.out _ _ (fun _ => hS0) ?_
    clear hK K
    try simp only [Act.put, Array.toArray_toList, List.setIfInBounds_toArray, List.set_cons_zero, List.set_cons_succ]
    refine anyM_free (i := 8) (oi := { dst := some 224, op := _, type := _, pos := _, after := _, guard := _ }) (v := ?_) rfl (by kernel_rfl) (fun _ _ _ h => h) (Or.inl ⟨by kernel_rfl, ?_⟩) (fun _ => hS0) ?_
    rotate_left 1
    · (intro w hSw; (try dsimp only at hSw); (try obtain ⟨s11, s0, s1, s2, s3, s4, s5, s6⟩ := hSw); go_simp; try with_reducible rfl)
    try simp only [Act.put, Array.toArray_toList, List.setIfInBounds_toArray, List.set_cons_zero, List.set_cons_succ]
    refine anyM_free (i := 9) (oi := { dst := some 225, op := _, type := _, pos := _, after := _, guard := _ }) (v := ?_) rfl (by kernel_rfl) (fun _ _ _ h => h) (Or.inl ⟨by kernel_rfl, ?_⟩) (fun _ => hS0) ?_
    rotate_left 1
    · (intro w hSw; (try dsimp only at hSw); (try obtain ⟨s11, s0, s1, s2, s3, s4, s5, s6⟩ := hSw); go_simp; try with_reducible rfl)
    try simp only [Act.put, Array.toArray_toList, List.setIfInBounds_toArray, List.set_cons_zero, List.set_cons_succ]
    refine anyM_one (i := 10) (by kernel_rfl) rfl (fun K hK => ?_)
    go_simp
    have HPC := Lib.hid (own_setFar (j := 11) (u := .slice (some ⟨g2, 0, none⟩) (n + 1) cp) HPC.out (blk_ne HBB.out HPC.out (by decide)))
    have HOT := Lib.hid (own_setFar (j := 11) (u := .slice (some ⟨g2, 0, none⟩) (n + 1) cp) HOT.out (blk_ne HBB.out HOT.out (by decide)))
    have HF := Lib.hid (HF.out.trans (.inl rfl) (Fr.set (gS := gB) (v := .slice A n co) (w := wt) 11 (.slice (some ⟨g2, 0, none⟩) (n + 1) cp)))
    have HBB := Lib.hid (HBB.out.stored 11 (.slice (some ⟨g2, 0, none⟩) (n + 1) cp))
    clear a11 z11
    generalize World.setCell wt _ _ = wu at HBB HPC HOT HF ⊢
    refine hK.out _ _ (fun h => late_no h (by kernel_rfl)) ?_
    clear hK K
    try simp only [Act.put, Array.toArray_toList, List.setIfInBounds_toArray, List.set_cons_zero, List.set_cons_succ]
    refine anyM_done (by kernel_rfl) ?_ _
    refine NoPanic.normal ?_
    clear hS0
    have a1 : wu.cell? ⟨gB, 1, none⟩ = some (.int .i64 y) := HBB.out.cell 1
    have z1 : wu.frozen? ⟨gB, 1, none⟩ = false := HBB.out.free 1
    have hwy : IntKind.i64.wrap (y + 80) = y + 80 := by unfold IntKind.wrap; simp [IntKind.bits, IntKind.signed]; omega
    have HPC := Lib.hid (own_setFar (j := 1) (u := .int .i64 (y + 80)) HPC.out (blk_ne HBB.out HPC.out (by decide)))
    have HOT := Lib.hid (own_setFar (j := 1) (u := .int .i64 (y + 80)) HOT.out (blk_ne HBB.out HOT.out (by decide)))
    have HF := Lib.hid (HF.out.trans (.inl rfl) (Fr.set (gS := gB) (v := .slice A n co) (w := wu) 1 (.int .i64 (y + 80))))
    have HBZ := Lib.hid (HBB.out.stored 1 (.int .i64 (y + 80)))
    go_wp2_with fail
    (try simp only [Exit.inBlock, Exit.then]); refine bodyPost_end (results_none rfl _ _ _) rfl ?_
    first | exact ⟨rfl, g2, cp, HBZ.out, gp, cc, HOT.out, HAT.out, HPC.out, HF.out⟩ | exact ⟨rfl, g2, cp, HBZ.out, gp, cc, HOT.out, HPC.out, HAT.out, HF.out⟩
end Go.Proofs.Ytabbpdlnlibngaa
