/- widths.bounds: of, bound, told. -/
import Derived.Test.YtpinfaoeggipmaaEdges
import Derived.Deep.RegionHeld3
namespace Go.Proofs.Ytpinfaoeggipmaa
open Go.RowKit
set_option linter.unusedVariables false
set_option linter.unusedSimpArgs false
attribute [local go_sem high] run_min2 run_max2

/-- The cells of a 'bounds'. -/
def bnd (zs : List Int) (room rim : Int) (parts : Bool) (size least most : Int) : Array Value := sty zs ++ #[.int .i64 room, .int .i64 rim, .bool parts, .int .i64 size, .int .i64 least, .int .i64 most]
theorem bnd_size (zs : List Int) (room rim : Int) (parts : Bool) (size least most : Int) : (bnd zs room rim parts size least most).size = zs.length + 6 := by simp [bnd, sty_size]
theorem bnd_sty (zs : List Int) (room rim : Int) (parts : Bool) (size least most : Int) (j : Nat) (h : j < zs.length) : (bnd zs room rim parts size least most)[j]? = some (.int .i64 (zs.getD j 0)) := by
  unfold bnd; rw [Array.getElem?_append_left (by rw [sty_size]; exact h)]; exact sty_at zs j h
theorem bnd_tail (zs : List Int) (room rim : Int) (parts : Bool) (size least most : Int) (hz : zs.length = 118) (j : Nat) : (bnd zs room rim parts size least most)[118 + j]? = #[Value.int .i64 room, .int .i64 rim, .bool parts, .int .i64 size, .int .i64 least, .int .i64 most][j]? := by
  unfold bnd; rw [Array.getElem?_append_right (by rw [sty_size]; omega)]; congr 1; rw [sty_size]; omega

/-- P313: what a property tells. -/
def tellIs (k : Int) (parts : Bool) : Bool := decide (k = 2) || decide (k = 3) && parts
def tellN (k n sizing room rim : Int) : Int := max 0 (if sizing = 1 then ofN k n room - rim else ofN k n room)
def tellV (k n sizing room rim : Int) (parts : Bool) : Int := if tellIs k parts then tellN k n sizing room rim else 0
theorem tellN_bd (k n sizing room rim : Int) (h0 : 0 ≤ rim) (h1 : rim ≤ 67108864) : 0 ≤ tellN k n sizing room rim ∧ tellN k n sizing room rim ≤ 16777216 := by
  have := ofN_bd k n room
  unfold tellN; split <;> omega
theorem tellV_bd (k n sizing room rim : Int) (parts : Bool) (h0 : 0 ≤ rim) (h1 : rim ≤ 67108864) : 0 ≤ tellV k n sizing room rim parts ∧ tellV k n sizing room rim parts ≤ 16777216 := by
  have := tellN_bd k n sizing room rim h0 h1
  unfold tellV; split <;> omega

theorem ret_ib {a b : Int} {c d : Bool} (h : a = b) (h' : c = d) : Ending.returned (.tuple #[.int .i64 a, .bool c]) = .returned (.tuple #[.int .i64 b, .bool d]) := by rw [h, h']
set_option maxRecDepth 100000 in
set_option maxHeartbeats 1000000 in
theorem bof_calls (zs : List Int) (p room rim : Int) (parts : Bool) (size least most : Int) (w : World) (hz : zs.length = 118) (h0 : 0 ≤ p) (h1 : p < 59) (hr0 : 0 ≤ rim) (hr1 : rim ≤ 67108864) :
    Calls Try.prog 86 #[.agg (bnd zs room rim parts size least most), .int .i64 p] w fun e w' => e = .returned (.tuple #[.int .i64 (tellV (stK zs p.toNat) (stN zs p.toNat) (stN zs 4) room rim parts), .bool (tellIs (stK zs p.toNat) parts)]) ∧ Below w.heap.size w w' := by
  obtain ⟨m, rfl⟩ : ∃ m : Nat, p = m := ⟨p.toNat, by omega⟩
  have hB := Blk.new w 84 (bnd zs room rim parts size least most)
  have hm : m * 2 + 1 < zs.length := by omega
  have hm0 : (0 : Int) ≤ (m : Int) := h0
  rw [Int.toNat_natCast]
  obtain ⟨o0, o1⟩ := ofN_bd (stK zs m) (stN zs m) room
  have hl := hB.lt
  have KEEP : ∀ w', Below (w.alloc (.cells (bnd zs room rim parts size least most) 84)).heap.size (w.alloc (.cells (bnd zs room rim parts size least most) 84)) w' → w'.cell? ⟨w.heap.size, m * 2, none⟩ = some (.int .i64 (stK zs m)) ∧ w'.cell? ⟨w.heap.size, m * 2 + 1, none⟩ = some (.int .i64 (stN zs m)) ∧ w'.cell? ⟨w.heap.size, 118, none⟩ = some (.int .i64 room) := fun w' hb => ⟨((hB.below hb hl).cell _).trans (bnd_sty _ _ _ _ _ _ _ _ (by omega)), ((hB.below hb hl).cell _).trans (bnd_sty _ _ _ _ _ _ _ _ (by omega)), ((hB.below hb hl).cell _).trans (bnd_tail _ _ _ _ _ _ _ hz 0)⟩
  have KEEP' := Lib.hid KEEP
  clear KEEP
  have hbx := (Below.refl (w.alloc (.cells (bnd zs room rim parts size least most) 84)).heap.size (w.alloc (.cells (bnd zs room rim parts size least most) 84))).drew
  have HB := Lib.hid hB
  clear hB
  go_enter Try.func86, Try.ntmps86
  go_wp2_with fail
  refine wp_region_noPanic ?_
  refine wp_region_held_drew (S := fun w' => w'.cell? ⟨w.heap.size, m * 2, none⟩ = some (.int .i64 (stK zs m)) ∧ w'.cell? ⟨w.heap.size, m * 2 + 1, none⟩ = some (.int .i64 (stN zs m)) ∧ w'.cell? ⟨w.heap.size, 118, none⟩ = some (.int .i64 room)) (by kernel_rfl) (KEEP'.out _ hbx) (fun hHeld => ?_)
  refine wpAnyH_take (i := 0) (oi := { dst := some 9, op := _, type := _, pos := _, after := _, guard := _ }) (v := ?_) rfl (by kernel_rfl) (by kernel_rfl) (by kernel_rfl) (fun _ _ _ h => h) (Or.inl ⟨by kernel_rfl, ?_⟩) (by assumption) ?_
  rotate_left 1
  · (intro w hSw; (try dsimp only at hSw); go_simp; try with_reducible rfl)
  try simp only [Act.put, List.setIfInBounds_toArray, List.set_cons_zero, List.set_cons_succ]
  refine wpAnyH_take (i := 1) (oi := { dst := some 10, op := _, type := _, pos := _, after := _, guard := _ }) (v := ?_) rfl (by kernel_rfl) (by kernel_rfl) (by kernel_rfl) (fun _ _ _ h => h) (Or.inl ⟨by kernel_rfl, ?_⟩) (by assumption) ?_
  rotate_left 1
  · (intro w hSw; (try dsimp only at hSw); go_simp; try with_reducible rfl)
  try simp only [Act.put, List.setIfInBounds_toArray, List.set_cons_zero, List.set_cons_succ]
  refine wpAnyH_take (i := 2) (oi := { dst := some 11, op := _, type := _, pos := _, after := _, guard := _ }) (v := ?_) rfl (by kernel_rfl) (by kernel_rfl) (by kernel_rfl) (fun _ _ _ h => h) (Or.inl ⟨by kernel_rfl, ?_⟩) (by assumption) ?_
  rotate_left 1
  · (intro w hSw; (try dsimp only at hSw); go_simp; try with_reducible rfl)
  try simp only [Act.put, List.setIfInBounds_toArray, List.set_cons_zero, List.set_cons_succ]
  refine wpAnyH_take (i := 3) (oi := { dst := some 12, op := _, type := _, pos := _, after := _, guard := _ }) (v := ?_) rfl (by kernel_rfl) (by kernel_rfl) (by kernel_rfl) (fun _ _ _ h => h) (Or.inl ⟨by kernel_rfl, ?_⟩) (by assumption) ?_
  rotate_left 1
  · (intro w hSw; (try dsimp only at hSw); go_simp; try with_reducible rfl)
  try simp only [Act.put, List.setIfInBounds_toArray, List.set_cons_zero, List.set_cons_succ]
  refine wpAnyH_take (i := 4) (oi := { dst := some 13, op := _, type := _, pos := _, after := _, guard := _ }) (v := ?_) rfl (by kernel_rfl) (by kernel_rfl) (by kernel_rfl) (fun _ _ _ h => h) (Or.inl ⟨by kernel_rfl, ?_⟩) (by assumption) ?_
  rotate_left 1
  · (intro w hSw; (try dsimp only at hSw); go_simp; try with_reducible rfl)
  try simp only [Act.put, List.setIfInBounds_toArray, List.set_cons_zero, List.set_cons_succ]
  refine wpAnyH_take (i := 5) (oi := { dst := some 14, op := _, type := _, pos := _, after := _, guard := _ }) (v := ?_) rfl (by kernel_rfl) (by kernel_rfl) (by kernel_rfl) (fun _ _ _ h => h) (Or.inl ⟨by kernel_rfl, ?_⟩) (by assumption) ?_
  rotate_left 1
  · (intro w hSw; (try dsimp only at hSw); go_simp; try with_reducible rfl)
  try simp only [Act.put, List.setIfInBounds_toArray, List.set_cons_zero, List.set_cons_succ]
  refine wpAnyH_ready (rs := [6]) (by kernel_rfl) (by simp) ?_
  refine AllReadyH.cons rfl (fun K hK => ?_) AllReadyH.nil
  go_simp
  refine (of_calls _ _ _ _).mono ?_
  rintro e w' ⟨rfl, rfl⟩
  have hbx := hbx.alloc hbx.size (.cells #[.int .i64 (stK zs m), .int .i64 (stN zs m)] 30)
  refine hK.out _ _ (KEEP'.out _ hbx) (fun hHeld => ?_)
  clear hK K
  try simp only [Act.put, List.setIfInBounds_toArray, List.set_cons_zero, List.set_cons_succ]
  refine wpAnyH_take (i := 7) (oi := { dst := some 8, op := _, type := _, pos := _, after := _, guard := _ }) (v := ?_) rfl (by kernel_rfl) (by kernel_rfl) (by kernel_rfl) (fun _ _ _ h => h) (Or.inl ⟨by kernel_rfl, ?_⟩) (by assumption) ?_
  rotate_left 1
  · (intro w hSw; (try dsimp only at hSw); go_simp; try with_reducible rfl)
  try simp only [Act.put, List.setIfInBounds_toArray, List.set_cons_zero, List.set_cons_succ]
  refine wpAnyH_take (i := 8) (oi := { dst := some 16, op := _, type := _, pos := _, after := _, guard := _ }) (v := ?_) rfl (by kernel_rfl) (by kernel_rfl) (by kernel_rfl) (fun _ _ _ h => h) (Or.inl ⟨by kernel_rfl, ?_⟩) (by assumption) ?_
  rotate_left 1
  · (intro w hSw; (try dsimp only at hSw); go_simp; try with_reducible rfl)
  try simp only [Act.put, List.setIfInBounds_toArray, List.set_cons_zero, List.set_cons_succ]
  refine wpAnyH_take (i := 9) (oi := { dst := some 17, op := _, type := _, pos := _, after := _, guard := _ }) (v := ?_) rfl (by kernel_rfl) (by kernel_rfl) (by kernel_rfl) (fun _ _ _ h => h) (Or.inl ⟨by kernel_rfl, ?_⟩) (by assumption) ?_
  rotate_left 1
  · (intro w hSw; (try dsimp only at hSw); go_simp; try with_reducible rfl)
  try simp only [Act.put, List.setIfInBounds_toArray, List.set_cons_zero, List.set_cons_succ]
  refine wpAnyH_take (i := 10) (oi := { dst := some 6, op := _, type := _, pos := _, after := _, guard := _ }) (v := ?_) rfl (by kernel_rfl) (by kernel_rfl) (by kernel_rfl) (fun _ _ _ h => h) (Or.inl ⟨by kernel_rfl, ?_⟩) (by assumption) ?_
  rotate_left 1
  · (intro w hSw; (try dsimp only at hSw); go_simp; try with_reducible rfl)
  try simp only [Act.put, List.setIfInBounds_toArray, List.set_cons_zero, List.set_cons_succ]
  refine wpAnyH_take (i := 11) (oi := { dst := some 7, op := _, type := _, pos := _, after := _, guard := _ }) (v := ?_) rfl (by kernel_rfl) (by kernel_rfl) (by kernel_rfl) (fun _ _ _ h => h) (Or.inl ⟨by kernel_rfl, ?_⟩) (by assumption) ?_
  rotate_left 1
  · (intro w hSw; (try dsimp only at hSw); go_simp; try with_reducible rfl)
  try simp only [Act.put, List.setIfInBounds_toArray, List.set_cons_zero, List.set_cons_succ]
  refine wpAnyH_done (by kernel_rfl) ?_ _
  refine NoPanic.normal ?_
  generalize hW : World.alloc (World.drew _) _ = w2 at hbx ⊢
  have hb2 := HB.out.below hbx hl
  have c0 : w2.cell? ⟨w.heap.size, m * 2, none⟩ = some (.int .i64 (stK zs m)) := (hb2.cell _).trans (bnd_sty _ _ _ _ _ _ _ _ (by omega))
  have c2 : w2.cell? ⟨w.heap.size, 9, none⟩ = some (.int .i64 (stN zs 4)) := (hb2.cell _).trans (bnd_sty _ _ _ _ _ _ _ 9 (by omega))
  have c4 : w2.cell? ⟨w.heap.size, 119, none⟩ = some (.int .i64 rim) := (hb2.cell _).trans (bnd_tail _ _ _ _ _ _ _ hz 1)
  have c5 : w2.cell? ⟨w.heap.size, 120, none⟩ = some (.bool parts) := (hb2.cell _).trans (bnd_tail _ _ _ _ _ _ _ hz 2)
  have hbel := Lib.hid (below_then (below_alloc (Below.refl _ w) _) hbx)
  clear hbx hb2 HB KEEP' hW
  obtain ⟨k, hk⟩ : ∃ k, k = stK zs m := ⟨_, rfl⟩
  obtain ⟨n, hn⟩ : ∃ n, n = stN zs m := ⟨_, rfl⟩
  obtain ⟨sz, hs⟩ : ∃ sz, sz = stN zs 4 := ⟨_, rfl⟩
  rw [← hk] at c0
  rw [← hs] at c2
  rw [← hk, ← hn] at o0 o1
  rw [← hk, ← hn]
  have HK := Lib.hid hk
  have HN := Lib.hid hn
  have HS := Lib.hid hs
  clear hk hn hs
  by_cases h2 : k = 2
  · subst h2
    have hI : ofIs 2 = true := rfl
    by_cases hsz : sz = 1
    · subst hsz
      go_wp2_with fail
      go_ret2
      exact ⟨ret_ib (by simp [tellV, ← HK.out, ← HN.out, ← HS.out, tellIs, tellN]) (by simp [← HK.out, tellIs]), hbel.out⟩
    · have esz : (sz == 1) = false := by simpa using hsz
      go_wp2_with fail
      go_ret2
      exact ⟨ret_ib (by simp [tellV, ← HK.out, ← HN.out, ← HS.out, tellIs, tellN, hsz]) (by simp [← HK.out, tellIs, hsz]), hbel.out⟩
  · by_cases h3 : k = 3
    · subst h3
      have hI : ofIs 3 = true := rfl
      cases parts
      · skip
        go_wp2_with fail
        go_ret2
        exact ⟨ret_ib (by simp [tellV, ← HK.out, ← HN.out, ← HS.out, tellIs, tellN]) (by simp [← HK.out, tellIs]), hbel.out⟩
      · skip
        by_cases hsz : sz = 1
        · subst hsz
          go_wp2_with fail
          go_ret2
          exact ⟨ret_ib (by simp [tellV, ← HK.out, ← HN.out, ← HS.out, tellIs, tellN]) (by simp [← HK.out, tellIs]), hbel.out⟩
        · have esz : (sz == 1) = false := by simpa using hsz
          go_wp2_with fail
          go_ret2
          exact ⟨ret_ib (by simp [tellV, ← HK.out, ← HN.out, ← HS.out, tellIs, tellN, hsz]) (by simp [← HK.out, tellIs, hsz]), hbel.out⟩
    · have hI : ofIs k = false := by simp [ofIs, h2, h3]
      go_wp2_with fail
      go_ret2
      exact ⟨ret_ib (by simp [tellV, ← HK.out, ← HN.out, ← HS.out, tellIs, tellN, h2, h3]) (by simp [← HK.out, tellIs, h2, h3]), hbel.out⟩

/-- P313: a length, bounded by what two properties tell. -/
def bnd2 (is1 : Bool) (v1 : Int) (is2 : Bool) (v2 n : Int) : Int := max 0 (if is2 then max (if is1 then min n v1 else n) v2 else if is1 then min n v1 else n)
def tv (zs : List Int) (p room rim : Int) (parts : Bool) : Int := tellV (stK zs p.toNat) (stN zs p.toNat) (stN zs 4) room rim parts
def ti (zs : List Int) (p : Int) (parts : Bool) : Bool := tellIs (stK zs p.toNat) parts
def boundN (zs : List Int) (room rim : Int) (parts : Bool) (least most n : Int) : Int := bnd2 (ti zs most parts) (tv zs most room rim parts) (ti zs least parts) (tv zs least room rim parts) n
def toldN (zs : List Int) (room rim : Int) (parts : Bool) (size least most other : Int) : Int := boundN zs room rim parts least most (if ti zs size parts then tv zs size room rim parts else other)
theorem bof_calls' (zs : List Int) (p room rim : Int) (parts : Bool) (size least most : Int) (w : World) (hz : zs.length = 118) (h0 : 0 ≤ p) (h1 : p < 59) (hr0 : 0 ≤ rim) (hr1 : rim ≤ 67108864) :
    Calls Try.prog 86 #[.agg (bnd zs room rim parts size least most), .int .i64 p] w fun e w' => e = .returned (.tuple #[.int .i64 (tv zs p room rim parts), .bool (ti zs p parts)]) ∧ Below w.heap.size w w' := bof_calls zs p room rim parts size least most w hz h0 h1 hr0 hr1
theorem tv_bd (zs : List Int) (p room rim : Int) (parts : Bool) (h0 : 0 ≤ rim) (h1 : rim ≤ 67108864) : 0 ≤ tv zs p room rim parts ∧ tv zs p room rim parts ≤ 16777216 := tellV_bd _ _ _ _ _ _ h0 h1

set_option maxRecDepth 100000 in
set_option maxHeartbeats 1000000 in
theorem bbound_calls (zs : List Int) (room rim : Int) (parts : Bool) (size least most n : Int) (w : World) (hz : zs.length = 118) (hl0 : 0 ≤ least) (hl1 : least < 59) (hm0 : 0 ≤ most) (hm1 : most < 59) (hr0 : 0 ≤ rim) (hr1 : rim ≤ 67108864) :
    Calls Try.prog 87 #[.agg (bnd zs room rim parts size least most), .int .i64 n] w fun e w' => e = .returned (.int .i64 (boundN zs room rim parts least most n)) ∧ Below w.heap.size w w' := by
  have HSZ : Hid ((Try.prog.info? 84).map (·.size) = some (bnd zs room rim parts size least most).size) := by show _ = _; rw [bnd_size, hz]; kernel_rfl
  have b0 := Blk.new w 84 (bnd zs room rim parts size least most)
  have hbel := below_alloc (Below.refl _ w) (.cells (bnd zs room rim parts size least most) 84)
  have c122 : (w.alloc (.cells (bnd zs room rim parts size least most) 84)).cell? ⟨w.heap.size, 122, none⟩ = some (.int .i64 least) := (b0.cell _).trans (bnd_tail _ _ _ _ _ _ _ hz 4)
  have c123 : (w.alloc (.cells (bnd zs room rim parts size least most) 84)).cell? ⟨w.heap.size, 123, none⟩ = some (.int .i64 most) := (b0.cell _).trans (bnd_tail _ _ _ _ _ _ _ hz 5)
  obtain ⟨im, him⟩ : ∃ x, x = ti zs most parts := ⟨_, rfl⟩
  obtain ⟨il, hil⟩ : ∃ x, x = ti zs least parts := ⟨_, rfl⟩
  have HM := Lib.hid him
  have HL := Lib.hid hil
  have hbo : ∀ p w, 0 ≤ p → p < 59 → Calls Try.prog 86 #[.agg (bnd zs room rim parts size least most), .int .i64 p] w fun e w' => e = .returned (.tuple #[.int .i64 (tv zs p room rim parts), .bool (ti zs p parts)]) ∧ Below w.heap.size w w' := fun p w h0 h1 => bof_calls' zs p room rim parts size least most w hz h0 h1 hr0 hr1
  have HBO := Lib.hid hbo
  clear him hil hbo
  have hmost := Lib.hid (show 0 ≤ most ∧ most < 59 from ⟨hm0, hm1⟩)
  cases im <;> cases il <;> (
    go_enter Try.func87, Try.ntmps87
    go_wp2_with (first | (refine wpList_load_row rfl 84 _ rfl w.heap.size rfl 84 (bnd zs room rim parts size least most) (0, 0) _ b0 Try.underlying84 rfl HSZ.out ?_) | (go_at_call 86; refine (HBO.out _ _ (by omega) (by omega)).mono ?_; rintro e w1 ⟨rfl, hb1⟩; (first | rw [← HM.out] | rw [← HL.out]); have b0 := b0.below hb1 b0.lt; have c122 := (b0.cell _).trans (bnd_tail zs room rim parts size least most hz 4); have hbel := below_then hbel hb1))
    go_ret
    exact ⟨ret_int (by unfold boundN bnd2; rw [← HM.out, ← HL.out]; simp), hbel⟩)

set_option maxRecDepth 100000 in
set_option maxHeartbeats 1000000 in
theorem told_calls (zs : List Int) (room rim : Int) (parts : Bool) (size least most n : Int) (w : World) (hz : zs.length = 118) (hs0 : 0 ≤ size) (hs1 : size < 59) (hl0 : 0 ≤ least) (hl1 : least < 59) (hm0 : 0 ≤ most) (hm1 : most < 59) (hr0 : 0 ≤ rim) (hr1 : rim ≤ 67108864) :
    Calls Try.prog 66 #[.agg (bnd zs room rim parts size least most), .int .i64 n] w fun e w' => e = .returned (.int .i64 (toldN zs room rim parts size least most n)) ∧ Below w.heap.size w w' := by
  have HSZ : Hid ((Try.prog.info? 84).map (·.size) = some (bnd zs room rim parts size least most).size) := by show _ = _; rw [bnd_size, hz]; kernel_rfl
  have b0 := Blk.new w 84 (bnd zs room rim parts size least most)
  have hbel := below_alloc (Below.refl _ w) (.cells (bnd zs room rim parts size least most) 84)
  have c121 : (w.alloc (.cells (bnd zs room rim parts size least most) 84)).cell? ⟨w.heap.size, 121, none⟩ = some (.int .i64 size) := (b0.cell _).trans (bnd_tail _ _ _ _ _ _ _ hz 3)
  obtain ⟨im, him⟩ : ∃ x, x = ti zs size parts := ⟨_, rfl⟩
  have HM := Lib.hid him
  have HBO := Lib.hid (fun w => bof_calls' zs size room rim parts size least most w hz hs0 hs1 hr0 hr1)
  have HBB := Lib.hid (fun n w => bbound_calls zs room rim parts size least most n w hz hl0 hl1 hm0 hm1 hr0 hr1)
  clear him
  cases im <;> (
    go_enter Try.func66, Try.ntmps66
    go_wp2_with (first | (refine wpList_load_row rfl 84 _ rfl w.heap.size rfl 84 (bnd zs room rim parts size least most) (0, 0) _ b0 Try.underlying84 rfl HSZ.out ?_) | (go_at_call 86; refine (HBO.out _).mono ?_; rintro e w1 ⟨rfl, hb1⟩; rw [← HM.out]; have b0 := b0.below hb1 b0.lt; have hbel := below_then hbel hb1) | (go_at_call 87; refine (HBB.out _ _).mono ?_; rintro e w1 ⟨rfl, hb1⟩; have hbel := below_then hbel hb1))
    go_ret
    exact ⟨ret_int (by unfold toldN; rw [← HM.out]; simp), hbel⟩)
end Go.Proofs.Ytpinfaoeggipmaa
