/- Contract of slices.Repeat at a list of one number. -/
import Derived.Test.YtpinfaoeggipmaaSpreadPlain
import Derived.Test.YtpinfaoeggipmaaRowList
import Derived.Test.YtpinfaoeggipmaaShelf
import Derived.Laws.CopyOwn
import Derived.Test.YtpinfaoeggipmaaRegionM
import Derived.Deep.RegionLaw
import Derived.Deep.Cut
namespace Go.Proofs.Ytpinfaoeggipmaa
open Go.RowKit
set_option linter.unusedVariables false
set_option linter.unusedSimpArgs false

/-- The first k are 1, the others 0. -/
def okK (n k : Nat) : List Value := List.replicate k (.int .i64 1) ++ List.replicate (n - k) (.int .i64 0)
theorem okK_len (n k : Nat) (h : k ≤ n) : (okK n k).length = n := by simp [okK]; omega
theorem splice_ones (n k m : Nat) (h : k + m ≤ n) : splice (okK n k) k (List.replicate m (.int .i64 1)) = okK n (k + m) := by
  unfold splice okK
  have e1 : (List.replicate k (Value.int .i64 1) ++ List.replicate (n - k) (Value.int .i64 0)).take k = List.replicate k (Value.int .i64 1) := by simp
  have e2 : (List.replicate k (Value.int .i64 1) ++ List.replicate (n - k) (Value.int .i64 0)).drop (k + m) = List.replicate (n - (k + m)) (Value.int .i64 0) := by
    rw [List.drop_append]
    simp
    omega
  rw [List.length_replicate, e1, e2, ← List.append_assoc, List.replicate_append_replicate]
theorem okK_all (n : Nat) : okK n n = ints (onesL n) := by simp [okK, ints, onesL]
theorem okK_at (n k j : Nat) (hj : j < k) : (okK n k)[j]? = some (.int .i64 1) := by
  unfold okK
  rw [List.getElem?_append_left (by simpa using hj)]
  simp [hj]
theorem okK_zero (n : Nat) : (madeCells (Value.int IntKind.i64 0).cells (n * 1)).toList = okK n 0 := by
  show (madeCells #[Value.int IntKind.i64 0] (n * 1)).toList = _
  rw [toList_madeCells_one]
  simp [okK]
theorem own_whole {w : World} {base : Nat} {e : TypeId} {n g : Nat} {xs : List Value} (h : w.ownsRow base e 1 (.slice (some ⟨g, 0, none⟩) n n) n xs) : Blk w g e xs.toArray := by
  rcases h.2 with ⟨h1, _⟩ | ⟨g', cap', cur, hv, h1, h2, h3, h4, h5, h6⟩
  · cases h1
  · injection hv with hv1 hv2 hv3
    injection hv1 with hv1
    injection hv1 with hv1
    subst hv1; subst hv3
    have : cur.toList = xs := by rw [← h6]; symm; apply List.take_of_length_le; simp; omega
    show w.heap[g]? = _
    rw [h2, ← this]
theorem own_of {w : World} {base : Nat} {e : TypeId} {n g : Nat} {xs : List Value} (hl : xs.length = n) (hb : base ≤ g) (hm : n ≤ maxLen) (h : Blk w g e xs.toArray) : w.ownsRow base e 1 (.slice (some ⟨g, 0, none⟩) n n) n xs :=
  own_at (by omega) hb h (Nat.le_refl _) hm (by rw [List.size_toArray]; omega) (List.take_of_length_le (by show xs.length ≤ n * 1; omega))
theorem cell_ones {w : World} {g : Nat} (h : Blk w g 3 #[.int .i64 1]) (m : Nat) (hm : m ≤ 1) : ∀ j v, (List.replicate m (Value.int .i64 1))[j]? = some v → w.cell? ((⟨g, 0, none⟩ : Addr).add j) = some v := by
  intro j v hj
  by_cases h1 : j < m
  · obtain rfl : j = 0 := by omega
    rw [List.getElem?_replicate_of_lt h1] at hj
    cases hj
    exact h.cell 0
  · rw [List.getElem?_eq_none (by simpa using h1)] at hj; cases hj
theorem cell_okK {w : World} {g n k : Nat} (h : Blk w g 3 (okK n k).toArray) (q : Nat) (hq : q ≤ k) : ∀ j v, (List.replicate q (Value.int .i64 1))[j]? = some v → w.cell? ((⟨g, 0, none⟩ : Addr).add j) = some v := by
  intro j v hj
  by_cases h1 : j < q
  · rw [List.getElem?_replicate_of_lt h1] at hj
    cases hj
    have e := h.cell j
    have e2 : (⟨g, 0, none⟩ : Addr).add j = ⟨g, j, none⟩ := by simp [Addr.add]; try omega
    rw [e2, e, List.getElem?_toArray]
    exact okK_at n k j (by omega)
  · rw [List.getElem?_eq_none (by simpa using h1)] at hj; cases hj
theorem mulOne_calls (n : Nat) (hn : n ≤ 1000) (w : World) : Calls Try.prog 96 #[.int .u64 1, .int .u64 n] w fun e w' => e = .returned (.tuple #[.int .u64 0, .int .u64 n]) ∧ w = w' := by
  refine (Try.bits_Mul 1 n (by omega) (by omega) w).mono ?_
  rintro e w' ⟨rfl, rfl⟩
  refine ⟨?_, rfl⟩
  have h1 : 1 * n / 18446744073709551616 = 0 := by omega
  have h2 : 1 * n % 18446744073709551616 = n := by omega
  rw [h1, h2]; rfl
set_option maxRecDepth 100000 in
set_option maxHeartbeats 1000000 in
theorem repeat_calls (n g : Nat) (w : World) (hn : n ≤ 1000) (hx : Blk w g 3 #[.int .i64 1]) :
    Calls Try.prog 85 #[.slice (some ⟨g, 0, none⟩) 1 1, .int .i64 n] w fun e w' => ∃ g', e = .returned (.slice (some ⟨g', 0, none⟩) n n) ∧ w'.ownsRow w.heap.size 3 1 (.slice (some ⟨g', 0, none⟩) n n) n (ints (onesL n)) ∧ Below w.heap.size w w' := by
  obtain ⟨i0, hi, hz0, hz1, hz2⟩ := info_parts info_int
  have HX := Lib.hid hx
  have hgl := hx.lt
  have HGL := Lib.hid hgl
  clear hx
  obtain ⟨m, hm⟩ : ∃ m, m = Nat.min 1 n := ⟨_, rfl⟩
  have M0 : m = Nat.min 1 n := hm
  have M1 : m ≤ 1 := by rw [hm]; exact Nat.min_le_left _ _
  have M2 : m ≤ n := by rw [hm]; exact Nat.min_le_right _ _
  have M3 : 0 < n → 0 < m := by rw [hm]; intro h; show 0 < min 1 n; omega
  have HM0 := Lib.hid M0
  clear hm
  clear M0
  go_enter Try.func85, Try.ntmps85
  go_upto_region 7 with (first | (go_at_call 96; refine (mulOne_calls n hn _).mono ?_; rintro e w' ⟨rfl, rfl⟩) | (at_make; refine wpList_make_full _ rfl (.tmp 29) (.tmp 29) 22 rfl w.heap.size 3 i0 (.int .i64 0) 1 Try.underlying22 hi hz0 hz1 .i64 .i64 _ _ n rfl rfl rfl rfl (by rw [hz2]; omega) (by unfold maxLen; omega) (by simp) ?_; intro w2 hown hg; have hb2 := below_made (Below.refl _ w) hg; have hx2 := HX.out.below hb2 HX.out.lt; rw [okK_zero] at hown; have hblk := own_whole hown; have h0 := hown.lt _ rfl; have HB := Lib.hid hb2; have HK := Lib.hid hblk; have HX2 := Lib.hid hx2; have H0 := Lib.hid h0; clear hown hg hb2 hx2 hblk h0))
  go_wp2_with (refine wpList_copy_splice rfl (.tmp 31) (.tmp 32) 22 22 rfl 3 Try.underlying22 (by kernel_rfl) (some ⟨w.heap.size, 0, none⟩) (some ⟨g, 0, none⟩) n n 1 1 rfl rfl w.heap.size 0 (okK n 0) 3 HK.out (List.replicate m (.int .i64 1)) (by rw [List.length_replicate]; exact HM0.out) (fun _ => ⟨rfl, _, rfl, cell_ones HX2.out m M1⟩) (by rw [okK_len n 0 (by omega), List.length_replicate]; omega) (by intro v hv; rw [List.eq_of_mem_replicate hv]; rfl) w.heap.size w HB.out (Nat.le_refl _) ?_; intro w3 HG3 hB3; rw [List.length_replicate])
  have HG4 := Lib.hid (show Blk w3 w.heap.size 3 (okK n m).toArray from by have h := HG3.out; rw [splice_ones n 0 m (by omega), Nat.zero_add] at h; exact h)
  have HB4 := Lib.hid hB3
  clear HG3 hB3
  --LOOP
  go_loopw [8] (fun v wr => ∃ k : Nat, k ≤ n ∧ v = .int .i64 k ∧ (0 < n → 0 < k) ∧ Blk wr w.heap.size 3 (okK n k).toArray ∧ Below w.heap.size w wr) (fun v _ => n - (intOf v).toNat)
  case atStart => exact ⟨m, M2, rfl, M3, HG4.out, HB4.out⟩
  case round =>
    obtain ⟨k, hk, rfl, h0, hblk, hbel⟩ := hrel
    by_cases hlt : k < n
    · have h00 := h0 (by omega)
      obtain ⟨q, hq⟩ : ∃ q, q = Nat.min k (n - k) := ⟨_, rfl⟩
      have hq1 : q ≤ k := by rw [hq]; exact Nat.min_le_left _ _
      have hq2 : q ≤ n - k := by rw [hq]; exact Nat.min_le_right _ _
      have hq3 : 0 < q := by rw [hq]; show 0 < min k (n - k); omega
      have QQ := Lib.hid (show 0 < q ∧ q ≤ k ∧ k + q ≤ n ∧ k < n from ⟨hq3, hq1, by omega, hlt⟩)
      have hkq : k + q ≤ n := by omega
      have eW : IntKind.i64.wrap ((k : Int) + (q : Int)) = (k : Int) + (q : Int) := IntWalk.i64_in _ (by omega)
      have HQ := Lib.hid hq
      have HKD := Lib.hid hblk.drew
      have HBD := Lib.hid hbel.drew
      have hS0 := True.intro
      clear hq h0 hblk hbel M3
      go_wp2_with fail
      refine wp_region_noPanic ?_
      refine region_M (S := fun w' => True) (T := []) (by kernel_rfl) ?_
      refine anyM_free (i := 0) (oi := { dst := some 38, op := _, type := _, pos := _, after := _, guard := _ }) (v := ?_) rfl (by kernel_rfl) (fun _ _ _ h => h) (Or.inl ⟨by kernel_rfl, ?_⟩) (fun _ => hS0) ?_
      rotate_left 1
      · (intro w hSw; (try dsimp only at hSw); go_simp; try with_reducible rfl)
      try simp only [Act.put, Array.toArray_toList, List.setIfInBounds_toArray, List.set_cons_zero, List.set_cons_succ]
      refine anyM_free (i := 1) (oi := { dst := some 39, op := _, type := _, pos := _, after := _, guard := _ }) (v := ?_) rfl (by kernel_rfl) (fun _ _ _ h => h) (Or.inl ⟨by kernel_rfl, ?_⟩) (fun _ => hS0) ?_
      rotate_left 1
      · (intro w hSw; (try dsimp only at hSw); go_simp; try with_reducible rfl)
      try simp only [Act.put, Array.toArray_toList, List.setIfInBounds_toArray, List.set_cons_zero, List.set_cons_succ]
      refine anyM_free (i := 2) (oi := { dst := some 40, op := _, type := _, pos := _, after := _, guard := _ }) (v := ?_) rfl (by kernel_rfl) (fun _ _ _ h => h) (Or.inl ⟨by kernel_rfl, ?_⟩) (fun _ => hS0) ?_
      rotate_left 1
      · (intro w hSw; (try dsimp only at hSw); go_simp; try with_reducible rfl)
      try simp only [Act.put, Array.toArray_toList, List.setIfInBounds_toArray, List.set_cons_zero, List.set_cons_succ]
      refine anyM_free (i := 3) (oi := { dst := some 41, op := _, type := _, pos := _, after := _, guard := _ }) (v := ?_) rfl (by kernel_rfl) (fun _ _ _ h => h) (Or.inl ⟨by kernel_rfl, ?_⟩) (fun _ => hS0) ?_
      rotate_left 1
      · (intro w hSw; (try dsimp only at hSw); go_simp; try with_reducible rfl)
      try simp only [Act.put, Array.toArray_toList, List.setIfInBounds_toArray, List.set_cons_zero, List.set_cons_succ]
      refine anyM_free (i := 4) (oi := { dst := some 42, op := _, type := _, pos := _, after := _, guard := _ }) (v := ?_) rfl (by kernel_rfl) (fun _ _ _ h => h) (Or.inl ⟨by kernel_rfl, ?_⟩) (fun _ => hS0) ?_
      rotate_left 1
      · (intro w hSw; (try dsimp only at hSw); go_simp; try with_reducible rfl)
      try simp only [Act.put, Array.toArray_toList, List.setIfInBounds_toArray, List.set_cons_zero, List.set_cons_succ]
      refine anyM_free (i := 5) (oi := { dst := some 43, op := _, type := _, pos := _, after := _, guard := _ }) (v := ?_) rfl (by kernel_rfl) (fun _ _ _ h => h) (Or.inl ⟨by kernel_rfl, ?_⟩) (fun _ => hS0) ?_
      rotate_left 1
      · (intro w hSw; (try dsimp only at hSw); go_simp; try with_reducible rfl)
      try simp only [Act.put, Array.toArray_toList, List.setIfInBounds_toArray, List.set_cons_zero, List.set_cons_succ]
      refine anyM_free (i := 6) (oi := { dst := some 44, op := _, type := _, pos := _, after := _, guard := _ }) (v := ?_) rfl (by kernel_rfl) (fun _ _ _ h => h) (Or.inl ⟨by kernel_rfl, ?_⟩) (fun _ => hS0) ?_
      rotate_left 1
      · (intro w hSw; (try dsimp only at hSw); go_simp; try with_reducible rfl)
      try simp only [Act.put, Array.toArray_toList, List.setIfInBounds_toArray, List.set_cons_zero, List.set_cons_succ]
      refine anyM_one (i := 7) (by kernel_rfl) rfl (fun K hK => ?_)
      refine step_copy_splice rfl (.tmp 41) (.tmp 44) 22 22 rfl 3 Try.underlying22 (by kernel_rfl) (if n = k then some ⟨w.heap.size, 0, none⟩ else some ⟨w.heap.size, k, none⟩) (some ⟨w.heap.size, 0, none⟩) (n - k) (n - k) k n rfl rfl w.heap.size k (okK n k) 3 HKD.out (List.replicate q (.int .i64 1)) (by rw [List.length_replicate]; exact HQ.out) (fun _ => ⟨if_neg (by have := QQ.out; omega), _, rfl, cell_okK HKD.out q QQ.out.2.1⟩) (by rw [okK_len n k (by omega), List.length_replicate]; have := QQ.out; omega) (by intro v hv; rw [List.eq_of_mem_replicate hv]; rfl) w.heap.size w HBD.out (Nat.le_refl _) ?_
      intro w4 HG4 hB4
      rw [List.length_replicate]
      refine hK.out _ _ (fun _ => hS0) ?_
      clear hK K
      try simp only [Act.put, Array.toArray_toList, List.setIfInBounds_toArray, List.set_cons_zero, List.set_cons_succ]
      refine anyM_free (i := 8) (oi := { dst := some 46, op := _, type := _, pos := _, after := _, guard := _ }) (v := ?_) rfl (by kernel_rfl) (fun _ _ _ h => h) (Or.inl ⟨by kernel_rfl, ?_⟩) (fun _ => hS0) ?_
      rotate_left 1
      · (intro w hSw; (try dsimp only at hSw); go_simp; try with_reducible rfl)
      try simp only [Act.put, Array.toArray_toList, List.setIfInBounds_toArray, List.set_cons_zero, List.set_cons_succ]
      refine anyM_free (i := 9) (oi := { dst := some 8, op := _, type := _, pos := _, after := _, guard := _ }) (v := ?_) rfl (by kernel_rfl) (fun _ _ _ h => h) (Or.inl ⟨by kernel_rfl, ?_⟩) (fun _ => hS0) ?_
      rotate_left 1
      · (intro w hSw; (try dsimp only at hSw); go_simp; try with_reducible rfl)
      try simp only [Act.put, Array.toArray_toList, List.setIfInBounds_toArray, List.set_cons_zero, List.set_cons_succ]
      refine anyM_done (by kernel_rfl) ?_ _
      refine NoPanic.normal ?_
      have HG5 := Lib.hid (show Blk w4 w.heap.size 3 (okK n (k + q)).toArray from by have h := HG4.out; rw [splice_ones n k q QQ.out.2.2.1] at h; exact h)
      have HB5 := Lib.hid hB4
      clear HG4 hB4
      go_wp2_with fail
      go_roundw
      case rel => exact ⟨k + q, QQ.out.2.2.1, by go_num, by have := QQ.out; omega, HG5.out, HB5.out⟩
      case measure => have := QQ.out; simp [intOf]; omega
    · obtain rfl : k = n := by omega
      have HK := Lib.hid hblk
      clear hblk
      go_wp2_with fail
      go_ret
      exact ⟨_, rfl, by rw [← okK_all]; exact own_of (okK_len k k (Nat.le_refl _)) (Nat.le_refl _) (by unfold maxLen; omega) HK.out, hbel⟩
set_option maxRecDepth 100000 in
set_option maxHeartbeats 1000000 in
theorem ones_calls (f : Int) (m gp : Nat) (w : World) (hm : m ≤ 1000) (hp : Blk w gp 3 #[.int .i64 f]) :
    Calls Try.prog 84 #[.int .i64 m, .pointer (some ⟨gp, 0, none⟩)] w fun e w' => ∃ g, e = .returned (.slice (some ⟨g, 0, none⟩) m m) ∧ w'.ownsRow w.heap.size 3 1 (.slice (some ⟨g, 0, none⟩) m m) m (ints (share f (onesL m))) ∧ Below w.heap.size w w' := by
  have hS0 : (fun w' : World => w'.cell? ⟨gp, 0, none⟩ = some (.int .i64 f)) w.drew := hp.cell 0
  go_enter Try.func84, Try.ntmps84
  go_wp2_with fail
  refine wp_region_noPanic ?_
  refine region_M (S := fun w' => w'.cell? ⟨gp, 0, none⟩ = some (.int .i64 f)) (T := []) (by kernel_rfl) ?_
  refine anyM_take (i := 0) (oi := { dst := some 4, op := _, type := _, pos := _, after := _, guard := _ }) (v := ?_) rfl (by kernel_rfl) (fun _ _ _ h => h) (Or.inl ⟨by kernel_rfl, ?_⟩) hS0 ?_
  rotate_left 1
  · (intro w hSw; (try dsimp only at hSw); go_simp; try with_reducible rfl)
  try simp only [Act.put, Array.toArray_toList, List.setIfInBounds_toArray, List.set_cons_zero, List.set_cons_succ]
  refine anyM_free (i := 2) (oi := { dst := some 6, op := _, type := _, pos := _, after := _, guard := _ }) (v := ?_) rfl (by kernel_rfl) (fun _ _ _ h => h) (Or.inl ⟨by kernel_rfl, ?_⟩) (fun _ => hS0) ?_
  rotate_left 1
  · (intro w hSw; (try dsimp only at hSw); go_simp; try with_reducible rfl)
  try simp only [Act.put, Array.toArray_toList, List.setIfInBounds_toArray, List.set_cons_zero, List.set_cons_succ]
  refine anyM_one (i := 1) (by kernel_rfl) rfl (fun K hK => ?_)
  go_simp
  have hP1 := (hp.alloc (.cells #[.int .i64 1] 3)).drew
  have hx1 := (Blk.new w 3 #[.int .i64 1]).drew
  have hbel1 := (below_alloc (Below.refl _ w) (.cells #[.int .i64 1] 3)).drew
  have hS0 : (fun w' : World => w'.cell? ⟨gp, 0, none⟩ = some (.int .i64 f)) (w.alloc (.cells #[.int .i64 1] 3)).drew := hP1.cell 0
  refine hK.out _ _ (fun _ => hS0) ?_
  clear hK K
  try simp only [Act.put, Array.toArray_toList, List.setIfInBounds_toArray, List.set_cons_zero, List.set_cons_succ]
  refine anyM_one (i := 3) (by kernel_rfl) rfl (fun K hK => ?_)
  go_simp
  refine (repeat_calls m _ _ hm hx1).mono ?_
  rintro e w3 ⟨g3, rfl, ho3, hb3⟩
  have hP3 := hP1.below hb3 hP1.lt
  have hbel3 := below_then hbel1 hb3
  have hR3 := Holds.of_own ho3
  have hS0 : (fun w' : World => w'.cell? ⟨gp, 0, none⟩ = some (.int .i64 f)) w3 := hP3.cell 0
  refine hK.out _ _ (fun _ => hS0) ?_
  clear hK K
  try simp only [Act.put, Array.toArray_toList, List.setIfInBounds_toArray, List.set_cons_zero, List.set_cons_succ]
  refine anyM_one (i := 4) (by kernel_rfl) rfl (fun K hK => ?_)
  go_simp
  refine (share_own f _ m m _ (onesL m) w3 (ones_len m) hR3 (Nat.le_refl _) (by omega)).mono ?_
  rintro e w4 ⟨g4, rfl, ho4, hb4⟩
  have hbel4 := below_then hbel3 hb4
  have hS0 : (fun w' : World => w'.cell? ⟨gp, 0, none⟩ = some (.int .i64 f)) w4 := (hP3.below hb4 hP3.lt).cell 0
  refine hK.out _ _ (fun _ => hS0) ?_
  clear hK K
  try simp only [Act.put, Array.toArray_toList, List.setIfInBounds_toArray, List.set_cons_zero, List.set_cons_succ]
  refine anyM_free (i := 5) (oi := { dst := some 3, op := _, type := _, pos := _, after := _, guard := _ }) (v := ?_) rfl (by kernel_rfl) (fun _ _ _ h => h) (Or.inl ⟨by kernel_rfl, ?_⟩) (fun _ => hS0) ?_
  rotate_left 1
  · (intro w hSw; (try dsimp only at hSw); go_simp; try with_reducible rfl)
  try simp only [Act.put, Array.toArray_toList, List.setIfInBounds_toArray, List.set_cons_zero, List.set_cons_succ]
  refine anyM_done (by kernel_rfl) ?_ _
  refine NoPanic.normal ?_
  have HO := Lib.hid (own_low ho4 hbel3.size)
  clear ho3 ho4 hR3 hS0
  go_wp2_with fail
  go_ret
  exact ⟨g4, rfl, HO.out, hbel4⟩
end Go.Proofs.Ytpinfaoeggipmaa
