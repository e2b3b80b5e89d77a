/- Items of flexible rows: contracts of flex's items and of the reference's Flexible and Long. -/
import Derived.Test.YtpinfaoeggipmaaFlexPlain
import Derived.Test.YtpinfaoeggipmaaFix
import Derived.Test.YtpinfaoeggipmaaRowList
import Derived.Test.YtpinfaoeggipmaaRegionM
import Derived.Test.YtpinfaoeggipmaaShare
import Derived.Test.YtpinfaoeggipmaaRow
namespace Go.Proofs.Ytpinfaoeggipmaa
open Go.RowKit
set_option linter.unusedVariables false
set_option linter.unusedSimpArgs false
attribute [local go_sem high] run_min2 run_max2

def itemF (x : FlexV) (lg : Int) (st : Bool) (is : Int) : List Value := [.int .i64 x.b, .int .i64 x.lo, .int .i64 x.hi, .int .i64 x.g, .int .i64 x.s, .int .i64 x.e, .int .i64 lg, .bool st, .int .i64 is]
theorem info_item : (Try.prog.info? 103).map (fun i => (i.zero, i.size, i.bytes)) = some (some (.agg (itemF FlexV.zero 0 false 0).toArray), 9, 72) := by kernel_rfl
theorem bound_calls (n : Int) (w : World) : Calls Try.prog 90 #[.int .i64 n] w fun e w' => e = .returned (.int .i64 (fac n)) ∧ w = w' := by
  go_enter Try.func90, Try.ntmps90
  go_wp2_with fail
  go_ret
  exact ⟨rfl, rfl⟩
theorem rbound1_calls (n : Int) (w : World) : Calls Try.prog 95 #[.int .i64 n] w fun e w' => e = .returned (.int .i64 (fac n)) ∧ w = w' := by
  go_enter Try.func95, Try.ntmps95
  go_wp2_with fail
  go_ret
  exact ⟨rfl, rfl⟩
theorem rszp_calls (n : Int) (w : World) : Calls Try.prog 71 #[.int .i64 n] w fun e w' => e = .returned (.int .i64 (max 0 (cut n))) ∧ w = w' := by
  go_enter Try.func71, Try.ntmps71
  go_wp2_with (go_at_call 20; refine (rcut_calls _ _).mono ?_; rintro e w' ⟨rfl, rfl⟩)
  go_ret
  exact ⟨rfl, rfl⟩
set_option maxRecDepth 100000 in
set_option maxHeartbeats 1000000 in
theorem rlong_calls (x : FlexV) (w : World) : Calls Try.prog 81 #[.agg #[.int .i64 x.b, .int .i64 x.lo, .int .i64 x.hi, .int .i64 x.g, .int .i64 x.s, .int .i64 x.e]] w fun e w' => e = .returned (.int .i64 (long x)) ∧ Below w.heap.size w w' := by
  obtain ⟨b, lo, hi, g, s, e⟩ := x
  have hbel := below_alloc (Below.refl _ w) (.cells #[.int .i64 b, .int .i64 lo, .int .i64 hi, .int .i64 g, .int .i64 s, .int .i64 e] 95)
  go_enter Try.func81, Try.ntmps81
  go_wp2_with (go_at_call 24; refine (rbetween_calls _ _ _ _).mono ?_; rintro e w' ⟨rfl, rfl⟩)
  go_ret
  exact ⟨rfl, hbel⟩
set_option maxRecDepth 100000 in
set_option maxHeartbeats 2000000 in
theorem rflexible_calls (x : FlexV) (w : World) : Calls Try.prog 80 #[.agg #[.int .i64 x.b, .int .i64 x.lo, .int .i64 x.hi, .int .i64 x.g, .int .i64 x.s, .int .i64 x.e]] w fun e w' => e = .returned (.agg #[.int .i64 (fxb x).b, .int .i64 (fxb x).lo, .int .i64 (fxb x).hi, .int .i64 (fxb x).g, .int .i64 (fxb x).s, .int .i64 (fxb x).e]) ∧ Below w.heap.size w w' := by
  obtain ⟨b, lo, hi, g, s, e⟩ := x
  have hC := ((Blk.new w 95 #[.int .i64 b, .int .i64 lo, .int .i64 hi, .int .i64 g, .int .i64 s, .int .i64 e]).alloc (.cells #[.int .i64 0, .int .i64 0, .int .i64 0, .int .i64 0, .int .i64 0, .int .i64 0] 95)).drew
  have hR := (Blk.new (w.alloc (.cells #[.int .i64 b, .int .i64 lo, .int .i64 hi, .int .i64 g, .int .i64 s, .int .i64 e] 95)) 95 #[.int .i64 (cut b), .int .i64 (max 0 (cut lo)), .int .i64 (cut hi), .int .i64 (fac g), .int .i64 (fac s), .int .i64 (cut e)]).drew
  simp only [alloc_size] at hR
  have hbel := (below_alloc (below_alloc (Below.refl _ w) (.cells #[.int .i64 b, .int .i64 lo, .int .i64 hi, .int .i64 g, .int .i64 s, .int .i64 e] 95)) (.cells #[.int .i64 (cut b), .int .i64 (max 0 (cut lo)), .int .i64 (cut hi), .int .i64 (fac g), .int .i64 (fac s), .int .i64 (cut e)] 95)).drew
  have hS0 : (fun w' : World => w'.cell? ⟨w.heap.size, 0, none⟩ = some (.int .i64 b) ∧ w'.cell? ⟨w.heap.size, 1, none⟩ = some (.int .i64 lo) ∧ w'.cell? ⟨w.heap.size, 2, none⟩ = some (.int .i64 hi) ∧ w'.cell? ⟨w.heap.size, 3, none⟩ = some (.int .i64 g) ∧ w'.cell? ⟨w.heap.size, 4, none⟩ = some (.int .i64 s) ∧ w'.cell? ⟨w.heap.size, 5, none⟩ = some (.int .i64 e)) ((w.alloc (.cells #[.int .i64 b, .int .i64 lo, .int .i64 hi, .int .i64 g, .int .i64 s, .int .i64 e] 95)).alloc (.cells #[.int .i64 0, .int .i64 0, .int .i64 0, .int .i64 0, .int .i64 0, .int .i64 0] 95)).drew := ⟨hC.cell 0, hC.cell 1, hC.cell 2, hC.cell 3, hC.cell 4, hC.cell 5⟩
  have HR := Lib.hid hR
  have BL := Lib.hid hbel
  clear hC hR hbel
  go_enter Try.func80, Try.ntmps80
  go_wp2_with fail
  refine wp_region_noPanic ?_
  refine region_M (S := fun w' => w'.cell? ⟨w.heap.size, 0, none⟩ = some (.int .i64 b) ∧ w'.cell? ⟨w.heap.size, 1, none⟩ = some (.int .i64 lo) ∧ w'.cell? ⟨w.heap.size, 2, none⟩ = some (.int .i64 hi) ∧ w'.cell? ⟨w.heap.size, 3, none⟩ = some (.int .i64 g) ∧ w'.cell? ⟨w.heap.size, 4, none⟩ = some (.int .i64 s) ∧ w'.cell? ⟨w.heap.size, 5, none⟩ = some (.int .i64 e)) (T := [21]) (by kernel_rfl) ?_
  refine anyM_free (i := 0) (oi := { dst := some 4, op := _, type := _, pos := _, after := _, guard := _ }) (v := ?_) rfl (by kernel_rfl) (fun _ _ _ h => h) (Or.inl ⟨by kernel_rfl, ?_⟩) (fun _ => hS0) ?_
  rotate_left 1
  · (intro w hSw; (try dsimp only at hSw); go_simp; try with_reducible rfl)
  try simp only [Act.put, Array.toArray_toList, List.setIfInBounds_toArray, List.set_cons_zero, List.set_cons_succ]
  refine anyM_take (i := 1) (oi := { dst := some 5, op := _, type := _, pos := _, after := _, guard := _ }) (v := ?_) rfl (by kernel_rfl) (fun _ _ _ h => h) (Or.inl ⟨by kernel_rfl, ?_⟩) hS0 ?_
  rotate_left 1
  · (intro w hSw; (try dsimp only at hSw); go_simp; try with_reducible rfl)
  try simp only [Act.put, Array.toArray_toList, List.setIfInBounds_toArray, List.set_cons_zero, List.set_cons_succ]
  refine anyM_free (i := 3) (oi := { dst := some 7, op := _, type := _, pos := _, after := _, guard := _ }) (v := ?_) rfl (by kernel_rfl) (fun _ _ _ h => h) (Or.inl ⟨by kernel_rfl, ?_⟩) (fun _ => hS0) ?_
  rotate_left 1
  · (intro w hSw; (try dsimp only at hSw); go_simp; try with_reducible rfl)
  try simp only [Act.put, Array.toArray_toList, List.setIfInBounds_toArray, List.set_cons_zero, List.set_cons_succ]
  refine anyM_take (i := 4) (oi := { dst := some 8, op := _, type := _, pos := _, after := _, guard := _ }) (v := ?_) rfl (by kernel_rfl) (fun _ _ _ h => h) (Or.inl ⟨by kernel_rfl, ?_⟩) hS0 ?_
  rotate_left 1
  · (intro w hSw; (try dsimp only at hSw); go_simp; try with_reducible rfl)
  try simp only [Act.put, Array.toArray_toList, List.setIfInBounds_toArray, List.set_cons_zero, List.set_cons_succ]
  refine anyM_free (i := 6) (oi := { dst := some 10, op := _, type := _, pos := _, after := _, guard := _ }) (v := ?_) rfl (by kernel_rfl) (fun _ _ _ h => h) (Or.inl ⟨by kernel_rfl, ?_⟩) (fun _ => hS0) ?_
  rotate_left 1
  · (intro w hSw; (try dsimp only at hSw); go_simp; try with_reducible rfl)
  try simp only [Act.put, Array.toArray_toList, List.setIfInBounds_toArray, List.set_cons_zero, List.set_cons_succ]
  refine anyM_take (i := 7) (oi := { dst := some 11, op := _, type := _, pos := _, after := _, guard := _ }) (v := ?_) rfl (by kernel_rfl) (fun _ _ _ h => h) (Or.inl ⟨by kernel_rfl, ?_⟩) hS0 ?_
  rotate_left 1
  · (intro w hSw; (try dsimp only at hSw); go_simp; try with_reducible rfl)
  try simp only [Act.put, Array.toArray_toList, List.setIfInBounds_toArray, List.set_cons_zero, List.set_cons_succ]
  refine anyM_free (i := 9) (oi := { dst := some 13, op := _, type := _, pos := _, after := _, guard := _ }) (v := ?_) rfl (by kernel_rfl) (fun _ _ _ h => h) (Or.inl ⟨by kernel_rfl, ?_⟩) (fun _ => hS0) ?_
  rotate_left 1
  · (intro w hSw; (try dsimp only at hSw); go_simp; try with_reducible rfl)
  try simp only [Act.put, Array.toArray_toList, List.setIfInBounds_toArray, List.set_cons_zero, List.set_cons_succ]
  refine anyM_free (i := 10) (oi := { dst := some 14, op := _, type := _, pos := _, after := _, guard := _ }) (v := ?_) rfl (by kernel_rfl) (fun _ _ _ h => h) (Or.inl ⟨by kernel_rfl, ?_⟩) (fun _ => hS0) ?_
  rotate_left 1
  · (intro w hSw; (try dsimp only at hSw); go_simp; try with_reducible rfl)
  try simp only [Act.put, Array.toArray_toList, List.setIfInBounds_toArray, List.set_cons_zero, List.set_cons_succ]
  refine anyM_take (i := 11) (oi := { dst := some 15, op := _, type := _, pos := _, after := _, guard := _ }) (v := ?_) rfl (by kernel_rfl) (fun _ _ _ h => h) (Or.inl ⟨by kernel_rfl, ?_⟩) hS0 ?_
  rotate_left 1
  · (intro w hSw; (try dsimp only at hSw); go_simp; try with_reducible rfl)
  try simp only [Act.put, Array.toArray_toList, List.setIfInBounds_toArray, List.set_cons_zero, List.set_cons_succ]
  refine anyM_free (i := 13) (oi := { dst := some 17, op := _, type := _, pos := _, after := _, guard := _ }) (v := ?_) rfl (by kernel_rfl) (fun _ _ _ h => h) (Or.inl ⟨by kernel_rfl, ?_⟩) (fun _ => hS0) ?_
  rotate_left 1
  · (intro w hSw; (try dsimp only at hSw); go_simp; try with_reducible rfl)
  try simp only [Act.put, Array.toArray_toList, List.setIfInBounds_toArray, List.set_cons_zero, List.set_cons_succ]
  refine anyM_free (i := 14) (oi := { dst := some 18, op := _, type := _, pos := _, after := _, guard := _ }) (v := ?_) rfl (by kernel_rfl) (fun _ _ _ h => h) (Or.inl ⟨by kernel_rfl, ?_⟩) (fun _ => hS0) ?_
  rotate_left 1
  · (intro w hSw; (try dsimp only at hSw); go_simp; try with_reducible rfl)
  try simp only [Act.put, Array.toArray_toList, List.setIfInBounds_toArray, List.set_cons_zero, List.set_cons_succ]
  refine anyM_take (i := 15) (oi := { dst := some 19, op := _, type := _, pos := _, after := _, guard := _ }) (v := ?_) rfl (by kernel_rfl) (fun _ _ _ h => h) (Or.inl ⟨by kernel_rfl, ?_⟩) hS0 ?_
  rotate_left 1
  · (intro w hSw; (try dsimp only at hSw); go_simp; try with_reducible rfl)
  try simp only [Act.put, Array.toArray_toList, List.setIfInBounds_toArray, List.set_cons_zero, List.set_cons_succ]
  refine anyM_free (i := 17) (oi := { dst := some 21, op := _, type := _, pos := _, after := _, guard := _ }) (v := ?_) rfl (by kernel_rfl) (fun _ _ _ h => h) (Or.inl ⟨by kernel_rfl, ?_⟩) (fun _ => hS0) ?_
  rotate_left 1
  · (intro w hSw; (try dsimp only at hSw); go_simp; try with_reducible rfl)
  try simp only [Act.put, Array.toArray_toList, List.setIfInBounds_toArray, List.set_cons_zero, List.set_cons_succ]
  refine anyM_take (i := 18) (oi := { dst := some 22, op := _, type := _, pos := _, after := _, guard := _ }) (v := ?_) rfl (by kernel_rfl) (fun _ _ _ h => h) (Or.inl ⟨by kernel_rfl, ?_⟩) hS0 ?_
  rotate_left 1
  · (intro w hSw; (try dsimp only at hSw); go_simp; try with_reducible rfl)
  try simp only [Act.put, Array.toArray_toList, List.setIfInBounds_toArray, List.set_cons_zero, List.set_cons_succ]
  refine anyM_one (i := 2) (by kernel_rfl) rfl (fun K hK => ?_)
  go_simp
  refine (rcut_calls _ _).mono ?_
  rintro e w' ⟨rfl, rfl⟩
  refine hK.out _ _ (fun _ => hS0) ?_
  clear hK K
  try simp only [Act.put, Array.toArray_toList, List.setIfInBounds_toArray, List.set_cons_zero, List.set_cons_succ]
  refine anyM_one (i := 5) (by kernel_rfl) rfl (fun K hK => ?_)
  go_simp
  refine (rszp_calls _ _).mono ?_
  rintro e w' ⟨rfl, rfl⟩
  refine hK.out _ _ (fun _ => hS0) ?_
  clear hK K
  try simp only [Act.put, Array.toArray_toList, List.setIfInBounds_toArray, List.set_cons_zero, List.set_cons_succ]
  refine anyM_one (i := 8) (by kernel_rfl) rfl (fun K hK => ?_)
  go_simp
  refine (rcut_calls _ _).mono ?_
  rintro e w' ⟨rfl, rfl⟩
  refine hK.out _ _ (fun _ => hS0) ?_
  clear hK K
  try simp only [Act.put, Array.toArray_toList, List.setIfInBounds_toArray, List.set_cons_zero, List.set_cons_succ]
  refine anyM_one (i := 12) (by kernel_rfl) rfl (fun K hK => ?_)
  go_simp
  refine (rbound1_calls _ _).mono ?_
  rintro e w' ⟨rfl, rfl⟩
  refine hK.out _ _ (fun _ => hS0) ?_
  clear hK K
  try simp only [Act.put, Array.toArray_toList, List.setIfInBounds_toArray, List.set_cons_zero, List.set_cons_succ]
  refine anyM_one (i := 16) (by kernel_rfl) rfl (fun K hK => ?_)
  go_simp
  refine (rbound1_calls _ _).mono ?_
  rintro e w' ⟨rfl, rfl⟩
  refine hK.out _ _ (fun _ => hS0) ?_
  clear hK K
  try simp only [Act.put, Array.toArray_toList, List.setIfInBounds_toArray, List.set_cons_zero, List.set_cons_succ]
  refine anyM_one (i := 19) (by kernel_rfl) rfl (fun K hK => ?_)
  go_simp
  refine (rcut_calls _ _).mono ?_
  rintro e w' ⟨rfl, rfl⟩
  refine hK.out _ _ (fun _ => hS0) ?_
  clear hK K
  try simp only [Act.put, Array.toArray_toList, List.setIfInBounds_toArray, List.set_cons_zero, List.set_cons_succ]
  refine anyM_free (i := 20) (oi := { dst := some 24, op := _, type := _, pos := _, after := _, guard := _ }) (v := ?_) rfl (by kernel_rfl) (fun _ _ _ h => h) (Or.inl ⟨by kernel_rfl, ?_⟩) (fun _ => hS0) ?_
  rotate_left 1
  · (intro w hSw; (try dsimp only at hSw); go_simp; try with_reducible rfl)
  try simp only [Act.put, Array.toArray_toList, List.setIfInBounds_toArray, List.set_cons_zero, List.set_cons_succ]
  refine anyM_one (i := 21) (by kernel_rfl) rfl (fun K hK => ?_)
  go_simp
  refine hK.out _ _ (fun h => late_no h (by kernel_rfl)) ?_
  clear hK K
  try simp only [Act.put, Array.toArray_toList, List.setIfInBounds_toArray, List.set_cons_zero, List.set_cons_succ]
  refine anyM_done (by kernel_rfl) ?_ _
  refine NoPanic.normal ?_
  go_wp2_with fail
  exact bodyPost_ret (v := .agg #[.int .i64 (cut b), .int .i64 (max 0 (cut lo)), .int .i64 (cut hi), .int .i64 (fac g), .int .i64 (fac s), .int .i64 (cut e)]) (results_cell_row Try.results80 _ _ (w.heap.size + 1) 95 _ (0, 0) _ rfl HR.out Try.underlying95 rfl (by kernel_rfl)) rfl ⟨rfl, BL.out⟩
/-- The items behind k of them. -/
def itemRow (l : List FlexV) (k : Nat) (i : Nat) : List Value := if i < k then itemF (fxb (l.getD i FlexV.zero)) (long (fxb (l.getD i FlexV.zero))) false 0 else itemF FlexV.zero 0 false 0
theorem itemRow_len (l : List FlexV) (k i : Nat) : (itemRow l k i).length = 9 := by unfold itemRow; split <;> rfl
theorem flexs_flat (l : List FlexV) (w : World) (B : Nat) (A : Option Addr) (h : Holds w B A ((l.flatMap flexF))) {k : Nat} (hk : k < l.length) :
    ∃ b off, A = some ⟨b, off, none⟩ ∧ b < B ∧ ∀ j u, (flexF (l.getD k FlexV.zero))[j]? = some u → w.cell? ⟨b, off + k * 6 + j, none⟩ = some u :=
  Holds.flatL (f := flexF) h 6 (fun _ => rfl) (by omega) FlexV.zero hk
set_option maxRecDepth 100000 in
set_option maxHeartbeats 4000000 in
theorem items_calls (A : Option Addr) (n c B : Nat) (l : List FlexV) (w : World) (hn : l.length = n) (h : Holds w B A (l.flatMap flexF)) (hB : B ≤ w.heap.size) (hm : n ≤ 1000) :
    Calls Try.prog 72 #[.slice A n c] w fun e w' => ∃ g, e = .returned (.slice (some ⟨g, 0, none⟩) n n) ∧ w'.ownsRow w.heap.size 103 9 (.slice (some ⟨g, 0, none⟩) n n) n (rows n (itemRow l n)) ∧ Below w.heap.size w w' := by
  obtain ⟨i0, hi, hz0, hz1, hz2⟩ := info_parts info_item
  have HN := Lib.hid hn
  have H := Lib.hid h
  clear h hn
  go_enter Try.func72, Try.ntmps72
  go_wp2_with (at_make; refine wpList_make_full _ rfl (.tmp 8) (.tmp 8) 97 rfl w.heap.size 103 i0 _ 9 Try.underlying97 hi hz0 hz1 .i64 .i64 _ _ n rfl rfl rfl rfl (by rw [hz2]; omega) (by unfold maxLen; omega) (by simp) ?_; intro w2 hown hg)
  have hb2 := below_made (Below.refl _ w) hg
  have hrows := rows_made (L := 9) (by omega) (Value.agg (itemF FlexV.zero 0 false 0).toArray).cells rfl n
  rw [hrows] at hown
  have hown := own_congr (f' := itemRow l 0) hown (fun i hi => rfl)
  obtain ⟨g0, hg0⟩ : ∃ g, g = w.heap.size := ⟨_, rfl⟩
  rw [← hg0] at hown
  have HO := Lib.hid hown
  have HB2 := Lib.hid hb2
  have hg0w : w.heap.size ≤ g0 := by omega
  clear hown hg hrows hb2
  rw [← hg0]
  clear hg0
  go_loopw [12] (fun i wr => ∃ k : Nat, k ≤ n ∧ i = .int .i64 k ∧ wr.ownsRow g0 103 9 (.slice (some ⟨g0, 0, none⟩) n n) n (rows n (itemRow l k)) ∧ Below w.heap.size w wr) (fun i _ => n - (intOf i).toNat)
  case atStart => exact ⟨0, Nat.zero_le _, rfl, HO.out, HB2.out⟩
  case round =>
    obtain ⟨k, hk, rfl, hown, hbel⟩ := hrel
    have hw := hbel.size
    by_cases hlt : k < n
    · obtain ⟨b', off, rfl, hb, hc⟩ := flexs_flat l wr B A (H.out.below hbel hB) (k := k) (by rw [HN.out]; exact hlt)
      obtain ⟨⟨b, lo, hi', g, s, e⟩, hx⟩ : ∃ x, x = l.getD k FlexV.zero := ⟨_, rfl⟩
      rw [← hx] at hc
      have c0 := hc 0 _ rfl
      have c1 := hc 1 _ rfl
      have c2 := hc 2 _ rfl
      have c3 := hc 3 _ rfl
      have c4 := hc 4 _ rfl
      have c5 := hc 5 _ rfl
      simp only [Nat.add_zero] at c0
      have hg1 := (hown.lt g0 rfl).2
      have HROW : Hid (∀ i, i < n → (if i = k then itemF ⟨cut b, max 0 (cut lo), cut hi', fac g, fac s, cut e⟩ (between (cut b) (max 0 (cut lo)) (cut hi')) false 0 else itemRow l k i) = itemRow l (k + 1) i) := by
        show ∀ i, _
        intro i hi2
        unfold itemRow
        by_cases e1 : i = k
        · subst e1
          rw [if_pos rfl, if_pos (by omega), ← hx]
          rfl
        · rw [if_neg e1]
          by_cases e2 : i < k
          · rw [if_pos e2, if_pos (by omega)]
          · rw [if_neg e2, if_neg (by omega)]
      have KK := Lib.hid (show k ≤ n ∧ k < n from ⟨hk, hlt⟩)
      have HOWN := Lib.hid hown
      have HBEL := Lib.hid hbel
      clear hc hx hown hbel
      have hC := (Blk.new wr 95 #[.int .i64 b, .int .i64 lo, .int .i64 hi', .int .i64 g, .int .i64 s, .int .i64 e]).drew
      have hS0 : (fun w' : World => w'.cell? ⟨wr.heap.size, 0, none⟩ = some (.int .i64 b) ∧ w'.cell? ⟨wr.heap.size, 1, none⟩ = some (.int .i64 lo) ∧ w'.cell? ⟨wr.heap.size, 2, none⟩ = some (.int .i64 hi') ∧ w'.cell? ⟨wr.heap.size, 3, none⟩ = some (.int .i64 g) ∧ w'.cell? ⟨wr.heap.size, 4, none⟩ = some (.int .i64 s) ∧ w'.cell? ⟨wr.heap.size, 5, none⟩ = some (.int .i64 e)) (wr.alloc (.cells #[.int .i64 b, .int .i64 lo, .int .i64 hi', .int .i64 g, .int .i64 s, .int .i64 e] 95)).drew := ⟨hC.cell 0, hC.cell 1, hC.cell 2, hC.cell 3, hC.cell 4, hC.cell 5⟩
      clear hC
      go_wp2_with fail
      refine wp_region_noPanic ?_
      refine region_M (S := fun w' => w'.cell? ⟨wr.heap.size, 0, none⟩ = some (.int .i64 b) ∧ w'.cell? ⟨wr.heap.size, 1, none⟩ = some (.int .i64 lo) ∧ w'.cell? ⟨wr.heap.size, 2, none⟩ = some (.int .i64 hi') ∧ w'.cell? ⟨wr.heap.size, 3, none⟩ = some (.int .i64 g) ∧ w'.cell? ⟨wr.heap.size, 4, none⟩ = some (.int .i64 s) ∧ w'.cell? ⟨wr.heap.size, 5, none⟩ = some (.int .i64 e)) (T := [22]) (by kernel_rfl) ?_
      refine anyM_free (i := 0) (oi := { dst := some 17, op := _, type := _, pos := _, after := _, guard := _ }) (v := ?_) rfl (by kernel_rfl) (fun _ _ _ h => h) (Or.inl ⟨by kernel_rfl, ?_⟩) (fun _ => hS0) ?_
      rotate_left 1
      · (intro w hSw; (try dsimp only at hSw); go_simp; try with_reducible rfl)
      try simp only [Act.put, Array.toArray_toList, List.setIfInBounds_toArray, List.set_cons_zero, List.set_cons_succ]
      refine anyM_take (i := 1) (oi := { dst := some 18, op := _, type := _, pos := _, after := _, guard := _ }) (v := ?_) rfl (by kernel_rfl) (fun _ _ _ h => h) (Or.inl ⟨by kernel_rfl, ?_⟩) hS0 ?_
      rotate_left 1
      · (intro w hSw; (try dsimp only at hSw); go_simp; try with_reducible rfl)
      try simp only [Act.put, Array.toArray_toList, List.setIfInBounds_toArray, List.set_cons_zero, List.set_cons_succ]
      refine anyM_free (i := 3) (oi := { dst := some 20, op := _, type := _, pos := _, after := _, guard := _ }) (v := ?_) rfl (by kernel_rfl) (fun _ _ _ h => h) (Or.inl ⟨by kernel_rfl, ?_⟩) (fun _ => hS0) ?_
      rotate_left 1
      · (intro w hSw; (try dsimp only at hSw); go_simp; try with_reducible rfl)
      try simp only [Act.put, Array.toArray_toList, List.setIfInBounds_toArray, List.set_cons_zero, List.set_cons_succ]
      refine anyM_take (i := 4) (oi := { dst := some 21, op := _, type := _, pos := _, after := _, guard := _ }) (v := ?_) rfl (by kernel_rfl) (fun _ _ _ h => h) (Or.inl ⟨by kernel_rfl, ?_⟩) hS0 ?_
      rotate_left 1
      · (intro w hSw; (try dsimp only at hSw); go_simp; try with_reducible rfl)
      try simp only [Act.put, Array.toArray_toList, List.setIfInBounds_toArray, List.set_cons_zero, List.set_cons_succ]
      refine anyM_free (i := 7) (oi := { dst := some 24, op := _, type := _, pos := _, after := _, guard := _ }) (v := ?_) rfl (by kernel_rfl) (fun _ _ _ h => h) (Or.inl ⟨by kernel_rfl, ?_⟩) (fun _ => hS0) ?_
      rotate_left 1
      · (intro w hSw; (try dsimp only at hSw); go_simp; try with_reducible rfl)
      try simp only [Act.put, Array.toArray_toList, List.setIfInBounds_toArray, List.set_cons_zero, List.set_cons_succ]
      refine anyM_take (i := 8) (oi := { dst := some 25, op := _, type := _, pos := _, after := _, guard := _ }) (v := ?_) rfl (by kernel_rfl) (fun _ _ _ h => h) (Or.inl ⟨by kernel_rfl, ?_⟩) hS0 ?_
      rotate_left 1
      · (intro w hSw; (try dsimp only at hSw); go_simp; try with_reducible rfl)
      try simp only [Act.put, Array.toArray_toList, List.setIfInBounds_toArray, List.set_cons_zero, List.set_cons_succ]
      refine anyM_free (i := 10) (oi := { dst := some 27, op := _, type := _, pos := _, after := _, guard := _ }) (v := ?_) rfl (by kernel_rfl) (fun _ _ _ h => h) (Or.inl ⟨by kernel_rfl, ?_⟩) (fun _ => hS0) ?_
      rotate_left 1
      · (intro w hSw; (try dsimp only at hSw); go_simp; try with_reducible rfl)
      try simp only [Act.put, Array.toArray_toList, List.setIfInBounds_toArray, List.set_cons_zero, List.set_cons_succ]
      refine anyM_free (i := 11) (oi := { dst := some 28, op := _, type := _, pos := _, after := _, guard := _ }) (v := ?_) rfl (by kernel_rfl) (fun _ _ _ h => h) (Or.inl ⟨by kernel_rfl, ?_⟩) (fun _ => hS0) ?_
      rotate_left 1
      · (intro w hSw; (try dsimp only at hSw); go_simp; try with_reducible rfl)
      try simp only [Act.put, Array.toArray_toList, List.setIfInBounds_toArray, List.set_cons_zero, List.set_cons_succ]
      refine anyM_take (i := 12) (oi := { dst := some 29, op := _, type := _, pos := _, after := _, guard := _ }) (v := ?_) rfl (by kernel_rfl) (fun _ _ _ h => h) (Or.inl ⟨by kernel_rfl, ?_⟩) hS0 ?_
      rotate_left 1
      · (intro w hSw; (try dsimp only at hSw); go_simp; try with_reducible rfl)
      try simp only [Act.put, Array.toArray_toList, List.setIfInBounds_toArray, List.set_cons_zero, List.set_cons_succ]
      refine anyM_free (i := 14) (oi := { dst := some 31, op := _, type := _, pos := _, after := _, guard := _ }) (v := ?_) rfl (by kernel_rfl) (fun _ _ _ h => h) (Or.inl ⟨by kernel_rfl, ?_⟩) (fun _ => hS0) ?_
      rotate_left 1
      · (intro w hSw; (try dsimp only at hSw); go_simp; try with_reducible rfl)
      try simp only [Act.put, Array.toArray_toList, List.setIfInBounds_toArray, List.set_cons_zero, List.set_cons_succ]
      refine anyM_free (i := 15) (oi := { dst := some 32, op := _, type := _, pos := _, after := _, guard := _ }) (v := ?_) rfl (by kernel_rfl) (fun _ _ _ h => h) (Or.inl ⟨by kernel_rfl, ?_⟩) (fun _ => hS0) ?_
      rotate_left 1
      · (intro w hSw; (try dsimp only at hSw); go_simp; try with_reducible rfl)
      try simp only [Act.put, Array.toArray_toList, List.setIfInBounds_toArray, List.set_cons_zero, List.set_cons_succ]
      refine anyM_take (i := 16) (oi := { dst := some 33, op := _, type := _, pos := _, after := _, guard := _ }) (v := ?_) rfl (by kernel_rfl) (fun _ _ _ h => h) (Or.inl ⟨by kernel_rfl, ?_⟩) hS0 ?_
      rotate_left 1
      · (intro w hSw; (try dsimp only at hSw); go_simp; try with_reducible rfl)
      try simp only [Act.put, Array.toArray_toList, List.setIfInBounds_toArray, List.set_cons_zero, List.set_cons_succ]
      refine anyM_free (i := 18) (oi := { dst := some 35, op := _, type := _, pos := _, after := _, guard := _ }) (v := ?_) rfl (by kernel_rfl) (fun _ _ _ h => h) (Or.inl ⟨by kernel_rfl, ?_⟩) (fun _ => hS0) ?_
      rotate_left 1
      · (intro w hSw; (try dsimp only at hSw); go_simp; try with_reducible rfl)
      try simp only [Act.put, Array.toArray_toList, List.setIfInBounds_toArray, List.set_cons_zero, List.set_cons_succ]
      refine anyM_take (i := 19) (oi := { dst := some 36, op := _, type := _, pos := _, after := _, guard := _ }) (v := ?_) rfl (by kernel_rfl) (fun _ _ _ h => h) (Or.inl ⟨by kernel_rfl, ?_⟩) hS0 ?_
      rotate_left 1
      · (intro w hSw; (try dsimp only at hSw); go_simp; try with_reducible rfl)
      try simp only [Act.put, Array.toArray_toList, List.setIfInBounds_toArray, List.set_cons_zero, List.set_cons_succ]
      refine anyM_one (i := 2) (by kernel_rfl) rfl (fun K hK => ?_)
      go_simp
      refine (cut_calls _ _).mono ?_
      rintro e w' ⟨rfl, rfl⟩
      refine hK.out _ _ (fun _ => hS0) ?_
      clear hK K
      try simp only [Act.put, Array.toArray_toList, List.setIfInBounds_toArray, List.set_cons_zero, List.set_cons_succ]
      refine anyM_one (i := 5) (by kernel_rfl) rfl (fun K hK => ?_)
      go_simp
      refine (cut_calls _ _).mono ?_
      rintro e w' ⟨rfl, rfl⟩
      refine hK.out _ _ (fun _ => hS0) ?_
      clear hK K
      try simp only [Act.put, Array.toArray_toList, List.setIfInBounds_toArray, List.set_cons_zero, List.set_cons_succ]
      refine anyM_free (i := 6) (oi := { dst := some 23, op := _, type := _, pos := _, after := _, guard := _ }) (v := ?_) rfl (by kernel_rfl) (fun _ _ _ h => h) (Or.inl ⟨by kernel_rfl, ?_⟩) (fun _ => hS0) ?_
      rotate_left 1
      · (intro w hSw; (try dsimp only at hSw); go_simp; try with_reducible rfl)
      try simp only [Act.put, Array.toArray_toList, List.setIfInBounds_toArray, List.set_cons_zero, List.set_cons_succ]
      refine anyM_one (i := 9) (by kernel_rfl) rfl (fun K hK => ?_)
      go_simp
      refine (cut_calls _ _).mono ?_
      rintro e w' ⟨rfl, rfl⟩
      refine hK.out _ _ (fun _ => hS0) ?_
      clear hK K
      try simp only [Act.put, Array.toArray_toList, List.setIfInBounds_toArray, List.set_cons_zero, List.set_cons_succ]
      refine anyM_one (i := 13) (by kernel_rfl) rfl (fun K hK => ?_)
      go_simp
      refine (bound_calls _ _).mono ?_
      rintro e w' ⟨rfl, rfl⟩
      refine hK.out _ _ (fun _ => hS0) ?_
      clear hK K
      try simp only [Act.put, Array.toArray_toList, List.setIfInBounds_toArray, List.set_cons_zero, List.set_cons_succ]
      refine anyM_one (i := 17) (by kernel_rfl) rfl (fun K hK => ?_)
      go_simp
      refine (bound_calls _ _).mono ?_
      rintro e w' ⟨rfl, rfl⟩
      refine hK.out _ _ (fun _ => hS0) ?_
      clear hK K
      try simp only [Act.put, Array.toArray_toList, List.setIfInBounds_toArray, List.set_cons_zero, List.set_cons_succ]
      refine anyM_one (i := 20) (by kernel_rfl) rfl (fun K hK => ?_)
      go_simp
      refine (cut_calls _ _).mono ?_
      rintro e w' ⟨rfl, rfl⟩
      refine hK.out _ _ (fun _ => hS0) ?_
      clear hK K
      try simp only [Act.put, Array.toArray_toList, List.setIfInBounds_toArray, List.set_cons_zero, List.set_cons_succ]
      refine anyM_free (i := 21) (oi := { dst := some 38, op := _, type := _, pos := _, after := _, guard := _ }) (v := ?_) rfl (by kernel_rfl) (fun _ _ _ h => h) (Or.inl ⟨by kernel_rfl, ?_⟩) (fun _ => hS0) ?_
      rotate_left 1
      · (intro w hSw; (try dsimp only at hSw); go_simp; try with_reducible rfl)
      try simp only [Act.put, Array.toArray_toList, List.setIfInBounds_toArray, List.set_cons_zero, List.set_cons_succ]
      refine anyM_one (i := 22) (by kernel_rfl) rfl (fun K hK => ?_)
      go_simp
      refine hK.out _ _ (fun h => late_no h (by kernel_rfl)) ?_
      clear hK K
      try simp only [Act.put, Array.toArray_toList, List.setIfInBounds_toArray, List.set_cons_zero, List.set_cons_succ]
      refine anyM_done (by kernel_rfl) ?_ _
      refine NoPanic.normal ?_
      clear hS0 c0 c1 c2 c3 c4 c5
      go_wp2_with fail
      have hD := (Blk.new wr 95 #[.int .i64 (cut b), .int .i64 (max 0 (cut lo)), .int .i64 (cut hi'), .int .i64 (fac g), .int .i64 (fac s), .int .i64 (cut e)]).drew
      have hown2 : (wr.alloc (.cells #[.int .i64 (cut b), .int .i64 (max 0 (cut lo)), .int .i64 (cut hi'), .int .i64 (fac g), .int .i64 (fac s), .int .i64 (cut e)] 95)).drew.ownsRow _ _ _ _ _ _ := HOWN.out.alloc (.cells #[.int .i64 (cut b), .int .i64 (max 0 (cut lo)), .int .i64 (cut hi'), .int .i64 (fac g), .int .i64 (fac s), .int .i64 (cut e)] 95)
      have hbel2 := (below_alloc HBEL.out (.cells #[.int .i64 (cut b), .int .i64 (max 0 (cut lo)), .int .i64 (cut hi'), .int .i64 (fac g), .int .i64 (fac s), .int .i64 (cut e)] 95)).drew
      have hrl := itemRow_len l k
      generalize hwz : World.drew _ = wz at hD hown2 hbel2 ⊢
      have hD := hD.drew
      have hown2 : wz.drew.ownsRow _ _ _ _ _ _ := hown2
      have hbel2 := hbel2.drew
      have hS0 : (fun w' : World => w'.cell? ⟨wr.heap.size, 0, none⟩ = some (.int .i64 (cut b)) ∧ w'.cell? ⟨wr.heap.size, 1, none⟩ = some (.int .i64 (max 0 (cut lo))) ∧ w'.cell? ⟨wr.heap.size, 2, none⟩ = some (.int .i64 (cut hi')) ∧ w'.cell? ⟨wr.heap.size, 3, none⟩ = some (.int .i64 (fac g)) ∧ w'.cell? ⟨wr.heap.size, 4, none⟩ = some (.int .i64 (fac s)) ∧ w'.cell? ⟨wr.heap.size, 5, none⟩ = some (.int .i64 (cut e))) wz.drew := ⟨hD.cell 0, hD.cell 1, hD.cell 2, hD.cell 3, hD.cell 4, hD.cell 5⟩
      have hlt2 : k * 9 + 9 ≤ n * 9 := by omega
      clear hwz
      refine wp_region_noPanic ?_
      refine region_M (S := fun w' => w'.cell? ⟨wr.heap.size, 0, none⟩ = some (.int .i64 (cut b)) ∧ w'.cell? ⟨wr.heap.size, 1, none⟩ = some (.int .i64 (max 0 (cut lo))) ∧ w'.cell? ⟨wr.heap.size, 2, none⟩ = some (.int .i64 (cut hi')) ∧ w'.cell? ⟨wr.heap.size, 3, none⟩ = some (.int .i64 (fac g)) ∧ w'.cell? ⟨wr.heap.size, 4, none⟩ = some (.int .i64 (fac s)) ∧ w'.cell? ⟨wr.heap.size, 5, none⟩ = some (.int .i64 (cut e))) (T := [12]) (by kernel_rfl) ?_
      refine anyM_free (i := 0) (oi := { dst := some 39, op := _, type := _, pos := _, after := _, guard := _ }) (v := ?_) rfl (by kernel_rfl) (fun _ _ _ h => h) (Or.inl ⟨by kernel_rfl, ?_⟩) (fun _ => hS0) ?_
      rotate_left 1
      · (intro w hSw; (try dsimp only at hSw); go_simp; try with_reducible rfl)
      try simp only [Act.put, Array.toArray_toList, List.setIfInBounds_toArray, List.set_cons_zero, List.set_cons_succ]
      refine anyM_free (i := 1) (oi := { dst := some 40, op := _, type := _, pos := _, after := _, guard := _ }) (v := ?_) rfl (by kernel_rfl) (fun _ _ _ h => h) (Or.inl ⟨by kernel_rfl, ?_⟩) (fun _ => hS0) ?_
      rotate_left 1
      · (intro w hSw; (try dsimp only at hSw); go_simp; try with_reducible rfl)
      try simp only [Act.put, Array.toArray_toList, List.setIfInBounds_toArray, List.set_cons_zero, List.set_cons_succ]
      refine anyM_take (i := 2) (oi := { dst := some 41, op := _, type := _, pos := _, after := _, guard := _ }) (v := ?_) rfl (by kernel_rfl) (fun _ _ _ h => h) (Or.inl ⟨by kernel_rfl, ?_⟩) hS0 ?_
      rotate_left 1
      · (intro w hSw; (try dsimp only at hSw); go_simp; try with_reducible rfl)
      try simp only [Act.put, Array.toArray_toList, List.setIfInBounds_toArray, List.set_cons_zero, List.set_cons_succ]
      refine anyM_free (i := 3) (oi := { dst := some 42, op := _, type := _, pos := _, after := _, guard := _ }) (v := ?_) rfl (by kernel_rfl) (fun _ _ _ h => h) (Or.inl ⟨by kernel_rfl, ?_⟩) (fun _ => hS0) ?_
      rotate_left 1
      · (intro w hSw; (try dsimp only at hSw); go_simp; try with_reducible rfl)
      try simp only [Act.put, Array.toArray_toList, List.setIfInBounds_toArray, List.set_cons_zero, List.set_cons_succ]
      refine anyM_take (i := 4) (oi := { dst := some 43, op := _, type := _, pos := _, after := _, guard := _ }) (v := ?_) rfl (by kernel_rfl) (fun _ _ _ h => h) (Or.inl ⟨by kernel_rfl, ?_⟩) hS0 ?_
      rotate_left 1
      · (intro w hSw; (try dsimp only at hSw); go_simp; try with_reducible rfl)
      try simp only [Act.put, Array.toArray_toList, List.setIfInBounds_toArray, List.set_cons_zero, List.set_cons_succ]
      refine anyM_free (i := 5) (oi := { dst := some 44, op := _, type := _, pos := _, after := _, guard := _ }) (v := ?_) rfl (by kernel_rfl) (fun _ _ _ h => h) (Or.inl ⟨by kernel_rfl, ?_⟩) (fun _ => hS0) ?_
      rotate_left 1
      · (intro w hSw; (try dsimp only at hSw); go_simp; try with_reducible rfl)
      try simp only [Act.put, Array.toArray_toList, List.setIfInBounds_toArray, List.set_cons_zero, List.set_cons_succ]
      refine anyM_take (i := 6) (oi := { dst := some 45, op := _, type := _, pos := _, after := _, guard := _ }) (v := ?_) rfl (by kernel_rfl) (fun _ _ _ h => h) (Or.inl ⟨by kernel_rfl, ?_⟩) hS0 ?_
      rotate_left 1
      · (intro w hSw; (try dsimp only at hSw); go_simp; try with_reducible rfl)
      try simp only [Act.put, Array.toArray_toList, List.setIfInBounds_toArray, List.set_cons_zero, List.set_cons_succ]
      refine anyM_free (i := 7) (oi := { dst := some 46, op := _, type := _, pos := _, after := _, guard := _ }) (v := ?_) rfl (by kernel_rfl) (fun _ _ _ h => h) (Or.inl ⟨by kernel_rfl, ?_⟩) (fun _ => hS0) ?_
      rotate_left 1
      · (intro w hSw; (try dsimp only at hSw); go_simp; try with_reducible rfl)
      try simp only [Act.put, Array.toArray_toList, List.setIfInBounds_toArray, List.set_cons_zero, List.set_cons_succ]
      refine anyM_take (i := 8) (oi := { dst := some 47, op := _, type := _, pos := _, after := _, guard := _ }) (v := ?_) rfl (by kernel_rfl) (fun _ _ _ h => h) (Or.inl ⟨by kernel_rfl, ?_⟩) hS0 ?_
      rotate_left 1
      · (intro w hSw; (try dsimp only at hSw); go_simp; try with_reducible rfl)
      try simp only [Act.put, Array.toArray_toList, List.setIfInBounds_toArray, List.set_cons_zero, List.set_cons_succ]
      refine anyM_one (i := 9) (by kernel_rfl) rfl (fun K hK => ?_)
      go_simp
      refine (between_calls _ _ _ _).mono ?_
      rintro e w' ⟨rfl, rfl⟩
      refine hK.out _ _ (fun _ => hS0) ?_
      clear hK K
      try simp only [Act.put, Array.toArray_toList, List.setIfInBounds_toArray, List.set_cons_zero, List.set_cons_succ]
      refine anyM_free (i := 10) (oi := { dst := some 49, op := _, type := _, pos := _, after := _, guard := _ }) (v := ?_) rfl (by kernel_rfl) (fun _ _ _ h => h) (Or.inl ⟨by kernel_rfl, ?_⟩) (fun _ => hS0) ?_
      rotate_left 1
      · (intro w hSw; (try dsimp only at hSw); go_simp; try with_reducible rfl)
      try simp only [Act.put, Array.toArray_toList, List.setIfInBounds_toArray, List.set_cons_zero, List.set_cons_succ]
      refine anyM_free (i := 11) (oi := { dst := some 50, op := _, type := _, pos := _, after := _, guard := _ }) (v := ?_) rfl (by kernel_rfl) (fun _ _ _ h => h) (Or.inl ⟨by kernel_rfl, ?_⟩) (fun _ => hS0) ?_
      rotate_left 1
      · (intro w hSw; (try dsimp only at hSw); go_simp; try with_reducible rfl)
      try simp only [Act.put, Array.toArray_toList, List.setIfInBounds_toArray, List.set_cons_zero, List.set_cons_succ]
      refine anyM_one (i := 12) (by kernel_rfl) rfl (fun K hK => ?_)
      rw [if_pos (by kernel_rfl)]
      refine wp_store_mid _ _ _ rfl g0 (k * 9) (itemF ⟨cut b, max 0 (cut lo), cut hi', fac g, fac s, cut e⟩ (between (cut b) (max 0 (cut lo)) (cut hi')) false 0).toArray rfl rfl (own_there hown2 (by rw [rows_len hrl]; show k * 9 + 9 ≤ n * 9; omega)) (by kernel_rfl) (by simp [itemF, Value.oneCell']) ?_
      refine hK.out _ _ (fun h => late_no h (by kernel_rfl)) ?_
      clear hK K
      try simp only [Act.put, Array.toArray_toList, List.setIfInBounds_toArray, List.set_cons_zero, List.set_cons_succ]
      refine anyM_done (by kernel_rfl) ?_ _
      refine NoPanic.normal ?_
      have hst := own_congr (own_rowSet (by omega) hrl hown2 (KK.out.2) (vs := itemF ⟨cut b, max 0 (cut lo), cut hi', fac g, fac s, cut e⟩ (between (cut b) (max 0 (cut lo)) (cut hi')) false 0) rfl) HROW.out
      have HST := Lib.hid hst
      have HBN := Lib.hid (below_setCells (b := g0) hg0w (itemF ⟨cut b, max 0 (cut lo), cut hi', fac g, fac s, cut e⟩ (between (cut b) (max 0 (cut lo)) (cut hi')) false 0) (k * 9) _ hbel2)
      clear hst hown2 hbel2 hD hS0 hrl
      go_wp2_with fail
      go_roundw
      case rel => exact ⟨k + 1, by have := KK.out; omega, by go_num, HST.out, HBN.out⟩
      case measure => have := KK.out; simp [intOf]; omega
    · obtain rfl : k = n := by omega
      have HOO := Lib.hid hown
      clear hown
      go_wp2_with fail
      go_ret
      exact ⟨g0, rfl, own_low HOO.out hg0w, hbel⟩
end Go.Proofs.Ytpinfaoeggipmaa
