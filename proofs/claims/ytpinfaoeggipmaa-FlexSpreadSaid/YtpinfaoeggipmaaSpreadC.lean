/- Contract of the reference's Spread. -/
import Derived.Test.YtpinfaoeggipmaaSpreadB
import Derived.Test.YtpinfaoeggipmaaRShare
import Derived.Test.YtpinfaoeggipmaaRowList
namespace Go.Proofs.Ytpinfaoeggipmaa
open Go.RowKit
set_option linter.unusedVariables false
set_option linter.unusedSimpArgs false
attribute [local go_sem high] run_min2 run_max2

theorem ok_set (n k : Nat) (hk : k < n) : (okK n k).set k (.int .i64 1) = okK n (k + 1) := by
  unfold okK
  rw [List.set_append_right _ _ (by simp)]
  obtain ⟨q, hq⟩ : ∃ q, n - k = q + 1 := ⟨n - k - 1, by omega⟩
  have hq2 : n - (k + 1) = q := by omega
  rw [hq, hq2, List.length_replicate, Nat.sub_self, List.replicate_succ, List.set_cons_zero, List.replicate_succ']
  simp
/-- The first k shares behind the first place. -/
def putK (N : Nat) (s : Nat → Int) (k : Nat) : List Int := (List.range N).map (fun i => if 0 < i ∧ i ≤ k then s (i - 1) else 0)
theorem putK_zero (N : Nat) (s : Nat → Int) : putK N s 0 = List.replicate N 0 := by
  apply List.ext_getElem
  · simp [putK]
  · intro i h1 h2
    simp only [putK, List.getElem_map, List.getElem_range, List.getElem_replicate]
    rw [if_neg (by omega)]
theorem putK_set (N : Nat) (s : Nat → Int) (k : Nat) (hk : k + 1 < N) : (ints (putK N s k)).set (k + 1) (.int .i64 (s k)) = ints (putK N s (k + 1)) := by
  unfold ints putK
  apply List.ext_getElem
  · simp
  · intro i h1 h2
    simp only [List.getElem_set, List.getElem_map, List.getElem_range]
    by_cases e : k + 1 = i
    · subst e; rw [if_pos rfl, if_pos (by omega), Nat.add_sub_cancel]
    · rw [if_neg e]
      by_cases e2 : 0 < i ∧ i ≤ k
      · rw [if_pos e2, if_pos (by omega)]
      · rw [if_neg e2, if_neg (by omega)]
theorem putK_at (N : Nat) (s : Nat → Int) (k i : Nat) (hi : i < N) : (ints (putK N s k))[i]? = some (.int .i64 (if 0 < i ∧ i ≤ k then s (i - 1) else 0)) := by simp [ints, putK, hi]
theorem putK_len (N : Nat) (s : Nat → Int) (k : Nat) : (putK N s k).length = N := by simp [putK]
theorem putK_all (N : Nat) (l : List Int) (hl : l.length = N - 1) (hN : 1 ≤ N) : putK N (fun i => l.getD i 0) (N - 1) = 0 :: l := by
  apply List.ext_getElem
  · simp [putK]; omega
  · intro i h1 h2
    simp only [putK, List.getElem_map, List.getElem_range]
    cases i with
    | zero => rw [if_neg (by omega)]; rfl
    | succ j =>
      have hj : j < l.length := by simp at h2; omega
      rw [if_pos (by omega)]
      simp [List.getD, hj]
/-- The first k of the pairs; at place k what stands there of it. -/
def pairK (N : Nat) (s : Nat → Int) (k : Nat) : List Int := (List.range N).map (fun i => if i < k then totS s i else 0)
theorem pairK_zero (N : Nat) (s : Nat → Int) : pairK N s 0 = List.replicate N 0 := by
  apply List.ext_getElem
  · simp [pairK]
  · intro i h1 h2; simp [pairK]
theorem pairK_at (N : Nat) (s : Nat → Int) (k i : Nat) (hi : i < N) : (ints (pairK N s k))[i]? = some (.int .i64 (if i < k then totS s i else 0)) := by simp [ints, pairK, hi]
theorem pairK_len (N : Nat) (s : Nat → Int) (k : Nat) : (pairK N s k).length = N := by simp [pairK]
theorem pairK_all (N : Nat) (s : Nat → Int) : pairK N s N = (List.range N).map (totS s) := by
  unfold pairK
  apply List.map_congr_left
  intro i hi
  rw [if_pos (by simpa using hi)]
theorem pairK_set (N : Nat) (s : Nat → Int) (k : Nat) (hk : k < N) : (ints (pairK N s k)).set k (.int .i64 (totS s k)) = ints (pairK N s (k + 1)) := by
  unfold ints pairK
  apply List.ext_getElem
  · simp
  · intro i h1 h2
    simp only [List.getElem_set, List.getElem_map, List.getElem_range]
    by_cases e : k = i
    · subst e; rw [if_pos rfl, if_pos (by omega)]
    · rw [if_neg e]
      by_cases e2 : i < k
      · rw [if_pos e2, if_pos (by omega)]
      · rw [if_neg e2, if_neg (by omega)]
set_option maxRecDepth 100000 in
set_option maxHeartbeats 8000000 in
theorem rspread_good (mode free : Int) (N : Nat) (w : World) (n1 : 1 ≤ N) (n2 : N ≤ 500) :
    Calls Try.prog 57 #[.int .i64 mode, .int .i64 free, .int .i64 N] w fun e w' => ∃ v, e = .returned v ∧ w'.ownsRow w.heap.size 3 1 v (spreadF mode free N).length (ints (spreadF mode free N)) ∧ Below w.heap.size w w' := by
  obtain ⟨i0, hi, hz0, hz1, hz2⟩ := info_parts info_int
  have n3 : ¬ (N : Int) < 1 := by omega
  have n4 : ¬ (500 : Int) < (N : Int) := by omega
  obtain ⟨f, hf⟩ : ∃ f, f = cut free := ⟨_, rfl⟩
  have HC := Lib.hid (fun w => rcut_calls free w)
  rw [← hf] at HC
  have HF := Lib.hid hf
  clear hf
  obtain ⟨D, hD⟩ : ∃ D : Nat, D = 2 * N := ⟨_, rfl⟩
  have eD : 2 * (N : Int) = (D : Int) := by omega
  have eD1 : D ≤ 1000 := by omega
  have eDw : IntKind.i64.wrap (D : Int) = (D : Int) := IntWalk.i64_in _ (by omega)
  have HDN := Lib.hid hD
  clear hD
  have hS0 := True.intro
  have hb0 : Below w.heap.size w w.drew := (Below.refl _ w).drew
  go_enter Try.func57, Try.ntmps57
  go_wp2_with fail
  refine wp_region_noPanic ?_
  refine region_M (S := fun w' => True) (T := []) (by kernel_rfl) ?_
  refine anyM_free (i := 0) (oi := { dst := some 20, op := _, type := _, pos := _, after := _, guard := _ }) (v := ?_) rfl (by kernel_rfl) (fun _ _ _ h => h) (Or.inl ⟨by kernel_rfl, ?_⟩) (fun _ => hS0) ?_
  rotate_left 1
  · (intro w hSw; (try dsimp only at hSw); go_simp; try with_reducible rfl)
  try simp only [Act.put, Array.toArray_toList, List.setIfInBounds_toArray, List.set_cons_zero, List.set_cons_succ]
  refine anyM_free (i := 2) (oi := { dst := some 22, op := _, type := _, pos := _, after := _, guard := _ }) (v := ?_) rfl (by kernel_rfl) (fun _ _ _ h => h) (Or.inl ⟨by kernel_rfl, ?_⟩) (fun _ => hS0) ?_
  rotate_left 1
  · (intro w hSw; (try dsimp only at hSw); go_simp; try with_reducible rfl)
  try simp only [Act.put, Array.toArray_toList, List.setIfInBounds_toArray, List.set_cons_zero, List.set_cons_succ]
  refine anyM_free (i := 3) (oi := { dst := some 23, op := _, type := _, pos := _, after := _, guard := _ }) (v := ?_) rfl (by kernel_rfl) (fun _ _ _ h => h) (Or.inl ⟨by kernel_rfl, ?_⟩) (fun _ => hS0) ?_
  rotate_left 1
  · (intro w hSw; (try dsimp only at hSw); go_simp; try with_reducible rfl)
  try simp only [Act.put, Array.toArray_toList, List.setIfInBounds_toArray, List.set_cons_zero, List.set_cons_succ]
  refine anyM_two (i := 1) (j := 4) (by kernel_rfl) rfl rfl (fun K hK => ?_) (fun K hK => ?_)
  · skip
    refine step_make_full rfl (.tmp 20) (.tmp 20) 22 rfl w.heap.size 3 i0 (.int .i64 0) 1 Try.underlying22 hi hz0 hz1 .i64 .i64 _ _ N rfl rfl rfl rfl (by rw [hz2]; omega) (by unfold maxLen; omega) (Nat.le_refl _) ?_
    intro wa han hga
    have hba := below_made hb0 hga
    have hlt1 := (han.lt _ rfl).2
    have hle1 : w.heap.size ≤ w.drew.heap.size := Nat.le_refl _
    generalize hg1 : w.drew.heap.size = gW at han hlt1 hle1 ⊢
    refine hK.out _ _ (fun _ => hS0) ?_
    clear hK K
    try simp only [Act.put, Array.toArray_toList, List.setIfInBounds_toArray, List.set_cons_zero, List.set_cons_succ]
    refine anyM_free (i := 5) (oi := { dst := some 7, op := _, type := _, pos := _, after := _, guard := _ }) (v := ?_) rfl (by kernel_rfl) (fun _ _ _ h => h) (Or.inl ⟨by kernel_rfl, ?_⟩) (fun _ => hS0) ?_
    rotate_left 1
    · (intro w hSw; (try dsimp only at hSw); go_simp; try with_reducible rfl)
    try simp only [Act.put, Array.toArray_toList, List.setIfInBounds_toArray, List.set_cons_zero, List.set_cons_succ]
    refine anyM_one (i := 4) (by kernel_rfl) rfl (fun K hK => ?_)
    refine step_make_full rfl (.tmp 23) (.tmp 23) 22 rfl wa.heap.size 3 i0 (.int .i64 0) 1 Try.underlying22 hi hz0 hz1 .i64 .i64 _ _ D rfl rfl rfl rfl (by rw [hz2]; omega) (by unfold maxLen; omega) (Nat.le_refl _) ?_
    intro wb hbd hgb
    have hbb := below_made (Below.refl _ wa) hgb
    have hbn := own_below han hbb
    have hbel := below_then hba hbb
    have hle2 := hba.size
    have hbd := own_low hbd hle2
    generalize hg2 : wa.heap.size = gD at hbd hlt1 hle2 ⊢
    have hlt2 : gW < gD := hlt1
    clear han
    refine hK.out _ _ (fun _ => hS0) ?_
    clear hK K
    try simp only [Act.put, Array.toArray_toList, List.setIfInBounds_toArray, List.set_cons_zero, List.set_cons_succ]
    refine anyM_free (i := 6) (oi := { dst := some 8, op := _, type := _, pos := _, after := _, guard := _ }) (v := ?_) rfl (by kernel_rfl) (fun _ _ _ h => h) (Or.inl ⟨by kernel_rfl, ?_⟩) (fun _ => hS0) ?_
    rotate_left 1
    · (intro w hSw; (try dsimp only at hSw); go_simp; try with_reducible rfl)
    try simp only [Act.put, Array.toArray_toList, List.setIfInBounds_toArray, List.set_cons_zero, List.set_cons_succ]
    refine anyM_done (by kernel_rfl) ?_ _
    refine NoPanic.normal ?_
    rw [zeros_ints] at hbn
    rw [okK_zero] at hbd
    have HW := Lib.hid (show w.heap.size ≤ gW by omega)
    have HWD := Lib.hid (show w.heap.size ≤ gD by omega)
    have HNE := Lib.hid (show gW ≠ gD by omega)
    have HN0 := Lib.hid hbn
    have HD0 := Lib.hid hbd
    have HB0 := Lib.hid hbel
    clear hbn hbd hbel hlt2 hga hgb hba hbb hlt1 hle1 hle2 hg1 hg2 hb0 hS0
    go_wp2_with fail
    clear eD eDw
    go_loopw [27] (fun i wr => ∃ k : Nat, k ≤ D ∧ i = .int .i64 k ∧ wr.ownsRow w.heap.size 3 1 (.slice (some ⟨gD, 0, none⟩) D D) D (okK D k) ∧ wr.ownsRow w.heap.size 3 1 (.slice (some ⟨gW, 0, none⟩) N N) N (ints (List.replicate N 0)) ∧ Below w.heap.size w wr) (fun i _ => D - (intOf i).toNat)
    case atStart => exact ⟨0, Nat.zero_le _, rfl, HD0.out, HN0.out, HB0.out⟩
    case round =>
      obtain ⟨k, hk, rfl, hdown, hown, hbel⟩ := hrel
      by_cases hlt : k < D
      · have yD : wr.frozen? ⟨gD, k, none⟩ = false := own_free hdown
        have uD : wr.cell? ⟨gD, k, none⟩ = some (.int .i64 0) := own_cell hdown (by unfold okK; rw [List.getElem?_append_right (by simp), List.length_replicate, Nat.sub_self, List.getElem?_replicate_of_lt (by omega)])
        have HSET := Lib.hid (show (wr.setCell ⟨gD, k, none⟩ (.int .i64 1)).ownsRow w.heap.size 3 1 (.slice (some ⟨gD, 0, none⟩) D D) D (okK D (k + 1)) from by rw [← ok_set D k hlt]; exact own_set hdown)
        have HSF := Lib.hid (own_setFar (b := gD) (j := k) (u := .int .i64 1) hown (by simp [Value.ownBlock]; exact HNE.out))
        have HBS := Lib.hid (below_set hbel (b := gD) (off := k) HWD.out (.int .i64 1))
        have KK := Lib.hid hlt
        clear hdown hown hbel
        go_wp2_with fail
        go_roundw
        case rel => exact ⟨k + 1, KK.out, by go_num, HSET.out, HSF.out, HBS.out⟩
        case measure => have := KK.out; simp [intOf]; omega
      · obtain rfl : D = k := by omega
        have HD := Lib.hid hdown
        have HO := Lib.hid hown
        have HB := Lib.hid hbel
        have yW := own_free (p := 0) hown
        have uW : wr.cell? ⟨gW, 0, none⟩ = some (.int .i64 0) := own_cell hown (by rw [ints, List.map_replicate, List.getElem?_replicate_of_lt (by omega)])
        clear hdown hown hbel
        by_cases m1 : mode = 1
        · subst m1
          have E := sp_one (free := free) n1 n2
          rw [← HF.out] at E
          have HE := Lib.hid E
          clear E
          go_wp2_with (first | (go_at_call 20; refine (HC.out _).mono ?_; rintro e w' ⟨rfl, rfl⟩) | (go_at_call 22; refine (rpart_calls _ _ _ _).mono ?_; rintro e w' ⟨rfl, rfl⟩))
          go_ret
          exact ⟨_, rfl, by rw [HE.out, firstL_len, ← first_ints]; exact own_set HO.out, below_set HB.out (b := gW) (off := 0) HW.out _⟩
        · by_cases m2 : mode = 2
          · subst m2
            have E := sp_two (mode := 2) (free := free) n1 n2 (Or.inl rfl)
            rw [← HF.out] at E
            have HE := Lib.hid E
            clear E
            go_wp2_with (first | (go_at_call 20; refine (HC.out _).mono ?_; rintro e w' ⟨rfl, rfl⟩) | (go_at_call 22; refine (rpart_calls _ _ _ _).mono ?_; rintro e w' ⟨rfl, rfl⟩))
            go_ret
            exact ⟨_, rfl, by rw [HE.out, firstL_len, ← first_ints]; exact own_set HO.out, below_set HB.out (b := gW) (off := 0) HW.out _⟩
          · by_cases m5 : mode = 5
            · subst m5
              by_cases hf0 : f ≤ 0
              · skip
                have E := sp_two (mode := 5) n1 n2 (Or.inr ⟨rfl, by rw [← HF.out]; exact hf0⟩)
                rw [← HF.out] at E
                have HE := Lib.hid E
                clear E
                go_wp2_with (first | (go_at_call 20; refine (HC.out _).mono ?_; rintro e w' ⟨rfl, rfl⟩) | (go_at_call 22; refine (rpart_calls _ _ _ _).mono ?_; rintro e w' ⟨rfl, rfl⟩))
                go_ret
                exact ⟨_, rfl, by rw [HE.out, firstL_len, ← first_ints]; exact own_set HO.out, below_set HB.out (b := gW) (off := 0) HW.out _⟩
              · skip
                obtain ⟨wo, rfl⟩ : ∃ wo : World, wo = wr := ⟨_, rfl⟩
                obtain ⟨sh, hsh⟩ : ∃ sh, sh = share f (onesL D) := ⟨_, rfl⟩
                have hshl : sh.length = D := by rw [hsh, share_length, ones_len]
                obtain ⟨sf, hsf⟩ : ∃ sf : Nat → Int, sf = fun i => sh.getD i 0 := ⟨_, rfl⟩
                have hsb : ∀ i, -562949953421312000 ≤ sf i ∧ sf i ≤ 562949953421312000 := fun i => by rw [hsf, hsh]; exact share_getD _ _ i
                have HSB := Lib.hid hsb
                have HR := Lib.hid (fun w' h => rshare_own f (some ⟨gD, 0, none⟩) D D w'.heap.size (onesL D) w' (ones_len D) h (Nat.le_refl _) (by omega))
                rw [← hsh] at HR
                have HAT := Lib.hid (show ∀ k, k < D → (ints sh)[k]? = some (.int .i64 (sf k)) from fun k hk => by rw [hsf]; simp [ints, List.getD, hshl, hk])
                have HEND : Hid (spreadF 5 free N = pairK N sf N) := by
                  show _ = _
                  rw [sp_five n1 n2 (by rw [← HF.out]; omega), ← HF.out, pairK_all, hsf, hsh, HDN.out]
                clear hsh hsf hsb hshl
                go_wp2_with (first | (go_at_call 20; refine (HC.out _).mono ?_; rintro e w' ⟨rfl, rfl⟩) | (go_at_call 29; refine (HR.out _ (by have h := Holds.of_own HD.out; rw [okK_all] at h; exact h)).mono ?_; rintro e w4 ⟨A4, c4, rfl, ho4, hb4⟩; obtain ⟨g4, c5, hv, _, _⟩ := own_some ho4 (by have := HDN.out; omega); injection hv with hv1 hv2 hv3; subst hv1; clear hv2 hv3; have HO4 := Lib.hid (own_below HO.out hb4); have HS4 := Lib.hid ho4; have HB4 := Lib.hid (below_then HB.out hb4); have HLT := Lib.hid (show gW < wo.heap.size from (HO.out.lt _ rfl).2); clear ho4 hb4))
                go_loopw [90] (fun i wr => ∃ k : Nat, k ≤ N ∧ i = .int .i64 k ∧ wr.ownsRow w.heap.size 3 1 (.slice (some ⟨gW, 0, none⟩) N N) N (ints (pairK N sf k)) ∧ wr.ownsRow wo.heap.size 3 1 (.slice (some ⟨g4, 0, none⟩) D c4) D (ints sh) ∧ Below w.heap.size w wr) (fun i _ => N - (intOf i).toNat)
                case atStart => exact ⟨0, Nat.zero_le _, rfl, by rw [pairK_zero]; exact HO4.out, HS4.out, HB4.out⟩
                case round =>
                  obtain ⟨k, hk, rfl, hown, hsown, hbel⟩ := hrel
                  by_cases hlt : k < N
                  · obtain ⟨j2, hj2⟩ : ∃ j : Nat, j = 2 * k := ⟨_, rfl⟩
                    have ej2 : 2 * (k : Int) = (j2 : Int) := by omega
                    have ej2w : IntKind.i64.wrap (j2 : Int) = (j2 : Int) := IntWalk.i64_in _ (by omega)
                    have hjD : j2 < D := by have := HDN.out; omega
                    obtain ⟨sa, hsa⟩ : ∃ x, x = sf j2 := ⟨_, rfl⟩
                    have u4 : wr.cell? ⟨g4, j2, none⟩ = some (.int .i64 sa) := by rw [hsa]; exact own_cell hsown (HAT.out j2 hjD)
                    have yW : wr.frozen? ⟨gW, k, none⟩ = false := own_free hown
                    have uW := own_cell hown (pairK_at N sf k k hlt)
                    have hsa2 := HSB.out j2
                    rw [← hsa] at hsa2
                    obtain ⟨sa0, sa1⟩ := hsa2
                    have HSF1 := Lib.hid (own_setFar (b := gW) (j := k) (u := .int .i64 sa) hsown (own_ne hsown HLT.out))
                    have HBS1 := Lib.hid (below_set hbel (b := gW) (off := k) HW.out (.int .i64 sa))
                    have KK := Lib.hid hlt
                    by_cases hk0 : k = 0
                    · have hk1 : (k : Int) ≤ 0 := by omega
                      have hk2 : ¬ 0 < (k : Int) := by omega
                      have HSET := Lib.hid (show (wr.setCell ⟨gW, k, none⟩ (.int .i64 sa)).ownsRow w.heap.size 3 1 (.slice (some ⟨gW, 0, none⟩) N N) N (ints (pairK N sf (k + 1))) from by
                        rw [← pairK_set N sf k hlt]
                        have e : totS sf k = sa := by unfold totS; rw [if_neg (by omega), hsa, hj2]; omega
                        rw [e]; exact own_set hown)
                      clear hown hsown hbel hsa hj2 hk0
                      go_wp2_with fail
                      go_roundw
                      case rel => exact ⟨k + 1, KK.out, by go_num, HSET.out, HSF1.out, HBS1.out⟩
                      case measure => have := KK.out; simp [intOf]; omega
                    · obtain ⟨j1, hj1⟩ : ∃ j : Nat, j + 1 = j2 := ⟨j2 - 1, by omega⟩
                      have hj1D : j1 < D := by omega
                      have ej1 : (j2 : Int) - 1 = (j1 : Int) := by omega
                      have ej1w : IntKind.i64.wrap (j1 : Int) = (j1 : Int) := IntWalk.i64_in _ (by omega)
                      obtain ⟨sb, hsb⟩ : ∃ x, x = sf j1 := ⟨_, rfl⟩
                      have hsb2 := HSB.out j1
                      rw [← hsb] at hsb2
                      obtain ⟨sb0, sb1⟩ := hsb2
                      have hk1 : ¬ (k : Int) ≤ 0 := by omega
                      have hk2 : 0 < (k : Int) := by omega
                      have HST : Hid ((ints (pairK N sf k)).set k (.int .i64 (sa + sb)) = ints (pairK N sf (k + 1))) := by
                        show _ = _
                        rw [← pairK_set N sf k hlt]
                        have e : totS sf k = sa + sb := by unfold totS; rw [if_pos (by omega), hsa, hsb, ← hj2, show j2 - 1 = j1 by omega]
                        rw [e]
                      have HO1 := Lib.hid (own_set (j := k) (u := .int .i64 sa) hown)
                      have HS1 := HSF1
                      have HB1 := HBS1
                      have v4 : (wr.setCell ⟨gW, k, none⟩ (.int .i64 sa)).drew.cell? ⟨gW, k, none⟩ = some (.int .i64 sa) := own_cell HO1.out (by rw [List.getElem?_set_self (by rw [hown.1]; omega)])
                      have v5 : (wr.setCell ⟨gW, k, none⟩ (.int .i64 sa)).drew.cell? ⟨g4, j1, none⟩ = some (.int .i64 sb) := own_cell HS1.out (by rw [hsb]; exact HAT.out j1 (by omega))
                      have yW2 : (wr.setCell ⟨gW, k, none⟩ (.int .i64 sa)).frozen? ⟨gW, k, none⟩ = false := own_free HO1.out
                      have hS0 : (fun w' : World => w'.cell? ⟨gW, k, none⟩ = some (.int .i64 sa) ∧ w'.cell? ⟨g4, j1, none⟩ = some (.int .i64 sb)) (wr.setCell ⟨gW, k, none⟩ (.int .i64 sa)).drew := ⟨v4, v5⟩
                      clear hown hsown hbel hsa hsb v4 v5 hj2 hj1 hk0
                      go_wp2_with fail
                      refine wp_region_noPanic ?_
                      refine region_M (S := fun w' => w'.cell? ⟨gW, k, none⟩ = some (.int .i64 sa) ∧ w'.cell? ⟨g4, j1, none⟩ = some (.int .i64 sb)) (T := [12]) (by kernel_rfl) ?_
                      refine anyM_free (i := 0) (oi := { dst := some 103, op := _, type := _, pos := _, after := _, guard := _ }) (v := ?_) rfl (by kernel_rfl) (fun _ _ _ h => h) (Or.inl ⟨by kernel_rfl, ?_⟩) (fun _ => hS0) ?_
                      rotate_left 1
                      · (intro w hSw; (try dsimp only at hSw); go_simp; try with_reducible rfl)
                      try simp only [Act.put, Array.toArray_toList, List.setIfInBounds_toArray, List.set_cons_zero, List.set_cons_succ]
                      refine anyM_free (i := 1) (oi := { dst := some 104, op := _, type := _, pos := _, after := _, guard := _ }) (v := ?_) rfl (by kernel_rfl) (fun _ _ _ h => h) (Or.inl ⟨by kernel_rfl, ?_⟩) (fun _ => hS0) ?_
                      rotate_left 1
                      · (intro w hSw; (try dsimp only at hSw); go_simp; try with_reducible rfl)
                      try simp only [Act.put, Array.toArray_toList, List.setIfInBounds_toArray, List.set_cons_zero, List.set_cons_succ]
                      refine anyM_free (i := 2) (oi := { dst := some 105, op := _, type := _, pos := _, after := _, guard := _ }) (v := ?_) rfl (by kernel_rfl) (fun _ _ _ h => h) (Or.inl ⟨by kernel_rfl, ?_⟩) (fun _ => hS0) ?_
                      rotate_left 1
                      · (intro w hSw; (try dsimp only at hSw); go_simp; try with_reducible rfl)
                      try simp only [Act.put, Array.toArray_toList, List.setIfInBounds_toArray, List.set_cons_zero, List.set_cons_succ]
                      refine anyM_take (i := 3) (oi := { dst := some 106, op := _, type := _, pos := _, after := _, guard := _ }) (v := ?_) rfl (by kernel_rfl) (fun _ _ _ h => h) (Or.inl ⟨by kernel_rfl, ?_⟩) hS0 ?_
                      rotate_left 1
                      · (intro w hSw; (try dsimp only at hSw); go_simp; try with_reducible rfl)
                      try simp only [Act.put, Array.toArray_toList, List.setIfInBounds_toArray, List.set_cons_zero, List.set_cons_succ]
                      refine anyM_free (i := 4) (oi := { dst := some 107, op := _, type := _, pos := _, after := _, guard := _ }) (v := ?_) rfl (by kernel_rfl) (fun _ _ _ h => h) (Or.inl ⟨by kernel_rfl, ?_⟩) (fun _ => hS0) ?_
                      rotate_left 1
                      · (intro w hSw; (try dsimp only at hSw); go_simp; try with_reducible rfl)
                      try simp only [Act.put, Array.toArray_toList, List.setIfInBounds_toArray, List.set_cons_zero, List.set_cons_succ]
                      refine anyM_free (i := 5) (oi := { dst := some 108, op := _, type := _, pos := _, after := _, guard := _ }) (v := ?_) rfl (by kernel_rfl) (fun _ _ _ h => h) (Or.inl ⟨by kernel_rfl, ?_⟩) (fun _ => hS0) ?_
                      rotate_left 1
                      · (intro w hSw; (try dsimp only at hSw); go_simp; try with_reducible rfl)
                      try simp only [Act.put, Array.toArray_toList, List.setIfInBounds_toArray, List.set_cons_zero, List.set_cons_succ]
                      refine anyM_free (i := 6) (oi := { dst := some 109, op := _, type := _, pos := _, after := _, guard := _ }) (v := ?_) rfl (by kernel_rfl) (fun _ _ _ h => h) (Or.inl ⟨by kernel_rfl, ?_⟩) (fun _ => hS0) ?_
                      rotate_left 1
                      · (intro w hSw; (try dsimp only at hSw); go_simp; try with_reducible rfl)
                      try simp only [Act.put, Array.toArray_toList, List.setIfInBounds_toArray, List.set_cons_zero, List.set_cons_succ]
                      refine anyM_free (i := 7) (oi := { dst := some 110, op := _, type := _, pos := _, after := _, guard := _ }) (v := ?_) rfl (by kernel_rfl) (fun _ _ _ h => h) (Or.inl ⟨by kernel_rfl, ?_⟩) (fun _ => hS0) ?_
                      rotate_left 1
                      · (intro w hSw; (try dsimp only at hSw); go_simp; try with_reducible rfl)
                      try simp only [Act.put, Array.toArray_toList, List.setIfInBounds_toArray, List.set_cons_zero, List.set_cons_succ]
                      refine anyM_free (i := 8) (oi := { dst := some 111, op := _, type := _, pos := _, after := _, guard := _ }) (v := ?_) rfl (by kernel_rfl) (fun _ _ _ h => h) (Or.inl ⟨by kernel_rfl, ?_⟩) (fun _ => hS0) ?_
                      rotate_left 1
                      · (intro w hSw; (try dsimp only at hSw); go_simp; try with_reducible rfl)
                      try simp only [Act.put, Array.toArray_toList, List.setIfInBounds_toArray, List.set_cons_zero, List.set_cons_succ]
                      refine anyM_take (i := 9) (oi := { dst := some 112, op := _, type := _, pos := _, after := _, guard := _ }) (v := ?_) rfl (by kernel_rfl) (fun _ _ _ h => h) (Or.inl ⟨by kernel_rfl, ?_⟩) hS0 ?_
                      rotate_left 1
                      · (intro w hSw; (try dsimp only at hSw); go_simp; try with_reducible rfl)
                      try simp only [Act.put, Array.toArray_toList, List.setIfInBounds_toArray, List.set_cons_zero, List.set_cons_succ]
                      refine anyM_free (i := 10) (oi := { dst := some 113, op := _, type := _, pos := _, after := _, guard := _ }) (v := ?_) rfl (by kernel_rfl) (fun _ _ _ h => h) (Or.inl ⟨by kernel_rfl, ?_⟩) (fun _ => hS0) ?_
                      rotate_left 1
                      · (intro w hSw; (try dsimp only at hSw); go_simp; try with_reducible rfl)
                      try simp only [Act.put, Array.toArray_toList, List.setIfInBounds_toArray, List.set_cons_zero, List.set_cons_succ]
                      refine anyM_free (i := 11) (oi := { dst := some 114, op := _, type := _, pos := _, after := _, guard := _ }) (v := ?_) rfl (by kernel_rfl) (fun _ _ _ h => h) (Or.inl ⟨by kernel_rfl, ?_⟩) (fun _ => hS0) ?_
                      rotate_left 1
                      · (intro w hSw; (try dsimp only at hSw); go_simp; try with_reducible rfl)
                      try simp only [Act.put, Array.toArray_toList, List.setIfInBounds_toArray, List.set_cons_zero, List.set_cons_succ]
                      refine anyM_one (i := 12) (by kernel_rfl) rfl (fun K hK => ?_)
                      go_simp
                      have HSET := Lib.hid (show ((wr.setCell ⟨gW, k, none⟩ (.int .i64 sa)).setCell ⟨gW, k, none⟩ (.int .i64 (sa + sb))).ownsRow w.heap.size 3 1 (.slice (some ⟨gW, 0, none⟩) N N) N (ints (pairK N sf (k + 1))) from by rw [← HST.out]; have h := own_set (j := k) (u := .int .i64 (sa + sb)) HO1.out; rw [List.set_set] at h; exact h)
                      have HSF := Lib.hid (own_setFar (b := gW) (j := k) (u := .int .i64 (sa + sb)) HS1.out (own_ne HS1.out HLT.out))
                      have HBS := Lib.hid (below_set HB1.out (b := gW) (off := k) HW.out (.int .i64 (sa + sb))).drew
                      refine hK.out _ _ (fun h => late_no h (by kernel_rfl)) ?_
                      clear hK K
                      try simp only [Act.put, Array.toArray_toList, List.setIfInBounds_toArray, List.set_cons_zero, List.set_cons_succ]
                      refine anyM_done (by kernel_rfl) ?_ _
                      refine NoPanic.normal ?_
                      go_wp2_with fail
                      go_roundw
                      case rel => exact ⟨k + 1, KK.out, by go_num, HSET.out, HSF.out, HBS.out⟩
                      case measure => have := KK.out; simp [intOf]; omega
                  · obtain rfl : k = N := by omega
                    have HE := Lib.hid hown
                    clear hown hsown
                    go_wp2_with fail
                    go_ret
                    exact ⟨_, rfl, by rw [HEND.out, pairK_len]; exact HE.out, hbel⟩
            · by_cases m4 : mode = 4
              · subst m4
                by_cases hf0 : f ≤ 0
                · have HN := Lib.hid (sp_none (free := free) (mode := 4) n1 n2 (by decide) (by decide) (by rw [← HF.out]; omega) (by decide))
                  go_wp2_with (go_at_call 20; refine (HC.out _).mono ?_; rintro e w' ⟨rfl, rfl⟩)
                  go_ret
                  exact ⟨_, rfl, by rw [HN.out, List.length_replicate]; exact HO.out, HB.out⟩
                · skip
                  obtain ⟨q, hq⟩ : ∃ q : Nat, q = N - 1 := ⟨_, rfl⟩
                  have eq1 : (N : Int) - 1 = (q : Int) := by omega
                  have eqw : IntKind.i64.wrap (q : Int) = (q : Int) := IntWalk.i64_in _ (by omega)
                  have eq2 : q ≤ D := by have := HDN.out; omega
                  have eq3 : q ≤ 1000 := by omega
                  obtain ⟨wo, rfl⟩ : ∃ wo : World, wo = wr := ⟨_, rfl⟩
                  obtain ⟨sh, hsh⟩ : ∃ sh, sh = share f (onesL q) := ⟨_, rfl⟩
                  have hshl : sh.length = q := by rw [hsh, share_length, ones_len]
                  obtain ⟨sf, hsf⟩ : ∃ sf : Nat → Int, sf = fun i => sh.getD i 0 := ⟨_, rfl⟩
                  have hsb : ∀ i, -562949953421312000 ≤ sf i ∧ sf i ≤ 562949953421312000 := fun i => by rw [hsf, hsh]; exact share_getD _ _ i
                  have HSB := Lib.hid hsb
                  have HR := Lib.hid (fun w' h => rshare_own f (some ⟨gD, 0, none⟩) q D w'.heap.size (onesL q) w' (ones_len q) h (Nat.le_refl _) (by omega))
                  rw [← hsh] at HR
                  have HAT := Lib.hid (show ∀ k, k < q → (ints sh)[k]? = some (.int .i64 (sf k)) from fun k hk => by rw [hsf]; simp [ints, List.getD, hshl, hk])
                  have HEND : Hid (spreadF 4 free N = putK N sf q) := by
                    show _ = _
                    rw [sp_four n1 n2 (by rw [← HF.out]; omega), ← HF.out, hsf, hq, putK_all N sh (by rw [hshl, hq]) n1, hsh, hq]
                  have HOT : Hid (wo.ownsRow w.heap.size 3 1 (.slice (some ⟨gD, 0, none⟩) q D) q (ints (onesL q))) := by
                    have h := own_cut HD.out eq2
                    rw [okK_all] at h
                    have e : (ints (onesL D)).take (q * 1) = ints (onesL q) := by simp only [ints, onesL, Nat.mul_one, ← List.map_take, List.take_replicate, Nat.min_eq_left eq2]
                    rw [e] at h
                    exact h
                  have HQ := Lib.hid (show q + 1 = N by omega)
                  clear hq hsh hsf hsb hshl
                  go_wp2_with (first | (go_at_call 20; refine (HC.out _).mono ?_; rintro e w' ⟨rfl, rfl⟩) | (go_at_call 29; refine (HR.out _ (Holds.of_own HOT.out)).mono ?_; rintro e w4 ⟨A4, c4, rfl, ho4, hb4⟩))
                  have HO4 := Lib.hid (own_below HO.out hb4)
                  have HS4 := Lib.hid ho4
                  have HB4 := Lib.hid (below_then HB.out hb4)
                  have HLT := Lib.hid (show gW < wo.heap.size from (HO.out.lt _ rfl).2)
                  clear ho4 hb4 eq1 eqw
                  go_loopw [71] (fun i wr => ∃ k : Nat, k ≤ q ∧ i = .int .i64 k ∧ wr.ownsRow w.heap.size 3 1 (.slice (some ⟨gW, 0, none⟩) N N) N (ints (putK N sf k)) ∧ wr.ownsRow wo.heap.size 3 1 (.slice A4 q c4) q (ints sh) ∧ Below w.heap.size w wr) (fun i _ => q - (intOf i).toNat)
                  case atStart => exact ⟨0, Nat.zero_le _, rfl, by rw [putK_zero]; exact HO4.out, HS4.out, HB4.out⟩
                  case round =>
                    obtain ⟨k, hk, rfl, hown, hsown, hbel⟩ := hrel
                    by_cases hlt : k < q
                    · obtain ⟨g5, c5, hv, _, _⟩ := own_some hsown (by omega)
                      injection hv with hv1 hv2 hv3
                      subst hv1
                      have u4 : wr.cell? ⟨g5, k, none⟩ = some (.int .i64 (sf k)) := own_cell hsown (HAT.out k hlt)
                      have yW : wr.frozen? ⟨gW, k + 1, none⟩ = false := own_free hown
                      have hkN : k + 1 < N := by have := HQ.out; omega
                      have uW := own_cell hown (putK_at N sf k (k + 1) hkN)
                      have HSET := Lib.hid (show (wr.setCell ⟨gW, k + 1, none⟩ (.int .i64 (sf k))).ownsRow w.heap.size 3 1 (.slice (some ⟨gW, 0, none⟩) N N) N (ints (putK N sf (k + 1))) from by rw [← putK_set N sf k hkN]; exact own_set hown)
                      have HSF := Lib.hid (own_setFar (b := gW) (j := k + 1) (u := .int .i64 (sf k)) hsown (own_ne hsown HLT.out))
                      have HBS := Lib.hid (below_set hbel (b := gW) (off := k + 1) HW.out (.int .i64 (sf k)))
                      have KK := Lib.hid hlt
                      obtain ⟨sk, hsk⟩ : ∃ x, x = sf k := ⟨_, rfl⟩
                      rw [← hsk] at HSET HSF HBS u4
                      clear hown hsown hbel hsk hv2 hv3
                      go_wp2_with fail
                      go_roundw
                      case rel => exact ⟨k + 1, KK.out, by go_num, HSET.out, HSF.out, HBS.out⟩
                      case measure => have := KK.out; simp [intOf]; omega
                    · obtain rfl : k = q := by omega
                      have HE := Lib.hid hown
                      clear hown hsown
                      go_wp2_with fail
                      go_ret
                      exact ⟨_, rfl, by rw [HEND.out, putK_len]; exact HE.out, hbel⟩
              · have HN := Lib.hid (sp_none (free := free) n1 n2 m1 m2 (fun h => m4 h.1) m5)
                go_wp2_with (go_at_call 20; refine (HC.out _).mono ?_; rintro e w' ⟨rfl, rfl⟩)
                go_ret
                exact ⟨_, rfl, by rw [HN.out, List.length_replicate]; exact HO.out, HB.out⟩
  · skip
    refine step_make_full rfl (.tmp 23) (.tmp 23) 22 rfl w.heap.size 3 i0 (.int .i64 0) 1 Try.underlying22 hi hz0 hz1 .i64 .i64 _ _ D rfl rfl rfl rfl (by rw [hz2]; omega) (by unfold maxLen; omega) (Nat.le_refl _) ?_
    intro wa had hga
    have hba := below_made hb0 hga
    have hlt1 := (had.lt _ rfl).2
    have hle1 : w.heap.size ≤ w.drew.heap.size := Nat.le_refl _
    generalize hg1 : w.drew.heap.size = gD at had hlt1 hle1 ⊢
    refine hK.out _ _ (fun _ => hS0) ?_
    clear hK K
    try simp only [Act.put, Array.toArray_toList, List.setIfInBounds_toArray, List.set_cons_zero, List.set_cons_succ]
    refine anyM_one (i := 1) (by kernel_rfl) rfl (fun K hK => ?_)
    refine step_make_full rfl (.tmp 20) (.tmp 20) 22 rfl wa.heap.size 3 i0 (.int .i64 0) 1 Try.underlying22 hi hz0 hz1 .i64 .i64 _ _ N rfl rfl rfl rfl (by rw [hz2]; omega) (by unfold maxLen; omega) (Nat.le_refl _) ?_
    intro wb hbn hgb
    have hbb := below_made (Below.refl _ wa) hgb
    have hbd := own_below had hbb
    have hbel := below_then hba hbb
    have hle2 := hba.size
    have hbn := own_low hbn hle2
    generalize hg2 : wa.heap.size = gW at hbn hlt1 hle2 ⊢
    have hlt2 : gD < gW := hlt1
    clear had
    refine hK.out _ _ (fun _ => hS0) ?_
    clear hK K
    try simp only [Act.put, Array.toArray_toList, List.setIfInBounds_toArray, List.set_cons_zero, List.set_cons_succ]
    refine anyM_free (i := 5) (oi := { dst := some 7, op := _, type := _, pos := _, after := _, guard := _ }) (v := ?_) rfl (by kernel_rfl) (fun _ _ _ h => h) (Or.inl ⟨by kernel_rfl, ?_⟩) (fun _ => hS0) ?_
    rotate_left 1
    · (intro w hSw; (try dsimp only at hSw); go_simp; try with_reducible rfl)
    try simp only [Act.put, Array.toArray_toList, List.setIfInBounds_toArray, List.set_cons_zero, List.set_cons_succ]
    refine anyM_free (i := 6) (oi := { dst := some 8, op := _, type := _, pos := _, after := _, guard := _ }) (v := ?_) rfl (by kernel_rfl) (fun _ _ _ h => h) (Or.inl ⟨by kernel_rfl, ?_⟩) (fun _ => hS0) ?_
    rotate_left 1
    · (intro w hSw; (try dsimp only at hSw); go_simp; try with_reducible rfl)
    try simp only [Act.put, Array.toArray_toList, List.setIfInBounds_toArray, List.set_cons_zero, List.set_cons_succ]
    refine anyM_done (by kernel_rfl) ?_ _
    refine NoPanic.normal ?_
    rw [zeros_ints] at hbn
    rw [okK_zero] at hbd
    have HW := Lib.hid (show w.heap.size ≤ gW by omega)
    have HWD := Lib.hid (show w.heap.size ≤ gD by omega)
    have HNE := Lib.hid (show gW ≠ gD by omega)
    have HN0 := Lib.hid hbn
    have HD0 := Lib.hid hbd
    have HB0 := Lib.hid hbel
    clear hbn hbd hbel hlt2 hga hgb hba hbb hlt1 hle1 hle2 hg1 hg2 hb0 hS0
    go_wp2_with fail
    clear eD eDw
    go_loopw [27] (fun i wr => ∃ k : Nat, k ≤ D ∧ i = .int .i64 k ∧ wr.ownsRow w.heap.size 3 1 (.slice (some ⟨gD, 0, none⟩) D D) D (okK D k) ∧ wr.ownsRow w.heap.size 3 1 (.slice (some ⟨gW, 0, none⟩) N N) N (ints (List.replicate N 0)) ∧ Below w.heap.size w wr) (fun i _ => D - (intOf i).toNat)
    case atStart => exact ⟨0, Nat.zero_le _, rfl, HD0.out, HN0.out, HB0.out⟩
    case round =>
      obtain ⟨k, hk, rfl, hdown, hown, hbel⟩ := hrel
      by_cases hlt : k < D
      · have yD : wr.frozen? ⟨gD, k, none⟩ = false := own_free hdown
        have uD : wr.cell? ⟨gD, k, none⟩ = some (.int .i64 0) := own_cell hdown (by unfold okK; rw [List.getElem?_append_right (by simp), List.length_replicate, Nat.sub_self, List.getElem?_replicate_of_lt (by omega)])
        have HSET := Lib.hid (show (wr.setCell ⟨gD, k, none⟩ (.int .i64 1)).ownsRow w.heap.size 3 1 (.slice (some ⟨gD, 0, none⟩) D D) D (okK D (k + 1)) from by rw [← ok_set D k hlt]; exact own_set hdown)
        have HSF := Lib.hid (own_setFar (b := gD) (j := k) (u := .int .i64 1) hown (by simp [Value.ownBlock]; exact HNE.out))
        have HBS := Lib.hid (below_set hbel (b := gD) (off := k) HWD.out (.int .i64 1))
        have KK := Lib.hid hlt
        clear hdown hown hbel
        go_wp2_with fail
        go_roundw
        case rel => exact ⟨k + 1, KK.out, by go_num, HSET.out, HSF.out, HBS.out⟩
        case measure => have := KK.out; simp [intOf]; omega
      · obtain rfl : D = k := by omega
        have HD := Lib.hid hdown
        have HO := Lib.hid hown
        have HB := Lib.hid hbel
        have yW := own_free (p := 0) hown
        have uW : wr.cell? ⟨gW, 0, none⟩ = some (.int .i64 0) := own_cell hown (by rw [ints, List.map_replicate, List.getElem?_replicate_of_lt (by omega)])
        clear hdown hown hbel
        by_cases m1 : mode = 1
        · subst m1
          have E := sp_one (free := free) n1 n2
          rw [← HF.out] at E
          have HE := Lib.hid E
          clear E
          go_wp2_with (first | (go_at_call 20; refine (HC.out _).mono ?_; rintro e w' ⟨rfl, rfl⟩) | (go_at_call 22; refine (rpart_calls _ _ _ _).mono ?_; rintro e w' ⟨rfl, rfl⟩))
          go_ret
          exact ⟨_, rfl, by rw [HE.out, firstL_len, ← first_ints]; exact own_set HO.out, below_set HB.out (b := gW) (off := 0) HW.out _⟩
        · by_cases m2 : mode = 2
          · subst m2
            have E := sp_two (mode := 2) (free := free) n1 n2 (Or.inl rfl)
            rw [← HF.out] at E
            have HE := Lib.hid E
            clear E
            go_wp2_with (first | (go_at_call 20; refine (HC.out _).mono ?_; rintro e w' ⟨rfl, rfl⟩) | (go_at_call 22; refine (rpart_calls _ _ _ _).mono ?_; rintro e w' ⟨rfl, rfl⟩))
            go_ret
            exact ⟨_, rfl, by rw [HE.out, firstL_len, ← first_ints]; exact own_set HO.out, below_set HB.out (b := gW) (off := 0) HW.out _⟩
          · by_cases m5 : mode = 5
            · subst m5
              by_cases hf0 : f ≤ 0
              · skip
                have E := sp_two (mode := 5) n1 n2 (Or.inr ⟨rfl, by rw [← HF.out]; exact hf0⟩)
                rw [← HF.out] at E
                have HE := Lib.hid E
                clear E
                go_wp2_with (first | (go_at_call 20; refine (HC.out _).mono ?_; rintro e w' ⟨rfl, rfl⟩) | (go_at_call 22; refine (rpart_calls _ _ _ _).mono ?_; rintro e w' ⟨rfl, rfl⟩))
                go_ret
                exact ⟨_, rfl, by rw [HE.out, firstL_len, ← first_ints]; exact own_set HO.out, below_set HB.out (b := gW) (off := 0) HW.out _⟩
              · skip
                obtain ⟨wo, rfl⟩ : ∃ wo : World, wo = wr := ⟨_, rfl⟩
                obtain ⟨sh, hsh⟩ : ∃ sh, sh = share f (onesL D) := ⟨_, rfl⟩
                have hshl : sh.length = D := by rw [hsh, share_length, ones_len]
                obtain ⟨sf, hsf⟩ : ∃ sf : Nat → Int, sf = fun i => sh.getD i 0 := ⟨_, rfl⟩
                have hsb : ∀ i, -562949953421312000 ≤ sf i ∧ sf i ≤ 562949953421312000 := fun i => by rw [hsf, hsh]; exact share_getD _ _ i
                have HSB := Lib.hid hsb
                have HR := Lib.hid (fun w' h => rshare_own f (some ⟨gD, 0, none⟩) D D w'.heap.size (onesL D) w' (ones_len D) h (Nat.le_refl _) (by omega))
                rw [← hsh] at HR
                have HAT := Lib.hid (show ∀ k, k < D → (ints sh)[k]? = some (.int .i64 (sf k)) from fun k hk => by rw [hsf]; simp [ints, List.getD, hshl, hk])
                have HEND : Hid (spreadF 5 free N = pairK N sf N) := by
                  show _ = _
                  rw [sp_five n1 n2 (by rw [← HF.out]; omega), ← HF.out, pairK_all, hsf, hsh, HDN.out]
                clear hsh hsf hsb hshl
                go_wp2_with (first | (go_at_call 20; refine (HC.out _).mono ?_; rintro e w' ⟨rfl, rfl⟩) | (go_at_call 29; refine (HR.out _ (by have h := Holds.of_own HD.out; rw [okK_all] at h; exact h)).mono ?_; rintro e w4 ⟨A4, c4, rfl, ho4, hb4⟩; obtain ⟨g4, c5, hv, _, _⟩ := own_some ho4 (by have := HDN.out; omega); injection hv with hv1 hv2 hv3; subst hv1; clear hv2 hv3; have HO4 := Lib.hid (own_below HO.out hb4); have HS4 := Lib.hid ho4; have HB4 := Lib.hid (below_then HB.out hb4); have HLT := Lib.hid (show gW < wo.heap.size from (HO.out.lt _ rfl).2); clear ho4 hb4))
                go_loopw [90] (fun i wr => ∃ k : Nat, k ≤ N ∧ i = .int .i64 k ∧ wr.ownsRow w.heap.size 3 1 (.slice (some ⟨gW, 0, none⟩) N N) N (ints (pairK N sf k)) ∧ wr.ownsRow wo.heap.size 3 1 (.slice (some ⟨g4, 0, none⟩) D c4) D (ints sh) ∧ Below w.heap.size w wr) (fun i _ => N - (intOf i).toNat)
                case atStart => exact ⟨0, Nat.zero_le _, rfl, by rw [pairK_zero]; exact HO4.out, HS4.out, HB4.out⟩
                case round =>
                  obtain ⟨k, hk, rfl, hown, hsown, hbel⟩ := hrel
                  by_cases hlt : k < N
                  · obtain ⟨j2, hj2⟩ : ∃ j : Nat, j = 2 * k := ⟨_, rfl⟩
                    have ej2 : 2 * (k : Int) = (j2 : Int) := by omega
                    have ej2w : IntKind.i64.wrap (j2 : Int) = (j2 : Int) := IntWalk.i64_in _ (by omega)
                    have hjD : j2 < D := by have := HDN.out; omega
                    obtain ⟨sa, hsa⟩ : ∃ x, x = sf j2 := ⟨_, rfl⟩
                    have u4 : wr.cell? ⟨g4, j2, none⟩ = some (.int .i64 sa) := by rw [hsa]; exact own_cell hsown (HAT.out j2 hjD)
                    have yW : wr.frozen? ⟨gW, k, none⟩ = false := own_free hown
                    have uW := own_cell hown (pairK_at N sf k k hlt)
                    have hsa2 := HSB.out j2
                    rw [← hsa] at hsa2
                    obtain ⟨sa0, sa1⟩ := hsa2
                    have HSF1 := Lib.hid (own_setFar (b := gW) (j := k) (u := .int .i64 sa) hsown (own_ne hsown HLT.out))
                    have HBS1 := Lib.hid (below_set hbel (b := gW) (off := k) HW.out (.int .i64 sa))
                    have KK := Lib.hid hlt
                    by_cases hk0 : k = 0
                    · have hk1 : (k : Int) ≤ 0 := by omega
                      have hk2 : ¬ 0 < (k : Int) := by omega
                      have HSET := Lib.hid (show (wr.setCell ⟨gW, k, none⟩ (.int .i64 sa)).ownsRow w.heap.size 3 1 (.slice (some ⟨gW, 0, none⟩) N N) N (ints (pairK N sf (k + 1))) from by
                        rw [← pairK_set N sf k hlt]
                        have e : totS sf k = sa := by unfold totS; rw [if_neg (by omega), hsa, hj2]; omega
                        rw [e]; exact own_set hown)
                      clear hown hsown hbel hsa hj2 hk0
                      go_wp2_with fail
                      go_roundw
                      case rel => exact ⟨k + 1, KK.out, by go_num, HSET.out, HSF1.out, HBS1.out⟩
                      case measure => have := KK.out; simp [intOf]; omega
                    · obtain ⟨j1, hj1⟩ : ∃ j : Nat, j + 1 = j2 := ⟨j2 - 1, by omega⟩
                      have hj1D : j1 < D := by omega
                      have ej1 : (j2 : Int) - 1 = (j1 : Int) := by omega
                      have ej1w : IntKind.i64.wrap (j1 : Int) = (j1 : Int) := IntWalk.i64_in _ (by omega)
                      obtain ⟨sb, hsb⟩ : ∃ x, x = sf j1 := ⟨_, rfl⟩
                      have hsb2 := HSB.out j1
                      rw [← hsb] at hsb2
                      obtain ⟨sb0, sb1⟩ := hsb2
                      have hk1 : ¬ (k : Int) ≤ 0 := by omega
                      have hk2 : 0 < (k : Int) := by omega
                      have HST : Hid ((ints (pairK N sf k)).set k (.int .i64 (sa + sb)) = ints (pairK N sf (k + 1))) := by
                        show _ = _
                        rw [← pairK_set N sf k hlt]
                        have e : totS sf k = sa + sb := by unfold totS; rw [if_pos (by omega), hsa, hsb, ← hj2, show j2 - 1 = j1 by omega]
                        rw [e]
                      have HO1 := Lib.hid (own_set (j := k) (u := .int .i64 sa) hown)
                      have HS1 := HSF1
                      have HB1 := HBS1
                      have v4 : (wr.setCell ⟨gW, k, none⟩ (.int .i64 sa)).drew.cell? ⟨gW, k, none⟩ = some (.int .i64 sa) := own_cell HO1.out (by rw [List.getElem?_set_self (by rw [hown.1]; omega)])
                      have v5 : (wr.setCell ⟨gW, k, none⟩ (.int .i64 sa)).drew.cell? ⟨g4, j1, none⟩ = some (.int .i64 sb) := own_cell HS1.out (by rw [hsb]; exact HAT.out j1 (by omega))
                      have yW2 : (wr.setCell ⟨gW, k, none⟩ (.int .i64 sa)).frozen? ⟨gW, k, none⟩ = false := own_free HO1.out
                      have hS0 : (fun w' : World => w'.cell? ⟨gW, k, none⟩ = some (.int .i64 sa) ∧ w'.cell? ⟨g4, j1, none⟩ = some (.int .i64 sb)) (wr.setCell ⟨gW, k, none⟩ (.int .i64 sa)).drew := ⟨v4, v5⟩
                      clear hown hsown hbel hsa hsb v4 v5 hj2 hj1 hk0
                      go_wp2_with fail
                      refine wp_region_noPanic ?_
                      refine region_M (S := fun w' => w'.cell? ⟨gW, k, none⟩ = some (.int .i64 sa) ∧ w'.cell? ⟨g4, j1, none⟩ = some (.int .i64 sb)) (T := [12]) (by kernel_rfl) ?_
                      refine anyM_free (i := 0) (oi := { dst := some 103, op := _, type := _, pos := _, after := _, guard := _ }) (v := ?_) rfl (by kernel_rfl) (fun _ _ _ h => h) (Or.inl ⟨by kernel_rfl, ?_⟩) (fun _ => hS0) ?_
                      rotate_left 1
                      · (intro w hSw; (try dsimp only at hSw); go_simp; try with_reducible rfl)
                      try simp only [Act.put, Array.toArray_toList, List.setIfInBounds_toArray, List.set_cons_zero, List.set_cons_succ]
                      refine anyM_free (i := 1) (oi := { dst := some 104, op := _, type := _, pos := _, after := _, guard := _ }) (v := ?_) rfl (by kernel_rfl) (fun _ _ _ h => h) (Or.inl ⟨by kernel_rfl, ?_⟩) (fun _ => hS0) ?_
                      rotate_left 1
                      · (intro w hSw; (try dsimp only at hSw); go_simp; try with_reducible rfl)
                      try simp only [Act.put, Array.toArray_toList, List.setIfInBounds_toArray, List.set_cons_zero, List.set_cons_succ]
                      refine anyM_free (i := 2) (oi := { dst := some 105, op := _, type := _, pos := _, after := _, guard := _ }) (v := ?_) rfl (by kernel_rfl) (fun _ _ _ h => h) (Or.inl ⟨by kernel_rfl, ?_⟩) (fun _ => hS0) ?_
                      rotate_left 1
                      · (intro w hSw; (try dsimp only at hSw); go_simp; try with_reducible rfl)
                      try simp only [Act.put, Array.toArray_toList, List.setIfInBounds_toArray, List.set_cons_zero, List.set_cons_succ]
                      refine anyM_take (i := 3) (oi := { dst := some 106, op := _, type := _, pos := _, after := _, guard := _ }) (v := ?_) rfl (by kernel_rfl) (fun _ _ _ h => h) (Or.inl ⟨by kernel_rfl, ?_⟩) hS0 ?_
                      rotate_left 1
                      · (intro w hSw; (try dsimp only at hSw); go_simp; try with_reducible rfl)
                      try simp only [Act.put, Array.toArray_toList, List.setIfInBounds_toArray, List.set_cons_zero, List.set_cons_succ]
                      refine anyM_free (i := 4) (oi := { dst := some 107, op := _, type := _, pos := _, after := _, guard := _ }) (v := ?_) rfl (by kernel_rfl) (fun _ _ _ h => h) (Or.inl ⟨by kernel_rfl, ?_⟩) (fun _ => hS0) ?_
                      rotate_left 1
                      · (intro w hSw; (try dsimp only at hSw); go_simp; try with_reducible rfl)
                      try simp only [Act.put, Array.toArray_toList, List.setIfInBounds_toArray, List.set_cons_zero, List.set_cons_succ]
                      refine anyM_free (i := 5) (oi := { dst := some 108, op := _, type := _, pos := _, after := _, guard := _ }) (v := ?_) rfl (by kernel_rfl) (fun _ _ _ h => h) (Or.inl ⟨by kernel_rfl, ?_⟩) (fun _ => hS0) ?_
                      rotate_left 1
                      · (intro w hSw; (try dsimp only at hSw); go_simp; try with_reducible rfl)
                      try simp only [Act.put, Array.toArray_toList, List.setIfInBounds_toArray, List.set_cons_zero, List.set_cons_succ]
                      refine anyM_free (i := 6) (oi := { dst := some 109, op := _, type := _, pos := _, after := _, guard := _ }) (v := ?_) rfl (by kernel_rfl) (fun _ _ _ h => h) (Or.inl ⟨by kernel_rfl, ?_⟩) (fun _ => hS0) ?_
                      rotate_left 1
                      · (intro w hSw; (try dsimp only at hSw); go_simp; try with_reducible rfl)
                      try simp only [Act.put, Array.toArray_toList, List.setIfInBounds_toArray, List.set_cons_zero, List.set_cons_succ]
                      refine anyM_free (i := 7) (oi := { dst := some 110, op := _, type := _, pos := _, after := _, guard := _ }) (v := ?_) rfl (by kernel_rfl) (fun _ _ _ h => h) (Or.inl ⟨by kernel_rfl, ?_⟩) (fun _ => hS0) ?_
                      rotate_left 1
                      · (intro w hSw; (try dsimp only at hSw); go_simp; try with_reducible rfl)
                      try simp only [Act.put, Array.toArray_toList, List.setIfInBounds_toArray, List.set_cons_zero, List.set_cons_succ]
                      refine anyM_free (i := 8) (oi := { dst := some 111, op := _, type := _, pos := _, after := _, guard := _ }) (v := ?_) rfl (by kernel_rfl) (fun _ _ _ h => h) (Or.inl ⟨by kernel_rfl, ?_⟩) (fun _ => hS0) ?_
                      rotate_left 1
                      · (intro w hSw; (try dsimp only at hSw); go_simp; try with_reducible rfl)
                      try simp only [Act.put, Array.toArray_toList, List.setIfInBounds_toArray, List.set_cons_zero, List.set_cons_succ]
                      refine anyM_take (i := 9) (oi := { dst := some 112, op := _, type := _, pos := _, after := _, guard := _ }) (v := ?_) rfl (by kernel_rfl) (fun _ _ _ h => h) (Or.inl ⟨by kernel_rfl, ?_⟩) hS0 ?_
                      rotate_left 1
                      · (intro w hSw; (try dsimp only at hSw); go_simp; try with_reducible rfl)
                      try simp only [Act.put, Array.toArray_toList, List.setIfInBounds_toArray, List.set_cons_zero, List.set_cons_succ]
                      refine anyM_free (i := 10) (oi := { dst := some 113, op := _, type := _, pos := _, after := _, guard := _ }) (v := ?_) rfl (by kernel_rfl) (fun _ _ _ h => h) (Or.inl ⟨by kernel_rfl, ?_⟩) (fun _ => hS0) ?_
                      rotate_left 1
                      · (intro w hSw; (try dsimp only at hSw); go_simp; try with_reducible rfl)
                      try simp only [Act.put, Array.toArray_toList, List.setIfInBounds_toArray, List.set_cons_zero, List.set_cons_succ]
                      refine anyM_free (i := 11) (oi := { dst := some 114, op := _, type := _, pos := _, after := _, guard := _ }) (v := ?_) rfl (by kernel_rfl) (fun _ _ _ h => h) (Or.inl ⟨by kernel_rfl, ?_⟩) (fun _ => hS0) ?_
                      rotate_left 1
                      · (intro w hSw; (try dsimp only at hSw); go_simp; try with_reducible rfl)
                      try simp only [Act.put, Array.toArray_toList, List.setIfInBounds_toArray, List.set_cons_zero, List.set_cons_succ]
                      refine anyM_one (i := 12) (by kernel_rfl) rfl (fun K hK => ?_)
                      go_simp
                      have HSET := Lib.hid (show ((wr.setCell ⟨gW, k, none⟩ (.int .i64 sa)).setCell ⟨gW, k, none⟩ (.int .i64 (sa + sb))).ownsRow w.heap.size 3 1 (.slice (some ⟨gW, 0, none⟩) N N) N (ints (pairK N sf (k + 1))) from by rw [← HST.out]; have h := own_set (j := k) (u := .int .i64 (sa + sb)) HO1.out; rw [List.set_set] at h; exact h)
                      have HSF := Lib.hid (own_setFar (b := gW) (j := k) (u := .int .i64 (sa + sb)) HS1.out (own_ne HS1.out HLT.out))
                      have HBS := Lib.hid (below_set HB1.out (b := gW) (off := k) HW.out (.int .i64 (sa + sb))).drew
                      refine hK.out _ _ (fun h => late_no h (by kernel_rfl)) ?_
                      clear hK K
                      try simp only [Act.put, Array.toArray_toList, List.setIfInBounds_toArray, List.set_cons_zero, List.set_cons_succ]
                      refine anyM_done (by kernel_rfl) ?_ _
                      refine NoPanic.normal ?_
                      go_wp2_with fail
                      go_roundw
                      case rel => exact ⟨k + 1, KK.out, by go_num, HSET.out, HSF.out, HBS.out⟩
                      case measure => have := KK.out; simp [intOf]; omega
                  · obtain rfl : k = N := by omega
                    have HE := Lib.hid hown
                    clear hown hsown
                    go_wp2_with fail
                    go_ret
                    exact ⟨_, rfl, by rw [HEND.out, pairK_len]; exact HE.out, hbel⟩
            · by_cases m4 : mode = 4
              · subst m4
                by_cases hf0 : f ≤ 0
                · have HN := Lib.hid (sp_none (free := free) (mode := 4) n1 n2 (by decide) (by decide) (by rw [← HF.out]; omega) (by decide))
                  go_wp2_with (go_at_call 20; refine (HC.out _).mono ?_; rintro e w' ⟨rfl, rfl⟩)
                  go_ret
                  exact ⟨_, rfl, by rw [HN.out, List.length_replicate]; exact HO.out, HB.out⟩
                · skip
                  obtain ⟨q, hq⟩ : ∃ q : Nat, q = N - 1 := ⟨_, rfl⟩
                  have eq1 : (N : Int) - 1 = (q : Int) := by omega
                  have eqw : IntKind.i64.wrap (q : Int) = (q : Int) := IntWalk.i64_in _ (by omega)
                  have eq2 : q ≤ D := by have := HDN.out; omega
                  have eq3 : q ≤ 1000 := by omega
                  obtain ⟨wo, rfl⟩ : ∃ wo : World, wo = wr := ⟨_, rfl⟩
                  obtain ⟨sh, hsh⟩ : ∃ sh, sh = share f (onesL q) := ⟨_, rfl⟩
                  have hshl : sh.length = q := by rw [hsh, share_length, ones_len]
                  obtain ⟨sf, hsf⟩ : ∃ sf : Nat → Int, sf = fun i => sh.getD i 0 := ⟨_, rfl⟩
                  have hsb : ∀ i, -562949953421312000 ≤ sf i ∧ sf i ≤ 562949953421312000 := fun i => by rw [hsf, hsh]; exact share_getD _ _ i
                  have HSB := Lib.hid hsb
                  have HR := Lib.hid (fun w' h => rshare_own f (some ⟨gD, 0, none⟩) q D w'.heap.size (onesL q) w' (ones_len q) h (Nat.le_refl _) (by omega))
                  rw [← hsh] at HR
                  have HAT := Lib.hid (show ∀ k, k < q → (ints sh)[k]? = some (.int .i64 (sf k)) from fun k hk => by rw [hsf]; simp [ints, List.getD, hshl, hk])
                  have HEND : Hid (spreadF 4 free N = putK N sf q) := by
                    show _ = _
                    rw [sp_four n1 n2 (by rw [← HF.out]; omega), ← HF.out, hsf, hq, putK_all N sh (by rw [hshl, hq]) n1, hsh, hq]
                  have HOT : Hid (wo.ownsRow w.heap.size 3 1 (.slice (some ⟨gD, 0, none⟩) q D) q (ints (onesL q))) := by
                    have h := own_cut HD.out eq2
                    rw [okK_all] at h
                    have e : (ints (onesL D)).take (q * 1) = ints (onesL q) := by simp only [ints, onesL, Nat.mul_one, ← List.map_take, List.take_replicate, Nat.min_eq_left eq2]
                    rw [e] at h
                    exact h
                  have HQ := Lib.hid (show q + 1 = N by omega)
                  clear hq hsh hsf hsb hshl
                  go_wp2_with (first | (go_at_call 20; refine (HC.out _).mono ?_; rintro e w' ⟨rfl, rfl⟩) | (go_at_call 29; refine (HR.out _ (Holds.of_own HOT.out)).mono ?_; rintro e w4 ⟨A4, c4, rfl, ho4, hb4⟩))
                  have HO4 := Lib.hid (own_below HO.out hb4)
                  have HS4 := Lib.hid ho4
                  have HB4 := Lib.hid (below_then HB.out hb4)
                  have HLT := Lib.hid (show gW < wo.heap.size from (HO.out.lt _ rfl).2)
                  clear ho4 hb4 eq1 eqw
                  go_loopw [71] (fun i wr => ∃ k : Nat, k ≤ q ∧ i = .int .i64 k ∧ wr.ownsRow w.heap.size 3 1 (.slice (some ⟨gW, 0, none⟩) N N) N (ints (putK N sf k)) ∧ wr.ownsRow wo.heap.size 3 1 (.slice A4 q c4) q (ints sh) ∧ Below w.heap.size w wr) (fun i _ => q - (intOf i).toNat)
                  case atStart => exact ⟨0, Nat.zero_le _, rfl, by rw [putK_zero]; exact HO4.out, HS4.out, HB4.out⟩
                  case round =>
                    obtain ⟨k, hk, rfl, hown, hsown, hbel⟩ := hrel
                    by_cases hlt : k < q
                    · obtain ⟨g5, c5, hv, _, _⟩ := own_some hsown (by omega)
                      injection hv with hv1 hv2 hv3
                      subst hv1
                      have u4 : wr.cell? ⟨g5, k, none⟩ = some (.int .i64 (sf k)) := own_cell hsown (HAT.out k hlt)
                      have yW : wr.frozen? ⟨gW, k + 1, none⟩ = false := own_free hown
                      have hkN : k + 1 < N := by have := HQ.out; omega
                      have uW := own_cell hown (putK_at N sf k (k + 1) hkN)
                      have HSET := Lib.hid (show (wr.setCell ⟨gW, k + 1, none⟩ (.int .i64 (sf k))).ownsRow w.heap.size 3 1 (.slice (some ⟨gW, 0, none⟩) N N) N (ints (putK N sf (k + 1))) from by rw [← putK_set N sf k hkN]; exact own_set hown)
                      have HSF := Lib.hid (own_setFar (b := gW) (j := k + 1) (u := .int .i64 (sf k)) hsown (own_ne hsown HLT.out))
                      have HBS := Lib.hid (below_set hbel (b := gW) (off := k + 1) HW.out (.int .i64 (sf k)))
                      have KK := Lib.hid hlt
                      obtain ⟨sk, hsk⟩ : ∃ x, x = sf k := ⟨_, rfl⟩
                      rw [← hsk] at HSET HSF HBS u4
                      clear hown hsown hbel hsk hv2 hv3
                      go_wp2_with fail
                      go_roundw
                      case rel => exact ⟨k + 1, KK.out, by go_num, HSET.out, HSF.out, HBS.out⟩
                      case measure => have := KK.out; simp [intOf]; omega
                    · obtain rfl : k = q := by omega
                      have HE := Lib.hid hown
                      clear hown hsown
                      go_wp2_with fail
                      go_ret
                      exact ⟨_, rfl, by rw [HEND.out, putK_len]; exact HE.out, hbel⟩
              · have HN := Lib.hid (sp_none (free := free) n1 n2 m1 m2 (fun h => m4 h.1) m5)
                go_wp2_with (go_at_call 20; refine (HC.out _).mono ?_; rintro e w' ⟨rfl, rfl⟩)
                go_ret
                exact ⟨_, rfl, by rw [HN.out, List.length_replicate]; exact HO.out, HB.out⟩
theorem rspread_calls (mode free nn : Int) (w : World) :
    Calls Try.prog 57 #[.int .i64 mode, .int .i64 free, .int .i64 nn] w fun e w' => ∃ v, e = .returned v ∧ w'.ownsRow w.heap.size 3 1 v (spreadF mode free nn).length (ints (spreadF mode free nn)) ∧ Below w.heap.size w w' := by
  by_cases hbad : nn < 1 ∨ 500 < nn
  · rw [sp_bad hbad]
    rcases (show nn < 1 ∨ (¬ nn < 1 ∧ 500 < nn) by omega) with hb | ⟨hb1, hb⟩
    · clear hbad
      go_enter Try.func57, Try.ntmps57
      go_wp2_with fail
      go_ret
      exact ⟨_, rfl, World.ownsRow_nil _ _ _ _, Below.refl _ _⟩
    · clear hbad
      go_enter Try.func57, Try.ntmps57
      go_wp2_with fail
      go_ret
      exact ⟨_, rfl, World.ownsRow_nil _ _ _ _, Below.refl _ _⟩
  · obtain ⟨N, rfl⟩ : ∃ N : Nat, nn = (N : Int) := ⟨nn.toNat, by omega⟩
    exact rspread_good mode free N w (by omega) (by omega)
end Go.Proofs.Ytpinfaoeggipmaa
