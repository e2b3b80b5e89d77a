/- Contract of the reference's Rows; the walk of FlexRows. -/
import Derived.Test.YtpinfaoeggipmaaFlexF
import Derived.Deep.Cut
namespace Go.Proofs.Ytpinfaoeggipmaa
open Go.RowKit
set_option linter.unusedVariables false
set_option linter.unusedSimpArgs false
attribute [local go_sem high] run_min2 run_max2

theorem blk_neO {w : World} {base size n g : Nat} {e t : TypeId} {v : Value} {xs : List Value} {cs : Array Value} (h : Blk w g t cs) (h' : w.ownsRow base e size v n xs) (hne : t ≠ e) : v.ownBlock ≠ some g := blk_ne h h' hne
theorem val_int {a b : Int} (h : a = b) : Value.int .i64 a = .int .i64 b := by rw [h]
set_option maxRecDepth 100000 in
set_option maxHeartbeats 4000000 in
theorem rrows_calls (room gap : Int) (wraps : Bool) (A : Option Addr) (n c B : Nat) (l : List FlexV) (w : World) (hn : l.length = n) (h : Holds w B A (l.flatMap flexF)) (hB : B ≤ w.heap.size) (hm : n ≤ 1000) :
    Calls Try.prog 55 #[.int .i64 room, .int .i64 gap, .slice A n c, .bool wraps] w fun e w' => ∃ v, e = .returned v ∧ w'.ownsRow w.heap.size 3 1 v (rowsGo (cut room) (max 0 (cut gap)) wraps l 0 []).length (ints (rowsGo (cut room) (max 0 (cut gap)) wraps l 0 [])) ∧ Below w.heap.size w w' := by
  obtain ⟨i0, hi0, hz0, hz1, hz2⟩ := info_parts info_int
  have H := Lib.hid h
  have HN := Lib.hid hn
  have hr0 := cut_lo room
  have hr1 := cut_hi room
  have hgp := cut_hi gap
  have hrc := fun w => rcut_calls room w
  have hgc := fun w => rszp_calls gap w
  obtain ⟨R, hR⟩ : ∃ x, x = cut room := ⟨_, rfl⟩
  obtain ⟨G, hG⟩ : ∃ x, x = max 0 (cut gap) := ⟨_, rfl⟩
  rw [← hR, ← hG]
  have hG0 : 0 ≤ G ∧ G ≤ 16777216 := by omega
  rw [← hR] at hr0 hr1 hrc
  rw [← hG] at hgc
  obtain ⟨G0, G1⟩ := hG0
  have HRC := Lib.hid hrc
  have HGC := Lib.hid hgc
  obtain ⟨T, hT⟩ : ∃ T, T = rowsGo R G wraps l 0 [] := ⟨_, rfl⟩
  rw [← hT]
  have HT := Lib.hid hT
  clear h hn hR hG hT hgp hrc hgc
  go_enter Try.func55, Try.ntmps55
  go_wp2_with fail
  go_loopw [9, 10, 16] (fun v9 v10 i wr => RowsRel R G wraps n l T w v9 v10 i wr) (fun _ _ i _ => n - (intOf i).toNat)
  case atStart => exact ⟨0, [], 0, Nat.zero_le _, rfl, rfl, HT.out.symm, Nat.le_refl _, (fun h => by omega), (fun x hx => by cases hx), by omega, by omega, World.ownsRow_nil _ _ _ _, Below.refl _ _⟩
  case round =>
    obtain ⟨k, out, sum, hk, rfl, rfl, hgo, hlen, hpos, hall, hs0, hs1, hown, hbel⟩ := hrel
    have hw := hbel.size
    obtain ⟨A9, c9, rfl⟩ := own_open hown
    by_cases hlt : k < n
    · obtain ⟨b', off, rfl, hb, hc⟩ := flexs_flat l wr B A (H.out.below hbel hB) (k := k) (by rw [HN.out]; exact hlt)
      rw [drop_flex l k (by rw [HN.out]; exact hlt)] at hgo
      have hok := fxb_ok (l.getD k FlexV.zero)
      have hlb := long_bd (fxb (l.getD k FlexV.zero))
      obtain ⟨x, hx⟩ : ∃ x, x = l.getD k FlexV.zero := ⟨_, rfl⟩
      rw [← hx] at hc hgo hok hlb
      have HNEW := Lib.hid (fun h => (rowsGo_new (room := R) (gap := G) (wraps := wraps) (x := x) (l := l.drop (k + 1)) (sum := sum) (out := out) h).symm.trans hgo)
      have HMORE := Lib.hid (fun h => (rowsGo_more (room := R) (gap := G) (wraps := wraps) (x := x) (l := l.drop (k + 1)) (sum := sum) (out := out) h).symm.trans hgo)
      have hfx := fun w => rflexible_calls x w
      have hlo := fun w => rlong_calls (fxb x) w
      obtain ⟨lg, hlg⟩ : ∃ y, y = long (fxb x) := ⟨_, rfl⟩
      rw [← hlg] at HNEW HMORE hlb hlo
      obtain ⟨⟨b, lo, hi, g, s, e⟩, hxe⟩ : ∃ y, y = fxb x := ⟨_, rfl⟩
      rw [← hxe] at HNEW HMORE hok hfx hlo
      simp only at HNEW HMORE hfx hlo
      have HFX := Lib.hid hfx
      have HLO := Lib.hid hlo
      have c0 := hc 0 _ rfl
      have c1 := hc 1 _ rfl
      have c2 := hc 2 _ rfl
      have c3 := hc 3 _ rfl
      have c4 := hc 4 _ rfl
      have c5 := hc 5 _ rfl
      simp only [Nat.add_zero] at c0
      obtain ⟨_, _, _, _, _, _, _, _, _, _, e0, e1⟩ := hok
      simp only at e0 e1
      obtain ⟨l0, l1⟩ := hlb
      have HOA := Lib.hid (hown.alloc (.cells #[.int .i64 x.b, .int .i64 x.lo, .int .i64 x.hi, .int .i64 x.g, .int .i64 x.s, .int .i64 x.e] 95))
      have HBA := Lib.hid (below_alloc hbel (.cells #[.int .i64 x.b, .int .i64 x.lo, .int .i64 x.hi, .int .i64 x.g, .int .i64 x.s, .int .i64 x.e] 95))
      have HXA := Lib.hid (Blk.new wr 95 #[.int .i64 x.b, .int .i64 x.lo, .int .i64 x.hi, .int .i64 x.g, .int .i64 x.s, .int .i64 x.e])
      have HALL := Lib.hid hall
      have HPOS := Lib.hid hpos
      have HLEN := Lib.hid hlen
      have KK := Lib.hid (show k ≤ n ∧ k < n from ⟨hk, hlt⟩)
      clear hc hgo hx hlg hxe hown hbel hall hfx hlo
      go_upto_region 7 with (first | (go_at_call 80; refine (HFX.out _).mono ?_; rintro e5 w4 ⟨rfl, hb4⟩; have hX4 := HXA.out.below hb4 HXA.out.lt) | (refine wpList_store_mid rfl _ _ _ rfl wr.heap.size 0 #[.int .i64 b, .int .i64 lo, .int .i64 hi, .int .i64 g, .int .i64 s, .int .i64 e] rfl rfl (hX4.there 6 (by simp)) (by kernel_rfl) (by simp [Value.oneCell']) ?_))
      have hown := own_farCells (b := wr.heap.size) (blk_neO hX4 (own_below HOA.out hb4) (by decide)) (#[.int .i64 b, .int .i64 lo, .int .i64 hi, .int .i64 g, .int .i64 s, .int .i64 e]).toList 0 _ (own_below HOA.out hb4)
      have hbel := below_setCells (b := wr.heap.size) hw (#[.int .i64 b, .int .i64 lo, .int .i64 hi, .int .i64 g, .int .i64 s, .int .i64 e]).toList 0 _ (below_then HBA.out hb4)
      have hX := hX4.setAll #[.int .i64 b, .int .i64 lo, .int .i64 hi, .int .i64 g, .int .i64 s, .int .i64 e] rfl
      obtain ⟨wy, hwy⟩ : ∃ x, x = World.setCells w4 wr.heap.size 0 (#[.int .i64 b, .int .i64 lo, .int .i64 hi, .int .i64 g, .int .i64 s, .int .i64 e]).toList := ⟨_, rfl⟩
      rw [← hwy] at hown hbel hX ⊢
      have hX := hX.drew
      have hown := own_drew1 hown
      have hbel := hbel.drew
      have hS0 : (fun w' : World => w'.cell? ⟨wr.heap.size, 0, none⟩ = some (.int .i64 b) ∧ w'.cell? ⟨wr.heap.size, 1, none⟩ = some (.int .i64 lo) ∧ w'.cell? ⟨wr.heap.size, 2, none⟩ = some (.int .i64 hi) ∧ w'.cell? ⟨wr.heap.size, 3, none⟩ = some (.int .i64 g) ∧ w'.cell? ⟨wr.heap.size, 4, none⟩ = some (.int .i64 s) ∧ w'.cell? ⟨wr.heap.size, 5, none⟩ = some (.int .i64 e)) wy.drew := ⟨hX.cell 0, hX.cell 1, hX.cell 2, hX.cell 3, hX.cell 4, hX.cell 5⟩
      have m1 : IntKind.i64.wrap (lg + e) = lg + e := IntWalk.i64_in _ (by omega)
      clear hwy c0 c1 c2 c3 c4 c5 hX4 hb4 HOA HBA HXA
      refine wp_region_noPanic ?_
      refine region_M (S := fun w' => w'.cell? ⟨wr.heap.size, 0, none⟩ = some (.int .i64 b) ∧ w'.cell? ⟨wr.heap.size, 1, none⟩ = some (.int .i64 lo) ∧ w'.cell? ⟨wr.heap.size, 2, none⟩ = some (.int .i64 hi) ∧ w'.cell? ⟨wr.heap.size, 3, none⟩ = some (.int .i64 g) ∧ w'.cell? ⟨wr.heap.size, 4, none⟩ = some (.int .i64 s) ∧ w'.cell? ⟨wr.heap.size, 5, none⟩ = some (.int .i64 e)) (T := []) (by kernel_rfl) ?_
      refine anyM_take (i := 0) (oi := { dst := some 23, op := _, type := _, pos := _, after := _, guard := _ }) (v := ?_) rfl (by kernel_rfl) (fun _ _ _ h => h) (Or.inl ⟨by kernel_rfl, ?_⟩) hS0 ?_
      rotate_left 1
      · (intro w hSw; (try dsimp only at hSw); go_simp; try with_reducible rfl)
      try simp only [Act.put, Array.toArray_toList, List.setIfInBounds_toArray, List.set_cons_zero, List.set_cons_succ]
      refine anyM_free (i := 2) (oi := { dst := some 25, op := _, type := _, pos := _, after := _, guard := _ }) (v := ?_) rfl (by kernel_rfl) (fun _ _ _ h => h) (Or.inl ⟨by kernel_rfl, ?_⟩) (fun _ => hS0) ?_
      rotate_left 1
      · (intro w hSw; (try dsimp only at hSw); go_simp; try with_reducible rfl)
      try simp only [Act.put, Array.toArray_toList, List.setIfInBounds_toArray, List.set_cons_zero, List.set_cons_succ]
      refine anyM_take (i := 3) (oi := { dst := some 26, op := _, type := _, pos := _, after := _, guard := _ }) (v := ?_) rfl (by kernel_rfl) (fun _ _ _ h => h) (Or.inl ⟨by kernel_rfl, ?_⟩) hS0 ?_
      rotate_left 1
      · (intro w hSw; (try dsimp only at hSw); go_simp; try with_reducible rfl)
      try simp only [Act.put, Array.toArray_toList, List.setIfInBounds_toArray, List.set_cons_zero, List.set_cons_succ]
      refine anyM_one (i := 1) (by kernel_rfl) rfl (fun K hK => ?_)
      go_simp
      refine (HLO.out _).mono ?_
      rintro e7 w5 ⟨rfl, hb5⟩
      have hX := hX.below hb5 hX.lt
      have hown := own_below hown hb5
      have hbel := below_then hbel hb5
      have hS0 : (fun w' : World => w'.cell? ⟨wr.heap.size, 0, none⟩ = some (.int .i64 b) ∧ w'.cell? ⟨wr.heap.size, 1, none⟩ = some (.int .i64 lo) ∧ w'.cell? ⟨wr.heap.size, 2, none⟩ = some (.int .i64 hi) ∧ w'.cell? ⟨wr.heap.size, 3, none⟩ = some (.int .i64 g) ∧ w'.cell? ⟨wr.heap.size, 4, none⟩ = some (.int .i64 s) ∧ w'.cell? ⟨wr.heap.size, 5, none⟩ = some (.int .i64 e)) w5 := ⟨hX.cell 0, hX.cell 1, hX.cell 2, hX.cell 3, hX.cell 4, hX.cell 5⟩
      refine hK.out _ _ (fun _ => hS0) ?_
      clear hK K
      try simp only [Act.put, Array.toArray_toList, List.setIfInBounds_toArray, List.set_cons_zero, List.set_cons_succ]
      refine anyM_free (i := 4) (oi := { dst := some 27, op := _, type := _, pos := _, after := _, guard := _ }) (v := ?_) rfl (by kernel_rfl) (fun _ _ _ h => h) (Or.inl ⟨by kernel_rfl, ?_⟩) (fun _ => hS0) ?_
      rotate_left 1
      · (intro w hSw; (try dsimp only at hSw); go_simp; try with_reducible rfl)
      try simp only [Act.put, Array.toArray_toList, List.setIfInBounds_toArray, List.set_cons_zero, List.set_cons_succ]
      refine anyM_free (i := 5) (oi := { dst := some 13, op := _, type := _, pos := _, after := _, guard := _ }) (v := ?_) rfl (by kernel_rfl) (fun _ _ _ h => h) (Or.inl ⟨by kernel_rfl, ?_⟩) (fun _ => hS0) ?_
      rotate_left 1
      · (intro w hSw; (try dsimp only at hSw); go_simp; try with_reducible rfl)
      try simp only [Act.put, Array.toArray_toList, List.setIfInBounds_toArray, List.set_cons_zero, List.set_cons_succ]
      refine anyM_done (by kernel_rfl) ?_ _
      refine NoPanic.normal ?_
      have HOA := Lib.hid hown
      have HBA := Lib.hid hbel
      generalize hwz : w5 = wz at HOA HBA ⊢
      clear hown hbel hX hS0 m1 hwz hb5
      by_cases hnew : out.length = 0 ∨ (wraps = true ∧ R < sum + G + lg + e)
      · have HG2 := Lib.hid (HNEW.out hnew)
        have hm1 : out.length ≤ 1000 := by omega
        by_cases hk0 : k = 0
        · subst hk0
          clear HNEW HMORE
          go_wp2_with (first | (go_at_call 20; refine (HRC.out _).mono ?_; rintro e w' ⟨rfl, rfl⟩) | (go_at_call 71; refine (HGC.out _).mono ?_; rintro e w' ⟨rfl, rfl⟩) | (at_builtin; refine wpList_append_own _ rfl _ _ 22 rfl w.heap.size 3 i0 (.int .i64 0) 1 8 Try.underlying22 hi0 hz0 hz1 hz2 rfl (by decide) _ _ _ rfl (HOA.out.alloc _) ⟨wz.heap.size, 0, none⟩ 1 1 [.int .i64 1] rfl rfl (cells_new _ _ _ _ rfl) (fun u hu => by simp at hu; subst hu; rfl) (by unfold maxLen; omega) (by omega) (by have := HBA.out.size; simp; omega) ?_; intro v' w9 hown9 hg9 _))
          have HB9 := Lib.hid (below_grownO (below_alloc HBA.out (.cells #[.int .i64 1] 3)) HOA.out hg9)
          have HO9 := Lib.hid hown9
          clear hown9 hg9
          go_roundw
          case rel => exact ⟨0 + 1, out ++ [1], lg + e, by have := KK.out; omega, by go_num, rfl, HG2.out, by rw [List.length_append]; have := HLEN.out; show out.length + 1 ≤ _; omega, (fun _ => by simp), (fun x hx => by
            rcases List.mem_append.1 hx with h | h
            · have := HALL.out x h; omega
            · simp at h; omega), by omega, by omega, by rw [List.length_append]; simpa [ints] using HO9.out, HB9.out⟩
          case measure => have := KK.out; simp [intOf]; omega
        · have hw3 : wraps = true ∧ R < sum + G + lg + e := by
            rcases hnew with h | h
            · have := HPOS.out (by omega); omega
            · exact h
          obtain ⟨hwr, hroom⟩ := hw3
          subst hwr
          have hk0' : (0 : Int) < (k : Int) := by omega
          have hroom' : decide (sum + G + (lg + e) ≤ R) = false := by simp only [decide_eq_false_iff_not]; omega
          clear HNEW HMORE
          go_wp2_with (first | (go_at_call 20; refine (HRC.out _).mono ?_; rintro e w' ⟨rfl, rfl⟩) | (go_at_call 71; refine (HGC.out _).mono ?_; rintro e w' ⟨rfl, rfl⟩) | (at_builtin; refine wpList_append_own _ rfl _ _ 22 rfl w.heap.size 3 i0 (.int .i64 0) 1 8 Try.underlying22 hi0 hz0 hz1 hz2 rfl (by decide) _ _ _ rfl (HOA.out.alloc _) ⟨wz.heap.size, 0, none⟩ 1 1 [.int .i64 1] rfl rfl (cells_new _ _ _ _ rfl) (fun u hu => by simp at hu; subst hu; rfl) (by unfold maxLen; omega) (by omega) (by have := HBA.out.size; simp; omega) ?_; intro v' w9 hown9 hg9 _))
          have HB9 := Lib.hid (below_grownO (below_alloc HBA.out (.cells #[.int .i64 1] 3)) HOA.out hg9)
          have HO9 := Lib.hid hown9
          clear hown9 hg9
          go_roundw
          case rel => exact ⟨k + 1, out ++ [1], lg + e, by have := KK.out; omega, by go_num, rfl, HG2.out, by rw [List.length_append]; have := HLEN.out; show out.length + 1 ≤ _; omega, (fun _ => by simp), (fun x hx => by
            rcases List.mem_append.1 hx with h | h
            · have := HALL.out x h; omega
            · simp at h; omega), by omega, by omega, by rw [List.length_append]; simpa [ints] using HO9.out, HB9.out⟩
          case measure => have := KK.out; simp [intOf]; omega
      · have HG2 := Lib.hid (HMORE.out hnew)
        have hk0 : k ≠ 0 := fun e => hnew (Or.inl (by omega))
        have hk0' : (0 : Int) < (k : Int) := by omega
        have hpos := HPOS.out (by omega)
        obtain ⟨m, hm⟩ : ∃ m, out.length = m + 1 := ⟨out.length - 1, by omega⟩
        have hgd := getD_bd out k HALL.out m (by omega)
        have hown := HOA.out
        rw [hm] at hown
        obtain ⟨g9, cap9, hv9, hb9, hl9⟩ := own_some hown (by omega)
        injection hv9 with hv1 hv2 hv3
        subst hv1; subst hv3
        have hc0 : (ints out)[m]? = some (.int .i64 (out.getD m 0)) := by simp [ints, List.getD, show m < out.length from by omega]
        have hc := (hown.cellAt m (by omega)).trans hc0
        have hf9 := hown.frozenAt m
        have hset := (hown.stored m (.int .i64 (out.getD m 0 + 1))).1
        have hin := incLast_ints out (by omega)
        rw [hm, Nat.add_sub_cancel] at hin
        rw [hin] at hset
        have hilen := incLast_len out (by omega)
        have HIL := Lib.hid (show (incLast out).length = m + 1 from by rw [hilen, hm])
        have HIB := Lib.hid (incLast_bd out k HALL.out (by omega))
        have HSET := Lib.hid hset
        have HBS := Lib.hid (below_set HBA.out (b := g9) (off := m) hb9 (.int .i64 (out.getD m 0 + 1)))
        obtain ⟨y, hy⟩ : ∃ y, y = out.getD m 0 := ⟨_, rfl⟩
        rw [← hy] at hc hgd HSET HBS
        obtain ⟨y0, y1⟩ := hgd
        have HLE := Lib.hid (show m + 1 ≤ k from by omega)
        rw [hm]
        have hm1 : m ≤ 1000 := by omega
        clear hc0 hset hin hilen hown hm hy hpos HNEW HMORE hlen
        cases wraps
        · skip
          go_wp2_with (first | (go_at_call 20; refine (HRC.out _).mono ?_; rintro e w' ⟨rfl, rfl⟩) | (go_at_call 71; refine (HGC.out _).mono ?_; rintro e w' ⟨rfl, rfl⟩))
          go_roundw
          case rel => exact ⟨k + 1, incLast out, sum + G + lg + e, by have := KK.out; omega, by go_num, val_int (by omega), HG2.out, by rw [HIL.out]; have := HLE.out; omega, (fun _ => by rw [HIL.out]; omega), (fun x hx => by have := HIB.out x hx; omega), by omega, by omega, by rw [HIL.out]; exact HSET.out, HBS.out⟩
          case measure => have := KK.out; simp [intOf]; omega
        · have hroom : sum + G + (lg + e) ≤ R := by
            have : ¬ R < sum + G + lg + e := fun h => hnew (Or.inr ⟨rfl, h⟩)
            omega
          go_wp2_with (first | (go_at_call 20; refine (HRC.out _).mono ?_; rintro e w' ⟨rfl, rfl⟩) | (go_at_call 71; refine (HGC.out _).mono ?_; rintro e w' ⟨rfl, rfl⟩))
          go_roundw
          case rel => exact ⟨k + 1, incLast out, sum + G + lg + e, by have := KK.out; omega, by go_num, val_int (by omega), HG2.out, by rw [HIL.out]; have := HLE.out; omega, (fun _ => by rw [HIL.out]; omega), (fun x hx => by have := HIB.out x hx; omega), by omega, by omega, by rw [HIL.out]; exact HSET.out, HBS.out⟩
          case measure => have := KK.out; simp [intOf]; omega
    · obtain rfl : k = n := by omega
      rw [List.drop_of_length_le (by rw [HN.out]; omega)] at hgo
      have hT : T = out := hgo.symm
      have HTO := Lib.hid hT
      have HO := Lib.hid hown
      clear hown hgo hT
      go_wp2_with fail
      go_ret
      exact ⟨_, rfl, by rw [HTO.out]; exact HO.out, hbel⟩
theorem flexs_take : ∀ (l : List FlexV) (k : Nat), (l.take k).flatMap flexF = (l.flatMap flexF).take (k * 6)
  | [], k => by simp
  | x :: l, 0 => by simp
  | x :: l, k + 1 => by
    have h := flexs_take l k
    show flexF x ++ (l.take k).flatMap flexF = (flexF x ++ l.flatMap flexF).take ((k + 1) * 6)
    rw [List.take_append, show (flexF x).length = 6 from rfl, show (k + 1) * 6 - 6 = k * 6 from by omega, List.take_of_length_le (l := flexF x) (by show 6 ≤ _; omega), h]
theorem flexs_taken (l : List FlexV) (w : World) (B : Nat) (A : Option Addr) (k : Nat) (h : Holds w B A (l.flatMap flexF)) : Holds w B A ((l.take k).flatMap flexF) := by
  rw [flexs_take]; exact h.take _
end Go.Proofs.Ytpinfaoeggipmaa
