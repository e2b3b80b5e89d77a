/- Contract of the reference's Share. -/
import Derived.Test.YtpinfaoeggipmaaShare
import Derived.Test.YtpinfaoeggipmaaFixParts
import Derived.Deep.RegionHeld3
import Derived.Deep.RegionLaw
import Derived.Deep.AppendLies
namespace Go.Proofs.Ytpinfaoeggipmaa
open Go.RowKit
set_option linter.unusedVariables false
attribute [local go_sem high] run_min2 run_max2

def psums (ws : List Int) (k : Nat) : List Int := (List.range k).map (psum ws)
theorem psums_snoc (ws : List Int) (k : Nat) : ints (psums ws (k + 1)) = ints (psums ws k) ++ [.int .i64 (psum ws k)] := by
  simp [psums, ints, List.range_succ]
theorem psums_at (ws : List Int) (k j : Nat) (h : j < k) : (ints (psums ws k))[j]? = some (.int .i64 (psum ws j)) := by
  simp [psums, ints, h]
/-- The form of an owned slice that is not empty. -/
theorem own_form {w : World} {base : Nat} {e : TypeId} {size n : Nat} {v : Value} {xs : List Value} (h : w.ownsRow base e size v n xs) (hn : 0 < n) : ∃ g cap, v = .slice (some ⟨g, 0, none⟩) n cap ∧ base ≤ g ∧ g < w.heap.size := by
  rcases h.2 with ⟨_, h0⟩ | ⟨g, cap, cur, hv, hb, hh, _⟩
  · omega
  · refine ⟨g, cap, hv, hb, ?_⟩
    rcases Nat.lt_or_ge g w.heap.size with h1 | h1
    · exact h1
    · rw [Array.getElem?_eq_none h1] at hh; cases hh
theorem own_any {w : World} {base : Nat} {e : TypeId} {size n : Nat} {v : Value} {xs : List Value} (h : w.ownsRow base e size v n xs) : ∃ A c, v = .slice A n c := by
  rcases h.2 with ⟨rfl, rfl⟩ | ⟨g, cap, cur, hv, hb, hh, _⟩
  · exact ⟨_, _, rfl⟩
  · exact ⟨_, _, hv⟩
theorem own_lower {w : World} {base base' size n : Nat} {e : TypeId} {v : Value} {xs : List Value} (h : w.ownsRow base e size v n xs) (hb : base' ≤ base) : w.ownsRow base' e size v n xs := by
  refine ⟨h.1, ?_⟩
  rcases h.2 with h' | ⟨g, cap, cur, hv, h1, h2⟩
  · exact .inl h'
  · exact .inr ⟨g, cap, cur, hv, Nat.le_trans hb h1, h2⟩
set_option maxRecDepth 100000 in
set_option maxHeartbeats 1000000 in
theorem rshare_own (x : Int) (A : Option Addr) (n c B : Nat) (ws : List Int) (w : World) (hn : ws.length = n) (h : Holds w B A (ints ws)) (hB : B ≤ w.heap.size) (hr : n * 8 ≤ 140737488351232) :
    Calls Try.prog 29 #[.int .i64 x, .slice A n c] w fun e w' => ∃ A' c', e = .returned (.slice A' n c') ∧ w'.ownsRow w.heap.size 3 1 (.slice A' n c') n (ints (share x ws)) ∧ Below w.heap.size w w' := by
  obtain ⟨i0, hi, hz0, hz1, hz2⟩ := info_parts info_int
  have HN := Lib.hid hn
  have H := Lib.hid h
  clear h hn
  go_enter Try.func29, Try.ntmps29
  go_wp2_with (first | (go_at_call 20; refine (rcut_calls _ _).mono ?_; rintro e w' ⟨rfl, rfl⟩))
  go_loopw [5, 16] (fun v i wr => ∃ k g cap : Nat, k ≤ n ∧ i = .int .i64 k ∧ v = .slice (some ⟨g, 0, none⟩) (k + 1) cap ∧ wr.ownsRow w.heap.size 3 1 (.slice (some ⟨g, 0, none⟩) (k + 1) cap) (k + 1) (ints (psums ws (k + 1))) ∧ Below w.heap.size w wr) (fun _ i _ => n - (intOf i).toNat)
  case atStart => exact ⟨0, w.heap.size, 1, Nat.zero_le _, rfl, rfl, World.ownsRow_lit _ #[.int .i64 0] 1 (Nat.le_refl _) (by unfold maxLen; omega) rfl, below_alloc (Below.refl _ _) _⟩
  case round =>
    obtain ⟨k, g, cap, hk, rfl, rfl, hown, hbel⟩ := hrel
    have p1 := (psum_bd ws k).1
    have p2 := psum_hi ws k
    have hw := hbel.size
    by_cases hlt : k < n
    · have hH := H.out.below hbel hB
      obtain ⟨b, off, rfl, hb, hc⟩ := hH.ints (k := k) (by rw [HN.out]; exact hlt)
      have HSS := Lib.hid (show psum ws (k + 1) = psum ws k + wt k (ws.getD k 0) from rfl)
      have hcell : wr.cell? ⟨g, k, none⟩ = some (.int .i64 (psum ws k)) := by
        rw [hown.cellAt k (by omega), psums_at ws (k + 1) k (by omega)]
      obtain ⟨z, hz⟩ : ∃ z, z = ws.getD k 0 := ⟨_, rfl⟩
      obtain ⟨p, hp⟩ : ∃ p, p = psum ws k := ⟨_, rfl⟩
      rw [← hz] at hc HSS
      rw [← hp] at p1 p2 hcell HSS
      have HP := Lib.hid hp
      clear hp hz hH
      have c2 := cut_hi z
      by_cases hneg : cut z < 0
      · have HW : Hid (psum ws (k + 1) = p) := by show _ = _; rw [HSS.out]; unfold wt; split <;> omega
        go_wp2_with (first | (go_at_call 20; refine (rcut_calls _ _).mono ?_; rintro e w' ⟨rfl, rfl⟩) | (at_builtin; refine wpList_append_own _ rfl _ _ 22 rfl w.heap.size 3 i0 (.int .i64 0) 1 8 Try.underlying22 hi hz0 hz1 hz2 rfl (by decide) _ _ _ rfl (hown.alloc _) ⟨wr.heap.size, 0, none⟩ 1 1 [.int .i64 p] rfl rfl (cell_one_new _ _ _) (fun u hu => by simp at hu; subst hu; rfl) (by unfold maxLen; omega) (by omega) (by simp; omega) ?_; intro v' w1 hown1 hg _))
        have hb1 := below_grown hbel hown hg
        obtain ⟨g', cap', hv, _, _⟩ := own_form hown1 (by omega)
        rw [hv] at hown1 ⊢
        go_roundw
        case rel => exact ⟨k + 1, g', cap', by omega, by go_num, rfl, by rw [psums_snoc ws (k + 1), HW.out]; exact hown1, hb1⟩
        case measure => simp [intOf]; omega
      · by_cases hbig : 1000 ≤ k
        · have HW : Hid (psum ws (k + 1) = p) := by show _ = _; rw [HSS.out]; unfold wt; rw [if_pos hbig]; omega
          go_wp2_with (first | (go_at_call 20; refine (rcut_calls _ _).mono ?_; rintro e w' ⟨rfl, rfl⟩) | (at_builtin; refine wpList_append_own _ rfl _ _ 22 rfl w.heap.size 3 i0 (.int .i64 0) 1 8 Try.underlying22 hi hz0 hz1 hz2 rfl (by decide) _ _ _ rfl (hown.alloc _) ⟨wr.heap.size, 0, none⟩ 1 1 [.int .i64 p] rfl rfl (cell_one_new _ _ _) (fun u hu => by simp at hu; subst hu; rfl) (by unfold maxLen; omega) (by omega) (by simp; omega) ?_; intro v' w1 hown1 hg _))
          have hb1 := below_grown hbel hown hg
          obtain ⟨g', cap', hv, _, _⟩ := own_form hown1 (by omega)
          rw [hv] at hown1 ⊢
          go_roundw
          case rel => exact ⟨k + 1, g', cap', by omega, by go_num, rfl, by rw [psums_snoc ws (k + 1), HW.out]; exact hown1, hb1⟩
          case measure => simp [intOf]; omega
        · have HW : Hid (psum ws (k + 1) = p + cut z) := by show _ = _; rw [HSS.out]; unfold wt; rw [if_neg hbig]; omega
          go_wp2_with (first | (go_at_call 20; refine (rcut_calls _ _).mono ?_; rintro e w' ⟨rfl, rfl⟩) | (at_builtin; refine wpList_append_own _ rfl _ _ 22 rfl w.heap.size 3 i0 (.int .i64 0) 1 8 Try.underlying22 hi hz0 hz1 hz2 rfl (by decide) _ _ _ rfl (hown.alloc _) ⟨wr.heap.size, 0, none⟩ 1 1 [.int .i64 (p + cut z)] rfl rfl (cell_one_new _ _ _) (fun u hu => by simp at hu; subst hu; rfl) (by unfold maxLen; omega) (by omega) (by simp; omega) ?_; intro v' w1 hown1 hg _))
          have hb1 := below_grown hbel hown hg
          obtain ⟨g', cap', hv, _, _⟩ := own_form hown1 (by omega)
          rw [hv] at hown1 ⊢
          go_roundw
          case rel => exact ⟨k + 1, g', cap', by omega, by go_num, rfl, by rw [psums_snoc ws (k + 1), HW.out]; exact hown1, hb1⟩
          case measure => simp [intOf]; omega
    · obtain rfl : n = k := by omega
      have hcell := hown.cellAt n (by omega)
      rw [psums_at ws (n + 1) n (by omega)] at hcell
      have SUM := Lib.hid (Holds.of_own hown)
      have hg := (hown.lt g rfl).2
      have e := hown.1
      obtain ⟨t, ht⟩ : ∃ t, t = psum ws n := ⟨_, rfl⟩
      rw [← ht] at hcell p1 p2
      have HT := Lib.hid ht
      clear ht
      clear hown e
      obtain ⟨wo, rfl⟩ : ∃ wo : World, wo = wr := ⟨_, rfl⟩
      have cells : ∀ j, j ≤ n → wo.cell? ⟨g, j, none⟩ = some (.int .i64 (psum ws j)) := fun j hj => by
        obtain ⟨b, off, e, _, hc⟩ := SUM.out (by rw [ints_len]; simp [psums])
        injection e with e
        injection e with e1 e2
        subst e1; subst e2
        have hl : j < (ints (psums ws (n + 1))).length := by rw [ints_len]; simp [psums]; omega
        have := hc j hl
        rw [Nat.zero_add] at this
        rw [this, List.getD, psums_at ws (n + 1) j (by omega)]
        rfl
      have CELLS := Lib.hid cells
      clear cells
      go_wp2_with fail
      go_loopw [9, 46] (fun v i w2 => ∃ k : Nat, k ≤ n ∧ i = .int .i64 k ∧ w2.ownsRow wo.heap.size 3 1 v k (ints ((share x ws).take k)) ∧ Below wo.heap.size wo w2) (fun _ i _ => n - (intOf i).toNat)
      case atStart => exact ⟨0, Nat.zero_le _, rfl, World.ownsRow_nil _ _ _ _, Below.refl _ _⟩
      case round =>
        clear hcell
        obtain ⟨k, hk, rfl, hown, hb2⟩ := hrel
        have hw2 := hb2.size
        have hbel2 := below_then hbel hb2
        by_cases hlt : k < n
        · have HTK : Hid (ints ((share x ws).take (k + 1)) = ints ((share x ws).take k) ++ [.int .i64 (shareAt x ws k)]) := by
            show _ = _
            rw [take_snoc (share x ws) 0 k (by rw [share_length, HN.out]; exact hlt)]
            simp [ints, share, List.getD, HN.out, hlt]
          by_cases ht0 : t = 0
          · have HS0 : Hid (shareAt x ws k = 0) := by show _ = _; unfold shareAt; rw [if_pos (by rw [HN.out, ← HT.out, ht0])]
            subst ht0
            go_wp2_with (first | (at_builtin; refine wpList_append_own _ rfl _ _ 22 rfl wo.heap.size 3 i0 (.int .i64 0) 1 8 Try.underlying22 hi hz0 hz1 hz2 rfl (by decide) _ _ _ rfl (hown.alloc _) ⟨wr.heap.size, 0, none⟩ 1 1 [.int .i64 0] rfl rfl (cell_one_new _ _ _) (fun u hu => by simp at hu; subst hu; rfl) (by unfold maxLen; omega) (by omega) (by simp; omega) ?_; intro v' w1 hown1 hg2 _))
            have hb1 := below_grown hb2 hown hg2
            go_roundw
            case rel => exact ⟨k + 1, by omega, by go_num, by rw [HTK.out, HS0.out]; exact hown1, hb1⟩
            case measure => simp [intOf]; omega
          · have t1 : 0 < t := by omega
            have t2 : t ≤ 16777216000 := by omega
            have t3 : (t == 0) = false := by simp; omega
            have hc1 : wr.cell? ⟨g, k, none⟩ = some (.int .i64 (psum ws k)) := (hb2.cell (p := ⟨g, k, none⟩) hg).trans (CELLS.out k (by omega))
            have hc2 : wr.cell? ⟨g, k + 1, none⟩ = some (.int .i64 (psum ws (k + 1))) := (hb2.cell (p := ⟨g, k + 1, none⟩) hg).trans (CELLS.out (k + 1) (by omega))
            have r1 := (psum_bd ws (k + 1)).1
            have r2 := psum_hi ws (k + 1)
            have q1 := (psum_bd ws k).1
            have q2 := psum_hi ws k
            have m1 := mul_psum (cut x) (psum ws k) (cut_lo x) (cut_hi x) q1 q2
            have m2 := mul_psum (cut x) (psum ws (k + 1)) (cut_lo x) (cut_hi x) r1 r2
            have b1 := upto_bd x ws k (by rw [HN.out, ← HT.out]; exact t1)
            have b2 := upto_bd x ws (k + 1) (by rw [HN.out, ← HT.out]; exact t1)
            have HU1 : Hid (upto x ws k = (cut x * psum ws k).fdiv t) := by show _ = _; rw [HT.out, ← HN.out]; rfl
            have HU2 : Hid (upto x ws (k + 1) = (cut x * psum ws (k + 1)).fdiv t) := by show _ = _; rw [HT.out, ← HN.out]; rfl
            have HS0 : Hid (shareAt x ws k = upto x ws (k + 1) - upto x ws k) := by show _ = _; unfold shareAt; rw [if_neg (by rw [HN.out, ← HT.out]; omega)]
            obtain ⟨a1, ha1⟩ : ∃ a, cut x * psum ws k = a := ⟨_, rfl⟩
            obtain ⟨a2, ha2⟩ : ∃ a, cut x * psum ws (k + 1) = a := ⟨_, rfl⟩
            rw [ha1] at m1 HU1
            rw [ha2] at m2 HU2
            have w1 : IntKind.i64.wrap (cut x * psum ws k) = a1 := by rw [ha1]; exact IntWalk.i64_in _ (by omega)
            have w2 : IntKind.i64.wrap (cut x * psum ws (k + 1)) = a2 := by rw [ha2]; exact IntWalk.i64_in _ (by omega)
            clear ha1 ha2
            obtain ⟨u1, hu1⟩ : ∃ u, u = upto x ws k := ⟨_, rfl⟩
            obtain ⟨u2, hu2⟩ : ∃ u, u = upto x ws (k + 1) := ⟨_, rfl⟩
            rw [← hu1] at HU1 b1 HS0
            rw [← hu2] at HU2 b2 HS0
            obtain ⟨s1, hs1⟩ : ∃ u, u = psum ws k := ⟨_, rfl⟩
            obtain ⟨s2, hs2⟩ : ∃ u, u = psum ws (k + 1) := ⟨_, rfl⟩
            rw [← hs1] at hc1 q1 q2 w1
            rw [← hs2] at hc2 r1 r2 w2
            have HC1 := Lib.hid (fun w => rdown_calls a1 t w (by omega) (by omega) t1 (by omega))
            have HC2 := Lib.hid (fun w => rdown_calls a2 t w (by omega) (by omega) t1 (by omega))
            rw [← HU1.out] at HC1
            rw [← HU2.out] at HC2
            have hne : u9.ownBlock ≠ some g := fun e => by have := (hown.lt g e).1; omega
            clear hu1 hu2 hs1 hs2 m1 m2 HU1 HU2
            have w3 : IntKind.i64.wrap (u2 - u1) = u2 - u1 := IntWalk.i64_in _ (by omega)
            have w4 : IntKind.i64.wrap ((k : Int) + 1) = (k : Int) + 1 := IntWalk.i64_in _ (by omega)
            have n1 : (0 : Int) ≤ (k : Int) := by omega
            have n2 : (0 : Int) ≤ (k : Int) + 1 := by omega
            have n3 : ((k : Int) + 1).toNat = k + 1 := by omega
            have n4 : (k : Int) < (n : Int) + 1 := by omega
            have n5 : (k : Int) + 1 < (n : Int) + 1 := by omega
            go_wp2_with fail
            go_region_held3 (fun w' => w'.cell? ⟨g, k, none⟩ = some (.int .i64 s1) ∧ w'.cell? ⟨g, k + 1, none⟩ = some (.int .i64 s2))
              (first | go_keep | (go_split_ands; refine ⟨?_, ?_⟩ <;> (rw [hgrow.cell_far _ (by simp; omega) (Ne.symm hne)]; assumption)))
              ((first | (refine step_append_lies _ (by rfl) _ _ _ (by rfl) wo.heap.size 3 i0 (.int .i64 0) 1 8 Try.underlying22 hi hz0 hz1 hz2 rfl (by omega) _ _ _ (by rfl) ((hown.alloc _).drew) ⟨wr.heap.size, 0, none⟩ 1 1 [.int .i64 (u2 - u1)] (by rfl) (by rfl) (cell_one_new _ _ _) (fun u hu => by simp at hu; subst hu; rfl) (by omega) (by unfold maxLen; omega) (by omega) (by simp; omega) (wr.heap.size + 1) (by simp) ?_; intro gg cap1 w1' hown1 hgrow hat hlt') | (go_at_call_of 59 (Value.int .i64 a1); refine (HC1.out _).mono ?_; rintro e w' ⟨rfl, rfl⟩) | (go_at_call_of 59 (Value.int .i64 a2); refine (HC2.out _).mono ?_; rintro e w' ⟨rfl, rfl⟩)))
            have hb1 := below_grown' hown (by repeat (first | exact hb2 | apply Below.drew | refine below_alloc ?_ _)) hgrow
            have HO := Lib.hid hown1
            clear hown1 hgrow hown hat hc1 hc2 w1 w2 w3 w4 HC1 HC2
            go_wp2_with fail
            go_roundw
            case rel => exact ⟨k + 1, by omega, by go_num, by rw [HTK.out, HS0.out]; exact HO.out, hb1⟩
            case measure => simp [intOf]; omega
        · obtain rfl : n = k := by omega
          rw [List.take_of_length_le (by rw [share_length, HN.out]; omega)] at hown
          obtain ⟨A', c', hv⟩ := own_any hown
          rw [hv] at hown ⊢
          have HH := Lib.hid (own_lower hown hbel.size)
          clear hown hv
          go_wp2_with fail
          go_ret
          exact ⟨_, _, rfl, HH.out, hbel2⟩
theorem rshare_calls (x : Int) (A : Option Addr) (n c B : Nat) (ws : List Int) (w : World) (hn : ws.length = n) (h : Holds w B A (ints ws)) (hB : B ≤ w.heap.size) (hr : n * 8 ≤ 140737488351232) :
    Calls Try.prog 29 #[.int .i64 x, .slice A n c] w fun e w' => ∃ A' c', e = .returned (.slice A' n c') ∧ Holds w' w'.heap.size A' (ints (share x ws)) ∧ Below w.heap.size w w' :=
  (rshare_own x A n c B ws w hn h hB hr).mono fun e w' ⟨A', c', h1, h2, h3⟩ => ⟨A', c', h1, Holds.of_own h2, h3⟩

set_option maxHeartbeats 400000 in
theorem fixShares_walk (W : World) (x : Int) (wx : (Lit.int .i64 x).wf = true) (a : Option Addr) (len cap : Nat) (zs : List Int) (hz : zs.length = len * 1) (hh : Holds W W.heap.size a (zs.map (Value.int .i64))) (hr : len * Try.prog.bytesOf 3 ≤ 140737488351232) (hc : len ≤ cap) (hm : cap ≤ maxLen) (hw : ∀ z ∈ zs, (Lit.int .i64 z).wf = true) :
    Calls Try.prog 6 #[.int .i64 x, .slice a len cap] W fun e w' => e = .returned (.bool true) ∧ Below W.heap.size W w' := by
  have hb8 : Try.prog.bytesOf 3 = 8 := by kernel_rfl
  rw [hb8] at hr
  have HZ : Hid (zs.length = len) := by show _ = _; omega
  have HH : Hid (Holds W W.heap.size a (ints zs)) := hh
  have hbel := Below.refl W.heap.size W
  clear hh hz hb8 hw
  unfold maxLen at hm
  go_enter Try.func6, Try.ntmps6
  go_wp2_with (first | (go_at_call 18; refine (fixed_calls _).mono ?_; rintro e w' ⟨rfl, rfl⟩) | (go_at_call 28; refine (share_calls _ _ _ _ _ _ _ HZ.out (HH.out.below hbel (Nat.le_refl _)) hbel.size (by omega)).mono ?_; rintro e w1 ⟨g1, rfl, H1, hb1⟩; have hbel := below_then hbel hb1; have R1 := Lib.hid H1; clear H1) | (go_at_call 29; refine (rshare_calls _ _ _ _ _ _ _ HZ.out (HH.out.below hbel (Nat.le_refl _)) hbel.size (by omega)).mono ?_; rintro e w2 ⟨A2, c2, rfl, H2, hb2⟩; have hbel := below_then hbel hb2; have R2 := Lib.hid H2; have R3 := Lib.hid (R1.out.below hb2 (Nat.le_refl _)); clear H2) | (go_at_call 27; refine (eqInt_calls _ _ _ _ _ _ _ _ _ (by rw [share_length]; exact HZ.out) R3.out R2.out (by omega)).mono ?_; rintro e w' ⟨rfl, rfl⟩))
  go_ret
  exact ⟨rfl, hbel⟩
end Go.Proofs.Ytpinfaoeggipmaa
