/- ItemsMake: the walk. -/
import Derived.Test.YtpamfhplklhnpaaDoorItmO
import Derived.Test.YtpamfhplklhnpaaDoorItmC
import Derived.Test.YtpamfhplklhnpaaDoorRBoxes
import Derived.Test.YtpamfhplklhnpaaDoorItmM
namespace Go.Proofs.YtpamfhplklhnpaaDoor
open Go.RowKit
set_option linter.unusedVariables false
set_option linter.unusedSimpArgs false

theorem Boxes.moreI {w : World} {B B' : Nat} {A : Option Addr} {bs : List BoxV} (h : Boxes w B A bs) (hB : B ≤ B') : Boxes w B' A bs := fun i hi => by
  obtain ⟨b, off, e, hlt, c0, c1, c2, c3, c4, hk, hl⟩ := h i hi
  exact ⟨b, off, e, by omega, c0, c1, c2, c3, c4, hk.more hB, hl⟩
theorem MakeP.bad {M : MkV} {at_ r : Int} {w w' : World} {e : Ending} (h : MakeP M at_ w e w') (hE : makeE M.bs M.nl at_ = r) (hr : r ≠ 0) : ∃ A c, e = .returned (.tuple #[.slice A 0 c, .int .i64 r]) ∧ Below w.heap.size w w' := by
  obtain ⟨A, n, c, he, hb, h1, h2⟩ := h
  obtain rfl := h1 (by rw [hE]; exact hr)
  exact ⟨A, c, by rw [he, hE], hb⟩
theorem itemsL_len {M : MkV} (h : MOk M) (ht : textAll M.bs ≤ 1048576) {k : Nat} (hk : k < M.nb) : (itemsL M k).length ≤ 4194304 :=
  Nat.le_trans (walk_len (box_len M M.nb) (bx M.bs k).kids true) (cost_kids h ht hk)
set_option maxRecDepth 1000000 in
set_option maxHeartbeats 8000000 in
theorem itemsMake_of (Ab : Option Addr) (nb cb : Nat) (bs : List BoxV) (Al : Option Addr) (nl cl : Nat) (lz : List Int) (room at_ : Int) (w : World) (hI : MOk ⟨Ab, nb, cb, bs, Al, nl, cl, lz, room⟩ → ∀ (B : Nat) (G : GR) (u : Nat), ItemsC ⟨Ab, nb, cb, bs, Al, nl, cl, lz, room⟩ B G u)
    (hn : bs.length = nb) (hlz : lz.length = nl * 118) (hb : Boxes w w.heap.size Ab bs) (hL : Holds w w.heap.size Al (ints lz)) (hm : nb ≤ 1048576) (hml : nl ≤ 1048576) (ht : textAll bs ≤ 1048576) (ha : -9223372036854775808 ≤ at_ ∧ at_ ≤ 9223372036854775807) :
    Calls Tryd.prog 3 #[.slice Ab nb cb, .slice Al nl cl, .int .i64 at_, .int .i64 room] w fun e w' => e = .returned (.bool true) ∧ Below w.heap.size w w' := by
  have mixed : Tryd.prog.follows .mixedOrders = true := by kernel_rfl
  have HB := Lib.hid (fun X (hX : Below w.heap.size w X) => Boxes.moreI (hb.below hX (Nat.le_refl _)) hX.size)
  have HL := Lib.hid (fun X (hX : Below w.heap.size w X) => Holds.more (hL.below hX (Nat.le_refl _)) hX.size)
  have HLW := Lib.hid hL
  have HBW := Lib.hid hb
  have HN := Lib.hid hn
  have HLZ := Lib.hid hlz
  have HT := Lib.hid ht
  have HI := Lib.hid hI
  have HMK : Hid (∀ X, Below w.heap.size w X → Calls Tryd.prog 8 #[.slice Ab nb cb, .slice Al nl cl, .int .i64 at_, .int .i64 room] X (MakeP ⟨Ab, nb, cb, bs, Al, nl, cl, lz, room⟩ at_ X)) := fun X hX =>
    make_calls ⟨Ab, nb, cb, bs, Al, nl, cl, lz, room⟩ at_ X hn hlz (HB.out X hX) (HL.out X hX) (by show nb ≤ _; omega) (by show nl ≤ _; omega) ht ha
  have HRC : Hid (∀ X, Below w.heap.size w X → Calls Tryd.prog 9 #[.slice Ab nb cb] X fun e w' => e = .returned (.bool (boxesE bs == 0)) ∧ Below X.heap.size X w') := fun X hX =>
    rcheck_calls Ab nb cb X.heap.size bs X hn (HB.out X hX) (by omega) (Nat.le_refl _)
  clear hb hL hn hlz ht hI
  go_enter Tryd.func3, Tryd.ntmps3
  go_wp2_with (go_at_call 5; refine (itemed_calls _).mono ?_; rintro e w0 ⟨rfl, hb0⟩; have HB0 := Lib.hid hb0; clear hb0)
  go_loopw [17] (fun i wr => ∃ k : Nat, k ≤ nl ∧ i = .int .i64 k ∧ Hid (Below w.heap.size w wr)) (fun i _ => nl - (intOf i).toNat)
  case atStart => exact ⟨0, Nat.zero_le _, rfl, HB0.out⟩
  case round =>
    clear HB0
    obtain ⟨k, hk, rfl, HBR⟩ := hrel
    by_cases hlt : k < nl
    · obtain ⟨bL, offL, rfl, hbL, hrow⟩ := looks_row (HLW.out.below HBR.out (Nat.le_refl _)) HLZ.out hlt
      obtain ⟨zs, hzs⟩ : ∃ x, x = rowL lz k := ⟨_, rfl⟩
      have hz : zs.length = 118 := by rw [hzs]; exact rowL_len _ _
      rw [← hzs] at hrow
      have HLAID := Lib.hid (look_laid zs hz)
      have HSZL : Hid ((Tryd.prog.info? 28).map (·.size) = some (sty zs).toList.length) := by show _ = _; rw [Array.length_toList, sty_size, hz]; kernel_rfl
      have HROW := Lib.hid hrow
      have HKK := Lib.hid (show k ≤ nl ∧ k < nl from ⟨hk, hlt⟩)
      obtain ⟨hv, hhv⟩ : ∃ x, x = highN zs := ⟨_, rfl⟩
      have HHI : Hid (∀ X, Calls Tryd.prog 6 #[.agg (sty zs)] X fun e w' => e = .returned (.int .i64 hv) ∧ Below X.heap.size X w') := fun X => by rw [hhv]; exact high_calls zs X hz
      have HRH : Hid (∀ X, Calls Tryd.prog 7 #[.agg (sty zs)] X fun e w' => e = .returned (.int .i64 hv) ∧ Below X.heap.size X w') := fun X => by rw [hhv]; exact rhigh_calls zs X hz
      have qh : (hv != hv) = false := by simp
      clear hzs hz hrow hhv hbL HMK HRC HI
      go_upto_region 6 with (first | (refine wpList_load_mid rfl 28 _ rfl bL (offL + k * 118) rfl (sty zs).toList _ HROW.out Tryd.underlying28 rfl HSZL.out ?_) | (refine wpList_store_mid rfl _ _ _ rfl wr.heap.size 0 (sty zs) rfl rfl (HLAID.out wr).2.1 (HLAID.out wr).1 (sty_one _) ?_; obtain ⟨w2, hw2, bS, hb2, hsz2⟩ := (HLAID.out wr).2.2; rw [hw2]; clear hw2; have HSB := Lib.hid bS; have HBR := Lib.hid (below_then HBR.out hb2); clear bS hb2 hsz2))
      have HSB := Lib.hid HSB.out.drew
      have HBR : Hid (Below w.heap.size w w2.drew) := HBR.out.drew
      have hS0 : (fun w' : World => w'.rangeAt wr.heap.size 0 (sty zs).toList) w2.drew := rng_of HSB.out
      refine wp_region_noPanic ?_
      refine region_M (S := fun w' => w'.rangeAt wr.heap.size 0 (sty zs).toList) (T := []) (by kernel_rfl) ?_
      generalize World.drew w2 = wd at HSB HBR hS0 ⊢
      refine anyM_take (i := 0) (oi := { dst := some 21, op := _, type := _, pos := _, after := _, guard := _ }) (v := _) rfl (by kernel_rfl) (fun _ _ _ h => h) (yieldsIf_load_mid (by kernel_rfl) _ _ rfl _ _ rfl (sty zs).toList _ (fun w' h => by simpa using h) Tryd.underlying28 rfl HSZL.out) hS0 ?_
      try simp only [Act.put, Array.toArray_toList, List.setIfInBounds_toArray, List.set_cons_zero, List.set_cons_succ]
      refine anyM_take (i := 2) (oi := { dst := some 23, op := _, type := _, pos := _, after := _, guard := _ }) (v := _) rfl (by kernel_rfl) (fun _ _ _ h => h) (yieldsIf_load_mid (by kernel_rfl) _ _ rfl _ _ rfl (sty zs).toList _ (fun w' h => by simpa using h) Tryd.underlying28 rfl HSZL.out) hS0 ?_
      try simp only [Act.put, Array.toArray_toList, List.setIfInBounds_toArray, List.set_cons_zero, List.set_cons_succ]
      refine anyM_one (i := 1) (by kernel_rfl) rfl (fun K hK => ?_)
      go_simp
      refine (HHI.out _).mono ?_
      rintro e wa ⟨rfl, hba⟩
      have HSB := Lib.hid (HSB.out.below hba HSB.out.lt)
      have HBR := Lib.hid (below_then HBR.out hba)
      have hS0 : (fun w' : World => w'.rangeAt wr.heap.size 0 (sty zs).toList) wa := rng_of HSB.out
      clear hba
      refine hK.out _ _ (fun _ => hS0) ?_
      clear hK K
      try simp only [Act.put, Array.toArray_toList, List.setIfInBounds_toArray, List.set_cons_zero, List.set_cons_succ]
      refine anyM_one (i := 3) (by kernel_rfl) rfl (fun K hK => ?_)
      go_simp
      refine (HRH.out _).mono ?_
      rintro e wa ⟨rfl, hba⟩
      have HSB := Lib.hid (HSB.out.below hba HSB.out.lt)
      have HBR := Lib.hid (below_then HBR.out hba)
      have hS0 : (fun w' : World => w'.rangeAt wr.heap.size 0 (sty zs).toList) wa := rng_of HSB.out
      clear hba
      refine hK.out _ _ (fun _ => hS0) ?_
      clear hK K
      try simp only [Act.put, Array.toArray_toList, List.setIfInBounds_toArray, List.set_cons_zero, List.set_cons_succ]
      refine anyM_free (i := 4) (oi := { dst := some 25, op := _, type := _, pos := _, after := _, guard := _ }) (v := ?_) rfl (by kernel_rfl) (fun _ _ _ h => h) (Or.inl ⟨by kernel_rfl, ?_⟩) (fun _ => hS0) ?_
      rotate_left 1
      · (intro w hSw; (try dsimp only at hSw); go_simp; try with_reducible rfl)
      try simp only [Act.put, Array.toArray_toList, List.setIfInBounds_toArray, List.set_cons_zero, List.set_cons_succ]
      refine anyM_done (by kernel_rfl) ?_ _
      refine NoPanic.normal ?_
      clear hS0
      go_wp2_with fail
      go_roundw
      case rel => exact ⟨k + 1, by have := HKK.out; omega, by go_num, HBR⟩
      case measure => have := HKK.out; simp [intOf]; omega
    · obtain rfl : k = nl := by omega
      have qi : decide (k < k) = false := decide_eq_false (by omega)
      have HLK := HLW
      clear HLW HB HL
      by_cases e0 : boxesE bs = 0
      · rw [e0] at HRC
        have HRC : Hid (∀ X, Below w.heap.size w X → Calls Tryd.prog 9 #[.slice Ab nb cb] X fun e w' => e = .returned (.bool true) ∧ Below X.heap.size X w') := HRC.out
        have HE0 := Lib.hid e0
        by_cases e1 : k = nb
        · have HE1 := Lib.hid e1
          have q1 : ((k : Int) != (nb : Int)) = false := by simp [e1]
          have q1' : (k != nb) = false := by simp [e1]
          by_cases e2 : at_ < 0
          · have hE : makeE bs k at_ = 5 := by unfold makeE; rw [if_neg (by simp [e0]), if_neg (by rw [HN.out]; simp [e1]), if_pos (.inl e2)]
            have HE := Lib.hid hE
            have q2 : decide (at_ < 0) = true := decide_eq_true e2
            clear e0 e1 hE
            go_wp2_with (first | (go_at_call 8; refine (HMK.out _ HBR.out).mono ?_; rintro e w1 hq; obtain ⟨A1, c1, rfl, hb1⟩ := hq.bad HE.out (by decide); have HBR := Lib.hid (below_then HBR.out hb1); clear hb1 hq) | (go_at_call 9; refine (HRC.out _ HBR.out).mono ?_; rintro e w1 ⟨rfl, hb1⟩; have HBR := Lib.hid (below_then HBR.out hb1); clear hb1))
            go_ret
            exact ⟨rfl, HBR.out⟩
          by_cases e3 : (nb : Int) ≤ at_
          · have hE : makeE bs k at_ = 5 := by unfold makeE; rw [if_neg (by simp [e0]), if_neg (by rw [HN.out]; simp [e1]), if_pos (.inr (by rw [HN.out]; exact e3))]
            have HE := Lib.hid hE
            have q2 : decide (at_ < 0) = false := decide_eq_false e2
            have q3 : decide ((nb : Int) ≤ at_) = true := decide_eq_true e3
            clear e0 e1 hE e2 e3
            go_wp2_with (first | (go_at_call 8; refine (HMK.out _ HBR.out).mono ?_; rintro e w1 hq; obtain ⟨A1, c1, rfl, hb1⟩ := hq.bad HE.out (by decide); have HBR := Lib.hid (below_then HBR.out hb1); clear hb1 hq) | (go_at_call 9; refine (HRC.out _ HBR.out).mono ?_; rintro e w1 ⟨rfl, hb1⟩; have HBR := Lib.hid (below_then HBR.out hb1); clear hb1))
            go_ret
            exact ⟨rfl, HBR.out⟩
          obtain ⟨m, rfl⟩ : ∃ m : Nat, at_ = m := ⟨at_.toNat, by omega⟩
          have hk2 : m < nb := by omega
          have q2 : decide ((m : Int) < 0) = false := decide_eq_false e2
          have q3 : decide ((nb : Int) ≤ (m : Int)) = false := decide_eq_false e3
          have q3' : decide (nb ≤ m) = false := decide_eq_false (by omega)
          obtain ⟨bB, offB, rfl, hbB, c0, -, -, -, -, -, -⟩ := HBW.out.at_ (i := m) (by rw [HN.out]; exact hk2)
          obtain ⟨kd, hkd⟩ : ∃ x, x = (bx bs m).kind := ⟨_, rfl⟩
          rw [← hkd] at c0
          have HC0 : Hid (∀ w', Below w.heap.size w w' → w'.cell? ⟨bB, offB + m * 5, none⟩ = some (.int .i64 kd)) := fun w' hb => (hb.cell (p := ⟨bB, offB + m * 5, none⟩) hbB).trans c0
          by_cases e4 : kd = 2
          · have hE : makeE bs k (m : Int) = 0 := by unfold makeE; rw [if_neg (by simp [e0]), if_neg (by rw [HN.out]; simp [e1]), if_neg (by rw [HN.out]; omega), if_neg (by rw [Int.toNat_natCast, ← hkd]; simp [e4])]
            have hM : MOk ⟨some ⟨bB, offB, none⟩, nb, cb, bs, Al, k, cl, lz, room⟩ := mok_of e0 HN.out e1 HLZ.out HT.out
            obtain ⟨LI, hLI⟩ : ∃ x, x = itemsL ⟨some ⟨bB, offB, none⟩, nb, cb, bs, Al, k, cl, lz, room⟩ m := ⟨_, rfl⟩
            have hln : LI.length ≤ 4194304 := by rw [hLI]; exact itemsL_len hM HT.out hk2
            have HMG : Hid (∀ X, Below w.heap.size w X → Calls Tryd.prog 8 #[.slice (some ⟨bB, offB, none⟩) nb cb, .slice Al k cl, .int .i64 (m : Nat), .int .i64 room] X fun e w' => ∃ A c, e = .returned (.tuple #[.slice A LI.length c, .int .i64 0]) ∧ Below X.heap.size X w' ∧ w'.ownsRow X.heap.size 40 11 (.slice A LI.length c) LI.length (items LI)) := fun X hX => by
              refine (HMK.out X hX).mono ?_
              rintro e w' ⟨A, n, c, he, hbb, _, h2⟩
              have h3 := h2 hE
              rw [Int.toNat_natCast, ← hLI] at h3
              obtain ⟨rfl, h4⟩ := h3
              have hE' : makeE (MkV.bs ⟨some ⟨bB, offB, none⟩, nb, cb, bs, Al, k, cl, lz, room⟩) (MkV.nl ⟨some ⟨bB, offB, none⟩, nb, cb, bs, Al, k, cl, lz, room⟩) (m : Int) = 0 := hE
              rw [hE'] at he
              exact ⟨A, c, he, hbb, h4⟩
            have HRI : Hid (∀ X, Below w.heap.size w X → Calls Tryd.prog 11 #[.slice (some ⟨bB, offB, none⟩) nb cb, .slice Al k cl, .int .i64 (m : Nat), .int .i64 room] X fun e w' => ∃ A c, e = .returned (.slice A LI.length c) ∧ Below X.heap.size X w' ∧ w'.ownsRow X.heap.size 40 11 (.slice A LI.length c) LI.length (items LI)) := fun X hX => by
              rw [hLI]
              exact ritems_of ⟨some ⟨bB, offB, none⟩, nb, cb, bs, Al, k, cl, lz, room⟩ m X (HI.out hM) hM hk2 HT.out (Boxes.moreI (HBW.out.below hX (Nat.le_refl _)) hX.size) (Holds.more (HLK.out.below hX (Nat.le_refl _)) hX.size)
            subst e4
            clear hE hM hLI hkd c0 e0 e1 e2 e3 HMK
            go_wp2_with (first | (go_at_call 8; refine (HMG.out _ HBR.out).mono ?_; rintro e w1 ⟨A1, c1, rfl, hb1, ho1⟩; have HO1 := Lib.hid ho1; have HBR := Lib.hid (below_then HBR.out hb1); clear hb1 ho1) | (go_at_call 9; refine (HRC.out _ HBR.out).mono ?_; rintro e w1 ⟨rfl, hb1⟩; have HO1 := Lib.hid (own_below HO1.out hb1); have HBR := Lib.hid (below_then HBR.out hb1); have s0 := HC0.out _ HBR.out; clear hb1) | (go_at_call 11; refine (HRI.out _ HBR.out).mono ?_; rintro e w2 ⟨A2, c2, rfl, hb2, ho2⟩; have HO1 := Lib.hid (own_below HO1.out hb2); have HO2 := Lib.hid ho2; have HBR := Lib.hid (below_then HBR.out hb2); clear hb2 ho2) | (go_at_call 10; refine (eqItem_calls A1 A2 LI.length c1 c2 _ _ LI _ rfl (Holds.of_own HO1.out) (Holds.of_own HO2.out) (by omega) (Nat.le_refl _) (Nat.le_refl _)).mono ?_; rintro e w3 ⟨rfl, hb3⟩; have HBR := Lib.hid (below_then HBR.out hb3); clear hb3))
            go_ret
            exact ⟨rfl, HBR.out⟩
          · have hE : makeE bs k (m : Int) = 7 := by unfold makeE; rw [if_neg (by simp [e0]), if_neg (by rw [HN.out]; simp [e1]), if_neg (by rw [HN.out]; omega), if_pos (by rw [Int.toNat_natCast, ← hkd]; exact e4)]
            have HE := Lib.hid hE
            have q4 : (kd != 2) = true := by simpa using e4
            clear hE hkd c0 e0 e1 e2 e3 e4
            go_wp2_with (first | (go_at_call 8; refine (HMK.out _ HBR.out).mono ?_; rintro e w1 hq; obtain ⟨A1, c1, rfl, hb1⟩ := hq.bad HE.out (by decide); have HBR := Lib.hid (below_then HBR.out hb1); clear hb1 hq) | (go_at_call 9; refine (HRC.out _ HBR.out).mono ?_; rintro e w1 ⟨rfl, hb1⟩; have HBR := Lib.hid (below_then HBR.out hb1); have s0 := HC0.out _ HBR.out; clear hb1))
            go_ret
            exact ⟨rfl, HBR.out⟩
        · have hE : makeE bs k at_ = 3 := by unfold makeE; rw [if_neg (by simp [e0]), if_pos (by rw [HN.out]; exact e1)]
          have HE := Lib.hid hE
          have q1 : ((k : Int) != (nb : Int)) = true := by simp; omega
          have q1' : (k != nb) = true := by simpa using e1
          clear e0 e1 hE
          go_wp2_with (first | (go_at_call 8; refine (HMK.out _ HBR.out).mono ?_; rintro e w1 hq; obtain ⟨A1, c1, rfl, hb1⟩ := hq.bad HE.out (by decide); have HBR := Lib.hid (below_then HBR.out hb1); clear hb1 hq) | (go_at_call 9; refine (HRC.out _ HBR.out).mono ?_; rintro e w1 ⟨rfl, hb1⟩; have HBR := Lib.hid (below_then HBR.out hb1); clear hb1))
          go_ret
          exact ⟨rfl, HBR.out⟩
      · have h3 := (boxesE_or bs).resolve_left e0
        have hE : makeE bs k at_ = 3 := by unfold makeE; rw [if_pos e0]
        have HE := Lib.hid hE
        have HRC : Hid (∀ X, Below w.heap.size w X → Calls Tryd.prog 9 #[.slice Ab nb cb] X fun e w' => e = .returned (.bool false) ∧ Below X.heap.size X w') := by
          have h4 := HRC.out
          rw [h3] at h4
          exact h4
        clear e0 h3 hE
        go_wp2_with (first | (go_at_call 8; refine (HMK.out _ HBR.out).mono ?_; rintro e w1 hq; obtain ⟨A1, c1, rfl, hb1⟩ := hq.bad HE.out (by decide); have HBR := Lib.hid (below_then HBR.out hb1); clear hb1 hq) | (go_at_call 9; refine (HRC.out _ HBR.out).mono ?_; rintro e w1 ⟨rfl, hb1⟩; have HBR := Lib.hid (below_then HBR.out hb1); clear hb1))
        go_ret
        exact ⟨rfl, HBR.out⟩
end Go.Proofs.YtpamfhplklhnpaaDoor

namespace Go.Proofs.YtpamfhplklhnpaaDoor
open Go.RowKit
set_option linter.unusedVariables false

theorem items_all {M : MkV} {B : Nat} {G : GR} (hM : MOk M) : ∀ u, ItemsC M B G u
  | 0 => items_step M B G 0 hM (fun u' e => by omega)
  | u + 1 => items_step M B G (u + 1) hM (fun u' e => (show u = u' by omega) ▸ items_all hM u)
theorem itemsMake_calls (Ab : Option Addr) (nb cb : Nat) (bs : List BoxV) (Al : Option Addr) (nl cl : Nat) (lz : List Int) (room at_ : Int) (w : World)
    (hn : bs.length = nb) (hlz : lz.length = nl * 118) (hb : Boxes w w.heap.size Ab bs) (hL : Holds w w.heap.size Al (ints lz)) (hm : nb ≤ 1048576) (hml : nl ≤ 1048576) (ht : textAll bs ≤ 1048576) (ha : -9223372036854775808 ≤ at_ ∧ at_ ≤ 9223372036854775807) :
    Calls Tryd.prog 3 #[.slice Ab nb cb, .slice Al nl cl, .int .i64 at_, .int .i64 room] w fun e w' => e = .returned (.bool true) ∧ Below w.heap.size w w' :=
  itemsMake_of Ab nb cb bs Al nl cl lz room at_ w (fun hM B G u => items_all hM u) hn hlz hb hL hm hml ht ha
end Go.Proofs.YtpamfhplklhnpaaDoor
