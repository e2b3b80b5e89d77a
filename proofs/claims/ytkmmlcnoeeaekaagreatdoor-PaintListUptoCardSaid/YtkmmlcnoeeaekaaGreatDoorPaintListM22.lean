/- Several texts in one: RBoxes. -/
import Derived.Test.YtkmmlcnoeeaekaaGreatDoorPaintListM2
/- Contract of the reference's BoxesCheck. -/
namespace Go.Proofs.YtkmmlcnoeeaekaaGreatDoor
open Go.RowKit
set_option linter.unusedVariables false
theorem ret_b0 {e : Int} (h : e = 3) : Ending.returned (.bool false) = .returned (.bool (e == 0)) := by rw [h]; rfl
theorem RB {e v : Int} (h : e = v) : Ending.returned (.bool (v == 0)) = .returned (.bool (e == 0)) := by rw [h]
set_option maxRecDepth 100000 in
set_option maxHeartbeats 1600000 in
theorem rcheck_calls (A : Option Addr) (n c B : Nat) (bs : List BoxV) (w : World) (hn : bs.length = n) (h : Boxes w B A bs) (hm : n ≤ 17592186044404) (hB : B ≤ w.heap.size) :
    Calls Tryz.prog 46 #[.slice A n c] w fun e w' => e = .returned (.bool (boxesE bs == 0)) ∧ Below w.heap.size w w' := by
  subst hn
  go_enter Tryz.func46, Tryz.ntmps46
  go_wp2_with fail
  go_loopw [3, 10] (fun s i wr => ∃ k : Nat, k ≤ bs.length ∧ i = .int .i64 k ∧ s = .int .i64 (ksum bs k) ∧ Below w.heap.size w wr ∧ Hid (∀ i, i < k → boxOk bs i)) (fun _ i _ => bs.length - (intOf i).toNat)
  case atStart => exact ⟨0, Nat.zero_le _, rfl, rfl, Below.refl _ _, fun i hi => absurd hi (by omega)⟩
  case round =>
    obtain ⟨k, hk, rfl, rfl, hbel, HALL⟩ := hrel
    by_cases hlt : k < bs.length
    · obtain ⟨b, off, rfl, hb, c0, c1, c2, c3, c4, hkids, hkl⟩ := (h.below hbel hB).at_ hlt
      obtain ⟨x, hx⟩ : ∃ x, x = bx bs k := ⟨_, rfl⟩
      rw [← hx] at c0 c1 c2 c3 c4 hkids hkl
      have HX := Lib.hid hx
      have HBX := Lib.hid (h.below hbel hB)
      have HK := Lib.hid hkids
      clear hx h hkids
      by_cases hh : boxHead x k
      · obtain ⟨h1, h2, h3, h4⟩ := hh
        have hp : ((k : Int) == 0) = true → (x.parent != -1) = false := fun e => by
          have : k = 0 := by simp at e; omega
          rw [h4 this]; rfl
        have H0 := Lib.hid h4
        clear h4
        have hd1 : decide (x.kind < 1) = false := by simp; omega
        have hd2 : decide (9 < x.kind) = false := by simp; omega
        have hd3 : decide (x.node < -1) = false := by simp; omega
        cases e0 : ((k : Int) == 0)
        case' true => have hp1 := hp e0
        all_goals
          clear hp
          go_wp2_with fail
          go_loop [40] (fun j => ∃ (j' : Nat) (last : Int), j' ≤ x.kids.length ∧ j = .int .i64 j' ∧ (k : Int) ≤ last ∧ Hid (kidsOk bs k k x.kids = kidsOk bs k last (x.kids.drop j')) ∧ Hid (last = if j' = 0 then (k : Int) else x.kids.getD (j' - 1) 0)) (fun j => x.kids.length - (intOf j).toNat)
          case atStart => exact ⟨0, k, by omega, rfl, by omega, rfl, rfl⟩
          case round =>
            clear c0 c1 c2 c4
            obtain ⟨j, last, hj, rfl, hlast, HKO, HL⟩ := hrel
            have hw := hbel.size
            by_cases hjl : j < x.kids.length
            · have HKA := kidsOk_at bs k last x.kids j hjl
              obtain ⟨b', off', hka, hb', hc'⟩ := HK.out.ints hjl
              have hb3 : b' < wr.heap.size := by omega
              have hb4 : b < wr.heap.size := by omega
              obtain ⟨z, hz⟩ : ∃ z, z = x.kids.getD j 0 := ⟨_, rfl⟩
              rw [← hz] at HKA hc'
              have HKB := Lib.hid HKA
              have HZ := Lib.hid hz
              clear hz HKA
              rcases Nat.eq_zero_or_pos j with hj0 | hj0
              · subst hj0
                rw [Nat.add_zero] at hc'
                have hle : last = k := by rw [HL.out]; rfl
                have HLE := Lib.hid hle
                clear hle
                by_cases g1 : last < z
                · have g1' : (k : Int) < z := by omega
                  by_cases g2 : z < bs.length
                  · obtain ⟨m, rfl⟩ : ∃ m : Nat, z = m := ⟨z.toNat, by omega⟩
                    have hml : m < bs.length := by omega
                    obtain ⟨b2, off2, hA2, hb2, _, _, d2, _, _, _, _⟩ := HBX.out.at_ hml
                    injection hA2 with hA2
                    injection hA2 with hA2 hA3
                    subst hA2; subst hA3
                    obtain ⟨p, hp⟩ : ∃ p, p = (bx bs m).parent := ⟨_, rfl⟩
                    rw [← hp] at d2
                    have HP := Lib.hid hp
                    clear hp
                    rw [hka]
                    by_cases g3 : p = k
                    · have HN : Hid (kidsOk bs k k x.kids = kidsOk bs k m (x.kids.drop (0 + 1))) := by
                        show _ = _
                        rw [HKO.out, HKB.out]
                        have e3 : (bx bs (m : Int).toNat).parent = k := by rw [Int.toNat_natCast, ← HP.out]; exact g3
                        simp only [decide_eq_true g1, decide_eq_true g2, decide_eq_true e3, Bool.true_and]
                      have g3' : (p != (k : Int)) = false := by simp [g3]
                      have G3 := Lib.hid g3
                      clear g3
                      go_wp2_with fail
                      go_round
                      case rel => exact ⟨0 + 1, m, by omega, by go_num, by omega, HN.out, by show _ = _; rw [HZ.out]; simp⟩
                      case measure => simp [intOf]; omega
                    · have HF : Hid (kidsOk bs k k x.kids = false) := by
                        show _ = _
                        rw [HKO.out, HKB.out]
                        have e3 : ¬ (bx bs (m : Int).toNat).parent = k := by rw [Int.toNat_natCast, ← HP.out]; exact g3
                        simp only [decide_eq_false e3, Bool.and_false, Bool.false_and]
                      have g3' : (p != (k : Int)) = true := by simp [g3]
                      go_wp2_with fail
                      go_ret
                      exact ⟨ret_b0 (no_of_kids bs k hlt (by rw [← HX.out]; exact HF.out)), below_alloc hbel _⟩
                  · have HF : Hid (kidsOk bs k k x.kids = false) := by show _ = _; rw [HKO.out, HKB.out]; simp [g2]
                    rw [hka]
                    go_wp2_with fail
                    go_ret
                    exact ⟨ret_b0 (no_of_kids bs k hlt (by rw [← HX.out]; exact HF.out)), below_alloc hbel _⟩
                · have HF : Hid (kidsOk bs k k x.kids = false) := by show _ = _; rw [HKO.out, HKB.out]; simp [g1]
                  have g1' : z ≤ (k : Int) := by have := HLE.out; omega
                  rw [hka]
                  go_wp2_with fail
                  go_ret
                  exact ⟨ret_b0 (no_of_kids bs k hlt (by rw [← HX.out]; exact HF.out)), below_alloc hbel _⟩
              · obtain ⟨i, rfl⟩ : ∃ i, j = i + 1 := ⟨j - 1, by omega⟩
                obtain ⟨b5, off5, hka5, _, hc5⟩ := HK.out.ints (k := i) (by omega)
                rw [hka] at hka5
                injection hka5 with hka5
                injection hka5 with e5 e6
                subst e5; subst e6
                have hle : last = x.kids.getD i 0 := by rw [HL.out]; simp
                rw [← hle] at hc5
                clear hle
                by_cases g1 : last < z
                · have g1' : (k : Int) < z := by omega
                  by_cases g2 : z < bs.length
                  · obtain ⟨m, rfl⟩ : ∃ m : Nat, z = m := ⟨z.toNat, by omega⟩
                    have hml : m < bs.length := by omega
                    obtain ⟨b2, off2, hA2, hb2, _, _, d2, _, _, _, _⟩ := HBX.out.at_ hml
                    injection hA2 with hA2
                    injection hA2 with hA2 hA3
                    subst hA2; subst hA3
                    obtain ⟨p, hp⟩ : ∃ p, p = (bx bs m).parent := ⟨_, rfl⟩
                    rw [← hp] at d2
                    have HP := Lib.hid hp
                    clear hp
                    rw [hka]
                    by_cases g3 : p = k
                    · have HN : Hid (kidsOk bs k k x.kids = kidsOk bs k m (x.kids.drop ((i + 1) + 1))) := by
                        show _ = _
                        rw [HKO.out, HKB.out]
                        have e3 : (bx bs (m : Int).toNat).parent = k := by rw [Int.toNat_natCast, ← HP.out]; exact g3
                        simp only [decide_eq_true g1, decide_eq_true g2, decide_eq_true e3, Bool.true_and]
                      have g3' : (p != (k : Int)) = false := by simp [g3]
                      have G3 := Lib.hid g3
                      clear g3
                      go_wp2_with fail
                      go_round
                      case rel => exact ⟨(i + 1) + 1, m, by omega, by go_num, by omega, HN.out, by show _ = _; rw [HZ.out]; simp⟩
                      case measure => simp [intOf]; omega
                    · have HF : Hid (kidsOk bs k k x.kids = false) := by
                        show _ = _
                        rw [HKO.out, HKB.out]
                        have e3 : ¬ (bx bs (m : Int).toNat).parent = k := by rw [Int.toNat_natCast, ← HP.out]; exact g3
                        simp only [decide_eq_false e3, Bool.and_false, Bool.false_and]
                      have g3' : (p != (k : Int)) = true := by simp [g3]
                      go_wp2_with fail
                      go_ret
                      exact ⟨ret_b0 (no_of_kids bs k hlt (by rw [← HX.out]; exact HF.out)), below_alloc hbel _⟩
                  · have HF : Hid (kidsOk bs k k x.kids = false) := by show _ = _; rw [HKO.out, HKB.out]; simp [g2]
                    rw [hka]
                    go_wp2_with fail
                    go_ret
                    exact ⟨ret_b0 (no_of_kids bs k hlt (by rw [← HX.out]; exact HF.out)), below_alloc hbel _⟩
                · have HF : Hid (kidsOk bs k k x.kids = false) := by show _ = _; rw [HKO.out, HKB.out]; simp [g1]
                  rw [hka]
                  go_wp2_with fail
                  all_goals
                    go_ret
                    exact ⟨ret_b0 (no_of_kids bs k hlt (by rw [← HX.out]; exact HF.out)), below_alloc hbel _⟩
            · have HN : Hid (kidsOk bs k k x.kids = true) := by
                show _ = _
                rw [HKO.out, List.drop_eq_nil_of_le (by omega)]
                rfl
              have HS : Hid (ksum bs (k + 1) = wrap64 (ksum bs k + (x.kids.length : Int))) := by show _ = _; rw [HX.out]; rfl
              have HOK : Hid (boxOk bs k) := ⟨by rw [← HX.out]; exact ⟨h1, h2, h3, H0.out⟩, by rw [← HX.out]; exact HN.out⟩
              go_wp2_with fail
              go_roundw
              case rel => exact ⟨k + 1, by omega, by go_num, by rw [HS.out], below_alloc hbel _, fun i hi => by
                by_cases e : i = k
                · subst e; exact HOK.out
                · exact HALL.out i (by omega)⟩
              case measure => simp [intOf]; omega
      · have HH := Lib.hid hh
        clear hh
        have E0 : Hid ((((k : Int) == 0) = true → k = 0) ∧ (((k : Int) == 0) = false → k ≠ 0)) := ⟨fun e => by simp at e; omega, fun e => by simp at e; omega⟩
        have E1 : Hid (((x.parent != -1) = false → x.parent = -1)) := fun e => by simpa using e
        cases e0 : ((k : Int) == 0) <;> cases e1 : (x.parent != -1)
        all_goals
          go_wp2_with fail
          all_goals first
            | (go_ret; exact ⟨ret_b0 (no_of_box bs k hlt (fun hb => HH.out (by rw [HX.out]; exact hb.1))), below_alloc hbel _⟩)
            | (exfalso; apply HH.out; refine ⟨by omega, by omega, by omega, ?_⟩; intro h0; first | exact E1.out e1 | exact absurd h0 (E0.out.2 e0))
    · obtain rfl : bs.length = k := by omega
      clear h
      by_cases h0 : bs.length = 0
      · have HY : Hid (boxesE bs = 0) := boxesE_yes bs ⟨HALL.out, .inl h0⟩
        have e0 : ((bs.length : Int) == 0) = true := by simp only [beq_iff_eq]; omega
        go_wp2_with fail
        go_ret
        exact ⟨RB HY.out, hbel⟩
      · have e0 : ((bs.length : Int) == 0) = false := by simp only [beq_eq_false_iff_ne, ne_eq]; omega
        by_cases h1 : ksum bs bs.length = (bs.length : Int) - 1
        · have HY : Hid (boxesE bs = 0) := boxesE_yes bs ⟨HALL.out, .inr h1⟩
          have e1 : (ksum bs bs.length == (bs.length : Int) - 1) = true := by simp [h1]
          have H1 := Lib.hid h1
          clear h1
          go_wp2_with fail
          go_ret
          exact ⟨RB HY.out, hbel⟩
        · have HY : Hid (boxesE bs = 3) := boxesE_no bs fun hh => by rcases hh.2 with h | h; exact h0 h; exact h1 h
          have e1 : (ksum bs bs.length == (bs.length : Int) - 1) = false := by simp [h1]
          have H1 := Lib.hid h1
          clear h1
          go_wp2_with fail
          go_ret
          exact ⟨RB HY.out, hbel⟩
end Go.Proofs.YtkmmlcnoeeaekaaGreatDoor
