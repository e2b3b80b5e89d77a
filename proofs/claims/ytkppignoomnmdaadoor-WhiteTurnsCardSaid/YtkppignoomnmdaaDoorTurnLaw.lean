/- Contracts of both Idles; the walk of WhiteTurns. -/
import Derived.Test.YtkppignoomnmdaaDoorTurnR
import Derived.Deep.Cut
namespace Go.Proofs.YtkppignoomnmdaaDoor
open Go.RowKit
set_option linter.unusedVariables false
set_option linter.unusedSimpArgs false

theorem trim_calls (s : ByteArray) (w : World) (hs : s.size ≤ 400) :
    Calls Tryd.prog 15 #[.string s, .string ⟨#[32, 9, 10, 12, 13]⟩] w fun e w' => e = .returned (.string ⟨(Lib.trimS s.data.toList [32, 9, 10, 12, 13]).toArray⟩) ∧ Below w.heap.size w w' :=
  Any.strings_Trim_laid Tryd.lays160 (by kernel_rfl) s ⟨#[32, 9, 10, 12, 13]⟩ w (by omega) (by decide) (ascii_of_all (by decide))
theorem idle_calls (s : ByteArray) (w : World) (hs : s.size ≤ 400) :
    Calls Tryd.prog 8 #[.string s] w fun e w' => e = .returned (.bool (idleB s.data.toList)) ∧ Below w.heap.size w w' := by
  have HC := Lib.hid (trim_calls s w hs)
  have hn := trim_nil s.data.toList
  cases hi : idleB s.data.toList
  · rw [hi] at hn
    obtain ⟨l, hl⟩ : ∃ l, l = Lib.trimS s.data.toList [32, 9, 10, 12, 13] := ⟨_, rfl⟩
    rw [← hl] at HC hn
    have he : (⟨l.toArray⟩ : ByteArray).toList = l := byteArray_toList l
    have hne : l.isEmpty = false := by cases l with | nil => simp at hn | cons x r => rfl
    obtain ⟨r, hr⟩ : ∃ r : ByteArray, r = ⟨l.toArray⟩ := ⟨_, rfl⟩
    rw [← hr] at HC he
    have hre : r.toList.isEmpty = false := by rw [he]; exact hne
    have hre2 : (!r.toList.isEmpty) = true := by rw [hre]; rfl
    clear hn hl he hne hr hi
    go_enter Tryd.func8, Tryd.ntmps8
    go_wp2_with (go_at_call 15; refine HC.out.mono ?_; rintro e w' ⟨rfl, hb⟩)
    go_ret
    exact ⟨rfl, hb⟩
  · rw [hn.2 hi] at HC
    clear hn hi
    go_enter Tryd.func8, Tryd.ntmps8
    go_wp2_with (go_at_call 15; refine HC.out.mono ?_; rintro e w' ⟨rfl, hb⟩)
    go_ret
    exact ⟨rfl, hb⟩
set_option maxRecDepth 100000 in
set_option maxHeartbeats 1000000 in
theorem ridle_calls (s : ByteArray) (w : World) (hs : s.size ≤ 400) :
    Calls Tryd.prog 9 #[.string s] w fun e w' => e = .returned (.bool (idleB s.data.toList)) ∧ Below w.heap.size w w' := by
  have hl : s.data.toList.length = s.size := by rw [Array.length_toList]; rfl
  have HL := Lib.hid hl
  obtain ⟨r, hr⟩ : ∃ r, r = idleB s.data.toList := ⟨_, rfl⟩
  rw [← hr]
  have HRS := Lib.hid hr
  clear hl hr
  go_enter Tryd.func9, Tryd.ntmps9
  go_wp2_with fail
  go_loopw [6] (fun i wr => ∃ k : Nat, k ≤ s.size ∧ i = .int .i64 k ∧ idleB (s.data.toList.take k) = true ∧ Below w.heap.size w wr) (fun i _ => s.size - (intOf i).toNat)
  case atStart => exact ⟨0, Nat.zero_le _, rfl, rfl, Below.refl _ _⟩
  case round =>
    obtain ⟨k, hk, rfl, hb, hbel⟩ := hrel
    have HB := Lib.hid hb
    clear hb
    by_cases hlt : k < s.size
    · have HX := Lib.hid (take_snoc s.data.toList 0 k (by rw [HL.out]; exact hlt))
      have hix := u8_index s k hlt
      have hsplit : s.data.toList = s.data.toList.take k ++ s.data.toList.getD k 0 :: s.data.toList.drop (k + 1) := by
        have h' : k < s.data.toList.length := by rw [HL.out]; exact hlt
        conv => lhs; rw [← List.take_append_drop k s.data.toList, List.drop_eq_getElem_cons h']
        rw [List.getD, List.getElem?_eq_getElem h']; rfl
      obtain ⟨c, hc⟩ : ∃ c, c = s.data.toList.getD k 0 := ⟨_, rfl⟩
      rw [← hc] at HX hix hsplit
      have HSP := Lib.hid hsplit
      have KK := Lib.hid (show k ≤ s.size ∧ k < s.size from ⟨hk, hlt⟩)
      clear hc hsplit
      cases hcb : isB c
      · have e : r = false := by rw [HRS.out, HSP.out]; simp [idleB, hcb]
        subst e
        have HC := Lib.hid (fun w => by have h := rblank_calls c w; rw [hcb] at h; exact h)
        clear hcb
        go_wp2_with (go_at_call 16; refine (HC.out _).mono ?_; rintro e w' ⟨rfl, hb⟩)
        go_ret
        exact ⟨rfl, below_then hbel hb⟩
      · have HC := Lib.hid (fun w => by have h := rblank_calls c w; rw [hcb] at h; exact h)
        have HN : Hid (idleB (s.data.toList.take (k + 1)) = true) := by
          show _ = _
          have h0 := HB.out
          unfold idleB at h0
          rw [HX.out]; simp [idleB, hcb] at h0 ⊢; exact h0
        clear hcb
        go_wp2_with (go_at_call 16; refine (HC.out _).mono ?_; rintro e w' ⟨rfl, hb⟩)
        go_roundw
        case rel => exact ⟨k + 1, by have := KK.out; omega, by go_num, HN.out, below_then hbel hb⟩
        case measure => have := KK.out; simp [intOf]; omega
    · have e : r = true := by
        have h0 := HB.out
        rw [List.take_of_length_le (by rw [HL.out]; omega)] at h0
        rw [HRS.out]; exact h0
      subst e
      go_wp2_with fail
      go_ret
      exact ⟨rfl, hbel⟩
set_option maxRecDepth 100000 in
set_option maxHeartbeats 1000000 in
theorem whiteTurns_walk (W : World) (s : ByteArray) (hs : s.size ≤ maxLen) (m : Int) (wm : (Lit.int .i64 m).wf = true) :
    Calls Tryd.prog 3 #[.string s, .int .i64 m] W fun e w' => e = .returned (.bool true) ∧ Below W.heap.size W w' := by
  unfold maxLen at hs
  have hbel := Below.refl W.heap.size W
  clear wm
  go_enter Tryd.func3, Tryd.ntmps3
  go_upto_region 2 with (fail)
  have ht : (s.extract 0 (min (s.size : Int) 400).toNat).size ≤ 400 := by rw [ByteArray.size_extract]; omega
  generalize s.extract 0 (min (s.size : Int) 400).toNat = t at ht ⊢
  have HA := Lib.hid (fun w => turn_calls t m w ht)
  have HB := Lib.hid (fun w => rturn_calls t m w ht)
  have HC := Lib.hid (fun w => idle_calls t w ht)
  have HD := Lib.hid (fun w => ridle_calls t w ht)
  generalize turnS m t = r at HA HB
  generalize idleB t.data.toList = b at HC HD
  go_wp2_with (first | (go_at_call 5; refine (whited_calls _).mono ?_; rintro e w1 ⟨rfl, hb⟩; have hbel := below_then hbel hb; clear hb) | (go_at_call 6; refine (HA.out _).mono ?_; rintro e w1 ⟨rfl, hb⟩; have hbel := below_then hbel hb; clear hb) | (go_at_call 7; refine (HB.out _).mono ?_; rintro e w1 ⟨rfl, hb⟩; have hbel := below_then hbel hb; clear hb) | (go_at_call 8; refine (HC.out _).mono ?_; rintro e w1 ⟨rfl, hb⟩; have hbel := below_then hbel hb; clear hb) | (go_at_call 9; refine (HD.out _).mono ?_; rintro e w1 ⟨rfl, hb⟩; have hbel := below_then hbel hb; clear hb))
  go_ret
  exact ⟨rfl, hbel⟩
end Go.Proofs.YtkppignoomnmdaaDoor
