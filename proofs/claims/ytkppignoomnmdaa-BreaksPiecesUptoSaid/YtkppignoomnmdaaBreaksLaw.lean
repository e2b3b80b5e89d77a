/- The walks of BreaksAll and BreaksPieces. -/
import Derived.Test.YtkppignoomnmdaaRPieces
namespace Go.Proofs.Ytkppignoomnmdaa
open Go.RowKit
set_option linter.unusedVariables false
set_option linter.unusedSimpArgs false

set_option maxRecDepth 100000 in
set_option maxHeartbeats 1000000 in
theorem breaksAll_walk (W : World) (s : ByteArray) (hs : s.size ≤ maxLen) (hr : s.size ≤ 1048576) (m : Int) (wm : (Lit.int .i64 m).wf = true) :
    Calls Try.prog 4 #[.string s, .int .i64 m] W fun e w' => e = .returned (.bool true) ∧ Below W.heap.size W w' := by
  have HG := Lib.hid (fun w => all_calls s m w hr)
  have HR := Lib.hid (fun w => rbreaks_calls s m w hr)
  have hbl := brks_len m s
  obtain ⟨T, hT⟩ : ∃ T, T = brks m s := ⟨_, rfl⟩
  rw [← hT] at HG HR hbl
  have hbel := Below.refl W.heap.size W
  clear hT hs wm
  go_enter Try.func4, Try.ntmps4
  go_wp2_with (first | (go_at_call 16; refine (broken_calls _).mono ?_; rintro e w1 ⟨rfl, hb⟩; have hbel := below_then hbel hb; clear hb) | (go_at_call 18; refine (HG.out _).mono ?_; rintro e w2 ⟨v, rfl, hown, hb⟩; have hbel := below_then hbel hb; obtain ⟨A1, c1, rfl⟩ := own_any3 hown; have H1 := Lib.hid (Holds.of_own hown); clear hown hb) | (go_at_call 19; refine (HR.out _).mono ?_; rintro e w3 ⟨v, rfl, hown, hb⟩; have hbel := below_then hbel hb; obtain ⟨A2, c2, rfl⟩ := own_any3 hown; have H2 := Lib.hid (Holds.of_own hown); have H3 := Lib.hid (H1.out.below hb (Nat.le_refl _)); have hw3 := hb.size; clear hown hb) | (go_at_call 17; refine (eqBrk_calls _ _ _ _ _ _ _ T _ rfl H3.out H2.out (by omega) hw3 (Nat.le_refl _)).mono ?_; rintro e w4 ⟨rfl, hb⟩; have hbel := below_then hbel hb; clear hb))
  go_ret
  exact ⟨rfl, hbel⟩
set_option maxRecDepth 100000 in
set_option maxHeartbeats 1000000 in
theorem breaksPieces_walk (W : World) (s : ByteArray) (hs : s.size ≤ maxLen) (hr : s.size ≤ 1048576) (m : Int) (wm : (Lit.int .i64 m).wf = true) :
    Calls Try.prog 5 #[.string s, .int .i64 m] W fun e w' => e = .returned (.bool true) ∧ Below W.heap.size W w' := by
  have HG := Lib.hid (fun w => pieces_calls s m w hr)
  have HR := Lib.hid (fun w => rpieces_calls s m w hr)
  have hbl := pieces_len m s
  obtain ⟨n, hn⟩ : ∃ n, n = (pieces m s).length := ⟨_, rfl⟩
  obtain ⟨T, hT⟩ : ∃ T : List ByteArray, T = (pieces m s).map fun p => s.extract p.1 p.2 := ⟨_, rfl⟩
  have hTn : T.length = n := by rw [hT, hn]; simp
  have hTp : pstr s (pieces m s) = T.map Value.string := by rw [hT]; simp [pstr]
  rw [hTp, ← hn] at HG HR
  rw [← hn] at hbl
  have HTN := Lib.hid hTn
  have hbel := Below.refl W.heap.size W
  clear hT hs wm hn hTn hTp
  go_enter Try.func5, Try.ntmps5
  go_wp2_with (first | (go_at_call 16; refine (broken_calls _).mono ?_; rintro e w1 ⟨rfl, hb⟩; have hbel := below_then hbel hb; clear hb) | (go_at_call 21; refine (HG.out _).mono ?_; rintro e w2 ⟨v, rfl, hown, hb⟩; have hbel := below_then hbel hb; obtain ⟨A1, c1, rfl⟩ := own_any3 hown; have H1 := Lib.hid (Holds.of_own hown); clear hown hb) | (go_at_call 22; refine (HR.out _).mono ?_; rintro e w3 ⟨v, rfl, hown, hb⟩; have hbel := below_then hbel hb; obtain ⟨A2, c2, rfl⟩ := own_any3 hown; have H2 := Lib.hid (Holds.of_own hown); have H3 := Lib.hid (H1.out.below hb (Nat.le_refl _)); clear hown hb) | (go_at_call 20; refine (eqStr_calls _ _ _ _ _ _ _ T _ HTN.out H3.out H2.out (by omega)).mono ?_; rintro e w' ⟨rfl, rfl⟩))
  go_ret
  exact ⟨rfl, hbel⟩
end Go.Proofs.Ytkppignoomnmdaa
