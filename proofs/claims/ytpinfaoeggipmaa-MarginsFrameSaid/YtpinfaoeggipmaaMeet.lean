/- Contracts of margins.Meet and of the reference's Meet; the walk of MarginsMeet. -/
import Derived.Test.YtpinfaoeggipmaaFix
import Derived.Test.YtpinfaoeggipmaaPlainB
import Derived.Test.YtpinfaoeggipmaaMem
import Derived.Outline
namespace Go.Proofs.Ytpinfaoeggipmaa
open Go.RowKit
set_option linter.unusedVariables false
attribute [local go_sem high] run_min2 run_max2

theorem meetHi_at (zs : List Int) (k : Nat) (h : k < zs.length) : meetHi (zs.take (k + 1)) = max (meetHi (zs.take k)) (cut (zs.getD k 0)) := by
  rw [take_snoc zs 0 k h, meetHi_snoc]
theorem meetLo_at (zs : List Int) (k : Nat) (h : k < zs.length) : meetLo (zs.take (k + 1)) = min (meetLo (zs.take k)) (cut (zs.getD k 0)) := by
  rw [take_snoc zs 0 k h, meetLo_snoc]

set_option maxHeartbeats 400000 in
theorem meet_calls (A : Option Addr) (n c B : Nat) (zs : List Int) (w : World) (hn : zs.length = n) (h : Holds w B A (zs.map (Value.int .i64))) (hm : n ≤ 9223372036854775807) :
    Calls Try.prog 16 #[.slice A n c] w fun e w' => e = .returned (.int .i64 (meet zs)) ∧ w = w' := by
  subst hn
  go_enter Try.func16, Try.ntmps16
  go_wp2
  go_loop [3, 4, 9] (fun m l i => ∃ k : Nat, k ≤ zs.length ∧ i = .int .i64 k ∧ m = .int .i64 (meetHi (zs.take k)) ∧ l = .int .i64 (meetLo (zs.take k))) (fun _ _ i => zs.length - (intOf i).toNat)
  case atStart => exact ⟨0, Nat.zero_le _, rfl, rfl, rfl⟩
  case round =>
    obtain ⟨k, hk, rfl, rfl, rfl⟩ := hrel
    have h1 := meetHi_bd (zs.take k)
    have h2 := meetLo_bd (zs.take k)
    by_cases hlt : k < zs.length
    · obtain ⟨b, off, rfl, hb, hc⟩ := h.ints hlt
      have H1 := Lib.hid (meetHi_at zs k hlt)
      have H2 := Lib.hid (meetLo_at zs k hlt)
      obtain ⟨z, hz⟩ : ∃ z, z = zs.getD k 0 := ⟨_, rfl⟩
      rw [← hz] at H1 H2 hc
      clear hz h
      go_wp2_with (go_at_call 19; refine (cut_calls _ _).mono ?_; rintro e w' ⟨rfl, rfl⟩)
      go_round
      case rel => exact ⟨k + 1, by omega, by go_num, by rw [H1.out], by rw [H2.out]⟩
      case measure => simp [intOf]; omega
    · have e : k = zs.length := by omega
      subst e
      simp only [List.take_length] at h1 h2 ⊢
      clear h
      go_wp2_with (go_at_call 19; refine (cut_calls _ _).mono ?_; rintro e w' ⟨rfl, rfl⟩)
      go_ret
      exact ⟨rfl, rfl⟩
set_option maxHeartbeats 400000 in
theorem rmeet_calls (A : Option Addr) (n c B : Nat) (zs : List Int) (w : World) (hn : zs.length = n) (h : Holds w B A (zs.map (Value.int .i64))) (hm : n ≤ 9223372036854775807) :
    Calls Try.prog 17 #[.slice A n c] w fun e w' => e = .returned (.int .i64 (meet zs)) ∧ w = w' := by
  subst hn
  go_enter Try.func17, Try.ntmps17
  go_wp2
  go_loop [3, 4, 9] (fun m l i => ∃ k : Nat, k ≤ zs.length ∧ i = .int .i64 k ∧ m = .int .i64 (meetHi (zs.take k)) ∧ l = .int .i64 (meetLo (zs.take k))) (fun _ _ i => zs.length - (intOf i).toNat)
  case atStart => exact ⟨0, Nat.zero_le _, rfl, rfl, rfl⟩
  case round =>
    obtain ⟨k, hk, rfl, rfl, rfl⟩ := hrel
    have h1 := meetHi_bd (zs.take k)
    have h2 := meetLo_bd (zs.take k)
    by_cases hlt : k < zs.length
    · obtain ⟨b, off, rfl, hb, hc⟩ := h.ints hlt
      have H1 := Lib.hid (meetHi_at zs k hlt)
      have H2 := Lib.hid (meetLo_at zs k hlt)
      obtain ⟨z, hz⟩ : ∃ z, z = zs.getD k 0 := ⟨_, rfl⟩
      rw [← hz] at H1 H2 hc
      clear hz h
      go_wp2_with (go_at_call 20; refine (rcut_calls _ _).mono ?_; rintro e w' ⟨rfl, rfl⟩)
      all_goals
        go_round
        case rel => exact ⟨k + 1, by omega, by go_num, by rw [H1.out]; go_num, by rw [H2.out]; go_num⟩
        case measure => simp [intOf]; omega
    · have e : k = zs.length := by omega
      subst e
      simp only [List.take_length] at h1 h2 ⊢
      clear h
      go_wp2_with (go_at_call 20; refine (rcut_calls _ _).mono ?_; rintro e w' ⟨rfl, rfl⟩)
      go_ret
      exact ⟨rfl, rfl⟩
set_option maxHeartbeats 400000 in
theorem met_calls (w : World) :
    Calls Try.prog 15 #[] w fun e w' => e = .returned (.bool true) ∧ Below w.heap.size w w' := by
  have hc := meet_calls (some ⟨w.heap.size, 0, none⟩) 4 4 (w.heap.size + 1) [5, -2, 9, -7] (w.alloc (.cells #[.int .i64 5, .int .i64 (-2), .int .i64 9, .int .i64 (-7)] 3)) rfl (Holds.new w _ _) (by omega)
  have e : meet [5, -2, 9, -7] = 2 := by decide
  rw [e] at hc
  have HC := Lib.hid hc
  clear hc e
  go_enter Try.func15, Try.ntmps15
  go_wp2_with (go_at_call 16; refine HC.out.mono ?_; rintro e w' ⟨rfl, rfl⟩)
  go_ret
  exact ⟨rfl, (Below.refl _ _).alloc (Nat.le_refl _) _⟩
set_option maxHeartbeats 400000 in
theorem marginsMeet_calls (A : Option Addr) (n c B : Nat) (zs : List Int) (w : World) (hn : zs.length = n) (h : Holds w B A (zs.map (Value.int .i64))) (hm : n ≤ 9223372036854775807) (hB : B ≤ w.heap.size) :
    Calls Try.prog 3 #[.slice A n c] w fun e w' => e = .returned (.bool true) ∧ Below w.heap.size w w' := by
  have H := Lib.hid h
  have HN := Lib.hid hn
  clear h hn
  go_enter Try.func3, Try.ntmps3
  go_wp2_with (first | (go_at_call 15; refine (met_calls _).mono ?_; rintro e w1 ⟨rfl, hb⟩; have H1 := Lib.hid (H.out.below hb hB)) | (go_at_call 16; refine (meet_calls _ _ _ _ zs _ HN.out H1.out hm).mono ?_; rintro e w' ⟨rfl, rfl⟩) | (go_at_call 17; refine (rmeet_calls _ _ _ _ zs _ HN.out H1.out hm).mono ?_; rintro e w' ⟨rfl, rfl⟩))
  go_ret
  exact ⟨rfl, by assumption⟩
theorem marginsMeet_walk (W : World) (a : Option Addr) (len cap : Nat) (zs : List Int) (hz : zs.length = len * 1) (hh : Holds W W.heap.size a (zs.map (Value.int .i64))) (hr : len * Try.prog.bytesOf 3 ≤ 140737488351232) (hc : len ≤ cap) (hm : cap ≤ maxLen) (hw : ∀ z ∈ zs, (Lit.int .i64 z).wf = true) :
    Calls Try.prog 3 #[.slice a len cap] W fun e w' => e = .returned (.bool true) ∧ Below W.heap.size W w' :=
  marginsMeet_calls a len cap W.heap.size zs W (by omega) hh (by unfold maxLen at hm; omega) (Nat.le_refl _)
end Go.Proofs.Ytpinfaoeggipmaa
