/- Contract of the reference's Eq at strings; the closed fact broken. -/
import Derived.Test.YtkppignoomnmdaaPieces
namespace Go.Proofs.Ytkppignoomnmdaa
open Go.RowKit
set_option linter.unusedVariables false
set_option linter.unusedSimpArgs false

theorem Holds.at3 {w : World} {B : Nat} {A : Option Addr} {xs : List Value} (h : Holds w B A xs) {k : Nat} (d : Value) (hk : k < xs.length) :
    ∃ b off, A = some ⟨b, off, none⟩ ∧ b < B ∧ w.cell? ⟨b, off + k, none⟩ = some (xs.getD k d) := by
  obtain ⟨b, off, e, hb, hc⟩ := h (by omega)
  refine ⟨b, off, e, hb, ?_⟩
  rw [hc k hk]
  simp [List.getD, hk]
set_option maxRecDepth 100000 in
set_option maxHeartbeats 1000000 in
theorem eqStr_calls (A A' : Option Addr) (n c c' B B' : Nat) (l : List ByteArray) (w : World) (hn : l.length = n) (h : Holds w B A (l.map Value.string)) (h' : Holds w B' A' (l.map Value.string)) (hm : n ≤ 9223372036854775807) :
    Calls Try.prog 20 #[.slice A n c, .slice A' n c'] w fun e w' => e = .returned (.bool true) ∧ w = w' := by
  have H := Lib.hid h
  have H' := Lib.hid h'
  have HN := Lib.hid hn
  clear h h' hn
  go_enter Try.func20, Try.ntmps20
  go_wp2_with fail
  go_loop [14] (fun i => ∃ k : Nat, k ≤ n ∧ i = .int .i64 k) (fun i => n - (intOf i).toNat)
  case atStart => exact ⟨0, Nat.zero_le _, rfl⟩
  case round =>
    obtain ⟨k, hk, rfl⟩ := hrel
    by_cases hlt : k < n
    · obtain ⟨b, off, rfl, hb, c0⟩ := H.out.at3 (.string ⟨#[]⟩) (k := k) (by simp [HN.out, hlt])
      obtain ⟨b', off', rfl, hb', d0⟩ := H'.out.at3 (.string ⟨#[]⟩) (k := k) (by simp [HN.out, hlt])
      have hx : (l.map Value.string).getD k (.string ⟨#[]⟩) = .string (l.getD k ⟨#[]⟩) := by simp [List.getD, List.getElem?_map]
      rw [hx] at c0 d0
      obtain ⟨x, hx⟩ : ∃ x, x = l.getD k ⟨#[]⟩ := ⟨_, rfl⟩
      rw [← hx] at c0 d0
      have KK := Lib.hid (show k ≤ n ∧ k < n from ⟨hk, hlt⟩)
      clear hx
      go_wp2_with fail
      go_round
      case rel => exact ⟨k + 1, by have := KK.out; omega, by go_num⟩
      case measure => have := KK.out; simp [intOf]; omega
    · go_wp2_with fail
      go_ret
      exact ⟨rfl, rfl⟩
theorem broken_pieces : pstr ⟨#[97, 32, 98]⟩ (pieces 0 ⟨#[97, 32, 98]⟩) = [.string ⟨#[97, 32]⟩, .string ⟨#[98]⟩] ∧ (pieces 0 ⟨#[97, 32, 98]⟩).length = 2 := by
  have d0 : Utf8.decode ⟨#[97, 32, 98]⟩ 0 = (97, 1) := by decide
  have d1 : Utf8.decode ⟨#[97, 32, 98]⟩ 1 = (32, 1) := by decide
  have d2 : Utf8.decode ⟨#[97, 32, 98]⟩ 2 = (98, 1) := by decide
  have hs : signs ⟨#[97, 32, 98]⟩ 0 = [(0, 97), (1, 32), (2, 98)] := by
    rw [signs_at _ 0 (by decide), d0, signs_at _ (0 + 1) (by decide), d1, signs_at _ (0 + 1 + 1) (by decide), d2, signs_end _ _ (by decide)]
    rfl
  have hp : pieces 0 ⟨#[97, 32, 98]⟩ = [(0, 2), (2, 3)] := by
    unfold pieces brks; rw [hs]; decide
  rw [hp]
  exact ⟨by simp [pstr]; decide, rfl⟩
set_option maxRecDepth 100000 in
set_option maxHeartbeats 1000000 in
theorem broken_calls (w : World) :
    Calls Try.prog 16 #[] w fun e w' => e = .returned (.bool true) ∧ Below w.heap.size w w' := by
  have hc := pieces_calls ⟨#[97, 32, 98]⟩ 0 w (by decide)
  rw [broken_pieces.1, broken_pieces.2] at hc
  have HC := Lib.hid hc
  clear hc
  go_enter Try.func16, Try.ntmps16
  go_wp2_with (first | (go_at_call 21; refine HC.out.mono ?_; rintro e w1 ⟨v, rfl, hown, hb⟩; obtain ⟨A, c, rfl⟩ := own_any3 hown) | (go_at_call 20; refine (eqStr_calls _ _ _ _ _ _ _ [⟨#[97, 32]⟩, ⟨#[98]⟩] _ rfl ((Holds.of_own hown).below ((Below.refl w1.heap.size w1).alloc (Nat.le_refl _) _) (Nat.le_refl _)) (Holds.new w1 #[.string ⟨#[97, 32]⟩, .string ⟨#[98]⟩] _) (by decide)).mono ?_; rintro e w' ⟨rfl, rfl⟩))
  go_ret
  exact ⟨rfl, below_alloc hb _⟩
end Go.Proofs.Ytkppignoomnmdaa
