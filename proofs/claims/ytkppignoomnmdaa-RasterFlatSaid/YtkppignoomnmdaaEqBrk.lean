/- Contract of the reference's Eq at breaks. -/
import Derived.Test.YtkppignoomnmdaaBreaks
import Derived.Deep.QuietTactic
import Derived.BigQuiet
import Derived.Laws.StructEq
namespace Go.Proofs.Ytkppignoomnmdaa
open Go.RowKit
set_option linter.unusedVariables false
set_option linter.unusedSimpArgs false

theorem flat_len {α : Type} (f : α → List Value) (L : Nat) (hL : ∀ x, (f x).length = L) : ∀ l : List α, (l.flatMap f).length = l.length * L
  | [] => by simp
  | x :: l => by rw [List.flatMap_cons, List.length_append, hL, flat_len f L hL l, List.length_cons, Nat.add_mul, Nat.one_mul, Nat.add_comm]
theorem flat_at {α : Type} (f : α → List Value) (L : Nat) (hL : ∀ x, (f x).length = L) : ∀ (l : List α) (k j : Nat) (d : α), k < l.length → j < L → (l.flatMap f)[k * L + j]? = (f (l.getD k d))[j]?
  | [], k, j, d, h, _ => by simp at h
  | x :: l, 0, j, d, h, hj => by
    rw [List.flatMap_cons, Nat.zero_mul, Nat.zero_add, List.getElem?_append_left (by rw [hL]; exact hj)]
    simp
  | x :: l, k + 1, j, d, h, hj => by
    rw [List.flatMap_cons, List.getElem?_append_right (by rw [hL, Nat.add_mul]; omega), hL]
    rw [show (k + 1) * L + j - L = k * L + j from by rw [Nat.add_mul]; omega]
    rw [flat_at f L hL l k j d (by simpa using h) hj]
    simp
/-- What a slice of structs holds at its k-th element. -/
theorem Holds.flat {α : Type} {w : World} {B : Nat} {A : Option Addr} {f : α → List Value} {l : List α} (h : Holds w B A (l.flatMap f)) (L : Nat) (hL : ∀ x, (f x).length = L) (h0 : 0 < L) {k : Nat} (d : α) (hk : k < l.length) :
    ∃ b off, A = some ⟨b, off, none⟩ ∧ b < B ∧ ∀ j v, (f (l.getD k d))[j]? = some v → w.cell? ⟨b, off + k * L + j, none⟩ = some v := by
  have hlen := flat_len f L hL l
  have hm : k * L + L ≤ l.length * L := by
    have : (k + 1) * L ≤ l.length * L := Nat.mul_le_mul_right _ hk
    rw [Nat.add_mul, Nat.one_mul] at this; exact this
  obtain ⟨b, off, e, hb, hc⟩ := h (by omega)
  refine ⟨b, off, e, hb, fun j v hv => ?_⟩
  have hj : j < L := by
    rcases Nat.lt_or_ge j L with h1 | h1
    · exact h1
    · rw [List.getElem?_eq_none (by rw [hL]; exact h1)] at hv; cases hv
  have := hc (k * L + j) (by omega)
  rw [Nat.add_assoc, this, List.getD, flat_at f L hL l k j d hk hj, hv]
  rfl
def brkF (b : Nat × Bool) : List Value := [.int .i64 (b.1 : Nat), .bool b.2]
set_option maxRecDepth 100000 in
set_option maxHeartbeats 1000000 in
theorem eqBrk_calls (A A' : Option Addr) (n c c' B B' : Nat) (l : List (Nat × Bool)) (w : World) (hn : l.length = n) (h : Holds w B A (bcells l)) (h' : Holds w B' A' (bcells l)) (hm : n ≤ 9223372036854775807) (hB : B ≤ w.heap.size) (hB' : B' ≤ w.heap.size) :
    Calls Try.prog 17 #[.slice A n c, .slice A' n c'] w fun e w' => e = .returned (.bool true) ∧ Below w.heap.size w w' := by
  have H := Lib.hid h
  have H' := Lib.hid h'
  have HN := Lib.hid hn
  clear h h' hn
  go_enter Try.func17, Try.ntmps17
  go_wp2_with fail
  go_loopw [14] (fun i wr => ∃ k : Nat, k ≤ n ∧ i = .int .i64 k ∧ Below w.heap.size w wr) (fun i _ => n - (intOf i).toNat)
  case atStart => exact ⟨0, Nat.zero_le _, rfl, Below.refl _ _⟩
  case round =>
    obtain ⟨k, hk, rfl, hbel⟩ := hrel
    by_cases hlt : k < n
    · obtain ⟨b, off, rfl, hb, hc⟩ := (H.out.below hbel hB).flat (f := brkF) 2 (fun _ => rfl) (by omega) (0, false) (by rw [HN.out]; exact hlt)
      obtain ⟨b', off', rfl, hb', hc'⟩ := (H'.out.below hbel hB').flat (f := brkF) 2 (fun _ => rfl) (by omega) (0, false) (by rw [HN.out]; exact hlt)
      obtain ⟨⟨x, y⟩, hx⟩ : ∃ x, x = l.getD k (0, false) := ⟨_, rfl⟩
      rw [← hx] at hc hc'
      have c0 := hc 0 _ rfl
      have c1 := hc 1 _ rfl
      have d0 := hc' 0 _ rfl
      have d1 := hc' 1 _ rfl
      have hw := hbel.size
      clear hc hc' hx
      simp only [Nat.add_zero] at c0 d0
      have KK := Lib.hid (show k ≤ n ∧ k < n from ⟨hk, hlt⟩)
      go_wp2_with fail
      have hb1 := (Below.refl wr.heap.size wr).alloc (Nat.le_refl _) (.cells #[.int .i64 (x : Nat), .bool y] 28)
      have e0 := (hb1.cell (p := ⟨b', off' + k * 2, none⟩) (by show b' < _; omega)).trans d0
      have e1 := (hb1.cell (p := ⟨b', off' + k * 2 + 1, none⟩) (by show b' < _; omega)).trans d1
      have f0 : (wr.alloc (.cells #[.int .i64 (x : Nat), .bool y] 28)).cell? ⟨wr.heap.size, 0, none⟩ = some (.int .i64 (x : Nat)) := new_cell wr _ _ 0
      have f1 : (wr.alloc (.cells #[.int .i64 (x : Nat), .bool y] 28)).cell? ⟨wr.heap.size, 1, none⟩ = some (.bool y) := new_cell wr _ _ 1
      have hbel := below_alloc hbel (.cells #[.int .i64 (x : Nat), .bool y] 28)
      clear hb1 c0 c1 d0 d1
      generalize hW2 : World.alloc wr _ = w2 at e0 e1 f0 f1 hbel ⊢
      go_quiet (fail)
      go_wp2_with fail
      go_roundw
      case rel => exact ⟨k + 1, by have := KK.out; omega, by go_num, below_drewN hbel _⟩
      case measure => have := KK.out; simp [intOf]; omega
    · go_wp2_with fail
      go_ret
      exact ⟨rfl, hbel⟩
end Go.Proofs.Ytkppignoomnmdaa
