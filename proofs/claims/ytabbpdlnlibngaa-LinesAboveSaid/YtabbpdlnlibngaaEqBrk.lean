/- Contract of the reference's Eq at breaks. -/
import Derived.Test.YtabbpdlnlibngaaBreaks
import Derived.Deep.QuietTactic
import Derived.BigQuiet
import Derived.Laws.StructEq
namespace Go.Proofs.Ytabbpdlnlibngaa
open Go.RowKit
set_option linter.unusedVariables false
set_option linter.unusedSimpArgs false

theorem flat_len {α : Type} (f : α → List Value) (L : Nat) (hL : ∀ x, (f x).length = L) : ∀ l : List α, (l.flatMap f).length = l.length * L
  | [] => by simp
  | x :: l => by rw [List.flatMap_cons, List.length_append, hL, flat_len f L hL l, List.length_cons, Nat.add_mul, Nat.one_mul, Nat.add_comm]
theorem flat_at {α : Type} (f : α → List Value) (L : Nat) (hL : ∀ x, (f x).length = L) : ∀ (l : List α) (k j : Nat) (d : α), k < l.length → j < L → (l.flatMap f)[k * L + j]? = (f (l.getD k d))[j]?
  | [], k, j, d, h, _ => by simp at h
  | x :: l, 0, j, d, h, hj => by
    rw [List.flatMap_cons, Nat.zero_mul, Nat.zero_add, List.getElem?_append_left (by rw [hL]; exact hj)]
    simp
  | x :: l, k + 1, j, d, h, hj => by
    rw [List.flatMap_cons, List.getElem?_append_right (by rw [hL, Nat.add_mul]; omega), hL]
    rw [show (k + 1) * L + j - L = k * L + j from by rw [Nat.add_mul]; omega]
    rw [flat_at f L hL l k j d (by simpa using h) hj]
    simp
/-- What a slice of structs holds at its k-th element. -/
theorem Holds.flat {α : Type} {w : World} {B : Nat} {A : Option Addr} {f : α → List Value} {l : List α} (h : Holds w B A (l.flatMap f)) (L : Nat) (hL : ∀ x, (f x).length = L) (h0 : 0 < L) {k : Nat} (d : α) (hk : k < l.length) :
    ∃ b off, A = some ⟨b, off, none⟩ ∧ b < B ∧ ∀ j v, (f (l.getD k d))[j]? = some v → w.cell? ⟨b, off + k * L + j, none⟩ = some v := by
  have hlen := flat_len f L hL l
  have hm : k * L + L ≤ l.length * L := by
    have : (k + 1) * L ≤ l.length * L := Nat.mul_le_mul_right _ hk
    rw [Nat.add_mul, Nat.one_mul] at this; exact this
  obtain ⟨b, off, e, hb, hc⟩ := h (by omega)
  refine ⟨b, off, e, hb, fun j v hv => ?_⟩
  have hj : j < L := by
    rcases Nat.lt_or_ge j L with h1 | h1
    · exact h1
    · rw [List.getElem?_eq_none (by rw [hL]; exact h1)] at hv; cases hv
  have := hc (k * L + j) (by omega)
  rw [Nat.add_assoc, this, List.getD, flat_at f L hL l k j d hk hj, hv]
  rfl
def brkF (b : Nat × Bool) : List Value := [.int .i64 (b.1 : Nat), .bool b.2]
end Go.Proofs.Ytabbpdlnlibngaa
