/- A slice of commands that came in. -/
import Derived.Test.YtkppignoomnmdaaOpen
import Derived.Test.YtkppignoomnmdaaRasterLaw
namespace Go.Proofs.Ytkppignoomnmdaa
open Go.ChangeShapes Go.WideShapes Go.Deep
set_option linter.unusedVariables false
section
variable {H : Type} {enc : TypeId × Value → H} {P : Program} {w : World} {base : Nat} {spare : Nat → Bool} {held : Bool}
theorem choose_below {α : Type} [Inhabited α] {n : Nat} {p : Nat → α → Prop} (h : ∀ i, i < n → ∃ x, p i x) : ∃ f : Nat → α, ∀ i, i < n → p i (f i) :=
  ⟨fun i => if hi : i < n then (h i hi).choose else default, fun i hi => by simp only [hi, dif_pos]; exact (h i hi).choose_spec⟩
theorem cmds_of (f : Nat → CmdV) : ∀ (n : Nat) (k : Nat), k < n * 9 → (cmds ((List.range n).map f))[k]? = (cmdF (f (k / 9)))[k % 9]?
  | 0, k, h => by omega
  | n + 1, k, h => by
    have hl : (cmds ((List.range n).map f)).length = n * 9 := by rw [cmds_len]; simp
    rw [List.range_succ, List.map_append, List.map_cons, List.map_nil, cmds_snoc]
    by_cases hk : k < n * 9
    · rw [List.getElem?_append_left (by omega)]
      exact cmds_of f n k hk
    · rw [List.getElem?_append_right (by omega), hl]
      have e1 : k / 9 = n := by omega
      have e2 : k % 9 = k - n * 9 := by omega
      rw [e1, e2]
theorem open_cmds {T e I S : TypeId} {n : Nat} {a : Option Addr} {len cap : Nat} (hu : P.underlying T = some (.slice e)) (hf : flat P n e = some [I, I, I, I, I, I, I, I, S]) (hC : P.cellsOf e = 9)
    (hI : P.underlying I = some (.int .i64)) (hS : P.underlying S = some .string) (h : Arg enc P w base spare held T (.slice a len cap)) :
    ∃ l : List CmdV, l.length = len ∧ Holds w w.heap.size a (cmds l) ∧ len ≤ cap ∧ cap ≤ maxLen := by
  rcases leaf_slice hu hf hC h.leaf with hn | ⟨ad, len', cap', hs, _, hl, hm, hsz, _, hc⟩
  · injection hn with h1 h2 h3
    subst h1; subst h2; subst h3
    exact ⟨[], rfl, Holds.nil, Nat.le_refl _, by unfold maxLen; omega⟩
  · injection hs with h1 h2 h3
    subst h1; subst h2; subst h3
    haveI : Inhabited CmdV := ⟨CmdV.zero⟩
    have hx : ∀ i, i < len → ∃ x : CmdV, ∀ j u, (cmdF x)[j]? = some u → w.cell? (ad.add (i * 9 + j)) = some u := fun i hi => by
      obtain ⟨v0, c0, l0⟩ := hc i hi 0 I rfl
      obtain ⟨v1, c1, l1⟩ := hc i hi 1 I rfl
      obtain ⟨v2, c2, l2⟩ := hc i hi 2 I rfl
      obtain ⟨v3, c3, l3⟩ := hc i hi 3 I rfl
      obtain ⟨v4, c4, l4⟩ := hc i hi 4 I rfl
      obtain ⟨v5, c5, l5⟩ := hc i hi 5 I rfl
      obtain ⟨v6, c6, l6⟩ := hc i hi 6 I rfl
      obtain ⟨v7, c7, l7⟩ := hc i hi 7 I rfl
      obtain ⟨v8, c8, l8⟩ := hc i hi 8 S rfl
      obtain ⟨z0, rfl, _⟩ := leaf_int hI l0
      obtain ⟨z1, rfl, _⟩ := leaf_int hI l1
      obtain ⟨z2, rfl, _⟩ := leaf_int hI l2
      obtain ⟨z3, rfl, _⟩ := leaf_int hI l3
      obtain ⟨z4, rfl, _⟩ := leaf_int hI l4
      obtain ⟨z5, rfl, _⟩ := leaf_int hI l5
      obtain ⟨z6, rfl, _⟩ := leaf_int hI l6
      obtain ⟨z7, rfl, _⟩ := leaf_int hI l7
      obtain ⟨s, rfl, _, _⟩ := leaf_string hS l8
      refine ⟨⟨z0, z1, z2, z3, z4, z5, z6, z7, s⟩, fun j u hu' => ?_⟩
      match j, hu' with
      | 0, hu' => cases hu'; exact c0
      | 1, hu' => cases hu'; exact c1
      | 2, hu' => cases hu'; exact c2
      | 3, hu' => cases hu'; exact c3
      | 4, hu' => cases hu'; exact c4
      | 5, hu' => cases hu'; exact c5
      | 6, hu' => cases hu'; exact c6
      | 7, hu' => cases hu'; exact c7
      | 8, hu' => cases hu'; exact c8
      | j + 9, hu' => rw [List.getElem?_eq_none (by simp [cmdF])] at hu'; cases hu'
    obtain ⟨f, hf'⟩ := choose_below hx
    refine ⟨(List.range len).map f, by simp, fun hn => ?_, hl, hm⟩
    obtain ⟨b, off, spot⟩ := ad
    have hlen : (cmds ((List.range len).map f)).length = len * 9 := by rw [cmds_len]; simp
    have h0 : w.cell? (Addr.add ⟨b, off, spot⟩ (0 * 9 + 0)) = some (.int .i64 (f 0).d) := hf' 0 (by omega) 0 _ rfl
    have hspot : spot = none := by simpa [Addr.add] using World.cell?_spot h0
    subst hspot
    have hadd : ∀ j, (⟨b, off, none⟩ : Addr).add j = ⟨b, off + j, none⟩ := fun j => by unfold Addr.add; split <;> simp_all
    rw [hadd] at h0
    refine ⟨b, off, rfl, block_lt_of_cell h0, fun k hk => ?_⟩
    rw [hlen] at hk
    have h1 := cmds_of f len k hk
    have hk9 : k % 9 < (cmdF (f (k / 9))).length := by show k % 9 < 9; omega
    have h2 := hf' (k / 9) (by omega) (k % 9) _ (List.getElem?_eq_getElem hk9)
    rw [hadd, show k / 9 * 9 + k % 9 = k from by omega] at h2
    rw [h2]
    rw [List.getD, h1, List.getElem?_eq_getElem hk9]
    rfl
end
end Go.Proofs.Ytkppignoomnmdaa
