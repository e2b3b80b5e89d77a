/- A slice of rows of cells that came in. -/
import Derived.Test.YtkppignoomnmdaaOpen
import Derived.Test.YtkppignoomnmdaaCellPlain
namespace Go.Proofs.Ytkppignoomnmdaa
open Go.ChangeShapes Go.WideShapes Go.Deep
set_option linter.unusedVariables false
theorem chunk3 : ∀ (k : Nat) (zs : List Int), zs.length = k * 3 → ∃ l : List LCellV, l.length = k ∧ l.flatMap lcellF = zs.map (Value.int .i64)
  | 0, zs, h => ⟨[], rfl, by rw [List.length_eq_zero_iff.1 (by omega : zs.length = 0)]; rfl⟩
  | k + 1, [], h => by simp at h
  | k + 1, [a], h => by simp at h; omega
  | k + 1, [a, b], h => by simp at h; omega
  | k + 1, a :: b :: c :: zs, h => by
    obtain ⟨l, hl, he⟩ := chunk3 k zs (by simp at h; omega)
    exact ⟨⟨a, b, c⟩ :: l, by simp [hl], by rw [List.flatMap_cons, he]; rfl⟩
section
variable {H : Type} {enc : TypeId × Value → H} {P : Program} {w : World} {base : Nat} {spare : Nat → Bool} {held : Bool}
theorem open_tab {T K C I : TypeId} {n : Nat} {a : Option Addr} {len cap : Nat} (hu : P.underlying T = some (.slice K)) (hf : flat P n K = some [K]) (hC : P.cellsOf K = 1) (hK : P.underlying K = some (.slice C)) (hfC : flat P n C = some [I, I, I]) (hCC : P.cellsOf C = 3) (hC24 : P.bytesOf C = 24)
    (hI : P.underlying I = some (.int .i64)) (h : Arg enc P w base spare held T (.slice a len cap)) :
    ∃ rs : List RowV, rs.length = len ∧ RowsAt w w.heap.size a rs ∧ len ≤ cap ∧ cap ≤ maxLen := by
  rcases leaf_slice hu hf hC h.leaf with hn | ⟨ad, len', cap', hs, _, hl, hm, hsz, _, hc⟩
  · injection hn with h1 h2 h3
    subst h1; subst h2; subst h3
    exact ⟨[], rfl, fun i hi => absurd hi (by simp), Nat.le_refl _, by unfold maxLen; omega⟩
  · injection hs with h1 h2 h3
    subst h1; subst h2; subst h3
    haveI : Inhabited RowV := ⟨RowV.zero⟩
    have hx : ∀ i, i < len → ∃ x : RowV, w.cell? (ad.add (i * 1 + 0)) = some (.slice x.adr x.cells.length x.cap) ∧ Holds w w.heap.size x.adr (x.cells.flatMap lcellF) ∧ x.cells.length ≤ 17592186044404 := fun i hi => by
      obtain ⟨v3, c3, l3⟩ := hc i hi 0 K rfl
      have hv3 : ∃ ka kl kc, v3 = .slice ka kl kc := by
        rcases leaf_slice hK hfC hCC l3 with rfl | ⟨ka, kl, kc, rfl, _⟩
        · exact ⟨_, _, _, rfl⟩
        · exact ⟨_, _, _, rfl⟩
      obtain ⟨ka, kl, kc, rfl⟩ := hv3
      obtain ⟨zs, hz, hh, hr, _, _, _⟩ := leaf_ints hK hfC hCC (by simp [allInts, hI]) (by simp) l3
      rw [hC24] at hr
      obtain ⟨l, hl2, he⟩ := chunk3 kl zs (by simpa using hz)
      subst hl2
      exact ⟨⟨ka, kc, l⟩, c3, by rw [he]; exact hh, by show l.length ≤ _; omega⟩
    obtain ⟨f, hf'⟩ := choose_lt hx
    refine ⟨(List.range len).map f, by simp, fun i hi => ?_, hl, hm⟩
    have hi' : i < len := by simpa using hi
    obtain ⟨c0, hk, hkl⟩ := hf' i hi'
    obtain ⟨b, off, spot⟩ := ad
    have hspot : spot = none := by simpa [Addr.add] using World.cell?_spot (hf' 0 (by omega)).1
    subst hspot
    have hadd : ∀ j, (⟨b, off, none⟩ : Addr).add j = ⟨b, off + j, none⟩ := fun j => by unfold Addr.add; split <;> simp_all
    rw [hadd, Nat.mul_one, Nat.add_zero] at c0
    have e : rowOf ((List.range len).map f) i = f i := by simp [rowOf, List.getD, hi']
    rw [e]
    exact ⟨b, off, rfl, block_lt_of_cell c0, c0, hk, hkl⟩
end
end Go.Proofs.Ytkppignoomnmdaa
