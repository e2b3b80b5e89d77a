/- A slice of boxes that came in. -/
import Derived.Test.YtpamfhplklhnpaaDoorOpen
import Derived.Test.YtpamfhplklhnpaaDoorBoxes
namespace Go.Proofs.YtpamfhplklhnpaaDoor
open Go.ChangeShapes Go.WideShapes Go.Deep
set_option linter.unusedVariables false
section
variable {H : Type} {enc : TypeId × Value → H} {P : Program} {w : World} {base : Nat} {spare : Nat → Bool} {held : Bool}
theorem open_boxes {T e I K S : TypeId} {n : Nat} {a : Option Addr} {len cap : Nat} (hu : P.underlying T = some (.slice e)) (hf : flat P n e = some [I, I, I, K, S]) (hC : P.cellsOf e = 5) (hB : P.bytesOf e = 64)
    (hI : P.underlying I = some (.int .i64)) (hK : P.underlying K = some (.slice I)) (hS : P.underlying S = some .string) (hI1 : P.cellsOf I = 1) (hI8 : P.bytesOf I = 8) (h : Arg enc P w base spare held T (.slice a len cap)) :
    ∃ bs : List BoxV, bs.length = len ∧ Boxes w w.heap.size a bs ∧ len ≤ 17592186044404 := by
  rcases leaf_slice hu hf hC h.leaf with hn | ⟨ad, len', cap', hs, _, hl, hm, hsz, _, hc⟩
  · injection hn with h1 h2 h3
    subst h1; subst h2; subst h3
    exact ⟨[], rfl, fun i hi => absurd hi (by simp), by omega⟩
  · injection hs with h1 h2 h3
    subst h1; subst h2; subst h3
    haveI : Inhabited BoxV := ⟨BoxV.zero⟩
    have hx : ∀ i, i < len → ∃ x : BoxV, w.cell? (ad.add (i * 5 + 0)) = some (.int .i64 x.kind) ∧ w.cell? (ad.add (i * 5 + 1)) = some (.int .i64 x.node) ∧ w.cell? (ad.add (i * 5 + 2)) = some (.int .i64 x.parent) ∧
        w.cell? (ad.add (i * 5 + 3)) = some (.slice x.kidsA x.kids.length x.kcap) ∧ w.cell? (ad.add (i * 5 + 4)) = some (.string x.text) ∧ Holds w w.heap.size x.kidsA (x.kids.map (Value.int .i64)) ∧ x.kids.length ≤ 17592186044404 := fun i hi => by
      obtain ⟨v0, c0, l0⟩ := hc i hi 0 I rfl
      obtain ⟨v1, c1, l1⟩ := hc i hi 1 I rfl
      obtain ⟨v2, c2, l2⟩ := hc i hi 2 I rfl
      obtain ⟨v3, c3, l3⟩ := hc i hi 3 K rfl
      obtain ⟨v4, c4, l4⟩ := hc i hi 4 S rfl
      obtain ⟨z0, rfl, _⟩ := leaf_int hI l0
      obtain ⟨z1, rfl, _⟩ := leaf_int hI l1
      obtain ⟨z2, rfl, _⟩ := leaf_int hI l2
      obtain ⟨s, rfl, _, _⟩ := leaf_string hS l4
      have hfI : flat P 1 I = some [I] := by unfold flat; rw [hI]
      have hv3 : ∃ ka kl kc, v3 = .slice ka kl kc := by
        rcases leaf_slice hK hfI hI1 l3 with rfl | ⟨ka, kl, kc, rfl, _⟩
        · exact ⟨_, _, _, rfl⟩
        · exact ⟨_, _, _, rfl⟩
      obtain ⟨ka, kl, kc, rfl⟩ := hv3
      obtain ⟨zs, hz, hh, hr, _, _, _⟩ := leaf_ints hK hfI hI1 (by simp [allInts, hI]) (by simp) l3
      rw [hI8] at hr
      simp at hz
      subst hz
      exact ⟨⟨z0, z1, z2, ka, zs, kc, s⟩, c0, c1, c2, c3, c4, hh, by show zs.length ≤ _; omega⟩
    obtain ⟨f, hf'⟩ := choose_lt hx
    rw [hB] at hsz
    refine ⟨(List.range len).map f, by simp, fun i hi => ?_, by omega⟩
    have hi' : i < len := by simpa using hi
    obtain ⟨c0, c1, c2, c3, c4, hk, hkl⟩ := hf' i hi'
    obtain ⟨b, off, spot⟩ := ad
    have hspot : spot = none := by simpa [Addr.add] using World.cell?_spot (hf' 0 (by omega)).1
    subst hspot
    have hadd : ∀ j, (⟨b, off, none⟩ : Addr).add j = ⟨b, off + j, none⟩ := fun j => by unfold Addr.add; split <;> simp_all
    rw [hadd] at c0 c1 c2 c3 c4
    have e : bx ((List.range len).map f) i = f i := by simp [bx, List.getD, hi']
    rw [e]
    exact ⟨b, off, rfl, block_lt_of_cell c0, c0, by rw [Nat.add_assoc]; exact c1, by rw [Nat.add_assoc]; exact c2, by rw [Nat.add_assoc]; exact c3, by rw [Nat.add_assoc]; exact c4, hk, hkl⟩
end
end Go.Proofs.YtpamfhplklhnpaaDoor
