/- A fragment that came in, by value. -/
import Derived.Test.YtkppignoomnmdaaOpen
import Derived.Test.YtkppignoomnmdaaPaintLaw
namespace Go.Proofs.Ytkppignoomnmdaa
open Go.RowKit
set_option linter.unusedVariables false
theorem value_frag {H : Type} {enc : TypeId × Value → H} {P : Program} {w : World} {base : Nat} {spare : Nat → Bool} {held : Bool} {T I S : TypeId} {n : Nat} {v : Value}
    (hf : flat P n T = some [I, I, I, I, I, I, I, S]) (hI : P.underlying I = some (.int .i64)) (hS : P.underlying S = some .string) (hv : ∃ cs, v = .agg cs) (h : Arg enc P w base spare held T v) : ∃ f : FragV, v = .agg (fragC f) := by
  obtain ⟨cs, rfl⟩ := hv
  obtain ⟨m, y, h, hfine⟩ := h
  obtain ⟨hl, hleaf⟩ := open_flat n T _ m _ _ hf h hfine
  obtain ⟨c0, e0, l0⟩ := hleaf 0 _ rfl
  obtain ⟨c1, e1, l1⟩ := hleaf 1 _ rfl
  obtain ⟨c2, e2, l2⟩ := hleaf 2 _ rfl
  obtain ⟨c3, e3, l3⟩ := hleaf 3 _ rfl
  obtain ⟨c4, e4, l4⟩ := hleaf 4 _ rfl
  obtain ⟨c5, e5, l5⟩ := hleaf 5 _ rfl
  obtain ⟨c6, e6, l6⟩ := hleaf 6 _ rfl
  obtain ⟨c7, e7, l7⟩ := hleaf 7 _ rfl
  obtain ⟨z0, rfl, _⟩ := leaf_int hI l0
  obtain ⟨z1, rfl, _⟩ := leaf_int hI l1
  obtain ⟨z2, rfl, _⟩ := leaf_int hI l2
  obtain ⟨z3, rfl, _⟩ := leaf_int hI l3
  obtain ⟨z4, rfl, _⟩ := leaf_int hI l4
  obtain ⟨z5, rfl, _⟩ := leaf_int hI l5
  obtain ⟨z6, rfl, _⟩ := leaf_int hI l6
  obtain ⟨s, rfl, _⟩ := leaf_string hS l7
  refine ⟨⟨z0, z1, z2, z3, z4, z5, z6, s⟩, ?_⟩
  congr 1
  have hc : cs.toList = (fragC ⟨z0, z1, z2, z3, z4, z5, z6, s⟩).toList := by
    have hl8 : cs.toList.length = 8 := hl
    have he : ∀ j, cs.toList[j]? = (fragC ⟨z0, z1, z2, z3, z4, z5, z6, s⟩).toList[j]? := fun j => by
      match j with
      | 0 => exact e0
      | 1 => exact e1
      | 2 => exact e2
      | 3 => exact e3
      | 4 => exact e4
      | 5 => exact e5
      | 6 => exact e6
      | 7 => exact e7
      | j + 8 => rw [List.getElem?_eq_none (by omega), List.getElem?_eq_none (by simp [fragC])]
    exact List.ext_getElem? he
  exact Array.toList_inj.1 hc
theorem paintFrags_main (W : World) (f : FragV) (kind : Int) (wk : (Lit.int .i64 kind).wf = true) (zs : List Int) (hz : zs.length = 118) (hw : ∀ z ∈ zs, (Lit.int .i64 z).wf = true) :
    Calls Try.prog 7 #[.agg (fragC f), .int .i64 kind, .agg (zs.map (Value.int .i64)).toArray] W fun e w' => e = .returned (.bool true) ∧ Below W.heap.size W w' := paintFrags_walk W f kind zs hz
end Go.Proofs.Ytkppignoomnmdaa
