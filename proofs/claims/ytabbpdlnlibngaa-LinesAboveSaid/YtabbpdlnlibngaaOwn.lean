/- More words on owned slices: what happens elsewhere leaves them; cut short; one cell of them stored. -/
import Derived.Test.YtabbpdlnlibngaaMem
namespace Go.Proofs.Ytabbpdlnlibngaa
open Go.RowKit
set_option linter.unusedVariables false
section
variable {w w' : World} {base base' size size' n n' : Nat} {e e' : TypeId} {v v' : Value} {xs xs' : List Value}
theorem own_at {g cap : Nat} {cur : Array Value} (hl : xs.length = n * size) (hb : base ≤ g) (hh : w.heap[g]? = some (.cells cur e)) (h1 : n ≤ cap) (h2 : cap ≤ maxLen) (h3 : cur.size = cap * size) (h4 : cur.toList.take (n * size) = xs) :
    w.ownsRow base e size (.slice (some ⟨g, 0, none⟩) n cap) n xs := ⟨hl, .inr ⟨g, cap, cur, rfl, hb, hh, h1, h2, h3, h4⟩⟩
theorem own_heap (h : w.ownsRow base e size v n xs) (hw : ∀ g, v.ownBlock = some g → w'.heap[g]? = w.heap[g]?) : w'.ownsRow base e size v n xs := by
  refine ⟨h.1, ?_⟩
  rcases h.2 with h' | ⟨g, cap, cur, rfl, h1, h2, h3⟩
  · exact .inl h'
  · exact .inr ⟨g, cap, cur, rfl, h1, (hw g rfl).trans h2, h3⟩
theorem own_below (h : w.ownsRow base e size v n xs) (hb : Below w.heap.size w w') : w'.ownsRow base e size v n xs :=
  own_heap h fun g hg => hb.block g (h.lt g hg).2
theorem own_far (h : w.ownsRow base e size v n xs) (h' : w.ownsRow base' e' size' v' n' xs') (hne : e ≠ e') : v.ownBlock = none ∨ v.ownBlock ≠ v'.ownBlock := by
  rcases h.2 with ⟨rfl, _⟩ | ⟨g, cap, cur, rfl, h1, h2, _⟩
  · exact .inl rfl
  · rcases h'.2 with ⟨rfl, _⟩ | ⟨g', cap', cur', rfl, h1', h2', _⟩
    · exact .inr (by simp [Value.ownBlock])
    · refine .inr fun hh => ?_
      have hg : g = g' := by simpa [Value.ownBlock] using hh
      subst hg
      rw [h2] at h2'
      injection h2' with h3
      injection h3 with h4 h5
      exact hne h5
theorem own_cut {g cap m : Nat} (h : w.ownsRow base e size (.slice (some ⟨g, 0, none⟩) n cap) n xs) (hm : m ≤ n) : w.ownsRow base e size (.slice (some ⟨g, 0, none⟩) m cap) m (xs.take (m * size)) := by
  have hms : m * size ≤ n * size := Nat.mul_le_mul_right _ hm
  rcases h.2 with ⟨h1, _⟩ | ⟨g', cap', cur, hv, h1, h2, h3, h4, h5, h6⟩
  · cases h1
  · injection hv with hv1 hv2 hv3
    injection hv1 with hv1
    injection hv1 with hv1
    subst hv1; subst hv3
    refine ⟨by rw [List.length_take, h.1]; omega, .inr ⟨g, cap, cur, rfl, h1, h2, by omega, h4, h5, ?_⟩⟩
    rw [← h6, List.take_take, Nat.min_eq_left hms]
theorem own_open (h : w.ownsRow base e size v n xs) : ∃ A c, v = .slice A n c := by
  rcases h.2 with ⟨rfl, rfl⟩ | ⟨g, cap, cur, hv, hb, hh, _⟩
  · exact ⟨_, _, rfl⟩
  · exact ⟨_, _, hv⟩
theorem own_some (h : w.ownsRow base e size v n xs) (hn : 0 < n) : ∃ g cap, v = .slice (some ⟨g, 0, none⟩) n cap ∧ base ≤ g ∧ g < w.heap.size := by
  rcases h.2 with ⟨_, h0⟩ | ⟨g, cap, cur, hv, hb, hh, _⟩
  · omega
  · refine ⟨g, cap, hv, hb, ?_⟩
    rcases Nat.lt_or_ge g w.heap.size with h1 | h1
    · exact h1
    · rw [Array.getElem?_eq_none h1] at hh; cases hh
/-- One cell of the elements stored. -/
theorem own_set {g cap j : Nat} {u : Value} (h : w.ownsRow base e size (.slice (some ⟨g, 0, none⟩) n cap) n xs) : (w.setCell ⟨g, j, none⟩ u).ownsRow base e size (.slice (some ⟨g, 0, none⟩) n cap) n (xs.set j u) := by
  rcases h.2 with ⟨h1, _⟩ | ⟨g', cap', cur, hv, h1, h2, h3, h4, h5, h6⟩
  · cases h1
  · injection hv with hv1 hv2 hv3
    injection hv1 with hv1
    injection hv1 with hv1
    subst hv1; subst hv3
    refine ⟨by rw [List.length_set]; exact h.1, .inr ⟨g, cap, cur.setIfInBounds j u, rfl, h1, heap_setCell_same w g j cur e u h2, h3, h4, by rw [Array.size_setIfInBounds]; exact h5, ?_⟩⟩
    rw [← h6, Array.toList_setIfInBounds, List.take_set]
theorem own_setFar {b j : Nat} {u : Value} (h : w.ownsRow base e size v n xs) (hb : v.ownBlock ≠ some b) : (w.setCell ⟨b, j, none⟩ u).ownsRow base e size v n xs :=
  own_heap h fun g hg => Below.heap_setCell w ⟨b, j, none⟩ u g (fun h' => hb (by rw [hg, h']))
theorem blk_grown {g : Nat} {cs : Array Value} {t : TypeId} {row : Option Nat} (h : Blk w g t cs) (hg : w.grownBy w' row) (hne : row ≠ some g) : Blk w' g t cs :=
  (hg.block g h.lt (fun e => hne e.symm)).trans h
theorem blk_ne {g : Nat} {cs : Array Value} {t : TypeId} (h : Blk w g t cs) (h' : w.ownsRow base e size v n xs) (hne : t ≠ e) : v.ownBlock ≠ some g := by
  rcases h'.2 with ⟨rfl, _⟩ | ⟨g', cap', cur', rfl, h1', h2', _⟩
  · simp [Value.ownBlock]
  · intro hh
    have hg : g' = g := by simpa [Value.ownBlock] using hh
    subst hg
    unfold Blk at h
    rw [h] at h2'
    injection h2' with h3
    injection h3 with h4 h5
    exact hne h5
theorem below_grownO {W wr : World} (hbel : Below W.heap.size W wr) (hown : w.ownsRow W.heap.size e size v n xs) (hg : wr.grownBy w' v.ownBlock) : Below W.heap.size W w' :=
  hbel.grown hg hbel.size (fun k hk => (hown.lt k hk).1)
end
end Go.Proofs.Ytabbpdlnlibngaa
