/- Several texts in one: Own, RowList. -/
import Derived.Test.YtcghahfboccceaaGreatDoorTopEscapeM1
import Derived.Deep.MidRow
import Derived.OwnWalk
/- More words on owned slices: what happens elsewhere leaves them; cut short; one cell of them stored. -/
namespace Go.Proofs.YtcghahfboccceaaGreatDoor
open Go.RowKit
set_option linter.unusedVariables false
section
variable {w w' : World} {base base' size size' n n' : Nat} {e e' : TypeId} {v v' : Value} {xs xs' : List Value}
theorem own_at {g cap : Nat} {cur : Array Value} (hl : xs.length = n * size) (hb : base ≤ g) (hh : w.heap[g]? = some (.cells cur e)) (h1 : n ≤ cap) (h2 : cap ≤ maxLen) (h3 : cur.size = cap * size) (h4 : cur.toList.take (n * size) = xs) :
    w.ownsRow base e size (.slice (some ⟨g, 0, none⟩) n cap) n xs := ⟨hl, .inr ⟨g, cap, cur, rfl, hb, hh, h1, h2, h3, h4⟩⟩
theorem own_heap (h : w.ownsRow base e size v n xs) (hw : ∀ g, v.ownBlock = some g → w'.heap[g]? = w.heap[g]?) : w'.ownsRow base e size v n xs := by
  refine ⟨h.1, ?_⟩
  rcases h.2 with h' | ⟨g, cap, cur, rfl, h1, h2, h3⟩
  · exact .inl h'
  · exact .inr ⟨g, cap, cur, rfl, h1, (hw g rfl).trans h2, h3⟩
theorem own_below (h : w.ownsRow base e size v n xs) (hb : Below w.heap.size w w') : w'.ownsRow base e size v n xs :=
  own_heap h fun g hg => hb.block g (h.lt g hg).2
theorem own_far (h : w.ownsRow base e size v n xs) (h' : w.ownsRow base' e' size' v' n' xs') (hne : e ≠ e') : v.ownBlock = none ∨ v.ownBlock ≠ v'.ownBlock := by
  rcases h.2 with ⟨rfl, _⟩ | ⟨g, cap, cur, rfl, h1, h2, _⟩
  · exact .inl rfl
  · rcases h'.2 with ⟨rfl, _⟩ | ⟨g', cap', cur', rfl, h1', h2', _⟩
    · exact .inr (by simp [Value.ownBlock])
    · refine .inr fun hh => ?_
      have hg : g = g' := by simpa [Value.ownBlock] using hh
      subst hg
      rw [h2] at h2'
      injection h2' with h3
      injection h3 with h4 h5
      exact hne h5
theorem own_cut {g cap m : Nat} (h : w.ownsRow base e size (.slice (some ⟨g, 0, none⟩) n cap) n xs) (hm : m ≤ n) : w.ownsRow base e size (.slice (some ⟨g, 0, none⟩) m cap) m (xs.take (m * size)) := by
  have hms : m * size ≤ n * size := Nat.mul_le_mul_right _ hm
  rcases h.2 with ⟨h1, _⟩ | ⟨g', cap', cur, hv, h1, h2, h3, h4, h5, h6⟩
  · cases h1
  · injection hv with hv1 hv2 hv3
    injection hv1 with hv1
    injection hv1 with hv1
    subst hv1; subst hv3
    refine ⟨by rw [List.length_take, h.1]; omega, .inr ⟨g, cap, cur, rfl, h1, h2, by omega, h4, h5, ?_⟩⟩
    rw [← h6, List.take_take, Nat.min_eq_left hms]
theorem own_open (h : w.ownsRow base e size v n xs) : ∃ A c, v = .slice A n c := by
  rcases h.2 with ⟨rfl, rfl⟩ | ⟨g, cap, cur, hv, hb, hh, _⟩
  · exact ⟨_, _, rfl⟩
  · exact ⟨_, _, hv⟩
theorem own_some (h : w.ownsRow base e size v n xs) (hn : 0 < n) : ∃ g cap, v = .slice (some ⟨g, 0, none⟩) n cap ∧ base ≤ g ∧ g < w.heap.size := by
  rcases h.2 with ⟨_, h0⟩ | ⟨g, cap, cur, hv, hb, hh, _⟩
  · omega
  · refine ⟨g, cap, hv, hb, ?_⟩
    rcases Nat.lt_or_ge g w.heap.size with h1 | h1
    · exact h1
    · rw [Array.getElem?_eq_none h1] at hh; cases hh
/-- One cell of the elements stored. -/
theorem own_set {g cap j : Nat} {u : Value} (h : w.ownsRow base e size (.slice (some ⟨g, 0, none⟩) n cap) n xs) : (w.setCell ⟨g, j, none⟩ u).ownsRow base e size (.slice (some ⟨g, 0, none⟩) n cap) n (xs.set j u) := by
  rcases h.2 with ⟨h1, _⟩ | ⟨g', cap', cur, hv, h1, h2, h3, h4, h5, h6⟩
  · cases h1
  · injection hv with hv1 hv2 hv3
    injection hv1 with hv1
    injection hv1 with hv1
    subst hv1; subst hv3
    refine ⟨by rw [List.length_set]; exact h.1, .inr ⟨g, cap, cur.setIfInBounds j u, rfl, h1, heap_setCell_same w g j cur e u h2, h3, h4, by rw [Array.size_setIfInBounds]; exact h5, ?_⟩⟩
    rw [← h6, Array.toList_setIfInBounds, List.take_set]
theorem own_setFar {b j : Nat} {u : Value} (h : w.ownsRow base e size v n xs) (hb : v.ownBlock ≠ some b) : (w.setCell ⟨b, j, none⟩ u).ownsRow base e size v n xs :=
  own_heap h fun g hg => Below.heap_setCell w ⟨b, j, none⟩ u g (fun h' => hb (by rw [hg, h']))
theorem blk_grown {g : Nat} {cs : Array Value} {t : TypeId} {row : Option Nat} (h : Blk w g t cs) (hg : w.grownBy w' row) (hne : row ≠ some g) : Blk w' g t cs :=
  (hg.block g h.lt (fun e => hne e.symm)).trans h
theorem blk_ne {g : Nat} {cs : Array Value} {t : TypeId} (h : Blk w g t cs) (h' : w.ownsRow base e size v n xs) (hne : t ≠ e) : v.ownBlock ≠ some g := by
  rcases h'.2 with ⟨rfl, _⟩ | ⟨g', cap', cur', rfl, h1', h2', _⟩
  · simp [Value.ownBlock]
  · intro hh
    have hg : g' = g := by simpa [Value.ownBlock] using hh
    subst hg
    unfold Blk at h
    rw [h] at h2'
    injection h2' with h3
    injection h3 with h4 h5
    exact hne h5
theorem below_grownO {W wr : World} (hbel : Below W.heap.size W wr) (hown : w.ownsRow W.heap.size e size v n xs) (hg : wr.grownBy w' v.ownBlock) : Below W.heap.size W w' :=
  hbel.grown hg hbel.size (fun k hk => (hown.lt k hk).1)
end
end Go.Proofs.YtcghahfboccceaaGreatDoor
/- Rows: the cells of a slice of structs, element by element; one element, or one cell of it, stored. -/
namespace Go.Proofs.YtcghahfboccceaaGreatDoor
open Go.RowKit
set_option linter.unusedVariables false

/-- The cells of n elements. -/
def rows (n : Nat) (f : Nat → List Value) : List Value := (List.range n).flatMap f
theorem rows_succ (n : Nat) (f : Nat → List Value) : rows (n + 1) f = rows n f ++ f n := by simp [rows, List.range_succ]
theorem rows_len {L : Nat} {f : Nat → List Value} (hf : ∀ i, (f i).length = L) (n : Nat) : (rows n f).length = n * L := by
  induction n with
  | zero => simp [rows]
  | succ n ih => rw [rows_succ, List.length_append, ih, hf, Nat.succ_mul]
theorem rows_at {L : Nat} {f : Nat → List Value} (hf : ∀ i, (f i).length = L) {n k j : Nat} (hk : k < n) (hj : j < L) : (rows n f)[k * L + j]? = (f k)[j]? := by
  induction n with
  | zero => omega
  | succ n ih =>
    rw [rows_succ]
    by_cases h : k < n
    · have : (k + 1) * L ≤ n * L := Nat.mul_le_mul_right _ (by omega)
      rw [Nat.succ_mul] at this
      rw [List.getElem?_append_left (by rw [rows_len hf]; omega)]
      exact ih h
    · obtain rfl : k = n := by omega
      rw [List.getElem?_append_right (by rw [rows_len hf]; omega), rows_len hf]
      congr 1; omega
theorem rows_congr {f g : Nat → List Value} {n : Nat} (h : ∀ i, i < n → f i = g i) : rows n f = rows n g := by
  unfold rows
  rw [List.flatMap_eq_foldl, List.flatMap_eq_foldl]
  have : ∀ (l : List Nat) (acc : List Value), (∀ i ∈ l, f i = g i) → l.foldl (fun acc a => acc ++ f a) acc = l.foldl (fun acc a => acc ++ g a) acc := by
    intro l
    induction l with
    | nil => intro acc _; rfl
    | cons a l ih => intro acc hl; simp only [List.foldl_cons]; rw [hl a (by simp)]; exact ih _ (fun i hi => hl i (by simp [hi]))
  exact this _ _ (fun i hi => h i (by simpa using hi))
theorem flat_rows {α : Type} (l : List α) (f : α → List Value) (d : α) : l.flatMap f = rows l.length (fun i => f (l.getD i d)) := by
  have e : l = (List.range l.length).map (fun i => l.getD i d) := by
    apply List.ext_getElem
    · simp
    · intro i h1 h2; simp [List.getD, h1]
  conv => lhs; rw [e]
  rw [List.flatMap_map]
  rfl
theorem Holds.flatL {α : Type} {w : World} {B : Nat} {A : Option Addr} {f : α → List Value} {l : List α} (h : Holds w B A (l.flatMap f)) (L : Nat) (hL : ∀ x, (f x).length = L) (h0 : 0 < L) {k : Nat} (d : α) (hk : k < l.length) :
    ∃ b off, A = some ⟨b, off, none⟩ ∧ b < B ∧ ∀ j v, (f (l.getD k d))[j]? = some v → w.cell? ⟨b, off + k * L + j, none⟩ = some v := by
  rw [flat_rows l f d] at h
  have hlen := rows_len (f := fun i => f (l.getD i d)) (L := L) (fun i => hL _) l.length
  have hm : (k + 1) * L ≤ l.length * L := Nat.mul_le_mul_right _ hk
  rw [Nat.succ_mul] at hm
  obtain ⟨b, off, e, hb, hc⟩ := h (by omega)
  refine ⟨b, off, e, hb, fun j v hv => ?_⟩
  have hj : j < L := by
    rcases Nat.lt_or_ge j L with h1 | h1
    · exact h1
    · rw [List.getElem?_eq_none (by rw [hL]; exact h1)] at hv; cases hv
  have h3 := hc (k * L + j) (by omega)
  rw [Nat.add_assoc, h3, List.getD, rows_at (fun i => hL _) hk hj, hv]
  rfl
/-- The values laid one behind the other from o on. -/
def setL : List Value → Nat → List Value → List Value
  | xs, _, [] => xs
  | xs, o, v :: r => setL (xs.set o v) (o + 1) r
theorem setL_len : ∀ (vs xs : List Value) (o : Nat), (setL xs o vs).length = xs.length
  | [], _, _ => rfl
  | v :: r, xs, o => by rw [setL, setL_len r]; simp
theorem setL_at : ∀ (vs xs : List Value) (o p : Nat), o + vs.length ≤ xs.length → (setL xs o vs)[p]? = if o ≤ p ∧ p < o + vs.length then vs[p - o]? else xs[p]?
  | [], xs, o, p, _ => by rw [setL, if_neg (by simp only [List.length_nil]; omega)]
  | v :: r, xs, o, p, h => by
    rw [setL, setL_at r _ _ _ (by simp at h ⊢; omega)]
    simp only [List.length_cons] at h
    by_cases h1 : o + 1 ≤ p ∧ p < o + 1 + r.length
    · rw [if_pos h1, if_pos (by simp; omega), show p - o = (p - (o + 1)) + 1 from by omega, List.getElem?_cons_succ]
    · rw [if_neg h1]
      by_cases h2 : o = p
      · subst h2
        rw [if_pos (by simp), Nat.sub_self, List.getElem?_cons_zero, List.getElem?_set_self (by omega)]
      · rw [if_neg (by simp; omega), List.getElem?_set_ne h2]
theorem rows_ext {L : Nat} {f : Nat → List Value} (hL : 0 < L) (hf : ∀ i, (f i).length = L) {n : Nat} {xs : List Value} (hl : xs.length = n * L) (h : ∀ k j, k < n → j < L → xs[k * L + j]? = (f k)[j]?) : xs = rows n f := by
  apply List.ext_getElem?
  intro p
  by_cases hp : p < n * L
  · have h1 : p / L < n := Nat.div_lt_of_lt_mul (by rw [Nat.mul_comm]; exact hp)
    have h2 : p % L < L := Nat.mod_lt _ hL
    have h3 : p / L * L + p % L = p := by rw [Nat.mul_comm]; exact Nat.div_add_mod p L
    have h4 := h _ _ h1 h2
    rw [h3] at h4
    have h5 := rows_at hf h1 h2
    rw [h3] at h5
    rw [h4, h5]
  · rw [List.getElem?_eq_none (by omega), List.getElem?_eq_none (by rw [rows_len hf]; omega)]
theorem idx_ne {L k k' j j' : Nat} (hj : j < L) (hj' : j' < L) (h : k * L + j = k' * L + j') : k = k' ∧ j = j' := by
  rcases Nat.lt_trichotomy k k' with h1 | h1 | h1
  · have : (k + 1) * L ≤ k' * L := Nat.mul_le_mul_right _ h1
    rw [Nat.succ_mul] at this; omega
  · subst h1; exact ⟨rfl, by omega⟩
  · have : (k' + 1) * L ≤ k * L := Nat.mul_le_mul_right _ h1
    rw [Nat.succ_mul] at this; omega
theorem rows_setL {L : Nat} {f : Nat → List Value} (hL : 0 < L) (hf : ∀ i, (f i).length = L) {n k : Nat} (hk : k < n) (vs : List Value) (hv : vs.length = L) : setL (rows n f) (k * L) vs = rows n (fun i => if i = k then vs else f i) := by
  have hkL : (k + 1) * L ≤ n * L := Nat.mul_le_mul_right _ hk
  rw [Nat.succ_mul] at hkL
  refine rows_ext hL (fun i => by show (if i = k then vs else f i).length = L; split; exact hv; exact hf i) (by rw [setL_len, rows_len hf]) (fun k' j hk' hj => ?_)
  rw [setL_at _ _ _ _ (by rw [rows_len hf]; omega)]
  by_cases e : k' = k
  · subst e
    rw [if_pos (by omega), if_pos rfl]
    congr 1; omega
  · rw [if_neg (by
      rintro ⟨h1, h2⟩
      have := idx_ne (k := k') (k' := k) (j := j) (j' := k' * L + j - k * L) hj (by omega) (by omega)
      exact e this.1), if_neg e]
    exact rows_at hf hk' hj
theorem rows_set {L : Nat} {f : Nat → List Value} (hL : 0 < L) (hf : ∀ i, (f i).length = L) {n k j : Nat} (hk : k < n) (hj : j < L) (u : Value) : (rows n f).set (k * L + j) u = rows n (fun i => if i = k then (f i).set j u else f i) := by
  have hkL : (k + 1) * L ≤ n * L := Nat.mul_le_mul_right _ hk
  rw [Nat.succ_mul] at hkL
  refine rows_ext hL (fun i => by show (if i = k then (f i).set j u else f i).length = L; split <;> simp [hf]) (by rw [List.length_set, rows_len hf]) (fun k' j' hk' hj' => ?_)
  by_cases e : k' = k
  · subst e
    rw [if_pos rfl]
    by_cases e2 : j' = j
    · subst e2
      rw [List.getElem?_set_self (by rw [rows_len hf]; omega), List.getElem?_set_self (by rw [hf]; exact hj)]
    · rw [List.getElem?_set_ne (by omega), List.getElem?_set_ne (by omega)]
      exact rows_at hf hk' hj'
  · rw [if_neg e, List.getElem?_set_ne (fun h => e (idx_ne hj' hj h.symm).1)]
    exact rows_at hf hk' hj'
theorem rows_made {L : Nat} (hL : 0 < L) (z : Array Value) (hz : z.size = L) (n : Nat) : (madeCells z (n * L)).toList = rows n (fun _ => z.toList) := by
  refine rows_ext hL (fun _ => by simp [hz]) (by rw [Array.length_toList, size_madeCells]) (fun k j hk hj => ?_)
  have hkL : (k + 1) * L ≤ n * L := Nat.mul_le_mul_right _ hk
  rw [Nat.succ_mul] at hkL
  have h1 : (k * L + j) % L = j := by rw [Nat.mul_comm, Nat.mul_add_mod, Nat.mod_eq_of_lt hj]
  rw [Array.getElem?_toList, Array.getElem?_toList]
  unfold madeCells
  rw [Array.getElem?_map, Array.getElem?_range, if_pos (by omega)]
  simp only [Option.map_some, hz, h1]
  rw [Array.getElem?_eq_getElem (by omega)]
  congr 1
  exact getElem!_pos z j (by omega)
section
variable {w w' : World} {base size n : Nat} {e : TypeId} {v : Value} {xs : List Value}
theorem own_setCells {g cap : Nat} : ∀ (vs : List Value) (o : Nat) (w : World) (xs : List Value), w.ownsRow base e size (.slice (some ⟨g, 0, none⟩) n cap) n xs → (w.setCells g o vs).ownsRow base e size (.slice (some ⟨g, 0, none⟩) n cap) n (setL xs o vs)
  | [], _, _, _, h => h
  | v :: r, o, w, xs, h => by rw [World.setCells, setL]; exact own_setCells r _ _ _ (own_set h)
theorem own_farCells {b : Nat} (hb : v.ownBlock ≠ some b) : ∀ (vs : List Value) (o : Nat) (w : World), w.ownsRow base e size v n xs → (w.setCells b o vs).ownsRow base e size v n xs
  | [], _, _, h => h
  | u :: r, o, w, h => by rw [World.setCells]; exact own_farCells hb r _ _ (own_setFar h hb)
theorem own_cell {g cap p : Nat} {u : Value} (h : w.ownsRow base e size (.slice (some ⟨g, 0, none⟩) n cap) n xs) (hu : xs[p]? = some u) : w.cell? ⟨g, p, none⟩ = some u := by
  have h1 := h.cells (g := g) rfl p u hu
  have e1 : (⟨g, 0, none⟩ : Addr).add p = ⟨g, p, none⟩ := by unfold Addr.add; split <;> simp_all
  rwa [e1] at h1
theorem own_free {g cap p : Nat} (h : w.ownsRow base e size (.slice (some ⟨g, 0, none⟩) n cap) n xs) : w.frozen? ⟨g, p, none⟩ = false := by
  rcases h.2 with ⟨h1, _⟩ | ⟨g', cap', cur, hv, h1, h2, h3, h4, h5, h6⟩
  · cases h1
  · injection hv with hv1 hv2 hv3
    injection hv1 with hv1
    injection hv1 with hv1
    subst hv1
    exact frozen_of_row w g p cur e h2
theorem own_there {g cap o m : Nat} (h : w.ownsRow base e size (.slice (some ⟨g, 0, none⟩) n cap) n xs) (hm : o + m ≤ xs.length) : w.there g o m := fun j hj => by
  refine ⟨?_, own_free h⟩
  have h1 : (xs[o + j]?).isSome := by simp; omega
  obtain ⟨u, hu⟩ := Option.isSome_iff_exists.1 h1
  rw [own_cell h hu]; rfl
theorem own_rowAt {L : Nat} {f : Nat → List Value} (hf : ∀ i, (f i).length = L) {g cap k j : Nat} {u : Value} (h : w.ownsRow base e L (.slice (some ⟨g, 0, none⟩) n cap) n (rows n f)) (hk : k < n) (hu : (f k)[j]? = some u) : w.cell? ⟨g, k * L + j, none⟩ = some u := by
  have hj : j < L := by
    rcases Nat.lt_or_ge j L with h' | h'
    · exact h'
    · rw [List.getElem?_eq_none (by rw [hf]; exact h')] at hu; cases hu
  exact own_cell h ((rows_at hf hk hj).trans hu)
/-- An element stored. -/
theorem own_rowSet {L : Nat} (hL : 0 < L) {f : Nat → List Value} (hf : ∀ i, (f i).length = L) {g cap k : Nat} {vs : List Value} (h : w.ownsRow base e L (.slice (some ⟨g, 0, none⟩) n cap) n (rows n f)) (hk : k < n) (hv : vs.length = L) :
    (w.setCells g (k * L) vs).ownsRow base e L (.slice (some ⟨g, 0, none⟩) n cap) n (rows n (fun i => if i = k then vs else f i)) := by
  have h1 := own_setCells vs (k * L) w _ h
  rwa [rows_setL hL hf hk vs hv] at h1
/-- One cell of an element stored. -/
theorem own_rowCell {L : Nat} (hL : 0 < L) {f : Nat → List Value} (hf : ∀ i, (f i).length = L) {g cap k j : Nat} {u : Value} (h : w.ownsRow base e L (.slice (some ⟨g, 0, none⟩) n cap) n (rows n f)) (hk : k < n) (hj : j < L) :
    (w.setCell ⟨g, k * L + j, none⟩ u).ownsRow base e L (.slice (some ⟨g, 0, none⟩) n cap) n (rows n (fun i => if i = k then (f i).set j u else f i)) := by
  have h1 := own_set (j := k * L + j) (u := u) h
  rwa [rows_set hL hf hk hj u] at h1
theorem own_low {base' : Nat} (h : w.ownsRow base e size v n xs) (hb : base' ≤ base) : w.ownsRow base' e size v n xs := by
  refine ⟨h.1, ?_⟩
  rcases h.2 with h' | ⟨g, cap, cur, hv, h1, h2⟩
  · exact .inl h'
  · exact .inr ⟨g, cap, cur, hv, Nat.le_trans hb h1, h2⟩
theorem own_congr {L : Nat} {f f' : Nat → List Value} (h : w.ownsRow base e L v n (rows n f)) (hf : ∀ i, i < n → f i = f' i) : w.ownsRow base e L v n (rows n f') := by
  rw [← rows_congr hf]; exact h
end
end Go.Proofs.YtcghahfboccceaaGreatDoor
