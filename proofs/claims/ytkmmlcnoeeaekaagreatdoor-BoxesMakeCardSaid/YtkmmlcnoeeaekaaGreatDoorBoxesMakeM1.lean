/- Several texts in one: Mem, Open. -/
import Derived.WalkKit
import Derived.Deep.Draws
import Derived.ProofKit
import Derived.OpenShut
import Derived.Deep.Slices
import Derived.SizedLaws
/- Words for memory: a slice that reads as a list of cells. -/
namespace Go.Proofs.YtkmmlcnoeeaekaaGreatDoor
open Go.RowKit
set_option linter.unusedVariables false

/-- The slice at A (nil where it is empty) holds the cells xs, below block B. -/
def Holds (w : World) (B : Nat) (A : Option Addr) (xs : List Value) : Prop :=
  0 < xs.length → ∃ b off, A = some ⟨b, off, none⟩ ∧ b < B ∧ ∀ j, j < xs.length → w.cell? ⟨b, off + j, none⟩ = some (xs.getD j undef)

theorem Holds.below {w w' : World} {B B' : Nat} {A : Option Addr} {xs : List Value} (h : Holds w B A xs) (hb : Below B' w w') (hB : B ≤ B') : Holds w' B A xs := fun hn => by
  obtain ⟨b, off, e, hlt, hc⟩ := h hn
  exact ⟨b, off, e, hlt, fun j hj => (hb.cell (p := ⟨b, off + j, none⟩) (by simp; omega)).trans (hc j hj)⟩
theorem Holds.more {w : World} {B B' : Nat} {A : Option Addr} {xs : List Value} (h : Holds w B A xs) (hB : B ≤ B') : Holds w B' A xs := fun hn => by
  obtain ⟨b, off, e, hlt, hc⟩ := h hn
  exact ⟨b, off, e, by omega, hc⟩
theorem Holds.nil {w : World} {B : Nat} {A : Option Addr} : Holds w B A [] := fun h => absurd h (by simp)
theorem Holds.take {w : World} {B : Nat} {A : Option Addr} {xs : List Value} (h : Holds w B A xs) (k : Nat) : Holds w B A (xs.take k) := fun hn => by
  have hl : (xs.take k).length ≤ xs.length := by simp; omega
  obtain ⟨b, off, e, hlt, hc⟩ := h (by omega)
  refine ⟨b, off, e, hlt, fun j hj => ?_⟩
  rw [hc j (by omega)]
  have hj' : j < k := by simp at hj; omega
  simp [List.getD, hj']
theorem Holds.ints {w : World} {B : Nat} {A : Option Addr} {zs : List Int} (h : Holds w B A (zs.map (Value.int .i64))) {k : Nat} (hk : k < zs.length) :
    ∃ b off, A = some ⟨b, off, none⟩ ∧ b < B ∧ w.cell? ⟨b, off + k, none⟩ = some (.int .i64 (zs.getD k 0)) := by
  obtain ⟨b, off, e, hlt, hc⟩ := h (by simp; omega)
  refine ⟨b, off, e, hlt, ?_⟩
  rw [hc k (by simpa using hk)]
  simp [List.getD, hk]
theorem Holds.of_own {w : World} {base : Nat} {e : TypeId} {size n c : Nat} {A : Option Addr} {xs : List Value} (h : w.ownsRow base e size (.slice A n c) n xs) : Holds w w.heap.size A xs := fun hn => by
  rcases h.2 with ⟨_, h0⟩ | ⟨g, cap, cur, hv, _, hh, _⟩
  · have := h.1
    subst h0
    simp at this
    rw [this] at hn
    simp at hn
  · have hA : A = some ⟨g, 0, none⟩ := by injection hv
    subst hA
    refine ⟨g, 0, rfl, ?_, fun j hj => ?_⟩
    · rcases Nat.lt_or_ge g w.heap.size with h1 | h1
      · exact h1
      · rw [Array.getElem?_eq_none h1] at hh; cases hh
    · have := h.cells (g := g) rfl j (xs.getD j undef) (by simp [List.getD, hj])
      have e : (⟨g, 0, none⟩ : Addr).add j = ⟨g, 0 + j, none⟩ := by unfold Addr.add; split <;> simp_all
      rw [← e]; exact this
theorem Holds.new (w : World) (cs : Array Value) (T : TypeId) : Holds (w.alloc (.cells cs T)) (w.heap.size + 1) (some ⟨w.heap.size, 0, none⟩) cs.toList := fun hn => by
  refine ⟨w.heap.size, 0, rfl, by omega, fun j hj => ?_⟩
  have h : (w.alloc (.cells cs T)).heap[w.heap.size]? = some (.cells cs T) := by
    show (w.heap.push _)[w.heap.size]? = _
    simp
  have hj' : j < cs.size := by simpa using hj
  rw [cell_of_row _ _ _ cs T _ h]
  simp [List.getD, hj']
theorem below_alloc {W w : World} (h : Below W.heap.size W w) (o : Obj) : Below W.heap.size W (w.alloc o) := h.alloc h.size o
theorem below_set {W w : World} (h : Below W.heap.size W w) {b off : Nat} (hb : W.heap.size ≤ b) (u : Value) : Below W.heap.size W (w.setCell ⟨b, off, none⟩ u) := h.setCell (p := ⟨b, off, none⟩) hb u
theorem below_then {W w w' : World} (h : Below W.heap.size W w) (h' : Below w.heap.size w w') : Below W.heap.size W w' := h.trans (h'.mono h.size)
theorem below_drewN {B : Nat} {W w : World} (h : Below B W w) (n : Nat) : Below B W (w.drewN n) := ⟨h.os, h.tape, h.output, h.size, h.block⟩
theorem alloc_size (w : World) (o : Obj) : (w.alloc o).heap.size = w.heap.size + 1 := by simp
theorem new_cell (w : World) (cs : Array Value) (T : TypeId) (j : Nat) : (w.alloc (.cells cs T)).cell? ⟨w.heap.size, j, none⟩ = cs[j]? := by
  have h : (w.alloc (.cells cs T)).heap[w.heap.size]? = some (.cells cs T) := by
    show (w.heap.push _)[w.heap.size]? = _
    simp
  exact cell_of_row _ _ _ cs T _ h
theorem below_made {W w w' : World} (h : Below W.heap.size W w) (hg : w.grownBy w' none) : Below W.heap.size W w' := h.grown hg h.size (fun k hk => by cases hk)
theorem take_snoc {α : Type} (xs : List α) (d : α) (k : Nat) (h : k < xs.length) : xs.take (k + 1) = xs.take k ++ [xs.getD k d] := by
  rw [List.take_succ_eq_append_getElem h]
  simp [List.getD, h]

/-- Block g is just the cells cs of the type t, none frozen. -/
def Blk (w : World) (g : Nat) (t : TypeId) (cs : Array Value) : Prop := w.heap[g]? = some (.cells cs t (0, 0))
section
variable {w w' : World} {g : Nat} {t : TypeId} {cs : Array Value}
theorem Blk.lt (h : Blk w g t cs) : g < w.heap.size := by
  rcases Nat.lt_or_ge g w.heap.size with h1 | h1
  · exact h1
  · unfold Blk at h; rw [Array.getElem?_eq_none h1] at h; cases h
theorem Blk.cell (h : Blk w g t cs) (i : Nat) : w.cell? ⟨g, i, none⟩ = cs[i]? := cell_of_row w g i cs t (0, 0) h
theorem Blk.free (h : Blk w g t cs) (i : Nat) : w.frozen? ⟨g, i, none⟩ = false := frozen_of_row w g i cs t h
theorem Blk.new (w : World) (t : TypeId) (cs : Array Value) : Blk (w.alloc (.cells cs t)) w.heap.size t cs := heap_alloc_new w _
theorem Blk.alloc (h : Blk w g t cs) (o : Obj) : Blk (w.alloc o) g t cs := (Below.heap_alloc w o g h.lt).trans h
theorem Blk.drewN (h : Blk w g t cs) (n : Nat) : Blk (w.drewN n) g t cs := h
theorem Blk.drew (h : Blk w g t cs) : Blk w.drew g t cs := h
theorem Blk.stored (h : Blk w g t cs) (i : Nat) (u : Value) : Blk (w.setCell ⟨g, i, none⟩ u) g t (cs.setIfInBounds i u) := heap_setCell_same w g i cs t u h
theorem Blk.far (h : Blk w g t cs) {b i : Nat} (hb : g ≠ b) (u : Value) : Blk (w.setCell ⟨b, i, none⟩ u) g t cs := (Below.heap_setCell w ⟨b, i, none⟩ u g hb).trans h
theorem Blk.below {B : Nat} (h : Blk w g t cs) (hb : Below B w w') (hg : g < B) : Blk w' g t cs := (hb.block g hg).trans h
end
end Go.Proofs.YtkmmlcnoeeaekaaGreatDoor
/- Arguments opened to their cells, whatever structs and arrays they are made of: a type's leaves, cell by cell. -/
namespace Go.Proofs.YtkmmlcnoeeaekaaGreatDoor
open Go.ChangeShapes Go.WideShapes Go.Deep
set_option linter.unusedVariables false

/-- The types of a type's cells, structs and arrays taken apart. -/
def flatFields (P : Program) (rec : TypeId → Option (List TypeId)) : List Field → Nat → Option (List TypeId)
  | [], _ => some []
  | f :: fs, off => if f.offset = off then (match rec f.type with
      | some l => if l.length = P.cellsOf f.type then (flatFields P rec fs (off + l.length)).map (l ++ ·) else none
      | none => none) else none
def flat (P : Program) : Nat → TypeId → Option (List TypeId)
  | 0, _ => none
  | n + 1, t => match P.underlying t with
    | some (.struct fs) => (match flatFields P (flat P n) fs.toList 0 with
      | some l => if l.length = P.cellsOf t then some l else none
      | none => none)
    | some (.array k e) => (match flat P n e with
      | some l => if l.length = P.cellsOf e ∧ k * P.cellsOf e = P.cellsOf t then some (List.replicate k l).flatten else none
      | none => none)
    | some (.int _) => some [t]
    | some .bool => some [t]
    | some .string => some [t]
    | some (.slice _) => some [t]
    | _ => none

section
variable {H : Type} {enc : TypeId × Value → H} {P : Program} {w : World} {base : Nat} {spare : Nat → Bool} {held : Bool}

/-- Nothing in what was read at the type T is greater than the form's reach. -/
def Fine (P : Program) (T : TypeId) (d : DataW H) : Prop := ∀ n ∈ d.weights P T, n ≤ reachBytes

/-- The cell c reads at the type T. -/
def Leaf (enc : TypeId × Value → H) (P : Program) (w : World) (base : Nat) (spare : Nat → Bool) (held : Bool) (T : TypeId) (c : Value) : Prop :=
  ∃ m y, DataW.trod enc P w base spare held m T [c] = some y ∧ Fine P T y.1

theorem weights_mem_all {e : TypeId} : ∀ {ds : List (DataW H)} {j : Nat} {d : DataW H}, ds[j]? = some d → ∀ n ∈ d.weights P e, n ∈ DataW.weightsAll P e ds
  | d0 :: ds, 0, d, hd, n, hn => by
    simp only [List.getElem?_cons_zero, Option.some.injEq] at hd
    subst hd
    simp only [DataW.weightsAll, List.mem_append]
    exact Or.inl hn
  | d0 :: ds, j + 1, d, hd, n, hn => by
    simp only [List.getElem?_cons_succ] at hd
    simp only [DataW.weightsAll, List.mem_append]
    exact Or.inr (weights_mem_all hd n hn)
  | [], _, _, hd, _, _ => by simp at hd
theorem Fine.field {t : TypeId} {fs : Array Field} {ds : List (DataW H)} (hu : P.underlying t = some (.struct fs)) (h : Fine P t (.agg ds)) {i : Nat} {f : Field} {d : DataW H} (hf : fs[i]? = some f) (hd : ds[i]? = some d) : Fine P f.type d := fun n hn =>
  h n (by
    simp only [DataW.weights, hu]
    exact DataW.weights_mem_each (j := i) (t := f.type) (by simp [hf]) hd n hn)
theorem Fine.part {t e : TypeId} {k : Nat} {ds : List (DataW H)} (hu : P.underlying t = some (.array k e)) (h : Fine P t (.agg ds)) {i : Nat} {d : DataW H} (hd : ds[i]? = some d) : Fine P e d := fun n hn =>
  h n (by
    simp only [DataW.weights, hu]
    exact weights_mem_all hd n hn)
theorem Fine.elem {t e : TypeId} {es sp : List (DataW H)} (hu : P.underlying t = some (.slice e)) (h : Fine P t (.slice es sp)) {i : Nat} {d : DataW H} (hd : es[i]? = some d) : Fine P e d := fun n hn =>
  h n (by
    simp only [DataW.weights, hu, List.mem_cons, List.mem_append]
    exact Or.inr (Or.inl (weights_mem_all hd n hn)))
theorem Fine.size {t e : TypeId} {es sp : List (DataW H)} (hu : P.underlying t = some (.slice e)) (h : Fine P t (.slice es sp)) : (es.length + sp.length) * P.bytesOf e ≤ reachBytes :=
  h _ (by simp only [DataW.weights, hu, List.mem_cons]; exact Or.inl trivial)
theorem fine_of_each {ts : List TypeId} {ds : List (DataW H)} (h : (DataW.weightsEach P ts ds).all (· ≤ reachBytes) = true) {j : Nat} {t : TypeId} {d : DataW H} (ht : ts[j]? = some t) (hd : ds[j]? = some d) : Fine P t d := fun n hn => by
  have := List.all_eq_true.1 h _ (DataW.weights_mem_each ht hd n hn)
  simpa using this

theorem flatten_get (l : List TypeId) (k : Nat) (hl : 0 < l.length) : ∀ (j : Nat) (T : TypeId), (List.replicate k l).flatten[j]? = some T → j / l.length < k ∧ l[j % l.length]? = some T := by
  induction k with
  | zero => intro j T h; simp at h
  | succ k ih =>
    intro j T h
    rw [List.replicate_succ, List.flatten_cons] at h
    by_cases hj : j < l.length
    · rw [List.getElem?_append_left hj] at h
      rw [Nat.div_eq_of_lt hj, Nat.mod_eq_of_lt hj]
      exact ⟨by omega, h⟩
    · rw [List.getElem?_append_right (by omega)] at h
      obtain ⟨h1, h2⟩ := ih _ _ h
      have e : j = (j - l.length) + l.length := by omega
      rw [e, Nat.add_div_right _ hl, Nat.add_mod_right]
      exact ⟨by omega, h2⟩

theorem one_of_int {T : TypeId} {fuel : Nat} {cs : List Value} {x : DataW H × List MemPlace} (hone : ∃ c, cs = [c]) (h : DataW.trod enc P w base spare held fuel T cs = some x) (hx : Fine P T x.1) :
    cs.length = 1 ∧ ∀ (j : Nat) (U : TypeId), [T][j]? = some U → ∃ c : Value, cs[j]? = some c ∧ Leaf enc P w base spare held U c := by
  obtain ⟨c, rfl⟩ := hone
  refine ⟨rfl, fun j U hj => ?_⟩
  match j, hj with
  | 0, hj =>
    simp at hj
    subst hj
    exact ⟨c, rfl, fuel, x, h, hx⟩

theorem open_flat (n : Nat) : ∀ (t : TypeId) (Ts : List TypeId) (fuel : Nat) (cs : List Value) (x : DataW H × List MemPlace),
    flat P n t = some Ts → DataW.trod enc P w base spare held fuel t cs = some x → Fine P t x.1 →
    cs.length = Ts.length ∧ ∀ (j : Nat) (U : TypeId), Ts[j]? = some U → ∃ c : Value, cs[j]? = some c ∧ Leaf enc P w base spare held U c := by
  induction n with
  | zero => intro t Ts fuel cs x h; simp [flat] at h
  | succ n ih =>
    intro t Ts fuel cs x h ht hfine
    unfold flat at h
    split at h
    · rename_i fs hu
      split at h
      · rename_i l hl
        split at h
        · rename_i hlen
          injection h with h
          subst h
          obtain ⟨xs, m, _, hx, hcl, hxl, hf⟩ := DataW.trod_struct hu ht
          refine ⟨by omega, ?_⟩
          have key : ∀ (fs' : List Field) (off : Nat) (l : List TypeId), (∀ f, f ∈ fs' → ∃ y, DataW.trod enc P w base spare held m f.type ((cs.drop f.offset).take (P.cellsOf f.type)) = some y ∧ Fine P f.type y.1) →
              flatFields P (flat P n) fs' off = some l → ∀ (j : Nat) (U : TypeId), l[j]? = some U → ∃ c : Value, cs[off + j]? = some c ∧ Leaf enc P w base spare held U c := by
            intro fs'
            induction fs' with
            | nil => intro off l _ hl j U hj; simp [flatFields] at hl; subst hl; simp at hj
            | cons f fs' ihf =>
              intro off l hp hl j U hj
              unfold flatFields at hl
              split at hl
              · rename_i hoff
                split at hl
                · rename_i lf hlf
                  split at hl
                  · rename_i hlen'
                    cases hrest : flatFields P (flat P n) fs' (off + lf.length) with
                    | none => rw [hrest] at hl; simp at hl
                    | some lr =>
                      rw [hrest] at hl
                      simp at hl
                      subst hl
                      obtain ⟨y, hy, hfy⟩ := hp f (by simp)
                      have hpiece := ih _ _ _ _ _ hlf hy hfy
                      by_cases hjl : j < lf.length
                      · rw [List.getElem?_append_left hjl] at hj
                        obtain ⟨c, hc, hleaf⟩ := hpiece.2 j U hj
                        refine ⟨c, ?_, hleaf⟩
                        rw [List.getElem?_take_of_lt (by omega), List.getElem?_drop] at hc
                        rw [← hoff]; exact hc
                      · rw [List.getElem?_append_right (by omega)] at hj
                        obtain ⟨c, hc, hleaf⟩ := ihf _ _ (fun g hg => hp g (by simp [hg])) hrest _ _ hj
                        refine ⟨c, ?_, hleaf⟩
                        rw [← hc]
                        congr 1
                        omega
                  · simp at hl
                · simp at hl
              · simp at hl
          intro j U hj
          have := key fs.toList 0 l (fun f hf' => by
            obtain ⟨i, hi, e⟩ := List.mem_iff_getElem.1 hf'
            have hi' : i < fs.size := by simpa using hi
            have hfi : fs[i]? = some f := by rw [Array.getElem?_eq_getElem hi']; simpa using e
            have := hf i f hfi
            have hxi : xs[i]? = some (xs[i]'(by omega)) := List.getElem?_eq_getElem (by omega)
            rw [hxi] at this
            refine ⟨_, this, ?_⟩
            rw [hx] at hfine
            exact Fine.field hu hfine hfi (by simp [hxi])) hl j U hj
          simpa using this
        · simp at h
      · simp at h
    · rename_i k e hu
      split at h
      · rename_i l hl
        split at h
        · rename_i hlen
          injection h with h
          subst h
          obtain ⟨xs, m, _, hx, hcl, hxl, hf⟩ := DataW.trod_array hu ht
          refine ⟨by simp; rw [hcl, ← hlen.2, hlen.1], ?_⟩
          intro j U hj
          have hpos : 0 < l.length := by
            rcases Nat.eq_zero_or_pos l.length with h0 | h0
            · have : l = [] := List.eq_nil_of_length_eq_zero h0
              subst this
              simp at hj
            · exact h0
          obtain ⟨h1, h2⟩ := flatten_get l k hpos j U hj
          have hp := hf (j / l.length) h1
          have hxi : xs[j / l.length]? = some (xs[j / l.length]'(by omega)) := List.getElem?_eq_getElem (by omega)
          rw [hxi] at hp
          rw [hx] at hfine
          obtain ⟨c, hc, hleaf⟩ := (ih _ _ _ _ _ hl hp (Fine.part hu hfine (i := j / l.length) (by simp [hxi]))).2 _ _ h2
          refine ⟨c, ?_, hleaf⟩
          rw [List.getElem?_take_of_lt (by rw [← hlen.1]; exact Nat.mod_lt _ hpos), List.getElem?_drop, ← hlen.1] at hc
          rw [← hc]
          congr 1
          rw [Nat.mul_comm]
          exact (Nat.div_add_mod j l.length).symm
        · simp at h
      · simp at h
    · rename_i k hu
      injection h with h
      subst h
      obtain ⟨c, hc, _⟩ := DataW.trod_int hu ht
      exact one_of_int ⟨_, hc⟩ ht hfine
    · rename_i hu
      injection h with h
      subst h
      obtain ⟨c, hc, _⟩ := DataW.trod_bool hu ht
      exact one_of_int ⟨_, hc⟩ ht hfine
    · rename_i hu
      injection h with h
      subst h
      obtain ⟨c, hc, _⟩ := DataW.trod_string hu ht
      exact one_of_int ⟨_, hc⟩ ht hfine
    · rename_i e hu
      injection h with h
      subst h
      rcases open_slice hu ht with ⟨hc, _⟩ | ⟨a, len, cap, m, _, _, _, hc, _⟩
      · exact one_of_int ⟨_, hc⟩ ht hfine
      · exact one_of_int ⟨_, hc⟩ ht hfine
    · simp at h

theorem leaf_int {T : TypeId} {k : IntKind} {c : Value} (hu : P.underlying T = some (.int k)) (h : Leaf enc P w base spare held T c) : ∃ n, c = .int k n ∧ (Lit.int k n).wf = true := by
  obtain ⟨m, y, h, _⟩ := h
  obtain ⟨n, hc, _, hw⟩ := DataW.trod_int hu h
  exact ⟨n, by simpa using hc, hw⟩
theorem leaf_bool {T : TypeId} {c : Value} (hu : P.underlying T = some .bool) (h : Leaf enc P w base spare held T c) : ∃ b, c = .bool b := by
  obtain ⟨m, y, h, _⟩ := h
  obtain ⟨n, hc, _⟩ := DataW.trod_bool hu h
  exact ⟨n, by simpa using hc⟩
theorem leaf_string {T : TypeId} {c : Value} (hu : P.underlying T = some .string) (h : Leaf enc P w base spare held T c) : ∃ s : ByteArray, c = .string s ∧ s.size ≤ maxLen ∧ s.size ≤ 140737488351232 := by
  obtain ⟨m, y, h, hf⟩ := h
  obtain ⟨n, hc, hy, hw⟩ := DataW.trod_string hu h
  subst hy
  have := hf n.data.toList.length (by simp [DataW.weights])
  exact ⟨n, by simpa using hc, hw, by simpa [reachBytes] using this⟩

/-- A slice of a type whose cells are known: nil, or a row of cells, each a leaf. -/
theorem leaf_slice {T e : TypeId} {n : Nat} {Ts : List TypeId} {c : Value} (hu : P.underlying T = some (.slice e)) (hf : flat P n e = some Ts) (hC : P.cellsOf e = Ts.length) (h : Leaf enc P w base spare held T c) :
    c = .slice none 0 0 ∨ ∃ (a : Addr) (len cap : Nat), c = .slice (some a) len cap ∧ base ≤ a.block ∧ len ≤ cap ∧ cap ≤ maxLen ∧ len * P.bytesOf e ≤ 140737488351232 ∧ (spare a.block = true → cap * P.bytesOf e ≤ 140737488351232) ∧
      ∀ (i : Nat), i < len → ∀ (j : Nat) (U : TypeId), Ts[j]? = some U → ∃ v : Value, w.cell? (a.add (i * Ts.length + j)) = some v ∧ Leaf enc P w base spare held U v := by
  obtain ⟨m, y, h, hfine⟩ := h
  rcases open_slice hu h with ⟨hc, _⟩ | ⟨a, len, cap, m, k, D, Pl, hc, hb, hl, hm, hmm, hx, hi⟩
  · exact .inl (by simpa using hc)
  · rw [hx] at hfine
    have hsz := Fine.size hu hfine
    have hlm : len ≤ m := by rw [hmm]; split <;> omega
    simp only [List.length_map, List.length_range, show len + (m - len) = m by omega] at hsz
    refine .inr ⟨a, len, cap, by simpa using hc, hb, hl, hm, ?_, ?_, fun i him j U hj => ?_⟩
    · exact Nat.le_trans (Nat.mul_le_mul_right _ hlm) hsz
    · intro hs
      rw [hs] at hmm
      simp only [if_true] at hmm
      rw [← hmm]; exact hsz
    obtain ⟨cs', h1, h2⟩ := hi i (by omega)
    obtain ⟨hl', hleaf⟩ := open_flat n e Ts k cs' _ hf h2 (Fine.elem hu hfine (i := i) (by simp [him]))
    obtain ⟨v, hv, hlf⟩ := hleaf j U hj
    obtain ⟨_, hcl, hat⟩ := World.cells?_some h1
    have hjl : j < Ts.length := by
      rcases Nat.lt_or_ge j Ts.length with h0 | h0
      · exact h0
      · rw [List.getElem?_eq_none h0] at hj; cases hj
    refine ⟨v, ?_, hlf⟩
    rw [← Go.Deep.add_add, ← hC, hat j (by omega), hv]

/-- Are all of some types ints? -/
def allInts (P : Program) (Ts : List TypeId) : Bool := Ts.all fun T => match P.underlying T with | some (.int .i64) => true | _ => false
theorem allInts_at {Ts : List TypeId} (h : allInts P Ts = true) {j : Nat} {U : TypeId} (hj : Ts[j]? = some U) : P.underlying U = some (.int .i64) := by
  have := List.all_eq_true.1 h U (List.mem_of_getElem? hj)
  split at this <;> simp_all
/-- Cells that are leaves of int types are ints. -/
theorem ints_of_leaves {Ts : List TypeId} {cs : List Value} (hi : allInts P Ts = true) (hl : cs.length = Ts.length) (h : ∀ (j : Nat) (U : TypeId), Ts[j]? = some U → ∃ c : Value, cs[j]? = some c ∧ Leaf enc P w base spare held U c) :
    ∃ zs : List Int, zs.length = Ts.length ∧ cs = zs.map (Value.int .i64) ∧ ∀ z ∈ zs, (Lit.int .i64 z).wf = true := by
  have hx : ∀ i, i < Ts.length → ∃ z : Int, cs[i]? = some (.int .i64 z) ∧ (Lit.int .i64 z).wf = true := fun i hi' => by
    have hj : Ts[i]? = some (Ts[i]'hi') := List.getElem?_eq_getElem hi'
    obtain ⟨c, hc, hlf⟩ := h i _ hj
    obtain ⟨z, rfl, hw⟩ := leaf_int (allInts_at hi hj) hlf
    exact ⟨z, hc, hw⟩
  obtain ⟨f, hf⟩ := choose_lt hx
  refine ⟨(List.range Ts.length).map f, by simp, ?_, ?_⟩
  · apply List.ext_getElem?
    intro i
    by_cases hi' : i < Ts.length
    · rw [(hf i hi').1]; simp [hi']
    · rw [List.getElem?_eq_none (by omega)]; simp [Nat.not_lt.1 hi']
  · intro z hz
    simp only [List.mem_map, List.mem_range] at hz
    obtain ⟨i, hi', rfl⟩ := hz
    exact (hf i hi').2

/-- An argument that came in. -/
def Arg (enc : TypeId × Value → H) (P : Program) (w : World) (base : Nat) (spare : Nat → Bool) (held : Bool) (T : TypeId) (v : Value) : Prop :=
  ∃ m y, DataW.trod enc P w base spare held m T v.cells.toList = some y ∧ Fine P T y.1
theorem arg_of {T : TypeId} {v : Value} {d : DataW H} {p : List MemPlace} (h : DataW.Trod enc P w base spare held T v d p) (hf : Fine P T d) : Arg enc P w base spare held T v := by
  obtain ⟨m, h⟩ := h
  exact ⟨m, _, h, hf⟩
theorem Arg.leaf {T : TypeId} {a : Option Addr} {len cap : Nat} (h : Arg enc P w base spare held T (.slice a len cap)) : Leaf enc P w base spare held T (.slice a len cap) := by
  obtain ⟨m, y, h, hf⟩ := h
  exact ⟨m, y, by simpa [Value.cells] using h, hf⟩
/-- A slice of ints, or of structs or arrays of ints. -/
theorem leaf_ints {T e : TypeId} {n : Nat} {Ts : List TypeId} {a : Option Addr} {len cap : Nat} (hu : P.underlying T = some (.slice e)) (hf : flat P n e = some Ts) (hC : P.cellsOf e = Ts.length) (hi : allInts P Ts = true) (hpos : 0 < Ts.length) (h : Leaf enc P w base spare held T (.slice a len cap)) :
    ∃ zs : List Int, zs.length = len * Ts.length ∧ Holds w w.heap.size a (zs.map (Value.int .i64)) ∧ len * P.bytesOf e ≤ 140737488351232 ∧ len ≤ cap ∧ cap ≤ maxLen ∧ ∀ z ∈ zs, (Lit.int .i64 z).wf = true := by
  rcases leaf_slice hu hf hC h with hn | ⟨ad, len', cap', hs, _, hl, hm, hsz, _, hc⟩
  · injection hn with h1 h2 h3
    subst h1; subst h2; subst h3
    exact ⟨[], by simp, Holds.nil, by simp, by omega, by simp [maxLen], by simp⟩
  · injection hs with h1 h2 h3
    subst h1; subst h2; subst h3
    have hx : ∀ q, q < len * Ts.length → ∃ z : Int, w.cell? (ad.add q) = some (.int .i64 z) ∧ (Lit.int .i64 z).wf = true := fun q hq => by
      have hdiv : q / Ts.length < len := Nat.div_lt_of_lt_mul (by rw [Nat.mul_comm]; exact hq)
      have hmod : q % Ts.length < Ts.length := Nat.mod_lt _ hpos
      have hj : Ts[q % Ts.length]? = some (Ts[q % Ts.length]'hmod) := List.getElem?_eq_getElem hmod
      obtain ⟨v, hv, hlf⟩ := hc _ hdiv _ _ hj
      obtain ⟨z, rfl, hw⟩ := leaf_int (allInts_at hi hj) hlf
      refine ⟨z, ?_, hw⟩
      rw [← hv]
      congr 2
      rw [Nat.mul_comm]
      exact (Nat.div_add_mod q Ts.length).symm
    obtain ⟨f, hf'⟩ := choose_lt hx
    refine ⟨(List.range (len * Ts.length)).map f, by simp, ?_, hsz, hl, hm, ?_⟩
    · intro hn
      simp only [List.length_map, List.length_range] at hn
      obtain ⟨b, off, spot⟩ := ad
      have h0 := (hf' 0 (by omega)).1
      have hspot : spot = none := by simpa [Addr.add] using World.cell?_spot h0
      subst hspot
      have hadd : ∀ j, (⟨b, off, none⟩ : Addr).add j = ⟨b, off + j, none⟩ := fun j => by unfold Addr.add; split <;> simp_all
      refine ⟨b, off, rfl, ?_, fun j hj => ?_⟩
      · rw [hadd] at h0
        exact block_lt_of_cell h0
      · have hj' : j < len * Ts.length := by simpa using hj
        rw [← hadd, (hf' j hj').1]
        simp [List.getD, hj']
    · intro z hz
      simp only [List.mem_map, List.mem_range] at hz
      obtain ⟨i, hi', rfl⟩ := hz
      exact (hf' i hi').2
/-- The same two, with the number of cells alone. -/
theorem slice_ints {T e : TypeId} {n L : Nat} {a : Option Addr} {len cap : Nat} (hu : P.underlying T = some (.slice e)) (hf : (flat P n e).map (fun l => (l.length, allInts P l)) = some (L, true)) (hC : P.cellsOf e = L) (hpos : 0 < L) (h : Arg enc P w base spare held T (.slice a len cap)) :
    ∃ zs : List Int, zs.length = len * L ∧ Holds w w.heap.size a (zs.map (Value.int .i64)) ∧ len * P.bytesOf e ≤ 140737488351232 ∧ len ≤ cap ∧ cap ≤ maxLen ∧ ∀ z ∈ zs, (Lit.int .i64 z).wf = true := by
  cases hq : flat P n e with
  | none => rw [hq] at hf; simp at hf
  | some Ts =>
    rw [hq] at hf
    simp at hf
    obtain ⟨rfl, hi⟩ := hf
    exact leaf_ints hu hq hC hi hpos h.leaf
theorem okWide_agg {T : TypeId} {r : Reach} {b0 : Nat} {v : Value} (hT : (match P.underlying T with | some (.struct _) => true | some (.array _ _) => true | _ => false) = true) (h : Value.okWide P w r b0 T v) : ∃ cs, v = .agg cs := by
  unfold Value.okWide at h
  split at h
  · obtain ⟨cs, h1, _⟩ := h; exact ⟨cs, h1⟩
  · obtain ⟨cs, h1, _⟩ := h; exact ⟨cs, h1⟩
  · rename_i h1 h2
    split at hT
    · rename_i hx; exact absurd hx (h1 _)
    · rename_i hx; exact absurd hx (h2 _ _)
    · cases hT
end
end Go.Proofs.YtkmmlcnoeeaekaaGreatDoor
