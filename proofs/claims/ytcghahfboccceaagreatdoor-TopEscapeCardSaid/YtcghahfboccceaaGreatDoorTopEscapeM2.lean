/- Several texts in one: Open. -/
import Derived.ProofKit
import Derived.OpenShut
import Derived.Deep.Slices
import Derived.SizedLaws
import Derived.Test.YtcghahfboccceaaGreatDoorTopEscapeM1
/- Arguments opened to their cells, whatever structs and arrays they are made of: a type's leaves, cell by cell. -/
namespace Go.Proofs.YtcghahfboccceaaGreatDoor
open Go.ChangeShapes Go.WideShapes Go.Deep
set_option linter.unusedVariables false

/-- The types of a type's cells, structs and arrays taken apart. -/
def flatFields (P : Program) (rec : TypeId → Option (List TypeId)) : List Field → Nat → Option (List TypeId)
  | [], _ => some []
  | f :: fs, off => if f.offset = off then (match rec f.type with
      | some l => if l.length = P.cellsOf f.type then (flatFields P rec fs (off + l.length)).map (l ++ ·) else none
      | none => none) else none
def flat (P : Program) : Nat → TypeId → Option (List TypeId)
  | 0, _ => none
  | n + 1, t => match P.underlying t with
    | some (.struct fs) => (match flatFields P (flat P n) fs.toList 0 with
      | some l => if l.length = P.cellsOf t then some l else none
      | none => none)
    | some (.array k e) => (match flat P n e with
      | some l => if l.length = P.cellsOf e ∧ k * P.cellsOf e = P.cellsOf t then some (List.replicate k l).flatten else none
      | none => none)
    | some (.int _) => some [t]
    | some .bool => some [t]
    | some .string => some [t]
    | some (.slice _) => some [t]
    | _ => none

section
variable {H : Type} {enc : TypeId × Value → H} {P : Program} {w : World} {base : Nat} {spare : Nat → Bool} {held : Bool}

/-- Nothing in what was read at the type T is greater than the form's reach. -/
def Fine (P : Program) (T : TypeId) (d : DataW H) : Prop := ∀ n ∈ d.weights P T, n ≤ reachBytes

/-- The cell c reads at the type T. -/
def Leaf (enc : TypeId × Value → H) (P : Program) (w : World) (base : Nat) (spare : Nat → Bool) (held : Bool) (T : TypeId) (c : Value) : Prop :=
  ∃ m y, DataW.trod enc P w base spare held m T [c] = some y ∧ Fine P T y.1

theorem weights_mem_all {e : TypeId} : ∀ {ds : List (DataW H)} {j : Nat} {d : DataW H}, ds[j]? = some d → ∀ n ∈ d.weights P e, n ∈ DataW.weightsAll P e ds
  | d0 :: ds, 0, d, hd, n, hn => by
    simp only [List.getElem?_cons_zero, Option.some.injEq] at hd
    subst hd
    simp only [DataW.weightsAll, List.mem_append]
    exact Or.inl hn
  | d0 :: ds, j + 1, d, hd, n, hn => by
    simp only [List.getElem?_cons_succ] at hd
    simp only [DataW.weightsAll, List.mem_append]
    exact Or.inr (weights_mem_all hd n hn)
  | [], _, _, hd, _, _ => by simp at hd
theorem Fine.field {t : TypeId} {fs : Array Field} {ds : List (DataW H)} (hu : P.underlying t = some (.struct fs)) (h : Fine P t (.agg ds)) {i : Nat} {f : Field} {d : DataW H} (hf : fs[i]? = some f) (hd : ds[i]? = some d) : Fine P f.type d := fun n hn =>
  h n (by
    simp only [DataW.weights, hu]
    exact DataW.weights_mem_each (j := i) (t := f.type) (by simp [hf]) hd n hn)
theorem Fine.part {t e : TypeId} {k : Nat} {ds : List (DataW H)} (hu : P.underlying t = some (.array k e)) (h : Fine P t (.agg ds)) {i : Nat} {d : DataW H} (hd : ds[i]? = some d) : Fine P e d := fun n hn =>
  h n (by
    simp only [DataW.weights, hu]
    exact weights_mem_all hd n hn)
theorem Fine.elem {t e : TypeId} {es sp : List (DataW H)} (hu : P.underlying t = some (.slice e)) (h : Fine P t (.slice es sp)) {i : Nat} {d : DataW H} (hd : es[i]? = some d) : Fine P e d := fun n hn =>
  h n (by
    simp only [DataW.weights, hu, List.mem_cons, List.mem_append]
    exact Or.inr (Or.inl (weights_mem_all hd n hn)))
theorem Fine.size {t e : TypeId} {es sp : List (DataW H)} (hu : P.underlying t = some (.slice e)) (h : Fine P t (.slice es sp)) : (es.length + sp.length) * P.bytesOf e ≤ reachBytes :=
  h _ (by simp only [DataW.weights, hu, List.mem_cons]; exact Or.inl trivial)
theorem fine_of_each {ts : List TypeId} {ds : List (DataW H)} (h : (DataW.weightsEach P ts ds).all (· ≤ reachBytes) = true) {j : Nat} {t : TypeId} {d : DataW H} (ht : ts[j]? = some t) (hd : ds[j]? = some d) : Fine P t d := fun n hn => by
  have := List.all_eq_true.1 h _ (DataW.weights_mem_each ht hd n hn)
  simpa using this

theorem flatten_get (l : List TypeId) (k : Nat) (hl : 0 < l.length) : ∀ (j : Nat) (T : TypeId), (List.replicate k l).flatten[j]? = some T → j / l.length < k ∧ l[j % l.length]? = some T := by
  induction k with
  | zero => intro j T h; simp at h
  | succ k ih =>
    intro j T h
    rw [List.replicate_succ, List.flatten_cons] at h
    by_cases hj : j < l.length
    · rw [List.getElem?_append_left hj] at h
      rw [Nat.div_eq_of_lt hj, Nat.mod_eq_of_lt hj]
      exact ⟨by omega, h⟩
    · rw [List.getElem?_append_right (by omega)] at h
      obtain ⟨h1, h2⟩ := ih _ _ h
      have e : j = (j - l.length) + l.length := by omega
      rw [e, Nat.add_div_right _ hl, Nat.add_mod_right]
      exact ⟨by omega, h2⟩

theorem one_of_int {T : TypeId} {fuel : Nat} {cs : List Value} {x : DataW H × List MemPlace} (hone : ∃ c, cs = [c]) (h : DataW.trod enc P w base spare held fuel T cs = some x) (hx : Fine P T x.1) :
    cs.length = 1 ∧ ∀ (j : Nat) (U : TypeId), [T][j]? = some U → ∃ c : Value, cs[j]? = some c ∧ Leaf enc P w base spare held U c := by
  obtain ⟨c, rfl⟩ := hone
  refine ⟨rfl, fun j U hj => ?_⟩
  match j, hj with
  | 0, hj =>
    simp at hj
    subst hj
    exact ⟨c, rfl, fuel, x, h, hx⟩

theorem open_flat (n : Nat) : ∀ (t : TypeId) (Ts : List TypeId) (fuel : Nat) (cs : List Value) (x : DataW H × List MemPlace),
    flat P n t = some Ts → DataW.trod enc P w base spare held fuel t cs = some x → Fine P t x.1 →
    cs.length = Ts.length ∧ ∀ (j : Nat) (U : TypeId), Ts[j]? = some U → ∃ c : Value, cs[j]? = some c ∧ Leaf enc P w base spare held U c := by
  induction n with
  | zero => intro t Ts fuel cs x h; simp [flat] at h
  | succ n ih =>
    intro t Ts fuel cs x h ht hfine
    unfold flat at h
    split at h
    · rename_i fs hu
      split at h
      · rename_i l hl
        split at h
        · rename_i hlen
          injection h with h
          subst h
          obtain ⟨xs, m, _, hx, hcl, hxl, hf⟩ := DataW.trod_struct hu ht
          refine ⟨by omega, ?_⟩
          have key : ∀ (fs' : List Field) (off : Nat) (l : List TypeId), (∀ f, f ∈ fs' → ∃ y, DataW.trod enc P w base spare held m f.type ((cs.drop f.offset).take (P.cellsOf f.type)) = some y ∧ Fine P f.type y.1) →
              flatFields P (flat P n) fs' off = some l → ∀ (j : Nat) (U : TypeId), l[j]? = some U → ∃ c : Value, cs[off + j]? = some c ∧ Leaf enc P w base spare held U c := by
            intro fs'
            induction fs' with
            | nil => intro off l _ hl j U hj; simp [flatFields] at hl; subst hl; simp at hj
            | cons f fs' ihf =>
              intro off l hp hl j U hj
              unfold flatFields at hl
              split at hl
              · rename_i hoff
                split at hl
                · rename_i lf hlf
                  split at hl
                  · rename_i hlen'
                    cases hrest : flatFields P (flat P n) fs' (off + lf.length) with
                    | none => rw [hrest] at hl; simp at hl
                    | some lr =>
                      rw [hrest] at hl
                      simp at hl
                      subst hl
                      obtain ⟨y, hy, hfy⟩ := hp f (by simp)
                      have hpiece := ih _ _ _ _ _ hlf hy hfy
                      by_cases hjl : j < lf.length
                      · rw [List.getElem?_append_left hjl] at hj
                        obtain ⟨c, hc, hleaf⟩ := hpiece.2 j U hj
                        refine ⟨c, ?_, hleaf⟩
                        rw [List.getElem?_take_of_lt (by omega), List.getElem?_drop] at hc
                        rw [← hoff]; exact hc
                      · rw [List.getElem?_append_right (by omega)] at hj
                        obtain ⟨c, hc, hleaf⟩ := ihf _ _ (fun g hg => hp g (by simp [hg])) hrest _ _ hj
                        refine ⟨c, ?_, hleaf⟩
                        rw [← hc]
                        congr 1
                        omega
                  · simp at hl
                · simp at hl
              · simp at hl
          intro j U hj
          have := key fs.toList 0 l (fun f hf' => by
            obtain ⟨i, hi, e⟩ := List.mem_iff_getElem.1 hf'
            have hi' : i < fs.size := by simpa using hi
            have hfi : fs[i]? = some f := by rw [Array.getElem?_eq_getElem hi']; simpa using e
            have := hf i f hfi
            have hxi : xs[i]? = some (xs[i]'(by omega)) := List.getElem?_eq_getElem (by omega)
            rw [hxi] at this
            refine ⟨_, this, ?_⟩
            rw [hx] at hfine
            exact Fine.field hu hfine hfi (by simp [hxi])) hl j U hj
          simpa using this
        · simp at h
      · simp at h
    · rename_i k e hu
      split at h
      · rename_i l hl
        split at h
        · rename_i hlen
          injection h with h
          subst h
          obtain ⟨xs, m, _, hx, hcl, hxl, hf⟩ := DataW.trod_array hu ht
          refine ⟨by simp; rw [hcl, ← hlen.2, hlen.1], ?_⟩
          intro j U hj
          have hpos : 0 < l.length := by
            rcases Nat.eq_zero_or_pos l.length with h0 | h0
            · have : l = [] := List.eq_nil_of_length_eq_zero h0
              subst this
              simp at hj
            · exact h0
          obtain ⟨h1, h2⟩ := flatten_get l k hpos j U hj
          have hp := hf (j / l.length) h1
          have hxi : xs[j / l.length]? = some (xs[j / l.length]'(by omega)) := List.getElem?_eq_getElem (by omega)
          rw [hxi] at hp
          rw [hx] at hfine
          obtain ⟨c, hc, hleaf⟩ := (ih _ _ _ _ _ hl hp (Fine.part hu hfine (i := j / l.length) (by simp [hxi]))).2 _ _ h2
          refine ⟨c, ?_, hleaf⟩
          rw [List.getElem?_take_of_lt (by rw [← hlen.1]; exact Nat.mod_lt _ hpos), List.getElem?_drop, ← hlen.1] at hc
          rw [← hc]
          congr 1
          rw [Nat.mul_comm]
          exact (Nat.div_add_mod j l.length).symm
        · simp at h
      · simp at h
    · rename_i k hu
      injection h with h
      subst h
      obtain ⟨c, hc, _⟩ := DataW.trod_int hu ht
      exact one_of_int ⟨_, hc⟩ ht hfine
    · rename_i hu
      injection h with h
      subst h
      obtain ⟨c, hc, _⟩ := DataW.trod_bool hu ht
      exact one_of_int ⟨_, hc⟩ ht hfine
    · rename_i hu
      injection h with h
      subst h
      obtain ⟨c, hc, _⟩ := DataW.trod_string hu ht
      exact one_of_int ⟨_, hc⟩ ht hfine
    · rename_i e hu
      injection h with h
      subst h
      rcases open_slice hu ht with ⟨hc, _⟩ | ⟨a, len, cap, m, _, _, _, hc, _⟩
      · exact one_of_int ⟨_, hc⟩ ht hfine
      · exact one_of_int ⟨_, hc⟩ ht hfine
    · simp at h

theorem leaf_int {T : TypeId} {k : IntKind} {c : Value} (hu : P.underlying T = some (.int k)) (h : Leaf enc P w base spare held T c) : ∃ n, c = .int k n ∧ (Lit.int k n).wf = true := by
  obtain ⟨m, y, h, _⟩ := h
  obtain ⟨n, hc, _, hw⟩ := DataW.trod_int hu h
  exact ⟨n, by simpa using hc, hw⟩
theorem leaf_bool {T : TypeId} {c : Value} (hu : P.underlying T = some .bool) (h : Leaf enc P w base spare held T c) : ∃ b, c = .bool b := by
  obtain ⟨m, y, h, _⟩ := h
  obtain ⟨n, hc, _⟩ := DataW.trod_bool hu h
  exact ⟨n, by simpa using hc⟩
theorem leaf_string {T : TypeId} {c : Value} (hu : P.underlying T = some .string) (h : Leaf enc P w base spare held T c) : ∃ s : ByteArray, c = .string s ∧ s.size ≤ maxLen ∧ s.size ≤ 140737488351232 := by
  obtain ⟨m, y, h, hf⟩ := h
  obtain ⟨n, hc, hy, hw⟩ := DataW.trod_string hu h
  subst hy
  have := hf n.data.toList.length (by simp [DataW.weights])
  exact ⟨n, by simpa using hc, hw, by simpa [reachBytes] using this⟩

/-- A slice of a type whose cells are known: nil, or a row of cells, each a leaf. -/
theorem leaf_slice {T e : TypeId} {n : Nat} {Ts : List TypeId} {c : Value} (hu : P.underlying T = some (.slice e)) (hf : flat P n e = some Ts) (hC : P.cellsOf e = Ts.length) (h : Leaf enc P w base spare held T c) :
    c = .slice none 0 0 ∨ ∃ (a : Addr) (len cap : Nat), c = .slice (some a) len cap ∧ base ≤ a.block ∧ len ≤ cap ∧ cap ≤ maxLen ∧ len * P.bytesOf e ≤ 140737488351232 ∧ (spare a.block = true → cap * P.bytesOf e ≤ 140737488351232) ∧
      ∀ (i : Nat), i < len → ∀ (j : Nat) (U : TypeId), Ts[j]? = some U → ∃ v : Value, w.cell? (a.add (i * Ts.length + j)) = some v ∧ Leaf enc P w base spare held U v := by
  obtain ⟨m, y, h, hfine⟩ := h
  rcases open_slice hu h with ⟨hc, _⟩ | ⟨a, len, cap, m, k, D, Pl, hc, hb, hl, hm, hmm, hx, hi⟩
  · exact .inl (by simpa using hc)
  · rw [hx] at hfine
    have hsz := Fine.size hu hfine
    have hlm : len ≤ m := by rw [hmm]; split <;> omega
    simp only [List.length_map, List.length_range, show len + (m - len) = m by omega] at hsz
    refine .inr ⟨a, len, cap, by simpa using hc, hb, hl, hm, ?_, ?_, fun i him j U hj => ?_⟩
    · exact Nat.le_trans (Nat.mul_le_mul_right _ hlm) hsz
    · intro hs
      rw [hs] at hmm
      simp only [if_true] at hmm
      rw [← hmm]; exact hsz
    obtain ⟨cs', h1, h2⟩ := hi i (by omega)
    obtain ⟨hl', hleaf⟩ := open_flat n e Ts k cs' _ hf h2 (Fine.elem hu hfine (i := i) (by simp [him]))
    obtain ⟨v, hv, hlf⟩ := hleaf j U hj
    obtain ⟨_, hcl, hat⟩ := World.cells?_some h1
    have hjl : j < Ts.length := by
      rcases Nat.lt_or_ge j Ts.length with h0 | h0
      · exact h0
      · rw [List.getElem?_eq_none h0] at hj; cases hj
    refine ⟨v, ?_, hlf⟩
    rw [← Go.Deep.add_add, ← hC, hat j (by omega), hv]

/-- Are all of some types ints? -/
def allInts (P : Program) (Ts : List TypeId) : Bool := Ts.all fun T => match P.underlying T with | some (.int .i64) => true | _ => false
theorem allInts_at {Ts : List TypeId} (h : allInts P Ts = true) {j : Nat} {U : TypeId} (hj : Ts[j]? = some U) : P.underlying U = some (.int .i64) := by
  have := List.all_eq_true.1 h U (List.mem_of_getElem? hj)
  split at this <;> simp_all
/-- Cells that are leaves of int types are ints. -/
theorem ints_of_leaves {Ts : List TypeId} {cs : List Value} (hi : allInts P Ts = true) (hl : cs.length = Ts.length) (h : ∀ (j : Nat) (U : TypeId), Ts[j]? = some U → ∃ c : Value, cs[j]? = some c ∧ Leaf enc P w base spare held U c) :
    ∃ zs : List Int, zs.length = Ts.length ∧ cs = zs.map (Value.int .i64) ∧ ∀ z ∈ zs, (Lit.int .i64 z).wf = true := by
  have hx : ∀ i, i < Ts.length → ∃ z : Int, cs[i]? = some (.int .i64 z) ∧ (Lit.int .i64 z).wf = true := fun i hi' => by
    have hj : Ts[i]? = some (Ts[i]'hi') := List.getElem?_eq_getElem hi'
    obtain ⟨c, hc, hlf⟩ := h i _ hj
    obtain ⟨z, rfl, hw⟩ := leaf_int (allInts_at hi hj) hlf
    exact ⟨z, hc, hw⟩
  obtain ⟨f, hf⟩ := choose_lt hx
  refine ⟨(List.range Ts.length).map f, by simp, ?_, ?_⟩
  · apply List.ext_getElem?
    intro i
    by_cases hi' : i < Ts.length
    · rw [(hf i hi').1]; simp [hi']
    · rw [List.getElem?_eq_none (by omega)]; simp [Nat.not_lt.1 hi']
  · intro z hz
    simp only [List.mem_map, List.mem_range] at hz
    obtain ⟨i, hi', rfl⟩ := hz
    exact (hf i hi').2

/-- An argument that came in. -/
def Arg (enc : TypeId × Value → H) (P : Program) (w : World) (base : Nat) (spare : Nat → Bool) (held : Bool) (T : TypeId) (v : Value) : Prop :=
  ∃ m y, DataW.trod enc P w base spare held m T v.cells.toList = some y ∧ Fine P T y.1
theorem arg_of {T : TypeId} {v : Value} {d : DataW H} {p : List MemPlace} (h : DataW.Trod enc P w base spare held T v d p) (hf : Fine P T d) : Arg enc P w base spare held T v := by
  obtain ⟨m, h⟩ := h
  exact ⟨m, _, h, hf⟩
theorem Arg.leaf {T : TypeId} {a : Option Addr} {len cap : Nat} (h : Arg enc P w base spare held T (.slice a len cap)) : Leaf enc P w base spare held T (.slice a len cap) := by
  obtain ⟨m, y, h, hf⟩ := h
  exact ⟨m, y, by simpa [Value.cells] using h, hf⟩
/-- A struct or an array of ints, by value. -/
theorem arg_ints {T : TypeId} {n : Nat} {Ts : List TypeId} {v : Value} (hf : flat P n T = some Ts) (hi : allInts P Ts = true) (hv : ∃ cs, v = .agg cs) (h : Arg enc P w base spare held T v) :
    ∃ zs : List Int, zs.length = Ts.length ∧ v = .agg (zs.map (Value.int .i64)).toArray ∧ ∀ z ∈ zs, (Lit.int .i64 z).wf = true := by
  obtain ⟨cs, rfl⟩ := hv
  obtain ⟨m, y, h, hfine⟩ := h
  obtain ⟨hl, hleaf⟩ := open_flat n T Ts m _ _ hf h hfine
  obtain ⟨zs, h1, h2, h3⟩ := ints_of_leaves hi hl hleaf
  exact ⟨zs, h1, by rw [← h2]; simp [Value.cells], h3⟩
/-- A slice of ints, or of structs or arrays of ints. -/
theorem leaf_ints {T e : TypeId} {n : Nat} {Ts : List TypeId} {a : Option Addr} {len cap : Nat} (hu : P.underlying T = some (.slice e)) (hf : flat P n e = some Ts) (hC : P.cellsOf e = Ts.length) (hi : allInts P Ts = true) (hpos : 0 < Ts.length) (h : Leaf enc P w base spare held T (.slice a len cap)) :
    ∃ zs : List Int, zs.length = len * Ts.length ∧ Holds w w.heap.size a (zs.map (Value.int .i64)) ∧ len * P.bytesOf e ≤ 140737488351232 ∧ len ≤ cap ∧ cap ≤ maxLen ∧ ∀ z ∈ zs, (Lit.int .i64 z).wf = true := by
  rcases leaf_slice hu hf hC h with hn | ⟨ad, len', cap', hs, _, hl, hm, hsz, _, hc⟩
  · injection hn with h1 h2 h3
    subst h1; subst h2; subst h3
    exact ⟨[], by simp, Holds.nil, by simp, by omega, by simp [maxLen], by simp⟩
  · injection hs with h1 h2 h3
    subst h1; subst h2; subst h3
    have hx : ∀ q, q < len * Ts.length → ∃ z : Int, w.cell? (ad.add q) = some (.int .i64 z) ∧ (Lit.int .i64 z).wf = true := fun q hq => by
      have hdiv : q / Ts.length < len := Nat.div_lt_of_lt_mul (by rw [Nat.mul_comm]; exact hq)
      have hmod : q % Ts.length < Ts.length := Nat.mod_lt _ hpos
      have hj : Ts[q % Ts.length]? = some (Ts[q % Ts.length]'hmod) := List.getElem?_eq_getElem hmod
      obtain ⟨v, hv, hlf⟩ := hc _ hdiv _ _ hj
      obtain ⟨z, rfl, hw⟩ := leaf_int (allInts_at hi hj) hlf
      refine ⟨z, ?_, hw⟩
      rw [← hv]
      congr 2
      rw [Nat.mul_comm]
      exact (Nat.div_add_mod q Ts.length).symm
    obtain ⟨f, hf'⟩ := choose_lt hx
    refine ⟨(List.range (len * Ts.length)).map f, by simp, ?_, hsz, hl, hm, ?_⟩
    · intro hn
      simp only [List.length_map, List.length_range] at hn
      obtain ⟨b, off, spot⟩ := ad
      have h0 := (hf' 0 (by omega)).1
      have hspot : spot = none := by simpa [Addr.add] using World.cell?_spot h0
      subst hspot
      have hadd : ∀ j, (⟨b, off, none⟩ : Addr).add j = ⟨b, off + j, none⟩ := fun j => by unfold Addr.add; split <;> simp_all
      refine ⟨b, off, rfl, ?_, fun j hj => ?_⟩
      · rw [hadd] at h0
        exact block_lt_of_cell h0
      · have hj' : j < len * Ts.length := by simpa using hj
        rw [← hadd, (hf' j hj').1]
        simp [List.getD, hj']
    · intro z hz
      simp only [List.mem_map, List.mem_range] at hz
      obtain ⟨i, hi', rfl⟩ := hz
      exact (hf' i hi').2
/-- The same two, with the number of cells alone. -/
theorem slice_ints {T e : TypeId} {n L : Nat} {a : Option Addr} {len cap : Nat} (hu : P.underlying T = some (.slice e)) (hf : (flat P n e).map (fun l => (l.length, allInts P l)) = some (L, true)) (hC : P.cellsOf e = L) (hpos : 0 < L) (h : Arg enc P w base spare held T (.slice a len cap)) :
    ∃ zs : List Int, zs.length = len * L ∧ Holds w w.heap.size a (zs.map (Value.int .i64)) ∧ len * P.bytesOf e ≤ 140737488351232 ∧ len ≤ cap ∧ cap ≤ maxLen ∧ ∀ z ∈ zs, (Lit.int .i64 z).wf = true := by
  cases hq : flat P n e with
  | none => rw [hq] at hf; simp at hf
  | some Ts =>
    rw [hq] at hf
    simp at hf
    obtain ⟨rfl, hi⟩ := hf
    exact leaf_ints hu hq hC hi hpos h.leaf
theorem value_ints {T : TypeId} {n L : Nat} {v : Value} (hf : (flat P n T).map (fun l => (l.length, allInts P l)) = some (L, true)) (hv : ∃ cs, v = .agg cs) (h : Arg enc P w base spare held T v) :
    ∃ zs : List Int, zs.length = L ∧ v = .agg (zs.map (Value.int .i64)).toArray ∧ ∀ z ∈ zs, (Lit.int .i64 z).wf = true := by
  cases hq : flat P n T with
  | none => rw [hq] at hf; simp at hf
  | some Ts =>
    rw [hq] at hf
    simp at hf
    obtain ⟨rfl, hi⟩ := hf
    exact arg_ints hq hi hv h
theorem string_leaf {T : TypeId} {r : Reach} {b0 : Nat} {v : Value} (hu : P.underlying T = some .string) (hv : Value.okWide P w r b0 T v) (h : Arg enc P w base spare held T v) : Leaf enc P w base spare held T v := by
  obtain ⟨s, rfl⟩ := okWide_string hu hv
  obtain ⟨m, y, h, hf⟩ := h
  exact ⟨m, y, by simpa [Value.cells] using h, hf⟩
theorem okWide_agg {T : TypeId} {r : Reach} {b0 : Nat} {v : Value} (hT : (match P.underlying T with | some (.struct _) => true | some (.array _ _) => true | _ => false) = true) (h : Value.okWide P w r b0 T v) : ∃ cs, v = .agg cs := by
  unfold Value.okWide at h
  split at h
  · obtain ⟨cs, h1, _⟩ := h; exact ⟨cs, h1⟩
  · obtain ⟨cs, h1, _⟩ := h; exact ⟨cs, h1⟩
  · rename_i h1 h2
    split at hT
    · rename_i hx; exact absurd hx (h1 _)
    · rename_i hx; exact absurd hx (h2 _ _)
    · cases hT
end
end Go.Proofs.YtcghahfboccceaaGreatDoor
