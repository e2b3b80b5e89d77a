/- Several texts in one: FragV, OpenLay. -/
import Derived.Test.YtkmmlcnoeeaekaaGreatDoorHitAllM3
import Derived.Test.YtkmmlcnoeeaekaaGreatDoorHitAllM4
import Derived.Test.YtkmmlcnoeeaekaaGreatDoorRows
/- Fragments that came in: their cells. -/
namespace Go.Proofs.YtkmmlcnoeeaekaaGreatDoor
open Go.RowKit
set_option linter.unusedVariables false

structure FragV where
  box : Int
  node : Int
  par : Int
  x : Int
  y : Int
  w : Int
  h : Int
  text : ByteArray
def fragC (f : FragV) : Array Value := #[.int .i64 f.box, .int .i64 f.node, .int .i64 f.par, .int .i64 f.x, .int .i64 f.y, .int .i64 f.w, .int .i64 f.h, .string f.text]
def FragV.zero : FragV := ⟨0, 0, 0, 0, 0, 0, 0, ByteArray.empty⟩
def fragF (f : FragV) : List Value := (fragC f).toList
theorem fragF_len (f : FragV) : (fragF f).length = 8 := rfl
def fr (fs : List FragV) (i : Nat) : FragV := fs.getD i FragV.zero
/-- The slice at A holds the fragments fs, below block B. -/
def Frags (w : World) (B : Nat) (A : Option Addr) (fs : List FragV) : Prop := Holds w B A (fs.flatMap fragF)
theorem Frags.below {w w' : World} {B B' : Nat} {A : Option Addr} {fs : List FragV} (h : Frags w B A fs) (hb : Below B' w w') (hB : B ≤ B') : Frags w' B A fs := Holds.below h hb hB
theorem Frags.at_ {w : World} {B : Nat} {A : Option Addr} {fs : List FragV} (h : Frags w B A fs) {k : Nat} (hk : k < fs.length) : ∃ b off, A = some ⟨b, off, none⟩ ∧ b < B ∧
    w.cell? ⟨b, off + k * 8, none⟩ = some (.int .i64 (fr fs k).box) ∧ w.cell? ⟨b, off + k * 8 + 1, none⟩ = some (.int .i64 (fr fs k).node) ∧ w.cell? ⟨b, off + k * 8 + 2, none⟩ = some (.int .i64 (fr fs k).par) ∧
    w.cell? ⟨b, off + k * 8 + 3, none⟩ = some (.int .i64 (fr fs k).x) ∧ w.cell? ⟨b, off + k * 8 + 4, none⟩ = some (.int .i64 (fr fs k).y) ∧ w.cell? ⟨b, off + k * 8 + 5, none⟩ = some (.int .i64 (fr fs k).w) ∧
    w.cell? ⟨b, off + k * 8 + 6, none⟩ = some (.int .i64 (fr fs k).h) ∧ w.cell? ⟨b, off + k * 8 + 7, none⟩ = some (.string (fr fs k).text) := by
  obtain ⟨b, off, e, hb, hc⟩ := Holds.flatL h 8 fragF_len (by decide) FragV.zero hk
  exact ⟨b, off, e, hb, hc 0 _ rfl, hc 1 _ rfl, hc 2 _ rfl, hc 3 _ rfl, hc 4 _ rfl, hc 5 _ rfl, hc 6 _ rfl, hc 7 _ rfl⟩
/-- May a fragment be? -/
def fragOk (bs : List BoxV) (i : Nat) (f : FragV) : Prop := 0 ≤ f.box ∧ f.box < bs.length ∧ f.node = (bx bs f.box.toNat).node ∧ (i = 0 → f.par = -1) ∧ (0 < i → 0 ≤ f.par ∧ f.par < i)
def FragsOk (bs : List BoxV) (fs : List FragV) : Prop := (∀ i, i < fs.length → fragOk bs i (fr fs i)) ∧ 0 < fs.length ∧ (fr fs 0).box = 0
def LayOk (bs : List BoxV) (fs : List FragV) : Prop := BoxesOk bs ∧ FragsOk bs fs
noncomputable def layE (bs : List BoxV) (fs : List FragV) : Int := @ite _ (LayOk bs fs) (Classical.propDecidable _) 0 3
theorem layE_no {bs : List BoxV} {fs : List FragV} (h : ¬ LayOk bs fs) : layE bs fs = 3 := by unfold layE; rw [if_neg h]
theorem layE_yes {bs : List BoxV} {fs : List FragV} (h : LayOk bs fs) : layE bs fs = 0 := by unfold layE; rw [if_pos h]
theorem layE_frag {bs : List BoxV} {fs : List FragV} {k : Nat} (hk : k < fs.length) (h : ¬ fragOk bs k (fr fs k)) : layE bs fs = 3 := layE_no fun h' => h (h'.2.1 k hk)
end Go.Proofs.YtkmmlcnoeeaekaaGreatDoor
/- A layout that came in, by value: its slices, its fragments; what its bulk bounds. -/
namespace Go.Proofs.YtkmmlcnoeeaekaaGreatDoor
open Go.ChangeShapes Go.WideShapes Go.Deep
set_option linter.unusedVariables false
section
variable {H : Type} {enc : TypeId × Value → H} {P : Program} {w : World} {base : Nat} {spare : Nat → Bool} {held : Bool}
theorem Leaf.arg {T : TypeId} {a : Option Addr} {len cap : Nat} (h : Leaf enc P w base spare held T (.slice a len cap)) : Arg enc P w base spare held T (.slice a len cap) := by
  obtain ⟨m, y, h, hf⟩ := h
  exact ⟨m, y, by simpa [Value.cells] using h, hf⟩
theorem choose_under {α : Type} [Inhabited α] {n : Nat} {p : Nat → α → Prop} (h : ∀ i, i < n → ∃ x, p i x) : ∃ f : Nat → α, ∀ i, i < n → p i (f i) :=
  ⟨fun i => if hi : i < n then (h i hi).choose else default, fun i hi => by simp only [hi, dif_pos]; exact (h i hi).choose_spec⟩
theorem frags_len (l : List FragV) : (l.flatMap fragF).length = l.length * 8 := by
  induction l with
  | nil => rfl
  | cons s l ih => rw [List.flatMap_cons, List.length_append, ih, fragF_len, List.length_cons]; omega
theorem frags_of (f : Nat → FragV) : ∀ (n : Nat) (k : Nat), k < n * 8 → (((List.range n).map f).flatMap fragF)[k]? = (fragF (f (k / 8)))[k % 8]?
  | 0, k, h => by omega
  | n + 1, k, h => by
    have hl : (((List.range n).map f).flatMap fragF).length = n * 8 := by rw [frags_len]; simp
    rw [List.range_succ, List.map_append, List.map_cons, List.map_nil, List.flatMap_append]
    by_cases hk : k < n * 8
    · rw [List.getElem?_append_left (by omega)]
      exact frags_of f n k hk
    · rw [List.getElem?_append_right (by omega), hl]
      have e1 : k / 8 = n := by omega
      have e2 : k % 8 = k - n * 8 := by omega
      rw [e1, e2]
      simp
theorem open_frags {T e I S : TypeId} {n : Nat} {a : Option Addr} {len cap : Nat} (hu : P.underlying T = some (.slice e)) (hf : flat P n e = some [I, I, I, I, I, I, I, S]) (hC : P.cellsOf e = 8)
    (hI : P.underlying I = some (.int .i64)) (hS : P.underlying S = some .string) (h : Arg enc P w base spare held T (.slice a len cap)) :
    ∃ l : List FragV, l.length = len ∧ Frags w w.heap.size a l := by
  rcases leaf_slice hu hf hC h.leaf with hn | ⟨ad, len', cap', hs, _, hl, hm, hsz, _, hc⟩
  · injection hn with h1 h2 h3
    subst h1; subst h2; subst h3
    exact ⟨[], rfl, Holds.nil⟩
  · injection hs with h1 h2 h3
    subst h1; subst h2; subst h3
    haveI : Inhabited FragV := ⟨FragV.zero⟩
    have hx : ∀ i, i < len → ∃ x : FragV, ∀ j u, (fragF x)[j]? = some u → w.cell? (ad.add (i * 8 + j)) = some u := fun i hi => by
      obtain ⟨v0, c0, l0⟩ := hc i hi 0 I rfl
      obtain ⟨v1, c1, l1⟩ := hc i hi 1 I rfl
      obtain ⟨v2, c2, l2⟩ := hc i hi 2 I rfl
      obtain ⟨v3, c3, l3⟩ := hc i hi 3 I rfl
      obtain ⟨v4, c4, l4⟩ := hc i hi 4 I rfl
      obtain ⟨v5, c5, l5⟩ := hc i hi 5 I rfl
      obtain ⟨v6, c6, l6⟩ := hc i hi 6 I rfl
      obtain ⟨v7, c7, l7⟩ := hc i hi 7 S rfl
      obtain ⟨z0, rfl, _⟩ := leaf_int hI l0
      obtain ⟨z1, rfl, _⟩ := leaf_int hI l1
      obtain ⟨z2, rfl, _⟩ := leaf_int hI l2
      obtain ⟨z3, rfl, _⟩ := leaf_int hI l3
      obtain ⟨z4, rfl, _⟩ := leaf_int hI l4
      obtain ⟨z5, rfl, _⟩ := leaf_int hI l5
      obtain ⟨z6, rfl, _⟩ := leaf_int hI l6
      obtain ⟨s, rfl, _, _⟩ := leaf_string hS l7
      refine ⟨⟨z0, z1, z2, z3, z4, z5, z6, s⟩, fun j u hu' => ?_⟩
      match j, hu' with
      | 0, hu' => cases hu'; exact c0
      | 1, hu' => cases hu'; exact c1
      | 2, hu' => cases hu'; exact c2
      | 3, hu' => cases hu'; exact c3
      | 4, hu' => cases hu'; exact c4
      | 5, hu' => cases hu'; exact c5
      | 6, hu' => cases hu'; exact c6
      | 7, hu' => cases hu'; exact c7
      | j + 8, hu' => rw [List.getElem?_eq_none (by simp [fragF, fragC])] at hu'; cases hu'
    obtain ⟨f, hf'⟩ := choose_under hx
    refine ⟨(List.range len).map f, by simp, fun hn => ?_⟩
    obtain ⟨b, off, spot⟩ := ad
    have hlen : (((List.range len).map f).flatMap fragF).length = len * 8 := by rw [frags_len]; simp
    have h0 : w.cell? (Addr.add ⟨b, off, spot⟩ (0 * 8 + 0)) = some (.int .i64 (f 0).box) := hf' 0 (by omega) 0 _ rfl
    have hspot : spot = none := by simpa [Addr.add] using World.cell?_spot h0
    subst hspot
    have hadd : ∀ j, (⟨b, off, none⟩ : Addr).add j = ⟨b, off + j, none⟩ := fun j => by unfold Addr.add; split <;> simp_all
    rw [hadd] at h0
    refine ⟨b, off, rfl, block_lt_of_cell h0, fun k hk => ?_⟩
    rw [hlen] at hk
    have h1 := frags_of f len k hk
    have hk9 : k % 8 < (fragF (f (k / 8))).length := by show k % 8 < 8; omega
    have h2 := hf' (k / 8) (by omega) (k % 8) _ (List.getElem?_eq_getElem hk9)
    rw [hadd, show k / 8 * 8 + k % 8 = k from by omega] at h2
    rw [h2]
    rw [List.getD, h1, List.getElem?_eq_getElem hk9]
    rfl
theorem bulk_in {d : DataW H} : ∀ {ds : List (DataW H)} {j : Nat}, ds[j]? = some d → Rows.uptoBulk d ≤ Rows.uptoBulkAll ds
  | [], j, h => by simp at h
  | e :: ds, 0, h => by simp at h; subst h; simp [Rows.uptoBulkAll]
  | e :: ds, j + 1, h => by
    have := bulk_in (ds := ds) (j := j) (by simpa using h)
    simp [Rows.uptoBulkAll]; omega
/-- A struct of four one-cell fields: each field's cell, what was read there, and its bulk. -/
theorem open_four {T : TypeId} {fs : Array Field} {A B C D : TypeId} {cs : Array Value} {d : DataW H} {p : List MemPlace} (hu : P.underlying T = some (.struct fs)) (hfs : fs.toList.map (fun f => (f.offset, f.type)) = [(0, A), (1, B), (2, C), (3, D)]) (hc : P.cellsOf T = 4)
    (hA : P.cellsOf A = 1) (hB : P.cellsOf B = 1) (hC : P.cellsOf C = 1) (hD : P.cellsOf D = 1) (h : DataW.Trod enc P w base spare held T (.agg cs) d p) (hfine : Fine P T d) :
    ∃ c0 c1 c2 c3, cs = #[c0, c1, c2, c3] ∧ (∃ m y, DataW.trod enc P w base spare held m A [c0] = some y ∧ Fine P A y.1 ∧ Rows.uptoBulk y.1 ≤ Rows.uptoBulk d) ∧ (∃ m y, DataW.trod enc P w base spare held m B [c1] = some y ∧ Fine P B y.1 ∧ Rows.uptoBulk y.1 ≤ Rows.uptoBulk d) ∧
      Leaf enc P w base spare held C c2 ∧ Leaf enc P w base spare held D c3 := by
  obtain ⟨m, h⟩ := h
  have h : DataW.trod enc P w base spare held m T cs.toList = some (d, p) := by simpa [Value.cells] using h
  obtain ⟨xs, n, _, hx, hcl, hxl, hf⟩ := DataW.trod_struct hu h
  rw [hc] at hcl
  have hd : d = .agg (xs.map (·.1)) := congrArg Prod.fst hx
  have hsz : fs.size = 4 := by have := congrArg List.length hfs; simpa using this
  have hfd : ∀ (j : Nat) (o : Nat) (U : TypeId), [(0, A), (1, B), (2, C), (3, D)][j]? = some (o, U) → ∃ y, DataW.trod enc P w base spare held n U ((cs.toList.drop o).take (P.cellsOf U)) = some y ∧ Fine P U y.1 ∧ Rows.uptoBulk y.1 ≤ Rows.uptoBulk d := fun j o U hj => by
    rw [← hfs, List.getElem?_map] at hj
    cases hfj : fs.toList[j]? with
    | none => rw [hfj] at hj; cases hj
    | some f =>
      rw [hfj] at hj
      injection hj with hj
      injection hj with h1 h2
      subst h1; subst h2
      have hfj' : fs[j]? = some f := by simpa using hfj
      have hj4 : j < xs.length := by
        have := (Array.getElem?_eq_some_iff.1 hfj').1
        omega
      have h3 := hf j f hfj'
      have hxi : xs[j]? = some xs[j] := List.getElem?_eq_getElem hj4
      rw [hxi] at h3
      refine ⟨_, h3, ?_, ?_⟩
      · rw [hd] at hfine
        exact Fine.field hu hfine hfj' (by simp [hxi])
      · rw [hd]
        have := bulk_in (ds := xs.map (·.1)) (j := j) (d := xs[j].1) (by simp [hxi])
        simp only [Rows.uptoBulk]; omega
  obtain ⟨l⟩ := cs
  match l, hcl with
  | [c0, c1, c2, c3], _ =>
    obtain ⟨y0, a0, b0, k0⟩ := hfd 0 0 A rfl
    obtain ⟨y1, a1, b1, k1⟩ := hfd 1 1 B rfl
    obtain ⟨y2, a2, b2, _⟩ := hfd 2 2 C rfl
    obtain ⟨y3, a3, b3, _⟩ := hfd 3 3 D rfl
    rw [hA] at a0
    rw [hB] at a1
    rw [hC] at a2
    rw [hD] at a3
    exact ⟨c0, c1, c2, c3, rfl, ⟨n, y0, a0, b0, k0⟩, ⟨n, y1, a1, b1, k1⟩, ⟨n, y2, a2, b2⟩, ⟨n, y3, a3, b3⟩⟩
theorem slice_val {T e : TypeId} {n : Nat} {Ts : List TypeId} {c : Value} (hu : P.underlying T = some (.slice e)) (hf : flat P n e = some Ts) (hC : P.cellsOf e = Ts.length) (h : Leaf enc P w base spare held T c) : ∃ a len cap, c = .slice a len cap := by
  rcases leaf_slice hu hf hC h with rfl | ⟨ka, kl, kc, rfl, _⟩
  · exact ⟨_, _, _, rfl⟩
  · exact ⟨_, _, _, rfl⟩
end
end Go.Proofs.YtkmmlcnoeeaekaaGreatDoor
