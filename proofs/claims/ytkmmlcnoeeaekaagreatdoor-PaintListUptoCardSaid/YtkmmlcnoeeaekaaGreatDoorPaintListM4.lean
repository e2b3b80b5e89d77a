/- Several texts in one: FragV, OpenLay, LooksPlain, DomV. -/
import Derived.Test.YtkmmlcnoeeaekaaGreatDoorPaintListM2
import Derived.Test.YtkmmlcnoeeaekaaGreatDoorPaintListM3
import Derived.Test.YtkmmlcnoeeaekaaGreatDoorRows
import Derived.Lib.SplitLaws
import Derived.Shelf.Strings.SlTrimAscii
/- Fragments that came in: their cells. -/
namespace Go.Proofs.YtkmmlcnoeeaekaaGreatDoor
open Go.RowKit
set_option linter.unusedVariables false

structure FragV where
  box : Int
  node : Int
  par : Int
  x : Int
  y : Int
  w : Int
  h : Int
  text : ByteArray
def fragC (f : FragV) : Array Value := #[.int .i64 f.box, .int .i64 f.node, .int .i64 f.par, .int .i64 f.x, .int .i64 f.y, .int .i64 f.w, .int .i64 f.h, .string f.text]
def FragV.zero : FragV := ⟨0, 0, 0, 0, 0, 0, 0, ByteArray.empty⟩
def fragF (f : FragV) : List Value := (fragC f).toList
theorem fragF_len (f : FragV) : (fragF f).length = 8 := rfl
def fr (fs : List FragV) (i : Nat) : FragV := fs.getD i FragV.zero
/-- The slice at A holds the fragments fs, below block B. -/
def Frags (w : World) (B : Nat) (A : Option Addr) (fs : List FragV) : Prop := Holds w B A (fs.flatMap fragF)
theorem Frags.below {w w' : World} {B B' : Nat} {A : Option Addr} {fs : List FragV} (h : Frags w B A fs) (hb : Below B' w w') (hB : B ≤ B') : Frags w' B A fs := Holds.below h hb hB
theorem Frags.at_ {w : World} {B : Nat} {A : Option Addr} {fs : List FragV} (h : Frags w B A fs) {k : Nat} (hk : k < fs.length) : ∃ b off, A = some ⟨b, off, none⟩ ∧ b < B ∧
    w.cell? ⟨b, off + k * 8, none⟩ = some (.int .i64 (fr fs k).box) ∧ w.cell? ⟨b, off + k * 8 + 1, none⟩ = some (.int .i64 (fr fs k).node) ∧ w.cell? ⟨b, off + k * 8 + 2, none⟩ = some (.int .i64 (fr fs k).par) ∧
    w.cell? ⟨b, off + k * 8 + 3, none⟩ = some (.int .i64 (fr fs k).x) ∧ w.cell? ⟨b, off + k * 8 + 4, none⟩ = some (.int .i64 (fr fs k).y) ∧ w.cell? ⟨b, off + k * 8 + 5, none⟩ = some (.int .i64 (fr fs k).w) ∧
    w.cell? ⟨b, off + k * 8 + 6, none⟩ = some (.int .i64 (fr fs k).h) ∧ w.cell? ⟨b, off + k * 8 + 7, none⟩ = some (.string (fr fs k).text) := by
  obtain ⟨b, off, e, hb, hc⟩ := Holds.flatL h 8 fragF_len (by decide) FragV.zero hk
  exact ⟨b, off, e, hb, hc 0 _ rfl, hc 1 _ rfl, hc 2 _ rfl, hc 3 _ rfl, hc 4 _ rfl, hc 5 _ rfl, hc 6 _ rfl, hc 7 _ rfl⟩
/-- May a fragment be? -/
def fragOk (bs : List BoxV) (i : Nat) (f : FragV) : Prop := 0 ≤ f.box ∧ f.box < bs.length ∧ f.node = (bx bs f.box.toNat).node ∧ (i = 0 → f.par = -1) ∧ (0 < i → 0 ≤ f.par ∧ f.par < i)
def FragsOk (bs : List BoxV) (fs : List FragV) : Prop := (∀ i, i < fs.length → fragOk bs i (fr fs i)) ∧ 0 < fs.length ∧ (fr fs 0).box = 0
def LayOk (bs : List BoxV) (fs : List FragV) : Prop := BoxesOk bs ∧ FragsOk bs fs
noncomputable def layE (bs : List BoxV) (fs : List FragV) : Int := @ite _ (LayOk bs fs) (Classical.propDecidable _) 0 3
theorem layE_no {bs : List BoxV} {fs : List FragV} (h : ¬ LayOk bs fs) : layE bs fs = 3 := by unfold layE; rw [if_neg h]
theorem layE_yes {bs : List BoxV} {fs : List FragV} (h : LayOk bs fs) : layE bs fs = 0 := by unfold layE; rw [if_pos h]
theorem layE_frag {bs : List BoxV} {fs : List FragV} {k : Nat} (hk : k < fs.length) (h : ¬ fragOk bs k (fr fs k)) : layE bs fs = 3 := layE_no fun h' => h (h'.2.1 k hk)
end Go.Proofs.YtkmmlcnoeeaekaaGreatDoor
/- A layout that came in, by value: its slices, its fragments; what its bulk bounds. -/
namespace Go.Proofs.YtkmmlcnoeeaekaaGreatDoor
open Go.ChangeShapes Go.WideShapes Go.Deep
set_option linter.unusedVariables false
section
variable {H : Type} {enc : TypeId × Value → H} {P : Program} {w : World} {base : Nat} {spare : Nat → Bool} {held : Bool}
theorem Leaf.arg {T : TypeId} {a : Option Addr} {len cap : Nat} (h : Leaf enc P w base spare held T (.slice a len cap)) : Arg enc P w base spare held T (.slice a len cap) := by
  obtain ⟨m, y, h, hf⟩ := h
  exact ⟨m, y, by simpa [Value.cells] using h, hf⟩
theorem choose_under {α : Type} [Inhabited α] {n : Nat} {p : Nat → α → Prop} (h : ∀ i, i < n → ∃ x, p i x) : ∃ f : Nat → α, ∀ i, i < n → p i (f i) :=
  ⟨fun i => if hi : i < n then (h i hi).choose else default, fun i hi => by simp only [hi, dif_pos]; exact (h i hi).choose_spec⟩
theorem frags_len (l : List FragV) : (l.flatMap fragF).length = l.length * 8 := by
  induction l with
  | nil => rfl
  | cons s l ih => rw [List.flatMap_cons, List.length_append, ih, fragF_len, List.length_cons]; omega
theorem frags_of (f : Nat → FragV) : ∀ (n : Nat) (k : Nat), k < n * 8 → (((List.range n).map f).flatMap fragF)[k]? = (fragF (f (k / 8)))[k % 8]?
  | 0, k, h => by omega
  | n + 1, k, h => by
    have hl : (((List.range n).map f).flatMap fragF).length = n * 8 := by rw [frags_len]; simp
    rw [List.range_succ, List.map_append, List.map_cons, List.map_nil, List.flatMap_append]
    by_cases hk : k < n * 8
    · rw [List.getElem?_append_left (by omega)]
      exact frags_of f n k hk
    · rw [List.getElem?_append_right (by omega), hl]
      have e1 : k / 8 = n := by omega
      have e2 : k % 8 = k - n * 8 := by omega
      rw [e1, e2]
      simp
theorem open_frags {T e I S : TypeId} {n : Nat} {a : Option Addr} {len cap : Nat} (hu : P.underlying T = some (.slice e)) (hf : flat P n e = some [I, I, I, I, I, I, I, S]) (hC : P.cellsOf e = 8)
    (hI : P.underlying I = some (.int .i64)) (hS : P.underlying S = some .string) (h : Arg enc P w base spare held T (.slice a len cap)) :
    ∃ l : List FragV, l.length = len ∧ Frags w w.heap.size a l := by
  rcases leaf_slice hu hf hC h.leaf with hn | ⟨ad, len', cap', hs, _, hl, hm, hsz, _, hc⟩
  · injection hn with h1 h2 h3
    subst h1; subst h2; subst h3
    exact ⟨[], rfl, Holds.nil⟩
  · injection hs with h1 h2 h3
    subst h1; subst h2; subst h3
    haveI : Inhabited FragV := ⟨FragV.zero⟩
    have hx : ∀ i, i < len → ∃ x : FragV, ∀ j u, (fragF x)[j]? = some u → w.cell? (ad.add (i * 8 + j)) = some u := fun i hi => by
      obtain ⟨v0, c0, l0⟩ := hc i hi 0 I rfl
      obtain ⟨v1, c1, l1⟩ := hc i hi 1 I rfl
      obtain ⟨v2, c2, l2⟩ := hc i hi 2 I rfl
      obtain ⟨v3, c3, l3⟩ := hc i hi 3 I rfl
      obtain ⟨v4, c4, l4⟩ := hc i hi 4 I rfl
      obtain ⟨v5, c5, l5⟩ := hc i hi 5 I rfl
      obtain ⟨v6, c6, l6⟩ := hc i hi 6 I rfl
      obtain ⟨v7, c7, l7⟩ := hc i hi 7 S rfl
      obtain ⟨z0, rfl, _⟩ := leaf_int hI l0
      obtain ⟨z1, rfl, _⟩ := leaf_int hI l1
      obtain ⟨z2, rfl, _⟩ := leaf_int hI l2
      obtain ⟨z3, rfl, _⟩ := leaf_int hI l3
      obtain ⟨z4, rfl, _⟩ := leaf_int hI l4
      obtain ⟨z5, rfl, _⟩ := leaf_int hI l5
      obtain ⟨z6, rfl, _⟩ := leaf_int hI l6
      obtain ⟨s, rfl, _, _⟩ := leaf_string hS l7
      refine ⟨⟨z0, z1, z2, z3, z4, z5, z6, s⟩, fun j u hu' => ?_⟩
      match j, hu' with
      | 0, hu' => cases hu'; exact c0
      | 1, hu' => cases hu'; exact c1
      | 2, hu' => cases hu'; exact c2
      | 3, hu' => cases hu'; exact c3
      | 4, hu' => cases hu'; exact c4
      | 5, hu' => cases hu'; exact c5
      | 6, hu' => cases hu'; exact c6
      | 7, hu' => cases hu'; exact c7
      | j + 8, hu' => rw [List.getElem?_eq_none (by simp [fragF, fragC])] at hu'; cases hu'
    obtain ⟨f, hf'⟩ := choose_under hx
    refine ⟨(List.range len).map f, by simp, fun hn => ?_⟩
    obtain ⟨b, off, spot⟩ := ad
    have hlen : (((List.range len).map f).flatMap fragF).length = len * 8 := by rw [frags_len]; simp
    have h0 : w.cell? (Addr.add ⟨b, off, spot⟩ (0 * 8 + 0)) = some (.int .i64 (f 0).box) := hf' 0 (by omega) 0 _ rfl
    have hspot : spot = none := by simpa [Addr.add] using World.cell?_spot h0
    subst hspot
    have hadd : ∀ j, (⟨b, off, none⟩ : Addr).add j = ⟨b, off + j, none⟩ := fun j => by unfold Addr.add; split <;> simp_all
    rw [hadd] at h0
    refine ⟨b, off, rfl, block_lt_of_cell h0, fun k hk => ?_⟩
    rw [hlen] at hk
    have h1 := frags_of f len k hk
    have hk9 : k % 8 < (fragF (f (k / 8))).length := by show k % 8 < 8; omega
    have h2 := hf' (k / 8) (by omega) (k % 8) _ (List.getElem?_eq_getElem hk9)
    rw [hadd, show k / 8 * 8 + k % 8 = k from by omega] at h2
    rw [h2]
    rw [List.getD, h1, List.getElem?_eq_getElem hk9]
    rfl
theorem bulk_in {d : DataW H} : ∀ {ds : List (DataW H)} {j : Nat}, ds[j]? = some d → Rows.uptoBulk d ≤ Rows.uptoBulkAll ds
  | [], j, h => by simp at h
  | e :: ds, 0, h => by simp at h; subst h; simp [Rows.uptoBulkAll]
  | e :: ds, j + 1, h => by
    have := bulk_in (ds := ds) (j := j) (by simpa using h)
    simp [Rows.uptoBulkAll]; omega
/-- A struct of four one-cell fields: each field's cell, what was read there, and its bulk. -/
theorem open_four {T : TypeId} {fs : Array Field} {A B C D : TypeId} {cs : Array Value} {d : DataW H} {p : List MemPlace} (hu : P.underlying T = some (.struct fs)) (hfs : fs.toList.map (fun f => (f.offset, f.type)) = [(0, A), (1, B), (2, C), (3, D)]) (hc : P.cellsOf T = 4)
    (hA : P.cellsOf A = 1) (hB : P.cellsOf B = 1) (hC : P.cellsOf C = 1) (hD : P.cellsOf D = 1) (h : DataW.Trod enc P w base spare held T (.agg cs) d p) (hfine : Fine P T d) :
    ∃ c0 c1 c2 c3, cs = #[c0, c1, c2, c3] ∧ (∃ m y, DataW.trod enc P w base spare held m A [c0] = some y ∧ Fine P A y.1 ∧ Rows.uptoBulk y.1 ≤ Rows.uptoBulk d) ∧ (∃ m y, DataW.trod enc P w base spare held m B [c1] = some y ∧ Fine P B y.1 ∧ Rows.uptoBulk y.1 ≤ Rows.uptoBulk d) ∧
      Leaf enc P w base spare held C c2 ∧ Leaf enc P w base spare held D c3 := by
  obtain ⟨m, h⟩ := h
  have h : DataW.trod enc P w base spare held m T cs.toList = some (d, p) := by simpa [Value.cells] using h
  obtain ⟨xs, n, _, hx, hcl, hxl, hf⟩ := DataW.trod_struct hu h
  rw [hc] at hcl
  have hd : d = .agg (xs.map (·.1)) := congrArg Prod.fst hx
  have hsz : fs.size = 4 := by have := congrArg List.length hfs; simpa using this
  have hfd : ∀ (j : Nat) (o : Nat) (U : TypeId), [(0, A), (1, B), (2, C), (3, D)][j]? = some (o, U) → ∃ y, DataW.trod enc P w base spare held n U ((cs.toList.drop o).take (P.cellsOf U)) = some y ∧ Fine P U y.1 ∧ Rows.uptoBulk y.1 ≤ Rows.uptoBulk d := fun j o U hj => by
    rw [← hfs, List.getElem?_map] at hj
    cases hfj : fs.toList[j]? with
    | none => rw [hfj] at hj; cases hj
    | some f =>
      rw [hfj] at hj
      injection hj with hj
      injection hj with h1 h2
      subst h1; subst h2
      have hfj' : fs[j]? = some f := by simpa using hfj
      have hj4 : j < xs.length := by
        have := (Array.getElem?_eq_some_iff.1 hfj').1
        omega
      have h3 := hf j f hfj'
      have hxi : xs[j]? = some xs[j] := List.getElem?_eq_getElem hj4
      rw [hxi] at h3
      refine ⟨_, h3, ?_, ?_⟩
      · rw [hd] at hfine
        exact Fine.field hu hfine hfj' (by simp [hxi])
      · rw [hd]
        have := bulk_in (ds := xs.map (·.1)) (j := j) (d := xs[j].1) (by simp [hxi])
        simp only [Rows.uptoBulk]; omega
  obtain ⟨l⟩ := cs
  match l, hcl with
  | [c0, c1, c2, c3], _ =>
    obtain ⟨y0, a0, b0, k0⟩ := hfd 0 0 A rfl
    obtain ⟨y1, a1, b1, k1⟩ := hfd 1 1 B rfl
    obtain ⟨y2, a2, b2, _⟩ := hfd 2 2 C rfl
    obtain ⟨y3, a3, b3, _⟩ := hfd 3 3 D rfl
    rw [hA] at a0
    rw [hB] at a1
    rw [hC] at a2
    rw [hD] at a3
    exact ⟨c0, c1, c2, c3, rfl, ⟨n, y0, a0, b0, k0⟩, ⟨n, y1, a1, b1, k1⟩, ⟨n, y2, a2, b2⟩, ⟨n, y3, a3, b3⟩⟩
theorem slice_val {T e : TypeId} {n : Nat} {Ts : List TypeId} {c : Value} (hu : P.underlying T = some (.slice e)) (hf : flat P n e = some Ts) (hC : P.cellsOf e = Ts.length) (h : Leaf enc P w base spare held T c) : ∃ a len cap, c = .slice a len cap := by
  rcases leaf_slice hu hf hC h with rfl | ⟨ka, kl, kc, rfl, _⟩
  · exact ⟨_, _, _, rfl⟩
  · exact ⟨_, _, _, rfl⟩
end
end Go.Proofs.YtkmmlcnoeeaekaaGreatDoor
/- Plain law of P311: looks of boxes. -/
namespace Go.Proofs.YtkmmlcnoeeaekaaGreatDoor
open Go.RowKit
set_option linter.unusedVariables false

def ints (zs : List Int) : List Value := zs.map (Value.int .i64)
theorem ints_len (zs : List Int) : (ints zs).length = zs.length := by simp [ints]
def inhP (p : Nat) : Bool := [33, 35, 37, 38, 39, 40, 41, 43, 44, 56, 57, 58].contains p
/-- One box's look. -/
def lookQ (lz tbl : List Int) (prev : List (List Int)) (x : BoxV) (q : Nat) : Int :=
  if 0 ≤ x.node then lz.getD (x.node.toNat * 118 + q) 0 else if inhP (q / 2) then (prev.getD x.parent.toNat []).getD q 0 else tbl.getD q 0
def lookR (lz tbl : List Int) (prev : List (List Int)) (x : BoxV) : List Int := (List.range 118).map (lookQ lz tbl prev x)
def looksL (lz tbl : List Int) (bs : List BoxV) : Nat → List (List Int)
  | 0 => []
  | k + 1 => looksL lz tbl bs k ++ [lookR lz tbl (looksL lz tbl bs k) (bx bs k)]
theorem lookR_len (lz tbl : List Int) (prev : List (List Int)) (x : BoxV) : (lookR lz tbl prev x).length = 118 := by simp [lookR]
theorem looksL_len (lz tbl : List Int) (bs : List BoxV) : ∀ k, (looksL lz tbl bs k).length = k
  | 0 => rfl
  | k + 1 => by simp [looksL, looksL_len lz tbl bs k]
/-- Row i, as the look of box i. -/
def lookAt (lz tbl : List Int) (bs : List BoxV) (i : Nat) : List Int := lookR lz tbl (looksL lz tbl bs i) (bx bs i)
theorem looksL_getD (lz tbl : List Int) (bs : List BoxV) : ∀ (k i : Nat), i < k → (looksL lz tbl bs k).getD i [] = lookAt lz tbl bs i
  | 0, i, h => by omega
  | k + 1, i, h => by
    have hl := looksL_len lz tbl bs k
    simp only [looksL]
    by_cases e : i = k
    · subst e
      simp [List.getD, hl, lookAt]
    · have h2 := looksL_getD lz tbl bs k i (by omega)
      rw [← h2]
      simp only [List.getD]
      rw [List.getElem?_append_left (by omega)]
theorem lookAt_len (lz tbl : List Int) (bs : List BoxV) (i : Nat) : (lookAt lz tbl bs i).length = 118 := lookR_len _ _ _ _
def lookRow (lz tbl : List Int) (bs : List BoxV) (i : Nat) : List Value := ints (lookAt lz tbl bs i)
theorem lookRow_len (lz tbl : List Int) (bs : List BoxV) (i : Nat) : (lookRow lz tbl bs i).length = 118 := by rw [lookRow, ints_len, lookAt_len]
theorem lookAt_getD (lz tbl : List Int) (bs : List BoxV) (i q : Nat) (hq : q < 118) : (lookAt lz tbl bs i).getD q 0 = lookQ lz tbl (looksL lz tbl bs i) (bx bs i) q := by
  simp [lookAt, lookR, List.getD, hq]
theorem lookRow_at (lz tbl : List Int) (bs : List BoxV) (i q : Nat) (hq : q < 118) : (lookRow lz tbl bs i)[q]? = some (.int .i64 (lookQ lz tbl (looksL lz tbl bs i) (bx bs i) q)) := by
  simp [lookRow, ints, lookAt, lookR, hq]
theorem look_node {lz tbl : List Int} {bs : List BoxV} {i q : Nat} (h : 0 ≤ (bx bs i).node) : lookQ lz tbl (looksL lz tbl bs i) (bx bs i) q = lz.getD ((bx bs i).node.toNat * 118 + q) 0 := by unfold lookQ; rw [if_pos h]
theorem look_inh {lz tbl : List Int} {bs : List BoxV} {i q : Nat} (h : ¬ 0 ≤ (bx bs i).node) (hi : inhP (q / 2) = true) (hp : (bx bs i).parent.toNat < i) (hq : q < 118) : lookQ lz tbl (looksL lz tbl bs i) (bx bs i) q = (lookAt lz tbl bs (bx bs i).parent.toNat).getD q 0 := by
  unfold lookQ; rw [if_neg h, if_pos hi, looksL_getD _ _ _ _ _ hp]
theorem look_init {lz tbl : List Int} {bs : List BoxV} {i q : Nat} (h : ¬ 0 ≤ (bx bs i).node) (hi : inhP (q / 2) = false) : lookQ lz tbl (looksL lz tbl bs i) (bx bs i) q = tbl.getD q 0 := by
  unfold lookQ; rw [if_neg h, if_neg (by rw [hi]; decide)]
/-- What may not be. -/
def boxBad (n : Nat) (x : BoxV) (k : Nat) : Prop := x.node < -1 ∨ (n : Int) ≤ x.node ∨ (k = 0 ∧ (x.node < 0 ∨ ¬ x.parent = -1)) ∨ (0 < k ∧ (x.parent < 0 ∨ (k : Int) ≤ x.parent))
def LooksOk (n : Nat) (bs : List BoxV) : Prop := ∀ i, i < bs.length → ¬ boxBad n (bx bs i) i
end Go.Proofs.YtkmmlcnoeeaekaaGreatDoor
/- Documents that came in; what dom.Check says of them. -/
namespace Go.Proofs.YtkmmlcnoeeaekaaGreatDoor
open Go.RowKit
set_option linter.unusedVariables false

/-- A node as it lies in memory. -/
structure NodeV where
  kind : Int
  name : ByteArray
  attrsA : Option Addr
  attrs : List (ByteArray × ByteArray)
  acap : Nat
  text : ByteArray
  parent : Int
  kidsA : Option Addr
  kids : List Int
  kcap : Nat
def NodeV.zero : NodeV := ⟨0, ByteArray.empty, none, [], 0, ByteArray.empty, 0, none, [], 0⟩
def nd (ns : List NodeV) (i : Nat) : NodeV := ns.getD i NodeV.zero
def attrF (a : ByteArray × ByteArray) : List Value := [.string a.1, .string a.2]
def nodeC (x : NodeV) : Array Value := #[.int .i64 x.kind, .string x.name, .slice x.attrsA x.attrs.length x.acap, .string x.text, .int .i64 x.parent, .slice x.kidsA x.kids.length x.kcap]
/-- What lies behind a node's slices. -/
structure NodeIn (w : World) (B : Nat) (x : NodeV) : Prop where
  attrs : Holds w B x.attrsA (x.attrs.flatMap attrF)
  kids : Holds w B x.kidsA (ints x.kids)
  an : x.attrs.length ≤ 1048576
  ac : x.attrs.length ≤ x.acap
  kn : x.kids.length ≤ 1048576
theorem NodeIn.below {w w' : World} {B B' : Nat} {x : NodeV} (h : NodeIn w B x) (hb : Below B' w w') (hB : B ≤ B') : NodeIn w' B x := ⟨h.attrs.below hb hB, h.kids.below hb hB, h.an, h.ac, h.kn⟩
/-- The slice at A holds the nodes ns, below block B. -/
def Nodes (w : World) (B : Nat) (A : Option Addr) (ns : List NodeV) : Prop :=
  ∀ i, i < ns.length → ∃ b off, A = some ⟨b, off, none⟩ ∧ b < B ∧ (∀ j, j < 6 → w.cell? ⟨b, off + i * 6 + j, none⟩ = (nodeC (nd ns i))[j]?) ∧ NodeIn w B (nd ns i)
theorem Nodes.below {w w' : World} {B B' : Nat} {A : Option Addr} {ns : List NodeV} (h : Nodes w B A ns) (hb : Below B' w w') (hB : B ≤ B') : Nodes w' B A ns := fun i hi => by
  obtain ⟨b, off, e, hlt, hc, hn⟩ := h i hi
  exact ⟨b, off, e, hlt, fun j hj => (hb.cell (p := ⟨b, off + i * 6 + j, none⟩) (by simp; omega)).trans (hc j hj), hn.below hb hB⟩
theorem Nodes.more {w : World} {B B' : Nat} {A : Option Addr} {ns : List NodeV} (h : Nodes w B A ns) (hB : B ≤ B') : Nodes w B' A ns := fun i hi => by
  obtain ⟨b, off, e, hlt, hc, hn⟩ := h i hi
  exact ⟨b, off, e, by omega, hc, ⟨hn.attrs.more hB, hn.kids.more hB, hn.an, hn.ac, hn.kn⟩⟩
/-- Two lists of nodes that lie at one place are one in their number's bounds. -/
def signsL : List UInt8 := [97, 98, 99, 100, 101, 102, 103, 104, 105, 106, 107, 108, 109, 110, 111, 112, 113, 114, 115, 116, 117, 118, 119, 120, 121, 122, 48, 49, 50, 51, 52, 53, 54, 55, 56, 57, 45, 95, 58]
def lettersL : List UInt8 := [97, 98, 99, 100, 101, 102, 103, 104, 105, 106, 107, 108, 109, 110, 111, 112, 113, 114, 115, 116, 117, 118, 119, 120, 121, 122]
def namedP (first : List UInt8) (s : ByteArray) : Bool := !(s.size == 0) && decide (s.size ≤ 40) && decide (0 ≤ Lib.indexByte first (s.data.toList.getD 0 0)) && (Lib.trimS s.data.toList signsL).isEmpty
def nameP (s : ByteArray) : Bool := namedP lettersL s
def attrNameP (s : ByteArray) : Bool := namedP (lettersL ++ [45, 95]) s
/-- The place of a name among attributes; -1: none. -/
def findP : List (ByteArray × ByteArray) → ByteArray → Int → Int
  | [], _, _ => -1
  | a :: l, s, k => if a.1 = s then k else findP l s (k + 1)
/-- The first of the numbers f 0, f 1, .. f (n-1) that is not 0. -/
def firstE (f : Nat → Int) : Nat → Int
  | 0 => 0
  | n + 1 => if firstE f n = 0 then f n else firstE f n
theorem firstE_none {f : Nat → Int} : ∀ {n : Nat}, (∀ j, j < n → f j = 0) → firstE f n = 0
  | 0, _ => rfl
  | n + 1, h => by rw [firstE, if_pos (firstE_none fun j hj => h j (by omega)), h n (by omega)]
theorem firstE_at {f : Nat → Int} {k : Nat} (hk : ∀ j, j < k → f j = 0) (h : f k ≠ 0) : ∀ {n : Nat}, k < n → firstE f n = f k
  | 0, hn => absurd hn (by omega)
  | n + 1, hn => by
    rw [firstE]
    by_cases e : k = n
    · subst e; rw [if_pos (firstE_none hk)]
    · rw [firstE_at hk h (n := n) (by omega), if_neg h]
def attrE (l : List (ByteArray × ByteArray)) (i : Nat) : Int :=
  if attrNameP (l.getD i (ByteArray.empty, ByteArray.empty)).1 = false then 3
  else if 400 < (l.getD i (ByteArray.empty, ByteArray.empty)).2.size then 2
  else if 0 ≤ findP (l.take i) (l.getD i (ByteArray.empty, ByteArray.empty)).1 0 then 3 else 0
def attrsE (l : List (ByteArray × ByteArray)) : Int := if 12 < l.length then 2 else firstE (attrE l) l.length
def bareP (x : NodeV) : Bool := ((x.kind == 2) || (x.kind == 5) || (x.name.size == 0)) && ((x.kind == 2) || (x.attrs.length == 0)) && ((x.kind == 3) || (x.kind == 4) || (x.text.size == 0)) && ((x.kind == 1) || (x.kind == 2) || (x.kids.length == 0))
def oneE (x : NodeV) : Int :=
  if x.kind < 1 ∨ 5 < x.kind ∨ bareP x = false then 7
  else if x.kind = 2 ∧ nameP x.name = false then 3
  else if attrsE x.attrs ≠ 0 then attrsE x.attrs
  else if 400 < x.text.size ∨ 400 < x.name.size then 2 else 0
/-- The kids of the nodes from i on, each with its node. -/
def pairs (ns : List NodeV) : Nat → Nat → List (Nat × Int)
  | 0, _ => []
  | u + 1, i => ((nd ns i).kids.map fun k => (i, k)) ++ pairs ns u (i + 1)
def runK (ns : List NodeV) : List (Nat × Int) → List Bool → Int × List Bool
  | [], seen => (0, seen)
  | (i, k) :: r, seen =>
    if k < 0 ∨ (ns.length : Int) ≤ k ∨ (nd ns k.toNat).parent ≠ i ∨ seen.getD k.toNat false = true then (3, seen)
    else if i = 0 ∧ (nd ns k.toNat).kind = 3 then (7, seen)
    else runK ns r (seen.set k.toNat true)
def kidsR (ns : List NodeV) : Int × List Bool := runK ns (pairs ns ns.length 0) (List.replicate ns.length false)
def looseE (ns : List NodeV) (seen : List Bool) (i : Nat) : Int := if (nd ns i).parent ≠ -1 ∧ seen.getD i false = false then 3 else 0
def kidsE (ns : List NodeV) : Int :=
  if (kidsR ns).1 ≠ 0 then (kidsR ns).1
  else if firstE (looseE ns (kidsR ns).2) ns.length ≠ 0 then 3
  else if (nd ns 0).parent ≠ -1 then 3 else 0
/-- How many parents a node has above it, as far as is asked. -/
def upF (ns : List NodeV) : Nat → Nat → Nat
  | 0, _ => 0
  | u + 1, i => if 0 ≤ (nd ns i).parent then upF ns u (nd ns i).parent.toNat + 1 else 0
def upE (ns : List NodeV) (i : Nat) : Int := if ns.length < upF ns (ns.length + 1) i then 8 else if 40 < upF ns (ns.length + 1) i then 2 else 0
def nodeE (ns : List NodeV) (i : Nat) : Int := if (decide ((nd ns i).kind = 1)) = (decide (i = 0)) then oneE (nd ns i) else 3
def checkE (ns : List NodeV) : Int :=
  if 200 < ns.length then 2
  else if ns.length = 0 then 3
  else if firstE (nodeE ns) ns.length ≠ 0 then firstE (nodeE ns) ns.length
  else if kidsE ns ≠ 0 then kidsE ns
  else firstE (upE ns) ns.length
/-- Behind the kids each node that was seen has a parent within. -/
theorem runK_seen {ns : List NodeV} : ∀ (l : List (Nat × Int)) (seen : List Bool), (∀ p ∈ l, p.1 < ns.length) → (∀ i, seen.getD i false = true → 0 ≤ (nd ns i).parent ∧ (nd ns i).parent < ns.length) → (runK ns l seen).1 = 0 → ∀ i, (runK ns l seen).2.getD i false = true → 0 ≤ (nd ns i).parent ∧ (nd ns i).parent < ns.length
  | [], seen, _, h, _ => h
  | (i, k) :: r, seen, hl, h, he => by
    rw [runK] at he ⊢
    split at he
    · cases he
    · rename_i h1
      rw [if_neg h1]
      split at he
      · cases he
      · rename_i h2
        rw [if_neg h2]
        refine runK_seen r _ (fun p hp => hl p (by simp [hp])) (fun j hj => ?_) he
        by_cases e : j = k.toNat
        · subst e
          have h3 : (nd ns k.toNat).parent = i := by
            rcases Classical.em ((nd ns k.toNat).parent = i) with h4 | h4
            · exact h4
            · exact absurd (.inr (.inr (.inl h4))) h1
          have := hl (i, k) (by simp)
          simp only at this
          omega
        · refine h j ?_
          rw [List.getD_eq_getElem?_getD, List.getElem?_set_ne (fun e' => e e'.symm)] at hj
          rwa [List.getD_eq_getElem?_getD]
theorem pairs_lt {ns : List NodeV} : ∀ (u i : Nat), i + u ≤ ns.length → ∀ p ∈ pairs ns u i, p.1 < ns.length
  | 0, _, _, p, h => by cases h
  | u + 1, i, hu, p, h => by
    rw [pairs, List.mem_append] at h
    rcases h with h | h
    · rw [List.mem_map] at h
      obtain ⟨k, _, rfl⟩ := h
      simp only; omega
    · exact pairs_lt u (i + 1) (by omega) p h
theorem parents_in {ns : List NodeV} (h : kidsE ns = 0) {i : Nat} (hi : i < ns.length) : (nd ns i).parent < ns.length ∧ -1 ≤ (nd ns i).parent := by
  unfold kidsE at h
  split at h
  · rename_i h1; exact absurd h h1
  · rename_i h1
    split at h
    · cases h
    · rename_i h2
      have h3 : (kidsR ns).1 = 0 := by omega
      have h4 : firstE (looseE ns (kidsR ns).2) ns.length = 0 := by omega
      have h5 : ∀ j, j < ns.length → looseE ns (kidsR ns).2 j = 0 := by
        intro j
        induction j using Nat.strongRecOn with
        | ind j ih =>
          intro hj
          rcases Classical.em (looseE ns (kidsR ns).2 j = 0) with h6 | h6
          · exact h6
          · have := firstE_at (fun m hm => ih m hm (by omega)) h6 hj
            rw [this] at h4; exact absurd h4 h6
      have h6 := h5 i hi
      unfold looseE at h6
      split at h6
      · cases h6
      · rename_i h7
        rcases Classical.em ((nd ns i).parent = -1) with h8 | h8
        · omega
        · have h9 : (kidsR ns).2.getD i false = true := by
            cases hb : (kidsR ns).2.getD i false
            · exact absurd ⟨h8, hb⟩ h7
            · rfl
          have := runK_seen (pairs ns ns.length 0) (List.replicate ns.length false) (pairs_lt _ _ (by omega)) (fun j hj => by
            rw [List.getD_eq_getElem?_getD, List.getElem?_replicate] at hj
            split at hj <;> simp at hj) h3 i h9
          omega
theorem upF_le (ns : List NodeV) : ∀ (u i : Nat), upF ns u i ≤ u
  | 0, _ => Nat.le_refl _
  | u + 1, i => by
    rw [upF]; split
    · have := upF_le ns u (nd ns i).parent.toNat; omega
    · omega
end Go.Proofs.YtkmmlcnoeeaekaaGreatDoor
