/- A slice of boxes that came in; what its bulk bounds; how much text it holds. -/
import Derived.Test.YtpamfhplklhnpaaDoorOpen
import Derived.Test.YtpamfhplklhnpaaDoorBoxes
import Derived.Test.YtpamfhplklhnpaaDoorFragV
import Derived.Test.YtpamfhplklhnpaaDoorRows
import Derived.Test.YtpamfhplklhnpaaDoorItmH
namespace Go.Proofs.YtpamfhplklhnpaaDoor
open Go.ChangeShapes Go.WideShapes Go.Deep
set_option linter.unusedVariables false
section
variable {H : Type} {enc : TypeId × Value → H} {P : Program} {w : World} {base : Nat} {spare : Nat → Bool} {held : Bool}
theorem open_boxes {T e I K S : TypeId} {n : Nat} {a : Option Addr} {len cap : Nat} (hu : P.underlying T = some (.slice e)) (hf : flat P n e = some [I, I, I, K, S]) (hC : P.cellsOf e = 5) (hB : P.bytesOf e = 64)
    (hI : P.underlying I = some (.int .i64)) (hK : P.underlying K = some (.slice I)) (hS : P.underlying S = some .string) (hI1 : P.cellsOf I = 1) (hI8 : P.bytesOf I = 8) (h : Arg enc P w base spare held T (.slice a len cap)) :
    ∃ bs : List BoxV, bs.length = len ∧ Boxes w w.heap.size a bs ∧ len ≤ 17592186044404 := by
  rcases leaf_slice hu hf hC h.leaf with hn | ⟨ad, len', cap', hs, _, hl, hm, hsz, _, hc⟩
  · injection hn with h1 h2 h3
    subst h1; subst h2; subst h3
    exact ⟨[], rfl, fun i hi => absurd hi (by simp), by omega⟩
  · injection hs with h1 h2 h3
    subst h1; subst h2; subst h3
    haveI : Inhabited BoxV := ⟨BoxV.zero⟩
    have hx : ∀ i, i < len → ∃ x : BoxV, w.cell? (ad.add (i * 5 + 0)) = some (.int .i64 x.kind) ∧ w.cell? (ad.add (i * 5 + 1)) = some (.int .i64 x.node) ∧ w.cell? (ad.add (i * 5 + 2)) = some (.int .i64 x.parent) ∧
        w.cell? (ad.add (i * 5 + 3)) = some (.slice x.kidsA x.kids.length x.kcap) ∧ w.cell? (ad.add (i * 5 + 4)) = some (.string x.text) ∧ Holds w w.heap.size x.kidsA (x.kids.map (Value.int .i64)) ∧ x.kids.length ≤ 17592186044404 := fun i hi => by
      obtain ⟨v0, c0, l0⟩ := hc i hi 0 I rfl
      obtain ⟨v1, c1, l1⟩ := hc i hi 1 I rfl
      obtain ⟨v2, c2, l2⟩ := hc i hi 2 I rfl
      obtain ⟨v3, c3, l3⟩ := hc i hi 3 K rfl
      obtain ⟨v4, c4, l4⟩ := hc i hi 4 S rfl
      obtain ⟨z0, rfl, _⟩ := leaf_int hI l0
      obtain ⟨z1, rfl, _⟩ := leaf_int hI l1
      obtain ⟨z2, rfl, _⟩ := leaf_int hI l2
      obtain ⟨s, rfl, _, _⟩ := leaf_string hS l4
      have hfI : flat P 1 I = some [I] := by unfold flat; rw [hI]
      have hv3 : ∃ ka kl kc, v3 = .slice ka kl kc := by
        rcases leaf_slice hK hfI hI1 l3 with rfl | ⟨ka, kl, kc, rfl, _⟩
        · exact ⟨_, _, _, rfl⟩
        · exact ⟨_, _, _, rfl⟩
      obtain ⟨ka, kl, kc, rfl⟩ := hv3
      obtain ⟨zs, hz, hh, hr, _, _, _⟩ := leaf_ints hK hfI hI1 (by simp [allInts, hI]) (by simp) l3
      rw [hI8] at hr
      simp at hz
      subst hz
      exact ⟨⟨z0, z1, z2, ka, zs, kc, s⟩, c0, c1, c2, c3, c4, hh, by show zs.length ≤ _; omega⟩
    obtain ⟨f, hf'⟩ := choose_lt hx
    rw [hB] at hsz
    refine ⟨(List.range len).map f, by simp, fun i hi => ?_, by omega⟩
    have hi' : i < len := by simpa using hi
    obtain ⟨c0, c1, c2, c3, c4, hk, hkl⟩ := hf' i hi'
    obtain ⟨b, off, spot⟩ := ad
    have hspot : spot = none := by simpa [Addr.add] using World.cell?_spot (hf' 0 (by omega)).1
    subst hspot
    have hadd : ∀ j, (⟨b, off, none⟩ : Addr).add j = ⟨b, off + j, none⟩ := fun j => by unfold Addr.add; split <;> simp_all
    rw [hadd] at c0 c1 c2 c3 c4
    have e : bx ((List.range len).map f) i = f i := by simp [bx, List.getD, hi']
    rw [e]
    exact ⟨b, off, rfl, block_lt_of_cell c0, c0, by rw [Nat.add_assoc]; exact c1, by rw [Nat.add_assoc]; exact c2, by rw [Nat.add_assoc]; exact c3, by rw [Nat.add_assoc]; exact c4, hk, hkl⟩
end
end Go.Proofs.YtpamfhplklhnpaaDoor

namespace Go.Proofs.YtpamfhplklhnpaaDoor
open Go.ChangeShapes Go.WideShapes Go.Deep
set_option linter.unusedVariables false
section
variable {H : Type} {enc : TypeId × Value → H} {P : Program} {w : World} {base : Nat} {spare : Nat → Bool} {held : Bool}
theorem Leaf.arg {T : TypeId} {a : Option Addr} {len cap : Nat} (h : Leaf enc P w base spare held T (.slice a len cap)) : Arg enc P w base spare held T (.slice a len cap) := by
  obtain ⟨m, y, h, hf⟩ := h
  exact ⟨m, y, by simpa [Value.cells] using h, hf⟩
theorem choose_under {α : Type} [Inhabited α] {n : Nat} {p : Nat → α → Prop} (h : ∀ i, i < n → ∃ x, p i x) : ∃ f : Nat → α, ∀ i, i < n → p i (f i) :=
  ⟨fun i => if hi : i < n then (h i hi).choose else default, fun i hi => by simp only [hi, dif_pos]; exact (h i hi).choose_spec⟩
theorem frags_len (l : List FragV) : (l.flatMap fragF).length = l.length * 8 := by
  induction l with
  | nil => rfl
  | cons s l ih => rw [List.flatMap_cons, List.length_append, ih, fragF_len, List.length_cons]; omega
theorem frags_of (f : Nat → FragV) : ∀ (n : Nat) (k : Nat), k < n * 8 → (((List.range n).map f).flatMap fragF)[k]? = (fragF (f (k / 8)))[k % 8]?
  | 0, k, h => by omega
  | n + 1, k, h => by
    have hl : (((List.range n).map f).flatMap fragF).length = n * 8 := by rw [frags_len]; simp
    rw [List.range_succ, List.map_append, List.map_cons, List.map_nil, List.flatMap_append]
    by_cases hk : k < n * 8
    · rw [List.getElem?_append_left (by omega)]
      exact frags_of f n k hk
    · rw [List.getElem?_append_right (by omega), hl]
      have e1 : k / 8 = n := by omega
      have e2 : k % 8 = k - n * 8 := by omega
      rw [e1, e2]
      simp
theorem open_frags {T e I S : TypeId} {n : Nat} {a : Option Addr} {len cap : Nat} (hu : P.underlying T = some (.slice e)) (hf : flat P n e = some [I, I, I, I, I, I, I, S]) (hC : P.cellsOf e = 8)
    (hI : P.underlying I = some (.int .i64)) (hS : P.underlying S = some .string) (h : Arg enc P w base spare held T (.slice a len cap)) :
    ∃ l : List FragV, l.length = len ∧ Frags w w.heap.size a l := by
  rcases leaf_slice hu hf hC h.leaf with hn | ⟨ad, len', cap', hs, _, hl, hm, hsz, _, hc⟩
  · injection hn with h1 h2 h3
    subst h1; subst h2; subst h3
    exact ⟨[], rfl, Holds.nil⟩
  · injection hs with h1 h2 h3
    subst h1; subst h2; subst h3
    haveI : Inhabited FragV := ⟨FragV.zero⟩
    have hx : ∀ i, i < len → ∃ x : FragV, ∀ j u, (fragF x)[j]? = some u → w.cell? (ad.add (i * 8 + j)) = some u := fun i hi => by
      obtain ⟨v0, c0, l0⟩ := hc i hi 0 I rfl
      obtain ⟨v1, c1, l1⟩ := hc i hi 1 I rfl
      obtain ⟨v2, c2, l2⟩ := hc i hi 2 I rfl
      obtain ⟨v3, c3, l3⟩ := hc i hi 3 I rfl
      obtain ⟨v4, c4, l4⟩ := hc i hi 4 I rfl
      obtain ⟨v5, c5, l5⟩ := hc i hi 5 I rfl
      obtain ⟨v6, c6, l6⟩ := hc i hi 6 I rfl
      obtain ⟨v7, c7, l7⟩ := hc i hi 7 S rfl
      obtain ⟨z0, rfl, _⟩ := leaf_int hI l0
      obtain ⟨z1, rfl, _⟩ := leaf_int hI l1
      obtain ⟨z2, rfl, _⟩ := leaf_int hI l2
      obtain ⟨z3, rfl, _⟩ := leaf_int hI l3
      obtain ⟨z4, rfl, _⟩ := leaf_int hI l4
      obtain ⟨z5, rfl, _⟩ := leaf_int hI l5
      obtain ⟨z6, rfl, _⟩ := leaf_int hI l6
      obtain ⟨s, rfl, _, _⟩ := leaf_string hS l7
      refine ⟨⟨z0, z1, z2, z3, z4, z5, z6, s⟩, fun j u hu' => ?_⟩
      match j, hu' with
      | 0, hu' => cases hu'; exact c0
      | 1, hu' => cases hu'; exact c1
      | 2, hu' => cases hu'; exact c2
      | 3, hu' => cases hu'; exact c3
      | 4, hu' => cases hu'; exact c4
      | 5, hu' => cases hu'; exact c5
      | 6, hu' => cases hu'; exact c6
      | 7, hu' => cases hu'; exact c7
      | j + 8, hu' => rw [List.getElem?_eq_none (by simp [fragF, fragC])] at hu'; cases hu'
    obtain ⟨f, hf'⟩ := choose_under hx
    refine ⟨(List.range len).map f, by simp, fun hn => ?_⟩
    obtain ⟨b, off, spot⟩ := ad
    have hlen : (((List.range len).map f).flatMap fragF).length = len * 8 := by rw [frags_len]; simp
    have h0 : w.cell? (Addr.add ⟨b, off, spot⟩ (0 * 8 + 0)) = some (.int .i64 (f 0).box) := hf' 0 (by omega) 0 _ rfl
    have hspot : spot = none := by simpa [Addr.add] using World.cell?_spot h0
    subst hspot
    have hadd : ∀ j, (⟨b, off, none⟩ : Addr).add j = ⟨b, off + j, none⟩ := fun j => by unfold Addr.add; split <;> simp_all
    rw [hadd] at h0
    refine ⟨b, off, rfl, block_lt_of_cell h0, fun k hk => ?_⟩
    rw [hlen] at hk
    have h1 := frags_of f len k hk
    have hk9 : k % 8 < (fragF (f (k / 8))).length := by show k % 8 < 8; omega
    have h2 := hf' (k / 8) (by omega) (k % 8) _ (List.getElem?_eq_getElem hk9)
    rw [hadd, show k / 8 * 8 + k % 8 = k from by omega] at h2
    rw [h2]
    rw [List.getD, h1, List.getElem?_eq_getElem hk9]
    rfl
theorem bulk_in {d : DataW H} : ∀ {ds : List (DataW H)} {j : Nat}, ds[j]? = some d → Rows.uptoBulk d ≤ Rows.uptoBulkAll ds
  | [], j, h => by simp at h
  | e :: ds, 0, h => by simp at h; subst h; simp [Rows.uptoBulkAll]
  | e :: ds, j + 1, h => by
    have := bulk_in (ds := ds) (j := j) (by simpa using h)
    simp [Rows.uptoBulkAll]; omega
/-- A struct of four one-cell fields: each field's cell, what was read there, and its bulk. -/
theorem open_four {T : TypeId} {fs : Array Field} {A B C D : TypeId} {cs : Array Value} {d : DataW H} {p : List MemPlace} (hu : P.underlying T = some (.struct fs)) (hfs : fs.toList.map (fun f => (f.offset, f.type)) = [(0, A), (1, B), (2, C), (3, D)]) (hc : P.cellsOf T = 4)
    (hA : P.cellsOf A = 1) (hB : P.cellsOf B = 1) (hC : P.cellsOf C = 1) (hD : P.cellsOf D = 1) (h : DataW.Trod enc P w base spare held T (.agg cs) d p) (hfine : Fine P T d) :
    ∃ c0 c1 c2 c3, cs = #[c0, c1, c2, c3] ∧ (∃ m y, DataW.trod enc P w base spare held m A [c0] = some y ∧ Fine P A y.1 ∧ Rows.uptoBulk y.1 ≤ Rows.uptoBulk d) ∧ (∃ m y, DataW.trod enc P w base spare held m B [c1] = some y ∧ Fine P B y.1 ∧ Rows.uptoBulk y.1 ≤ Rows.uptoBulk d) ∧
      Leaf enc P w base spare held C c2 ∧ Leaf enc P w base spare held D c3 := by
  obtain ⟨m, h⟩ := h
  have h : DataW.trod enc P w base spare held m T cs.toList = some (d, p) := by simpa [Value.cells] using h
  obtain ⟨xs, n, _, hx, hcl, hxl, hf⟩ := DataW.trod_struct hu h
  rw [hc] at hcl
  have hd : d = .agg (xs.map (·.1)) := congrArg Prod.fst hx
  have hsz : fs.size = 4 := by have := congrArg List.length hfs; simpa using this
  have hfd : ∀ (j : Nat) (o : Nat) (U : TypeId), [(0, A), (1, B), (2, C), (3, D)][j]? = some (o, U) → ∃ y, DataW.trod enc P w base spare held n U ((cs.toList.drop o).take (P.cellsOf U)) = some y ∧ Fine P U y.1 ∧ Rows.uptoBulk y.1 ≤ Rows.uptoBulk d := fun j o U hj => by
    rw [← hfs, List.getElem?_map] at hj
    cases hfj : fs.toList[j]? with
    | none => rw [hfj] at hj; cases hj
    | some f =>
      rw [hfj] at hj
      injection hj with hj
      injection hj with h1 h2
      subst h1; subst h2
      have hfj' : fs[j]? = some f := by simpa using hfj
      have hj4 : j < xs.length := by
        have := (Array.getElem?_eq_some_iff.1 hfj').1
        omega
      have h3 := hf j f hfj'
      have hxi : xs[j]? = some xs[j] := List.getElem?_eq_getElem hj4
      rw [hxi] at h3
      refine ⟨_, h3, ?_, ?_⟩
      · rw [hd] at hfine
        exact Fine.field hu hfine hfj' (by simp [hxi])
      · rw [hd]
        have := bulk_in (ds := xs.map (·.1)) (j := j) (d := xs[j].1) (by simp [hxi])
        simp only [Rows.uptoBulk]; omega
  obtain ⟨l⟩ := cs
  match l, hcl with
  | [c0, c1, c2, c3], _ =>
    obtain ⟨y0, a0, b0, k0⟩ := hfd 0 0 A rfl
    obtain ⟨y1, a1, b1, k1⟩ := hfd 1 1 B rfl
    obtain ⟨y2, a2, b2, _⟩ := hfd 2 2 C rfl
    obtain ⟨y3, a3, b3, _⟩ := hfd 3 3 D rfl
    rw [hA] at a0
    rw [hB] at a1
    rw [hC] at a2
    rw [hD] at a3
    exact ⟨c0, c1, c2, c3, rfl, ⟨n, y0, a0, b0, k0⟩, ⟨n, y1, a1, b1, k1⟩, ⟨n, y2, a2, b2⟩, ⟨n, y3, a3, b3⟩⟩
theorem slice_val {T e : TypeId} {n : Nat} {Ts : List TypeId} {c : Value} (hu : P.underlying T = some (.slice e)) (hf : flat P n e = some Ts) (hC : P.cellsOf e = Ts.length) (h : Leaf enc P w base spare held T c) : ∃ a len cap, c = .slice a len cap := by
  rcases leaf_slice hu hf hC h with rfl | ⟨ka, kl, kc, rfl, _⟩
  · exact ⟨_, _, _, rfl⟩
  · exact ⟨_, _, _, rfl⟩
end
end Go.Proofs.YtpamfhplklhnpaaDoor

namespace Go.Proofs.YtpamfhplklhnpaaDoor
open Go.ChangeShapes Go.WideShapes Go.ChangeAt Go.RowKit Go.Deep
set_option linter.unusedVariables false
section
variable {H : Type} {enc : TypeId × Value → H} {P : Program} {w : World} {base : Nat} {sp : Nat → Bool} {held : Bool}
theorem sum_bulk (f : Nat → Nat) (D : Nat → DataW H) : ∀ (l : List Nat), (∀ i ∈ l, f i ≤ Rows.uptoBulk (D i)) → (l.map f).sum ≤ Rows.uptoBulkAll (l.map D)
  | [], _ => by simp [Rows.uptoBulkAll]
  | i :: l, h => by
    have h1 := h i (by simp)
    have h2 := sum_bulk f D l (fun j hj => h j (by simp [hj]))
    simp only [List.map_cons, List.sum_cons, Rows.uptoBulkAll]
    omega
theorem text_bulk {T e S : TypeId} {fs : Array Field} {a : Option Addr} {len cap B : Nat} {d : DataW H} {p : List MemPlace} {bs : List BoxV} (hu : P.underlying T = some (.slice e)) (hs : P.underlying e = some (.struct fs)) (hC : P.cellsOf e = 5)
    (hf : (fs[4]?).map (fun f => (f.offset, f.type)) = some (4, S)) (hS : P.underlying S = some .string) (hS1 : P.cellsOf S = 1) (h : DataW.Trod enc P w base sp held T (.slice a len cap) d p) (hlen : bs.length = len) (hb : Boxes w B a bs) : textAll bs ≤ Rows.uptoBulk d := by
  obtain ⟨m, h⟩ := h
  have h : DataW.trod enc P w base sp held m T [Value.slice a len cap] = some (d, p) := by simpa [Value.cells] using h
  rcases open_slice hu h with ⟨hc, _⟩ | ⟨a', len', cap', m', k, D, Pl, hc, hbb, hl, hm, hmm, hx, hi⟩
  · simp at hc
    obtain ⟨_, hc, _⟩ := hc
    obtain rfl : bs = [] := List.eq_nil_of_length_eq_zero (by omega)
    simp [textAll]
  · have hx2 := congrArg Prod.fst hx
    simp at hx2 hc
    obtain ⟨rfl, rfl, rfl⟩ := hc
    have hlm : len ≤ m' := by rw [hmm]; split <;> omega
    have key : ∀ i, i < len → (bx bs i).text.size + 1 ≤ Rows.uptoBulk (D i) := fun i hil => by
      obtain ⟨cs', hcs, ht⟩ := hi i (by omega)
      obtain ⟨xs, n, _, hxx, hcl, hxl, hfl⟩ := DataW.trod_struct hs ht
      cases hf4 : fs[4]? with
      | none => rw [hf4] at hf; cases hf
      | some f4 =>
        rw [hf4] at hf
        injection hf with hf
        injection hf with ho hty
        have h5 := hfl 4 f4 hf4
        rw [ho, hty, hS1] at h5
        have h6 := (World.cells?_some hcs).2
        rw [hC] at h6 hcl
        obtain ⟨b, off, e2, hblt, _, _, _, _, c4, _, _⟩ := hb i (by omega)
        injection e2 with e2
        have h7 := h6.2 4 (by omega)
        rw [e2] at h7
        have h8 : cs'[4]? = some (.string (bx bs i).text) := by
          rw [← h7, ← c4]
          simp only [Addr.add]
          by_cases h0 : i * 5 = 0
          · rw [if_neg (by decide), if_pos h0, h0]
          · rw [if_neg (by decide), if_neg h0]
        have h9 : (cs'.drop 4).take 1 = [.string (bx bs i).text] := by
          have h10 : 4 < cs'.length := by omega
          rw [List.drop_eq_getElem_cons h10]
          rw [List.getElem?_eq_getElem h10] at h8
          injection h8 with h8
          rw [h8]
          rfl
        rw [h9] at h5
        have h11 : 4 < xs.length := by
          have := (Array.getElem?_eq_some_iff.1 hf4).1
          omega
        rw [List.getElem?_eq_getElem h11] at h5
        have h12 : (xs[4]).1 = .lit (.string (bx bs i).text.data.toList) := by
          cases n with
          | zero => simp [DataW.trod] at h5
          | succ n =>
            unfold DataW.trod at h5
            rw [hS] at h5
            simp only at h5
            split at h5
            · injection h5 with h5
              rw [← h5]
            · cases h5
        have h13 : D i = .agg (xs.map (·.1)) := congrArg Prod.fst hxx
        have h14 := bulk_in (ds := xs.map (·.1)) (j := 4) (d := xs[4].1) (by simp [h11])
        rw [h12] at h14
        rw [h13]
        simp only [Rows.uptoBulk] at h14 ⊢
        have h15 : (bx bs i).text.data.toList.length = (bx bs i).text.size := by simp
        omega
    have h1 := sum_bulk (fun i => (bx bs i).text.size + 1) D (List.range len) (fun i hi => key i (by simpa using hi))
    have h2 : ((List.range len).map (fun i => (bx bs i).text.size + 1)).sum = textAll bs := by
      unfold textAll
      congr 1
      apply List.ext_getElem
      · simp [hlen]
      · intro i h1 h2
        simp only [List.length_map, List.length_range] at h1
        simp [bx, List.getD, show i < bs.length by omega]
    rw [h2] at h1
    rw [hx2]
    simp only [Rows.uptoBulk]
    omega
end
end Go.Proofs.YtpamfhplklhnpaaDoor
