/- Several texts in one: OpenDoc. -/
import Derived.Test.YtkmmlcnoeeaekaaGreatDoorPaintListM4
/- A document that came in, by value: its nodes, their attributes and kids; what its bulk bounds. -/
namespace Go.Proofs.YtkmmlcnoeeaekaaGreatDoor
open Go.ChangeShapes Go.WideShapes Go.Deep
set_option linter.unusedVariables false
theorem bulk_one {H : Type} (d : DataW H) : 1 ≤ Rows.uptoBulk d := by
  cases d with
  | lit l => cases l <;> simp [Rows.uptoBulk]
  | _ => simp [Rows.uptoBulk]
theorem bulk_len {H : Type} : ∀ ds : List (DataW H), ds.length ≤ Rows.uptoBulkAll ds
  | [] => by simp [Rows.uptoBulkAll]
  | d :: ds => by
    have := bulk_one d
    have := bulk_len ds
    simp [Rows.uptoBulkAll]; omega
theorem rangeF_at (f : Nat → List Value) (L : Nat) (hL : 0 < L) (hf : ∀ i, (f i).length = L) : ∀ (n : Nat), ((List.range n).flatMap f).length = n * L ∧ ∀ k, k < n * L → ((List.range n).flatMap f)[k]? = (f (k / L))[k % L]?
  | 0 => ⟨by simp, fun k h => by omega⟩
  | n + 1 => by
    obtain ⟨h1, h2⟩ := rangeF_at f L hL hf n
    rw [List.range_succ, List.flatMap_append]
    have h3 : [n].flatMap f = f n := by simp
    rw [h3]
    refine ⟨by rw [List.length_append, h1, hf, Nat.succ_mul], fun k hk => ?_⟩
    rw [Nat.succ_mul] at hk
    by_cases hk' : k < n * L
    · rw [List.getElem?_append_left (by omega)]
      exact h2 k hk'
    · rw [List.getElem?_append_right (by omega), h1]
      have e0 : k = (k - n * L) + n * L := by omega
      have e1 : k / L = n := by
        rw [e0, Nat.add_mul_div_right _ _ hL, Nat.div_eq_of_lt (by omega)]; omega
      have e2 : k % L = k - n * L := by
        have := Nat.div_add_mod k L
        rw [e1, Nat.mul_comm] at this
        omega
      rw [e1, e2]
section
variable {H : Type} {enc : TypeId × Value → H} {P : Program} {w : World} {base : Nat} {spare : Nat → Bool} {held : Bool} {K : Nat}
theorem holds_rows {ad : Addr} {f : Nat → List Value} {len L : Nat} (hL : 0 < L) (hf : ∀ i, (f i).length = L) (h : ∀ i, i < len → ∀ j u, (f i)[j]? = some u → w.cell? (ad.add (i * L + j)) = some u) :
    Holds w w.heap.size (some ad) ((List.range len).flatMap f) := fun hn => by
  obtain ⟨hlen, hat⟩ := rangeF_at f L hL hf len
  rw [hlen] at hn
  have hl0 : 0 < len := Nat.pos_of_ne_zero fun e => by subst e; simp at hn
  obtain ⟨b, off, spot⟩ := ad
  have h0 : w.cell? (Addr.add ⟨b, off, spot⟩ (0 * L + 0)) = some _ := h 0 hl0 0 _ (List.getElem?_eq_getElem (by rw [hf]; exact hL))
  have hspot : spot = none := by simpa [Addr.add] using World.cell?_spot h0
  subst hspot
  have hadd : ∀ j, (⟨b, off, none⟩ : Addr).add j = ⟨b, off + j, none⟩ := fun j => by unfold Addr.add; split <;> simp_all
  rw [hadd] at h0
  refine ⟨b, off, rfl, block_lt_of_cell h0, fun k hk => ?_⟩
  rw [hlen] at hk
  have hkL : k % L < (f (k / L)).length := by rw [hf]; exact Nat.mod_lt _ hL
  have h2 := h (k / L) (Nat.div_lt_of_lt_mul (by rw [Nat.mul_comm]; exact hk)) (k % L) _ (List.getElem?_eq_getElem hkL)
  rw [hadd, show k / L * L + k % L = k from by rw [Nat.mul_comm]; exact Nat.div_add_mod k L] at h2
  rw [h2, List.getD, hat k hk, List.getElem?_eq_getElem hkL]
  rfl

/-- The cell c reads at the type T, at bulk K at most. -/
def LeafB (enc : TypeId × Value → H) (P : Program) (w : World) (base : Nat) (spare : Nat → Bool) (held : Bool) (K : Nat) (T : TypeId) (c : Value) : Prop :=
  ∃ m y, DataW.trod enc P w base spare held m T [c] = some y ∧ Fine P T y.1 ∧ Rows.uptoBulk y.1 ≤ K
theorem LeafB.leaf {T : TypeId} {c : Value} (h : LeafB enc P w base spare held K T c) : Leaf enc P w base spare held T c := by
  obtain ⟨m, y, h, hf, _⟩ := h
  exact ⟨m, y, h, hf⟩
theorem zip_at {fs : Array Field} {Ts : List TypeId} (h : fs.toList.map (fun f => (f.offset, f.type)) = (List.range Ts.length).zip Ts) {j : Nat} {U : TypeId} (hj : Ts[j]? = some U) : ∃ f, fs[j]? = some f ∧ f.offset = j ∧ f.type = U := by
  have hlt : j < Ts.length := by
    rcases Nat.lt_or_ge j Ts.length with h0 | h0
    · exact h0
    · rw [List.getElem?_eq_none h0] at hj; cases hj
  have h1 : (fs.toList.map (fun f => (f.offset, f.type)))[j]? = some (j, U) := by
    rw [h, List.getElem?_zip_eq_some]
    exact ⟨by simp [hlt], hj⟩
  rw [List.getElem?_map] at h1
  cases hfj : fs.toList[j]? with
  | none => rw [hfj] at h1; cases h1
  | some f =>
    rw [hfj] at h1
    injection h1 with h1
    injection h1 with h2 h3
    exact ⟨f, by simpa using hfj, h2, h3⟩
/-- What a struct's cells read as, each field one cell. -/
theorem fields_of {T : TypeId} {fs : Array Field} {Ts : List TypeId} {cs : List Value} {fuel : Nat} {x : DataW H × List MemPlace} (hu : P.underlying T = some (.struct fs)) (hfs : fs.toList.map (fun f => (f.offset, f.type)) = (List.range Ts.length).zip Ts) (hC : P.cellsOf T = Ts.length) (h1 : ∀ U ∈ Ts, P.cellsOf U = 1)
    (h : DataW.trod enc P w base spare held fuel T cs = some x) (hfine : Fine P T x.1) (hK : Rows.uptoBulk x.1 ≤ K) : cs.length = Ts.length ∧ ∀ (j : Nat) (U : TypeId), Ts[j]? = some U → ∃ c, cs[j]? = some c ∧ LeafB enc P w base spare held K U c := by
  obtain ⟨xs, n, _, hx, hcl, hxl, hf⟩ := DataW.trod_struct hu h
  have hd : x.1 = .agg (xs.map (·.1)) := congrArg Prod.fst hx
  rw [hC] at hcl
  refine ⟨hcl, fun j U hj => ?_⟩
  obtain ⟨f, hfj, ho, ht⟩ := zip_at hfs hj
  have h3 := hf j f hfj
  have hjf := (Array.getElem?_eq_some_iff.1 hfj).1
  have hjx : j < xs.length := by omega
  have hjc : j < cs.length := by
    rcases Nat.lt_or_ge j Ts.length with h0 | h0
    · omega
    · rw [List.getElem?_eq_none h0] at hj; cases hj
  have hxi : xs[j]? = some xs[j] := List.getElem?_eq_getElem hjx
  rw [hxi, ho, ht, h1 U (List.mem_of_getElem? hj), List.drop_eq_getElem_cons hjc] at h3
  refine ⟨cs[j], List.getElem?_eq_getElem hjc, n, xs[j], h3, ?_, ?_⟩
  · rw [hd] at hfine
    have := Fine.field hu hfine hfj (d := xs[j].1) (by simp [hxi])
    rwa [ht] at this
  · have := bulk_in (ds := xs.map (·.1)) (j := j) (d := xs[j].1) (by simp [hxi])
    rw [hd] at hK
    simp only [Rows.uptoBulk] at hK
    omega
/-- A slice of structs of one-cell fields. -/
theorem open_structs {T e : TypeId} {fs : Array Field} {Ts : List TypeId} {c : Value} (hu : P.underlying T = some (.slice e)) (hs : P.underlying e = some (.struct fs)) (hfs : fs.toList.map (fun f => (f.offset, f.type)) = (List.range Ts.length).zip Ts) (hC : P.cellsOf e = Ts.length) (h1 : ∀ U ∈ Ts, P.cellsOf U = 1)
    (h : LeafB enc P w base spare held K T c) : c = .slice none 0 0 ∨ ∃ (a : Addr) (len cap : Nat), c = .slice (some a) len cap ∧ len ≤ cap ∧ len ≤ K ∧
      ∀ (i : Nat), i < len → ∀ (j : Nat) (U : TypeId), Ts[j]? = some U → ∃ v : Value, w.cell? (a.add (i * Ts.length + j)) = some v ∧ LeafB enc P w base spare held K U v := by
  obtain ⟨m, y, h, hfine, hK⟩ := h
  rcases open_slice hu h with ⟨hc, _⟩ | ⟨a, len, cap, m', k, D, Pl, hc, hb, hl, hm, hmm, hx, hi⟩
  · exact .inl (by simpa using hc)
  · have hx2 := congrArg Prod.fst hx
    simp only at hx2
    rw [hx2] at hfine hK
    simp only [Rows.uptoBulk] at hK
    have hbl := bulk_len ((List.range len).map D)
    simp only [List.length_map, List.length_range] at hbl
    have hlm : len ≤ m' := by rw [hmm]; split <;> omega
    refine .inr ⟨a, len, cap, by simpa using hc, hl, by omega, fun i hil j U hj => ?_⟩
    obtain ⟨cs', hcs, ht⟩ := hi i (by omega)
    have hbi := bulk_in (ds := (List.range len).map D) (j := i) (d := D i) (by simp [hil])
    obtain ⟨hl', hat'⟩ := fields_of (K := K) hs hfs hC h1 ht (Fine.elem hu hfine (i := i) (by simp [hil])) (show Rows.uptoBulk (D i) ≤ K by omega)
    obtain ⟨v, hv, hlf⟩ := hat' j U hj
    obtain ⟨_, hcl, hat⟩ := World.cells?_some hcs
    have hjl : j < Ts.length := by
      rcases Nat.lt_or_ge j Ts.length with h0 | h0
      · exact h0
      · rw [List.getElem?_eq_none h0] at hj; cases hj
    refine ⟨v, ?_, hlf⟩
    rw [← Go.Deep.add_add, ← hC, hat j (by omega), hv]
/-- A slice's length is at most its bulk. -/
theorem leafB_len {T e : TypeId} {a : Option Addr} {len cap : Nat} (hu : P.underlying T = some (.slice e)) (h : LeafB enc P w base spare held K T (.slice a len cap)) : len ≤ K := by
  obtain ⟨m, y, h, _, hK⟩ := h
  rcases open_slice hu h with ⟨hc, _⟩ | ⟨a', len', cap', m', k, D, Pl, hc, hb, hl, hm, hmm, hx, hi⟩
  · simp at hc; omega
  · have hx2 := congrArg Prod.fst hx
    simp at hx2 hc
    rw [hx2] at hK
    simp only [Rows.uptoBulk] at hK
    have h1 := bulk_len ((List.range len').map D)
    simp only [List.length_map, List.length_range] at h1
    omega
theorem open_attrs {T e S : TypeId} {fs : Array Field} {c : Value} (hu : P.underlying T = some (.slice e)) (hs : P.underlying e = some (.struct fs)) (hfs : fs.toList.map (fun f => (f.offset, f.type)) = [(0, S), (1, S)]) (hC : P.cellsOf e = 2)
    (hS : P.underlying S = some .string) (hS1 : P.cellsOf S = 1) (h : LeafB enc P w base spare held K T c) : ∃ (a : Option Addr) (l : List (ByteArray × ByteArray)) (cap : Nat), c = .slice a l.length cap ∧ Holds w w.heap.size a (l.flatMap attrF) ∧ l.length ≤ K ∧ l.length ≤ cap := by
  rcases open_structs (Ts := [S, S]) hu hs hfs hC (fun U hU => by simp at hU; rw [hU]; exact hS1) h with rfl | ⟨a, len, cap, rfl, hl, hk, hc⟩
  · exact ⟨none, [], 0, rfl, Holds.nil, by simp, by simp⟩
  · haveI : Inhabited (ByteArray × ByteArray) := ⟨ByteArray.empty, ByteArray.empty⟩
    have hx : ∀ i, i < len → ∃ x : ByteArray × ByteArray, ∀ j u, (attrF x)[j]? = some u → w.cell? (a.add (i * 2 + j)) = some u := fun i hi => by
      obtain ⟨v0, c0, l0⟩ := hc i hi 0 S rfl
      obtain ⟨v1, c1, l1⟩ := hc i hi 1 S rfl
      obtain ⟨s0, rfl, _, _⟩ := leaf_string hS l0.leaf
      obtain ⟨s1, rfl, _, _⟩ := leaf_string hS l1.leaf
      refine ⟨(s0, s1), fun j u hu' => ?_⟩
      match j, hu' with
      | 0, hu' => cases hu'; exact c0
      | 1, hu' => cases hu'; exact c1
      | j + 2, hu' => rw [List.getElem?_eq_none (by simp [attrF])] at hu'; cases hu'
    obtain ⟨f, hf⟩ := choose_under hx
    refine ⟨some a, (List.range len).map f, cap, by simp, ?_, by simpa using hk, by simpa using hl⟩
    rw [List.flatMap_map]
    exact holds_rows (L := 2) (by decide) (fun i => rfl) hf
theorem open_nodes {T e I S AT AE KT : TypeId} {fs gs : Array Field} {c : Value} (hu : P.underlying T = some (.slice e)) (hs : P.underlying e = some (.struct fs)) (hfs : fs.toList.map (fun f => (f.offset, f.type)) = [(0, I), (1, S), (2, AT), (3, S), (4, I), (5, KT)]) (hC : P.cellsOf e = 6)
    (hI : P.underlying I = some (.int .i64)) (hI1 : P.cellsOf I = 1) (hS : P.underlying S = some .string) (hS1 : P.cellsOf S = 1) (hA1 : P.cellsOf AT = 1) (hK1 : P.cellsOf KT = 1)
    (hA : P.underlying AT = some (.slice AE)) (hAs : P.underlying AE = some (.struct gs)) (hgs : gs.toList.map (fun f => (f.offset, f.type)) = [(0, S), (1, S)]) (hAC : P.cellsOf AE = 2) (hK : P.underlying KT = some (.slice I)) (hB : K ≤ 1048576)
    (h : LeafB enc P w base spare held K T c) : ∃ (a : Option Addr) (ns : List NodeV) (cap : Nat), c = .slice a ns.length cap ∧ Nodes w w.heap.size a ns ∧ ns.length ≤ K := by
  rcases open_structs (Ts := [I, S, AT, S, I, KT]) hu hs hfs hC (fun U hU => by simp at hU; rcases hU with rfl | rfl | rfl | rfl | rfl | rfl <;> assumption) h with rfl | ⟨a, len, cap, rfl, hl, hk, hc⟩
  · exact ⟨none, [], 0, rfl, fun i hi => absurd hi (by simp), by simp⟩
  · haveI : Inhabited NodeV := ⟨NodeV.zero⟩
    have hx : ∀ i, i < len → ∃ x : NodeV, (∀ j, j < 6 → w.cell? (a.add (i * 6 + j)) = (nodeC x)[j]?) ∧ NodeIn w w.heap.size x := fun i hi => by
      obtain ⟨v0, c0, l0⟩ := hc i hi 0 I rfl
      obtain ⟨v1, c1, l1⟩ := hc i hi 1 S rfl
      obtain ⟨v2, c2, l2⟩ := hc i hi 2 AT rfl
      obtain ⟨v3, c3, l3⟩ := hc i hi 3 S rfl
      obtain ⟨v4, c4, l4⟩ := hc i hi 4 I rfl
      obtain ⟨v5, c5, l5⟩ := hc i hi 5 KT rfl
      obtain ⟨z0, rfl, _⟩ := leaf_int hI l0.leaf
      obtain ⟨s1, rfl, _, _⟩ := leaf_string hS l1.leaf
      obtain ⟨aa, al, ac, rfl, ha, hak, hacp⟩ := open_attrs hA hAs hgs hAC hS hS1 l2
      obtain ⟨s3, rfl, _, _⟩ := leaf_string hS l3.leaf
      obtain ⟨z4, rfl, _⟩ := leaf_int hI l4.leaf
      have hfI : flat P 1 I = some [I] := by unfold flat; rw [hI]
      obtain ⟨ka, kl, kc, rfl⟩ := slice_val hK hfI hI1 l5.leaf
      obtain ⟨zs, hz, hh, _, _, _, _⟩ := leaf_ints hK hfI hI1 (by simp [allInts, hI]) (by simp) l5.leaf
      have hkl := leafB_len hK l5
      simp at hz
      subst hz
      refine ⟨⟨z0, s1, aa, al, ac, s3, z4, ka, zs, kc⟩, fun j hj => ?_, ⟨ha, hh, by show al.length ≤ _; omega, hacp, by show zs.length ≤ _; omega⟩⟩
      match j, hj with
      | 0, _ => exact c0
      | 1, _ => exact c1
      | 2, _ => exact c2
      | 3, _ => exact c3
      | 4, _ => exact c4
      | 5, _ => exact c5
    obtain ⟨f, hf⟩ := choose_under hx
    refine ⟨some a, (List.range len).map f, cap, by simp, fun i hi => ?_, by simpa using hk⟩
    have hi' : i < len := by simpa using hi
    obtain ⟨hcl, hin⟩ := hf i hi'
    obtain ⟨b, off, spot⟩ := a
    have h0 := (hf 0 (by omega)).1 0 (by decide)
    have hspot : spot = none := by simpa [Addr.add, nodeC] using World.cell?_spot h0
    subst hspot
    have hadd : ∀ j, (⟨b, off, none⟩ : Addr).add j = ⟨b, off + j, none⟩ := fun j => by unfold Addr.add; split <;> simp_all
    have e : nd ((List.range len).map f) i = f i := by simp [nd, List.getD, hi']
    rw [e]
    refine ⟨b, off, rfl, ?_, fun j hj => ?_, hin⟩
    · rw [hadd] at h0
      exact block_lt_of_cell (v := .int .i64 (f 0).kind) h0
    · have := hcl j hj
      rw [hadd] at this
      rw [Nat.add_assoc]
      exact this
/-- A struct of two one-cell fields, by value. -/
theorem open_two {T : TypeId} {fs : Array Field} {A B : TypeId} {cs : Array Value} {d : DataW H} {p : List MemPlace} (hu : P.underlying T = some (.struct fs)) (hfs : fs.toList.map (fun f => (f.offset, f.type)) = [(0, A), (1, B)]) (hc : P.cellsOf T = 2)
    (hA : P.cellsOf A = 1) (hB : P.cellsOf B = 1) (h : DataW.Trod enc P w base spare held T (.agg cs) d p) (hfine : Fine P T d) (hK : Rows.uptoBulk d ≤ K) :
    ∃ c0 c1, cs = #[c0, c1] ∧ LeafB enc P w base spare held K A c0 ∧ LeafB enc P w base spare held K B c1 := by
  obtain ⟨m, h⟩ := h
  have h : DataW.trod enc P w base spare held m T cs.toList = some (d, p) := by simpa [Value.cells] using h
  obtain ⟨hl, hat⟩ := fields_of (Ts := [A, B]) hu hfs hc (fun U hU => by simp at hU; rcases hU with rfl | rfl <;> assumption) h hfine hK
  obtain ⟨l⟩ := cs
  match l, hl with
  | [c0, c1], _ =>
    obtain ⟨c, e0, l0⟩ := hat 0 A rfl
    obtain ⟨c', e1, l1⟩ := hat 1 B rfl
    simp at e0 e1
    subst e0
    subst e1
    exact ⟨c0, c1, rfl, l0, l1⟩
end
end Go.Proofs.YtkmmlcnoeeaekaaGreatDoor
