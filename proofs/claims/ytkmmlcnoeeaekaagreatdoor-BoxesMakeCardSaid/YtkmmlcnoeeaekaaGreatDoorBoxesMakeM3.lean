/- Several texts in one: DomV, OpenDoc, OpenDocF. -/
import Derived.Test.YtkmmlcnoeeaekaaGreatDoorBoxesMakeM2
import Derived.Lib.SplitLaws
import Derived.Shelf.Strings.SlTrimAscii
/- Documents that came in; what dom.Check says of them. -/
namespace Go.Proofs.YtkmmlcnoeeaekaaGreatDoor
open Go.RowKit
set_option linter.unusedVariables false

/-- A node as it lies in memory. -/
structure NodeV where
  kind : Int
  name : ByteArray
  attrsA : Option Addr
  attrs : List (ByteArray × ByteArray)
  acap : Nat
  text : ByteArray
  parent : Int
  kidsA : Option Addr
  kids : List Int
  kcap : Nat
def NodeV.zero : NodeV := ⟨0, ByteArray.empty, none, [], 0, ByteArray.empty, 0, none, [], 0⟩
def nd (ns : List NodeV) (i : Nat) : NodeV := ns.getD i NodeV.zero
def attrF (a : ByteArray × ByteArray) : List Value := [.string a.1, .string a.2]
def nodeC (x : NodeV) : Array Value := #[.int .i64 x.kind, .string x.name, .slice x.attrsA x.attrs.length x.acap, .string x.text, .int .i64 x.parent, .slice x.kidsA x.kids.length x.kcap]
/-- What lies behind a node's slices. -/
structure NodeIn (w : World) (B : Nat) (x : NodeV) : Prop where
  attrs : Holds w B x.attrsA (x.attrs.flatMap attrF)
  kids : Holds w B x.kidsA (ints x.kids)
  an : x.attrs.length ≤ 140737488355328
  ac : x.attrs.length ≤ x.acap
  kn : x.kids.length ≤ 140737488355328
theorem NodeIn.below {w w' : World} {B B' : Nat} {x : NodeV} (h : NodeIn w B x) (hb : Below B' w w') (hB : B ≤ B') : NodeIn w' B x := ⟨h.attrs.below hb hB, h.kids.below hb hB, h.an, h.ac, h.kn⟩
/-- The slice at A holds the nodes ns, below block B. -/
def Nodes (w : World) (B : Nat) (A : Option Addr) (ns : List NodeV) : Prop :=
  ∀ i, i < ns.length → ∃ b off, A = some ⟨b, off, none⟩ ∧ b < B ∧ (∀ j, j < 6 → w.cell? ⟨b, off + i * 6 + j, none⟩ = (nodeC (nd ns i))[j]?) ∧ NodeIn w B (nd ns i)
theorem Nodes.below {w w' : World} {B B' : Nat} {A : Option Addr} {ns : List NodeV} (h : Nodes w B A ns) (hb : Below B' w w') (hB : B ≤ B') : Nodes w' B A ns := fun i hi => by
  obtain ⟨b, off, e, hlt, hc, hn⟩ := h i hi
  exact ⟨b, off, e, hlt, fun j hj => (hb.cell (p := ⟨b, off + i * 6 + j, none⟩) (by simp; omega)).trans (hc j hj), hn.below hb hB⟩
theorem Nodes.more {w : World} {B B' : Nat} {A : Option Addr} {ns : List NodeV} (h : Nodes w B A ns) (hB : B ≤ B') : Nodes w B' A ns := fun i hi => by
  obtain ⟨b, off, e, hlt, hc, hn⟩ := h i hi
  exact ⟨b, off, e, by omega, hc, ⟨hn.attrs.more hB, hn.kids.more hB, hn.an, hn.ac, hn.kn⟩⟩
/-- Two lists of nodes that lie at one place are one in their number's bounds. -/
def signsL : List UInt8 := [97, 98, 99, 100, 101, 102, 103, 104, 105, 106, 107, 108, 109, 110, 111, 112, 113, 114, 115, 116, 117, 118, 119, 120, 121, 122, 48, 49, 50, 51, 52, 53, 54, 55, 56, 57, 45, 95, 58]
def lettersL : List UInt8 := [97, 98, 99, 100, 101, 102, 103, 104, 105, 106, 107, 108, 109, 110, 111, 112, 113, 114, 115, 116, 117, 118, 119, 120, 121, 122]
def namedP (first : List UInt8) (s : ByteArray) : Bool := !(s.size == 0) && decide (s.size ≤ 40) && decide (0 ≤ Lib.indexByte first (s.data.toList.getD 0 0)) && (Lib.trimS s.data.toList signsL).isEmpty
def nameP (s : ByteArray) : Bool := namedP lettersL s
def attrNameP (s : ByteArray) : Bool := namedP (lettersL ++ [45, 95]) s
/-- The place of a name among attributes; -1: none. -/
def findP : List (ByteArray × ByteArray) → ByteArray → Int → Int
  | [], _, _ => -1
  | a :: l, s, k => if a.1 = s then k else findP l s (k + 1)
/-- The first of the numbers f 0, f 1, .. f (n-1) that is not 0. -/
def firstE (f : Nat → Int) : Nat → Int
  | 0 => 0
  | n + 1 => if firstE f n = 0 then f n else firstE f n
theorem firstE_none {f : Nat → Int} : ∀ {n : Nat}, (∀ j, j < n → f j = 0) → firstE f n = 0
  | 0, _ => rfl
  | n + 1, h => by rw [firstE, if_pos (firstE_none fun j hj => h j (by omega)), h n (by omega)]
theorem firstE_at {f : Nat → Int} {k : Nat} (hk : ∀ j, j < k → f j = 0) (h : f k ≠ 0) : ∀ {n : Nat}, k < n → firstE f n = f k
  | 0, hn => absurd hn (by omega)
  | n + 1, hn => by
    rw [firstE]
    by_cases e : k = n
    · subst e; rw [if_pos (firstE_none hk)]
    · rw [firstE_at hk h (n := n) (by omega), if_neg h]
def attrE (l : List (ByteArray × ByteArray)) (i : Nat) : Int :=
  if attrNameP (l.getD i (ByteArray.empty, ByteArray.empty)).1 = false then 3
  else if 400 < (l.getD i (ByteArray.empty, ByteArray.empty)).2.size then 2
  else if 0 ≤ findP (l.take i) (l.getD i (ByteArray.empty, ByteArray.empty)).1 0 then 3 else 0
def attrsE (l : List (ByteArray × ByteArray)) : Int := if 12 < l.length then 2 else firstE (attrE l) l.length
def bareP (x : NodeV) : Bool := ((x.kind == 2) || (x.kind == 5) || (x.name.size == 0)) && ((x.kind == 2) || (x.attrs.length == 0)) && ((x.kind == 3) || (x.kind == 4) || (x.text.size == 0)) && ((x.kind == 1) || (x.kind == 2) || (x.kids.length == 0))
def oneE (x : NodeV) : Int :=
  if x.kind < 1 ∨ 5 < x.kind ∨ bareP x = false then 7
  else if x.kind = 2 ∧ nameP x.name = false then 3
  else if attrsE x.attrs ≠ 0 then attrsE x.attrs
  else if 400 < x.text.size ∨ 400 < x.name.size then 2 else 0
/-- The kids of the nodes from i on, each with its node. -/
def pairs (ns : List NodeV) : Nat → Nat → List (Nat × Int)
  | 0, _ => []
  | u + 1, i => ((nd ns i).kids.map fun k => (i, k)) ++ pairs ns u (i + 1)
def runK (ns : List NodeV) : List (Nat × Int) → List Bool → Int × List Bool
  | [], seen => (0, seen)
  | (i, k) :: r, seen =>
    if k < 0 ∨ (ns.length : Int) ≤ k ∨ (nd ns k.toNat).parent ≠ i ∨ seen.getD k.toNat false = true then (3, seen)
    else if i = 0 ∧ (nd ns k.toNat).kind = 3 then (7, seen)
    else runK ns r (seen.set k.toNat true)
def kidsR (ns : List NodeV) : Int × List Bool := runK ns (pairs ns ns.length 0) (List.replicate ns.length false)
def looseE (ns : List NodeV) (seen : List Bool) (i : Nat) : Int := if (nd ns i).parent ≠ -1 ∧ seen.getD i false = false then 3 else 0
def kidsE (ns : List NodeV) : Int :=
  if (kidsR ns).1 ≠ 0 then (kidsR ns).1
  else if firstE (looseE ns (kidsR ns).2) ns.length ≠ 0 then 3
  else if (nd ns 0).parent ≠ -1 then 3 else 0
/-- How many parents a node has above it, as far as is asked. -/
def upF (ns : List NodeV) : Nat → Nat → Nat
  | 0, _ => 0
  | u + 1, i => if 0 ≤ (nd ns i).parent then upF ns u (nd ns i).parent.toNat + 1 else 0
def upE (ns : List NodeV) (i : Nat) : Int := if ns.length < upF ns (ns.length + 1) i then 8 else if 40 < upF ns (ns.length + 1) i then 2 else 0
def nodeE (ns : List NodeV) (i : Nat) : Int := if (decide ((nd ns i).kind = 1)) = (decide (i = 0)) then oneE (nd ns i) else 3
def checkE (ns : List NodeV) : Int :=
  if 200 < ns.length then 2
  else if ns.length = 0 then 3
  else if firstE (nodeE ns) ns.length ≠ 0 then firstE (nodeE ns) ns.length
  else if kidsE ns ≠ 0 then kidsE ns
  else firstE (upE ns) ns.length
/-- Behind the kids each node that was seen has a parent within. -/
theorem runK_seen {ns : List NodeV} : ∀ (l : List (Nat × Int)) (seen : List Bool), (∀ p ∈ l, p.1 < ns.length) → (∀ i, seen.getD i false = true → 0 ≤ (nd ns i).parent ∧ (nd ns i).parent < ns.length) → (runK ns l seen).1 = 0 → ∀ i, (runK ns l seen).2.getD i false = true → 0 ≤ (nd ns i).parent ∧ (nd ns i).parent < ns.length
  | [], seen, _, h, _ => h
  | (i, k) :: r, seen, hl, h, he => by
    rw [runK] at he ⊢
    split at he
    · cases he
    · rename_i h1
      rw [if_neg h1]
      split at he
      · cases he
      · rename_i h2
        rw [if_neg h2]
        refine runK_seen r _ (fun p hp => hl p (by simp [hp])) (fun j hj => ?_) he
        by_cases e : j = k.toNat
        · subst e
          have h3 : (nd ns k.toNat).parent = i := by
            rcases Classical.em ((nd ns k.toNat).parent = i) with h4 | h4
            · exact h4
            · exact absurd (.inr (.inr (.inl h4))) h1
          have := hl (i, k) (by simp)
          simp only at this
          omega
        · refine h j ?_
          rw [List.getD_eq_getElem?_getD, List.getElem?_set_ne (fun e' => e e'.symm)] at hj
          rwa [List.getD_eq_getElem?_getD]
theorem pairs_lt {ns : List NodeV} : ∀ (u i : Nat), i + u ≤ ns.length → ∀ p ∈ pairs ns u i, p.1 < ns.length
  | 0, _, _, p, h => by cases h
  | u + 1, i, hu, p, h => by
    rw [pairs, List.mem_append] at h
    rcases h with h | h
    · rw [List.mem_map] at h
      obtain ⟨k, _, rfl⟩ := h
      simp only; omega
    · exact pairs_lt u (i + 1) (by omega) p h
theorem parents_in {ns : List NodeV} (h : kidsE ns = 0) {i : Nat} (hi : i < ns.length) : (nd ns i).parent < ns.length ∧ -1 ≤ (nd ns i).parent := by
  unfold kidsE at h
  split at h
  · rename_i h1; exact absurd h h1
  · rename_i h1
    split at h
    · cases h
    · rename_i h2
      have h3 : (kidsR ns).1 = 0 := by omega
      have h4 : firstE (looseE ns (kidsR ns).2) ns.length = 0 := by omega
      have h5 : ∀ j, j < ns.length → looseE ns (kidsR ns).2 j = 0 := by
        intro j
        induction j using Nat.strongRecOn with
        | ind j ih =>
          intro hj
          rcases Classical.em (looseE ns (kidsR ns).2 j = 0) with h6 | h6
          · exact h6
          · have := firstE_at (fun m hm => ih m hm (by omega)) h6 hj
            rw [this] at h4; exact absurd h4 h6
      have h6 := h5 i hi
      unfold looseE at h6
      split at h6
      · cases h6
      · rename_i h7
        rcases Classical.em ((nd ns i).parent = -1) with h8 | h8
        · omega
        · have h9 : (kidsR ns).2.getD i false = true := by
            cases hb : (kidsR ns).2.getD i false
            · exact absurd ⟨h8, hb⟩ h7
            · rfl
          have := runK_seen (pairs ns ns.length 0) (List.replicate ns.length false) (pairs_lt _ _ (by omega)) (fun j hj => by
            rw [List.getD_eq_getElem?_getD, List.getElem?_replicate] at hj
            split at hj <;> simp at hj) h3 i h9
          omega
end Go.Proofs.YtkmmlcnoeeaekaaGreatDoor
/- A document that came in, by value: its nodes, their attributes and kids; what its bulk bounds. -/
namespace Go.Proofs.YtkmmlcnoeeaekaaGreatDoor
open Go.ChangeShapes Go.WideShapes Go.Deep
set_option linter.unusedVariables false
theorem rangeF_at (f : Nat → List Value) (L : Nat) (hL : 0 < L) (hf : ∀ i, (f i).length = L) : ∀ (n : Nat), ((List.range n).flatMap f).length = n * L ∧ ∀ k, k < n * L → ((List.range n).flatMap f)[k]? = (f (k / L))[k % L]?
  | 0 => ⟨by simp, fun k h => by omega⟩
  | n + 1 => by
    obtain ⟨h1, h2⟩ := rangeF_at f L hL hf n
    rw [List.range_succ, List.flatMap_append]
    have h3 : [n].flatMap f = f n := by simp
    rw [h3]
    refine ⟨by rw [List.length_append, h1, hf, Nat.succ_mul], fun k hk => ?_⟩
    rw [Nat.succ_mul] at hk
    by_cases hk' : k < n * L
    · rw [List.getElem?_append_left (by omega)]
      exact h2 k hk'
    · rw [List.getElem?_append_right (by omega), h1]
      have e0 : k = (k - n * L) + n * L := by omega
      have e1 : k / L = n := by
        rw [e0, Nat.add_mul_div_right _ _ hL, Nat.div_eq_of_lt (by omega)]; omega
      have e2 : k % L = k - n * L := by
        have := Nat.div_add_mod k L
        rw [e1, Nat.mul_comm] at this
        omega
      rw [e1, e2]
section
variable {H : Type} {enc : TypeId × Value → H} {P : Program} {w : World} {base : Nat} {spare : Nat → Bool} {held : Bool} {K : Nat}
theorem holds_rows {ad : Addr} {f : Nat → List Value} {len L : Nat} (hL : 0 < L) (hf : ∀ i, (f i).length = L) (h : ∀ i, i < len → ∀ j u, (f i)[j]? = some u → w.cell? (ad.add (i * L + j)) = some u) :
    Holds w w.heap.size (some ad) ((List.range len).flatMap f) := fun hn => by
  obtain ⟨hlen, hat⟩ := rangeF_at f L hL hf len
  rw [hlen] at hn
  have hl0 : 0 < len := Nat.pos_of_ne_zero fun e => by subst e; simp at hn
  obtain ⟨b, off, spot⟩ := ad
  have h0 : w.cell? (Addr.add ⟨b, off, spot⟩ (0 * L + 0)) = some _ := h 0 hl0 0 _ (List.getElem?_eq_getElem (by rw [hf]; exact hL))
  have hspot : spot = none := by simpa [Addr.add] using World.cell?_spot h0
  subst hspot
  have hadd : ∀ j, (⟨b, off, none⟩ : Addr).add j = ⟨b, off + j, none⟩ := fun j => by unfold Addr.add; split <;> simp_all
  rw [hadd] at h0
  refine ⟨b, off, rfl, block_lt_of_cell h0, fun k hk => ?_⟩
  rw [hlen] at hk
  have hkL : k % L < (f (k / L)).length := by rw [hf]; exact Nat.mod_lt _ hL
  have h2 := h (k / L) (Nat.div_lt_of_lt_mul (by rw [Nat.mul_comm]; exact hk)) (k % L) _ (List.getElem?_eq_getElem hkL)
  rw [hadd, show k / L * L + k % L = k from by rw [Nat.mul_comm]; exact Nat.div_add_mod k L] at h2
  rw [h2, List.getD, hat k hk, List.getElem?_eq_getElem hkL]
  rfl

/-- The cell c reads at the type T, at bulk K at most. -/
def LeafB (enc : TypeId × Value → H) (P : Program) (w : World) (base : Nat) (spare : Nat → Bool) (held : Bool) (K : Nat) (T : TypeId) (c : Value) : Prop :=
  ∃ m y, DataW.trod enc P w base spare held m T [c] = some y ∧ Fine P T y.1 ∧ Rows.uptoBulk y.1 ≤ K
theorem LeafB.leaf {T : TypeId} {c : Value} (h : LeafB enc P w base spare held K T c) : Leaf enc P w base spare held T c := by
  obtain ⟨m, y, h, hf, _⟩ := h
  exact ⟨m, y, h, hf⟩
theorem zip_at {fs : Array Field} {Ts : List TypeId} (h : fs.toList.map (fun f => (f.offset, f.type)) = (List.range Ts.length).zip Ts) {j : Nat} {U : TypeId} (hj : Ts[j]? = some U) : ∃ f, fs[j]? = some f ∧ f.offset = j ∧ f.type = U := by
  have hlt : j < Ts.length := by
    rcases Nat.lt_or_ge j Ts.length with h0 | h0
    · exact h0
    · rw [List.getElem?_eq_none h0] at hj; cases hj
  have h1 : (fs.toList.map (fun f => (f.offset, f.type)))[j]? = some (j, U) := by
    rw [h, List.getElem?_zip_eq_some]
    exact ⟨by simp [hlt], hj⟩
  rw [List.getElem?_map] at h1
  cases hfj : fs.toList[j]? with
  | none => rw [hfj] at h1; cases h1
  | some f =>
    rw [hfj] at h1
    injection h1 with h1
    injection h1 with h2 h3
    exact ⟨f, by simpa using hfj, h2, h3⟩
end
end Go.Proofs.YtkmmlcnoeeaekaaGreatDoor
/- A document that came in, by value: its nodes, their attributes and kids; what memory bounds. -/
namespace Go.Proofs.YtkmmlcnoeeaekaaGreatDoor
open Go.ChangeShapes Go.WideShapes Go.Deep
set_option linter.unusedVariables false
section
variable {H : Type} {enc : TypeId × Value → H} {P : Program} {w : World} {base : Nat} {spare : Nat → Bool} {held : Bool}
theorem reach_le {a b n : Nat} (hb : 0 < b) (h : (n + a) * b ≤ reachBytes) : n ≤ 140737488355328 := by
  have h1 : n ≤ (n + a) * b := Nat.le_trans (Nat.le_add_right n a) (Nat.le_mul_of_pos_right _ hb)
  have h2 : reachBytes ≤ 140737488355328 := by decide
  omega
/-- What a struct's cells read as, each field one cell. -/
theorem fieldsF_of {T : TypeId} {fs : Array Field} {Ts : List TypeId} {cs : List Value} {fuel : Nat} {x : DataW H × List MemPlace} (hu : P.underlying T = some (.struct fs)) (hfs : fs.toList.map (fun f => (f.offset, f.type)) = (List.range Ts.length).zip Ts) (hC : P.cellsOf T = Ts.length) (h1 : ∀ U ∈ Ts, P.cellsOf U = 1)
    (h : DataW.trod enc P w base spare held fuel T cs = some x) (hfine : Fine P T x.1) : cs.length = Ts.length ∧ ∀ (j : Nat) (U : TypeId), Ts[j]? = some U → ∃ c, cs[j]? = some c ∧ Leaf enc P w base spare held U c := by
  obtain ⟨xs, n, _, hx, hcl, hxl, hf⟩ := DataW.trod_struct hu h
  have hd : x.1 = .agg (xs.map (·.1)) := congrArg Prod.fst hx
  rw [hC] at hcl
  refine ⟨hcl, fun j U hj => ?_⟩
  obtain ⟨f, hfj, ho, ht⟩ := zip_at hfs hj
  have h3 := hf j f hfj
  have hjf := (Array.getElem?_eq_some_iff.1 hfj).1
  have hjx : j < xs.length := by omega
  have hjc : j < cs.length := by
    rcases Nat.lt_or_ge j Ts.length with h0 | h0
    · omega
    · rw [List.getElem?_eq_none h0] at hj; cases hj
  have hxi : xs[j]? = some xs[j] := List.getElem?_eq_getElem hjx
  rw [hxi, ho, ht, h1 U (List.mem_of_getElem? hj), List.drop_eq_getElem_cons hjc] at h3
  refine ⟨cs[j], List.getElem?_eq_getElem hjc, n, xs[j], h3, ?_⟩
  rw [hd] at hfine
  have := Fine.field hu hfine hfj (d := xs[j].1) (by simp [hxi])
  rwa [ht] at this
/-- A slice of structs of one-cell fields. -/
theorem openF_structs {T e : TypeId} {fs : Array Field} {Ts : List TypeId} {c : Value} (hu : P.underlying T = some (.slice e)) (hs : P.underlying e = some (.struct fs)) (hfs : fs.toList.map (fun f => (f.offset, f.type)) = (List.range Ts.length).zip Ts) (hC : P.cellsOf e = Ts.length) (h1 : ∀ U ∈ Ts, P.cellsOf U = 1) (hby : 0 < P.bytesOf e)
    (h : Leaf enc P w base spare held T c) : c = .slice none 0 0 ∨ ∃ (a : Addr) (len cap : Nat), c = .slice (some a) len cap ∧ len ≤ cap ∧ len ≤ 140737488355328 ∧
      ∀ (i : Nat), i < len → ∀ (j : Nat) (U : TypeId), Ts[j]? = some U → ∃ v : Value, w.cell? (a.add (i * Ts.length + j)) = some v ∧ Leaf enc P w base spare held U v := by
  obtain ⟨m, y, h, hfine⟩ := h
  rcases open_slice hu h with ⟨hc, _⟩ | ⟨a, len, cap, m', k, D, Pl, hc, hb, hl, hm, hmm, hx, hi⟩
  · exact .inl (by simpa using hc)
  · have hx2 := congrArg Prod.fst hx
    simp only at hx2
    rw [hx2] at hfine
    have hsz := Fine.size hu hfine
    simp only [List.length_map, List.length_range] at hsz
    have hlm : len ≤ m' := by rw [hmm]; split <;> omega
    refine .inr ⟨a, len, cap, by simpa using hc, hl, reach_le hby hsz, fun i hil j U hj => ?_⟩
    obtain ⟨cs', hcs, ht⟩ := hi i (by omega)
    obtain ⟨hl', hat'⟩ := fieldsF_of hs hfs hC h1 ht (Fine.elem hu hfine (i := i) (by simp [hil]))
    obtain ⟨v, hv, hlf⟩ := hat' j U hj
    obtain ⟨_, hcl, hat⟩ := World.cells?_some hcs
    have hjl : j < Ts.length := by
      rcases Nat.lt_or_ge j Ts.length with h0 | h0
      · exact h0
      · rw [List.getElem?_eq_none h0] at hj; cases hj
    refine ⟨v, ?_, hlf⟩
    rw [← Go.Deep.add_add, ← hC, hat j (by omega), hv]
/-- A slice's length. -/
theorem leafF_len {T e : TypeId} {a : Option Addr} {len cap : Nat} (hu : P.underlying T = some (.slice e)) (hby : 0 < P.bytesOf e) (h : Leaf enc P w base spare held T (.slice a len cap)) : len ≤ 140737488355328 := by
  obtain ⟨m, y, h, hfine⟩ := h
  rcases open_slice hu h with ⟨hc, _⟩ | ⟨a', len', cap', m', k, D, Pl, hc, hb, hl, hm, hmm, hx, hi⟩
  · simp at hc; omega
  · have hx2 := congrArg Prod.fst hx
    simp at hx2 hc
    rw [hx2] at hfine
    have hsz := Fine.size hu hfine
    simp only [List.length_map, List.length_range] at hsz
    have := reach_le hby hsz
    omega
theorem openF_attrs {T e S : TypeId} {fs : Array Field} {c : Value} (hu : P.underlying T = some (.slice e)) (hs : P.underlying e = some (.struct fs)) (hfs : fs.toList.map (fun f => (f.offset, f.type)) = [(0, S), (1, S)]) (hC : P.cellsOf e = 2) (hby : 0 < P.bytesOf e)
    (hS : P.underlying S = some .string) (hS1 : P.cellsOf S = 1) (h : Leaf enc P w base spare held T c) : ∃ (a : Option Addr) (l : List (ByteArray × ByteArray)) (cap : Nat), c = .slice a l.length cap ∧ Holds w w.heap.size a (l.flatMap attrF) ∧ l.length ≤ 140737488355328 ∧ l.length ≤ cap := by
  rcases openF_structs (Ts := [S, S]) hu hs hfs hC (fun U hU => by simp at hU; rw [hU]; exact hS1) hby h with rfl | ⟨a, len, cap, rfl, hl, hk, hc⟩
  · exact ⟨none, [], 0, rfl, Holds.nil, by simp, by simp⟩
  · haveI : Inhabited (ByteArray × ByteArray) := ⟨ByteArray.empty, ByteArray.empty⟩
    have hx : ∀ i, i < len → ∃ x : ByteArray × ByteArray, ∀ j u, (attrF x)[j]? = some u → w.cell? (a.add (i * 2 + j)) = some u := fun i hi => by
      obtain ⟨v0, c0, l0⟩ := hc i hi 0 S rfl
      obtain ⟨v1, c1, l1⟩ := hc i hi 1 S rfl
      obtain ⟨s0, rfl, _, _⟩ := leaf_string hS l0
      obtain ⟨s1, rfl, _, _⟩ := leaf_string hS l1
      refine ⟨(s0, s1), fun j u hu' => ?_⟩
      match j, hu' with
      | 0, hu' => cases hu'; exact c0
      | 1, hu' => cases hu'; exact c1
      | j + 2, hu' => rw [List.getElem?_eq_none (by simp [attrF])] at hu'; cases hu'
    obtain ⟨f, hf⟩ := choose_under hx
    refine ⟨some a, (List.range len).map f, cap, by simp, ?_, by simpa using hk, by simpa using hl⟩
    rw [List.flatMap_map]
    exact holds_rows (L := 2) (by decide) (fun i => rfl) hf
theorem openF_nodes {T e I S AT AE KT : TypeId} {fs gs : Array Field} {c : Value} (hu : P.underlying T = some (.slice e)) (hs : P.underlying e = some (.struct fs)) (hfs : fs.toList.map (fun f => (f.offset, f.type)) = [(0, I), (1, S), (2, AT), (3, S), (4, I), (5, KT)]) (hC : P.cellsOf e = 6) (hby : 0 < P.bytesOf e)
    (hI : P.underlying I = some (.int .i64)) (hI1 : P.cellsOf I = 1) (hIb : 0 < P.bytesOf I) (hS : P.underlying S = some .string) (hS1 : P.cellsOf S = 1) (hA1 : P.cellsOf AT = 1) (hK1 : P.cellsOf KT = 1)
    (hA : P.underlying AT = some (.slice AE)) (hAs : P.underlying AE = some (.struct gs)) (hgs : gs.toList.map (fun f => (f.offset, f.type)) = [(0, S), (1, S)]) (hAC : P.cellsOf AE = 2) (hAb : 0 < P.bytesOf AE) (hK : P.underlying KT = some (.slice I))
    (h : Leaf enc P w base spare held T c) : ∃ (a : Option Addr) (ns : List NodeV) (cap : Nat), c = .slice a ns.length cap ∧ Nodes w w.heap.size a ns ∧ ns.length ≤ 140737488355328 := by
  rcases openF_structs (Ts := [I, S, AT, S, I, KT]) hu hs hfs hC (fun U hU => by simp at hU; rcases hU with rfl | rfl | rfl | rfl | rfl | rfl <;> assumption) hby h with rfl | ⟨a, len, cap, rfl, hl, hk, hc⟩
  · exact ⟨none, [], 0, rfl, fun i hi => absurd hi (by simp), by simp⟩
  · haveI : Inhabited NodeV := ⟨NodeV.zero⟩
    have hx : ∀ i, i < len → ∃ x : NodeV, (∀ j, j < 6 → w.cell? (a.add (i * 6 + j)) = (nodeC x)[j]?) ∧ NodeIn w w.heap.size x := fun i hi => by
      obtain ⟨v0, c0, l0⟩ := hc i hi 0 I rfl
      obtain ⟨v1, c1, l1⟩ := hc i hi 1 S rfl
      obtain ⟨v2, c2, l2⟩ := hc i hi 2 AT rfl
      obtain ⟨v3, c3, l3⟩ := hc i hi 3 S rfl
      obtain ⟨v4, c4, l4⟩ := hc i hi 4 I rfl
      obtain ⟨v5, c5, l5⟩ := hc i hi 5 KT rfl
      obtain ⟨z0, rfl, _⟩ := leaf_int hI l0
      obtain ⟨s1, rfl, _, _⟩ := leaf_string hS l1
      obtain ⟨aa, al, ac, rfl, ha, hak, hacp⟩ := openF_attrs hA hAs hgs hAC hAb hS hS1 l2
      obtain ⟨s3, rfl, _, _⟩ := leaf_string hS l3
      obtain ⟨z4, rfl, _⟩ := leaf_int hI l4
      have hfI : flat P 1 I = some [I] := by unfold flat; rw [hI]
      obtain ⟨ka, kl, kc, rfl⟩ := slice_val hK hfI hI1 l5
      obtain ⟨zs, hz, hh, _, _, _, _⟩ := leaf_ints hK hfI hI1 (by simp [allInts, hI]) (by simp) l5
      have hkl := leafF_len hK hIb l5
      simp at hz
      subst hz
      refine ⟨⟨z0, s1, aa, al, ac, s3, z4, ka, zs, kc⟩, fun j hj => ?_, ⟨ha, hh, hak, hacp, hkl⟩⟩
      match j, hj with
      | 0, _ => exact c0
      | 1, _ => exact c1
      | 2, _ => exact c2
      | 3, _ => exact c3
      | 4, _ => exact c4
      | 5, _ => exact c5
    obtain ⟨f, hf⟩ := choose_under hx
    refine ⟨some a, (List.range len).map f, cap, by simp, fun i hi => ?_, by simpa using hk⟩
    have hi' : i < len := by simpa using hi
    obtain ⟨hcl, hin⟩ := hf i hi'
    obtain ⟨b, off, spot⟩ := a
    have h0 := (hf 0 (by omega)).1 0 (by decide)
    have hspot : spot = none := by simpa [Addr.add, nodeC] using World.cell?_spot h0
    subst hspot
    have hadd : ∀ j, (⟨b, off, none⟩ : Addr).add j = ⟨b, off + j, none⟩ := fun j => by unfold Addr.add; split <;> simp_all
    have e : nd ((List.range len).map f) i = f i := by simp [nd, List.getD, hi']
    rw [e]
    refine ⟨b, off, rfl, ?_, fun j hj => ?_, hin⟩
    · rw [hadd] at h0
      exact block_lt_of_cell (v := .int .i64 (f 0).kind) h0
    · have := hcl j hj
      rw [hadd] at this
      rw [Nat.add_assoc]
      exact this
/-- A struct of two one-cell fields, by value. -/
theorem openF_two {T : TypeId} {fs : Array Field} {A B : TypeId} {cs : Array Value} {d : DataW H} {p : List MemPlace} (hu : P.underlying T = some (.struct fs)) (hfs : fs.toList.map (fun f => (f.offset, f.type)) = [(0, A), (1, B)]) (hc : P.cellsOf T = 2)
    (hA : P.cellsOf A = 1) (hB : P.cellsOf B = 1) (h : DataW.Trod enc P w base spare held T (.agg cs) d p) (hfine : Fine P T d) :
    ∃ c0 c1, cs = #[c0, c1] ∧ Leaf enc P w base spare held A c0 ∧ Leaf enc P w base spare held B c1 := by
  obtain ⟨m, h⟩ := h
  have h : DataW.trod enc P w base spare held m T cs.toList = some (d, p) := by simpa [Value.cells] using h
  obtain ⟨hl, hat⟩ := fieldsF_of (Ts := [A, B]) hu hfs hc (fun U hU => by simp at hU; rcases hU with rfl | rfl <;> assumption) h hfine
  obtain ⟨l⟩ := cs
  match l, hl with
  | [c0, c1], _ =>
    obtain ⟨c, e0, l0⟩ := hat 0 A rfl
    obtain ⟨c', e1, l1⟩ := hat 1 B rfl
    simp at e0 e1
    subst e0
    subst e1
    exact ⟨c0, c1, rfl, l0, l1⟩
/-- The length of a slice that came in. -/
theorem argF_len {T e : TypeId} {a : Option Addr} {len cap : Nat} {d : DataW H} {p : List MemPlace} (hu : P.underlying T = some (.slice e)) (hby : 0 < P.bytesOf e) (h : DataW.Trod enc P w base spare held T (.slice a len cap) d p) (hfine : Fine P T d) : len ≤ 140737488355328 := by
  obtain ⟨m, h⟩ := h
  have h : DataW.trod enc P w base spare held m T [Value.slice a len cap] = some (d, p) := by simpa [Value.cells] using h
  rcases open_slice hu h with ⟨hc, _⟩ | ⟨a', len', cap', m', k, D, Pl, hc, hb, hl, hm, hmm, hx, hi⟩
  · simp at hc; omega
  · have hx2 := congrArg Prod.fst hx
    simp at hx2 hc
    rw [hx2] at hfine
    have hsz := Fine.size hu hfine
    simp only [List.length_map, List.length_range] at hsz
    have := reach_le hby hsz
    omega
end
end Go.Proofs.YtkmmlcnoeeaekaaGreatDoor
