/- Several texts in one: Ints, DomV, TeV. -/
import Derived.Test.YtcghahfboccceaaGreatDoorTopEscapeM8
import Derived.Lib.SplitLaws
import Derived.Shelf.Strings.SlTrimAscii
import Derived.Test.YtcghahfboccceaaGreatDoorTopEscapeM13
import Derived.Laws.ResultCell
import Derived.Laws.Rows
/- A list of ints as cells. -/
namespace Go.Proofs.YtcghahfboccceaaGreatDoor
open Go.RowKit
set_option linter.unusedVariables false
def ints (zs : List Int) : List Value := zs.map (Value.int .i64)
theorem ints_len (zs : List Int) : (ints zs).length = zs.length := by simp [ints]
end Go.Proofs.YtcghahfboccceaaGreatDoor
/- Documents that came in; what dom.Check says of them. -/
namespace Go.Proofs.YtcghahfboccceaaGreatDoor
open Go.RowKit
set_option linter.unusedVariables false

/-- A node as it lies in memory. -/
structure NodeV where
  kind : Int
  name : ByteArray
  attrsA : Option Addr
  attrs : List (ByteArray × ByteArray)
  acap : Nat
  text : ByteArray
  parent : Int
  kidsA : Option Addr
  kids : List Int
  kcap : Nat
def NodeV.zero : NodeV := ⟨0, ByteArray.empty, none, [], 0, ByteArray.empty, 0, none, [], 0⟩
def nd (ns : List NodeV) (i : Nat) : NodeV := ns.getD i NodeV.zero
def attrF (a : ByteArray × ByteArray) : List Value := [.string a.1, .string a.2]
def nodeC (x : NodeV) : Array Value := #[.int .i64 x.kind, .string x.name, .slice x.attrsA x.attrs.length x.acap, .string x.text, .int .i64 x.parent, .slice x.kidsA x.kids.length x.kcap]
/-- What lies behind a node's slices. -/
structure NodeIn (w : World) (B : Nat) (x : NodeV) : Prop where
  attrs : Holds w B x.attrsA (x.attrs.flatMap attrF)
  kids : Holds w B x.kidsA (ints x.kids)
  an : x.attrs.length ≤ 140737488355328
  ac : x.attrs.length ≤ x.acap
  kn : x.kids.length ≤ 140737488355328
theorem NodeIn.below {w w' : World} {B B' : Nat} {x : NodeV} (h : NodeIn w B x) (hb : Below B' w w') (hB : B ≤ B') : NodeIn w' B x := ⟨h.attrs.below hb hB, h.kids.below hb hB, h.an, h.ac, h.kn⟩
/-- The slice at A holds the nodes ns, below block B. -/
def Nodes (w : World) (B : Nat) (A : Option Addr) (ns : List NodeV) : Prop :=
  ∀ i, i < ns.length → ∃ b off, A = some ⟨b, off, none⟩ ∧ b < B ∧ (∀ j, j < 6 → w.cell? ⟨b, off + i * 6 + j, none⟩ = (nodeC (nd ns i))[j]?) ∧ NodeIn w B (nd ns i)
theorem Nodes.below {w w' : World} {B B' : Nat} {A : Option Addr} {ns : List NodeV} (h : Nodes w B A ns) (hb : Below B' w w') (hB : B ≤ B') : Nodes w' B A ns := fun i hi => by
  obtain ⟨b, off, e, hlt, hc, hn⟩ := h i hi
  exact ⟨b, off, e, hlt, fun j hj => (hb.cell (p := ⟨b, off + i * 6 + j, none⟩) (by simp; omega)).trans (hc j hj), hn.below hb hB⟩
theorem Nodes.more {w : World} {B B' : Nat} {A : Option Addr} {ns : List NodeV} (h : Nodes w B A ns) (hB : B ≤ B') : Nodes w B' A ns := fun i hi => by
  obtain ⟨b, off, e, hlt, hc, hn⟩ := h i hi
  exact ⟨b, off, e, by omega, hc, ⟨hn.attrs.more hB, hn.kids.more hB, hn.an, hn.ac, hn.kn⟩⟩
/-- Two lists of nodes that lie at one place are one in their number's bounds. -/
def signsL : List UInt8 := [97, 98, 99, 100, 101, 102, 103, 104, 105, 106, 107, 108, 109, 110, 111, 112, 113, 114, 115, 116, 117, 118, 119, 120, 121, 122, 48, 49, 50, 51, 52, 53, 54, 55, 56, 57, 45, 95, 58]
def lettersL : List UInt8 := [97, 98, 99, 100, 101, 102, 103, 104, 105, 106, 107, 108, 109, 110, 111, 112, 113, 114, 115, 116, 117, 118, 119, 120, 121, 122]
def namedP (first : List UInt8) (s : ByteArray) : Bool := !(s.size == 0) && decide (s.size ≤ 40) && decide (0 ≤ Lib.indexByte first (s.data.toList.getD 0 0)) && (Lib.trimS s.data.toList signsL).isEmpty
def nameP (s : ByteArray) : Bool := namedP lettersL s
def attrNameP (s : ByteArray) : Bool := namedP (lettersL ++ [45, 95]) s
/-- The place of a name among attributes; -1: none. -/
def findP : List (ByteArray × ByteArray) → ByteArray → Int → Int
  | [], _, _ => -1
  | a :: l, s, k => if a.1 = s then k else findP l s (k + 1)
/-- The first of the numbers f 0, f 1, .. f (n-1) that is not 0. -/
def firstE (f : Nat → Int) : Nat → Int
  | 0 => 0
  | n + 1 => if firstE f n = 0 then f n else firstE f n
theorem firstE_none {f : Nat → Int} : ∀ {n : Nat}, (∀ j, j < n → f j = 0) → firstE f n = 0
  | 0, _ => rfl
  | n + 1, h => by rw [firstE, if_pos (firstE_none fun j hj => h j (by omega)), h n (by omega)]
theorem firstE_at {f : Nat → Int} {k : Nat} (hk : ∀ j, j < k → f j = 0) (h : f k ≠ 0) : ∀ {n : Nat}, k < n → firstE f n = f k
  | 0, hn => absurd hn (by omega)
  | n + 1, hn => by
    rw [firstE]
    by_cases e : k = n
    · subst e; rw [if_pos (firstE_none hk)]
    · rw [firstE_at hk h (n := n) (by omega), if_neg h]
def attrE (l : List (ByteArray × ByteArray)) (i : Nat) : Int :=
  if attrNameP (l.getD i (ByteArray.empty, ByteArray.empty)).1 = false then 3
  else if 400 < (l.getD i (ByteArray.empty, ByteArray.empty)).2.size then 2
  else if 0 ≤ findP (l.take i) (l.getD i (ByteArray.empty, ByteArray.empty)).1 0 then 3 else 0
def attrsE (l : List (ByteArray × ByteArray)) : Int := if 12 < l.length then 2 else firstE (attrE l) l.length
def bareP (x : NodeV) : Bool := ((x.kind == 2) || (x.kind == 5) || (x.name.size == 0)) && ((x.kind == 2) || (x.attrs.length == 0)) && ((x.kind == 3) || (x.kind == 4) || (x.text.size == 0)) && ((x.kind == 1) || (x.kind == 2) || (x.kids.length == 0))
def oneE (x : NodeV) : Int :=
  if x.kind < 1 ∨ 5 < x.kind ∨ bareP x = false then 7
  else if x.kind = 2 ∧ nameP x.name = false then 3
  else if attrsE x.attrs ≠ 0 then attrsE x.attrs
  else if 400 < x.text.size ∨ 400 < x.name.size then 2 else 0
/-- The kids of the nodes from i on, each with its node. -/
def pairs (ns : List NodeV) : Nat → Nat → List (Nat × Int)
  | 0, _ => []
  | u + 1, i => ((nd ns i).kids.map fun k => (i, k)) ++ pairs ns u (i + 1)
def runK (ns : List NodeV) : List (Nat × Int) → List Bool → Int × List Bool
  | [], seen => (0, seen)
  | (i, k) :: r, seen =>
    if k < 0 ∨ (ns.length : Int) ≤ k ∨ (nd ns k.toNat).parent ≠ i ∨ seen.getD k.toNat false = true then (3, seen)
    else if i = 0 ∧ (nd ns k.toNat).kind = 3 then (7, seen)
    else runK ns r (seen.set k.toNat true)
def kidsR (ns : List NodeV) : Int × List Bool := runK ns (pairs ns ns.length 0) (List.replicate ns.length false)
def looseE (ns : List NodeV) (seen : List Bool) (i : Nat) : Int := if (nd ns i).parent ≠ -1 ∧ seen.getD i false = false then 3 else 0
def kidsE (ns : List NodeV) : Int :=
  if (kidsR ns).1 ≠ 0 then (kidsR ns).1
  else if firstE (looseE ns (kidsR ns).2) ns.length ≠ 0 then 3
  else if (nd ns 0).parent ≠ -1 then 3 else 0
/-- How many parents a node has above it, as far as is asked. -/
def upF (ns : List NodeV) : Nat → Nat → Nat
  | 0, _ => 0
  | u + 1, i => if 0 ≤ (nd ns i).parent then upF ns u (nd ns i).parent.toNat + 1 else 0
def upE (ns : List NodeV) (i : Nat) : Int := if ns.length < upF ns (ns.length + 1) i then 8 else if 40 < upF ns (ns.length + 1) i then 2 else 0
def nodeE (ns : List NodeV) (i : Nat) : Int := if (decide ((nd ns i).kind = 1)) = (decide (i = 0)) then oneE (nd ns i) else 3
def checkE (ns : List NodeV) : Int :=
  if 200 < ns.length then 2
  else if ns.length = 0 then 3
  else if firstE (nodeE ns) ns.length ≠ 0 then firstE (nodeE ns) ns.length
  else if kidsE ns ≠ 0 then kidsE ns
  else firstE (upE ns) ns.length
/-- Behind the kids each node that was seen has a parent within. -/
theorem runK_seen {ns : List NodeV} : ∀ (l : List (Nat × Int)) (seen : List Bool), (∀ p ∈ l, p.1 < ns.length) → (∀ i, seen.getD i false = true → 0 ≤ (nd ns i).parent ∧ (nd ns i).parent < ns.length) → (runK ns l seen).1 = 0 → ∀ i, (runK ns l seen).2.getD i false = true → 0 ≤ (nd ns i).parent ∧ (nd ns i).parent < ns.length
  | [], seen, _, h, _ => h
  | (i, k) :: r, seen, hl, h, he => by
    rw [runK] at he ⊢
    split at he
    · cases he
    · rename_i h1
      rw [if_neg h1]
      split at he
      · cases he
      · rename_i h2
        rw [if_neg h2]
        refine runK_seen r _ (fun p hp => hl p (by simp [hp])) (fun j hj => ?_) he
        by_cases e : j = k.toNat
        · subst e
          have h3 : (nd ns k.toNat).parent = i := by
            rcases Classical.em ((nd ns k.toNat).parent = i) with h4 | h4
            · exact h4
            · exact absurd (.inr (.inr (.inl h4))) h1
          have := hl (i, k) (by simp)
          simp only at this
          omega
        · refine h j ?_
          rw [List.getD_eq_getElem?_getD, List.getElem?_set_ne (fun e' => e e'.symm)] at hj
          rwa [List.getD_eq_getElem?_getD]
theorem pairs_lt {ns : List NodeV} : ∀ (u i : Nat), i + u ≤ ns.length → ∀ p ∈ pairs ns u i, p.1 < ns.length
  | 0, _, _, p, h => by cases h
  | u + 1, i, hu, p, h => by
    rw [pairs, List.mem_append] at h
    rcases h with h | h
    · rw [List.mem_map] at h
      obtain ⟨k, _, rfl⟩ := h
      simp only; omega
    · exact pairs_lt u (i + 1) (by omega) p h
theorem parents_in {ns : List NodeV} (h : kidsE ns = 0) {i : Nat} (hi : i < ns.length) : (nd ns i).parent < ns.length ∧ -1 ≤ (nd ns i).parent := by
  unfold kidsE at h
  split at h
  · rename_i h1; exact absurd h h1
  · rename_i h1
    split at h
    · cases h
    · rename_i h2
      have h3 : (kidsR ns).1 = 0 := by omega
      have h4 : firstE (looseE ns (kidsR ns).2) ns.length = 0 := by omega
      have h5 : ∀ j, j < ns.length → looseE ns (kidsR ns).2 j = 0 := by
        intro j
        induction j using Nat.strongRecOn with
        | ind j ih =>
          intro hj
          rcases Classical.em (looseE ns (kidsR ns).2 j = 0) with h6 | h6
          · exact h6
          · have := firstE_at (fun m hm => ih m hm (by omega)) h6 hj
            rw [this] at h4; exact absurd h4 h6
      have h6 := h5 i hi
      unfold looseE at h6
      split at h6
      · cases h6
      · rename_i h7
        rcases Classical.em ((nd ns i).parent = -1) with h8 | h8
        · omega
        · have h9 : (kidsR ns).2.getD i false = true := by
            cases hb : (kidsR ns).2.getD i false
            · exact absurd ⟨h8, hb⟩ h7
            · rfl
          have := runK_seen (pairs ns ns.length 0) (List.replicate ns.length false) (pairs_lt _ _ (by omega)) (fun j hj => by
            rw [List.getD_eq_getElem?_getD, List.getElem?_replicate] at hj
            split at hj <;> simp at hj) h3 i h9
          omega
theorem upF_le (ns : List NodeV) : ∀ (u i : Nat), upF ns u i ≤ u
  | 0, _ => Nat.le_refl _
  | u + 1, i => by
    rw [upF]; split
    · have := upF_le ns u (nd ns i).parent.toNat; omega
    · omega
end Go.Proofs.YtcghahfboccceaaGreatDoor
/- Contract of token's next at a start tag; what a tag's contract is. -/
namespace Go.Proofs.YtcghahfboccceaaGreatDoor
open Go.RowKit Go.Shelf
set_option linter.unusedVariables false
set_option linter.unusedSimpArgs false

/-- A token with its attributes. -/
structure TokD where
  kind : Int
  name : ByteArray
  attrs : List (ByteArray × ByteArray)
  text : ByteArray
  self : Bool
  from' : Int
  to' : Int
/-- The attributes that a value holds. -/
def AttrsAt (B : Nat) (av : Value) (l : List (ByteArray × ByteArray)) (w : World) : Prop := w.ownsRow B 91 2 av l.length (l.flatMap attrF)
theorem AttrsAt.none (B : Nat) (w : World) : AttrsAt B (.slice none 0 0) [] w := World.ownsRow_nil _ _ _ _
theorem AttrsAt.open {B : Nat} {av : Value} {l : List (ByteArray × ByteArray)} {w : World} (h : AttrsAt B av l w) : ∃ A c, av = .slice A l.length c := own_open h
theorem AttrsAt.one {B : Nat} {av : Value} {l : List (ByteArray × ByteArray)} {w : World} (h : AttrsAt B av l w) : av.oneCell' = true := by
  obtain ⟨A, c, rfl⟩ := h.open
  rfl
/-- What tag answers: the reader at a, then at a'. -/
def TagSays (B b : Nat) (s : ByteArray) (c2 c3 : Value) (d : TokD) (a' : Int) (w : World) (x : Ending) (w' : World) : Prop :=
  ∃ av, x = .returned (.tuple #[.agg #[.int .i64 d.kind, .string d.name, av, .string d.text, .bool d.self, .int .i64 0, .int .i64 0], .bool true]) ∧ AttrsAt B av d.attrs w' ∧ Blk w' b 82 #[.string s, .int .i64 a', c2, c3] ∧ OnlyN b w w'
set_option maxRecDepth 100000 in
set_option maxHeartbeats 4000000 in
theorem next_tag (B b : Nat) (s : ByteArray) (a a' : Nat) (c2 c3 : Value) (d : TokD) (hbB : B ≤ b) (hs : s.size ≤ 1099511627776) (ha : a + 1 ≤ s.size) (w : World) (hB : Blk w b 82 #[.string s, .int .i64 (a : Int), c2, c3])
    (ht : ∀ w1 : World, w.heap.size ≤ w1.heap.size → Blk w1 b 82 #[.string s, .int .i64 ((a : Int) + 1), c2, c3] → Calls Tryz.prog 83 #[.pointer (some ⟨b, 0, none⟩), .agg #[.int .i64 1, .string ⟨#[]⟩, .slice none 0 0, .string ⟨#[]⟩, .bool false, .int .i64 0, .int .i64 0]] w1 (TagSays B b s c2 c3 d a' w1)) :
    Calls Tryz.prog 58 #[.pointer (some ⟨b, 0, none⟩), .int .u8 97] w (TagSays B b s c2 c3 d a' w) := by
  have HT := Lib.hid ht
  have HB := Lib.hid hB
  have hbl := hB.lt
  obtain ⟨g, hg⟩ : ∃ g, g = w.heap.size := ⟨_, rfl⟩
  have hgb : g ≠ b := by omega
  obtain ⟨wa, hwa⟩ : ∃ wa, wa = w.alloc (.cells #[.int .i64 0, .string ⟨#[]⟩, .slice none 0 0, .string ⟨#[]⟩, .bool false, .int .i64 0, .int .i64 0] 49) := ⟨_, rfl⟩
  have P1 : Hid (Blk wa g 49 #[.int .i64 0, .string ⟨#[]⟩, .slice none 0 0, .string ⟨#[]⟩, .bool false, .int .i64 0, .int .i64 0]) := by show Blk _ _ _ _; rw [hwa, hg]; exact Blk.new w _ _
  have P2 : Hid (OnlyN b w wa) := by show OnlyN _ _ _; rw [hwa]; exact (OnlyN.refl b w).alloc _
  have P3 : Hid (Blk wa b 82 #[.string s, .int .i64 (a : Int), c2, c3]) := by show Blk _ _ _ _; rw [hwa]; exact hB.alloc _
  have d1 : wa.cell? ⟨b, 1, none⟩ = some (.int .i64 (a : Int)) := P3.out.cell 1
  have f1 : wa.frozen? ⟨b, 1, none⟩ = false := P3.out.free 1
  have HWA := Lib.hid hwa
  have HG := Lib.hid hg
  clear hg hwa hB ht
  go_enter Tryz.func58, Tryz.ntmps58
  go_upto_region 1 with fail
  rw [← HWA.out, ← HG.out]
  go_wp2_with (go_at_call 83; refine (HT.out _ (by have := P2.out.size; simpa using this) (P3.out.stored 1 (.int .i64 ((a : Int) + 1)))).mono ?_; rintro e w4 ⟨av, rfl, hat, hb4, ho4⟩; (obtain ⟨A9, c9, rfl⟩ := hat.open); (have Q1 := Lib.hid (ho4.blk hgb (P1.out.far hgb (i := 1) (.int .i64 ((a : Int) + 1))))); (have Q2 := Lib.hid ((P2.out.setCell (p := ⟨b, 1, none⟩) (.inl rfl) (.int .i64 ((a : Int) + 1))).trans ho4)); (have Q3 := Lib.hid hb4); (have Q4 := Lib.hid hat); (have q0 := Q1.out.cell 0); (have q1 := Q1.out.cell 1); (have q2 := Q1.out.cell 2); (have q3 := Q1.out.cell 3); (have q4 := Q1.out.cell 4); (have q5 := Q1.out.cell 5); (have q6 := Q1.out.cell 6); simp only [List.getElem?_toArray, List.getElem?_cons_succ, List.getElem?_cons_zero] at q0 q1 q2 q3 q4 q5 q6; (have r0 := Q1.out.free 0); (have r1 := Q1.out.free 1); (have r2 := Q1.out.free 2); (have r3 := Q1.out.free 3); (have r4 := Q1.out.free 4); (have r5 := Q1.out.free 5); (have r6 := Q1.out.free 6); clear hat hb4 ho4)
  have hgw : w.heap.size ≤ g := by have := HG.out; omega
  have B2 := ((((((Q1.out.stored 0 (.int .i64 d.kind)).stored 1 (.string d.name)).stored 2 (.slice A9 d.attrs.length c9)).stored 3 (.string d.text)).stored 4 (.bool d.self)).stored 5 (.int .i64 0)).stored 6 (.int .i64 0)
  have B3 := ((((((Q3.out.far (Ne.symm hgb) (i := 0) (.int .i64 d.kind)).far (Ne.symm hgb) (i := 1) (.string d.name)).far (Ne.symm hgb) (i := 2) (.slice A9 d.attrs.length c9)).far (Ne.symm hgb) (i := 3) (.string d.text)).far (Ne.symm hgb) (i := 4) (.bool d.self)).far (Ne.symm hgb) (i := 5) (.int .i64 0)).far (Ne.symm hgb) (i := 6) (.int .i64 0)
  have B4 := ((((((Q2.out.setCell (p := ⟨g, 0, none⟩) (.inr hgw) (.int .i64 d.kind)).setCell (p := ⟨g, 1, none⟩) (.inr hgw) (.string d.name)).setCell (p := ⟨g, 2, none⟩) (.inr hgw) (.slice A9 d.attrs.length c9)).setCell (p := ⟨g, 3, none⟩) (.inr hgw) (.string d.text)).setCell (p := ⟨g, 4, none⟩) (.inr hgw) (.bool d.self)).setCell (p := ⟨g, 5, none⟩) (.inr hgw) (.int .i64 0)).setCell (p := ⟨g, 6, none⟩) (.inr hgw) (.int .i64 0)
  have hne : (Value.slice A9 d.attrs.length c9).ownBlock ≠ some g := blk_ne Q1.out Q4.out (by decide)
  have B5 := own_setFar (own_setFar (own_setFar (own_setFar (own_setFar (own_setFar (own_setFar Q4.out hne (j := 0) (u := .int .i64 d.kind)) hne (j := 1) (u := .string d.name)) hne (j := 2) (u := .slice A9 d.attrs.length c9)) hne (j := 3) (u := .string d.text)) hne (j := 4) (u := .bool d.self)) hne (j := 5) (u := .int .i64 0)) hne (j := 6) (u := .int .i64 0)
  exact bodyPost_ret (results_row_tmp rfl _ _ g 49 #[.int .i64 d.kind, .string d.name, .slice A9 d.attrs.length c9, .string d.text, .bool d.self, .int .i64 0, .int .i64 0] _ rfl B2 rfl rfl (by kernel_rfl)) rfl ⟨_, rfl, B5, B3, B4⟩
theorem tagA_says (B b : Nat) (s nm : ByteArray) (a a1 a2 : Nat) (c2 c3 : Value) (hs : s.size ≤ 1099511627776) (ha : a + 1 ≤ s.size) (h1 : skipTo nameEnd s.data.toList (a + 1) = a1) (hnm : s.extract (a + 1) a1 = nm) (hn40 : nm.size ≤ 40)
    (hlo : ∀ k (h : k < nm.size), 97 ≤ nm[k].toNat ∧ nm[k].toNat ≤ 122) (h2 : skipTo noSkip s.data.toList a1 = a2) (h12 : s.extract a1 a2 = ⟨#[]⟩) (hlt : a2 < s.size) (hgt : s[a2].toNat = 62) (w : World) (hB : Blk w b 82 #[.string s, .int .i64 ((a : Int) + 1), c2, c3]) :
    Calls Tryz.prog 83 #[.pointer (some ⟨b, 0, none⟩), .agg #[.int .i64 1, .string ⟨#[]⟩, .slice none 0 0, .string ⟨#[]⟩, .bool false, .int .i64 0, .int .i64 0]] w (TagSays B b s c2 c3 ⟨1, nm, [], ⟨#[]⟩, false, 0, 0⟩ ((a2 : Int) + 1) w) :=
  (tagA_calls b s nm (a + 1) a1 a2 1 c2 c3 hs ha h1 hnm hn40 hlo h2 h12 hlt hgt w hB).mono fun e w' ⟨he, hb, ho⟩ => ⟨.slice none 0 0, he, AttrsAt.none B w', hb, ho⟩
end Go.Proofs.YtcghahfboccceaaGreatDoor
