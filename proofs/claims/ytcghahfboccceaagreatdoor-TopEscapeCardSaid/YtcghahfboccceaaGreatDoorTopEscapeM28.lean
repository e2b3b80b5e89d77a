/- Several texts in one: TeK, TfB, TfC. -/
import Derived.Test.YtcghahfboccceaaGreatDoorTopEscapeM27
import Derived.Test.YtcghahfboccceaaGreatDoorTopEscapeM26
import Derived.Laws.Rows
import Derived.Test.YtcghahfboccceaaGreatDoorTopEscapeM12
import Derived.Test.YtcghahfboccceaaGreatDoorTopEscapeM9
import Derived.Test.YtcghahfboccceaaGreatDoorTopEscapeM25
import Derived.BigQuiet
import Derived.Deep.Cut
import Derived.Deep.CutRange
/- What a step of the tree's builder leaves: blocks of other types than a tree's stay. -/
namespace Go.Proofs.YtcghahfboccceaaGreatDoor
open Go.RowKit
set_option linter.unusedVariables false
set_option linter.unusedSimpArgs false

/-- A block of a tree's types. -/
def treeO (o : Obj) : Prop := ∃ cs t fz, o = .cells cs t fz ∧ (t = 35 ∨ t = 3 ∨ t = 56)
def Keep (w w' : World) : Prop := ∀ (k : Nat) (o : Obj), w.heap[k]? = some o → ¬ treeO o → w'.heap[k]? = some o
theorem Keep.refl (w : World) : Keep w w := fun _ _ h _ => h
theorem Keep.trans {a c d : World} (h : Keep a c) (k : Keep c d) : Keep a d := fun j o hj ho => k j o (h j o hj ho) ho
theorem Keep.below {w w' : World} (h : Below w.heap.size w w') : Keep w w' := fun k o hk _ => (h.block k (Array.getElem?_eq_some_iff.1 hk).1).trans hk
theorem Keep.setCell {w : World} {p : Addr} {o : Obj} (h : w.heap[p.block]? = some o) (ho : treeO o) (v : Value) : Keep w (w.setCell p v) := fun k o' hk hn => by
  rcases Classical.em (k = p.block) with e | e
  · subst e
    rw [h] at hk
    injection hk with hk
    subst hk
    exact absurd ho hn
  · exact (Below.heap_setCell w p v k e).trans hk
theorem Keep.grown {w w' : World} {row : Option Nat} (hg : w.grownBy w' row) (hr : ∀ g, row = some g → ∃ o, w.heap[g]? = some o ∧ treeO o) : Keep w w' := fun k o hk hn => by
  refine (hg.block k (Array.getElem?_eq_some_iff.1 hk).1 (fun e => ?_)).trans hk
  obtain ⟨o', h1, h2⟩ := hr k e.symm
  rw [hk] at h1
  injection h1 with h1
  subst h1
  exact hn h2
theorem own_obj {w : World} {base n size : Nat} {e : TypeId} {v : Value} {xs : List Value} (h : w.ownsRow base e size v n xs) {g : Nat} (hg : v.ownBlock = some g) : ∃ c fz, w.heap[g]? = some (.cells c e fz) := by
  rcases h.2 with ⟨rfl, _⟩ | ⟨g', cap, cur, rfl, _, h2, _⟩
  · cases hg
  · have : g' = g := by simpa [Value.ownBlock] using hg
    subst this
    exact ⟨_, _, h2⟩
theorem Keep.blk {w w' : World} (h : Keep w w') {g : Nat} {t : TypeId} {cs : Array Value} (hb : Blk w g t cs) (h1 : t ≠ 35) (h2 : t ≠ 3) (h3 : t ≠ 56) : Blk w' g t cs :=
  h g _ hb (by rintro ⟨cs', t', fz, e, h⟩; injection e with _ e2 _; subst e2; rcases h with h | h | h <;> contradiction)
theorem Keep.own {w w' : World} (h : Keep w w') {base n size : Nat} {e : TypeId} {v : Value} {xs : List Value} (ho : w.ownsRow base e size v n xs) (h1 : e ≠ 35) (h2 : e ≠ 3) (h3 : e ≠ 56) : w'.ownsRow base e size v n xs :=
  own_heap ho fun g hg => by
    obtain ⟨c, fz, hc⟩ := own_obj ho hg
    exact (h g _ hc (by rintro ⟨cs', t', fz', e', h⟩; injection e' with _ e2 _; subst e2; rcases h with h | h | h <;> contradiction)).trans hc.symm
end Go.Proofs.YtcghahfboccceaaGreatDoor
/- The parser in memory; contracts of top, behind, place, name. -/
namespace Go.Proofs.YtcghahfboccceaaGreatDoor
open Go.RowKit Go.Shelf
set_option linter.unusedVariables false
set_option linter.unusedSimpArgs false

/-- A node, wherever it lies. -/
structure Nd where
  kind : Int
  name : ByteArray
  attrs : List (ByteArray × ByteArray)
  text : ByteArray
  parent : Int
  kids : List Int
def NodeV.abs (x : NodeV) : Nd := ⟨x.kind, x.name, x.attrs, x.text, x.parent, x.kids⟩
/-- The parser's state. -/
structure PS where
  ns : List Nd
  op : List Int
  mode : Int
  back : Int
  head : Int
  form : Int
  quirks : Bool
  fresh : Bool
def pcells (S : PS) (v vo : Value) : Array Value := #[v, vo, .slice none 0 0, .bool false, .int .i64 S.mode, .int .i64 S.back, .int .i64 S.head, .int .i64 S.form, .bool S.quirks, .string ⟨#[]⟩, .bool S.fresh]
structure RPx (B b : Nat) (m : Int) (S : PS) (v vo : Value) (ns : List NodeV) (w : World) : Prop where
  lo : B ≤ b
  b0 : 0 < B
  abs : ns.map NodeV.abs = S.ns
  blk : Blk w b 56 (pcells S v vo)
  tree : TreeM w B v vo ns S.op
  mx : w.cell? ⟨0, 0, none⟩ = some (.int .i64 m)
def RP (B b : Nat) (m : Int) (S : PS) (w : World) : Prop := ∃ v vo ns, RPx B b m S v vo ns w
/-- What a step leaves. -/
structure Left (B : Nat) (w w' : World) : Prop where
  below : Below B w w'
  keep : Keep w w'
theorem Left.trans {B : Nat} {u v w : World} (h : Left B u v) (k : Left B v w) : Left B u w := ⟨h.below.trans k.below, h.keep.trans k.keep⟩
theorem Left.of_below {B : Nat} {w w' : World} (h : Below w.heap.size w w') (hB : B ≤ w.heap.size) : Left B w w' := ⟨h.mono hB, .below h⟩
theorem RPx.bw {B b : Nat} {m : Int} {S : PS} {v vo : Value} {ns : List NodeV} {w : World} (h : RPx B b m S v vo ns w) : B ≤ w.heap.size := by have := h.blk.lt; have := h.lo; omega
theorem RPx.below {B b : Nat} {m : Int} {S : PS} {v vo : Value} {ns : List NodeV} {w w' : World} (h : RPx B b m S v vo ns w) (hb : Below w.heap.size w w') : RPx B b m S v vo ns w' :=
  ⟨h.lo, h.b0, h.abs, h.blk.below hb h.blk.lt, h.tree.below hb, (hb.cell (p := ⟨0, 0, none⟩) (by have := h.bw; have := h.b0; show 0 < _; omega)).trans h.mx⟩
theorem RP.below {B b : Nat} {m : Int} {S : PS} {w w' : World} (h : RP B b m S w) (hb : Below w.heap.size w w') : RP B b m S w' := by
  obtain ⟨v, vo, ns, h⟩ := h
  exact ⟨v, vo, ns, h.below hb⟩
theorem RPx.len {B b : Nat} {m : Int} {S : PS} {v vo : Value} {ns : List NodeV} {w : World} (h : RPx B b m S v vo ns w) : ns.length = S.ns.length := by rw [← h.abs, List.length_map]
theorem RPx.at_ {B b : Nat} {m : Int} {S : PS} {v vo : Value} {ns : List NodeV} {w : World} (h : RPx B b m S v vo ns w) {i : Nat} {x : Nd} (hx : S.ns[i]? = some x) : ∃ (hi : i < ns.length), (ns[i]).abs = x := by
  rw [← h.abs, List.getElem?_map] at hx
  obtain ⟨y, h1, h2⟩ := Option.map_eq_some_iff.1 hx
  obtain ⟨h3, h4⟩ := List.getElem?_eq_some_iff.1 h1
  exact ⟨h3, by rw [h4]; exact h2⟩
/-- The nodes, opened. -/
theorem RPx.nodes {B b : Nat} {m : Int} {S : PS} {v vo : Value} {ns : List NodeV} {w : World} (h : RPx B b m S v vo ns w) {i : Nat} {x : Nd} (hx : S.ns[i]? = some x) : ∃ g cap, v = .slice (some ⟨g, 0, none⟩) ns.length cap := by
  obtain ⟨hi, _⟩ := h.at_ hx
  obtain ⟨g, cap, h1, _⟩ := own_some h.tree.own (by omega)
  exact ⟨g, cap, h1⟩
theorem RPx.opens {B b : Nat} {m : Int} {S : PS} {v vo : Value} {ns : List NodeV} {w : World} (h : RPx B b m S v vo ns w) (h0 : 0 < S.op.length) : ∃ g cap, vo = .slice (some ⟨g, 0, none⟩) S.op.length cap := by
  obtain ⟨g, cap, h1, _⟩ := own_some h.tree.open' h0
  exact ⟨g, cap, h1⟩
theorem RPx.opcell {B b : Nat} {m : Int} {S : PS} {v : Value} {ns : List NodeV} {w : World} {g n cap : Nat} (h : RPx B b m S v (.slice (some ⟨g, 0, none⟩) n cap) ns w) {i : Nat} {k : Int} (hk : S.op[i]? = some k) : w.cell? ⟨g, i, none⟩ = some (.int .i64 k) := by
  have hn : n = S.op.length := by
    obtain ⟨g', cap', hv, _⟩ := own_some h.tree.open' (by have := (List.getElem?_eq_some_iff.1 hk).1; omega)
    injection hv
  subst hn
  exact own_cell h.tree.open' (by rw [ints, List.getElem?_map, hk]; rfl)
set_option maxRecDepth 100000 in
set_option maxHeartbeats 2000000 in
theorem top_calls (B b : Nat) (m : Int) (S : PS) (k : Int) (w : World) (h : RP B b m S w) (hk : S.op.getLast? = some k) (hf : S.op.length ≤ 1000000) :
    Calls Tryz.prog 205 #[.pointer (some ⟨b, 0, none⟩)] w fun e w' => e = .returned (.int .i64 k) ∧ Below w.heap.size w w' := by
  obtain ⟨v, vo, ns, h⟩ := h
  have h0 : 0 < S.op.length := by cases hh : S.op with | nil => rw [hh] at hk; cases hk | cons => simp
  obtain ⟨g, cap, rfl⟩ := h.opens h0
  have c1 : w.cell? ⟨b, 1, none⟩ = some (.slice (some ⟨g, 0, none⟩) S.op.length cap) := h.blk.cell 1
  obtain ⟨n, hn⟩ : ∃ n, S.op.length = n + 1 := ⟨S.op.length - 1, by omega⟩
  have c2 : w.cell? ⟨g, n, none⟩ = some (.int .i64 k) := h.opcell (by rw [List.getLast?_eq_getElem?, hn] at hk; simpa using hk)
  rw [hn] at c1
  have e1 : ((n + 1 : Nat) : Int) - 1 = (n : Int) := by omega
  have hn1 : n < 1000000 := by omega
  clear h hk h0 hn hf
  go_enter Tryz.func205, Tryz.ntmps205
  go_wp2
  go_quiet (fail)
  go_wp2
  go_ret
  exact ⟨rfl, below_drewN (Below.refl _ _) _⟩
def spotV (i k : Nat) : Value := .agg #[.int .i64 (i : Int), .int .i64 (k : Int)]
set_option maxRecDepth 100000 in
set_option maxHeartbeats 2000000 in
theorem behind_calls (B b : Nat) (m : Int) (S : PS) (i kl : Nat) (x : Nd) (w : World) (h : RP B b m S w) (hx : S.ns[i]? = some x) (hl : x.kids.length = kl) :
    Calls Tryz.prog 163 #[.pointer (some ⟨b, 0, none⟩), .int .i64 (i : Int)] w fun e w' => e = .returned (.agg #[.int .i64 (i : Int), .int .i64 (kl : Int)]) ∧ Below w.heap.size w w' := by
  obtain ⟨v, vo, ns, h⟩ := h
  obtain ⟨hi, hab⟩ := h.at_ hx
  obtain ⟨g, cap, rfl⟩ := h.nodes hx
  have c0 : w.cell? ⟨b, 0, none⟩ = some (.slice (some ⟨g, 0, none⟩) ns.length cap) := h.blk.cell 0
  have hkl : ns[i].kids.length = kl := by rw [← hl, ← hab]; rfl
  have c5 : w.cell? ⟨g, i * 6 + 5, none⟩ = some (.slice ns[i].kidsA kl ns[i].kcap) := by rw [← hkl]; exact h.tree.cell hi rfl
  have hbl := h.blk.lt
  have hgl : g < w.heap.size := (h.tree.own.lt g rfl).2
  generalize ns[i].kidsA = kA at c5
  generalize ns[i].kcap = kc at c5
  obtain ⟨n, hn⟩ : ∃ n, n = ns.length := ⟨_, rfl⟩
  rw [← hn] at c0
  have hin : i < n := by omega
  clear h hx hab hl hkl hn hi
  go_enter Tryz.func163, Tryz.ntmps163
  go_wp2
  exact bodyPost_ret (results_cell_row rfl _ _ w.heap.size 59 #[.int .i64 (i : Int), .int .i64 (kl : Int)] (0, 0) _ rfl (Blk.new w _ _) rfl rfl (by kernel_rfl)) rfl ⟨rfl, (Below.refl _ w).alloc (Nat.le_refl _) _⟩
set_option maxRecDepth 100000 in
set_option maxHeartbeats 2000000 in
theorem place_calls (B b : Nat) (m : Int) (S : PS) (i kl : Nat) (x : Nd) (w : World) (h : RP B b m S w) (hx : S.ns[i]? = some x) (hl : x.kids.length = kl) :
    Calls Tryz.prog 204 #[.pointer (some ⟨b, 0, none⟩), .int .i64 (i : Int)] w fun e w' => e = .returned (.agg #[.int .i64 (i : Int), .int .i64 (kl : Int)]) ∧ Below w.heap.size w w' := by
  have hb0 := Lib.hid ((Below.refl w.heap.size w).alloc (Nat.le_refl _) (.cells #[.int .i64 0, .int .i64 0] 59))
  have HC := Lib.hid (behind_calls B b m S i kl x _ (h.below hb0.out) hx hl)
  obtain ⟨v, vo, ns, h⟩ := h
  have c3 : w.cell? ⟨b, 3, none⟩ = some (.bool false) := h.blk.cell 3
  have c3' : (w.alloc (.cells #[.int .i64 0, .int .i64 0] 59)).cell? ⟨b, 3, none⟩ = some (.bool false) := (h.blk.alloc _).cell 3
  have HN := Lib.hid (Blk.new w 59 #[.int .i64 0, .int .i64 0])
  clear h hx hl
  go_enter Tryz.func204, Tryz.ntmps204
  go_wp2_with (go_at_call 163; refine HC.out.mono ?_; rintro e w2 ⟨rfl, hb2⟩; (have N2 := Lib.hid (HN.out.below hb2 HN.out.lt)); (have n0 : w2.cell? ⟨w.heap.size, 0, none⟩ = some (.int .i64 0) := N2.out.cell 0); (have n1 : w2.cell? ⟨w.heap.size, 1, none⟩ = some (.int .i64 0) := N2.out.cell 1); (have f0 := N2.out.free 0); (have f1 := N2.out.free 1); (have HB2 := Lib.hid (hb0.out.trans (hb2.mono hb0.out.size))); clear hb2)
  exact bodyPost_ret (results_cell_row rfl _ _ w.heap.size 59 #[.int .i64 (i : Int), .int .i64 (kl : Int)] (0, 0) _ rfl ((N2.out.stored 0 (.int .i64 (i : Int))).stored 1 (.int .i64 (kl : Int))) rfl rfl (by kernel_rfl)) rfl ⟨rfl, (HB2.out.setCell (p := ⟨w.heap.size, 0, none⟩) (Nat.le_refl _) _).setCell (p := ⟨w.heap.size, 1, none⟩) (Nat.le_refl _) _⟩
set_option maxRecDepth 100000 in
set_option maxHeartbeats 2000000 in
theorem nameAt_calls (B b : Nat) (m : Int) (S : PS) (i k : Nat) (x : Nd) (w : World) (h : RP B b m S w) (hk : S.op[i]? = some (k : Int)) (hx : S.ns[k]? = some x) (hf : S.op.length ≤ 1000000) :
    Calls Tryz.prog 41 #[.pointer (some ⟨b, 0, none⟩), .int .i64 (i : Int)] w fun e w' => e = .returned (.string x.name) ∧ Below w.heap.size w w' := by
  obtain ⟨v, vo, ns, h⟩ := h
  obtain ⟨hi, hab⟩ := h.at_ hx
  obtain ⟨g, cap, rfl⟩ := h.nodes hx
  have hil := (List.getElem?_eq_some_iff.1 hk).1
  obtain ⟨g2, cap2, rfl⟩ := h.opens (by omega)
  have c0 : w.cell? ⟨b, 0, none⟩ = some (.slice (some ⟨g, 0, none⟩) ns.length cap) := h.blk.cell 0
  have c1 : w.cell? ⟨b, 1, none⟩ = some (.slice (some ⟨g2, 0, none⟩) S.op.length cap2) := h.blk.cell 1
  have c2 : w.cell? ⟨g2, i, none⟩ = some (.int .i64 (k : Int)) := h.opcell hk
  have c5 : w.cell? ⟨g, k * 6 + 1, none⟩ = some (.string x.name) := by rw [← hab]; exact h.tree.cell hi rfl
  obtain ⟨n, hn⟩ : ∃ n, n = ns.length := ⟨_, rfl⟩
  obtain ⟨n2, hn2⟩ : ∃ n2, n2 = S.op.length := ⟨_, rfl⟩
  rw [← hn] at c0
  rw [← hn2] at c1 hil
  have hin : k < n := by omega
  clear h hx hab hn hi hk hn2
  go_enter Tryz.func41, Tryz.ntmps41
  go_wp2
  go_quiet (fail)
  go_wp2
  go_ret
  exact ⟨rfl, below_drewN (Below.refl _ _) _⟩
end Go.Proofs.YtcghahfboccceaaGreatDoor
/- Contracts of the tree's pop, make. Printed by genTfC.py. -/
namespace Go.Proofs.YtcghahfboccceaaGreatDoor
open Go.RowKit Go.Shelf
set_option linter.unusedVariables false
set_option linter.unusedSimpArgs false

theorem TreeM.setFar {w : World} {base : Nat} {v vo : Value} {ns : List NodeV} {op : List Int} (h : TreeM w base v vo ns op) {b j : Nat} {u : Value} (hb : ∀ q, OwnT v vo ns q → q ≠ b) : TreeM (w.setCell ⟨b, j, none⟩ u) base v vo ns op :=
  h.keep fun q hq => Below.heap_setCell w ⟨b, j, none⟩ u q (hb q hq)
theorem treeO_p {w : World} {b : Nat} {cs : Array Value} (h : Blk w b 56 cs) : ∃ o, w.heap[b]? = some o ∧ treeO o := ⟨_, h, _, _, _, rfl, .inr (.inr rfl)⟩
/-- One of the parser's own cells stored. -/
theorem RPx.field {B b : Nat} {m : Int} {S S' : PS} {v vo vo' : Value} {v' : Value} {ns ns' : List NodeV} {w w1 : World} {j : Nat} {u : Value} (h : RPx B b m S v vo ns w) (hw1 : Below B w w1) (hk : Keep w w1) (hblk : Blk w1 b 56 (pcells S v vo)) (ht : TreeM w1 B v' vo' ns' S'.op) (habs : ns'.map NodeV.abs = S'.ns)
    (hc : pcells S' v' vo' = (pcells S v vo).setIfInBounds j u) : RPx B b m S' v' vo' ns' (w1.setCell ⟨b, j, none⟩ u) ∧ Left B w (w1.setCell ⟨b, j, none⟩ u) := by
  have hB := h.bw
  refine ⟨⟨h.lo, h.b0, habs, by rw [hc]; exact hblk.stored j u, ht.setFar fun q hq => ht.ne_blk hblk (by decide) (by decide) (by decide) hq, ?_⟩, ⟨hw1.setCell (p := ⟨b, j, none⟩) h.lo u, hk.trans ?_⟩⟩
  · have h1 := h.lo
    have h2 := h.b0
    rw [← h.mx]
    exact ((hw1.setCell (p := ⟨b, j, none⟩) h.lo u).cell (p := ⟨0, 0, none⟩) h2)
  · obtain ⟨o, h1, h2⟩ := treeO_p hblk
    exact Keep.setCell (p := ⟨b, j, none⟩) h1 h2 u
theorem RPx.drewN {B b : Nat} {m : Int} {S : PS} {v vo : Value} {ns : List NodeV} {w : World} (h : RPx B b m S v vo ns w) (n : Nat) : RPx B b m S v vo ns (w.drewN n) := h.below (below_drewN (Below.refl _ _) n)
theorem ints_take (l : List Int) (n : Nat) : (ints l).take n = ints (l.take n) := by simp [ints]
theorem own_take {w : World} {base : Nat} {g n cap k : Nat} {l : List Int} (h : w.ownsRow base 3 1 (.slice (some ⟨g, 0, none⟩) n cap) n (ints l)) (hk : k ≤ n) (hl : l.length = n) : w.ownsRow base 3 1 (.slice (some ⟨g, 0, none⟩) k cap) (l.take k).length (ints (l.take k)) := by
  have h1 := own_cut h hk
  rw [Nat.mul_one, ints_take] at h1
  rw [List.length_take, hl, Nat.min_eq_left hk]
  exact h1
set_option maxRecDepth 100000 in
set_option maxHeartbeats 4000000 in
theorem pop_calls (B b : Nat) (m : Int) (S : PS) (w : World) (h : RP B b m S w) (h2 : 2 ≤ S.op.length) (hf : S.op.length ≤ 1000000) :
    Calls Tryz.prog 173 #[.pointer (some ⟨b, 0, none⟩)] w fun e w' => e = .returned (.tuple #[]) ∧ RP B b m { S with op := S.op.take (S.op.length - 1) } w' ∧ Left B w w' := by
  obtain ⟨v, vo, ns, h⟩ := h
  obtain ⟨g, cap, rfl⟩ := h.opens (by omega)
  obtain ⟨n, hn⟩ : ∃ n, S.op.length = n + 1 := ⟨S.op.length - 1, by omega⟩
  have c1 : w.cell? ⟨b, 1, none⟩ = some (.slice (some ⟨g, 0, none⟩) (n + 1) cap) := by rw [← hn]; exact h.blk.cell 1
  have f1 : w.frozen? ⟨b, 1, none⟩ = false := h.blk.free 1
  have e1 : ((n + 1 : Nat) : Int) - 1 = (n : Int) := by omega
  have hn1 : n < 1000000 := by omega
  have hnc : n + 1 ≤ cap := by have := (row_at h.tree.open').2.2.2; omega
  have q1 : ((n + 1 : Nat) : Int) > 1 := by omega
  have r1 : IntKind.i64.wrap (n : Int) = (n : Int) := by rw [IntKind.wrap_i64]; omega
  have r2 : (0 : Int) ≤ (n : Int) := by omega
  have r3 : (n : Int) ≤ (cap : Int) := by omega
  have q2 : (1 : Int) < ((n + 1 : Nat) : Int) := by omega
  have H := Lib.hid h
  have HN := Lib.hid hn
  clear h hn h2 hf
  go_enter Tryz.func173, Tryz.ntmps173
  go_wp2
  have hS0 : (fun w' : World => w'.cell? ⟨b, 1, none⟩ = some (.slice (some ⟨g, 0, none⟩) (n + 1) cap)) w := c1
  refine wp_region_noPanic ?_
  refine region_M (S := fun w' => w'.cell? ⟨b, 1, none⟩ = some (.slice (some ⟨g, 0, none⟩) (n + 1) cap)) (T := [14]) (by kernel_rfl) ?_
  have hS0 : (fun w' : World => w'.cell? ⟨b, 1, none⟩ = some (.slice (some ⟨g, 0, none⟩) (n + 1) cap)) (World.drew w) := hS0
  have c1 : (World.drew w).cell? ⟨b, 1, none⟩ = some (.slice (some ⟨g, 0, none⟩) (n + 1) cap) := c1
  have f1 : (World.drew w).frozen? ⟨b, 1, none⟩ = false := f1
  have HL : Hid (Left B w (World.drew w)) := Left.of_below ((Below.refl _ w).drew) H.out.bw
  have H : Hid (RPx B b m S v (.slice (some ⟨g, 0, none⟩) S.op.length cap) ns (World.drew w)) := H.out.below (Below.refl _ w).drew
  generalize World.drew w = wd at H HL c1 f1 hS0 ⊢
  refine anyM_free (i := 0) (oi := { dst := some 8, op := _, type := _, pos := _, after := _, guard := _ }) (v := ?_) rfl (by kernel_rfl) (fun _ _ _ h => h) (Or.inl ⟨by kernel_rfl, ?_⟩) (fun _ => hS0) ?_
  rotate_left 1
  · (intro w hSw; (try dsimp only at hSw); go_simp; try with_reducible rfl)
  try simp only [Act.put, Array.toArray_toList, List.setIfInBounds_toArray, List.set_cons_zero, List.set_cons_succ]
  refine anyM_free (i := 1) (oi := { dst := some 9, op := _, type := _, pos := _, after := _, guard := _ }) (v := ?_) rfl (by kernel_rfl) (fun _ _ _ h => h) (Or.inl ⟨by kernel_rfl, ?_⟩) (fun _ => hS0) ?_
  rotate_left 1
  · (intro w hSw; (try dsimp only at hSw); go_simp; try with_reducible rfl)
  try simp only [Act.put, Array.toArray_toList, List.setIfInBounds_toArray, List.set_cons_zero, List.set_cons_succ]
  refine anyM_free (i := 2) (oi := { dst := some 10, op := _, type := _, pos := _, after := _, guard := _ }) (v := ?_) rfl (by kernel_rfl) (fun _ _ _ h => h) (Or.inl ⟨by kernel_rfl, ?_⟩) (fun _ => hS0) ?_
  rotate_left 1
  · (intro w hSw; (try dsimp only at hSw); go_simp; try with_reducible rfl)
  try simp only [Act.put, Array.toArray_toList, List.setIfInBounds_toArray, List.set_cons_zero, List.set_cons_succ]
  refine anyM_free (i := 3) (oi := { dst := some 11, op := _, type := _, pos := _, after := _, guard := _ }) (v := ?_) rfl (by kernel_rfl) (fun _ _ _ h => h) (Or.inl ⟨by kernel_rfl, ?_⟩) (fun _ => hS0) ?_
  rotate_left 1
  · (intro w hSw; (try dsimp only at hSw); go_simp; try with_reducible rfl)
  try simp only [Act.put, Array.toArray_toList, List.setIfInBounds_toArray, List.set_cons_zero, List.set_cons_succ]
  refine anyM_take (i := 4) (oi := { dst := some 12, op := _, type := _, pos := _, after := _, guard := _ }) (v := ?_) rfl (by kernel_rfl) (fun _ _ _ h => h) (Or.inl ⟨by kernel_rfl, ?_⟩) hS0 ?_
  rotate_left 1
  · (intro w hSw; (try dsimp only at hSw); go_simp; try with_reducible rfl)
  try simp only [Act.put, Array.toArray_toList, List.setIfInBounds_toArray, List.set_cons_zero, List.set_cons_succ]
  refine anyM_free (i := 5) (oi := { dst := some 13, op := _, type := _, pos := _, after := _, guard := _ }) (v := ?_) rfl (by kernel_rfl) (fun _ _ _ h => h) (Or.inl ⟨by kernel_rfl, ?_⟩) (fun _ => hS0) ?_
  rotate_left 1
  · (intro w hSw; (try dsimp only at hSw); go_simp; try with_reducible rfl)
  try simp only [Act.put, Array.toArray_toList, List.setIfInBounds_toArray, List.set_cons_zero, List.set_cons_succ]
  refine anyM_free (i := 6) (oi := { dst := some 14, op := _, type := _, pos := _, after := _, guard := _ }) (v := ?_) rfl (by kernel_rfl) (fun _ _ _ h => h) (Or.inl ⟨by kernel_rfl, ?_⟩) (fun _ => hS0) ?_
  rotate_left 1
  · (intro w hSw; (try dsimp only at hSw); go_simp; try with_reducible rfl)
  try simp only [Act.put, Array.toArray_toList, List.setIfInBounds_toArray, List.set_cons_zero, List.set_cons_succ]
  refine anyM_free (i := 7) (oi := { dst := some 15, op := _, type := _, pos := _, after := _, guard := _ }) (v := ?_) rfl (by kernel_rfl) (fun _ _ _ h => h) (Or.inl ⟨by kernel_rfl, ?_⟩) (fun _ => hS0) ?_
  rotate_left 1
  · (intro w hSw; (try dsimp only at hSw); go_simp; try with_reducible rfl)
  try simp only [Act.put, Array.toArray_toList, List.setIfInBounds_toArray, List.set_cons_zero, List.set_cons_succ]
  refine anyM_take (i := 8) (oi := { dst := some 16, op := _, type := _, pos := _, after := _, guard := _ }) (v := ?_) rfl (by kernel_rfl) (fun _ _ _ h => h) (Or.inl ⟨by kernel_rfl, ?_⟩) hS0 ?_
  rotate_left 1
  · (intro w hSw; (try dsimp only at hSw); go_simp; try with_reducible rfl)
  try simp only [Act.put, Array.toArray_toList, List.setIfInBounds_toArray, List.set_cons_zero, List.set_cons_succ]
  refine anyM_free (i := 9) (oi := { dst := some 17, op := _, type := _, pos := _, after := _, guard := _ }) (v := ?_) rfl (by kernel_rfl) (fun _ _ _ h => h) (Or.inl ⟨by kernel_rfl, ?_⟩) (fun _ => hS0) ?_
  rotate_left 1
  · (intro w hSw; (try dsimp only at hSw); go_simp; try with_reducible rfl)
  try simp only [Act.put, Array.toArray_toList, List.setIfInBounds_toArray, List.set_cons_zero, List.set_cons_succ]
  refine anyM_free (i := 10) (oi := { dst := some 18, op := _, type := _, pos := _, after := _, guard := _ }) (v := ?_) rfl (by kernel_rfl) (fun _ _ _ h => h) (Or.inl ⟨by kernel_rfl, ?_⟩) (fun _ => hS0) ?_
  rotate_left 1
  · (intro w hSw; (try dsimp only at hSw); go_simp; try with_reducible rfl)
  try simp only [Act.put, Array.toArray_toList, List.setIfInBounds_toArray, List.set_cons_zero, List.set_cons_succ]
  refine anyM_free (i := 11) (oi := { dst := some 19, op := _, type := _, pos := _, after := _, guard := _ }) (v := ?_) rfl (by kernel_rfl) (fun _ _ _ h => h) (Or.inl ⟨by kernel_rfl, ?_⟩) (fun _ => hS0) ?_
  rotate_left 1
  · (intro w hSw; (try dsimp only at hSw); go_simp; try with_reducible rfl)
  try simp only [Act.put, Array.toArray_toList, List.setIfInBounds_toArray, List.set_cons_zero, List.set_cons_succ]
  refine anyM_free (i := 12) (oi := { dst := some 20, op := _, type := _, pos := _, after := _, guard := _ }) (v := ?_) rfl (by kernel_rfl) (fun _ _ _ h => h) (Or.inl ⟨by kernel_rfl, ?_⟩) (fun _ => hS0) ?_
  rotate_left 1
  · (intro w hSw; (try dsimp only at hSw); go_simp; try with_reducible rfl)
  try simp only [Act.put, Array.toArray_toList, List.setIfInBounds_toArray, List.set_cons_zero, List.set_cons_succ]
  refine anyM_free (i := 13) (oi := { dst := some 21, op := _, type := _, pos := _, after := _, guard := _ }) (v := ?_) rfl (by kernel_rfl) (fun _ _ _ h => h) (Or.inl ⟨by kernel_rfl, ?_⟩) (fun _ => hS0) ?_
  rotate_left 1
  · (intro w hSw; (try dsimp only at hSw); go_simp; try with_reducible rfl)
  try simp only [Act.put, Array.toArray_toList, List.setIfInBounds_toArray, List.set_cons_zero, List.set_cons_succ]
  refine anyM_one (i := 14) (by kernel_rfl) rfl (fun K hK => ?_)
  go_simp
  have hS0 : True := trivial
  refine hK.out _ _ (fun h => late_no h (by kernel_rfl)) ?_
  clear hK K
  try simp only [Act.put, Array.toArray_toList, List.setIfInBounds_toArray, List.set_cons_zero, List.set_cons_succ]
  refine anyM_done (by kernel_rfl) ?_ _
  refine NoPanic.normal ?_
  clear hS0 c1 f1
  go_wp2_with fail
  go_end0
  have HO : wd.ownsRow B 3 1 (.slice (some ⟨g, 0, none⟩) n cap) (S.op.take (S.op.length - 1)).length (ints (S.op.take (S.op.length - 1))) := by
    have h1 := H.out.tree.open'
    rw [HN.out] at h1
    have h2 := own_take h1 (k := n) (by omega) HN.out
    rw [HN.out, Nat.add_sub_cancel]
    exact h2
  have HF := H.out.field (S' := { S with op := S.op.take (S.op.length - 1) }) (v' := v) (vo' := .slice (some ⟨g, 0, none⟩) n cap) (ns' := ns) (j := 1) (u := .slice (some ⟨g, 0, none⟩) n cap) (Below.refl _ _) (Keep.refl _) H.out.blk (H.out.tree.openTo HO (.inl rfl)) H.out.abs rfl
  exact ⟨rfl, ⟨_, _, _, HF.1⟩, HL.out.trans HF.2⟩
end Go.Proofs.YtcghahfboccceaaGreatDoor
