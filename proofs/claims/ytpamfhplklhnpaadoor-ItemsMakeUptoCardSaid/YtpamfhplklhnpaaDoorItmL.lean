/- The reference's items: the state that its closure works on. -/
import Derived.Test.YtpamfhplklhnpaaDoorItmJ
import Derived.Test.YtpamfhplklhnpaaDoorStkE
namespace Go.Proofs.YtpamfhplklhnpaaDoor
open Go.RowKit
set_option linter.unusedVariables false
set_option linter.unusedSimpArgs false

/-- Where the closure's captured variables lie: boxes, looks, room, out, walk, blank. -/
structure GR where
  gB : Nat
  gL : Nat
  gR : Nat
  gO : Nat
  gW : Nat
  gK : Nat
def GR.caps (G : GR) : Array Value := #[.pointer (some ⟨G.gB, 0, none⟩), .pointer (some ⟨G.gL, 0, none⟩), .pointer (some ⟨G.gR, 0, none⟩), .pointer (some ⟨G.gO, 0, none⟩), .pointer (some ⟨G.gW, 0, none⟩), .pointer (some ⟨G.gK, 0, none⟩)]
/-- What became of a world in which out, blank and the owned row may have been written. -/
structure FrR (G : GR) (v : Value) (w w' : World) : Prop where
  os : w'.os = w.os
  tape : w'.tape = w.tape
  output : w'.output = w.output
  size : w.heap.size ≤ w'.heap.size
  block : ∀ k, k < w.heap.size → k ≠ G.gO → k ≠ G.gK → v.ownBlock ≠ some k → w'.heap[k]? = w.heap[k]?
section
variable {G : GR} {v v1 : Value} {w w1 w2 : World}
theorem FrR.refl : FrR G v w w := ⟨rfl, rfl, rfl, Nat.le_refl _, fun _ _ _ _ _ => rfl⟩
theorem FrR.trans (h : FrR G v w w1) (hv : OwnRel v v1 w) (h' : FrR G v1 w1 w2) : FrR G v w w2 :=
  ⟨h'.os.trans h.os, h'.tape.trans h.tape, h'.output.trans h.output, Nat.le_trans h.size h'.size, fun k hk h1 h3 h2 => (h'.block k (Nat.lt_of_lt_of_le hk h.size) h1 h3 (fun e => by
    rcases hv with hv | ⟨g, hv, hg⟩
    · rw [hv] at e; exact h2 e
    · rw [hv] at e; injection e with e; omega)).trans (h.block k hk h1 h3 h2)⟩
theorem FrR.below (h : Below w.heap.size w w1) : FrR G v w w1 := ⟨h.os, h.tape, h.output, h.size, fun k hk _ _ _ => h.block k hk⟩
theorem FrR.then (h : FrR G v w w1) (h' : Below w1.heap.size w1 w2) : FrR G v w w2 := h.trans (.inl rfl) (FrR.below h')
theorem FrR.grown (h : w.grownBy w1 v.ownBlock) : FrR G v w w1 := ⟨h.os, h.tape, h.output, h.size, fun k hk _ _ h2 => h.block k hk (fun e => h2 e.symm)⟩
theorem FrR.setO (j : Nat) (u : Value) : FrR G v w (w.setCell ⟨G.gO, j, none⟩ u) := ⟨by simp [World.setCell], by simp [World.setCell], by simp [World.setCell], by simp, fun k _ h1 _ _ => Below.heap_setCell w ⟨G.gO, j, none⟩ u k h1⟩
theorem FrR.setK (j : Nat) (u : Value) : FrR G v w (w.setCell ⟨G.gK, j, none⟩ u) := ⟨by simp [World.setCell], by simp [World.setCell], by simp [World.setCell], by simp, fun k _ _ h1 _ => Below.heap_setCell w ⟨G.gK, j, none⟩ u k h1⟩
theorem FrR.under {B : Nat} (h : FrR G v w w1) (hB : B ≤ w.heap.size) (hg : B ≤ G.gO ∧ B ≤ G.gK) (hv : ∀ k, v.ownBlock = some k → B ≤ k) : Below B w w1 :=
  ⟨h.os, h.tape, h.output, h.size, fun k hk => h.block k (by omega) (by omega) (by omega) (fun e => by have := hv k e; omega)⟩
end
theorem blk_diff {w : World} {g g' : Nat} {T T' : TypeId} {cs cs' : Array Value} (h : Blk w g T cs) (h' : Blk w g' T' cs') (hT : T ≠ T') : g ≠ g' := fun e => by
  subst e
  have h3 : w.heap[g]? = some (Obj.cells cs T (0, 0)) := h
  have h4 : w.heap[g]? = some (Obj.cells cs' T' (0, 0)) := h'
  rw [h3] at h4
  injection h4 with h4
  injection h4 with _ h4 _
  exact hT h4
structure WSt (M : MkV) (B : Nat) (G : GR) (bl : Bool) (v : Value) (xs : List ItemV) (w : World) : Prop where
  bB : Blk w G.gB 22 #[.slice M.Ab M.nb M.cb]
  bL : Blk w G.gL 23 #[.slice M.Al M.nl M.cl]
  bR : Blk w G.gR 3 #[.int .i64 M.room]
  bO : Blk w G.gO 30 #[v]
  bW : Blk w G.gW 64 #[.func (.func 27) #[] G.caps]
  bK : Blk w G.gK 4 #[.bool bl]
  own : w.ownsRow B 40 11 v xs.length (items xs)
  boxes : Boxes w B M.Ab M.bs
  looks : Holds w B M.Al (ints M.lz)
  hB : B ≤ w.heap.size
  hg : B ≤ G.gO ∧ B ≤ G.gK
section
variable {M : MkV} {B : Nat} {G : GR} {bl : Bool} {v v1 : Value} {xs : List ItemV} {w w' w0 w1 : World}
theorem WSt.below (h : WSt M B G bl v xs w) (hb : Below w.heap.size w w') : WSt M B G bl v xs w' :=
  ⟨h.bB.below hb h.bB.lt, h.bL.below hb h.bL.lt, h.bR.below hb h.bR.lt, h.bO.below hb h.bO.lt, h.bW.below hb h.bW.lt, h.bK.below hb h.bK.lt, own_below h.own hb, h.boxes.below hb h.hB, h.looks.below hb h.hB, Nat.le_trans h.hB hb.size, h.hg⟩
theorem WSt.drew (h : WSt M B G bl v xs w) : WSt M B G bl v xs w.drew := h.below (below_drewN (Below.refl _ _) 1)
theorem WSt.under (h : WSt M B G bl v xs w) (hf : FrR G v w w') : Below B w w' := hf.under h.hB h.hg (fun k hk => (h.own.lt k hk).1)
/-- A block of another type than out's, blank's and the row's stays. -/
theorem FrR.blkOf {g : Nat} {T : TypeId} {cs : Array Value} (hF : FrR G v w w') (hm : WSt M B G bl v xs w) (h : Blk w g T cs) (h1 : T ≠ 40) (h2 : T ≠ 30) (h3 : T ≠ 4) : Blk w' g T cs :=
  (hF.block g h.lt (blk_diff h hm.bO h2) (blk_diff h hm.bK h3) (fun e => blk_ne h hm.own h1 e)).trans h
/-- The same for a block of items that is not the row's own. -/
theorem FrR.blkX {g : Nat} {cs : Array Value} (hF : FrR G v w w') (hm : WSt M B G bl v xs w) (h : Blk w g 40 cs) (h1 : v.ownBlock ≠ some g) : Blk w' g 40 cs :=
  (hF.block g h.lt (blk_diff h hm.bO (by decide)) (blk_diff h hm.bK (by decide)) h1).trans h
theorem WSt.pushed {x : ItemV} (h : WSt M B G bl v xs w) (hb : Below w.heap.size w w0) (o1 : w1.ownsRow B 40 11 v1 (xs.length + 1) (items xs ++ items [x])) (hg1 : w0.grownBy w1 v.ownBlock)
    (hat : v1.ownBlock = v.ownBlock ∨ v1.ownBlock = some w0.heap.size) : WSt M B G bl v1 (xs ++ [x]) (w1.setCell ⟨G.gO, 0, none⟩ v1) ∧ FrR G v w (w1.setCell ⟨G.gO, 0, none⟩ v1) ∧ OwnRel v v1 w := by
  have h0 := h.below hb
  have hG : FrR G v w0 w1 := FrR.grown hg1
  have gr : ∀ {g : Nat} {T : TypeId} {cs : Array Value}, Blk w0 g T cs → T ≠ 40 → Blk w1 g T cs := fun hB hT => blk_grown hB hg1 (blk_ne hB h0.own hT)
  have bB := gr h0.bB (by decide)
  have bL := gr h0.bL (by decide)
  have bR := gr h0.bR (by decide)
  have bO := gr h0.bO (by decide)
  have bW := gr h0.bW (by decide)
  have bK := gr h0.bK (by decide)
  have hne1 := blk_ne bO o1 (by decide)
  have hrel : OwnRel v v1 w := by
    rcases hat with hat | hat
    · exact .inl hat
    · exact .inr ⟨_, hat, hb.size⟩
  have hF : FrR G v w (w1.setCell ⟨G.gO, 0, none⟩ v1) := ((FrR.below hb).trans (.inl rfl) hG).trans hrel (FrR.setO 0 v1)
  have hbB := h.under hF
  refine ⟨⟨bB.far (blk_diff bB bO (by decide)) _, bL.far (blk_diff bL bO (by decide)) _, bR.far (blk_diff bR bO (by decide)) _, bO.stored 0 v1, bW.far (blk_diff bW bO (by decide)) _, bK.far (blk_diff bK bO (by decide)) _, ?_, h.boxes.below hbB (Nat.le_refl _), h.looks.below hbB (Nat.le_refl _), Nat.le_trans h.hB hF.size, h.hg⟩, hF, hrel⟩
  have := own_setFar (b := G.gO) (j := 0) (u := v1) o1 hne1
  rw [items_append, List.length_append]
  exact this
theorem WSt.blank (h : WSt M B G bl v xs w) (b2 : Bool) : WSt M B G b2 v xs (w.setCell ⟨G.gK, 0, none⟩ (.bool b2)) ∧ FrR G v w (w.setCell ⟨G.gK, 0, none⟩ (.bool b2)) := by
  have hne := blk_ne h.bK h.own (by decide)
  have hF : FrR G v w (w.setCell ⟨G.gK, 0, none⟩ (.bool b2)) := FrR.setK 0 _
  have hbB := h.under hF
  exact ⟨⟨h.bB.far (blk_diff h.bB h.bK (by decide)) _, h.bL.far (blk_diff h.bL h.bK (by decide)) _, h.bR.far (blk_diff h.bR h.bK (by decide)) _, h.bO.far (blk_diff h.bO h.bK (by decide)) _, h.bW.far (blk_diff h.bW h.bK (by decide)) _, h.bK.stored 0 _, own_setFar h.own hne, h.boxes.below hbB (Nat.le_refl _), h.looks.below hbB (Nat.le_refl _), Nat.le_trans h.hB hF.size, h.hg⟩, hF⟩
/-- A store into a block of items beyond the bound, not the row's own. -/
theorem WSt.setX {g j : Nat} {u : Value} {cs : Array Value} (h : WSt M B G bl v xs w) (hX : Blk w g 40 cs) (hne : v.ownBlock ≠ some g) (hg : B ≤ g) : WSt M B G bl v xs (w.setCell ⟨g, j, none⟩ u) := by
  have hbB : Below B w (w.setCell ⟨g, j, none⟩ u) := ⟨by simp [World.setCell], by simp [World.setCell], by simp [World.setCell], by simp, fun k hk => Below.heap_setCell w ⟨g, j, none⟩ u k (show k ≠ g by omega)⟩
  exact ⟨h.bB.far (blk_diff h.bB hX (by decide)) _, h.bL.far (blk_diff h.bL hX (by decide)) _, h.bR.far (blk_diff h.bR hX (by decide)) _, h.bO.far (blk_diff h.bO hX (by decide)) _, h.bW.far (blk_diff h.bW hX (by decide)) _, h.bK.far (blk_diff h.bK hX (by decide)) _, own_setFar h.own hne, h.boxes.below hbB (Nat.le_refl _), h.looks.below hbB (Nat.le_refl _), Nat.le_trans h.hB hbB.size, h.hg⟩
end
/-- A type that none of the changing blocks has. -/
def keptT (T : TypeId) : Bool := T != 40 && T != 30 && T != 4
theorem keptT_ne {T : TypeId} (h : keptT T = true) : T ≠ 40 ∧ T ≠ 30 ∧ T ≠ 4 := by
  simp only [keptT, Bool.and_eq_true, bne_iff_ne] at h
  exact ⟨h.1.1, h.1.2, h.2⟩
/-- The closure's state behind some items, where some blocks are kept. -/
structure RG (M : MkV) (B : Nat) (G : GR) (v : Value) (xs : List ItemV) (w : World) (K : List (Nat × TypeId × Array Value)) (L : List ItemV) (b : Bool) (wr : World) : Prop where
  rst : ∃ v', WSt M B G b v' (xs ++ L) wr ∧ FrR G v w wr ∧ OwnRel v v' w
  keep : ∀ q ∈ K, Blk wr q.1 q.2.1 q.2.2 ∧ keptT q.2.1 = true
def RPost (M : MkV) (B : Nat) (G : GR) (v : Value) (xs : List ItemV) (w : World) (r : List ItemV × Bool) (e : Ending) (w' : World) : Prop :=
  e = .returned (.tuple #[]) ∧ ∃ v', WSt M B G r.2 v' (xs ++ r.1) w' ∧ FrR G v w w' ∧ OwnRel v v' w
section
variable {M : MkV} {B : Nat} {G : GR} {v : Value} {xs : List ItemV} {w : World} {K : List (Nat × TypeId × Array Value)} {L : List ItemV} {b : Bool} {wr wr' : World}
theorem RG.below (h : RG M B G v xs w K L b wr) (hb : Below wr.heap.size wr wr') : RG M B G v xs w K L b wr' := by
  obtain ⟨v', h1, h2, h3⟩ := h.rst
  exact ⟨⟨v', h1.below hb, h2.then hb, h3⟩, fun q hq => ⟨(h.keep q hq).1.below hb (h.keep q hq).1.lt, (h.keep q hq).2⟩⟩
theorem RG.drew (h : RG M B G v xs w K L b wr) : RG M B G v xs w K L b wr.drew := h.below (below_drewN (Below.refl _ _) 1)
theorem RG.call (h : RG M B G v xs w K L b wr) {f : FuncId} {args : Array Value} {r : List ItemV × Bool} (hc : ∀ v', WSt M B G b v' (xs ++ L) wr → Calls Tryd.prog f args wr (RPost M B G v' (xs ++ L) wr r)) :
    Calls Tryd.prog f args wr fun e w' => e = .returned (.tuple #[]) ∧ RG M B G v xs w K (L ++ r.1) r.2 w' := by
  obtain ⟨v', h1, h2, h3⟩ := h.rst
  refine (hc v' h1).mono ?_
  rintro e w' ⟨rfl, v2, h4, h5, h6⟩
  refine ⟨rfl, ⟨v2, by rw [← List.append_assoc]; exact h4, h2.trans h3 h5, h3.trans h2.size h6⟩, fun q hq => ⟨?_, (h.keep q hq).2⟩⟩
  obtain ⟨a1, a2, a3⟩ := keptT_ne (h.keep q hq).2
  exact FrR.blkOf h5 h1 (h.keep q hq).1 a1 a2 a3
theorem RG.pushed {v1 v2 : Value} {x : ItemV} {w0 w1 : World} (h : WSt M B G b v1 (xs ++ L) wr ∧ FrR G v w wr ∧ OwnRel v v1 w) (hk : ∀ q ∈ K, Blk wr q.1 q.2.1 q.2.2 ∧ keptT q.2.1 = true) (hb : Below wr.heap.size wr w0)
    (o1 : w1.ownsRow B 40 11 v2 ((xs ++ L).length + 1) (items (xs ++ L) ++ items [x])) (hg1 : w0.grownBy w1 v1.ownBlock) (hat : v2.ownBlock = v1.ownBlock ∨ v2.ownBlock = some w0.heap.size) :
    RG M B G v xs w K (L ++ [x]) b (w1.setCell ⟨G.gO, 0, none⟩ v2) := by
  have h1 := h.1.pushed hb o1 hg1 hat
  refine ⟨⟨v2, by rw [← List.append_assoc]; exact h1.1, h.2.1.trans h.2.2 h1.2.1, h.2.2.trans h.2.1.size h1.2.2⟩, fun q hq => ⟨?_, (hk q hq).2⟩⟩
  obtain ⟨a1, a2, a3⟩ := keptT_ne (hk q hq).2
  exact FrR.blkOf h1.2.1 h.1 (hk q hq).1 a1 a2 a3
theorem RG.done (h : RG M B G v xs w K L b wr) : RPost M B G v xs w (L, b) (.returned (.tuple #[])) wr := ⟨rfl, h.rst⟩
theorem RG.open_ (h : RG M B G v xs w K L b wr) : ∃ A c, (WSt M B G b (.slice A (xs ++ L).length c) (xs ++ L) wr ∧ FrR G v w wr ∧ OwnRel v (.slice A (xs ++ L).length c) w) ∧ wr.cell? ⟨G.gO, 0, none⟩ = some (.slice A (xs ++ L).length c) := by
  obtain ⟨v', h1, h2, h3⟩ := h.rst
  obtain ⟨A, c, rfl⟩ := own_open h1.own
  exact ⟨A, c, ⟨h1, h2, h3⟩, h1.bO.cell 0⟩
end
/-- The same, with an item under work. -/
structure XG (M : MkV) (B : Nat) (G : GR) (v : Value) (xs : List ItemV) (w : World) (K : List (Nat × TypeId × Array Value)) (gX : Nat) (x : ItemV) (L : List ItemV) (b : Bool) (wr : World) : Prop where
  rst : ∃ v', (WSt M B G b v' (xs ++ L) wr ∧ FrR G v w wr ∧ OwnRel v v' w) ∧ v'.ownBlock ≠ some gX
  itm : Blk wr gX 40 (itemC x)
  keep : ∀ q ∈ K, Blk wr q.1 q.2.1 q.2.2 ∧ keptT q.2.1 = true
  hX : B ≤ gX ∧ w.heap.size ≤ gX
section
variable {M : MkV} {B : Nat} {G : GR} {v : Value} {xs : List ItemV} {w : World} {K : List (Nat × TypeId × Array Value)} {gX : Nat} {x : ItemV} {L : List ItemV} {b : Bool} {wr wr' : World}
theorem XG.toRG (h : XG M B G v xs w K gX x L b wr) : RG M B G v xs w K L b wr := by
  obtain ⟨v', h1, _⟩ := h.rst
  exact ⟨⟨v', h1⟩, h.keep⟩
theorem XG.below (h : XG M B G v xs w K gX x L b wr) (hb : Below wr.heap.size wr wr') : XG M B G v xs w K gX x L b wr' := by
  obtain ⟨v', ⟨h1, h2, h3⟩, h4⟩ := h.rst
  exact ⟨⟨v', ⟨h1.below hb, h2.then hb, h3⟩, h4⟩, h.itm.below hb h.itm.lt, fun q hq => ⟨(h.keep q hq).1.below hb (h.keep q hq).1.lt, (h.keep q hq).2⟩, h.hX⟩
theorem XG.drew (h : XG M B G v xs w K gX x L b wr) : XG M B G v xs w K gX x L b wr.drew := h.below (below_drewN (Below.refl _ _) 1)
theorem XG.blank (h : XG M B G v xs w K gX x L b wr) (b2 : Bool) : XG M B G v xs w K gX x L b2 (wr.setCell ⟨G.gK, 0, none⟩ (.bool b2)) := by
  obtain ⟨v', ⟨h1, h2, h3⟩, h4⟩ := h.rst
  have h5 := h1.blank b2
  refine ⟨⟨v', ⟨h5.1, h2.trans h3 h5.2, h3⟩, h4⟩, FrR.blkX h5.2 h1 h.itm h4, fun q hq => ⟨?_, (h.keep q hq).2⟩, h.hX⟩
  obtain ⟨a1, a2, a3⟩ := keptT_ne (h.keep q hq).2
  exact FrR.blkOf h5.2 h1 (h.keep q hq).1 a1 a2 a3
theorem XG.set (h : XG M B G v xs w K gX x L b wr) (j : Nat) (u : Value) (x' : ItemV) (hx : (itemC x).setIfInBounds j u = itemC x') : XG M B G v xs w K gX x' L b (wr.setCell ⟨gX, j, none⟩ u) := by
  obtain ⟨v', ⟨h1, h2, h3⟩, h4⟩ := h.rst
  have hl := h.hX.2
  have hs := h.hX.1
  refine ⟨⟨v', ⟨h1.setX h.itm h4 hs, ⟨by simp [World.setCell, h2.os], by simp [World.setCell, h2.tape], by simp [World.setCell, h2.output], by simp [h2.size], fun k hk a1 a2 a3 => (Below.heap_setCell wr ⟨gX, j, none⟩ u k (show k ≠ gX by omega)).trans (h2.block k hk a1 a2 a3)⟩, h3⟩, h4⟩, hx ▸ h.itm.stored j u, fun q hq => ⟨(h.keep q hq).1.far (blk_diff (h.keep q hq).1 h.itm (keptT_ne (h.keep q hq).2).1) _, (h.keep q hq).2⟩, h.hX⟩
theorem XG.pushed {v1 v2 : Value} {y : ItemV} {w0 w1 : World} (h : (WSt M B G b v1 (xs ++ L) wr ∧ FrR G v w wr ∧ OwnRel v v1 w) ∧ v1.ownBlock ≠ some gX) (hI : Blk wr gX 40 (itemC x)) (hX : B ≤ gX ∧ w.heap.size ≤ gX) (hk : ∀ q ∈ K, Blk wr q.1 q.2.1 q.2.2 ∧ keptT q.2.1 = true) (hb : Below wr.heap.size wr w0)
    (o1 : w1.ownsRow B 40 11 v2 ((xs ++ L).length + 1) (items (xs ++ L) ++ items [y])) (hg1 : w0.grownBy w1 v1.ownBlock) (hat : v2.ownBlock = v1.ownBlock ∨ v2.ownBlock = some w0.heap.size) :
    XG M B G v xs w K gX x (L ++ [y]) b (w1.setCell ⟨G.gO, 0, none⟩ v2) := by
  have h1 := h.1.1.pushed hb o1 hg1 hat
  refine ⟨⟨v2, ⟨by rw [← List.append_assoc]; exact h1.1, h.1.2.1.trans h.1.2.2 h1.2.1, h.1.2.2.trans h.1.2.1.size h1.2.2⟩, ?_⟩, FrR.blkX h1.2.1 h.1.1 hI h.2, fun q hq => ⟨?_, (hk q hq).2⟩, hX⟩
  · rcases hat with hat | hat
    · rw [hat]; exact h.2
    · rw [hat]
      intro e
      injection e with e
      have := hI.lt
      have := hb.size
      omega
  · obtain ⟨a1, a2, a3⟩ := keptT_ne (hk q hq).2
    exact FrR.blkOf h1.2.1 h.1.1 (hk q hq).1 a1 a2 a3
theorem XG.open_ (h : XG M B G v xs w K gX x L b wr) : ∃ A c, ((WSt M B G b (.slice A (xs ++ L).length c) (xs ++ L) wr ∧ FrR G v w wr ∧ OwnRel v (.slice A (xs ++ L).length c) w) ∧ (Value.slice A (xs ++ L).length c).ownBlock ≠ some gX) ∧ wr.cell? ⟨G.gO, 0, none⟩ = some (.slice A (xs ++ L).length c) := by
  obtain ⟨v', ⟨h1, h2, h3⟩, h4⟩ := h.rst
  obtain ⟨A, c, rfl⟩ := own_open h1.own
  exact ⟨A, c, ⟨⟨h1, h2, h3⟩, h4⟩, h1.bO.cell 0⟩
end
end Go.Proofs.YtpamfhplklhnpaaDoor
