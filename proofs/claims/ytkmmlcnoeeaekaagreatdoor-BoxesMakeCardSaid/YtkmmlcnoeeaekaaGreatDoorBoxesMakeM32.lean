/- Several texts in one: BxSt. -/
import Derived.Test.YtkmmlcnoeeaekaaGreatDoorBoxesMakeM31
import Derived.Test.YtkmmlcnoeeaekaaGreatDoorBoxesMakeM28
import Derived.Maps.Own
import Derived.Maps.OwnSet
import Derived.Maps.OwnOps
import Derived.Maps.Views
/- The reference's Boxer in memory: its boxes, and what kinds of boxes are known. -/
namespace Go.Proofs.YtkmmlcnoeeaekaaGreatDoor
open Go.RowKit Go.Maps
set_option linter.unusedVariables false
set_option linter.unusedSimpArgs false

/-- What is known of kinds. -/
structure KindsOk (X : DocB) (D : DataW Unit) : Prop where
  tidy : Tidy D
  said : ∀ j : Nat, D.atKey (.int .i64 (j : Int)) (.lit (.int .i64 0)) = .lit (.int .i64 0) ∨ D.atKey (.int .i64 (j : Int)) (.lit (.int .i64 0)) = .lit (.int .i64 (X.kindN j))
  few : Maps.size D ≤ (List.range 300).countP fun j : Nat => Maps.has D (.int .i64 (j : Int))
theorem kinds_made (X : DocB) : KindsOk X (.map []) := ⟨tidy_empty, fun _ => .inl rfl, Nat.zero_le _⟩
theorem count_more {p q : Nat → Bool} {j : Nat} (hp : p j = false) (hq : q j = true) (h : ∀ i, i ≠ j → q i = p i) : ∀ (l : List Nat), (j ∈ l → l.countP p + 1 ≤ l.countP q) ∧ l.countP p ≤ l.countP q
  | [] => ⟨fun h => (by cases h), Nat.le_refl _⟩
  | i :: l => by
    obtain ⟨h1, h2⟩ := count_more hp hq h l
    rw [List.countP_cons, List.countP_cons]
    by_cases e : i = j
    · subst e
      rw [hp, hq]
      simp only [Bool.false_eq_true, if_false, if_true]
      exact ⟨fun _ => by omega, by omega⟩
    · rw [h i e]
      refine ⟨fun hm => ?_, by omega⟩
      rcases List.mem_cons.1 hm with rfl | hm
      · exact absurd rfl e
      · have := h1 hm; omega
theorem KindsOk.put {X : DocB} {D : DataW Unit} (h : KindsOk X D) {j : Nat} (hj : j < 300) : KindsOk X (D.put (.int .i64 (j : Int)) (.lit (.int .i64 (X.kindN j)))) where
  tidy := h.tidy.put (by trivial) _
  said i := by
    by_cases e : i = j
    · subst e
      exact .inr (Maps.atKey_put_same h.tidy.isMap (by trivial) _ _)
    · rw [Maps.atKey_put_other (fun hh => e (by injection hh with _ h2; omega))]
      exact h.said i
  few := by
    have hoth : ∀ i, i ≠ j → Maps.has (D.put (.int .i64 (j : Int)) (.lit (.int .i64 (X.kindN j)))) (.int .i64 (i : Int)) = Maps.has D (.int .i64 (i : Int)) := fun i hi => Maps.has_put_other (fun hh => hi (by injection hh with _ h2; omega)) _
    have hsame : Maps.has (D.put (.int .i64 (j : Int)) (.lit (.int .i64 (X.kindN j)))) (.int .i64 (j : Int)) = true := Maps.has_put_same h.tidy.isMap (by trivial) _
    have hf := h.few
    rw [Maps.size_put h.tidy]
    cases hh : Maps.has D (.int .i64 (j : Int)) with
    | true =>
      simp only [if_true]
      refine Nat.le_trans hf (List.countP_mono_left ?_)
      intro (i : Nat) _ hi
      by_cases e : i = j
      · subst e; exact hsame
      · rw [hoth i e]; exact hi
    | false =>
      simp only [Bool.false_eq_true, if_false]
      have := (count_more (p := fun i : Nat => Maps.has D (.int .i64 (i : Int))) (q := fun i : Nat => Maps.has (D.put (.int .i64 (j : Int)) (.lit (.int .i64 (X.kindN j)))) (.int .i64 (i : Int))) (j := j) hh hsame hoth (List.range 300)).1 (List.mem_range.2 hj)
      omega
theorem KindsOk.size {X : DocB} {D : DataW Unit} (h : KindsOk X D) : Maps.size D ≤ 300 := Nat.le_trans h.few (by have := List.countP_le_length (p := fun j : Nat => Maps.has D (.int .i64 (j : Int))) (l := List.range 300); simpa using this)
theorem map_fit {P : Program} {k : TypeId} {R : Value → Option (DataW Unit × List MemPlace)} {b n m : Nat} {D : DataW Unit} {w : World} (h : w.ownsMap P k R b n D) (hs : Maps.size D ≤ m) : w.ownsMap P k R b m D := by
  obtain ⟨es, clock, hb, F, _, rfl⟩ := h
  refine ⟨es, clock, hb, F, ?_, rfl⟩
  rw [Maps.size_eq, length_sorted] at hs
  simpa using hs
theorem map_blk {P : Program} {k : TypeId} {R : Value → Option (DataW Unit × List MemPlace)} {b n : Nat} {D : DataW Unit} {w w' : World} (h : w.ownsMap P k R b n D) (hb : w'.heap[b]? = w.heap[b]?) : w'.ownsMap P k R b n D := by
  obtain ⟨es, clock, h1, h2⟩ := h
  exact ⟨es, clock, hb.trans h1, h2⟩
theorem map_ne {P : Program} {k : TypeId} {R : Value → Option (DataW Unit × List MemPlace)} {b n : Nat} {D : DataW Unit} {w : World} (h : w.ownsMap P k R b n D) {g : Nat} {t : TypeId} {cs : Array Value} (hB : Blk w g t cs) : b ≠ g := fun e => by
  obtain ⟨es, clock, h1, _⟩ := h
  unfold Blk at hB
  rw [e, hB] at h1; cases h1
theorem map_neO {P : Program} {k : TypeId} {R : Value → Option (DataW Unit × List MemPlace)} {b n : Nat} {D : DataW Unit} {w : World} (h : w.ownsMap P k R b n D) {base size m : Nat} {e : TypeId} {v : Value} {xs : List Value} (ho : w.ownsRow base e size v m xs) : v.ownBlock ≠ some b := fun hv => by
  rcases ho.2 with ⟨rfl, _⟩ | ⟨g, cap, cur, rfl, _, h2, _⟩
  · cases hv
  · have hg : g = b := by simpa [Value.ownBlock] using hv
    subst hg
    obtain ⟨es, clock, h1, _⟩ := h
    rw [h2] at h1; cases h1
/-- What is told of a call: blocks that are not the state's stay. -/
structure TurnW (O : Nat → Prop) (w : World) (O' : Nat → Prop) (w' : World) : Prop where
  os : w'.os = w.os
  tape : w'.tape = w.tape
  output : w'.output = w.output
  size : w.heap.size ≤ w'.heap.size
  kept : ∀ b, b < w.heap.size → ¬ O b → w'.heap[b]? = w.heap[b]?
  own : ∀ b, O' b → O b ∨ w.heap.size ≤ b
theorem TurnW.refl (O : Nat → Prop) (w : World) : TurnW O w O w := ⟨rfl, rfl, rfl, Nat.le_refl _, fun _ _ _ => rfl, fun _ h => .inl h⟩
theorem TurnW.trans {O O' O'' : Nat → Prop} {w w' w'' : World} (h : TurnW O w O' w') (h' : TurnW O' w' O'' w'') : TurnW O w O'' w'' where
  os := h'.os.trans h.os
  tape := h'.tape.trans h.tape
  output := h'.output.trans h.output
  size := Nat.le_trans h.size h'.size
  kept b hb ho := (h'.kept b (Nat.lt_of_lt_of_le hb h.size) (fun h2 => (h.own b h2).elim ho (fun h3 => by omega))).trans (h.kept b hb ho)
  own b hb := (h'.own b hb).elim (h.own b) (fun h2 => .inr (Nat.le_trans h.size h2))
theorem TurnW.below {O : Nat → Prop} {w w' : World} (h : Below w.heap.size w w') : TurnW O w O w' := ⟨h.os, h.tape, h.output, h.size, fun b hb _ => h.block b hb, fun _ h => .inl h⟩
theorem TurnW.drew {O : Nat → Prop} {O' : Nat → Prop} {w w' : World} (h : TurnW O w O' w') : TurnW O w O' w'.drew := ⟨h.os, h.tape, h.output, h.size, h.kept, h.own⟩
theorem TurnW.base {O O' : Nat → Prop} {w w' : World} (h : TurnW O w O' w') {base : Nat} (hb : base ≤ w.heap.size) (hO : ∀ b, O b → base ≤ b) : Below base w w' := ⟨h.os, h.tape, h.output, h.size, fun b hlt => h.kept b (by omega) (fun ho => by have := hO b ho; omega)⟩
/-- A cell stored in a block that is new, or the state's. -/
theorem TurnW.set {O O' : Nat → Prop} {w w' : World} (h : TurnW O w O' w') {g : Nat} (hg : w.heap.size ≤ g ∨ O g) (i : Nat) (u : Value) : TurnW O w O' (w'.setCell ⟨g, i, none⟩ u) where
  os := h.os
  tape := h.tape
  output := h.output
  size := by simpa using h.size
  kept b hb ho := (Below.heap_setCell w' ⟨g, i, none⟩ u b (fun e => by
    have e : b = g := e
    subst e
    exact hg.elim (fun h => by omega) ho)).trans (h.kept b hb ho)
  own := h.own
/-- What the state does not own. -/
def Held (O : Nat → Prop) (w : World) (A : Option Addr) (l : List Nat) : Prop := 0 < l.length → ∃ b off, A = some ⟨b, off, none⟩ ∧ b < w.heap.size ∧ ¬ O b ∧ ∀ j, j < l.length → w.cell? ⟨b, off + j, none⟩ = some (.int .i64 (l.getD j 0 : Nat))
theorem Held.turn {O O' : Nat → Prop} {w w' : World} {A : Option Addr} {l : List Nat} (h : Held O w A l) (ht : TurnW O w O' w') : Held O' w' A l := fun hn => by
  obtain ⟨b, off, hA, hb, ho, hc⟩ := h hn
  exact ⟨b, off, hA, Nat.lt_of_lt_of_le hb ht.size, fun h2 => (ht.own b h2).elim ho (fun h3 => by omega), fun j hj => (cell_same (ht.kept b hb ho)).trans (hc j hj)⟩
theorem Held.of {O : Nat → Prop} {w : World} {A : Option Addr} {l : List Nat} (h : Holds w w.heap.size A (nums l)) (ho : ∀ b off, A = some ⟨b, off, none⟩ → ¬ O b) : Held O w A l := fun hn => by
  obtain ⟨b, off, hA, hb, hc⟩ := h (by rw [nums_len]; exact hn)
  refine ⟨b, off, hA, hb, ho b off hA, fun j hj => ?_⟩
  rw [hc j (by rw [nums_len]; exact hj), List.getD_eq_getElem?_getD, nums_at l hj]
  rfl
/-- A block that the state does not own. -/
def BlkF (O : Nat → Prop) (w : World) (g : Nat) (t : TypeId) (cs : Array Value) : Prop := Blk w g t cs ∧ ¬ O g
theorem BlkF.turn {O O' : Nat → Prop} {w w' : World} {g : Nat} {t : TypeId} {cs : Array Value} (h : BlkF O w g t cs) (ht : TurnW O w O' w') : BlkF O' w' g t cs :=
  ⟨(ht.kept g h.1.lt h.2).trans h.1, fun h2 => (ht.own g h2).elim h.2 (fun h3 => by have := h.1.lt; omega)⟩
/-- The Boxer at gM. -/
structure RBox (X : DocB) (I : BxV) (base gM bK : Nat) (A : Option Addr) (n c : Nat) (rs : List RowB) (D : DataW Unit) (O : Nat → Prop) (w : World) : Prop where
  ok : I.ok w base
  bw : base ≤ w.heap.size
  blk : Blk w gM 84 #[.slice I.A I.n I.c, .slice I.Al I.nl I.cl, .slice A n c, .map (some bK)]
  len : rs.length = n
  out : BoxL w base (.slice A n c) rs
  few : FewS rs
  map : w.ownsMap (H := Unit) Tryz.prog 3 (plainElem Tryz.prog 3) bK 300 D
  kinds : KindsOk X D
  ownM : O gM
  ownK : O bK
  ownL : ∀ b, OwnL (.slice A n c) rs b → O b
  rng : ∀ b, O b → base ≤ b ∧ b < w.heap.size
/-- .. with the boxes S. -/
def RSB (X : DocB) (I : BxV) (base gM bK : Nat) (O : Nat → Prop) (w : World) (S : List PBox) : Prop := ∃ A n c rs D, RBox X I base gM bK A n c rs D O w ∧ rs.map (·.1) = S
section
variable {X : DocB} {I : BxV} {base gM bK n c : Nat} {A : Option Addr} {rs : List RowB} {D : DataW Unit} {O : Nat → Prop} {w w' : World} {S : List PBox}
theorem RBox.below (h : RBox X I base gM bK A n c rs D O w) (hb : Below w.heap.size w w') : RBox X I base gM bK A n c rs D O w' :=
  { h with ok := h.ok.below hb h.bw, bw := Nat.le_trans h.bw hb.size, blk := h.blk.below hb h.blk.lt, out := h.out.below hb, map := map_blk h.map (hb.block _ h.map.lt), rng := fun b ho => ⟨(h.rng b ho).1, Nat.lt_of_lt_of_le (h.rng b ho).2 hb.size⟩ }
theorem RSB.below (h : RSB X I base gM bK O w S) (hb : Below w.heap.size w w') : RSB X I base gM bK O w' S := by
  obtain ⟨A, n, c, rs, D, h, hS⟩ := h
  exact ⟨A, n, c, rs, D, h.below hb, hS⟩
theorem RSB.drew (h : RSB X I base gM bK O w S) : RSB X I base gM bK O w.drew S := h.below ⟨rfl, rfl, rfl, Nat.le_refl _, fun _ _ => rfl⟩
theorem RBox.farSet (h : RBox X I base gM bK A n c rs D O w) {g : Nat} (hg : ¬ O g) (hb : base ≤ g) (i : Nat) (u : Value) : RBox X I base gM bK A n c rs D O (w.setCell ⟨g, i, none⟩ u) := by
  have hk : ∀ b, O b → (w.setCell ⟨g, i, none⟩ u).heap[b]? = w.heap[b]? := fun b ho => Below.heap_setCell w ⟨g, i, none⟩ u b (fun e => hg (by have e : b = g := e; exact e ▸ ho))
  have hbl : Below base w (w.setCell ⟨g, i, none⟩ u) := (Below.refl base w).setCell (p := ⟨g, i, none⟩) hb u
  exact { h with ok := h.ok.below hbl (Nat.le_refl _), bw := Nat.le_trans h.bw hbl.size, blk := (hk gM h.ownM).trans h.blk, out := h.out.keep fun b ho => hk b (h.ownL b ho), map := map_blk h.map (hk bK h.ownK), rng := fun b ho => ⟨(h.rng b ho).1, Nat.lt_of_lt_of_le (h.rng b ho).2 hbl.size⟩ }
theorem RSB.farSet (h : RSB X I base gM bK O w S) {g : Nat} (hg : ¬ O g) (hb : base ≤ g) (i : Nat) (u : Value) : RSB X I base gM bK O (w.setCell ⟨g, i, none⟩ u) S := by
  obtain ⟨A, n, c, rs, D, h, hS⟩ := h
  exact ⟨A, n, c, rs, D, h.farSet hg hb i u, hS⟩
theorem RSB.fresh (h : RSB X I base gM bK O w S) {g : Nat} (hg : w.heap.size ≤ g) : ¬ O g := fun ho => by
  obtain ⟨A, n, c, rs, D, h, hS⟩ := h
  have := (h.rng g ho).2; omega
theorem RSB.okI (h : RSB X I base gM bK O w S) : I.ok w w.heap.size := by
  obtain ⟨A, n, c, rs, D, h, hS⟩ := h
  exact h.ok.more h.bw
theorem RSB.bw (h : RSB X I base gM bK O w S) : base ≤ w.heap.size := by
  obtain ⟨A, n, c, rs, D, h, hS⟩ := h
  exact h.bw
theorem RSB.mk (h : RSB X I base gM bK O w S) : MkAt I gM w := by
  obtain ⟨A, n, c, rs, D, h, hS⟩ := h
  exact ⟨h.blk.lt, h.blk.cell 0, h.blk.cell 1⟩
theorem RSB.lo (h : RSB X I base gM bK O w S) : ∀ b, O b → base ≤ b := fun b ho => by
  obtain ⟨A, n, c, rs, D, h, hS⟩ := h
  exact (h.rng b ho).1
end
/-- Exactly the state's blocks. -/
def OwnR (gM bK : Nat) (v : Value) (rs : List RowB) (b : Nat) : Prop := b = gM ∨ b = bK ∨ OwnL v rs b
section
variable {X : DocB} {I : BxV} {base gM bK n c : Nat} {A : Option Addr} {rs : List RowB} {D : DataW Unit} {O : Nat → Prop} {w w9 : World}
theorem RBox.gM_ne (h : RBox X I base gM bK A n c rs D O w) : (Value.slice A n c).ownBlock ≠ some gM := blk_ne h.blk h.out.own (by decide)
theorem RBox.gM_neK (h : RBox X I base gM bK A n c rs D O w) {r : RowB} (hr : r ∈ rs) : (kidV r).ownBlock ≠ some gM := blk_ne h.blk (h.out.kids r hr) (by decide)
theorem RBox.bK_ne (h : RBox X I base gM bK A n c rs D O w) : bK ≠ gM := map_ne h.map h.blk
/-- A box appended to Out. -/
theorem RBox.app {A9 : Option Addr} {c9 : Nat} {k nd p : Int} {tx : ByteArray} (h : RBox X I base gM bK A n c rs D O w)
    (ho : w9.ownsRow base 72 5 (.slice A9 (n + 1) c9) (n + 1) (rs.flatMap boxC ++ boxC (⟨k, nd, p, [], tx⟩, none, 0))) (hg : w.grownBy w9 (Value.slice A n c).ownBlock) (hat : (Value.slice A9 (n + 1) c9).ownBlock = (Value.slice A n c).ownBlock ∨ (Value.slice A9 (n + 1) c9).ownBlock = some w.heap.size) :
    RBox X I base gM bK A9 (n + 1) c9 (rs ++ [(⟨k, nd, p, [], tx⟩, none, 0)]) D (OwnR gM bK (.slice A9 (n + 1) c9) (rs ++ [(⟨k, nd, p, [], tx⟩, none, 0)])) (w9.setCell ⟨gM, 2, none⟩ (.slice A9 (n + 1) c9)) ∧
    TurnW O w (OwnR gM bK (.slice A9 (n + 1) c9) (rs ++ [(⟨k, nd, p, [], tx⟩, none, 0)])) (w9.setCell ⟨gM, 2, none⟩ (.slice A9 (n + 1) c9)) := by
  have hMl := (h.rng gM h.ownM)
  have hKl := (h.rng bK h.ownK)
  have hbase : Below base w w9 := (Below.refl base w).grown hg h.bw (fun q hq => (h.out.own.lt q hq).1)
  have hbs : Below base w (w9.setCell ⟨gM, 2, none⟩ (.slice A9 (n + 1) c9)) := hbase.setCell (p := ⟨gM, 2, none⟩) hMl.1 _
  have hL := h.out.app (n := n) (k := k) (nd := nd) (p := p) (tx := tx) h.len ho hg
  have hne : (Value.slice A9 (n + 1) c9).ownBlock ≠ some gM := fun e => by
    rcases hat with h1 | h1
    · exact h.gM_ne (h1.symm.trans e)
    · rw [h1] at e; injection e with e; omega
  have hL2 : BoxL (w9.setCell ⟨gM, 2, none⟩ (.slice A9 (n + 1) c9)) base (.slice A9 (n + 1) c9) (rs ++ [(⟨k, nd, p, [], tx⟩, none, 0)]) := hL.keep fun b hb => Below.heap_setCell w9 ⟨gM, 2, none⟩ _ b (fun e => by
    have e : b = gM := e
    subst e
    rcases hb with hb | ⟨r, hr, hb⟩
    · exact hne hb
    · rcases List.mem_append.1 hr with hr | hr
      · exact h.gM_neK hr hb
      · simp at hr; subst hr; simp [kidV, Value.ownBlock] at hb)
  have hmap : w9.heap[bK]? = w.heap[bK]? := hg.block bK hKl.2 (fun e => map_neO h.map h.out.own e.symm)
  refine ⟨{ ok := h.ok.below hbs (Nat.le_refl _), bw := Nat.le_trans h.bw hbs.size, blk := ?_, len := by rw [List.length_append, h.len]; rfl, out := hL2, few := h.few.weak.app _ _ _ _ _ _, map := map_blk h.map ((Below.heap_setCell w9 ⟨gM, 2, none⟩ _ bK (fun e => h.bK_ne e)).trans hmap), kinds := h.kinds, ownM := .inl rfl, ownK := .inr (.inl rfl), ownL := fun b hb => .inr (.inr hb), rng := fun b hb => ?_ }, ?_⟩
  · have h1 : Blk w9 gM 84 #[.slice I.A I.n I.c, .slice I.Al I.nl I.cl, .slice A n c, .map (some bK)] := blk_grown h.blk hg h.gM_ne
    exact h1.stored 2 (.slice A9 (n + 1) c9)
  · rcases hb with rfl | rfl | hb
    · exact ⟨hMl.1, Nat.lt_of_lt_of_le hMl.2 hbs.size⟩
    · exact ⟨hKl.1, Nat.lt_of_lt_of_le hKl.2 hbs.size⟩
    · exact hL2.lt hb
  · refine ⟨hbs.os, hbs.tape, hbs.output, hbs.size, fun b hb hno => ?_, fun b hb => ?_⟩
    · exact (Below.heap_setCell w9 ⟨gM, 2, none⟩ _ b (fun e => hno (by have e : b = gM := e; rw [e]; exact h.ownM))).trans (hg.block b hb (fun e => hno (h.ownL b (.inl e.symm))))
    · rcases hb with rfl | rfl | hb
      · exact .inl h.ownM
      · exact .inl h.ownK
      · exact (own_app hat hb).elim (fun h1 => .inl (h.ownL b h1)) (fun h1 => .inr (by omega))
/-- A kid's number appended. -/
theorem RBox.kid {g i m k c9 : Nat} {A9 : Option Addr} (h : RBox X I base gM bK (some ⟨g, 0, none⟩) n c rs D O w) (hi : i < rs.length) (hm : rs[i].1.kids.length = m)
    (ho : w9.ownsRow base 3 1 (.slice A9 (m + 1) c9) (m + 1) (nums rs[i].1.kids ++ [.int .i64 (k : Nat)])) (hg : w.grownBy w9 (kidV rs[i]).ownBlock) (hat : (Value.slice A9 (m + 1) c9).ownBlock = (kidV rs[i]).ownBlock ∨ (Value.slice A9 (m + 1) c9).ownBlock = some w.heap.size)
    (hfew : FewS (rs.set i ({ rs[i].1 with kids := rs[i].1.kids ++ [k] }, A9, c9))) :
    RBox X I base gM bK (some ⟨g, 0, none⟩) n c (rs.set i ({ rs[i].1 with kids := rs[i].1.kids ++ [k] }, A9, c9)) D (OwnR gM bK (.slice (some ⟨g, 0, none⟩) n c) (rs.set i ({ rs[i].1 with kids := rs[i].1.kids ++ [k] }, A9, c9))) (w9.setCell ⟨g, i * 5 + 3, none⟩ (.slice A9 (m + 1) c9)) ∧
    TurnW O w (OwnR gM bK (.slice (some ⟨g, 0, none⟩) n c) (rs.set i ({ rs[i].1 with kids := rs[i].1.kids ++ [k] }, A9, c9))) (w9.setCell ⟨g, i * 5 + 3, none⟩ (.slice A9 (m + 1) c9)) := by
  have hmem : rs[i] ∈ rs := List.getElem_mem hi
  have hMl := (h.rng gM h.ownM)
  have hKl := (h.rng bK h.ownK)
  have hgl := h.out.own.lt g rfl
  have hgO : O g := h.ownL g (.inl rfl)
  have hgM : gM ≠ g := fun e => h.gM_ne (by rw [e]; rfl)
  have hgK : bK ≠ g := fun e => map_neO h.map h.out.own (by rw [e]; rfl)
  have hbase : Below base w w9 := (Below.refl base w).grown hg h.bw (fun q hq => ((h.out.kids _ hmem).lt q hq).1)
  have hbs : Below base w (w9.setCell ⟨g, i * 5 + 3, none⟩ (.slice A9 (m + 1) c9)) := hbase.setCell (p := ⟨g, i * 5 + 3, none⟩) hgl.1 _
  have hL := h.out.kid h.len hi hm ho hg hat
  refine ⟨{ ok := h.ok.below hbs (Nat.le_refl _), bw := Nat.le_trans h.bw hbs.size, blk := ?_, len := by rw [List.length_set]; exact h.len, out := hL, few := hfew, map := ?_, kinds := h.kinds, ownM := .inl rfl, ownK := .inr (.inl rfl), ownL := fun b hb => .inr (.inr hb), rng := fun b hb => ?_ }, ?_⟩
  · exact (blk_grown h.blk hg (h.gM_neK hmem)).far hgM _
  · exact map_blk h.map ((Below.heap_setCell w9 ⟨g, i * 5 + 3, none⟩ _ bK (fun e => hgK e)).trans (hg.block bK hKl.2 (fun e => map_neO h.map (h.out.kids _ hmem) e.symm)))
  · rcases hb with rfl | rfl | hb
    · exact ⟨hMl.1, Nat.lt_of_lt_of_le hMl.2 hbs.size⟩
    · exact ⟨hKl.1, Nat.lt_of_lt_of_le hKl.2 hbs.size⟩
    · exact hL.lt hb
  · refine ⟨hbs.os, hbs.tape, hbs.output, hbs.size, fun b hb hno => ?_, fun b hb => ?_⟩
    · exact (Below.heap_setCell w9 ⟨g, i * 5 + 3, none⟩ _ b (fun e => hno (by have e : b = g := e; rw [e]; exact hgO))).trans (hg.block b hb (fun e => hno (h.ownL b (.inr ⟨_, hmem, e.symm⟩))))
    · rcases hb with rfl | rfl | hb
      · exact .inl h.ownM
      · exact .inl h.ownK
      · exact (own_kid hi (by rw [List.length_append, hm]; rfl) hat hb).elim (fun h1 => .inl (h.ownL b h1)) (fun h1 => .inr (by omega))
theorem RBox.kid' {g i m k c9 : Nat} {A9 : Option Addr} {R : RowB} (h : RBox X I base gM bK (some ⟨g, 0, none⟩) n c rs D O w) (hi : i < rs.length) (hRi : rs[i]'hi = R) (hm : R.1.kids.length = m)
    (ho : w9.ownsRow base 3 1 (.slice A9 (m + 1) c9) (m + 1) (nums R.1.kids ++ [.int .i64 (k : Nat)])) (hg : w.grownBy w9 (Value.slice R.2.1 m R.2.2).ownBlock) (hat : (Value.slice A9 (m + 1) c9).ownBlock = (Value.slice R.2.1 m R.2.2).ownBlock ∨ (Value.slice A9 (m + 1) c9).ownBlock = some w.heap.size)
    (hfew : FewS (rs.set i ({ R.1 with kids := R.1.kids ++ [k] }, A9, c9))) :
    RBox X I base gM bK (some ⟨g, 0, none⟩) n c (rs.set i ({ R.1 with kids := R.1.kids ++ [k] }, A9, c9)) D (OwnR gM bK (.slice (some ⟨g, 0, none⟩) n c) (rs.set i ({ R.1 with kids := R.1.kids ++ [k] }, A9, c9))) (w9.setCell ⟨g, i * 5 + 3, none⟩ (.slice A9 (m + 1) c9)) ∧
    TurnW O w (OwnR gM bK (.slice (some ⟨g, 0, none⟩) n c) (rs.set i ({ R.1 with kids := R.1.kids ++ [k] }, A9, c9))) (w9.setCell ⟨g, i * 5 + 3, none⟩ (.slice A9 (m + 1) c9)) := by
  subst hRi
  subst hm
  exact RBox.kid h hi rfl ho hg hat hfew
end
end Go.Proofs.YtkmmlcnoeeaekaaGreatDoor
