/- Several texts in one: HitA, HitB, HitPlain, StkI, StkJ, StkK, StkL, StkN, StkO, HitE, HitG. -/
import Derived.Test.YtkmmlcnoeeaekaaGreatDoorBoxesMakeM1
import Derived.Test.YtkmmlcnoeeaekaaGreatDoorRows
import Derived.WalkKit
import Derived.Lib.Hide
import Derived.Test.YtkmmlcnoeeaekaaGreatDoorBoxesMakeM14
import Derived.Test.YtkmmlcnoeeaekaaGreatDoorBoxesMakeM2
import Derived.Great.Walk
import Derived.Laws.CopyOwn
import Derived.Test.YtkmmlcnoeeaekaaGreatDoorBoxesMakeM20
import Derived.Test.YtkmmlcnoeeaekaaGreatDoorBoxesMakeM5
import Derived.Test.YtkmmlcnoeeaekaaGreatDoorBoxesMakeM17
/- Contracts: is a place within a rectangle? -/
namespace Go.Proofs.YtkmmlcnoeeaekaaGreatDoor
open Go.RowKit
set_option linter.unusedVariables false
set_option linter.unusedSimpArgs false

/-- A rectangle: left, top, width, height. -/
structure RectV where
  x : Int
  y : Int
  w : Int
  h : Int
def inR (r : RectV) (x y : Int) : Bool := decide (r.x ≤ x) && decide (x < r.x + r.w) && decide (r.y ≤ y) && decide (y < r.y + r.h)
end Go.Proofs.YtkmmlcnoeeaekaaGreatDoor
/- Contracts: paint.Clips, paint.Inner, the reference's Inner. -/
namespace Go.Proofs.YtkmmlcnoeeaekaaGreatDoor
open Go.RowKit Go.Great
set_option linter.unusedVariables false
set_option linter.unusedSimpArgs false
attribute [local go_sem high] run_min2 run_max2

def edge (zs : List Int) (p : Int) : Int := max 0 (len4 zs p 0)
/-- The padding box. -/
def innerR (f : FragV) (zs : List Int) : RectV := ⟨f.x + edge zs 22, f.y + edge zs 19, max 0 (f.w - edge zs 22 - edge zs 20), max 0 (f.h - edge zs 19 - edge zs 21)⟩
end Go.Proofs.YtkmmlcnoeeaekaaGreatDoor
/- Plain law of P348: steps whose ends nest; the clips that reach beyond a step; who is hit. -/
namespace Go.Proofs.YtkmmlcnoeeaekaaGreatDoor
set_option linter.unusedVariables false

/-- A step's end. -/
def endAt (l : List (Nat × Nat)) (i : Nat) : Nat := (l.getD i (0, 0)).2
section
variable (cl : Nat → Bool) (en : Nat → Nat)
/-- The clips among the first i steps that reach beyond j. -/
def alive (i j : Nat) : List Nat := (List.range i).filter (fun k => cl k && decide (j < en k))
end
section
variable (cl is inn : Nat → Bool) (en : Nat → Nat)
/-- Is it hit? -/
def hitQ (i : Nat) : Bool := is i && (alive cl en i i).all inn
variable (who : Nat → Int)
end
end Go.Proofs.YtkmmlcnoeeaekaaGreatDoor
/- The reference's Tell: one step of the induction. -/
namespace Go.Proofs.YtkmmlcnoeeaekaaGreatDoor
open Go.RowKit
set_option linter.unusedVariables false
set_option linter.unusedSimpArgs false

/-- Is the new value where the old one was, or new? -/
def OwnRel (v v1 : Value) (w : World) : Prop := v1.ownBlock = v.ownBlock ∨ ∃ g, v1.ownBlock = some g ∧ w.heap.size ≤ g
theorem OwnRel.refl {v : Value} {w : World} : OwnRel v v w := .inl rfl
theorem OwnRel.trans {v v1 v2 : Value} {w w1 : World} (h : OwnRel v v1 w) (hs : w.heap.size ≤ w1.heap.size) (h' : OwnRel v1 v2 w1) : OwnRel v v2 w := by
  rcases h' with h' | ⟨g, h', hg⟩
  · rcases h with h | ⟨g, h, hg⟩
    · exact .inl (h'.trans h)
    · exact .inr ⟨g, h'.trans h, hg⟩
  · exact .inr ⟨g, h', Nat.le_trans hs hg⟩
/-- A stacker that has told the steps xs. -/
structure TSt (L : LayV) (B gS : Nat) (v : Value) (xs : List (Nat × Nat)) (w : World) : Prop where
  rst : RSt L B gS v w
  own : w.ownsRow B 94 2 v xs.length (steps xs)
  hg : B ≤ gS
theorem TSt.below {L : LayV} {B gS : Nat} {v : Value} {xs : List (Nat × Nat)} {w w' : World} (h : TSt L B gS v xs w) (hb : Below w.heap.size w w') : TSt L B gS v xs w' := ⟨h.rst.below hb, own_below h.own hb, h.hg⟩
theorem TSt.drew {L : LayV} {B gS : Nat} {v : Value} {xs : List (Nat × Nat)} {w : World} (h : TSt L B gS v xs w) : TSt L B gS v xs w.drew := h.below (below_drewN (Below.refl _ _) 1)
theorem OwnRel.mono {v v1 : Value} {w w1 : World} (h : OwnRel v v1 w1) (hs : w.heap.size ≤ w1.heap.size) : OwnRel v v1 w := by
  rcases h with h | ⟨g, h, hg⟩
  · exact .inl h
  · exact .inr ⟨g, h, Nat.le_trans hs hg⟩
namespace LayV
end LayV
end Go.Proofs.YtkmmlcnoeeaekaaGreatDoor
/- Contracts of the reference's Tell and Stack. -/
namespace Go.Proofs.YtkmmlcnoeeaekaaGreatDoor
open Go.RowKit
set_option linter.unusedVariables false
set_option linter.unusedSimpArgs false

theorem LayV.ok.more {L : LayV} {w : World} {B B' : Nat} (h : L.ok w B) (hB : B ≤ B') : L.ok w B' :=
  { h with
    boxes := fun i hi => by
      obtain ⟨b, off, e, hlt, c0, c1, c2, c3, c4, hk, hl⟩ := h.boxes i hi
      exact ⟨b, off, e, by omega, c0, c1, c2, c3, c4, hk.more hB, hl⟩
    frags := Holds.more h.frags hB
    gl := Nat.lt_of_lt_of_le h.gl hB }
end Go.Proofs.YtkmmlcnoeeaekaaGreatDoor
/- The program's order of painting in memory; what belongs to a fragment. -/
namespace Go.Proofs.YtkmmlcnoeeaekaaGreatDoor
open Go.RowKit
set_option linter.unusedVariables false
set_option linter.unusedSimpArgs false

namespace LayV
/-- What a fragment is: 0 flat, 1 a pocket, 2 a layer. -/
def isF (L : LayV) (k : Nat) : Int := if k = 0 then max (isK (L.kd k) (L.st k)) 1 else isK (L.kd k) (L.st k)
def kidsF (L : LayV) (f : Nat) : List Nat := kidsP L.nf L.par f
end LayV
/-- The order while it is made. -/
def orC (L : LayV) (gM cM gK cK : Nat) (v : Value) : Array Value := #[.slice (some ⟨gM, 0, none⟩) L.nf cM, .slice (some ⟨gK, 0, none⟩) L.nf cK, v]
structure KSt (L : LayV) (B gO gM cM gK cK : Nat) (v : Value) (w : World) : Prop where
  blk : Blk w gO 136 (orC L gM cM gK cK v)
  marks : ∀ k, k < L.nf → w.cell? ⟨gM, k * 3, none⟩ = some (.int .i64 (L.isF k)) ∧ w.cell? ⟨gM, k * 3 + 1, none⟩ = some (.int .i64 (L.rankF k)) ∧ w.cell? ⟨gM, k * 3 + 2, none⟩ = some (.int .i64 (L.phaseF k))
  kids : ∀ k, k < L.nf → ∃ A c, w.cell? ⟨gK, k, none⟩ = some (.slice A (L.kidsF k).length c) ∧ ((A = none ∧ (L.kidsF k).length = 0) ∨ ∃ b o, A = some ⟨b, o, none⟩ ∧ b < B ∧ b ≠ gO ∧ ∀ j u, (nums (L.kidsF k))[j]? = some u → w.cell? ⟨b, o + j, none⟩ = some u)
  gm : gM < B
  gk : gK < B
  go : gO < B
  mo : gM ≠ gO
  ko : gK ≠ gO
  hB : B ≤ w.heap.size
  hp : ∀ k, 0 < k → k < L.nf → L.par k < k
  nf0 : L.nf ≤ 1048576
theorem KSt.carry {L : LayV} {B gO gM cM gK cK : Nat} {v v' : Value} {w w' : World} (h : KSt L B gO gM cM gK cK v w) (hf : ∀ k, k < B → k ≠ gO → w'.heap[k]? = w.heap[k]?) (hb : Blk w' gO 136 (orC L gM cM gK cK v')) (hs : B ≤ w'.heap.size) : KSt L B gO gM cM gK cK v' w' := by
  have hc : ∀ b o, b < B → b ≠ gO → w'.cell? ⟨b, o, none⟩ = w.cell? ⟨b, o, none⟩ := fun b o h1 h2 => World.cell?_of_block (hf b h1 h2)
  refine ⟨hb, fun k hk => ?_, fun k hk => ?_, h.gm, h.gk, h.go, h.mo, h.ko, hs, h.hp, h.nf0⟩
  · rw [hc _ _ h.gm h.mo, hc _ _ h.gm h.mo, hc _ _ h.gm h.mo]; exact h.marks k hk
  · obtain ⟨A, c, h1, h2⟩ := h.kids k hk
    refine ⟨A, c, by rw [hc _ _ h.gk h.ko]; exact h1, ?_⟩
    rcases h2 with h2 | ⟨b, o, e, h3, h4, h5⟩
    · exact .inl h2
    · exact .inr ⟨b, o, e, h3, h4, fun j u hj => by rw [hc _ _ h3 h4]; exact h5 j u hj⟩
theorem KSt.below {L : LayV} {B gO gM cM gK cK : Nat} {v : Value} {w w' : World} (h : KSt L B gO gM cM gK cK v w) (hb : Below w.heap.size w w') : KSt L B gO gM cM gK cK v w' :=
  h.carry (fun k hk _ => hb.block k (Nat.lt_of_lt_of_le hk h.hB)) (h.blk.below hb h.blk.lt) (Nat.le_trans h.hB hb.size)
/-- What is gathered of some kids. -/
def bel (L : LayV) (u : Nat) (ks : List Nat) : List Nat := ks.flatMap (fun k => k :: if L.flatF k then belongP L.nf L.par L.flatF u k else [])
end Go.Proofs.YtkmmlcnoeeaekaaGreatDoor
/- The comparison of what belongs to an owner; its sort. -/
namespace Go.Proofs.YtkmmlcnoeeaekaaGreatDoor
open Go.RowKit Go.Sort
set_option linter.unusedVariables false
set_option linter.unusedSimpArgs false

/-- Worlds that some draws and some new blocks lead to. -/
def GW (W w : World) : Prop := ∃ q os, w = grow (W.drewN q) os
theorem GW.refl (W : World) : GW W W := ⟨0, #[], by rw [grow_empty]; rfl⟩
theorem GW.drew {W w : World} (h : GW W w) : GW W w.drew := by
  obtain ⟨q, os, rfl⟩ := h
  exact ⟨q + 1, os, rfl⟩
theorem GW.size {W w : World} (h : GW W w) : W.heap.size ≤ w.heap.size := by
  obtain ⟨q, os, rfl⟩ := h
  rw [size_grow]
  exact Nat.le_add_right _ _
theorem GW.setCell {W w : World} {g j : Nat} {u : Value} (h : GW W w) (hg : W.heap.size ≤ g) : GW W (w.setCell ⟨g, j, none⟩ u) := by
  obtain ⟨q, os, rfl⟩ := h
  exact ⟨q, _, by rw [setCell_eq, mapBlock_grow_new _ _ _ _ (by exact hg)]⟩
theorem GW.setCells {W : World} {g : Nat} {w : World} (h : GW W w) (hg : W.heap.size ≤ g) : ∀ (vs : List Value) (o : Nat), GW W (w.setCells g o vs) := by
  intro vs
  induction vs generalizing w with
  | nil => intro o; exact h
  | cons v r ih => intro o; rw [World.setCells]; exact ih (h.setCell hg) (o + 1)
theorem GW.cell {W w : World} {b o : Nat} (h : GW W w) (hb : b < W.heap.size) : w.cell? ⟨b, o, none⟩ = W.cell? ⟨b, o, none⟩ := by
  obtain ⟨q, os, rfl⟩ := h
  rw [cell?_grow _ _ _ (by exact hb)]; rfl
end Go.Proofs.YtkmmlcnoeeaekaaGreatDoor
/- The program's tell: what is painted ahead of what. -/
namespace Go.Proofs.YtkmmlcnoeeaekaaGreatDoor
open Go.RowKit
set_option linter.unusedVariables false
set_option linter.unusedSimpArgs false

/-- An order that has told the steps xs. -/
structure PSt (L : LayV) (B gO gM cM gK cK : Nat) (v : Value) (xs : List (Nat × Nat)) (w : World) : Prop where
  k : KSt L B gO gM cM gK cK v w
  own : w.ownsRow B 94 2 v xs.length (steps xs)
section
variable {L : LayV} {B gO gM cM gK cK : Nat} {v v1 : Value} {xs : List (Nat × Nat)} {w w' w0 w1 : World}
theorem PSt.below (h : PSt L B gO gM cM gK cK v xs w) (hb : Below w.heap.size w w') : PSt L B gO gM cM gK cK v xs w' := ⟨h.k.below hb, own_below h.own hb⟩
theorem PSt.drew (h : PSt L B gO gM cM gK cK v xs w) : PSt L B gO gM cM gK cK v xs w.drew := h.below (below_drewN (Below.refl _ _) 1)
theorem PSt.frame (h : PSt L B gO gM cM gK cK v xs w) (hf : Fr gO v w w') : ∀ k, k < B → k ≠ gO → w'.heap[k]? = w.heap[k]? := fun k hk hne =>
  hf.block k (Nat.lt_of_lt_of_le hk h.k.hB) hne (fun e => by have := (h.own.lt k e).1; omega)
end
end Go.Proofs.YtkmmlcnoeeaekaaGreatDoor
/- The order while it is made: marks, and the kids of each fragment. -/
namespace Go.Proofs.YtkmmlcnoeeaekaaGreatDoor
open Go.RowKit
set_option linter.unusedVariables false
set_option linter.unusedSimpArgs false

/-- Blocks of a type are as they were. -/
def KeepT (e : TypeId) (w w' : World) : Prop := ∀ (g : Nat) (cs : Array Value), w.heap[g]? = some (Obj.cells cs e (0, 0)) → w'.heap[g]? = w.heap[g]?
section
variable {w w' w'' : World} {e : TypeId}
theorem KeepT.trans (h : KeepT e w w') (h' : KeepT e w' w'') : KeepT e w w'' := fun g cs hg => (h' g cs ((h g cs hg).trans hg)).trans (h g cs hg)
theorem KeepT.below (h : Below w.heap.size w w') : KeepT e w w' := fun g cs hg => h.block g (by
  rcases Nat.lt_or_ge g w.heap.size with h1 | h1
  · exact h1
  · rw [Array.getElem?_eq_none h1] at hg; cases hg)
theorem KeepT.set {g j : Nat} {t : TypeId} {cs : Array Value} {u : Value} (h : Blk w g t cs) (hne : t ≠ e) : KeepT e w (w.setCell ⟨g, j, none⟩ u) := fun g' cs' hg' => Below.heap_setCell w ⟨g, j, none⟩ u g' (fun e1 => by
  have e1 : g' = g := e1
  subst e1
  unfold Blk at h
  rw [h] at hg'
  injection hg' with h1
  injection h1 with h2 h3 h4
  exact hne h3)
theorem KeepT.grown {base size n : Nat} {e' : TypeId} {v : Value} {xs : List Value} (h : w.ownsRow base e' size v n xs) (hg : w.grownBy w' v.ownBlock) (hne : e' ≠ e) : KeepT e w w' := fun g cs hg' => hg.block g (by
  rcases Nat.lt_or_ge g w.heap.size with h1 | h1
  · exact h1
  · rw [Array.getElem?_eq_none h1] at hg'; cases hg') (fun e1 => by
  rcases h.2 with ⟨h1, _⟩ | ⟨g2, cap, cur, h1, _, h3, _⟩
  · rw [h1] at e1; cases e1
  · rw [h1] at e1
    injection e1 with e1
    subst e1
    rw [hg'] at h3
    injection h3 with h3
    injection h3 with h4 h5
    exact hne h5.symm)
theorem KeepT.own {base size n : Nat} {v : Value} {xs : List Value} (hk : KeepT e w w') (h : w.ownsRow base e size v n xs) : w'.ownsRow base e size v n xs := by
  refine ⟨h.1, ?_⟩
  rcases h.2 with h' | ⟨g, cap, cur, hv, h1, h2, h3⟩
  · exact .inl h'
  · exact .inr ⟨g, cap, cur, hv, h1, (hk g cur h2).trans h2, h3⟩
theorem KeepT.blk {g : Nat} {cs : Array Value} (hk : KeepT e w w') (h : Blk w g e cs) : Blk w' g e cs := (hk g cs h).trans h
end
def markR (L : LayV) (k : Nat) : List Value := [.int .i64 (isK (L.kd k) (L.st k)), .int .i64 (L.rankF k), .int .i64 (L.phaseF k)]
def kidsTo (L : LayV) (i k : Nat) : List Nat := (List.range i).filter (fun j => decide (0 < j) && L.par j == k)
theorem kidsTo_succ (L : LayV) (i k : Nat) : kidsTo L (i + 1) k = kidsTo L i k ++ if 0 < i ∧ L.par i = k then [i] else [] := by
  unfold kidsTo
  rw [List.range_succ, List.filter_append]
  congr 1
  by_cases h : 0 < i ∧ L.par i = k
  · rw [if_pos h]; simp [h.1, h.2]
  · rw [if_neg h]
    rw [List.filter_cons_of_neg (by simp; intro h1 h2; exact h ⟨h1, h2⟩)]
    rfl
structure KidsL (L : LayV) (base : Nat) (KL : List Value) (i : Nat) (w : World) : Prop where
  len : KL.length = L.nf
  own : ∀ k, k < L.nf → ∃ A c, KL[k]? = some (.slice A (kidsTo L i k).length c) ∧ w.ownsRow base 3 1 (.slice A (kidsTo L i k).length c) (kidsTo L i k).length (nums (kidsTo L i k))
  ap : ∀ (k k' : Nat) (a b : Value), k ≠ k' → KL[k]? = some a → KL[k']? = some b → Ap a b
theorem KidsL.keep {L : LayV} {base i : Nat} {KL : List Value} {w w' : World} (h : KidsL L base KL i w) (hk : KeepT 3 w w') : KidsL L base KL i w' :=
  ⟨h.len, fun k hk' => by obtain ⟨A, c, h1, h2⟩ := h.own k hk'; exact ⟨A, c, h1, hk.own h2⟩, h.ap⟩
theorem KidsL.push {L : LayV} {base i n p : Nat} {KL : List Value} {vp v1 : Value} {w w1 : World} (h : KidsL L base KL i w) (h0 : 0 < i) (hp : p < L.nf) (hpi : L.par i = p) (hvp : KL[p]? = some vp) (hn : n = (kidsTo L i p).length) (o1 : w1.ownsRow base 3 1 v1 (n + 1) (nums (kidsTo L i p ++ [i]))) (hg : w.grownBy w1 vp.ownBlock)
    (hat : v1.ownBlock = vp.ownBlock ∨ v1.ownBlock = some w.heap.size) (hv : ∃ A c, v1 = .slice A (n + 1) c) : KidsL L base (KL.set p v1) (i + 1) w1 := by
  have hlp : p < KL.length := by rw [h.len]; exact hp
  refine ⟨by rw [List.length_set]; exact h.len, fun k hk => ?_, ?_⟩
  · by_cases e : k = p
    · subst e
      obtain ⟨A, c, rfl⟩ := hv
      have e2 : kidsTo L (i + 1) k = kidsTo L i k ++ [i] := by rw [kidsTo_succ, if_pos ⟨h0, hpi⟩]
      have e3 : (kidsTo L (i + 1) k).length = n + 1 := by rw [e2, hn]; simp
      refine ⟨A, c, by rw [List.getElem?_set_self hlp, e3], ?_⟩
      rw [e3, e2]; exact o1
    · have e2 : kidsTo L (i + 1) k = kidsTo L i k := by rw [kidsTo_succ, if_neg (fun h' => e (by rw [← h'.2, hpi]))]; simp
      obtain ⟨A, c, h1, h2⟩ := h.own k hk
      refine ⟨A, c, by rw [List.getElem?_set_ne (fun h' => e h'.symm), e2]; exact h1, ?_⟩
      rw [e2]
      exact own_grownFar h2 (h.ap p k _ _ (fun h' => e h'.symm) hvp h1) hg
  · have key : ∀ k b, k ≠ p → KL[k]? = some b → Ap v1 b := fun k b hk hb g h1 h2 => by
      have hkl : k < L.nf := by
        rw [← h.len]
        rcases Nat.lt_or_ge k KL.length with h3 | h3
        · exact h3
        · rw [List.getElem?_eq_none h3] at hb; cases hb
      obtain ⟨A, c, h3, h4⟩ := h.own k hkl
      rw [hb] at h3
      injection h3 with h3
      subst h3
      rcases hat with h5 | h5
      · exact h.ap p k _ _ (fun e => hk e.symm) hvp hb g (by rw [← h5]; exact h1) h2
      · rw [h5] at h1
        injection h1 with h1
        have := (h4.lt g h2).2
        omega
    intro k k' a b hne ha hb
    by_cases e : k = p
    · subst e
      rw [List.getElem?_set_self hlp] at ha
      injection ha with ha
      subst ha
      rw [List.getElem?_set_ne hne] at hb
      exact key k' b (fun e => hne e.symm) hb
    · rw [List.getElem?_set_ne (fun h' => e h'.symm)] at ha
      by_cases e' : k' = p
      · subst e'
        rw [List.getElem?_set_self hlp] at hb
        injection hb with hb
        subst hb
        exact (key k a e ha).symm
      · rw [List.getElem?_set_ne (fun h' => e' h'.symm)] at hb
        exact h.ap k k' a b hne ha hb
/-- The order behind m marks and i kids. -/
structure OSt (L : LayV) (W : World) (gO gK m i : Nat) (vM : Value) (KL : List Value) (w : World) : Prop where
  bel : Below W.heap.size W w
  blk : Blk w gO 136 #[vM, .slice (some ⟨gK, 0, none⟩) L.nf L.nf, .slice none 0 0]
  mks : w.ownsRow W.heap.size 138 3 vM m (rows m (markR L))
  ka : w.ownsRow W.heap.size 44 1 (.slice (some ⟨gK, 0, none⟩) L.nf L.nf) L.nf KL
  ki : KidsL L W.heap.size KL i w
  go : W.heap.size ≤ gO
section
variable {L : LayV} {W w w' w0 w1 : World} {gO gK m i : Nat} {vM v1 : Value} {KL : List Value}
theorem OSt.below (h : OSt L W gO gK m i vM KL w) (hb : Below w.heap.size w w') : OSt L W gO gK m i vM KL w' :=
  ⟨below_then h.bel hb, h.blk.below hb h.blk.lt, own_below h.mks hb, own_below h.ka hb, h.ki.keep (KeepT.below hb), h.go⟩
theorem OSt.drew (h : OSt L W gO gK m i vM KL w) : OSt L W gO gK m i vM KL w.drew := h.below (below_drewN (Below.refl _ _) 1)
end
end Go.Proofs.YtkmmlcnoeeaekaaGreatDoor
/- Who is hit, by a layout, its looks and its steps. -/
namespace Go.Proofs.YtkmmlcnoeeaekaaGreatDoor
open Go.RowKit
set_option linter.unusedVariables false
set_option linter.unusedSimpArgs false

def hF (ns : List (Nat × Nat)) (k : Nat) : Nat := (ns.getD k (0, 0)).1
def fragR (f : FragV) : RectV := ⟨f.x, f.y, f.w, f.h⟩
def hCl (L : LayV) (ns : List (Nat × Nat)) (k : Nat) : Bool := decide (stN (L.st (hF ns k)) 32 = 1) && decide (L.kd (hF ns k) ≠ 3) && decide (L.kd (hF ns k) ≠ 4)
def hIn (L : LayV) (ns : List (Nat × Nat)) (x y : Int) (k : Nat) : Bool := inR (innerR (fr L.fs (hF ns k)) (L.st (hF ns k))) x y
def hIs (L : LayV) (ns : List (Nat × Nat)) (x y : Int) (k : Nat) : Bool := inR (fragR (fr L.fs (hF ns k))) x y && decide (stN (L.st (hF ns k)) 33 ≠ 1) && decide (stN (L.st (hF ns k)) 58 ≠ 1)
def hQ (L : LayV) (ns : List (Nat × Nat)) (x y : Int) : Nat → Bool := hitQ (hCl L ns) (hIs L ns x y) (hIn L ns x y) (endAt ns)
end Go.Proofs.YtkmmlcnoeeaekaaGreatDoor
/- What a layout's steps are like. -/
namespace Go.Proofs.YtkmmlcnoeeaekaaGreatDoor
open Go.RowKit
set_option linter.unusedVariables false
set_option linter.unusedSimpArgs false

theorem own_baseH {w : World} {base base' : Nat} {e : TypeId} {size n : Nat} {v : Value} {xs : List Value} (h : w.ownsRow base e size v n xs) (hb : base' ≤ base) : w.ownsRow base' e size v n xs := by
  refine ⟨h.1, ?_⟩
  rcases h.2 with h' | ⟨g, cap, cur, hv, h1, h2⟩
  · exact .inl h'
  · exact .inr ⟨g, cap, cur, hv, Nat.le_trans hb h1, h2⟩
end Go.Proofs.YtkmmlcnoeeaekaaGreatDoor
