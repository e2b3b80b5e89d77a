/- Several texts in one: HitH. -/
import Derived.Test.YtkmmlcnoeeaekaaGreatDoorHitAllM45
/- Contracts: hit.All by what is wrong and who is hit; hit.At. -/
namespace Go.Proofs.YtkmmlcnoeeaekaaGreatDoor
open Go.RowKit
set_option linter.unusedVariables false
set_option linter.unusedSimpArgs false

/-- What came in: a document, styles, a layout. -/
structure InV where
  A : Option Addr
  n : Nat
  c : Nat
  q : Bool
  ns : List NodeV
  Al : Option Addr
  nl : Nat
  cl : Nat
  lz : List Int
  tbl : List Int
  Ab : Option Addr
  nb : Nat
  cb : Nat
  bs : List BoxV
  W1 : Int
  H1 : Int
structure InV.ok (I : InV) (w : World) (B : Nat) : Prop where
  hn0 : I.ns.length = I.n
  nodes : Nodes w B I.A I.ns
  n0 : I.n ≤ 1048576
  hl : I.lz.length = I.nl * 118
  hb : I.bs.length = I.nb
  boxes : Boxes w B I.Ab I.bs
  looks : Holds w B I.Al (ints I.lz)
  tab : TabAt w I.tbl
  pos : 0 < B
  l64 : In64 I.lz
  t64 : In64 I.tbl
  nb0 : I.nb ≤ 1048576
  nl0 : I.nl ≤ 1048576
theorem InV.ok.below {I : InV} {w w' : World} {B B' : Nat} (h : I.ok w B) (hb : Below B' w w') (hB : B ≤ B') : I.ok w' B :=
  { h with nodes := h.nodes.below hb hB, boxes := h.boxes.below hb hB, looks := h.looks.below hb hB, tab := h.tab.below hb (Nat.lt_of_lt_of_le h.pos hB) }
theorem InV.ok.more {I : InV} {w : World} {B B' : Nat} (h : I.ok w B) (hB : B ≤ B') : I.ok w B' :=
  { h with nodes := h.nodes.more hB, boxes := h.boxes.more' hB, looks := h.looks.more hB, pos := Nat.lt_of_lt_of_le h.pos hB }
/-- A layout's frags, bounded. -/
structure FrV where
  Af : Option Addr
  nf : Nat
  cf : Nat
  fs : List FragV
structure FrV.ok (F : FrV) (w : World) (B : Nat) : Prop where
  hf : F.fs.length = F.nf
  frags : Frags w B F.Af F.fs
  nf0 : F.nf ≤ 1048576
  fb : ∀ i, i < F.nf → FragB (fr F.fs i)
theorem FrV.ok.below {F : FrV} {w w' : World} {B B' : Nat} (h : F.ok w B) (hb : Below B' w w') (hB : B ≤ B') : F.ok w' B := { h with frags := h.frags.below hb hB }
theorem FrV.ok.more {F : FrV} {w : World} {B B' : Nat} (h : F.ok w B) (hB : B ≤ B') : F.ok w B' := { h with frags := Holds.more h.frags hB }
def docA (I : InV) : Value := .agg #[.slice I.A I.n I.c, .bool I.q]
def layA (I : InV) (F : FrV) : Value := .agg #[.slice I.Ab I.nb I.cb, .slice F.Af F.nf F.cf, .int .i64 I.W1, .int .i64 I.H1]
open Classical in
/-- What is wrong, by number. -/
noncomputable def errE (I : InV) (F : FrV) : Int := if sfitsE I.ns I.nl I.lz ≠ 0 then sfitsE I.ns I.nl I.lz else if LayOk I.bs F.fs ∧ LooksOk I.nl I.bs then 0 else 3
def layL (I : InV) (F : FrV) (gL cL : Nat) : LayV := layV I.Ab I.nb I.cb I.bs F.Af F.nf F.cf F.fs I.W1 I.H1 gL cL (lookAt I.lz I.tbl I.bs)
def hitL (I : InV) (F : FrV) (x y : Int) : List Int := hits (layL I F 0 0) (stepsOf I.bs F.fs (lookAt I.lz I.tbl I.bs)) (cut x) (cut y) (stepsOf I.bs F.fs (lookAt I.lz I.tbl I.bs)).length
open Classical in
noncomputable def hitX (I : InV) (F : FrV) (x y : Int) : List Int := if errE I F = 0 then hitL I F x y else []
theorem all2_calls (I : InV) (F : FrV) (x y : Int) (w : World) (h : I.ok w w.heap.size) (hF : F.ok w w.heap.size) :
    Calls Tryz.prog 15 #[docA I, .slice I.Al I.nl I.cl, layA I F, .int .i64 x, .int .i64 y] w fun e w' => ∃ A' c', e = .returned (.tuple #[.slice A' (hitX I F x y).length c', .int .i64 (errE I F)]) ∧ w'.ownsRow w.heap.size 3 1 (.slice A' (hitX I F x y).length c') (hitX I F x y).length (ints (hitX I F x y)) ∧ Below w.heap.size w w' := by
  refine (all_calls I.A I.n I.c I.q I.ns I.Al I.nl I.cl I.lz I.tbl I.Ab I.nb I.cb I.bs F.Af F.nf F.cf F.fs I.W1 I.H1 x y w h.hn0 h.nodes h.n0 h.hl h.hb hF.hf h.boxes hF.frags h.looks h.tab h.pos h.l64 h.t64 h.nb0 hF.nf0 h.nl0 hF.fb).mono ?_
  rintro e w' ⟨hp, hb⟩
  rcases hp with ⟨h1, rfl⟩ | ⟨h1, h2, rfl⟩ | ⟨h1, h2, h3, v, rfl, ho⟩
  · have he : errE I F = sfitsE I.ns I.nl I.lz := by unfold errE; rw [if_pos h1]
    have hx : hitX I F x y = [] := by unfold hitX; rw [if_neg (by rw [he]; exact h1)]
    rw [he, hx]
    exact ⟨none, 0, rfl, World.ownsRow_nil _ _ _ _, hb⟩
  · have he : errE I F = 3 := by unfold errE; rw [if_neg (fun h => h h1), if_neg h2]
    have hx : hitX I F x y = [] := by unfold hitX; rw [if_neg (by rw [he]; decide)]
    rw [he, hx]
    exact ⟨none, 0, rfl, World.ownsRow_nil _ _ _ _, hb⟩
  · have he : errE I F = 0 := by unfold errE; rw [if_neg (fun h => h h1), if_pos ⟨h2, h3⟩]
    have hx : hitX I F x y = hitL I F x y := by unfold hitX; rw [if_pos he]
    rw [he, hx]
    obtain ⟨A', c', rfl⟩ := own_open ho
    exact ⟨A', c', rfl, ho, hb⟩
set_option maxRecDepth 100000 in
set_option maxHeartbeats 4000000 in
theorem at_calls (I : InV) (F : FrV) (x y : Int) (w : World) (h : I.ok w w.heap.size) (hF : F.ok w w.heap.size) :
    Calls Tryz.prog 16 #[docA I, .slice I.Al I.nl I.cl, layA I F, .int .i64 x, .int .i64 y] w fun e w' => e = .returned (.tuple #[.int .i64 ((hitX I F x y).getD 0 0), .bool (!(hitX I F x y).isEmpty), .int .i64 (errE I F)]) ∧ Below w.heap.size w w' := by
  have hb := below_alloc (below_alloc (Below.refl w.heap.size w) (.cells #[.slice I.A I.n I.c, .bool I.q] 24)) (.cells #[.slice I.Ab I.nb I.cb, .slice F.Af F.nf F.cf, .int .i64 I.W1, .int .i64 I.H1] 42)
  have HA := Lib.hid (all2_calls I F x y _ ((h.below hb (Nat.le_refl _)).more hb.size) ((hF.below hb (Nat.le_refl _)).more hb.size))
  have HB := Lib.hid hb
  have hemp : errE I F ≠ 0 → hitX I F x y = [] := fun he => by unfold hitX; rw [if_neg he]
  obtain ⟨er, her⟩ : ∃ er, er = errE I F := ⟨_, rfl⟩
  obtain ⟨hx, hhx⟩ : ∃ hx, hx = hitX I F x y := ⟨_, rfl⟩
  rw [← her, ← hhx] at HA hemp ⊢
  have HEMP := Lib.hid hemp
  clear hemp her hhx hb h hF
  unfold docA layA at HA ⊢
  by_cases g1 : er = 0
  · have q1 : (er != 0) = false := by simp [g1]
    subst g1
    cases hx with
    | nil =>
      go_enter Tryz.func16, Tryz.ntmps16
      go_wp2_with (go_at_call 15; refine HA.out.mono ?_; rintro e w1 ⟨A', c', rfl, ho, hb1⟩)
      go_ret3
      exact ⟨rfl, below_then HB.out hb1⟩
    | cons z l =>
      have hl2 : ((l.length + 1 : Nat) : Int) = (l.length : Int) + 1 := by omega
      go_enter Tryz.func16, Tryz.ntmps16
      go_upto_region 2 with (go_at_call 15; refine HA.out.mono ?_; rintro e w1 ⟨A', c', rfl, ho, hb1⟩)
      obtain ⟨g, cap, hgv, _, _⟩ := own_some ho (by simp)
      injection hgv with hgv1 _ _
      subst hgv1
      have z0 : w1.cell? ⟨g, 0, none⟩ = some (.int .i64 z) := (row_at ho).1 0 _ rfl
      have HB1 := Lib.hid hb1
      have q2 : ((l.length : Int) + 1 == 0) = false := by simp; omega
      have q3 : (0 : Int) < (l.length : Int) + 1 := by omega
      clear ho hb1
      go_wp2_with fail
      go_ret3
      exact ⟨rfl, below_then HB.out HB1.out⟩
  · have q1 : (er != 0) = true := by simp [g1]
    obtain rfl := HEMP.out g1
    clear g1 HEMP
    go_enter Tryz.func16, Tryz.ntmps16
    go_wp2_with (go_at_call 15; refine HA.out.mono ?_; rintro e w1 ⟨A', c', rfl, ho, hb1⟩)
    go_ret3
    exact ⟨rfl, below_then HB.out hb1⟩
end Go.Proofs.YtkmmlcnoeeaekaaGreatDoor
