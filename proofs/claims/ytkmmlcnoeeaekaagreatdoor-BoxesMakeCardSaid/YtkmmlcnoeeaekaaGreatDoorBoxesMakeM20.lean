/- Several texts in one: StkB, StkPlain, LooksA, Apart, StkC, StkG. -/
import Derived.Test.YtkmmlcnoeeaekaaGreatDoorBoxesMakeM19
import Derived.Test.YtkmmlcnoeeaekaaGreatDoorBoxesMakeM14
import Derived.WalkKit
import Derived.Test.YtkmmlcnoeeaekaaGreatDoorBoxesMakeM2
import Derived.Outline
import Derived.Deep.AppendLies
import Derived.BigQuiet
import Derived.Test.YtkmmlcnoeeaekaaGreatDoorBoxesMakeM6
import Derived.Great.BuildSlice
import Derived.Great.Walk
import Derived.Deep.MidRow
import Derived.Deep.Cut
import Derived.Deep.CutRange
import Derived.Deep.Upon
/- Contracts of stack.floor and stack.marked: what a fragment is. -/
namespace Go.Proofs.YtkmmlcnoeeaekaaGreatDoor
open Go.RowKit
set_option linter.unusedVariables false
set_option linter.unusedSimpArgs false

/-- What is within a line. -/
def withinK (kind : Int) : Bool := kind == 3 || kind == 4
def layerK (kind : Int) (zs : List Int) : Bool := !withinK kind && (stN zs 1 != 0 || decide (stN zs 34 < 1000))
def zK (zs : List Int) : Int := if stN zs 1 != 0 && stK zs 31 == 4 then stN zs 31 / 1000 else 0
def pocketK (kind : Int) (zs : List Int) : Bool := kind == 5 || outN (stN zs 1) (stN zs 2) == 1 || stN zs 32 == 1
def isK (kind : Int) (zs : List Int) : Int := if layerK kind zs then 2 else if withinK kind then 0 else if pocketK kind zs then 1 else 0
def phK (kind : Int) (zs : List Int) : Int := if layerK kind zs then (if zK zs < 0 then 0 else 4) else if withinK kind || kind == 5 then 3 else if outN (stN zs 1) (stN zs 2) == 1 then 2 else 1
def rankK (kind : Int) (zs : List Int) : Int := if layerK kind zs then zK zs else 0
end Go.Proofs.YtkmmlcnoeeaekaaGreatDoor
/- Plain law of P341, P342: what belongs to a frag; what is painted ahead of what. -/
namespace Go.Proofs.YtkmmlcnoeeaekaaGreatDoor
set_option linter.unusedVariables false
set_option linter.unusedSectionVars false

section
variable (n : Nat) (par : Nat → Nat) (flat : Nat → Bool) (z phase : Nat → Int)
/-- The kids of a frag. -/
def kidsP (f : Nat) : List Nat := (List.range n).filter (fun k => decide (0 < k) && par k == f)
/-- What belongs to a frag, as the program gathers it. -/
def belongP : Nat → Nat → List Nat
  | 0, _ => []
  | u + 1, f => (kidsP n par f).flatMap (fun k => k :: if flat k then belongP u k else [])
/-- The nearest frag that owns. -/
def climb : Nat → Nat → Nat
  | 0, g => g
  | u + 1, g => if 0 < g ∧ flat g = true then climb u (par g) else g
def ownerP (k : Nat) : Nat := climb par flat (par k) (par k)
/-- The document's list: k goes behind all that have no greater rank. -/
def insR (k : Nat) : List Nat → List Nat
  | [] => [k]
  | a :: l => if z a ≤ z k then a :: insR k l else k :: a :: l
def rankedP (f : Nat) (ph : Int) : Nat → List Nat
  | 0 => []
  | m + 1 => if 0 < m ∧ ownerP par flat m = f ∧ phase m = ph then insR z m (rankedP f ph m) else rankedP f ph m
/-- What a layer or pocket owns, in the order of painting. -/
def ownL (f : Nat) : List Nat := (List.range 5).flatMap (fun p => rankedP par flat z phase f (p : Nat) n)
variable (hp : ∀ k, 0 < k → k < n → par k < k)
include hp
omit hp
include hp
end

/-- The steps: frag and end. -/
def tells (g : Nat → Nat → List (Nat × Nat)) : List Nat → Nat → List (Nat × Nat)
  | [], _ => []
  | k :: ks, at_ => g k at_ ++ tells g ks (at_ + (g k at_).length)
end Go.Proofs.YtkmmlcnoeeaekaaGreatDoor
/- Contracts of style.Inherits and style.Initial. -/
namespace Go.Proofs.YtkmmlcnoeeaekaaGreatDoor
open Go.RowKit
set_option linter.unusedVariables false
set_option linter.unusedSimpArgs false

/-- The table of initial values lies in block 0. -/
def TabAt (w : World) (tbl : List Int) : Prop := tbl.length = 118 ∧ ∀ q, q < 118 → w.cell? ⟨0, q, none⟩ = some (.int .i64 (tbl.getD q 0))
theorem TabAt.below {w w' : World} {tbl : List Int} {B : Nat} (h : TabAt w tbl) (hb : Below B w w') (hB : 0 < B) : TabAt w' tbl := ⟨h.1, fun q hq => (hb.cell (p := ⟨0, q, none⟩) hB).trans (h.2 q hq)⟩
end Go.Proofs.YtkmmlcnoeeaekaaGreatDoor
/- Owned slices that lie apart; append, where the list then lies. -/
namespace Go.Proofs.YtkmmlcnoeeaekaaGreatDoor
open Go.RowKit
set_option linter.unusedVariables false

def Ap (a b : Value) : Prop := ∀ g, a.ownBlock = some g → b.ownBlock ≠ some g
theorem Ap.symm {a b : Value} (h : Ap a b) : Ap b a := fun g h1 h2 => h g h2 h1
theorem Ap.nil (b : Value) (n c : Nat) : Ap (.slice none n c) b := fun g h => by simp [Value.ownBlock] at h
theorem Ap.far {a : Value} {g n c : Nat} (h : Ap (.slice (some ⟨g, 0, none⟩) n c) a) : a.ownBlock ≠ some g := h g (by simp [Value.ownBlock])
section
variable {w w' : World} {base size n : Nat} {e : TypeId} {v v1 : Value} {xs : List Value}
/-- Another list grows. -/
theorem own_grownFar (h : w.ownsRow base e size v n xs) (hap : Ap v1 v) (hg : w.grownBy w' v1.ownBlock) : w'.ownsRow base e size v n xs :=
  own_heap h fun g hv => hg.block g (h.lt g hv).2 (fun e => hap g e.symm hv)
end
end Go.Proofs.YtkmmlcnoeeaekaaGreatDoor
/- Contracts of the reference's small functions of a fragment: kind, look, within, layer, pocket, z, phase, rank, owner. -/
namespace Go.Proofs.YtkmmlcnoeeaekaaGreatDoor
open Go.RowKit
set_option linter.unusedVariables false
set_option linter.unusedSimpArgs false
attribute [local go_sem] zst_run zst_size

/-- A layout that may be, with the looks of its boxes. -/
structure LayV where
  Ab : Option Addr
  nb : Nat
  cb : Nat
  bs : List BoxV
  Af : Option Addr
  nf : Nat
  cf : Nat
  fs : List FragV
  W1 : Int
  H1 : Int
  gL : Nat
  cl : Nat
  lk : Nat → List Int
namespace LayV
variable (L : LayV)
/-- The box of a fragment; its kind; its look; its parent. -/
def bi (k : Nat) : Nat := (fr L.fs k).box.toNat
def kd (k : Nat) : Int := (bx L.bs (L.bi k)).kind
def st (k : Nat) : List Int := L.lk (L.bi k)
def par (k : Nat) : Nat := (fr L.fs k).par.toNat
def withinF (k : Nat) : Bool := withinK (L.kd k)
def layerF (k : Nat) : Bool := layerK (L.kd k) (L.st k)
def pocketF (k : Nat) : Bool := k == 0 || !L.layerF k && !L.withinF k && pocketK (L.kd k) (L.st k)
def phaseF (k : Nat) : Int := phK (L.kd k) (L.st k)
def rankF (k : Nat) : Int := rankK (L.kd k) (L.st k)
def flatF (k : Nat) : Bool := !L.layerF k && !L.pocketF k
/-- It lies so in memory, below block B. -/
structure ok (w : World) (B : Nat) : Prop where
  hb : L.bs.length = L.nb
  hf : L.fs.length = L.nf
  boxes : Boxes w B L.Ab L.bs
  frags : Frags w B L.Af L.fs
  gl : L.gL < B
  looks : ∀ i, i < L.nb → w.rangeAt L.gL (i * 118) (sty (L.lk i)).toList
  len : ∀ i, (L.lk i).length = 118
  z64 : ∀ i, i < L.nb → -9223372036854775808 ≤ stN (L.lk i) 31 ∧ stN (L.lk i) 31 ≤ 9223372036854775807
  good : ∀ i, i < L.nf → fragOk L.bs i (fr L.fs i)
  nb0 : L.nb ≤ 1048576
  nf0 : L.nf ≤ 1048576
end LayV
theorem LayV.ok.below {L : LayV} {w w' : World} {B B' : Nat} (h : L.ok w B) (hb : Below B' w w') (hB : B ≤ B') : L.ok w' B :=
  { h with boxes := h.boxes.below hb hB, frags := h.frags.below hb hB, looks := fun i hi j v hv => (hb.cell (p := ⟨L.gL, _, none⟩) (by have := h.gl; show L.gL < B'; omega)).trans (h.looks i hi j v hv) }
theorem LayV.ok.box {L : LayV} {w : World} {B m : Nat} (h : L.ok w B) (hm : m < L.nb) : ∃ b off, L.Ab = some ⟨b, off, none⟩ ∧ b < B ∧ w.cell? ⟨b, off + m * 5, none⟩ = some (.int .i64 (bx L.bs m).kind) := by
  obtain ⟨b, off, e, hb, c0, -⟩ := h.boxes.at_ (i := m) (by rw [h.hb]; exact hm)
  exact ⟨b, off, e, hb, c0⟩
/-- The reference's stacker. -/
def stC (L : LayV) (v : Value) : Array Value := #[.slice L.Ab L.nb L.cb, .slice L.Af L.nf L.cf, .int .i64 L.W1, .int .i64 L.H1, .slice (some ⟨L.gL, 0, none⟩) L.nb L.cl, v]
structure RSt (L : LayV) (B gS : Nat) (v : Value) (w : World) : Prop where
  lay : L.ok w B
  blk : Blk w gS 112 (stC L v)
  hB : B ≤ w.heap.size
theorem RSt.below {L : LayV} {B gS : Nat} {v : Value} {w w' : World} (h : RSt L B gS v w) (hb : Below w.heap.size w w') : RSt L B gS v w' :=
  ⟨h.lay.below hb h.hB, h.blk.below hb h.blk.lt, Nat.le_trans h.hB hb.size⟩
section
variable {L : LayV} {B gS k : Nat} {v : Value} {w : World}
end
end Go.Proofs.YtkmmlcnoeeaekaaGreatDoor
/- Words for the reference's Tell: steps, a frame, append of what may be nothing, Copy. -/
namespace Go.Proofs.YtkmmlcnoeeaekaaGreatDoor
open Go.RowKit
set_option linter.unusedVariables false
set_option linter.unusedSimpArgs false

/-- What is to be appended: cells at A, or nothing. -/
def SrcI (w : World) (A : Option Addr) (m : Nat) (news : List Value) : Prop := (∃ b off, A = some ⟨b, off, none⟩ ∧ ∀ j u, news[j]? = some u → w.cell? ⟨b, off + j, none⟩ = some u) ∨ (A = none ∧ m = 0)
theorem SrcI.at_ {w w' : World} {A : Option Addr} {m : Nat} {news : List Value} (h : SrcI w A m news) (hb : ∀ b off, A = some ⟨b, off, none⟩ → ∀ j u, w.cell? ⟨b, off + j, none⟩ = some u → w'.cell? ⟨b, off + j, none⟩ = some u) : SrcI w' A m news := by
  rcases h with ⟨b, off, rfl, hc⟩ | h
  · exact .inl ⟨b, off, rfl, fun j u hj => hb b off rfl j u (hc j u hj)⟩
  · exact .inr h
theorem run_append_any {P : Program} (w : World) (base : Nat) (t ty e : TypeId) (i : TypeInfo) (z : Value) (size bytes : Nat) (ht : P.underlying t = some (.slice e)) (hi : P.info? e = some i) (hz : i.zero = some z)
    (hsize : i.size = size) (hby : i.bytes = bytes) (hzs : z.cells.size = size) (hsz : 0 < size)
    (v : Value) (n : Nat) (xs : List Value) (hown : w.ownsRow base e size v n xs)
    (A : Option Addr) (m c : Nat) (news : List Value) (hl : news.length = m * size) (hs : SrcI w A m news) (h1 : ∀ u ∈ news, u.oneCell' = true)
    (h63 : n + m ≤ maxLen) (hbytes : (n + m) * bytes ≤ 140737488355328) (hbase : base ≤ w.heap.size) :
    ∃ v' w', (Builtin.append_ #[t, t] ty #[v, .slice A m c]).run P w = .ok v' w' ∧ w'.ownsRow base e size v' (n + m) (xs ++ news) ∧ w.grownBy w' v.ownBlock ∧ (v'.ownBlock = v.ownBlock ∨ v'.ownBlock = some w.heap.size) := by
  rcases hs with ⟨b, off, rfl, hc⟩ | ⟨rfl, rfl⟩
  · obtain ⟨v', w', h2, h3, h4, _, h5⟩ := run_append_own_at (P := P) w base t ty e i z size bytes ht hi hz hsize hby hzs hsz v n xs hown ⟨b, off, none⟩ m c news hl (fun j u hj => by
      have e1 : (⟨b, off, none⟩ : Addr).add j = ⟨b, off + j, none⟩ := by unfold Addr.add; split <;> simp_all
      rw [e1]; exact hc j u hj) h1 h63 hbytes hbase
    exact ⟨v', w', h2, h3, h4, h5⟩
  · have hnil : news = [] := List.eq_nil_of_length_eq_zero (by simpa using hl)
    subst hnil
    have hrun : ∃ A' n' c', v = .slice A' n' c' ∧ n' ≤ c' := by
      rcases hown.2 with ⟨rfl, rfl⟩ | ⟨g, cap, cur, rfl, _, _, h3, _⟩
      · exact ⟨none, 0, 0, rfl, Nat.le_refl _⟩
      · exact ⟨_, _, _, rfl, h3⟩
    obtain ⟨A', n', c', rfl, hle⟩ := hrun
    refine ⟨_, w, run_append_nothing (P := P) w t t ty e i ht hi A' n' c' hle _ (Src.ofNil w ht c), ?_, ⟨rfl, rfl, rfl, Nat.le_refl _, fun _ _ _ => rfl⟩, .inl rfl⟩
    simpa using hown
theorem wp_append_any {P : Program} {w : World} {o : Oper} {a : Act} {K : Act → World → Prop} {Q : Exit → Act → World → Prop} (s x : Operand) (t : TypeId)
    (ho : o.op = .call { callee := .builtin .append, args := #[s, x], argTypes := #[t, t] })
    (base : Nat) (e : TypeId) (i : TypeInfo) (z : Value) (size bytes : Nat) (ht : P.underlying t = some (.slice e)) (hi : P.info? e = some i) (hz : i.zero = some z)
    (hsize : i.size = size) (hby : i.bytes = bytes) (hzs : z.cells.size = size) (hsz : 0 < size)
    (v : Value) (n : Nat) (xs : List Value) (hs : a.eval s = v) (hown : w.ownsRow base e size v n xs)
    (A : Option Addr) (m c : Nat) (news : List Value) (hx : a.eval x = .slice A m c) (hl : news.length = m * size) (hsrc : SrcI w A m news) (h1 : ∀ u ∈ news, u.oneCell' = true)
    (h63 : n + m ≤ maxLen) (hbytes : (n + m) * bytes ≤ 140737488355328) (hbase : base ≤ w.heap.size)
    (h : ∀ A' c' w', w'.ownsRow base e size (.slice A' (n + m) c') (n + m) (xs ++ news) → w.grownBy w' v.ownBlock → ((Value.slice A' (n + m) c').ownBlock = v.ownBlock ∨ (Value.slice A' (n + m) c').ownBlock = some w.heap.size) → K (a.put o.dst (.slice A' (n + m) c')) w') : o.wp P a w K Q := by
  obtain ⟨v', w', hr, h2, h3, h4⟩ := run_append_any (P := P) w base t o.type e i z size bytes ht hi hz hsize hby hzs hsz v n xs hown A m c news hl hsrc h1 h63 hbytes hbase
  obtain ⟨A', c', rfl⟩ := own_open h2
  unfold Oper.wp execOp
  simp only [ho, resolve, invoke, builtin, Sem.run_bind, Sem.run_pure, Result.andThen_ok, List.map_toArray, List.map_cons, List.map_nil, hs, hx, hr]
  exact h A' c' w' h2 h3 h4
theorem wpList_append_any {P : Program} {w : World} {ops : Array Oper} {rest : List Oper} {o : Oper} {a : Act} {Q : Exit → Act → World → Prop} (hgd : o.guard = none) (s x : Operand) (t : TypeId)
    (ho : o.op = .call { callee := .builtin .append, args := #[s, x], argTypes := #[t, t] })
    (base : Nat) (e : TypeId) (i : TypeInfo) (z : Value) (size bytes : Nat) (ht : P.underlying t = some (.slice e)) (hi : P.info? e = some i) (hz : i.zero = some z)
    (hsize : i.size = size) (hby : i.bytes = bytes) (hzs : z.cells.size = size) (hsz : 0 < size)
    (v : Value) (n : Nat) (xs : List Value) (hs : a.eval s = v) (hown : w.ownsRow base e size v n xs)
    (A : Option Addr) (m c : Nat) (news : List Value) (hx : a.eval x = .slice A m c) (hl : news.length = m * size) (hsrc : SrcI w A m news) (h1 : ∀ u ∈ news, u.oneCell' = true)
    (h63 : n + m ≤ maxLen) (hbytes : (n + m) * bytes ≤ 140737488355328) (hbase : base ≤ w.heap.size)
    (h : ∀ A' c' w', w'.ownsRow base e size (.slice A' (n + m) c') (n + m) (xs ++ news) → w.grownBy w' v.ownBlock → ((Value.slice A' (n + m) c').ownBlock = v.ownBlock ∨ (Value.slice A' (n + m) c').ownBlock = some w.heap.size) → wpList P ops Q rest (a.put o.dst (.slice A' (n + m) c')) w') :
    wpList P ops Q (o :: rest) a w :=
  wpList_plain hgd fun _ hK => wp_append_any s x t ho base e i z size bytes ht hi hz hsize hby hzs hsz v n xs hs hown A m c news hx hl hsrc h1 h63 hbytes hbase fun A' c' w' h2 h3 h4 => hK _ _ (h A' c' w' h2 h3 h4)
/-- Numbers as cells. -/
def nums (l : List Nat) : List Value := l.map (fun k => .int .i64 (k : Nat))
theorem nums_len (l : List Nat) : (nums l).length = l.length := by simp [nums]
theorem nums_one (l : List Nat) : ∀ u ∈ nums l, u.oneCell' = true := fun u hu => by
  simp [nums] at hu; obtain ⟨z, _, rfl⟩ := hu; rfl
theorem nums_at (l : List Nat) {j : Nat} (h : j < l.length) : (nums l)[j]? = some (.int .i64 (l.getD j 0 : Nat)) := by
  simp [nums, List.getD, h]
theorem nums_append (l l' : List Nat) : nums l ++ nums l' = nums (l ++ l') := by simp [nums]
theorem own_src {w : World} {base n m : Nat} {e : TypeId} {A : Option Addr} {c : Nat} {l : List Value} (h : w.ownsRow base e 1 (.slice A n c) n l) (hn : n = m) : SrcI w A m l := by
  rcases h.2 with ⟨h1, h0⟩ | ⟨g, cap, cur, hv, hb, hh, _⟩
  · injection h1 with h1
    exact .inr ⟨h1, by omega⟩
  · have hA : A = some ⟨g, 0, none⟩ := by injection hv
    subst hA
    refine .inl ⟨g, 0, rfl, fun j u hj => ?_⟩
    have := h.cells (g := g) rfl j u hj
    have e1 : (⟨g, 0, none⟩ : Addr).add j = ⟨g, 0 + j, none⟩ := by unfold Addr.add; split <;> simp_all
    rwa [e1] at this
/-- The cells of steps. -/
def stepF (p : Nat × Nat) : List Value := [.int .i64 (p.1 : Nat), .int .i64 (p.2 : Nat)]
def steps (l : List (Nat × Nat)) : List Value := l.flatMap stepF
/-- What became of a world in which one block and one owned row may have been written. -/
structure Fr (gS : Nat) (v : Value) (w w' : World) : Prop where
  os : w'.os = w.os
  tape : w'.tape = w.tape
  output : w'.output = w.output
  size : w.heap.size ≤ w'.heap.size
  block : ∀ k, k < w.heap.size → k ≠ gS → v.ownBlock ≠ some k → w'.heap[k]? = w.heap[k]?
section
variable {gS : Nat} {v v1 : Value} {w w1 w2 : World}
theorem Fr.refl : Fr gS v w w := ⟨rfl, rfl, rfl, Nat.le_refl _, fun _ _ _ _ => rfl⟩
theorem Fr.trans (h : Fr gS v w w1) (hv : v1.ownBlock = v.ownBlock ∨ ∃ g, v1.ownBlock = some g ∧ w.heap.size ≤ g) (h' : Fr gS v1 w1 w2) : Fr gS v w w2 :=
  ⟨h'.os.trans h.os, h'.tape.trans h.tape, h'.output.trans h.output, Nat.le_trans h.size h'.size, fun k hk h1 h2 => (h'.block k (Nat.lt_of_lt_of_le hk h.size) h1 (fun e => by
    rcases hv with hv | ⟨g, hv, hg⟩
    · rw [hv] at e; exact h2 e
    · rw [hv] at e; injection e with e; omega)).trans (h.block k hk h1 h2)⟩
theorem Fr.below (h : Below w.heap.size w w1) : Fr gS v w w1 := ⟨h.os, h.tape, h.output, h.size, fun k hk _ _ => h.block k hk⟩
theorem Fr.then (h : Fr gS v w w1) (h' : Below w1.heap.size w1 w2) : Fr gS v w w2 := h.trans (.inl rfl) (Fr.below h')
theorem Fr.grown (h : w.grownBy w1 v.ownBlock) : Fr gS v w w1 := ⟨h.os, h.tape, h.output, h.size, fun k hk _ h2 => h.block k hk (fun e => h2 e.symm)⟩
theorem Fr.set (j : Nat) (u : Value) : Fr gS v w (w.setCell ⟨gS, j, none⟩ u) := ⟨by simp [World.setCell], by simp [World.setCell], by simp [World.setCell], by simp, fun k _ h1 _ => Below.heap_setCell w ⟨gS, j, none⟩ u k h1⟩
end
end Go.Proofs.YtkmmlcnoeeaekaaGreatDoor
