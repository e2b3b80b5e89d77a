/- Several texts in one: Fix, Of, Edges, Row, FitA, BxA. -/
import Derived.Test.YtkmmlcnoeeaekaaGreatDoorRows
import Derived.Test.YtkmmlcnoeeaekaaGreatDoorBoxesMakeM4
import Derived.WalkKit
import Derived.WalkSpells
import Derived.WalkLawsBesides
import Derived.Lib.Hide
import Derived.Test.YtkmmlcnoeeaekaaGreatDoorBoxesMakeM1
import Derived.Outline
import Derived.Deep.WholeRow
import Derived.Deep.MidRow
import Derived.Test.YtkmmlcnoeeaekaaGreatDoorBoxesMakeM13
import Derived.Test.YtkmmlcnoeeaekaaGreatDoorBoxesMakeM2
/- Contracts of fix.Cut, floor, Part, Between and of the reference's Cut, down, Part, Between. -/
namespace Go.Proofs.YtkmmlcnoeeaekaaGreatDoor
open Go.RowKit
set_option linter.unusedVariables false

theorem run_min2 (ts : Array TypeId) (t : TypeId) (x y : Int) (w : World) : (Builtin.min_ ts t #[.int .i64 x, .int .i64 y]).run Tryz.prog w = .ok (.int .i64 (min x y)) w := by
  rw [run_min_int2, min_eq]
theorem run_max2 (ts : Array TypeId) (t : TypeId) (x y : Int) (w : World) : (Builtin.max_ ts t #[.int .i64 x, .int .i64 y]).run Tryz.prog w = .ok (.int .i64 (max x y)) w := by
  rw [run_max_int2, max_eq]
attribute [local go_sem high] run_min2 run_max2

end Go.Proofs.YtkmmlcnoeeaekaaGreatDoor
/- Contracts of fix.Of and of the reference's Of; the walk of FixOfs. -/
namespace Go.Proofs.YtkmmlcnoeeaekaaGreatDoor
open Go.RowKit
set_option linter.unusedVariables false

/-- P302: a length of a value: kind, number, what it is a part of. -/
def ofN (k n base : Int) : Int := if k = 2 then cut n else if k = 3 then part base n 10000 else 0
end Go.Proofs.YtkmmlcnoeeaekaaGreatDoor
/- Styles by value; contracts of margins.Edges, above, Frame and of the reference's length, Edges. -/
namespace Go.Proofs.YtkmmlcnoeeaekaaGreatDoor
open Go.RowKit
set_option linter.unusedVariables false
attribute [local go_sem high] run_min2 run_max2

/-- A style's cells: of each property the kind and the number. -/
def sty (zs : List Int) : Array Value := (zs.map (Value.int .i64)).toArray
def stK (zs : List Int) (p : Nat) : Int := zs.getD (p * 2) 0
def stN (zs : List Int) (p : Nat) : Int := zs.getD (p * 2 + 1) 0
theorem sty_size (zs : List Int) : (sty zs).size = zs.length := by simp [sty]
theorem sty_at (zs : List Int) (j : Nat) (h : j < zs.length) : (sty zs)[j]? = some (.int .i64 (zs.getD j 0)) := by simp [sty, List.getD, h]
/-- Block g of the world is a style's row. -/
abbrev StyAt (w : World) (g : Nat) (zs : List Int) : Prop := Blk w g 35 (sty zs)
theorem StyAt.cells {w : World} {g : Nat} {zs : List Int} (h : StyAt w g zs) (hz : zs.length = 118) {p : Nat} (hp : p < 59) : w.cell? ⟨g, p * 2, none⟩ = some (.int .i64 (stK zs p)) ∧ w.cell? ⟨g, p * 2 + 1, none⟩ = some (.int .i64 (stN zs p)) :=
  ⟨(cell_of_row w g _ _ _ _ h).trans (sty_at zs _ (by omega)), (cell_of_row w g _ _ _ _ h).trans (sty_at zs _ (by omega))⟩
/-- A length of a property: 0 where it is none. -/
def len4 (zs : List Int) (p room : Int) : Int := if 0 ≤ p ∧ p < 59 then ofN (stK zs p.toNat) (stN zs p.toNat) room else 0
/-- Never below 0, if so said. -/
def ab (b : Bool) (e : Int) : Int := if b then max 0 e else e
end Go.Proofs.YtkmmlcnoeeaekaaGreatDoor
/- Storing a long array whole. -/
namespace Go.Proofs.YtkmmlcnoeeaekaaGreatDoor
open Go.RowKit
set_option linter.unusedVariables false

def setFrom (cs : Array Value) : Nat → List Value → Array Value
  | _, [] => cs
  | o, v :: r => setFrom (cs.setIfInBounds o v) (o + 1) r
theorem setFrom_at : ∀ (vs : List Value) (cs : Array Value) (o i : Nat), o + vs.length ≤ cs.size → (setFrom cs o vs)[i]? = if o ≤ i ∧ i < o + vs.length then vs[i - o]? else cs[i]?
  | [], cs, o, i, h => by rw [setFrom, if_neg (by simp)]
  | v :: r, cs, o, i, h => by
    simp only [List.length_cons] at h
    rw [setFrom, setFrom_at r _ _ _ (by simp; omega)]
    by_cases h1 : o + 1 ≤ i ∧ i < o + 1 + r.length
    · rw [if_pos h1, if_pos (by simp; omega), show i - o = (i - (o + 1)) + 1 from by omega, List.getElem?_cons_succ]
    · rw [if_neg h1, Array.getElem?_setIfInBounds]
      by_cases h2 : o = i
      · subst h2; rw [if_pos rfl, if_pos (by omega), if_pos (by simp)]; simp
      · rw [if_neg h2, if_neg (by simp; omega)]
theorem setFrom_all (vs cs : Array Value) (h : vs.size = cs.size) : setFrom cs 0 vs.toList = vs := by
  apply Array.ext_getElem?
  intro i
  rw [setFrom_at _ _ _ _ (by simp; omega)]
  by_cases hi : i < vs.size
  · rw [if_pos (by simp; omega)]; simp
  · rw [if_neg (by simp; omega), Array.getElem?_eq_none (by omega), Array.getElem?_eq_none (by omega)]
theorem Blk.setFrom {t : TypeId} {g : Nat} : ∀ (vs : List Value) (o : Nat) (w : World) (cs : Array Value), Blk w g t cs → Blk (w.setCells g o vs) g t (setFrom cs o vs)
  | [], _, _, _, h => h
  | v :: r, o, w, cs, h => by rw [World.setCells, Proofs.YtkmmlcnoeeaekaaGreatDoor.setFrom]; exact Blk.setFrom r _ _ _ (Blk.stored h o v)
theorem Blk.setAll {t : TypeId} {g : Nat} {w : World} {cs : Array Value} (h : Blk w g t cs) (vs : Array Value) (hs : vs.size = cs.size) : Blk (w.setCells g 0 vs.toList) g t vs := by
  have := Blk.setFrom vs.toList 0 w cs h
  rwa [setFrom_all vs cs hs] at this
theorem Blk.farCells {t : TypeId} {g b : Nat} (hb : g ≠ b) : ∀ (vs : List Value) (o : Nat) (w : World) (cs : Array Value), Blk w g t cs → Blk (w.setCells b o vs) g t cs
  | [], _, _, _, h => h
  | v :: r, o, w, cs, h => by rw [World.setCells]; exact Blk.farCells hb r _ _ _ (Blk.far h hb v)
theorem below_setCells {W : World} {b : Nat} (hb : W.heap.size ≤ b) : ∀ (vs : List Value) (o : Nat) (w : World), Below W.heap.size W w → Below W.heap.size W (w.setCells b o vs)
  | [], _, _, h => h
  | v :: r, o, w, h => by rw [World.setCells]; exact below_setCells hb r _ _ (below_set h hb v)
theorem Blk.there {t : TypeId} {g : Nat} {w : World} {cs : Array Value} (h : Blk w g t cs) (n : Nat) (hn : n ≤ cs.size) : w.there g 0 n := fun j hj => by
  rw [Nat.zero_add]; exact ⟨by rw [h.cell]; simp; omega, h.free j⟩
theorem sty_one (zs : List Int) : (sty zs).all (·.oneCell') = true := by
  unfold sty; simp [Value.oneCell']
end Go.Proofs.YtkmmlcnoeeaekaaGreatDoor
/- A style's values, one by one. -/
namespace Go.Proofs.YtkmmlcnoeeaekaaGreatDoor
open Go.RowKit
set_option linter.unusedVariables false
set_option linter.unusedSimpArgs false

/-- The k-th row of a list of styles. -/
def srow (lz : List Int) (k : Nat) : List Int := (List.range 118).map (fun j => lz.getD (k * 118 + j) 0)
theorem srow_len (lz : List Int) (k : Nat) : (srow lz k).length = 118 := by simp [srow]
theorem styles_row {w : World} {B : Nat} {A : Option Addr} {lz : List Int} {nl k : Nat} (h : Holds w B A (ints lz)) (hl : lz.length = nl * 118) (hk : k < nl) :
    ∃ b off, A = some ⟨b, off, none⟩ ∧ b < B ∧ w.rangeAt b (off + k * 118) (sty (srow lz k)).toList := by
  have hlen : (ints lz).length = nl * 118 := by simp [ints, hl]
  have hb : k * 118 + 118 ≤ nl * 118 := by omega
  obtain ⟨b, off, e, hlt, hc⟩ := h (by omega)
  refine ⟨b, off, e, hlt, fun j v hv => ?_⟩
  have hj : j < 118 := by
    have h1 := (List.getElem?_eq_some_iff.1 hv).1
    rw [Array.length_toList, sty_size, srow_len] at h1
    exact h1
  have h1 := hc (k * 118 + j) (by omega)
  rw [Nat.add_assoc, h1]
  rw [show (sty (srow lz k)).toList[j]? = (sty (srow lz k))[j]? by simp, sty_at _ _ (by rw [srow_len]; exact hj)] at hv
  rw [← hv]
  have hk' : k * 118 + j < lz.length := by omega
  simp [ints, List.getD, srow, hj, hk']
theorem sty_cut (zs : List Int) (hz : zs.length = 118) (p : Nat) (hp : p < 59) : (sty zs).extract (p * 2) (p * 2 + 2) = #[.int .i64 (zs.getD (p * 2) 0), .int .i64 (zs.getD (p * 2 + 1) 0)] := by
  apply Array.ext
  · simp [sty_size, hz]; omega
  · intro i h1 h2
    simp only [List.size_toArray, List.length_cons, List.length_nil] at h2
    have hi : i = 0 ∨ i = 1 := by omega
    rcases hi with rfl | rfl
    · simp [sty, List.getD, show p * 2 < zs.length by omega]
    · simp [sty, List.getD, show p * 2 + 1 < zs.length by omega]
theorem idx_val (zs : List Int) (hz : zs.length = 118) (p : Nat) (hp : p < 59) (w : World) : (Instr.index 35 (.agg (sty zs)) (.int .i64 p)).run Tryz.prog w = .ok (.agg #[.int .i64 (zs.getD (p * 2) 0), .int .i64 (zs.getD (p * 2 + 1) 0)]) w := by
  have h1 : (p : Int) < 59 := by omega
  have hc := sty_cut zs hz p hp
  have ha : ∀ w, (isAgg 33).run Tryz.prog w = .ok true w := fun _ => by kernel_rfl
  have hs : ∀ w, (sizeOf 33).run Tryz.prog w = .ok 2 w := fun _ => by kernel_rfl
  rw [← hc]
  unfold Instr.index
  simp [asIntOf, run_underlying Tryz.underlying35, h1]
  rw [if_pos hp]
  unfold Go.part
  simp [ha, hs]
theorem zsc_size : (Tryz.zeroCells35).size = 118 := by kernel_rfl
/-- A look laid in a variable of its own. -/
theorem sty_laid (zs : List Int) (hz : zs.length = 118) (w : World) : (Tryz.prog.info? 35).map (·.size) = some (sty zs).size ∧ (w.alloc (.cells Tryz.zeroCells35 35)).there w.heap.size 0 (sty zs).size ∧
    ∃ w2, (w.alloc (.cells Tryz.zeroCells35 35)).setCells w.heap.size 0 (sty zs).toList = w2 ∧ Blk w2 w.heap.size 35 (sty zs) ∧ Below w.heap.size w w2 ∧ w2.heap.size = w.heap.size + 1 := by
  have hs : (sty zs).size = 118 := by rw [sty_size]; exact hz
  refine ⟨by rw [hs]; kernel_rfl, (Blk.new w _ Tryz.zeroCells35).there _ (by rw [hs, zsc_size]; omega), _, rfl, (Blk.new w _ Tryz.zeroCells35).setAll (sty zs) (by rw [hs, zsc_size]), below_setCells (Nat.le_refl _) _ _ _ (below_alloc (Below.refl _ _) _), ?_⟩
  have : ∀ (vs : List Value) (o : Nat) (w' : World), (w'.setCells w.heap.size o vs).heap.size = w'.heap.size := by
    intro vs
    induction vs with
    | nil => intro o w'; rfl
    | cons v r ih => intro o w'; rw [World.setCells, ih]; simp
  rw [this, alloc_size]
end Go.Proofs.YtkmmlcnoeeaekaaGreatDoor
/- Contracts: boxes.Out, the reference's Out, boxes.isBlock. -/
namespace Go.Proofs.YtkmmlcnoeeaekaaGreatDoor
open Go.RowKit
set_option linter.unusedVariables false
set_option linter.unusedSimpArgs false

def outV (v1 v2 : Int) : Int := if v1 = 2 ∨ v1 = 3 then 2 else if v2 = 1 ∨ v2 = 2 then 1 else 0
/-- Out of the flow. -/
def outS (zs : List Int) : Int := outV (stN zs 1) (stN zs 2)
theorem bout_calls (zs : List Int) (w : World) (hz : zs.length = 118) :
    Calls Tryz.prog 9 #[.agg (sty zs)] w fun e w' => e = .returned (.int .i64 (outS zs)) ∧ Below w.heap.size w w' := by
  have HB := Lib.hid (below_alloc (Below.refl w.heap.size w) (.cells (sty zs) 35))
  have c3 : (w.alloc (.cells (sty zs) 35)).cell? ⟨w.heap.size, 3, none⟩ = some (.int .i64 (stN zs 1)) := ((Blk.new w 35 (sty zs)).cell 3).trans (sty_at zs 3 (by omega))
  have c5 : (w.alloc (.cells (sty zs) 35)).cell? ⟨w.heap.size, 5, none⟩ = some (.int .i64 (stN zs 2)) := ((Blk.new w 35 (sty zs)).cell 5).trans (sty_at zs 5 (by omega))
  unfold outS
  generalize stN zs 1 = v1 at c3 ⊢
  generalize stN zs 2 = v2 at c5 ⊢
  by_cases h1 : v1 = 2
  · have q1 : (v1 == 2) = true := by simp [h1]
    have HE : Hid (outV v1 v2 = 2) := by show _ = _; unfold outV; simp [h1]
    clear h1
    go_enter Tryz.func9, Tryz.ntmps9
    go_wp2_with fail
    go_ret
    exact ⟨by rw [HE.out]; rfl, HB.out⟩
  · have q1 : (v1 == 2) = false := by simp [h1]
    by_cases h2 : v1 = 3
    · have q2 : (v1 == 3) = true := by simp [h2]
      have HE : Hid (outV v1 v2 = 2) := by show _ = _; unfold outV; simp [h1, h2]
      clear h1 h2
      go_enter Tryz.func9, Tryz.ntmps9
      go_wp2_with fail
      go_ret
      exact ⟨by rw [HE.out]; rfl, HB.out⟩
    · have q2 : (v1 == 3) = false := by simp [h2]
      by_cases h3 : v2 = 1
      · have q3 : (v2 == 1) = true := by simp [h3]
        have HE : Hid (outV v1 v2 = 1) := by show _ = _; unfold outV; simp [h1, h2, h3]
        clear h1 h2 h3
        go_enter Tryz.func9, Tryz.ntmps9
        go_wp2_with fail
        go_ret
        exact ⟨by rw [HE.out]; rfl, HB.out⟩
      · have q3 : (v2 == 1) = false := by simp [h3]
        by_cases h4 : v2 = 2
        · have q4 : (v2 == 2) = true := by simp [h4]
          have HE : Hid (outV v1 v2 = 1) := by show _ = _; unfold outV; simp [h1, h2, h3, h4]
          clear h1 h2 h3 h4
          go_enter Tryz.func9, Tryz.ntmps9
          go_wp2_with fail
          go_ret
          exact ⟨by rw [HE.out]; rfl, HB.out⟩
        · have q4 : (v2 == 2) = false := by simp [h4]
          have HE : Hid (outV v1 v2 = 0) := by show _ = _; unfold outV; simp [h1, h2, h3, h4]
          clear h1 h2 h3 h4
          go_enter Tryz.func9, Tryz.ntmps9
          go_wp2_with fail
          go_ret
          exact ⟨by rw [HE.out]; rfl, HB.out⟩
theorem rout_calls (zs : List Int) (w : World) (hz : zs.length = 118) :
    Calls Tryz.prog 10 #[.agg (sty zs)] w fun e w' => e = .returned (.int .i64 (outS zs)) ∧ Below w.heap.size w w' := by
  have HB := Lib.hid (below_alloc (Below.refl w.heap.size w) (.cells (sty zs) 35))
  have c3 : (w.alloc (.cells (sty zs) 35)).cell? ⟨w.heap.size, 3, none⟩ = some (.int .i64 (stN zs 1)) := ((Blk.new w 35 (sty zs)).cell 3).trans (sty_at zs 3 (by omega))
  have c5 : (w.alloc (.cells (sty zs) 35)).cell? ⟨w.heap.size, 5, none⟩ = some (.int .i64 (stN zs 2)) := ((Blk.new w 35 (sty zs)).cell 5).trans (sty_at zs 5 (by omega))
  unfold outS
  generalize stN zs 1 = v1 at c3 ⊢
  generalize stN zs 2 = v2 at c5 ⊢
  by_cases h1 : v1 = 2
  · have q1 : (v1 == 2) = true := by simp [h1]
    have HE : Hid (outV v1 v2 = 2) := by show _ = _; unfold outV; simp [h1]
    clear h1
    go_enter Tryz.func10, Tryz.ntmps10
    go_wp2_with fail
    go_ret
    exact ⟨by rw [HE.out]; rfl, HB.out⟩
  · have q1 : (v1 == 2) = false := by simp [h1]
    by_cases h2 : v1 = 3
    · have q2 : (v1 == 3) = true := by simp [h2]
      have HE : Hid (outV v1 v2 = 2) := by show _ = _; unfold outV; simp [h1, h2]
      clear h1 h2
      go_enter Tryz.func10, Tryz.ntmps10
      go_wp2_with fail
      go_ret
      exact ⟨by rw [HE.out]; rfl, HB.out⟩
    · have q2 : (v1 == 3) = false := by simp [h2]
      by_cases h3 : v2 = 1
      · have q3 : (v2 == 1) = true := by simp [h3]
        have HE : Hid (outV v1 v2 = 1) := by show _ = _; unfold outV; simp [h1, h2, h3]
        clear h1 h2 h3
        go_enter Tryz.func10, Tryz.ntmps10
        go_wp2_with fail
        go_ret
        exact ⟨by rw [HE.out]; rfl, HB.out⟩
      · have q3 : (v2 == 1) = false := by simp [h3]
        by_cases h4 : v2 = 2
        · have q4 : (v2 == 2) = true := by simp [h4]
          have HE : Hid (outV v1 v2 = 1) := by show _ = _; unfold outV; simp [h1, h2, h3, h4]
          clear h1 h2 h3 h4
          go_enter Tryz.func10, Tryz.ntmps10
          go_wp2_with fail
          go_ret
          exact ⟨by rw [HE.out]; rfl, HB.out⟩
        · have q4 : (v2 == 2) = false := by simp [h4]
          have HE : Hid (outV v1 v2 = 0) := by show _ = _; unfold outV; simp [h1, h2, h3, h4]
          clear h1 h2 h3 h4
          go_enter Tryz.func10, Tryz.ntmps10
          go_wp2_with fail
          go_ret
          exact ⟨by rw [HE.out]; rfl, HB.out⟩
theorem isBlk_calls (k : Int) (w : World) : Calls Tryz.prog 104 #[.int .i64 k] w fun e w' => e = .returned (.bool (isBlk k)) ∧ w = w' := by
  by_cases h1 : k = 1
  · have q1 : (k == 1) = true := by simp [h1]
    have HE : Hid (isBlk k = true) := by show _ = _; unfold isBlk; simp [h1]
    clear h1
    go_enter Tryz.func104, Tryz.ntmps104
    go_wp2_with fail
    go_ret
    exact ⟨by rw [HE.out]; rfl, rfl⟩
  · have q1 : (k == 1) = false := by simp [h1]
    by_cases h2 : k = 2
    · have q2 : (k == 2) = true := by simp [h2]
      have HE : Hid (isBlk k = true) := by show _ = _; unfold isBlk; simp [h1, h2]
      clear h1 h2
      go_enter Tryz.func104, Tryz.ntmps104
      go_wp2_with fail
      go_ret
      exact ⟨by rw [HE.out]; rfl, rfl⟩
    · have q2 : (k == 2) = false := by simp [h2]
      by_cases h3 : k = 6
      · have q3 : (k == 6) = true := by simp [h3]
        have HE : Hid (isBlk k = true) := by show _ = _; unfold isBlk; simp [h1, h2, h3]
        clear h1 h2 h3
        go_enter Tryz.func104, Tryz.ntmps104
        go_wp2_with fail
        go_ret
        exact ⟨by rw [HE.out]; rfl, rfl⟩
      · have q3 : (k == 6) = false := by simp [h3]
        have HE : Hid (isBlk k = (k == 7)) := by show _ = _; unfold isBlk; simp [h1, h2, h3]
        clear h1 h2 h3
        go_enter Tryz.func104, Tryz.ntmps104
        go_wp2_with fail
        go_ret
        exact ⟨by rw [HE.out]; rfl, rfl⟩
end Go.Proofs.YtkmmlcnoeeaekaaGreatDoor
