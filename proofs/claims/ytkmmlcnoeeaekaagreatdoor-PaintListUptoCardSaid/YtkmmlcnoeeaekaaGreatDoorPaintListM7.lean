/- Several texts in one: Edges. -/
import Derived.Test.YtkmmlcnoeeaekaaGreatDoorPaintListM6
import Derived.Test.YtkmmlcnoeeaekaaGreatDoorPaintListM1
import Derived.Outline
import Derived.Deep.WholeRow
/- Styles by value; contracts of margins.Edges, above, Frame and of the reference's length, Edges. -/
namespace Go.Proofs.YtkmmlcnoeeaekaaGreatDoor
open Go.RowKit
set_option linter.unusedVariables false
attribute [local go_sem high] run_min2 run_max2

/-- A style's cells: of each property the kind and the number. -/
def sty (zs : List Int) : Array Value := (zs.map (Value.int .i64)).toArray
def stK (zs : List Int) (p : Nat) : Int := zs.getD (p * 2) 0
def stN (zs : List Int) (p : Nat) : Int := zs.getD (p * 2 + 1) 0
theorem sty_size (zs : List Int) : (sty zs).size = zs.length := by simp [sty]
theorem sty_at (zs : List Int) (j : Nat) (h : j < zs.length) : (sty zs)[j]? = some (.int .i64 (zs.getD j 0)) := by simp [sty, List.getD, h]
/-- Block g of the world is a style's row. -/
abbrev StyAt (w : World) (g : Nat) (zs : List Int) : Prop := Blk w g 35 (sty zs)
theorem StyAt.cells {w : World} {g : Nat} {zs : List Int} (h : StyAt w g zs) (hz : zs.length = 118) {p : Nat} (hp : p < 59) : w.cell? ⟨g, p * 2, none⟩ = some (.int .i64 (stK zs p)) ∧ w.cell? ⟨g, p * 2 + 1, none⟩ = some (.int .i64 (stN zs p)) :=
  ⟨(cell_of_row w g _ _ _ _ h).trans (sty_at zs _ (by omega)), (cell_of_row w g _ _ _ _ h).trans (sty_at zs _ (by omega))⟩
theorem StyAt.load {w : World} {g : Nat} {zs : List Int} (h : StyAt w g zs) (hz : zs.length = 118) : (loadVar 35 ⟨g, 0, none⟩).run Tryz.prog w = .ok (.agg (sty zs)) w :=
  run_loadVar_row w g _ _ _ _ _ h Tryz.underlying35 rfl (by rw [sty_size, hz]; kernel_rfl)

/-- A length of a property: 0 where it is none. -/
def len4 (zs : List Int) (p room : Int) : Int := if 0 ≤ p ∧ p < 59 then ofN (stK zs p.toNat) (stN zs p.toNat) room else 0
set_option maxHeartbeats 400000 in
theorem length_calls (zs : List Int) (p room : Int) (w : World) (hz : zs.length = 118) (h0 : 0 ≤ p) (h1 : p < 59) :
    Calls Tryz.prog 136 #[.agg (sty zs), .int .i64 p, .int .i64 room] w fun e w' => e = .returned (.int .i64 (len4 zs p room)) ∧ Below w.heap.size w w' := by
  obtain ⟨m, rfl⟩ : ∃ m : Nat, p = m := ⟨p.toNat, by omega⟩
  obtain ⟨c0, c1⟩ := StyAt.cells (Blk.new w _ (sty zs)) hz (p := m) (by omega)
  go_enter Tryz.func136, Tryz.ntmps136
  go_wp2_with (first | (go_at_call 92; refine (rof_calls _ _ _ _).mono ?_; rintro e w' ⟨rfl, rfl⟩))
  go_ret
  exact ⟨ret_int (by unfold len4; rw [if_pos (by omega)]; simp), by repeat (first | exact Below.refl _ _ | refine below_alloc ?_ _)⟩

def edgeRow (e0 e1 e2 e3 : Int) (k : Nat) : Array Value := #[.int .i64 (if 0 < k then e0 else 0), .int .i64 (if 1 < k then e1 else 0), .int .i64 (if 2 < k then e2 else 0), .int .i64 (if 3 < k then e3 else 0)]
set_option maxRecDepth 100000 in
set_option maxHeartbeats 2000000 in
theorem edges_calls (zs : List Int) (p0 p1 p2 p3 room : Int) (w : World) (hz : zs.length = 118) :
    Calls Tryz.prog 134 #[.agg (sty zs), .agg #[.int .i64 p0, .int .i64 p1, .int .i64 p2, .int .i64 p3], .int .i64 room] w fun e w' => e = .returned (.agg #[.int .i64 (len4 zs p0 room), .int .i64 (len4 zs p1 room), .int .i64 (len4 zs p2 room), .int .i64 (len4 zs p3 room)]) ∧ Below w.heap.size w w' := by
  have ix : ∀ (q0 q1 q2 q3 : Int) w, (Instr.index 171 (.agg #[.int .i64 q0, .int .i64 q1, .int .i64 q2, .int .i64 q3]) (.int .i64 0)).run Tryz.prog w = .ok (.int .i64 q0) w ∧ (Instr.index 171 (.agg #[.int .i64 q0, .int .i64 q1, .int .i64 q2, .int .i64 q3]) (.int .i64 1)).run Tryz.prog w = .ok (.int .i64 q1) w ∧ (Instr.index 171 (.agg #[.int .i64 q0, .int .i64 q1, .int .i64 q2, .int .i64 q3]) (.int .i64 2)).run Tryz.prog w = .ok (.int .i64 q2) w ∧ (Instr.index 171 (.agg #[.int .i64 q0, .int .i64 q1, .int .i64 q2, .int .i64 q3]) (.int .i64 3)).run Tryz.prog w = .ok (.int .i64 q3) w := fun q0 q1 q2 q3 w => ⟨by kernel_rfl, by kernel_rfl, by kernel_rfl, by kernel_rfl⟩
  have i0 := fun q0 q1 q2 q3 w => (ix q0 q1 q2 q3 w).1
  have i1 := fun q0 q1 q2 q3 w => (ix q0 q1 q2 q3 w).2.1
  have i2 := fun q0 q1 q2 q3 w => (ix q0 q1 q2 q3 w).2.2.1
  have i3 := fun q0 q1 q2 q3 w => (ix q0 q1 q2 q3 w).2.2.2
  clear ix
  go_enter Tryz.func134, Tryz.ntmps134
  go_wp2_with fail
  go_loopw [11] (fun i wr => ∃ (k : Nat) (z : Int), k ≤ 4 ∧ z = k ∧ i = .int .i64 z ∧ StyAt wr w.heap.size zs ∧ Blk wr (w.heap.size + 1 + 1 + 1) 171 (edgeRow (len4 zs p0 room) (len4 zs p1 room) (len4 zs p2 room) (len4 zs p3 room) k) ∧ Blk wr (w.heap.size + 1 + 1) 141 #[.int .i64 0, .int .i64 0, .int .i64 0, .int .i64 0] ∧ Below w.heap.size w wr) (fun i _ => 4 - (intOf i).toNat)
  case atStart =>
    have b0 := Blk.new w 35 (sty zs)
    have b2 := Blk.new ((w.alloc (.cells (sty zs) 35)).alloc (.cells #[.int .i64 p0, .int .i64 p1, .int .i64 p2, .int .i64 p3] 171)) 141 #[.int .i64 0, .int .i64 0, .int .i64 0, .int .i64 0]
    have b3 := Blk.new (((w.alloc (.cells (sty zs) 35)).alloc (.cells #[.int .i64 p0, .int .i64 p1, .int .i64 p2, .int .i64 p3] 171)).alloc (.cells #[.int .i64 0, .int .i64 0, .int .i64 0, .int .i64 0] 141)) 171 #[.int .i64 0, .int .i64 0, .int .i64 0, .int .i64 0]
    simp only [alloc_size] at b2 b3
    exact ⟨0, 0, by omega, rfl, rfl, ((b0.alloc _).alloc _).alloc _, b3, b2.alloc _, by repeat (first | exact Below.refl _ _ | refine below_alloc ?_ _)⟩
  case round =>
    obtain ⟨k, z, hk, hz', rfl, hS, hN, hR, hbel⟩ := hrel
    have hl := hN.lt
    have hk' : k = 0 ∨ k = 1 ∨ k = 2 ∨ k = 3 ∨ k = 4 := by omega
    rcases hk' with rfl | rfl | rfl | rfl | rfl
    · obtain rfl : z = 0 := by omega
      clear hz'
      have hsc : wr.cell? ⟨w.heap.size + 1 + 1 + 1, 0, none⟩ = some (.int .i64 0) := hN.cell 0
      have hfz := hN.free 0
      by_cases hp : 0 ≤ p0 ∧ p0 < 59
      · obtain ⟨m, hm⟩ : ∃ m : Nat, p0 = m := ⟨p0.toNat, by omega⟩
        obtain ⟨c0, c1⟩ := StyAt.cells hS hz (p := m) (by omega)
        have HE : Hid (len4 zs p0 room = ofN (stK zs m) (stN zs m) room) := by show _ = _; unfold len4; rw [if_pos hp, hm]; simp
        have hp1 := hp.1
        have hp2 := hp.2
        subst hm
        go_wp2_with (first | (go_at_call 81; refine (of_calls _ _ _ _).mono ?_; rintro e w' ⟨rfl, rfl⟩))
        go_roundw
        case rel => exact ⟨0 + 1, _, by omega, by omega, rfl, (Blk.far hS (by omega) _).alloc _, by have := (Blk.stored hN 0 (.int .i64 (ofN (stK zs m) (stN zs m) room))).alloc (.cells #[.int .i64 (stK zs m), .int .i64 (stN zs m)] 33); rw [← HE.out] at this ⊢; exact this, (Blk.far hR (by omega) _).alloc _, below_alloc (below_set hbel (by omega) _) _⟩
        case measure => simp [intOf]
      · have HE : Hid (len4 zs p0 room = 0) := by show _ = _; unfold len4; rw [if_neg hp]
        by_cases hp0 : 0 ≤ p0
        · have hp1 : ¬ p0 < 59 := by omega
          go_wp2_with fail
          go_roundw
          case rel => exact ⟨0 + 1, _, by omega, by omega, rfl, hS, by have := hN; rw [show edgeRow (len4 zs p0 room) (len4 zs p1 room) (len4 zs p2 room) (len4 zs p3 room) (0 + 1) = edgeRow (len4 zs p0 room) (len4 zs p1 room) (len4 zs p2 room) (len4 zs p3 room) 0 from by simp [edgeRow, HE.out]]; exact this, hR, hbel⟩
          case measure => simp [intOf]
        · go_wp2_with fail
          go_roundw
          case rel => exact ⟨0 + 1, _, by omega, by omega, rfl, hS, by have := hN; rw [show edgeRow (len4 zs p0 room) (len4 zs p1 room) (len4 zs p2 room) (len4 zs p3 room) (0 + 1) = edgeRow (len4 zs p0 room) (len4 zs p1 room) (len4 zs p2 room) (len4 zs p3 room) 0 from by simp [edgeRow, HE.out]]; exact this, hR, hbel⟩
          case measure => simp [intOf]
    · obtain rfl : z = 1 := by omega
      clear hz'
      have hsc : wr.cell? ⟨w.heap.size + 1 + 1 + 1, 1, none⟩ = some (.int .i64 0) := hN.cell 1
      have hfz := hN.free 1
      by_cases hp : 0 ≤ p1 ∧ p1 < 59
      · obtain ⟨m, hm⟩ : ∃ m : Nat, p1 = m := ⟨p1.toNat, by omega⟩
        obtain ⟨c0, c1⟩ := StyAt.cells hS hz (p := m) (by omega)
        have HE : Hid (len4 zs p1 room = ofN (stK zs m) (stN zs m) room) := by show _ = _; unfold len4; rw [if_pos hp, hm]; simp
        have hp1 := hp.1
        have hp2 := hp.2
        subst hm
        go_wp2_with (first | (go_at_call 81; refine (of_calls _ _ _ _).mono ?_; rintro e w' ⟨rfl, rfl⟩))
        go_roundw
        case rel => exact ⟨1 + 1, _, by omega, by omega, rfl, (Blk.far hS (by omega) _).alloc _, by have := (Blk.stored hN 1 (.int .i64 (ofN (stK zs m) (stN zs m) room))).alloc (.cells #[.int .i64 (stK zs m), .int .i64 (stN zs m)] 33); rw [← HE.out] at this ⊢; exact this, (Blk.far hR (by omega) _).alloc _, below_alloc (below_set hbel (by omega) _) _⟩
        case measure => simp [intOf]
      · have HE : Hid (len4 zs p1 room = 0) := by show _ = _; unfold len4; rw [if_neg hp]
        by_cases hp0 : 0 ≤ p1
        · have hp1 : ¬ p1 < 59 := by omega
          go_wp2_with fail
          go_roundw
          case rel => exact ⟨1 + 1, _, by omega, by omega, rfl, hS, by have := hN; rw [show edgeRow (len4 zs p0 room) (len4 zs p1 room) (len4 zs p2 room) (len4 zs p3 room) (1 + 1) = edgeRow (len4 zs p0 room) (len4 zs p1 room) (len4 zs p2 room) (len4 zs p3 room) 1 from by simp [edgeRow, HE.out]]; exact this, hR, hbel⟩
          case measure => simp [intOf]
        · go_wp2_with fail
          go_roundw
          case rel => exact ⟨1 + 1, _, by omega, by omega, rfl, hS, by have := hN; rw [show edgeRow (len4 zs p0 room) (len4 zs p1 room) (len4 zs p2 room) (len4 zs p3 room) (1 + 1) = edgeRow (len4 zs p0 room) (len4 zs p1 room) (len4 zs p2 room) (len4 zs p3 room) 1 from by simp [edgeRow, HE.out]]; exact this, hR, hbel⟩
          case measure => simp [intOf]
    · obtain rfl : z = 2 := by omega
      clear hz'
      have hsc : wr.cell? ⟨w.heap.size + 1 + 1 + 1, 2, none⟩ = some (.int .i64 0) := hN.cell 2
      have hfz := hN.free 2
      by_cases hp : 0 ≤ p2 ∧ p2 < 59
      · obtain ⟨m, hm⟩ : ∃ m : Nat, p2 = m := ⟨p2.toNat, by omega⟩
        obtain ⟨c0, c1⟩ := StyAt.cells hS hz (p := m) (by omega)
        have HE : Hid (len4 zs p2 room = ofN (stK zs m) (stN zs m) room) := by show _ = _; unfold len4; rw [if_pos hp, hm]; simp
        have hp1 := hp.1
        have hp2 := hp.2
        subst hm
        go_wp2_with (first | (go_at_call 81; refine (of_calls _ _ _ _).mono ?_; rintro e w' ⟨rfl, rfl⟩))
        go_roundw
        case rel => exact ⟨2 + 1, _, by omega, by omega, rfl, (Blk.far hS (by omega) _).alloc _, by have := (Blk.stored hN 2 (.int .i64 (ofN (stK zs m) (stN zs m) room))).alloc (.cells #[.int .i64 (stK zs m), .int .i64 (stN zs m)] 33); rw [← HE.out] at this ⊢; exact this, (Blk.far hR (by omega) _).alloc _, below_alloc (below_set hbel (by omega) _) _⟩
        case measure => simp [intOf]
      · have HE : Hid (len4 zs p2 room = 0) := by show _ = _; unfold len4; rw [if_neg hp]
        by_cases hp0 : 0 ≤ p2
        · have hp1 : ¬ p2 < 59 := by omega
          go_wp2_with fail
          go_roundw
          case rel => exact ⟨2 + 1, _, by omega, by omega, rfl, hS, by have := hN; rw [show edgeRow (len4 zs p0 room) (len4 zs p1 room) (len4 zs p2 room) (len4 zs p3 room) (2 + 1) = edgeRow (len4 zs p0 room) (len4 zs p1 room) (len4 zs p2 room) (len4 zs p3 room) 2 from by simp [edgeRow, HE.out]]; exact this, hR, hbel⟩
          case measure => simp [intOf]
        · go_wp2_with fail
          go_roundw
          case rel => exact ⟨2 + 1, _, by omega, by omega, rfl, hS, by have := hN; rw [show edgeRow (len4 zs p0 room) (len4 zs p1 room) (len4 zs p2 room) (len4 zs p3 room) (2 + 1) = edgeRow (len4 zs p0 room) (len4 zs p1 room) (len4 zs p2 room) (len4 zs p3 room) 2 from by simp [edgeRow, HE.out]]; exact this, hR, hbel⟩
          case measure => simp [intOf]
    · obtain rfl : z = 3 := by omega
      clear hz'
      have hsc : wr.cell? ⟨w.heap.size + 1 + 1 + 1, 3, none⟩ = some (.int .i64 0) := hN.cell 3
      have hfz := hN.free 3
      by_cases hp : 0 ≤ p3 ∧ p3 < 59
      · obtain ⟨m, hm⟩ : ∃ m : Nat, p3 = m := ⟨p3.toNat, by omega⟩
        obtain ⟨c0, c1⟩ := StyAt.cells hS hz (p := m) (by omega)
        have HE : Hid (len4 zs p3 room = ofN (stK zs m) (stN zs m) room) := by show _ = _; unfold len4; rw [if_pos hp, hm]; simp
        have hp1 := hp.1
        have hp2 := hp.2
        subst hm
        go_wp2_with (first | (go_at_call 81; refine (of_calls _ _ _ _).mono ?_; rintro e w' ⟨rfl, rfl⟩))
        go_roundw
        case rel => exact ⟨3 + 1, _, by omega, by omega, rfl, (Blk.far hS (by omega) _).alloc _, by have := (Blk.stored hN 3 (.int .i64 (ofN (stK zs m) (stN zs m) room))).alloc (.cells #[.int .i64 (stK zs m), .int .i64 (stN zs m)] 33); rw [← HE.out] at this ⊢; exact this, (Blk.far hR (by omega) _).alloc _, below_alloc (below_set hbel (by omega) _) _⟩
        case measure => simp [intOf]
      · have HE : Hid (len4 zs p3 room = 0) := by show _ = _; unfold len4; rw [if_neg hp]
        by_cases hp0 : 0 ≤ p3
        · have hp1 : ¬ p3 < 59 := by omega
          go_wp2_with fail
          go_roundw
          case rel => exact ⟨3 + 1, _, by omega, by omega, rfl, hS, by have := hN; rw [show edgeRow (len4 zs p0 room) (len4 zs p1 room) (len4 zs p2 room) (len4 zs p3 room) (3 + 1) = edgeRow (len4 zs p0 room) (len4 zs p1 room) (len4 zs p2 room) (len4 zs p3 room) 3 from by simp [edgeRow, HE.out]]; exact this, hR, hbel⟩
          case measure => simp [intOf]
        · go_wp2_with fail
          go_roundw
          case rel => exact ⟨3 + 1, _, by omega, by omega, rfl, hS, by have := hN; rw [show edgeRow (len4 zs p0 room) (len4 zs p1 room) (len4 zs p2 room) (len4 zs p3 room) (3 + 1) = edgeRow (len4 zs p0 room) (len4 zs p1 room) (len4 zs p2 room) (len4 zs p3 room) 3 from by simp [edgeRow, HE.out]]; exact this, hR, hbel⟩
          case measure => simp [intOf]
    · obtain rfl : z = 4 := by omega
      clear hz'
      have r0 : wr.cell? ⟨w.heap.size + 1 + 1 + 1, 0, none⟩ = some (.int .i64 (len4 zs p0 room)) := hN.cell 0
      have r1 : wr.cell? ⟨w.heap.size + 1 + 1 + 1, 1, none⟩ = some (.int .i64 (len4 zs p1 room)) := hN.cell 1
      have r2 : wr.cell? ⟨w.heap.size + 1 + 1 + 1, 2, none⟩ = some (.int .i64 (len4 zs p2 room)) := hN.cell 2
      have r3 : wr.cell? ⟨w.heap.size + 1 + 1 + 1, 3, none⟩ = some (.int .i64 (len4 zs p3 room)) := hN.cell 3
      have q0 : wr.cell? ⟨w.heap.size + 1 + 1, 0, none⟩ = some (.int .i64 0) := hR.cell 0
      have q1 : wr.cell? ⟨w.heap.size + 1 + 1, 1, none⟩ = some (.int .i64 0) := hR.cell 1
      have q2 : wr.cell? ⟨w.heap.size + 1 + 1, 2, none⟩ = some (.int .i64 0) := hR.cell 2
      have q3 : wr.cell? ⟨w.heap.size + 1 + 1, 3, none⟩ = some (.int .i64 0) := hR.cell 3
      have f0 := hR.free 0
      have f1 := hR.free 1
      have f2 := hR.free 2
      have f3 := hR.free 3
      go_wp2_with fail
      have hB := (((hR.stored 0 (.int .i64 (len4 zs p0 room))).stored 1 (.int .i64 (len4 zs p1 room))).stored 2 (.int .i64 (len4 zs p2 room))).stored 3 (.int .i64 (len4 zs p3 room))
      exact bodyPost_ret (v := .agg #[.int .i64 (len4 zs p0 room), .int .i64 (len4 zs p1 room), .int .i64 (len4 zs p2 room), .int .i64 (len4 zs p3 room)]) (results_cell_row Tryz.results134 _ _ (w.heap.size + 1 + 1) 141 _ (0, 0) _ rfl hB Tryz.underlying141 rfl (by kernel_rfl)) rfl ⟨rfl, below_set (below_set (below_set (below_set hbel (by omega) _) (by omega) _) (by omega) _) (by omega) _⟩

theorem row_one0 {a b c d v : Int} (h : a = v) : (edgeRow a b c d 0).setIfInBounds 0 (.int .i64 v) = edgeRow a b c d (0 + 1) := by subst h; rfl
theorem row_two0 {a b c d v : Int} (x : Value) (h : a = v) : ((edgeRow a b c d 0).setIfInBounds 0 x).setIfInBounds 0 (.int .i64 v) = edgeRow a b c d (0 + 1) := by subst h; rfl
theorem row_one1 {a b c d v : Int} (h : b = v) : (edgeRow a b c d 1).setIfInBounds 1 (.int .i64 v) = edgeRow a b c d (1 + 1) := by subst h; rfl
theorem row_two1 {a b c d v : Int} (x : Value) (h : b = v) : ((edgeRow a b c d 1).setIfInBounds 1 x).setIfInBounds 1 (.int .i64 v) = edgeRow a b c d (1 + 1) := by subst h; rfl
theorem row_one2 {a b c d v : Int} (h : c = v) : (edgeRow a b c d 2).setIfInBounds 2 (.int .i64 v) = edgeRow a b c d (2 + 1) := by subst h; rfl
theorem row_two2 {a b c d v : Int} (x : Value) (h : c = v) : ((edgeRow a b c d 2).setIfInBounds 2 x).setIfInBounds 2 (.int .i64 v) = edgeRow a b c d (2 + 1) := by subst h; rfl
theorem row_one3 {a b c d v : Int} (h : d = v) : (edgeRow a b c d 3).setIfInBounds 3 (.int .i64 v) = edgeRow a b c d (3 + 1) := by subst h; rfl
theorem row_two3 {a b c d v : Int} (x : Value) (h : d = v) : ((edgeRow a b c d 3).setIfInBounds 3 x).setIfInBounds 3 (.int .i64 v) = edgeRow a b c d (3 + 1) := by subst h; rfl
/-- Never below 0, if so said. -/
def ab (b : Bool) (e : Int) : Int := if b then max 0 e else e
set_option maxRecDepth 100000 in
set_option maxHeartbeats 2000000 in
theorem redges_calls (zs : List Int) (p room : Int) (b : Bool) (w : World) (hz : zs.length = 118) (hp0 : 0 ≤ p) (hp1 : p + 3 < 59) :
    Calls Tryz.prog 80 #[.agg (sty zs), .int .i64 p, .int .i64 room, .bool b] w fun e w' => e = .returned (.agg #[.int .i64 (ab b (len4 zs p room)), .int .i64 (ab b (len4 zs (p + 1) room)), .int .i64 (ab b (len4 zs (p + 2) room)), .int .i64 (ab b (len4 zs (p + 3) room))]) ∧ Below w.heap.size w w' := by
  have hsz : (Tryz.prog.info? 35).map (·.size) = some (sty zs).size := by rw [sty_size, hz]; kernel_rfl
  have hsz' := Lib.hid hsz
  clear hsz
  have hsz := hsz'.out
  have HSZ := Lib.hid hsz
  clear hsz
  go_enter Tryz.func80, Tryz.ntmps80
  go_wp2_with fail
  go_loopw [11] (fun i wr => ∃ (k : Nat) (z : Int), k ≤ 4 ∧ z = k ∧ i = .int .i64 z ∧ StyAt wr w.heap.size zs ∧ Blk wr (w.heap.size + 1 + 1) 171 (edgeRow (ab b (len4 zs p room)) (ab b (len4 zs (p + 1) room)) (ab b (len4 zs (p + 2) room)) (ab b (len4 zs (p + 3) room)) k) ∧ Blk wr (w.heap.size + 1) 141 #[.int .i64 0, .int .i64 0, .int .i64 0, .int .i64 0] ∧ Below w.heap.size w wr) (fun i _ => 4 - (intOf i).toNat)
  case atStart =>
    have b0 := Blk.new w 35 (sty zs)
    have b2 := Blk.new (w.alloc (.cells (sty zs) 35)) 141 #[.int .i64 0, .int .i64 0, .int .i64 0, .int .i64 0]
    have b3 := Blk.new ((w.alloc (.cells (sty zs) 35)).alloc (.cells #[.int .i64 0, .int .i64 0, .int .i64 0, .int .i64 0] 141)) 171 #[.int .i64 0, .int .i64 0, .int .i64 0, .int .i64 0]
    simp only [alloc_size] at b2 b3
    exact ⟨0, 0, by omega, rfl, rfl, (b0.alloc _).alloc _, b3, b2.alloc _, by repeat (first | exact Below.refl _ _ | refine below_alloc ?_ _)⟩
  case round =>
    obtain ⟨k, z, hk, hz', rfl, hS, hN, hR, hbel⟩ := hrel
    have hl := hN.lt
    have hk' : k = 0 ∨ k = 1 ∨ k = 2 ∨ k = 3 ∨ k = 4 := by omega
    rcases hk' with rfl | rfl | rfl | rfl | rfl
    · obtain rfl : z = 0 := by omega
      clear hz'
      cases b with
      | false =>
        · have HE : Hid (ab false (len4 zs p room) = len4 zs p room) := rfl
          go_wp2_with (first | (refine wpList_load_row rfl 35 _ rfl w.heap.size rfl 35 (sty zs) (0, 0) _ hS Tryz.underlying35 rfl HSZ.out ?_) | (go_at_call 136; refine (length_calls _ _ _ _ hz (by omega) (by omega)).mono ?_; rintro e w1 ⟨rfl, hb1⟩; have hl1 := hb1.size; have hS1 := Lib.hid (hS.below hb1 hS.lt); have hN1 := hN.below hb1 hN.lt; have hR1 := Lib.hid (hR.below hb1 hR.lt); have hsc : w1.cell? ⟨w.heap.size + 1 + 1, 0, none⟩ = some (.int .i64 0) := hN1.cell 0; have hfz := hN1.free 0; have hbel1 := below_then hbel hb1))
          go_roundw
          case rel => exact ⟨0 + 1, _, by omega, by omega, rfl, Blk.far hS1.out (by omega) _, by have := Blk.stored hN1 0 (.int .i64 (len4 zs p room)); rw [row_one0 HE.out] at this; exact this, Blk.far hR1.out (by omega) _, below_set hbel1 (by omega) _⟩
          case measure => simp [intOf]
      | true =>
        by_cases hneg : len4 zs p room < 0
        · have HE : Hid (ab true (len4 zs p room) = 0) := by show max 0 _ = _; omega
          go_wp2_with (first | (refine wpList_load_row rfl 35 _ rfl w.heap.size rfl 35 (sty zs) (0, 0) _ hS Tryz.underlying35 rfl HSZ.out ?_) | (go_at_call 136; refine (length_calls _ _ _ _ hz (by omega) (by omega)).mono ?_; rintro e w1 ⟨rfl, hb1⟩; have hl1 := hb1.size; have hS1 := Lib.hid (hS.below hb1 hS.lt); have hN1 := hN.below hb1 hN.lt; have hR1 := Lib.hid (hR.below hb1 hR.lt); have hsc : w1.cell? ⟨w.heap.size + 1 + 1, 0, none⟩ = some (.int .i64 0) := hN1.cell 0; have hfz := hN1.free 0; have hbel1 := below_then hbel hb1))
          go_roundw
          case rel => exact ⟨0 + 1, _, by omega, by omega, rfl, Blk.far (Blk.far hS1.out (by omega) _) (by omega) _, by have := Blk.stored (Blk.stored hN1 0 (.int .i64 (len4 zs p room))) 0 (.int .i64 0); rw [row_two0 _ HE.out] at this; exact this, Blk.far (Blk.far hR1.out (by omega) _) (by omega) _, below_set (below_set hbel1 (by omega) _) (by omega) _⟩
          case measure => simp [intOf]
        · have HE : Hid (ab true (len4 zs p room) = len4 zs p room) := by show max 0 _ = _; omega
          go_wp2_with (first | (refine wpList_load_row rfl 35 _ rfl w.heap.size rfl 35 (sty zs) (0, 0) _ hS Tryz.underlying35 rfl HSZ.out ?_) | (go_at_call 136; refine (length_calls _ _ _ _ hz (by omega) (by omega)).mono ?_; rintro e w1 ⟨rfl, hb1⟩; have hl1 := hb1.size; have hS1 := Lib.hid (hS.below hb1 hS.lt); have hN1 := hN.below hb1 hN.lt; have hR1 := Lib.hid (hR.below hb1 hR.lt); have hsc : w1.cell? ⟨w.heap.size + 1 + 1, 0, none⟩ = some (.int .i64 0) := hN1.cell 0; have hfz := hN1.free 0; have hbel1 := below_then hbel hb1))
          go_roundw
          case rel => exact ⟨0 + 1, _, by omega, by omega, rfl, Blk.far hS1.out (by omega) _, by have := Blk.stored hN1 0 (.int .i64 (len4 zs p room)); rw [row_one0 HE.out] at this; exact this, Blk.far hR1.out (by omega) _, below_set hbel1 (by omega) _⟩
          case measure => simp [intOf]
    · obtain rfl : z = 1 := by omega
      clear hz'
      cases b with
      | false =>
        · have HE : Hid (ab false (len4 zs (p + 1) room) = len4 zs (p + 1) room) := rfl
          go_wp2_with (first | (refine wpList_load_row rfl 35 _ rfl w.heap.size rfl 35 (sty zs) (0, 0) _ hS Tryz.underlying35 rfl HSZ.out ?_) | (go_at_call 136; refine (length_calls _ _ _ _ hz (by omega) (by omega)).mono ?_; rintro e w1 ⟨rfl, hb1⟩; have hl1 := hb1.size; have hS1 := Lib.hid (hS.below hb1 hS.lt); have hN1 := hN.below hb1 hN.lt; have hR1 := Lib.hid (hR.below hb1 hR.lt); have hsc : w1.cell? ⟨w.heap.size + 1 + 1, 1, none⟩ = some (.int .i64 0) := hN1.cell 1; have hfz := hN1.free 1; have hbel1 := below_then hbel hb1))
          go_roundw
          case rel => exact ⟨1 + 1, _, by omega, by omega, rfl, Blk.far hS1.out (by omega) _, by have := Blk.stored hN1 1 (.int .i64 (len4 zs (p + 1) room)); rw [row_one1 HE.out] at this; exact this, Blk.far hR1.out (by omega) _, below_set hbel1 (by omega) _⟩
          case measure => simp [intOf]
      | true =>
        by_cases hneg : len4 zs (p + 1) room < 0
        · have HE : Hid (ab true (len4 zs (p + 1) room) = 0) := by show max 0 _ = _; omega
          go_wp2_with (first | (refine wpList_load_row rfl 35 _ rfl w.heap.size rfl 35 (sty zs) (0, 0) _ hS Tryz.underlying35 rfl HSZ.out ?_) | (go_at_call 136; refine (length_calls _ _ _ _ hz (by omega) (by omega)).mono ?_; rintro e w1 ⟨rfl, hb1⟩; have hl1 := hb1.size; have hS1 := Lib.hid (hS.below hb1 hS.lt); have hN1 := hN.below hb1 hN.lt; have hR1 := Lib.hid (hR.below hb1 hR.lt); have hsc : w1.cell? ⟨w.heap.size + 1 + 1, 1, none⟩ = some (.int .i64 0) := hN1.cell 1; have hfz := hN1.free 1; have hbel1 := below_then hbel hb1))
          go_roundw
          case rel => exact ⟨1 + 1, _, by omega, by omega, rfl, Blk.far (Blk.far hS1.out (by omega) _) (by omega) _, by have := Blk.stored (Blk.stored hN1 1 (.int .i64 (len4 zs (p + 1) room))) 1 (.int .i64 0); rw [row_two1 _ HE.out] at this; exact this, Blk.far (Blk.far hR1.out (by omega) _) (by omega) _, below_set (below_set hbel1 (by omega) _) (by omega) _⟩
          case measure => simp [intOf]
        · have HE : Hid (ab true (len4 zs (p + 1) room) = len4 zs (p + 1) room) := by show max 0 _ = _; omega
          go_wp2_with (first | (refine wpList_load_row rfl 35 _ rfl w.heap.size rfl 35 (sty zs) (0, 0) _ hS Tryz.underlying35 rfl HSZ.out ?_) | (go_at_call 136; refine (length_calls _ _ _ _ hz (by omega) (by omega)).mono ?_; rintro e w1 ⟨rfl, hb1⟩; have hl1 := hb1.size; have hS1 := Lib.hid (hS.below hb1 hS.lt); have hN1 := hN.below hb1 hN.lt; have hR1 := Lib.hid (hR.below hb1 hR.lt); have hsc : w1.cell? ⟨w.heap.size + 1 + 1, 1, none⟩ = some (.int .i64 0) := hN1.cell 1; have hfz := hN1.free 1; have hbel1 := below_then hbel hb1))
          go_roundw
          case rel => exact ⟨1 + 1, _, by omega, by omega, rfl, Blk.far hS1.out (by omega) _, by have := Blk.stored hN1 1 (.int .i64 (len4 zs (p + 1) room)); rw [row_one1 HE.out] at this; exact this, Blk.far hR1.out (by omega) _, below_set hbel1 (by omega) _⟩
          case measure => simp [intOf]
    · obtain rfl : z = 2 := by omega
      clear hz'
      cases b with
      | false =>
        · have HE : Hid (ab false (len4 zs (p + 2) room) = len4 zs (p + 2) room) := rfl
          go_wp2_with (first | (refine wpList_load_row rfl 35 _ rfl w.heap.size rfl 35 (sty zs) (0, 0) _ hS Tryz.underlying35 rfl HSZ.out ?_) | (go_at_call 136; refine (length_calls _ _ _ _ hz (by omega) (by omega)).mono ?_; rintro e w1 ⟨rfl, hb1⟩; have hl1 := hb1.size; have hS1 := Lib.hid (hS.below hb1 hS.lt); have hN1 := hN.below hb1 hN.lt; have hR1 := Lib.hid (hR.below hb1 hR.lt); have hsc : w1.cell? ⟨w.heap.size + 1 + 1, 2, none⟩ = some (.int .i64 0) := hN1.cell 2; have hfz := hN1.free 2; have hbel1 := below_then hbel hb1))
          go_roundw
          case rel => exact ⟨2 + 1, _, by omega, by omega, rfl, Blk.far hS1.out (by omega) _, by have := Blk.stored hN1 2 (.int .i64 (len4 zs (p + 2) room)); rw [row_one2 HE.out] at this; exact this, Blk.far hR1.out (by omega) _, below_set hbel1 (by omega) _⟩
          case measure => simp [intOf]
      | true =>
        by_cases hneg : len4 zs (p + 2) room < 0
        · have HE : Hid (ab true (len4 zs (p + 2) room) = 0) := by show max 0 _ = _; omega
          go_wp2_with (first | (refine wpList_load_row rfl 35 _ rfl w.heap.size rfl 35 (sty zs) (0, 0) _ hS Tryz.underlying35 rfl HSZ.out ?_) | (go_at_call 136; refine (length_calls _ _ _ _ hz (by omega) (by omega)).mono ?_; rintro e w1 ⟨rfl, hb1⟩; have hl1 := hb1.size; have hS1 := Lib.hid (hS.below hb1 hS.lt); have hN1 := hN.below hb1 hN.lt; have hR1 := Lib.hid (hR.below hb1 hR.lt); have hsc : w1.cell? ⟨w.heap.size + 1 + 1, 2, none⟩ = some (.int .i64 0) := hN1.cell 2; have hfz := hN1.free 2; have hbel1 := below_then hbel hb1))
          go_roundw
          case rel => exact ⟨2 + 1, _, by omega, by omega, rfl, Blk.far (Blk.far hS1.out (by omega) _) (by omega) _, by have := Blk.stored (Blk.stored hN1 2 (.int .i64 (len4 zs (p + 2) room))) 2 (.int .i64 0); rw [row_two2 _ HE.out] at this; exact this, Blk.far (Blk.far hR1.out (by omega) _) (by omega) _, below_set (below_set hbel1 (by omega) _) (by omega) _⟩
          case measure => simp [intOf]
        · have HE : Hid (ab true (len4 zs (p + 2) room) = len4 zs (p + 2) room) := by show max 0 _ = _; omega
          go_wp2_with (first | (refine wpList_load_row rfl 35 _ rfl w.heap.size rfl 35 (sty zs) (0, 0) _ hS Tryz.underlying35 rfl HSZ.out ?_) | (go_at_call 136; refine (length_calls _ _ _ _ hz (by omega) (by omega)).mono ?_; rintro e w1 ⟨rfl, hb1⟩; have hl1 := hb1.size; have hS1 := Lib.hid (hS.below hb1 hS.lt); have hN1 := hN.below hb1 hN.lt; have hR1 := Lib.hid (hR.below hb1 hR.lt); have hsc : w1.cell? ⟨w.heap.size + 1 + 1, 2, none⟩ = some (.int .i64 0) := hN1.cell 2; have hfz := hN1.free 2; have hbel1 := below_then hbel hb1))
          go_roundw
          case rel => exact ⟨2 + 1, _, by omega, by omega, rfl, Blk.far hS1.out (by omega) _, by have := Blk.stored hN1 2 (.int .i64 (len4 zs (p + 2) room)); rw [row_one2 HE.out] at this; exact this, Blk.far hR1.out (by omega) _, below_set hbel1 (by omega) _⟩
          case measure => simp [intOf]
    · obtain rfl : z = 3 := by omega
      clear hz'
      cases b with
      | false =>
        · have HE : Hid (ab false (len4 zs (p + 3) room) = len4 zs (p + 3) room) := rfl
          go_wp2_with (first | (refine wpList_load_row rfl 35 _ rfl w.heap.size rfl 35 (sty zs) (0, 0) _ hS Tryz.underlying35 rfl HSZ.out ?_) | (go_at_call 136; refine (length_calls _ _ _ _ hz (by omega) (by omega)).mono ?_; rintro e w1 ⟨rfl, hb1⟩; have hl1 := hb1.size; have hS1 := Lib.hid (hS.below hb1 hS.lt); have hN1 := hN.below hb1 hN.lt; have hR1 := Lib.hid (hR.below hb1 hR.lt); have hsc : w1.cell? ⟨w.heap.size + 1 + 1, 3, none⟩ = some (.int .i64 0) := hN1.cell 3; have hfz := hN1.free 3; have hbel1 := below_then hbel hb1))
          go_roundw
          case rel => exact ⟨3 + 1, _, by omega, by omega, rfl, Blk.far hS1.out (by omega) _, by have := Blk.stored hN1 3 (.int .i64 (len4 zs (p + 3) room)); rw [row_one3 HE.out] at this; exact this, Blk.far hR1.out (by omega) _, below_set hbel1 (by omega) _⟩
          case measure => simp [intOf]
      | true =>
        by_cases hneg : len4 zs (p + 3) room < 0
        · have HE : Hid (ab true (len4 zs (p + 3) room) = 0) := by show max 0 _ = _; omega
          go_wp2_with (first | (refine wpList_load_row rfl 35 _ rfl w.heap.size rfl 35 (sty zs) (0, 0) _ hS Tryz.underlying35 rfl HSZ.out ?_) | (go_at_call 136; refine (length_calls _ _ _ _ hz (by omega) (by omega)).mono ?_; rintro e w1 ⟨rfl, hb1⟩; have hl1 := hb1.size; have hS1 := Lib.hid (hS.below hb1 hS.lt); have hN1 := hN.below hb1 hN.lt; have hR1 := Lib.hid (hR.below hb1 hR.lt); have hsc : w1.cell? ⟨w.heap.size + 1 + 1, 3, none⟩ = some (.int .i64 0) := hN1.cell 3; have hfz := hN1.free 3; have hbel1 := below_then hbel hb1))
          go_roundw
          case rel => exact ⟨3 + 1, _, by omega, by omega, rfl, Blk.far (Blk.far hS1.out (by omega) _) (by omega) _, by have := Blk.stored (Blk.stored hN1 3 (.int .i64 (len4 zs (p + 3) room))) 3 (.int .i64 0); rw [row_two3 _ HE.out] at this; exact this, Blk.far (Blk.far hR1.out (by omega) _) (by omega) _, below_set (below_set hbel1 (by omega) _) (by omega) _⟩
          case measure => simp [intOf]
        · have HE : Hid (ab true (len4 zs (p + 3) room) = len4 zs (p + 3) room) := by show max 0 _ = _; omega
          go_wp2_with (first | (refine wpList_load_row rfl 35 _ rfl w.heap.size rfl 35 (sty zs) (0, 0) _ hS Tryz.underlying35 rfl HSZ.out ?_) | (go_at_call 136; refine (length_calls _ _ _ _ hz (by omega) (by omega)).mono ?_; rintro e w1 ⟨rfl, hb1⟩; have hl1 := hb1.size; have hS1 := Lib.hid (hS.below hb1 hS.lt); have hN1 := hN.below hb1 hN.lt; have hR1 := Lib.hid (hR.below hb1 hR.lt); have hsc : w1.cell? ⟨w.heap.size + 1 + 1, 3, none⟩ = some (.int .i64 0) := hN1.cell 3; have hfz := hN1.free 3; have hbel1 := below_then hbel hb1))
          go_roundw
          case rel => exact ⟨3 + 1, _, by omega, by omega, rfl, Blk.far hS1.out (by omega) _, by have := Blk.stored hN1 3 (.int .i64 (len4 zs (p + 3) room)); rw [row_one3 HE.out] at this; exact this, Blk.far hR1.out (by omega) _, below_set hbel1 (by omega) _⟩
          case measure => simp [intOf]
    · obtain rfl : z = 4 := by omega
      clear hz'
      have r0 : wr.cell? ⟨w.heap.size + 1 + 1, 0, none⟩ = some (.int .i64 (ab b (len4 zs p room))) := hN.cell 0
      have r1 : wr.cell? ⟨w.heap.size + 1 + 1, 1, none⟩ = some (.int .i64 (ab b (len4 zs (p + 1) room))) := hN.cell 1
      have r2 : wr.cell? ⟨w.heap.size + 1 + 1, 2, none⟩ = some (.int .i64 (ab b (len4 zs (p + 2) room))) := hN.cell 2
      have r3 : wr.cell? ⟨w.heap.size + 1 + 1, 3, none⟩ = some (.int .i64 (ab b (len4 zs (p + 3) room))) := hN.cell 3
      have q0 : wr.cell? ⟨w.heap.size + 1, 0, none⟩ = some (.int .i64 0) := hR.cell 0
      have f0 := hR.free 0
      have q1 : wr.cell? ⟨w.heap.size + 1, 1, none⟩ = some (.int .i64 0) := hR.cell 1
      have f1 := hR.free 1
      have q2 : wr.cell? ⟨w.heap.size + 1, 2, none⟩ = some (.int .i64 0) := hR.cell 2
      have f2 := hR.free 2
      have q3 : wr.cell? ⟨w.heap.size + 1, 3, none⟩ = some (.int .i64 0) := hR.cell 3
      have f3 := hR.free 3
      go_wp2_with fail
      have hB := (((hR.stored 0 (.int .i64 (ab b (len4 zs p room)))).stored 1 (.int .i64 (ab b (len4 zs (p + 1) room)))).stored 2 (.int .i64 (ab b (len4 zs (p + 2) room)))).stored 3 (.int .i64 (ab b (len4 zs (p + 3) room)))
      exact bodyPost_ret (v := .agg #[.int .i64 (ab b (len4 zs p room)), .int .i64 (ab b (len4 zs (p + 1) room)), .int .i64 (ab b (len4 zs (p + 2) room)), .int .i64 (ab b (len4 zs (p + 3) room))]) (results_cell_row Tryz.results80 _ _ (w.heap.size + 1) 141 _ (0, 0) _ rfl hB Tryz.underlying141 rfl (by kernel_rfl)) rfl ⟨rfl, below_set (below_set (below_set (below_set hbel (by omega) _) (by omega) _) (by omega) _) (by omega) _⟩
end Go.Proofs.YtkmmlcnoeeaekaaGreatDoor
