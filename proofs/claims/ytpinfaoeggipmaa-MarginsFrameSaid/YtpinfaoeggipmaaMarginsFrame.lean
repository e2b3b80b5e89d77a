/- The walk of MarginsFrame. -/
import Derived.Test.YtpinfaoeggipmaaFrame
import Derived.Test.YtpinfaoeggipmaaMeet
import Derived.Deep.RegionHeld3
namespace Go.Proofs.Ytpinfaoeggipmaa
open Go.RowKit
set_option linter.unusedVariables false
set_option linter.unusedSimpArgs false
attribute [local go_sem high] run_min2 run_max2

set_option maxRecDepth 100000 in
set_option maxHeartbeats 3000000 in
theorem marginsFrame_calls (zs : List Int) (p0 p1 p2 p3 room : Int) (W : World) (hz : zs.length = 118) :
    Calls Try.prog 7 #[.agg (sty zs), .agg #[.int .i64 p0, .int .i64 p1, .int .i64 p2, .int .i64 p3], .int .i64 room] W fun e w' => e = .returned (.bool true) ∧ Below W.heap.size W w' := by
  have HSZ : Hid ((Try.prog.info? 38).map (·.size) = some (sty zs).size) := by show _ = _; rw [sty_size, hz]; kernel_rfl
  have b0 := (Blk.new W 38 (sty zs)).alloc (.cells #[.int .i64 p0, .int .i64 p1, .int .i64 p2, .int .i64 p3] 39)
  have b1 := Blk.new (W.alloc (.cells (sty zs) 38)) 39 #[.int .i64 p0, .int .i64 p1, .int .i64 p2, .int .i64 p3]
  simp only [alloc_size] at b1
  have hq : ∀ a b c d, quad a b c d = #[.int .i64 a, .int .i64 b, .int .i64 c, .int .i64 d] := fun _ _ _ _ => rfl
  have hf : ∀ b z p r, four b z p r = #[.int .i64 (ab b (len4 z p r)), .int .i64 (ab b (len4 z (p + 1) r)), .int .i64 (ab b (len4 z (p + 2) r)), .int .i64 (ab b (len4 z (p + 3) r))] := fun _ _ _ _ => rfl
  have hbel := below_alloc (below_alloc (Below.refl _ W) (.cells (sty zs) 38)) (.cells #[.int .i64 p0, .int .i64 p1, .int .i64 p2, .int .i64 p3] 39)
  have a0 : (W.alloc (.cells (sty zs) 38)).heap.size = W.heap.size + 1 := alloc_size _ _
  have c10 : ∀ w, Blk w (W.heap.size + 1) 39 #[.int .i64 p0, .int .i64 p1, .int .i64 p2, .int .i64 p3] → True := fun _ _ => trivial
  clear a0 c10
  go_enter Try.func7, Try.ntmps7
  go_wp2_with (first | (refine wpList_load_row rfl 38 _ rfl W.heap.size rfl 38 (sty zs) (0, 0) _ ?_ Try.underlying38 rfl HSZ.out ?_; (· repeat (first | exact b0 | refine Blk.alloc ?_ _))))
  refine (frame_calls _ _ _ hz).mono ?_
  rintro e w1 ⟨rfl, hb1⟩
  have b0 := b0.below hb1 b0.lt
  have b1 := b1.below hb1 b1.lt
  have hlt1 := b1.lt
  have hlt2 : W.heap.size < w1.heap.size := by omega
  have hlt3 : W.heap.size < w1.heap.size + 1 := by omega
  have hlt4 : W.heap.size + 1 < w1.heap.size + 1 := by omega
  have hlt5 : W.heap.size + 1 < w1.heap.size + 1 + 1 := by omega
  have k0 : w1.cell? ⟨W.heap.size + 1, 0, none⟩ = some (.int .i64 p0) := b1.cell 0
  have k1 : w1.cell? ⟨W.heap.size + 1, 1, none⟩ = some (.int .i64 p1) := b1.cell 1
  have k2 : w1.cell? ⟨W.heap.size + 1, 2, none⟩ = some (.int .i64 p2) := b1.cell 2
  have k3 : w1.cell? ⟨W.heap.size + 1, 3, none⟩ = some (.int .i64 p3) := b1.cell 3
  have hbel := below_then hbel hb1
  go_wp2_with (first | (refine wpList_load_row rfl 38 _ rfl W.heap.size rfl 38 (sty zs) (0, 0) _ ?_ Try.underlying38 rfl HSZ.out ?_; (· repeat (first | exact b0 | refine Blk.alloc ?_ _))))
  refine (edges_calls _ _ _ _ _ _ _ hz).mono ?_
  rintro e w2 ⟨rfl, hb2⟩
  have m7 := ((Blk.new w1 41 #[.int .i64 (ab false (len4 zs 11 room)), .int .i64 (ab false (len4 zs 12 room)), .int .i64 (ab false (len4 zs 13 room)), .int .i64 (ab false (len4 zs 14 room))]).alloc (.cells #[.int .i64 (ab true (len4 zs 19 room)), .int .i64 (ab true (len4 zs 20 room)), .int .i64 (ab true (len4 zs 21 room)), .int .i64 (ab true (len4 zs 22 room))] 41)).alloc (.cells #[.int .i64 (ab true (len4 zs 15 room)), .int .i64 (ab true (len4 zs 16 room)), .int .i64 (ab true (len4 zs 17 room)), .int .i64 (ab true (len4 zs 18 room))] 41)
  have m8 := (Blk.new (w1.alloc (.cells #[.int .i64 (ab false (len4 zs 11 room)), .int .i64 (ab false (len4 zs 12 room)), .int .i64 (ab false (len4 zs 13 room)), .int .i64 (ab false (len4 zs 14 room))] 41)) 41 #[.int .i64 (ab true (len4 zs 19 room)), .int .i64 (ab true (len4 zs 20 room)), .int .i64 (ab true (len4 zs 21 room)), .int .i64 (ab true (len4 zs 22 room))]).alloc (.cells #[.int .i64 (ab true (len4 zs 15 room)), .int .i64 (ab true (len4 zs 16 room)), .int .i64 (ab true (len4 zs 17 room)), .int .i64 (ab true (len4 zs 18 room))] 41)
  have m9 := Blk.new ((w1.alloc (.cells #[.int .i64 (ab false (len4 zs 11 room)), .int .i64 (ab false (len4 zs 12 room)), .int .i64 (ab false (len4 zs 13 room)), .int .i64 (ab false (len4 zs 14 room))] 41)).alloc (.cells #[.int .i64 (ab true (len4 zs 19 room)), .int .i64 (ab true (len4 zs 20 room)), .int .i64 (ab true (len4 zs 21 room)), .int .i64 (ab true (len4 zs 22 room))] 41)) 41 #[.int .i64 (ab true (len4 zs 15 room)), .int .i64 (ab true (len4 zs 16 room)), .int .i64 (ab true (len4 zs 17 room)), .int .i64 (ab true (len4 zs 18 room))]
  simp only [alloc_size] at m8 m9
  have b0 := (((b0.alloc (.cells #[.int .i64 (ab false (len4 zs 11 room)), .int .i64 (ab false (len4 zs 12 room)), .int .i64 (ab false (len4 zs 13 room)), .int .i64 (ab false (len4 zs 14 room))] 41)).alloc (.cells #[.int .i64 (ab true (len4 zs 19 room)), .int .i64 (ab true (len4 zs 20 room)), .int .i64 (ab true (len4 zs 21 room)), .int .i64 (ab true (len4 zs 22 room))] 41)).alloc (.cells #[.int .i64 (ab true (len4 zs 15 room)), .int .i64 (ab true (len4 zs 16 room)), .int .i64 (ab true (len4 zs 17 room)), .int .i64 (ab true (len4 zs 18 room))] 41)).below hb2 (by simp; omega)
  have b1 := (((b1.alloc (.cells #[.int .i64 (ab false (len4 zs 11 room)), .int .i64 (ab false (len4 zs 12 room)), .int .i64 (ab false (len4 zs 13 room)), .int .i64 (ab false (len4 zs 14 room))] 41)).alloc (.cells #[.int .i64 (ab true (len4 zs 19 room)), .int .i64 (ab true (len4 zs 20 room)), .int .i64 (ab true (len4 zs 21 room)), .int .i64 (ab true (len4 zs 22 room))] 41)).alloc (.cells #[.int .i64 (ab true (len4 zs 15 room)), .int .i64 (ab true (len4 zs 16 room)), .int .i64 (ab true (len4 zs 17 room)), .int .i64 (ab true (len4 zs 18 room))] 41)).below hb2 (by simp; omega)
  have m7 := m7.below hb2 m7.lt
  have m8 := m8.below hb2 m8.lt
  have m9 := m9.below hb2 m9.lt
  have hlt1 := m9.lt
  have n2 : W.heap.size + 1 < w2.heap.size := by omega
  have n3 : W.heap.size + 1 < w2.heap.size + 1 := by omega
  have n4 : W.heap.size < w2.heap.size := by omega
  have k0 : w2.cell? ⟨W.heap.size + 1, 0, none⟩ = some (.int .i64 p0) := b1.cell 0
  have k1 : w2.cell? ⟨W.heap.size + 1, 1, none⟩ = some (.int .i64 p1) := b1.cell 1
  have k2 : w2.cell? ⟨W.heap.size + 1, 2, none⟩ = some (.int .i64 p2) := b1.cell 2
  have k3 : w2.cell? ⟨W.heap.size + 1, 3, none⟩ = some (.int .i64 p3) := b1.cell 3
  have hbel := below_then (below_alloc (below_alloc (below_alloc hbel _) _) _) hb2
  have ix : ∀ (q0 q1 q2 q3 : Int) w, (Instr.index 39 (.agg #[.int .i64 q0, .int .i64 q1, .int .i64 q2, .int .i64 q3]) (.int .i64 0)).run Try.prog w = .ok (.int .i64 q0) w ∧ (Instr.index 39 (.agg #[.int .i64 q0, .int .i64 q1, .int .i64 q2, .int .i64 q3]) (.int .i64 1)).run Try.prog w = .ok (.int .i64 q1) w ∧ (Instr.index 39 (.agg #[.int .i64 q0, .int .i64 q1, .int .i64 q2, .int .i64 q3]) (.int .i64 2)).run Try.prog w = .ok (.int .i64 q2) w ∧ (Instr.index 39 (.agg #[.int .i64 q0, .int .i64 q1, .int .i64 q2, .int .i64 q3]) (.int .i64 3)).run Try.prog w = .ok (.int .i64 q3) w := fun q0 q1 q2 q3 w => ⟨by kernel_rfl, by kernel_rfl, by kernel_rfl, by kernel_rfl⟩
  have i0 := fun q0 q1 q2 q3 w => (ix q0 q1 q2 q3 w).1
  have i1 := fun q0 q1 q2 q3 w => (ix q0 q1 q2 q3 w).2.1
  have i2 := fun q0 q1 q2 q3 w => (ix q0 q1 q2 q3 w).2.2.1
  have i3 := fun q0 q1 q2 q3 w => (ix q0 q1 q2 q3 w).2.2.2
  clear ix
  go_wp2_with fail
  go_loopw [26] (fun i wr => ∃ (k : Nat) (z : Int), k ≤ 4 ∧ z = k ∧ i = .int .i64 z ∧ StyAt wr W.heap.size zs ∧ Blk wr (w2.heap.size + 1) 39 (edgeRow (len4 zs p0 room) (len4 zs p1 room) (len4 zs p2 room) (len4 zs p3 room) k) ∧ Blk wr w1.heap.size 41 #[.int .i64 (ab false (len4 zs 11 room)), .int .i64 (ab false (len4 zs 12 room)), .int .i64 (ab false (len4 zs 13 room)), .int .i64 (ab false (len4 zs 14 room))] ∧ Blk wr (w1.heap.size + 1) 41 #[.int .i64 (ab true (len4 zs 19 room)), .int .i64 (ab true (len4 zs 20 room)), .int .i64 (ab true (len4 zs 21 room)), .int .i64 (ab true (len4 zs 22 room))] ∧ Blk wr (w1.heap.size + 1 + 1) 41 #[.int .i64 (ab true (len4 zs 15 room)), .int .i64 (ab true (len4 zs 16 room)), .int .i64 (ab true (len4 zs 17 room)), .int .i64 (ab true (len4 zs 18 room))] ∧ Blk wr w2.heap.size 41 #[.int .i64 (len4 zs p0 room), .int .i64 (len4 zs p1 room), .int .i64 (len4 zs p2 room), .int .i64 (len4 zs p3 room)] ∧ Below W.heap.size W wr) (fun i _ => 4 - (intOf i).toNat)
  case atStart =>
    have d0 := (Blk.new w2 41 #[.int .i64 (len4 zs p0 room), .int .i64 (len4 zs p1 room), .int .i64 (len4 zs p2 room), .int .i64 (len4 zs p3 room)]).alloc (.cells #[.int .i64 0, .int .i64 0, .int .i64 0, .int .i64 0] 39)
    have d1 := Blk.new (w2.alloc (.cells #[.int .i64 (len4 zs p0 room), .int .i64 (len4 zs p1 room), .int .i64 (len4 zs p2 room), .int .i64 (len4 zs p3 room)] 41)) 39 #[.int .i64 0, .int .i64 0, .int .i64 0, .int .i64 0]
    simp only [alloc_size] at d1
    exact ⟨0, 0, by omega, rfl, rfl, (b0.alloc _).alloc _, d1, (m7.alloc _).alloc _, (m8.alloc _).alloc _, (m9.alloc _).alloc _, d0, below_alloc (below_alloc hbel _) _⟩
  case round =>
    clear b0 b1 m7 m8 m9 k0 k1 k2 k3 hb1 hb2
    obtain ⟨k, z, hk, hz', rfl, hS, hN, h7, h8, h9, h10, hbr⟩ := hrel
    have hl := hN.lt
    have hk' : k = 0 ∨ k = 1 ∨ k = 2 ∨ k = 3 ∨ k = 4 := by omega
    rcases hk' with rfl | rfl | rfl | rfl | rfl
    · obtain rfl : z = 0 := by omega
      clear hz'
      have hsc : wr.cell? ⟨w2.heap.size + 1, 0, none⟩ = some (.int .i64 0) := hN.cell 0
      have hfz := hN.free 0
      by_cases hp : 0 ≤ p0 ∧ p0 < 59
      · obtain ⟨m, hm⟩ : ∃ m : Nat, p0 = m := ⟨p0.toNat, by omega⟩
        obtain ⟨c0, c1⟩ := StyAt.cells hS hz (p := m) (by omega)
        have HE : Hid (len4 zs p0 room = ofN (stK zs m) (stN zs m) room) := by show _ = _; unfold len4; rw [if_pos hp, hm]; simp
        have hp1 := hp.1
        have hp2 := hp.2
        subst hm
        go_wp2_with (first | (go_at_call 26; refine (rof_calls _ _ _ _).mono ?_; rintro e w' ⟨rfl, rfl⟩))
        go_roundw
        case rel => exact ⟨0 + 1, _, by omega, by omega, rfl, (Blk.far hS (by omega) _).alloc _, by have := (Blk.stored hN 0 (.int .i64 (ofN (stK zs m) (stN zs m) room))).alloc (.cells #[.int .i64 (stK zs m), .int .i64 (stN zs m)] 30); rw [row_one0 HE.out] at this; exact this, (Blk.far h7 (by omega) _).alloc _, (Blk.far h8 (by omega) _).alloc _, (Blk.far h9 (by omega) _).alloc _, (Blk.far h10 (by omega) _).alloc _, below_alloc (below_set hbr (by omega) _) _⟩
        case measure => simp [intOf]
      · have HE : Hid (len4 zs p0 room = 0) := by show _ = _; unfold len4; rw [if_neg hp]
        by_cases hp0 : 0 ≤ p0
        · have hp1 : ¬ p0 < 59 := by omega
          go_wp2_with fail
          go_roundw
          case rel => exact ⟨0 + 1, _, by omega, by omega, rfl, hS, by have := hN; rw [show (edgeRow (len4 zs p0 room) (len4 zs p1 room) (len4 zs p2 room) (len4 zs p3 room) (0 + 1)) = (edgeRow (len4 zs p0 room) (len4 zs p1 room) (len4 zs p2 room) (len4 zs p3 room) 0) from by simp [edgeRow, HE.out]]; exact this, h7, h8, h9, h10, hbr⟩
          case measure => simp [intOf]
        · go_wp2_with fail
          go_roundw
          case rel => exact ⟨0 + 1, _, by omega, by omega, rfl, hS, by have := hN; rw [show (edgeRow (len4 zs p0 room) (len4 zs p1 room) (len4 zs p2 room) (len4 zs p3 room) (0 + 1)) = (edgeRow (len4 zs p0 room) (len4 zs p1 room) (len4 zs p2 room) (len4 zs p3 room) 0) from by simp [edgeRow, HE.out]]; exact this, h7, h8, h9, h10, hbr⟩
          case measure => simp [intOf]
    · obtain rfl : z = 1 := by omega
      clear hz'
      have hsc : wr.cell? ⟨w2.heap.size + 1, 1, none⟩ = some (.int .i64 0) := hN.cell 1
      have hfz := hN.free 1
      by_cases hp : 0 ≤ p1 ∧ p1 < 59
      · obtain ⟨m, hm⟩ : ∃ m : Nat, p1 = m := ⟨p1.toNat, by omega⟩
        obtain ⟨c0, c1⟩ := StyAt.cells hS hz (p := m) (by omega)
        have HE : Hid (len4 zs p1 room = ofN (stK zs m) (stN zs m) room) := by show _ = _; unfold len4; rw [if_pos hp, hm]; simp
        have hp1 := hp.1
        have hp2 := hp.2
        subst hm
        go_wp2_with (first | (go_at_call 26; refine (rof_calls _ _ _ _).mono ?_; rintro e w' ⟨rfl, rfl⟩))
        go_roundw
        case rel => exact ⟨1 + 1, _, by omega, by omega, rfl, (Blk.far hS (by omega) _).alloc _, by have := (Blk.stored hN 1 (.int .i64 (ofN (stK zs m) (stN zs m) room))).alloc (.cells #[.int .i64 (stK zs m), .int .i64 (stN zs m)] 30); rw [row_one1 HE.out] at this; exact this, (Blk.far h7 (by omega) _).alloc _, (Blk.far h8 (by omega) _).alloc _, (Blk.far h9 (by omega) _).alloc _, (Blk.far h10 (by omega) _).alloc _, below_alloc (below_set hbr (by omega) _) _⟩
        case measure => simp [intOf]
      · have HE : Hid (len4 zs p1 room = 0) := by show _ = _; unfold len4; rw [if_neg hp]
        by_cases hp0 : 0 ≤ p1
        · have hp1 : ¬ p1 < 59 := by omega
          go_wp2_with fail
          go_roundw
          case rel => exact ⟨1 + 1, _, by omega, by omega, rfl, hS, by have := hN; rw [show (edgeRow (len4 zs p0 room) (len4 zs p1 room) (len4 zs p2 room) (len4 zs p3 room) (1 + 1)) = (edgeRow (len4 zs p0 room) (len4 zs p1 room) (len4 zs p2 room) (len4 zs p3 room) 1) from by simp [edgeRow, HE.out]]; exact this, h7, h8, h9, h10, hbr⟩
          case measure => simp [intOf]
        · go_wp2_with fail
          go_roundw
          case rel => exact ⟨1 + 1, _, by omega, by omega, rfl, hS, by have := hN; rw [show (edgeRow (len4 zs p0 room) (len4 zs p1 room) (len4 zs p2 room) (len4 zs p3 room) (1 + 1)) = (edgeRow (len4 zs p0 room) (len4 zs p1 room) (len4 zs p2 room) (len4 zs p3 room) 1) from by simp [edgeRow, HE.out]]; exact this, h7, h8, h9, h10, hbr⟩
          case measure => simp [intOf]
    · obtain rfl : z = 2 := by omega
      clear hz'
      have hsc : wr.cell? ⟨w2.heap.size + 1, 2, none⟩ = some (.int .i64 0) := hN.cell 2
      have hfz := hN.free 2
      by_cases hp : 0 ≤ p2 ∧ p2 < 59
      · obtain ⟨m, hm⟩ : ∃ m : Nat, p2 = m := ⟨p2.toNat, by omega⟩
        obtain ⟨c0, c1⟩ := StyAt.cells hS hz (p := m) (by omega)
        have HE : Hid (len4 zs p2 room = ofN (stK zs m) (stN zs m) room) := by show _ = _; unfold len4; rw [if_pos hp, hm]; simp
        have hp1 := hp.1
        have hp2 := hp.2
        subst hm
        go_wp2_with (first | (go_at_call 26; refine (rof_calls _ _ _ _).mono ?_; rintro e w' ⟨rfl, rfl⟩))
        go_roundw
        case rel => exact ⟨2 + 1, _, by omega, by omega, rfl, (Blk.far hS (by omega) _).alloc _, by have := (Blk.stored hN 2 (.int .i64 (ofN (stK zs m) (stN zs m) room))).alloc (.cells #[.int .i64 (stK zs m), .int .i64 (stN zs m)] 30); rw [row_one2 HE.out] at this; exact this, (Blk.far h7 (by omega) _).alloc _, (Blk.far h8 (by omega) _).alloc _, (Blk.far h9 (by omega) _).alloc _, (Blk.far h10 (by omega) _).alloc _, below_alloc (below_set hbr (by omega) _) _⟩
        case measure => simp [intOf]
      · have HE : Hid (len4 zs p2 room = 0) := by show _ = _; unfold len4; rw [if_neg hp]
        by_cases hp0 : 0 ≤ p2
        · have hp1 : ¬ p2 < 59 := by omega
          go_wp2_with fail
          go_roundw
          case rel => exact ⟨2 + 1, _, by omega, by omega, rfl, hS, by have := hN; rw [show (edgeRow (len4 zs p0 room) (len4 zs p1 room) (len4 zs p2 room) (len4 zs p3 room) (2 + 1)) = (edgeRow (len4 zs p0 room) (len4 zs p1 room) (len4 zs p2 room) (len4 zs p3 room) 2) from by simp [edgeRow, HE.out]]; exact this, h7, h8, h9, h10, hbr⟩
          case measure => simp [intOf]
        · go_wp2_with fail
          go_roundw
          case rel => exact ⟨2 + 1, _, by omega, by omega, rfl, hS, by have := hN; rw [show (edgeRow (len4 zs p0 room) (len4 zs p1 room) (len4 zs p2 room) (len4 zs p3 room) (2 + 1)) = (edgeRow (len4 zs p0 room) (len4 zs p1 room) (len4 zs p2 room) (len4 zs p3 room) 2) from by simp [edgeRow, HE.out]]; exact this, h7, h8, h9, h10, hbr⟩
          case measure => simp [intOf]
    · obtain rfl : z = 3 := by omega
      clear hz'
      have hsc : wr.cell? ⟨w2.heap.size + 1, 3, none⟩ = some (.int .i64 0) := hN.cell 3
      have hfz := hN.free 3
      by_cases hp : 0 ≤ p3 ∧ p3 < 59
      · obtain ⟨m, hm⟩ : ∃ m : Nat, p3 = m := ⟨p3.toNat, by omega⟩
        obtain ⟨c0, c1⟩ := StyAt.cells hS hz (p := m) (by omega)
        have HE : Hid (len4 zs p3 room = ofN (stK zs m) (stN zs m) room) := by show _ = _; unfold len4; rw [if_pos hp, hm]; simp
        have hp1 := hp.1
        have hp2 := hp.2
        subst hm
        go_wp2_with (first | (go_at_call 26; refine (rof_calls _ _ _ _).mono ?_; rintro e w' ⟨rfl, rfl⟩))
        go_roundw
        case rel => exact ⟨3 + 1, _, by omega, by omega, rfl, (Blk.far hS (by omega) _).alloc _, by have := (Blk.stored hN 3 (.int .i64 (ofN (stK zs m) (stN zs m) room))).alloc (.cells #[.int .i64 (stK zs m), .int .i64 (stN zs m)] 30); rw [row_one3 HE.out] at this; exact this, (Blk.far h7 (by omega) _).alloc _, (Blk.far h8 (by omega) _).alloc _, (Blk.far h9 (by omega) _).alloc _, (Blk.far h10 (by omega) _).alloc _, below_alloc (below_set hbr (by omega) _) _⟩
        case measure => simp [intOf]
      · have HE : Hid (len4 zs p3 room = 0) := by show _ = _; unfold len4; rw [if_neg hp]
        by_cases hp0 : 0 ≤ p3
        · have hp1 : ¬ p3 < 59 := by omega
          go_wp2_with fail
          go_roundw
          case rel => exact ⟨3 + 1, _, by omega, by omega, rfl, hS, by have := hN; rw [show (edgeRow (len4 zs p0 room) (len4 zs p1 room) (len4 zs p2 room) (len4 zs p3 room) (3 + 1)) = (edgeRow (len4 zs p0 room) (len4 zs p1 room) (len4 zs p2 room) (len4 zs p3 room) 3) from by simp [edgeRow, HE.out]]; exact this, h7, h8, h9, h10, hbr⟩
          case measure => simp [intOf]
        · go_wp2_with fail
          go_roundw
          case rel => exact ⟨3 + 1, _, by omega, by omega, rfl, hS, by have := hN; rw [show (edgeRow (len4 zs p0 room) (len4 zs p1 room) (len4 zs p2 room) (len4 zs p3 room) (3 + 1)) = (edgeRow (len4 zs p0 room) (len4 zs p1 room) (len4 zs p2 room) (len4 zs p3 room) 3) from by simp [edgeRow, HE.out]]; exact this, h7, h8, h9, h10, hbr⟩
          case measure => simp [intOf]
    · obtain rfl : z = 4 := by omega
      clear hz'
      have KEEP : ∀ w', Below wr.heap.size wr w' → w'.rangeAt W.heap.size 0 (sty zs).toList ∧ w'.cell? ⟨w1.heap.size, 0, none⟩ = some (.int .i64 (ab false (len4 zs 11 room))) ∧ w'.cell? ⟨w1.heap.size, 1, none⟩ = some (.int .i64 (ab false (len4 zs 12 room))) ∧ w'.cell? ⟨w1.heap.size, 2, none⟩ = some (.int .i64 (ab false (len4 zs 13 room))) ∧ w'.cell? ⟨w1.heap.size, 3, none⟩ = some (.int .i64 (ab false (len4 zs 14 room))) ∧ w'.cell? ⟨w1.heap.size + 1, 0, none⟩ = some (.int .i64 (ab true (len4 zs 19 room))) ∧ w'.cell? ⟨w1.heap.size + 1, 1, none⟩ = some (.int .i64 (ab true (len4 zs 20 room))) ∧ w'.cell? ⟨w1.heap.size + 1, 2, none⟩ = some (.int .i64 (ab true (len4 zs 21 room))) ∧ w'.cell? ⟨w1.heap.size + 1, 3, none⟩ = some (.int .i64 (ab true (len4 zs 22 room))) ∧ w'.cell? ⟨w1.heap.size + 1 + 1, 0, none⟩ = some (.int .i64 (ab true (len4 zs 15 room))) ∧ w'.cell? ⟨w1.heap.size + 1 + 1, 1, none⟩ = some (.int .i64 (ab true (len4 zs 16 room))) ∧ w'.cell? ⟨w1.heap.size + 1 + 1, 2, none⟩ = some (.int .i64 (ab true (len4 zs 17 room))) ∧ w'.cell? ⟨w1.heap.size + 1 + 1, 3, none⟩ = some (.int .i64 (ab true (len4 zs 18 room))) ∧ w'.cell? ⟨w2.heap.size, 0, none⟩ = some (.int .i64 (len4 zs p0 room)) ∧ w'.cell? ⟨w2.heap.size, 1, none⟩ = some (.int .i64 (len4 zs p1 room)) ∧ w'.cell? ⟨w2.heap.size, 2, none⟩ = some (.int .i64 (len4 zs p2 room)) ∧ w'.cell? ⟨w2.heap.size, 3, none⟩ = some (.int .i64 (len4 zs p3 room)) ∧ w'.cell? ⟨w2.heap.size + 1, 0, none⟩ = some (.int .i64 (len4 zs p0 room)) ∧ w'.cell? ⟨w2.heap.size + 1, 1, none⟩ = some (.int .i64 (len4 zs p1 room)) ∧ w'.cell? ⟨w2.heap.size + 1, 2, none⟩ = some (.int .i64 (len4 zs p2 room)) ∧ w'.cell? ⟨w2.heap.size + 1, 3, none⟩ = some (.int .i64 (len4 zs p3 room)) := fun w' hbx => ⟨by have := World.rangeAt_of_block (w := w') ((hS.below hbx hS.lt)) 0 118; simpa [sty, List.take_of_length_le, hz] using this, (h7.below hbx h7.lt).cell 0, (h7.below hbx h7.lt).cell 1, (h7.below hbx h7.lt).cell 2, (h7.below hbx h7.lt).cell 3, (h8.below hbx h8.lt).cell 0, (h8.below hbx h8.lt).cell 1, (h8.below hbx h8.lt).cell 2, (h8.below hbx h8.lt).cell 3, (h9.below hbx h9.lt).cell 0, (h9.below hbx h9.lt).cell 1, (h9.below hbx h9.lt).cell 2, (h9.below hbx h9.lt).cell 3, (h10.below hbx h10.lt).cell 0, (h10.below hbx h10.lt).cell 1, (h10.below hbx h10.lt).cell 2, (h10.below hbx h10.lt).cell 3, (hN.below hbx hN.lt).cell 0, (hN.below hbx hN.lt).cell 1, (hN.below hbx hN.lt).cell 2, (hN.below hbx hN.lt).cell 3⟩
      have KEEP' := Lib.hid KEEP
      clear KEEP
      have hbx : Below wr.heap.size wr wr.drew := (Below.refl wr.heap.size wr).drew
      have hu := Try.underlying38
      have hlen : (Try.prog.info? 38).map (·.size) = some (sty zs).toList.length := by rw [Array.length_toList]; exact HSZ.out
      clear hS hN h7 h8 h9 h10
      go_wp2_with fail
      refine wp_region_noPanic ?_
      refine wp_region_held_drew (S := fun w' => w'.rangeAt W.heap.size 0 (sty zs).toList ∧ w'.cell? ⟨w1.heap.size, 0, none⟩ = some (.int .i64 (ab false (len4 zs 11 room))) ∧ w'.cell? ⟨w1.heap.size, 1, none⟩ = some (.int .i64 (ab false (len4 zs 12 room))) ∧ w'.cell? ⟨w1.heap.size, 2, none⟩ = some (.int .i64 (ab false (len4 zs 13 room))) ∧ w'.cell? ⟨w1.heap.size, 3, none⟩ = some (.int .i64 (ab false (len4 zs 14 room))) ∧ w'.cell? ⟨w1.heap.size + 1, 0, none⟩ = some (.int .i64 (ab true (len4 zs 19 room))) ∧ w'.cell? ⟨w1.heap.size + 1, 1, none⟩ = some (.int .i64 (ab true (len4 zs 20 room))) ∧ w'.cell? ⟨w1.heap.size + 1, 2, none⟩ = some (.int .i64 (ab true (len4 zs 21 room))) ∧ w'.cell? ⟨w1.heap.size + 1, 3, none⟩ = some (.int .i64 (ab true (len4 zs 22 room))) ∧ w'.cell? ⟨w1.heap.size + 1 + 1, 0, none⟩ = some (.int .i64 (ab true (len4 zs 15 room))) ∧ w'.cell? ⟨w1.heap.size + 1 + 1, 1, none⟩ = some (.int .i64 (ab true (len4 zs 16 room))) ∧ w'.cell? ⟨w1.heap.size + 1 + 1, 2, none⟩ = some (.int .i64 (ab true (len4 zs 17 room))) ∧ w'.cell? ⟨w1.heap.size + 1 + 1, 3, none⟩ = some (.int .i64 (ab true (len4 zs 18 room))) ∧ w'.cell? ⟨w2.heap.size, 0, none⟩ = some (.int .i64 (len4 zs p0 room)) ∧ w'.cell? ⟨w2.heap.size, 1, none⟩ = some (.int .i64 (len4 zs p1 room)) ∧ w'.cell? ⟨w2.heap.size, 2, none⟩ = some (.int .i64 (len4 zs p2 room)) ∧ w'.cell? ⟨w2.heap.size, 3, none⟩ = some (.int .i64 (len4 zs p3 room)) ∧ w'.cell? ⟨w2.heap.size + 1, 0, none⟩ = some (.int .i64 (len4 zs p0 room)) ∧ w'.cell? ⟨w2.heap.size + 1, 1, none⟩ = some (.int .i64 (len4 zs p1 room)) ∧ w'.cell? ⟨w2.heap.size + 1, 2, none⟩ = some (.int .i64 (len4 zs p2 room)) ∧ w'.cell? ⟨w2.heap.size + 1, 3, none⟩ = some (.int .i64 (len4 zs p3 room))) (by kernel_rfl) (KEEP'.out _ hbx) (fun hHeld => ?_)
      refine wpAnyH_ready (rs := [0]) (by kernel_rfl) (by simp) ?_
      refine AllReadyH.cons rfl (fun K hK => ?_) AllReadyH.nil
      go_simp
      refine (met_calls _).mono ?_
      rintro e wx ⟨rfl, hbz⟩
      have hbx := below_then hbx hbz
      refine hK.out _ _ (KEEP'.out _ hbx) (fun hHeld => ?_)
      clear hK K
      try simp only [Act.put, List.setIfInBounds_toArray, List.set_cons_zero, List.set_cons_succ]
      refine wpAnyH_take (i := 1) (oi := { dst := some 48, op := _, type := _, pos := _, after := _, guard := _ }) (v := ?_) rfl (by kernel_rfl) (by kernel_rfl) (by kernel_rfl) (fun _ _ _ h => h) (Or.inl ⟨by kernel_rfl, ?_⟩) (by assumption) ?_
      rotate_left 1
      · (intro w hSw; (try dsimp only at hSw); go_simp; try with_reducible rfl)
      try simp only [Act.put, List.setIfInBounds_toArray, List.set_cons_zero, List.set_cons_succ]
      refine wpAnyH_take (i := 2) (oi := { dst := some 49, op := _, type := _, pos := _, after := _, guard := _ }) (v := ?_) rfl (by kernel_rfl) (by kernel_rfl) (by kernel_rfl) (fun _ _ _ h => h) (Or.inl ⟨by kernel_rfl, ?_⟩) (by assumption) ?_
      rotate_left 1
      · (intro w hSw; (try dsimp only at hSw); go_simp; try with_reducible rfl)
      try simp only [Act.put, List.setIfInBounds_toArray, List.set_cons_zero, List.set_cons_succ]
      refine wpAnyH_take (i := 3) (oi := { dst := some 50, op := _, type := _, pos := _, after := _, guard := _ }) (v := _) rfl (by kernel_rfl) (by kernel_rfl) (by kernel_rfl) (fun _ _ _ h => h) (yieldsIf_load_mid (by kernel_rfl) _ _ rfl _ _ rfl _ _ (fun w hSw => by (try dsimp only at hSw); exact hSw.1) hu rfl hlen) (by assumption) ?_
      try simp only [Act.put, List.setIfInBounds_toArray, List.set_cons_zero, List.set_cons_succ]
      refine wpAnyH_take (i := 4) (oi := { dst := some 51, op := _, type := _, pos := _, after := _, guard := _ }) (v := ?_) rfl (by kernel_rfl) (by kernel_rfl) (by kernel_rfl) (fun _ _ _ h => h) (Or.inl ⟨by kernel_rfl, ?_⟩) (by assumption) ?_
      rotate_left 1
      · (intro w hSw; (try dsimp only at hSw); go_simp; try with_reducible rfl)
      try simp only [Act.put, List.setIfInBounds_toArray, List.set_cons_zero, List.set_cons_succ]
      refine wpAnyH_ready (rs := [5]) (by kernel_rfl) (by simp) ?_
      refine AllReadyH.cons rfl (fun K hK => ?_) AllReadyH.nil
      go_simp
      refine (redges_calls zs 11 room false _ hz (by omega) (by omega)).mono ?_
      rintro e wx ⟨rfl, hbz⟩
      have hbx := below_then hbx hbz
      refine hK.out _ _ (KEEP'.out _ hbx) (fun hHeld => ?_)
      clear hK K
      try simp only [Act.put, List.setIfInBounds_toArray, List.set_cons_zero, List.set_cons_succ]
      refine wpAnyH_take (i := 6) (oi := { dst := some 53, op := _, type := _, pos := _, after := _, guard := _ }) (v := ?_) rfl (by kernel_rfl) (by kernel_rfl) (by kernel_rfl) (fun _ _ _ h => h) (Or.inl ⟨by kernel_rfl, ?_⟩) (by assumption) ?_
      rotate_left 1
      · (intro w hSw; (try dsimp only at hSw); go_simp; try with_reducible rfl)
      try simp only [Act.put, List.setIfInBounds_toArray, List.set_cons_zero, List.set_cons_succ]
      refine wpAnyH_take (i := 7) (oi := { dst := some 54, op := _, type := _, pos := _, after := _, guard := _ }) (v := ?_) rfl (by kernel_rfl) (by kernel_rfl) (by kernel_rfl) (fun _ _ _ h => h) (Or.inl ⟨by kernel_rfl, ?_⟩) (by assumption) ?_
      rotate_left 1
      · (intro w hSw; (try dsimp only at hSw); go_simp; try with_reducible rfl)
      try simp only [Act.put, List.setIfInBounds_toArray, List.set_cons_zero, List.set_cons_succ]
      refine wpAnyH_take (i := 8) (oi := { dst := some 55, op := _, type := _, pos := _, after := _, guard := _ }) (v := ?_) rfl (by kernel_rfl) (by kernel_rfl) (by kernel_rfl) (fun _ _ _ h => h) (Or.inl ⟨by kernel_rfl, ?_⟩) (by assumption) ?_
      rotate_left 1
      · (intro w hSw; (try dsimp only at hSw); go_simp; try with_reducible rfl)
      try simp only [Act.put, List.setIfInBounds_toArray, List.set_cons_zero, List.set_cons_succ]
      refine wpAnyH_take (i := 9) (oi := { dst := some 56, op := _, type := _, pos := _, after := _, guard := _ }) (v := ?_) rfl (by kernel_rfl) (by kernel_rfl) (by kernel_rfl) (fun _ _ _ h => h) (Or.inl ⟨by kernel_rfl, ?_⟩) (by assumption) ?_
      rotate_left 1
      · (intro w hSw; (try dsimp only at hSw); go_simp; try with_reducible rfl)
      try simp only [Act.put, List.setIfInBounds_toArray, List.set_cons_zero, List.set_cons_succ]
      refine wpAnyH_take (i := 10) (oi := { dst := some 57, op := _, type := _, pos := _, after := _, guard := _ }) (v := _) rfl (by kernel_rfl) (by kernel_rfl) (by kernel_rfl) (fun _ _ _ h => h) (yieldsIf_load_mid (by kernel_rfl) _ _ rfl _ _ rfl _ _ (fun w hSw => by (try dsimp only at hSw); exact hSw.1) hu rfl hlen) (by assumption) ?_
      try simp only [Act.put, List.setIfInBounds_toArray, List.set_cons_zero, List.set_cons_succ]
      refine wpAnyH_take (i := 11) (oi := { dst := some 58, op := _, type := _, pos := _, after := _, guard := _ }) (v := ?_) rfl (by kernel_rfl) (by kernel_rfl) (by kernel_rfl) (fun _ _ _ h => h) (Or.inl ⟨by kernel_rfl, ?_⟩) (by assumption) ?_
      rotate_left 1
      · (intro w hSw; (try dsimp only at hSw); go_simp; try with_reducible rfl)
      try simp only [Act.put, List.setIfInBounds_toArray, List.set_cons_zero, List.set_cons_succ]
      refine wpAnyH_ready (rs := [12]) (by kernel_rfl) (by simp) ?_
      refine AllReadyH.cons rfl (fun K hK => ?_) AllReadyH.nil
      go_simp
      refine (redges_calls zs 19 room true _ hz (by omega) (by omega)).mono ?_
      rintro e wx ⟨rfl, hbz⟩
      have hbx := below_then hbx hbz
      refine hK.out _ _ (KEEP'.out _ hbx) (fun hHeld => ?_)
      clear hK K
      try simp only [Act.put, List.setIfInBounds_toArray, List.set_cons_zero, List.set_cons_succ]
      refine wpAnyH_take (i := 13) (oi := { dst := some 60, op := _, type := _, pos := _, after := _, guard := _ }) (v := ?_) rfl (by kernel_rfl) (by kernel_rfl) (by kernel_rfl) (fun _ _ _ h => h) (Or.inl ⟨by kernel_rfl, ?_⟩) (by assumption) ?_
      rotate_left 1
      · (intro w hSw; (try dsimp only at hSw); go_simp; try with_reducible rfl)
      try simp only [Act.put, List.setIfInBounds_toArray, List.set_cons_zero, List.set_cons_succ]
      refine wpAnyH_take (i := 14) (oi := { dst := some 61, op := _, type := _, pos := _, after := _, guard := _ }) (v := ?_) rfl (by kernel_rfl) (by kernel_rfl) (by kernel_rfl) (fun _ _ _ h => h) (Or.inl ⟨by kernel_rfl, ?_⟩) (by assumption) ?_
      rotate_left 1
      · (intro w hSw; (try dsimp only at hSw); go_simp; try with_reducible rfl)
      try simp only [Act.put, List.setIfInBounds_toArray, List.set_cons_zero, List.set_cons_succ]
      refine wpAnyH_take (i := 15) (oi := { dst := some 62, op := _, type := _, pos := _, after := _, guard := _ }) (v := ?_) rfl (by kernel_rfl) (by kernel_rfl) (by kernel_rfl) (fun _ _ _ h => h) (Or.inl ⟨by kernel_rfl, ?_⟩) (by assumption) ?_
      rotate_left 1
      · (intro w hSw; (try dsimp only at hSw); go_simp; try with_reducible rfl)
      try simp only [Act.put, List.setIfInBounds_toArray, List.set_cons_zero, List.set_cons_succ]
      refine wpAnyH_take (i := 16) (oi := { dst := some 63, op := _, type := _, pos := _, after := _, guard := _ }) (v := ?_) rfl (by kernel_rfl) (by kernel_rfl) (by kernel_rfl) (fun _ _ _ h => h) (Or.inl ⟨by kernel_rfl, ?_⟩) (by assumption) ?_
      rotate_left 1
      · (intro w hSw; (try dsimp only at hSw); go_simp; try with_reducible rfl)
      try simp only [Act.put, List.setIfInBounds_toArray, List.set_cons_zero, List.set_cons_succ]
      refine wpAnyH_take (i := 17) (oi := { dst := some 64, op := _, type := _, pos := _, after := _, guard := _ }) (v := _) rfl (by kernel_rfl) (by kernel_rfl) (by kernel_rfl) (fun _ _ _ h => h) (yieldsIf_load_mid (by kernel_rfl) _ _ rfl _ _ rfl _ _ (fun w hSw => by (try dsimp only at hSw); exact hSw.1) hu rfl hlen) (by assumption) ?_
      try simp only [Act.put, List.setIfInBounds_toArray, List.set_cons_zero, List.set_cons_succ]
      refine wpAnyH_take (i := 18) (oi := { dst := some 65, op := _, type := _, pos := _, after := _, guard := _ }) (v := ?_) rfl (by kernel_rfl) (by kernel_rfl) (by kernel_rfl) (fun _ _ _ h => h) (Or.inl ⟨by kernel_rfl, ?_⟩) (by assumption) ?_
      rotate_left 1
      · (intro w hSw; (try dsimp only at hSw); go_simp; try with_reducible rfl)
      try simp only [Act.put, List.setIfInBounds_toArray, List.set_cons_zero, List.set_cons_succ]
      refine wpAnyH_ready (rs := [19]) (by kernel_rfl) (by simp) ?_
      refine AllReadyH.cons rfl (fun K hK => ?_) AllReadyH.nil
      go_simp
      refine (redges_calls zs 15 room true _ hz (by omega) (by omega)).mono ?_
      rintro e wx ⟨rfl, hbz⟩
      have hbx := below_then hbx hbz
      refine hK.out _ _ (KEEP'.out _ hbx) (fun hHeld => ?_)
      clear hK K
      try simp only [Act.put, List.setIfInBounds_toArray, List.set_cons_zero, List.set_cons_succ]
      refine wpAnyH_take (i := 20) (oi := { dst := some 67, op := _, type := _, pos := _, after := _, guard := _ }) (v := ?_) rfl (by kernel_rfl) (by kernel_rfl) (by kernel_rfl) (fun _ _ _ h => h) (Or.inl ⟨by kernel_rfl, ?_⟩) (by assumption) ?_
      rotate_left 1
      · (intro w hSw; (try dsimp only at hSw); go_simp; try with_reducible rfl)
      try simp only [Act.put, List.setIfInBounds_toArray, List.set_cons_zero, List.set_cons_succ]
      refine wpAnyH_take (i := 21) (oi := { dst := some 68, op := _, type := _, pos := _, after := _, guard := _ }) (v := ?_) rfl (by kernel_rfl) (by kernel_rfl) (by kernel_rfl) (fun _ _ _ h => h) (Or.inl ⟨by kernel_rfl, ?_⟩) (by assumption) ?_
      rotate_left 1
      · (intro w hSw; (try dsimp only at hSw); go_simp; try with_reducible rfl)
      try simp only [Act.put, List.setIfInBounds_toArray, List.set_cons_zero, List.set_cons_succ]
      refine wpAnyH_take (i := 22) (oi := { dst := some 69, op := _, type := _, pos := _, after := _, guard := _ }) (v := ?_) rfl (by kernel_rfl) (by kernel_rfl) (by kernel_rfl) (fun _ _ _ h => h) (Or.inl ⟨by kernel_rfl, ?_⟩) (by assumption) ?_
      rotate_left 1
      · (intro w hSw; (try dsimp only at hSw); go_simp; try with_reducible rfl)
      try simp only [Act.put, List.setIfInBounds_toArray, List.set_cons_zero, List.set_cons_succ]
      refine wpAnyH_take (i := 23) (oi := { dst := some 70, op := _, type := _, pos := _, after := _, guard := _ }) (v := ?_) rfl (by kernel_rfl) (by kernel_rfl) (by kernel_rfl) (fun _ _ _ h => h) (Or.inl ⟨by kernel_rfl, ?_⟩) (by assumption) ?_
      rotate_left 1
      · (intro w hSw; (try dsimp only at hSw); go_simp; try with_reducible rfl)
      try simp only [Act.put, List.setIfInBounds_toArray, List.set_cons_zero, List.set_cons_succ]
      refine wpAnyH_take (i := 24) (oi := { dst := some 71, op := _, type := _, pos := _, after := _, guard := _ }) (v := ?_) rfl (by kernel_rfl) (by kernel_rfl) (by kernel_rfl) (fun _ _ _ h => h) (Or.inl ⟨by kernel_rfl, ?_⟩) (by assumption) ?_
      rotate_left 1
      · (intro w hSw; (try dsimp only at hSw); go_simp; try with_reducible rfl)
      try simp only [Act.put, List.setIfInBounds_toArray, List.set_cons_zero, List.set_cons_succ]
      refine wpAnyH_take (i := 25) (oi := { dst := some 72, op := _, type := _, pos := _, after := _, guard := _ }) (v := ?_) rfl (by kernel_rfl) (by kernel_rfl) (by kernel_rfl) (fun _ _ _ h => h) (Or.inl ⟨by kernel_rfl, ?_⟩) (by assumption) ?_
      rotate_left 1
      · (intro w hSw; (try dsimp only at hSw); go_simp; try with_reducible rfl)
      try simp only [Act.put, List.setIfInBounds_toArray, List.set_cons_zero, List.set_cons_succ]
      refine wpAnyH_take (i := 26) (oi := { dst := some 73, op := _, type := _, pos := _, after := _, guard := _ }) (v := ?_) rfl (by kernel_rfl) (by kernel_rfl) (by kernel_rfl) (fun _ _ _ h => h) (Or.inl ⟨by kernel_rfl, ?_⟩) (by assumption) ?_
      rotate_left 1
      · (intro w hSw; (try dsimp only at hSw); go_simp; try with_reducible rfl)
      try simp only [Act.put, List.setIfInBounds_toArray, List.set_cons_zero, List.set_cons_succ]
      refine wpAnyH_take (i := 27) (oi := { dst := some 74, op := _, type := _, pos := _, after := _, guard := _ }) (v := ?_) rfl (by kernel_rfl) (by kernel_rfl) (by kernel_rfl) (fun _ _ _ h => h) (Or.inl ⟨by kernel_rfl, ?_⟩) (by assumption) ?_
      rotate_left 1
      · (intro w hSw; (try dsimp only at hSw); go_simp; try with_reducible rfl)
      try simp only [Act.put, List.setIfInBounds_toArray, List.set_cons_zero, List.set_cons_succ]
      refine wpAnyH_take (i := 28) (oi := { dst := some 75, op := _, type := _, pos := _, after := _, guard := _ }) (v := ?_) rfl (by kernel_rfl) (by kernel_rfl) (by kernel_rfl) (fun _ _ _ h => h) (Or.inl ⟨by kernel_rfl, ?_⟩) (by assumption) ?_
      rotate_left 1
      · (intro w hSw; (try dsimp only at hSw); go_simp; try with_reducible rfl)
      try simp only [Act.put, List.setIfInBounds_toArray, List.set_cons_zero, List.set_cons_succ]
      refine wpAnyH_take (i := 29) (oi := { dst := some 76, op := _, type := _, pos := _, after := _, guard := _ }) (v := ?_) rfl (by kernel_rfl) (by kernel_rfl) (by kernel_rfl) (fun _ _ _ h => h) (Or.inl ⟨by kernel_rfl, ?_⟩) (by assumption) ?_
      rotate_left 1
      · (intro w hSw; (try dsimp only at hSw); go_simp; try with_reducible rfl)
      try simp only [Act.put, List.setIfInBounds_toArray, List.set_cons_zero, List.set_cons_succ]
      refine wpAnyH_take (i := 30) (oi := { dst := some 77, op := _, type := _, pos := _, after := _, guard := _ }) (v := ?_) rfl (by kernel_rfl) (by kernel_rfl) (by kernel_rfl) (fun _ _ _ h => h) (Or.inl ⟨by kernel_rfl, ?_⟩) (by assumption) ?_
      rotate_left 1
      · (intro w hSw; (try dsimp only at hSw); go_simp; try with_reducible rfl)
      try simp only [Act.put, List.setIfInBounds_toArray, List.set_cons_zero, List.set_cons_succ]
      refine wpAnyH_take (i := 31) (oi := { dst := some 78, op := _, type := _, pos := _, after := _, guard := _ }) (v := ?_) rfl (by kernel_rfl) (by kernel_rfl) (by kernel_rfl) (fun _ _ _ h => h) (Or.inl ⟨by kernel_rfl, ?_⟩) (by assumption) ?_
      rotate_left 1
      · (intro w hSw; (try dsimp only at hSw); go_simp; try with_reducible rfl)
      try simp only [Act.put, List.setIfInBounds_toArray, List.set_cons_zero, List.set_cons_succ]
      refine wpAnyH_take (i := 32) (oi := { dst := some 79, op := _, type := _, pos := _, after := _, guard := _ }) (v := ?_) rfl (by kernel_rfl) (by kernel_rfl) (by kernel_rfl) (fun _ _ _ h => h) (Or.inl ⟨by kernel_rfl, ?_⟩) (by assumption) ?_
      rotate_left 1
      · (intro w hSw; (try dsimp only at hSw); go_simp; try with_reducible rfl)
      try simp only [Act.put, List.setIfInBounds_toArray, List.set_cons_zero, List.set_cons_succ]
      refine wpAnyH_take (i := 33) (oi := { dst := some 80, op := _, type := _, pos := _, after := _, guard := _ }) (v := ?_) rfl (by kernel_rfl) (by kernel_rfl) (by kernel_rfl) (fun _ _ _ h => h) (Or.inl ⟨by kernel_rfl, ?_⟩) (by assumption) ?_
      rotate_left 1
      · (intro w hSw; (try dsimp only at hSw); go_simp; try with_reducible rfl)
      try simp only [Act.put, List.setIfInBounds_toArray, List.set_cons_zero, List.set_cons_succ]
      refine wpAnyH_take (i := 34) (oi := { dst := some 81, op := _, type := _, pos := _, after := _, guard := _ }) (v := ?_) rfl (by kernel_rfl) (by kernel_rfl) (by kernel_rfl) (fun _ _ _ h => h) (Or.inl ⟨by kernel_rfl, ?_⟩) (by assumption) ?_
      rotate_left 1
      · (intro w hSw; (try dsimp only at hSw); go_simp; try with_reducible rfl)
      try simp only [Act.put, List.setIfInBounds_toArray, List.set_cons_zero, List.set_cons_succ]
      refine wpAnyH_take (i := 35) (oi := { dst := some 6, op := _, type := _, pos := _, after := _, guard := _ }) (v := ?_) rfl (by kernel_rfl) (by kernel_rfl) (by kernel_rfl) (fun _ _ _ h => h) (Or.inl ⟨by kernel_rfl, ?_⟩) (by assumption) ?_
      rotate_left 1
      · (intro w hSw; (try dsimp only at hSw); go_simp; try with_reducible rfl)
      try simp only [Act.put, List.setIfInBounds_toArray, List.set_cons_zero, List.set_cons_succ]
      refine wpAnyH_done (by kernel_rfl) ?_ _
      refine NoPanic.normal ?_
      go_wp2_with fail
      go_ret
      refine ⟨?_, below_then hbr hbx⟩
      rfl

theorem marginsFrame_walk (W : World) (zs : List Int) (hz : zs.length = 118) (hw : ∀ z ∈ zs, (Lit.int .i64 z).wf = true) (qs : List Int) (hq : qs.length = 4) (hq' : ∀ z ∈ qs, (Lit.int .i64 z).wf = true) (room : Int) (hr : (Lit.int .i64 room).wf = true) :
    Calls Try.prog 7 #[.agg (zs.map (Value.int .i64)).toArray, .agg (qs.map (Value.int .i64)).toArray, .int .i64 room] W fun e w' => e = .returned (.bool true) ∧ Below W.heap.size W w' := by
  match qs, hq with
  | [p0, p1, p2, p3], _ => exact marginsFrame_calls zs p0 p1 p2 p3 room W hz
end Go.Proofs.Ytpinfaoeggipmaa
