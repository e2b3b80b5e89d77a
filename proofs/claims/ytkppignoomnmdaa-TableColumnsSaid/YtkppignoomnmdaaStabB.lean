/- Contracts of the insertion sort, and of the merge's two short ways, at the table's cells. -/
import Derived.Test.YtkppignoomnmdaaStabA
import Derived.Deep.Cut
import Derived.Deep.CutRange
namespace Go.Proofs.Ytkppignoomnmdaa
open Go.Shelf Go.RowKit Go.Lib Go.Sort
set_option linter.unusedVariables false
set_option linter.unusedSimpArgs false
def cfC (x y : CellV) : Int := (keyC x : Int) - (keyC y : Int)
theorem cfC_lt {x y : CellV} : cfC x y < 0 ↔ keyC x < keyC y := by unfold cfC; omega
theorem cfC_ge {x y : CellV} : ¬ cfC x y < 0 ↔ keyC y ≤ keyC x := by unfold cfC; omega
section
variable {P : Program} {k : Nat}
set_option maxHeartbeats 8000000 in
set_option maxRecDepth 1000000 in
theorem sym1_calls (L : LaysC P k) (g : Nat) (cb : Array Value) (eg : ∀ args w, (callFunc g args).run P w = .ok (.enter g args) w) (blk off cap N : Nat) (d0 : Array CellV) (w0 : World) (hcmp : CmpLays P g cb encC k cfC blk off d0.size w0) (R : RowK encC k w0 blk off d0) (hs0 : d0.size = N) (hN : N ≤ 1000000) (a m b : Nat) (d : Array CellV) (w : World) (hs : d.size = N) (S : SWK encC k w0 blk off d w) (ham : a + 1 = m) (hmb : m < b) (hb : b ≤ N) (s2 : Srt keyC (getA d) m b) :
    Calls P 116 #[.slice (some ⟨blk, off, none⟩) N cap, .int .i64 a, .int .i64 m, .int .i64 b, .func (.func g) #[] cb] w fun e w' => e = .returned (.tuple #[]) ∧ ∃ d' : Array CellV, d'.size = N ∧ Sim keyC a b (getA d) (getA d') ∧ Srt keyC (getA d') a b ∧ SWK encC k w0 blk off d' w' := by
  have mixed := L.mixed; have tT0 := L.tT0; have aT0 := L.aT0; have zT0 := L.zT0; have vT0 := L.vT0; have tT1 := L.tT1; have aT1 := L.aT1; have zT1 := L.zT1; have vT1 := L.vT1; have tT2 := L.tT2; have aT2 := L.aT2; have zT2 := L.zT2; have vT2 := L.vT2; have tT3 := L.tT3; have aT3 := L.aT3; have zT3 := L.zT3; have vT3 := L.vT3; have tT4 := L.tT4; have aT4 := L.aT4; have zT4 := L.zT4; have vT4 := L.vT4; have tT5 := L.tT5; have aT5 := L.aT5; have zT5 := L.zT5; have vT5 := L.vT5; have aE := L.aE; have zE := L.zE
  have HC : Aside _ := hcmp
  have S0 : Aside _ := S
  have HS2 := Lib.hid s2
  clear S hcmp s2
  have r1 : IntKind.i64.wrap ((m : Int) - (a : Int)) = (m : Int) - (a : Int) := by rw [IntKind.wrap_i64]; omega
  have q1 : (m : Int) - (a : Int) = 1 := by omega
  go_enter L.fc, Try.ntmps116
  go_wp2
  go_loopg [10, 11] (b - m) (fun kx s10 s11 wr => ∃ (i j : Nat), s10 = .int .i64 i ∧ s11 = .int .i64 j ∧ m ≤ i ∧ i ≤ j ∧ j ≤ b ∧ j - i ≤ kx ∧ Aside (SWK encC k w0 blk off d wr) ∧ Hid ((i = m ∨ keyC (getA d (i - 1)) < keyC (getA d a)) ∧ (j = b ∨ keyC (getA d a) ≤ keyC (getA d j))))
  case atStart => exact ⟨m, b, rfl, rfl, Nat.le_refl _, by omega, Nat.le_refl _, Nat.le_refl _, S0, Or.inl rfl, Or.inl rfl⟩
  case round =>
    obtain ⟨i, j, rfl, rfl, hmi, hij, hjb, hkx, S1, HE⟩ := hrel
    clear S0
    by_cases h0 : i < j
    · have h0z : (i : Int) < (j : Int) := by omega
      have r2 : IntKind.i64.wrap ((i : Int) + (j : Int)) = (i : Int) + (j : Int) := by rw [IntKind.wrap_i64]; omega
      have r3 : IntKind.u64.wrap ((i : Int) + (j : Int)) = (i : Int) + (j : Int) := by simp [IntKind.wrap, IntKind.bits, IntKind.signed]; omega
      obtain ⟨q, hq⟩ : ∃ q : Nat, (q : Int) = ((i : Int) + (j : Int)) / 2 := ⟨(i + j) / 2, by omega⟩
      have rh : ((i : Int) + (j : Int)) / 2 = (q : Int) := hq.symm
      have hq1 : i ≤ q ∧ q < j := by omega
      clear hq
      have bq : (q : Int) < (N : Int) := by omega
      have ba : (a : Int) < (N : Int) := by omega
      by_cases hlt : keyC (getA d q) < keyC (getA d a)
      · have HLT := Lib.hid hlt
        clear hlt
        obtain ⟨x1, hx1⟩ : ∃ x, x = d[q]! := ⟨_, rfl⟩
        obtain ⟨y1, hy1⟩ : ∃ x, x = d[a]! := ⟨_, rfl⟩
        have l1a := S1.out.ld R (by omega) P (q) (by omega)
        have l1b := S1.out.ld R (by omega) P (a) (by omega)
        rw [← hx1] at l1a
        rw [← hy1] at l1b
        have hc1 := S1.out.cmp HC.out (by omega) x1 y1
        have hv1 : cfC x1 y1 < 0 := by rw [hx1, hy1]; exact cfC_lt.2 HLT.out
        have hd1 : decide (cfC x1 y1 < 0) = true := decide_eq_true hv1
        clear hx1 hy1
        go_wp2_with fail
        go_quiet_grown (first | (go_at_fn g; refine Calls.grown_of (hc1 _ _)))
        have S2 : Aside (SWK encC k w0 blk off d (grow (wr.drewN nq) osq)) := S1.out.grown nq osq
        clear l1a l1b hc1 S1
        generalize grow (wr.drewN nq) osq = w2 at S2 ⊢
        clear nq osq
        go_wp2
        go_roundg (j - (q + 1))
        case measure => omega
        case rel => exact ⟨q + 1, j, by go_num, rfl, by omega, by omega, hjb, Nat.le_refl _, S2, Or.inr HLT.out, HE.out.2⟩
      · have HLT := Lib.hid (Nat.le_of_not_lt hlt)
        clear hlt
        obtain ⟨x1, hx1⟩ : ∃ x, x = d[q]! := ⟨_, rfl⟩
        obtain ⟨y1, hy1⟩ : ∃ x, x = d[a]! := ⟨_, rfl⟩
        have l1a := S1.out.ld R (by omega) P (q) (by omega)
        have l1b := S1.out.ld R (by omega) P (a) (by omega)
        rw [← hx1] at l1a
        rw [← hy1] at l1b
        have hc1 := S1.out.cmp HC.out (by omega) x1 y1
        have hv1 : ¬ cfC x1 y1 < 0 := by rw [hx1, hy1]; exact cfC_ge.2 HLT.out
        have hd1 : decide (cfC x1 y1 < 0) = false := decide_eq_false hv1
        clear hx1 hy1
        go_wp2_with fail
        go_quiet_grown (first | (go_at_fn g; refine Calls.grown_of (hc1 _ _)))
        have S2 : Aside (SWK encC k w0 blk off d (grow (wr.drewN nq) osq)) := S1.out.grown nq osq
        clear l1a l1b hc1 S1
        generalize grow (wr.drewN nq) osq = w2 at S2 ⊢
        clear nq osq
        go_wp2
        go_roundg (q - i)
        case measure => omega
        case rel => exact ⟨i, q, rfl, rfl, hmi, by omega, by omega, Nat.le_refl _, S2, HE.out.1, Or.inr HLT.out⟩
    · have h0z : ¬ (i : Int) < (j : Int) := by omega
      obtain rfl : i = j := by omega
      have HIN := Lib.hid (ins_left (key := keyC) (f := getA d) (a := a) (b := b) (i := i) (by omega) hjb (by rw [ham]; exact HS2.out) (by rw [ham]; exact HE.out.1) HE.out.2)
      have r4 : IntKind.i64.wrap ((i : Int) - 1) = (i : Int) - 1 := by rw [IntKind.wrap_i64]; omega
      go_wp2
      go_loopg [13] (i - a) (fun kx s13 wr => ∃ (z : Nat) (dk : Array CellV), s13 = .int .i64 z ∧ a ≤ z ∧ z + 1 ≤ i ∧ i - z ≤ kx ∧ dk.size = N ∧ Aside (SWK encC k w0 blk off dk wr) ∧ Hid (getA dk = rot (getA d) a (a + 1) (z + 1)))
      case atStart => exact ⟨a, d, rfl, Nat.le_refl _, by omega, Nat.le_refl _, hs, S1, (rot_right (getA d) a (a + 1) (by omega)).symm⟩
      case round =>
        obtain ⟨z, dk, rfl, haz, hzi, hkx2, hds, S3, HR⟩ := hrel
        clear S1
        by_cases h1 : z + 1 < i
        · have h1z : (z : Int) < (i : Int) - 1 := by omega
          have ea2 : ((z : Int)).toNat = z := by omega
          have pa2 : (0 : Int) ≤ (z : Int) := by omega
          have ba2 : (z : Int) < (N : Int) := by omega
          have ra2 : IntKind.i64.wrap ((z : Int)) = (z : Int) := by rw [IntKind.wrap_i64]; omega
          have ec2 : ((z : Int) + 1).toNat = z + 1 := by omega
          have pc2 : (0 : Int) ≤ (z : Int) + 1 := by omega
          have bc2 : (z : Int) + 1 < (N : Int) := by omega
          have rc2 : IntKind.i64.wrap ((z : Int) + 1) = (z : Int) + 1 := by rw [IntKind.wrap_i64]; omega
          have S4 : Aside (SWK encC k w0 blk off (swp dk (z) (z + 1)) ((wr.drew.setCells blk (off + (z) * k) (encC dk[z + 1]!)).setCells blk (off + (z + 1) * k) (encC dk[z]!))) := S3.out.swapped R (z) (z + 1) (by omega) (by omega)
          have l2a := S3.out.ld1 R (by omega) P (z) (by omega)
          have l2b := S3.out.ld1 R (by omega) P (z + 1) (by omega)
          have s2a := S3.out.st1 R (by omega) P (z) (by omega) dk[z + 1]!
          have s2b := S3.out.st2 R (by omega) P (z) (z + 1) (by omega) (by omega) dk[z + 1]! dk[z]!
          have n2a : (encC dk[z]!).length = k := R.hk _
          have n2b : (encC dk[z + 1]!).length = k := R.hk _
          generalize encC dk[z]! = cI2 at S4 l2a s2b n2a
          generalize encC dk[z + 1]! = cJ2 at S4 l2b s2a s2b n2b
          clear S3
          go_wp2_with fail
          go_big_region_o
          clear l2a l2b s2a s2b
          generalize (wr.drew.setCells blk (off + (z) * k) cJ2).setCells blk (off + (z + 1) * k) cI2 = w4 at S4 ⊢
          go_wp2
          go_roundg (i - (z + 1))
          case measure => omega
          case rel => exact ⟨z + 1, swp dk z (z + 1), by go_num, by omega, by omega, Nat.le_refl _, by rw [size_swp]; exact hds, S4, rot_up dk (getA d) a z HR.out haz (by omega)⟩
        · have h1z : ¬ (z : Int) < (i : Int) - 1 := by omega
          go_wp2
          (try simp only [Exit.inBlock, Exit.then]); refine bodyPost_ret (results_none rfl _ _ _) rfl ?_
          have e : z + 1 = i := by omega
          exact ⟨rfl, dk, hds, by rw [HR.out, e]; exact HIN.out.1, by rw [HR.out, e]; exact HIN.out.2, S3.out⟩
set_option maxHeartbeats 8000000 in
set_option maxRecDepth 1000000 in
theorem sym2_calls (L : LaysC P k) (g : Nat) (cb : Array Value) (eg : ∀ args w, (callFunc g args).run P w = .ok (.enter g args) w) (blk off cap N : Nat) (d0 : Array CellV) (w0 : World) (hcmp : CmpLays P g cb encC k cfC blk off d0.size w0) (R : RowK encC k w0 blk off d0) (hs0 : d0.size = N) (hN : N ≤ 1000000) (a m b : Nat) (d : Array CellV) (w : World) (hs : d.size = N) (S : SWK encC k w0 blk off d w) (ham : a + 1 < m) (hmb : m + 1 = b) (hb : b ≤ N) (s1 : Srt keyC (getA d) a m) :
    Calls P 116 #[.slice (some ⟨blk, off, none⟩) N cap, .int .i64 a, .int .i64 m, .int .i64 b, .func (.func g) #[] cb] w fun e w' => e = .returned (.tuple #[]) ∧ ∃ d' : Array CellV, d'.size = N ∧ Sim keyC a b (getA d) (getA d') ∧ Srt keyC (getA d') a b ∧ SWK encC k w0 blk off d' w' := by
  have mixed := L.mixed; have tT0 := L.tT0; have aT0 := L.aT0; have zT0 := L.zT0; have vT0 := L.vT0; have tT1 := L.tT1; have aT1 := L.aT1; have zT1 := L.zT1; have vT1 := L.vT1; have tT2 := L.tT2; have aT2 := L.aT2; have zT2 := L.zT2; have vT2 := L.vT2; have tT3 := L.tT3; have aT3 := L.aT3; have zT3 := L.zT3; have vT3 := L.vT3; have tT4 := L.tT4; have aT4 := L.aT4; have zT4 := L.zT4; have vT4 := L.vT4; have tT5 := L.tT5; have aT5 := L.aT5; have zT5 := L.zT5; have vT5 := L.vT5; have aE := L.aE; have zE := L.zE
  have HC : Aside _ := hcmp
  have S0 : Aside _ := S
  have HS1 := Lib.hid s1
  clear S hcmp s1
  have r1 : IntKind.i64.wrap ((m : Int) - (a : Int)) = (m : Int) - (a : Int) := by rw [IntKind.wrap_i64]; omega
  have q1 : ((m : Int) - (a : Int) == 1) = false := by simp; omega
  have r0 : IntKind.i64.wrap ((b : Int) - (m : Int)) = (b : Int) - (m : Int) := by rw [IntKind.wrap_i64]; omega
  have q0 : (b : Int) - (m : Int) = 1 := by omega
  go_enter L.fc, Try.ntmps116
  go_wp2
  go_loopg [14, 15] (m - a) (fun kx s14 s15 wr => ∃ (i j : Nat), s14 = .int .i64 i ∧ s15 = .int .i64 j ∧ a ≤ i ∧ i ≤ j ∧ j ≤ m ∧ j - i ≤ kx ∧ Aside (SWK encC k w0 blk off d wr) ∧ Hid ((i = a ∨ keyC (getA d (i - 1)) ≤ keyC (getA d m)) ∧ (j = m ∨ keyC (getA d m) < keyC (getA d j))))
  case atStart => exact ⟨a, m, rfl, rfl, Nat.le_refl _, by omega, Nat.le_refl _, Nat.le_refl _, S0, Or.inl rfl, Or.inl rfl⟩
  case round =>
    obtain ⟨i, j, rfl, rfl, hmi, hij, hjb, hkx, S1, HE⟩ := hrel
    clear S0
    by_cases h0 : i < j
    · have h0z : (i : Int) < (j : Int) := by omega
      have r2 : IntKind.i64.wrap ((i : Int) + (j : Int)) = (i : Int) + (j : Int) := by rw [IntKind.wrap_i64]; omega
      have r3 : IntKind.u64.wrap ((i : Int) + (j : Int)) = (i : Int) + (j : Int) := by simp [IntKind.wrap, IntKind.bits, IntKind.signed]; omega
      obtain ⟨q, hq⟩ : ∃ q : Nat, (q : Int) = ((i : Int) + (j : Int)) / 2 := ⟨(i + j) / 2, by omega⟩
      have rh : ((i : Int) + (j : Int)) / 2 = (q : Int) := hq.symm
      have hq1 : i ≤ q ∧ q < j := by omega
      clear hq
      have bq : (q : Int) < (N : Int) := by omega
      have ba : (m : Int) < (N : Int) := by omega
      by_cases hlt : keyC (getA d m) < keyC (getA d q)
      · have HLT := Lib.hid hlt
        clear hlt
        obtain ⟨x1, hx1⟩ : ∃ x, x = d[m]! := ⟨_, rfl⟩
        obtain ⟨y1, hy1⟩ : ∃ x, x = d[q]! := ⟨_, rfl⟩
        have l1a := S1.out.ld R (by omega) P (m) (by omega)
        have l1b := S1.out.ld R (by omega) P (q) (by omega)
        rw [← hx1] at l1a
        rw [← hy1] at l1b
        have hc1 := S1.out.cmp HC.out (by omega) x1 y1
        have hv1 : cfC x1 y1 < 0 := by rw [hx1, hy1]; exact cfC_lt.2 HLT.out
        have hd1 : decide (cfC x1 y1 < 0) = true := decide_eq_true hv1
        clear hx1 hy1
        go_wp2_with fail
        go_quiet_grown (first | (go_at_fn g; refine Calls.grown_of (hc1 _ _)))
        have S2 : Aside (SWK encC k w0 blk off d (grow (wr.drewN nq) osq)) := S1.out.grown nq osq
        clear l1a l1b hc1 S1
        generalize grow (wr.drewN nq) osq = w2 at S2 ⊢
        clear nq osq
        go_wp2
        go_roundg (q - i)
        case measure => omega
        case rel => exact ⟨i, q, rfl, rfl, hmi, by omega, by omega, Nat.le_refl _, S2, HE.out.1, Or.inr HLT.out⟩
      · have HLT := Lib.hid (Nat.le_of_not_lt hlt)
        clear hlt
        obtain ⟨x1, hx1⟩ : ∃ x, x = d[m]! := ⟨_, rfl⟩
        obtain ⟨y1, hy1⟩ : ∃ x, x = d[q]! := ⟨_, rfl⟩
        have l1a := S1.out.ld R (by omega) P (m) (by omega)
        have l1b := S1.out.ld R (by omega) P (q) (by omega)
        rw [← hx1] at l1a
        rw [← hy1] at l1b
        have hc1 := S1.out.cmp HC.out (by omega) x1 y1
        have hv1 : ¬ cfC x1 y1 < 0 := by rw [hx1, hy1]; exact cfC_ge.2 HLT.out
        have hd1 : decide (cfC x1 y1 < 0) = false := decide_eq_false hv1
        clear hx1 hy1
        go_wp2_with fail
        go_quiet_grown (first | (go_at_fn g; refine Calls.grown_of (hc1 _ _)))
        have S2 : Aside (SWK encC k w0 blk off d (grow (wr.drewN nq) osq)) := S1.out.grown nq osq
        clear l1a l1b hc1 S1
        generalize grow (wr.drewN nq) osq = w2 at S2 ⊢
        clear nq osq
        go_wp2
        go_roundg (j - (q + 1))
        case measure => omega
        case rel => exact ⟨q + 1, j, by go_num, rfl, by omega, by omega, hjb, Nat.le_refl _, S2, Or.inr HLT.out, HE.out.2⟩
    · have h0z : ¬ (i : Int) < (j : Int) := by omega
      obtain rfl : i = j := by omega
      have HIN := Lib.hid (ins_right (key := keyC) (f := getA d) (a := a) (m := m) (i := i) hmi hjb HS1.out HE.out.1 HE.out.2)
      go_wp2
      go_loopg [17] (m - i) (fun kx s17 wr => ∃ (z : Nat) (dk : Array CellV), s17 = .int .i64 z ∧ i ≤ z ∧ z ≤ m ∧ z - i ≤ kx ∧ dk.size = N ∧ Aside (SWK encC k w0 blk off dk wr) ∧ Hid (getA dk = rot (getA d) z m (m + 1)))
      case atStart => exact ⟨m, d, rfl, hjb, Nat.le_refl _, Nat.le_refl _, hs, S1, (rot_left (getA d) m (m + 1)).symm⟩
      case round =>
        obtain ⟨z, dk, rfl, hiz, hzm, hkx2, hds, S3, HR⟩ := hrel
        clear S1
        by_cases h1 : i < z
        · obtain ⟨y, rfl⟩ : ∃ y, z = y + 1 := ⟨z - 1, by omega⟩
          have h1z : (i : Int) < (y : Int) + 1 := by omega
          have ea2 : ((y : Int) + 1).toNat = y + 1 := by omega
          have pa2 : (0 : Int) ≤ (y : Int) + 1 := by omega
          have ba2 : (y : Int) + 1 < (N : Int) := by omega
          have ra2 : IntKind.i64.wrap ((y : Int) + 1) = (y : Int) + 1 := by rw [IntKind.wrap_i64]; omega
          have ec2 : ((y : Int)).toNat = y := by omega
          have pc2 : (0 : Int) ≤ (y : Int) := by omega
          have bc2 : (y : Int) < (N : Int) := by omega
          have rc2 : IntKind.i64.wrap ((y : Int)) = (y : Int) := by rw [IntKind.wrap_i64]; omega
          have S4 : Aside (SWK encC k w0 blk off (swp dk (y + 1) (y)) ((wr.drew.setCells blk (off + (y + 1) * k) (encC dk[y]!)).setCells blk (off + (y) * k) (encC dk[y + 1]!))) := S3.out.swapped R (y + 1) (y) (by omega) (by omega)
          have l2a := S3.out.ld1 R (by omega) P (y + 1) (by omega)
          have l2b := S3.out.ld1 R (by omega) P (y) (by omega)
          have s2a := S3.out.st1 R (by omega) P (y + 1) (by omega) dk[y]!
          have s2b := S3.out.st2 R (by omega) P (y + 1) (y) (by omega) (by omega) dk[y]! dk[y + 1]!
          have n2a : (encC dk[y + 1]!).length = k := R.hk _
          have n2b : (encC dk[y]!).length = k := R.hk _
          generalize encC dk[y + 1]! = cI2 at S4 l2a s2b n2a
          generalize encC dk[y]! = cJ2 at S4 l2b s2a s2b n2b
          clear S3
          go_wp2_with fail
          go_big_region_o
          clear l2a l2b s2a s2b
          generalize (wr.drew.setCells blk (off + (y + 1) * k) cJ2).setCells blk (off + (y) * k) cI2 = w4 at S4 ⊢
          go_wp2
          go_roundg (y - i)
          case measure => omega
          case rel => exact ⟨y, swp dk (y + 1) y, by go_num, by omega, by omega, Nat.le_refl _, by rw [size_swp]; exact hds, S4, rot_down dk (getA d) (y + 1) m HR.out (by omega) hzm (by omega)⟩
        · have h1z : ¬ (i : Int) < (z : Int) := by omega
          go_wp2
          (try simp only [Exit.inBlock, Exit.then]); refine bodyPost_ret (results_none rfl _ _ _) rfl ?_
          obtain rfl : z = i := by omega
          rw [← hmb]
          exact ⟨rfl, dk, hds, by rw [HR.out]; exact HIN.out.1, by rw [HR.out]; exact HIN.out.2, S3.out⟩
set_option maxHeartbeats 8000000 in
set_option maxRecDepth 1000000 in
theorem insertion_calls (L : LaysC P k) (g : Nat) (cb : Array Value) (eg : ∀ args w, (callFunc g args).run P w = .ok (.enter g args) w) (blk off cap N : Nat) (d0 : Array CellV) (w0 : World) (hcmp : CmpLays P g cb encC k cfC blk off d0.size w0) (R : RowK encC k w0 blk off d0) (hs0 : d0.size = N) (hN : N ≤ 1000000) (a b : Nat) (aI bI : Int) (ha : aI = a) (hb1 : bI = b) (d : Array CellV) (w : World) (hs : d.size = N) (S : SWK encC k w0 blk off d w) (hab : a ≤ b) (hb : b ≤ N) :
    Calls P 115 #[.slice (some ⟨blk, off, none⟩) N cap, .int .i64 aI, .int .i64 bI, .func (.func g) #[] cb] w fun e w' => e = .returned (.tuple #[]) ∧ ∃ d' : Array CellV, d'.size = N ∧ Sim keyC a b (getA d) (getA d') ∧ Srt keyC (getA d') a b ∧ SWK encC k w0 blk off d' w' := by
  subst ha hb1
  have mixed := L.mixed; have tT0 := L.tT0; have aT0 := L.aT0; have zT0 := L.zT0; have vT0 := L.vT0; have tT1 := L.tT1; have aT1 := L.aT1; have zT1 := L.zT1; have vT1 := L.vT1; have tT2 := L.tT2; have aT2 := L.aT2; have zT2 := L.zT2; have vT2 := L.vT2; have tT3 := L.tT3; have aT3 := L.aT3; have zT3 := L.zT3; have vT3 := L.vT3; have tT4 := L.tT4; have aT4 := L.aT4; have zT4 := L.zT4; have vT4 := L.vT4; have tT5 := L.tT5; have aT5 := L.aT5; have zT5 := L.zT5; have vT5 := L.vT5; have aE := L.aE; have zE := L.zE
  have HC : Aside _ := hcmp
  have S0 : Aside _ := S
  clear S hcmp
  go_enter L.fd, Try.ntmps115
  go_wp2
  go_loopg [8] (b - a) (fun kx s8 wr => ∃ (i : Nat) (dk : Array CellV), s8 = .int .i64 i ∧ a < i ∧ i ≤ b + 1 ∧ b + 1 - i ≤ kx ∧ dk.size = N ∧ Aside (SWK encC k w0 blk off dk wr) ∧ Hid (insOuter (ltOf cfC) a b i dk = insOuter (ltOf cfC) a b (a + 1) d))
  case atStart => exact ⟨a + 1, d, by go_num, by omega, by omega, by omega, hs, S0, rfl⟩
  case round =>
    obtain ⟨i, dk, rfl, hai, hib, hkx, hds, S1, HO⟩ := hrel
    clear S0
    by_cases h0 : i < b
    · have h0z : (i : Int) < (b : Int) := by omega
      go_wp2
      go_loopg [9] i (fun kx2 s9 wr => ∃ (j : Nat) (dj : Array CellV), s9 = .int .i64 j ∧ a ≤ j ∧ j ≤ i ∧ j ≤ kx2 ∧ dj.size = N ∧ Aside (SWK encC k w0 blk off dj wr) ∧ Hid (insInner (ltOf cfC) a j dj = insInner (ltOf cfC) a i dk))
      case atStart => exact ⟨i, dk, rfl, by omega, Nat.le_refl _, Nat.le_refl _, hds, S1, rfl⟩
      case round =>
        obtain ⟨j, dj, rfl, haj, hji, hkx2, hsj, S2, HI⟩ := hrel
        clear S1
        have OUT : Aside ((j ≤ a ∨ ltOf cfC dj[j]! dj[j - 1]! = false) → Hid (insOuter (ltOf cfC) a b (i + 1) dj = insOuter (ltOf cfC) a b (a + 1) d)) := fun hs => by
          show _ = _
          rw [← HO.out, insOuter_go _ _ _ _ _ h0, ← HI.out, insInner_stop _ _ _ _ hs]
        by_cases hja : a < j
        · obtain ⟨y, rfl⟩ : ∃ y, j = y + 1 := ⟨j - 1, by omega⟩
          have hjz : (a : Int) < (y : Int) + 1 := by omega
          have ry : IntKind.i64.wrap (y : Int) = (y : Int) := by rw [IntKind.wrap_i64]; omega
          have by0 : (y : Int) + 1 < (N : Int) := by omega
          have by1 : (y : Int) < (N : Int) := by omega
          have py0 : (0 : Int) ≤ (y : Int) + 1 := by omega
          have ey0 : ((y : Int) + 1).toNat = y + 1 := by omega
          by_cases hlt : keyC dj[y + 1]! < keyC dj[y]!
          · have HLT := Lib.hid hlt
            clear hlt
            obtain ⟨x1, hx1⟩ : ∃ x, x = dj[y + 1]! := ⟨_, rfl⟩
            obtain ⟨y1, hy1⟩ : ∃ x, x = dj[y]! := ⟨_, rfl⟩
            have l1a := S2.out.ld R (by omega) P (y + 1) (by omega)
            have l1b := S2.out.ld R (by omega) P (y) (by omega)
            rw [← hx1] at l1a
            rw [← hy1] at l1b
            have hc1 := S2.out.cmp HC.out (by omega) x1 y1
            have hv1 : cfC x1 y1 < 0 := by rw [hx1, hy1]; exact cfC_lt.2 HLT.out
            have hd1 : decide (cfC x1 y1 < 0) = true := decide_eq_true hv1
            clear hx1 hy1
            go_wp2_with fail
            go_quiet_grown (first | (go_at_fn g; refine Calls.grown_of (hc1 _ _)))
            have S3 : Aside (SWK encC k w0 blk off dj (grow (wr.drewN nq) osq)) := S2.out.grown nq osq
            clear l1a l1b hc1 S2
            generalize grow (wr.drewN nq) osq = w2 at S3 ⊢
            clear nq osq
            have ea2 : ((y : Int) + 1).toNat = y + 1 := by omega
            have pa2 : (0 : Int) ≤ (y : Int) + 1 := by omega
            have ba2 : (y : Int) + 1 < (N : Int) := by omega
            have ra2 : IntKind.i64.wrap ((y : Int) + 1) = (y : Int) + 1 := by rw [IntKind.wrap_i64]; omega
            have ec2 : ((y : Int)).toNat = y := by omega
            have pc2 : (0 : Int) ≤ (y : Int) := by omega
            have bc2 : (y : Int) < (N : Int) := by omega
            have rc2 : IntKind.i64.wrap ((y : Int)) = (y : Int) := by rw [IntKind.wrap_i64]; omega
            have S4 : Aside (SWK encC k w0 blk off (swp dj (y + 1) (y)) ((w2.drew.setCells blk (off + (y + 1) * k) (encC dj[y]!)).setCells blk (off + (y) * k) (encC dj[y + 1]!))) := S3.out.swapped R (y + 1) (y) (by omega) (by omega)
            have l2a := S3.out.ld1 R (by omega) P (y + 1) (by omega)
            have l2b := S3.out.ld1 R (by omega) P (y) (by omega)
            have s2a := S3.out.st1 R (by omega) P (y + 1) (by omega) dj[y]!
            have s2b := S3.out.st2 R (by omega) P (y + 1) (y) (by omega) (by omega) dj[y]! dj[y + 1]!
            have n2a : (encC dj[y + 1]!).length = k := R.hk _
            have n2b : (encC dj[y]!).length = k := R.hk _
            generalize encC dj[y + 1]! = cI2 at S4 l2a s2b n2a
            generalize encC dj[y]! = cJ2 at S4 l2b s2a s2b n2b
            clear S3
            go_wp2_with fail
            go_big_region_o
            clear l2a l2b s2a s2b
            generalize (w2.drew.setCells blk (off + (y + 1) * k) cJ2).setCells blk (off + (y) * k) cI2 = w4 at S4 ⊢
            go_wp2
            go_roundg y
            case measure => omega
            case rel => exact ⟨y, swp dj (y + 1) y, by go_num, by omega, by omega, Nat.le_refl _, by rw [size_swp]; exact hsj, S4, (show Hid _ from by
              show _ = _
              have := insInner_go (ltOf cfC) a (y + 1) dj hja (by simp only [Nat.add_sub_cancel]; exact decide_eq_true (cfC_lt.2 HLT.out))
              simp only [Nat.add_sub_cancel] at this
              rw [← HI.out, this])⟩
          · have HLT := Lib.hid (Nat.le_of_not_lt hlt)
            clear hlt
            obtain ⟨x1, hx1⟩ : ∃ x, x = dj[y + 1]! := ⟨_, rfl⟩
            obtain ⟨y1, hy1⟩ : ∃ x, x = dj[y]! := ⟨_, rfl⟩
            have l1a := S2.out.ld R (by omega) P (y + 1) (by omega)
            have l1b := S2.out.ld R (by omega) P (y) (by omega)
            rw [← hx1] at l1a
            rw [← hy1] at l1b
            have hc1 := S2.out.cmp HC.out (by omega) x1 y1
            have hv1 : ¬ cfC x1 y1 < 0 := by rw [hx1, hy1]; exact cfC_ge.2 HLT.out
            have hd1 : decide (cfC x1 y1 < 0) = false := decide_eq_false hv1
            clear hx1 hy1
            go_wp2_with fail
            go_quiet_grown (first | (go_at_fn g; refine Calls.grown_of (hc1 _ _)))
            have S3 : Aside (SWK encC k w0 blk off dj (grow (wr.drewN nq) osq)) := S2.out.grown nq osq
            clear l1a l1b hc1 S2
            generalize grow (wr.drewN nq) osq = w2 at S3 ⊢
            clear nq osq
            go_wp2
            go_roundg (b + 1 - (i + 1))
            case measure => omega
            case rel => exact ⟨i + 1, dj, by go_num, by omega, by omega, Nat.le_refl _, hsj, S3, OUT.out (Or.inr (by simp only [Nat.add_sub_cancel]; exact decide_eq_false (cfC_ge.2 HLT.out)))⟩
        · have hjz : decide ((j : Int) > (a : Int)) = false := decide_eq_false (by omega)
          have hjz' : ¬ (a : Int) < (j : Int) := by omega
          have S3 : Aside (SWK encC k w0 blk off dj wr.drew) := S2.out.drew
          clear S2
          go_wp2_with fail
          go_big_region_o
          all_goals go_wp2
          go_roundg (b + 1 - (i + 1))
          case measure => omega
          case rel => exact ⟨i + 1, dj, by go_num, by omega, by omega, Nat.le_refl _, hsj, S3, OUT.out (Or.inl (by omega))⟩
    · have h0z : ¬ (i : Int) < (b : Int) := by omega
      go_wp2
      go_end0
      have e : dk = Sort.insertionSort (ltOf cfC) d a b := by unfold Sort.insertionSort; rw [← HO.out, insOuter_stop _ _ _ _ _ h0]
      obtain ⟨i1, i2, i3⟩ := ins_sim (key := keyC) (lt := ltOf cfC) (fun x y => by unfold ltOf; rw [decide_eq_true_iff]; exact cfC_lt) d a b hab (by omega)
      rw [← e] at i1 i2
      exact ⟨rfl, dk, hds, i1, i2, S1.out⟩
end
end Go.Proofs.Ytkppignoomnmdaa
