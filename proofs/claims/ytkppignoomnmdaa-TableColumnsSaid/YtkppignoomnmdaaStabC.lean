/- Contract of the merge in place at the table's cells. -/
import Derived.Test.YtkppignoomnmdaaStabB
namespace Go.Proofs.Ytkppignoomnmdaa
open Go.Shelf Go.RowKit Go.Lib Go.Sort
set_option linter.unusedVariables false
set_option linter.unusedSimpArgs false
section
variable {P : Program} {k : Nat}
/-- What the merge does from a to b, split at m. -/
def SymSpec (P : Program) (k : Nat) (g : Nat) (cb : Array Value) (blk off cap N : Nat) (w0 : World) (a m b : Nat) : Prop :=
  ∀ (d : Array CellV) (w : World), d.size = N → SWK encC k w0 blk off d w → a < m → m < b → b ≤ N → Srt keyC (getA d) a m → Srt keyC (getA d) m b →
    Calls P 116 #[.slice (some ⟨blk, off, none⟩) N cap, .int .i64 a, .int .i64 m, .int .i64 b, .func (.func g) #[] cb] w fun e w' => e = .returned (.tuple #[]) ∧ ∃ d' : Array CellV, d'.size = N ∧ Sim keyC a b (getA d) (getA d') ∧ Srt keyC (getA d') a b ∧ SWK encC k w0 blk off d' w'
set_option maxHeartbeats 40000000 in
set_option maxRecDepth 1000000 in
theorem sym3_calls (L : LaysC P k) (g : Nat) (cb : Array Value) (eg : ∀ args w, (callFunc g args).run P w = .ok (.enter g args) w) (blk off cap N : Nat) (d0 : Array CellV) (w0 : World) (hcmp : CmpLays P g cb encC k cfC blk off d0.size w0) (R : RowK encC k w0 blk off d0) (hs0 : d0.size = N) (hN : N ≤ 1000000) (a m b mid n : Nat) (d : Array CellV) (w : World) (hs : d.size = N) (S : SWK encC k w0 blk off d w) (ham : a + 1 < m) (hmb : m + 1 < b) (hb : b ≤ N) (s1 : Srt keyC (getA d) a m) (s2 : Srt keyC (getA d) m b) (hmid : mid = (a + b) / 2) (hn : n = mid + m) (hc0 : mid < m) (IH : ∀ a' m' b', b' - a' < b - a → SymSpec P k g cb blk off cap N w0 a' m' b') :
    Calls P 116 #[.slice (some ⟨blk, off, none⟩) N cap, .int .i64 a, .int .i64 m, .int .i64 b, .func (.func g) #[] cb] w fun e w' => e = .returned (.tuple #[]) ∧ ∃ d' : Array CellV, d'.size = N ∧ Sim keyC a b (getA d) (getA d') ∧ Srt keyC (getA d') a b ∧ SWK encC k w0 blk off d' w' := by
  have mixed := L.mixed; have tT0 := L.tT0; have aT0 := L.aT0; have zT0 := L.zT0; have vT0 := L.vT0; have tT1 := L.tT1; have aT1 := L.aT1; have zT1 := L.zT1; have vT1 := L.vT1; have tT2 := L.tT2; have aT2 := L.aT2; have zT2 := L.zT2; have vT2 := L.vT2; have tT3 := L.tT3; have aT3 := L.aT3; have zT3 := L.zT3; have vT3 := L.vT3; have tT4 := L.tT4; have aT4 := L.aT4; have zT4 := L.zT4; have vT4 := L.vT4; have tT5 := L.tT5; have aT5 := L.aT5; have zT5 := L.zT5; have vT5 := L.vT5; have aE := L.aE; have zE := L.zE
  have HC : Aside _ := hcmp
  have S0 : Aside _ := S
  have HS1 := Lib.hid s1
  have HS2 := Lib.hid s2
  clear S hcmp s1 s2
  have eB : ∀ args w, (callFunc 134 args).run P w = .ok (.enter 134 args) w := enters_of L.fb (by kernel_rfl) rfl
  have eC : ∀ args w, (callFunc 116 args).run P w = .ok (.enter 116 args) w := enters_of L.fc (by kernel_rfl) rfl
  have r1 : IntKind.i64.wrap ((m : Int) - (a : Int)) = (m : Int) - (a : Int) := by rw [IntKind.wrap_i64]; omega
  have q1 : ((m : Int) - (a : Int) == 1) = false := by simp; omega
  have mid' : IntKind.i64.wrap ((b : Int) - (m : Int)) = (b : Int) - (m : Int) := by rw [IntKind.wrap_i64]; omega
  have q0 : ((b : Int) - (m : Int) == 1) = false := by simp; omega
  have r4 : IntKind.i64.wrap ((a : Int) + (b : Int)) = (a : Int) + (b : Int) := by rw [IntKind.wrap_i64]; omega
  have r5 : IntKind.u64.wrap ((a : Int) + (b : Int)) = (a : Int) + (b : Int) := by simp [IntKind.wrap, IntKind.bits, IntKind.signed]; omega
  have r6 : ((a : Int) + (b : Int)) / 2 = (mid : Int) := by omega
  have r7 : (mid : Int) + (m : Int) = (n : Int) := by omega
  have r8 : IntKind.i64.wrap (n : Int) = (n : Int) := by rw [IntKind.wrap_i64]; omega
  obtain ⟨p, hp⟩ : ∃ p, p = n - 1 := ⟨_, rfl⟩
  have r9 : (n : Int) - 1 = (p : Int) := by omega
  have r10 : IntKind.i64.wrap (p : Int) = (p : Int) := by rw [IntKind.wrap_i64]; omega
  have hmz : (mid : Int) < (m : Int) := by omega
  obtain ⟨st0, hst0⟩ : ∃ st0, st0 = n - b := ⟨_, rfl⟩
  have c1 : (n : Int) - (b : Int) = (st0 : Int) := by omega
  have c2 : IntKind.i64.wrap (st0 : Int) = (st0 : Int) := by rw [IntKind.wrap_i64]; omega
  clear hst0
  clear hmid hn hp
  go_enter L.fc, Try.ntmps116
  go_wp2
  go_loopg [20, 21] (mid - st0) (fun kx s20 s21 wr => ∃ (s r : Nat), s20 = .int .i64 s ∧ s21 = .int .i64 r ∧ st0 ≤ s ∧ s ≤ r ∧ r ≤ mid ∧ r - s ≤ kx ∧ Aside (SWK encC k w0 blk off d wr) ∧ Hid (SI keyC (getA d) (n - 1) st0 mid s r))
  case atStart => exact ⟨st0, mid, by first | rfl | (congr 1; omega), by first | rfl | (congr 1; omega), Nat.le_refl _, by omega, Nat.le_refl _, Nat.le_refl _, S0, ⟨Nat.le_refl _, by omega, Nat.le_refl _, Or.inl rfl, Or.inl rfl⟩⟩
  case round =>
    obtain ⟨s, r, rfl, rfl, hst, hsr, hrr, hkx, S1, HE⟩ := hrel
    clear S0
    by_cases h0 : s < r
    · have h0z : (s : Int) < (r : Int) := by omega
      have v2 : IntKind.i64.wrap ((s : Int) + (r : Int)) = (s : Int) + (r : Int) := by rw [IntKind.wrap_i64]; omega
      have v3 : IntKind.u64.wrap ((s : Int) + (r : Int)) = (s : Int) + (r : Int) := by simp [IntKind.wrap, IntKind.bits, IntKind.signed]; omega
      obtain ⟨q, hq⟩ : ∃ q : Nat, (q : Int) = ((s : Int) + (r : Int)) / 2 := ⟨(s + r) / 2, by omega⟩
      have rh : ((s : Int) + (r : Int)) / 2 = (q : Int) := hq.symm
      have hq1 : s ≤ q ∧ q < r := by omega
      clear hq
      obtain ⟨pq, hpq⟩ : ∃ pq, pq = n - 1 - q := ⟨_, rfl⟩
      have HPQ := Lib.hid hpq
      have v4 : (p : Int) - (q : Int) = (pq : Int) := by omega
      clear hpq
      have v5 : IntKind.i64.wrap (pq : Int) = (pq : Int) := by rw [IntKind.wrap_i64]; omega
      have bq : (q : Int) < (N : Int) := by omega
      have bp : (pq : Int) < (N : Int) := by omega
      by_cases hlt : keyC (getA d pq) < keyC (getA d q)
      · have HLT := Lib.hid hlt
        clear hlt
        obtain ⟨x1, hx1⟩ : ∃ x, x = d[pq]! := ⟨_, rfl⟩
        obtain ⟨y1, hy1⟩ : ∃ x, x = d[q]! := ⟨_, rfl⟩
        have l1a := S1.out.ld R (by omega) P (pq) (by omega)
        have l1b := S1.out.ld R (by omega) P (q) (by omega)
        rw [← hx1] at l1a
        rw [← hy1] at l1b
        have hc1 := S1.out.cmp HC.out (by omega) x1 y1
        have hv1 : cfC x1 y1 < 0 := by rw [hx1, hy1]; exact cfC_lt.2 HLT.out
        have hd1 : decide (cfC x1 y1 < 0) = true := decide_eq_true hv1
        clear hx1 hy1
        go_wp2_with fail
        go_quiet_grown (first | (go_at_fn g; refine Calls.grown_of (hc1 _ _)))
        have S2 : Aside (SWK encC k w0 blk off d (grow (wr.drewN nq) osq)) := S1.out.grown nq osq
        clear l1a l1b hc1 S1
        generalize grow (wr.drewN nq) osq = w2 at S2 ⊢
        clear nq osq
        go_wp2
        go_roundg (q - s)
        case measure => omega
        case rel => exact ⟨s, q, rfl, rfl, hst, by omega, by omega, Nat.le_refl _, S2, HE.out.down hq1.1 hq1.2 (by rw [← HPQ.out]; exact HLT.out)⟩
      · have HLT := Lib.hid (Nat.le_of_not_lt hlt)
        clear hlt
        obtain ⟨x1, hx1⟩ : ∃ x, x = d[pq]! := ⟨_, rfl⟩
        obtain ⟨y1, hy1⟩ : ∃ x, x = d[q]! := ⟨_, rfl⟩
        have l1a := S1.out.ld R (by omega) P (pq) (by omega)
        have l1b := S1.out.ld R (by omega) P (q) (by omega)
        rw [← hx1] at l1a
        rw [← hy1] at l1b
        have hc1 := S1.out.cmp HC.out (by omega) x1 y1
        have hv1 : ¬ cfC x1 y1 < 0 := by rw [hx1, hy1]; exact cfC_ge.2 HLT.out
        have hd1 : decide (cfC x1 y1 < 0) = false := decide_eq_false hv1
        clear hx1 hy1
        go_wp2_with fail
        go_quiet_grown (first | (go_at_fn g; refine Calls.grown_of (hc1 _ _)))
        have S2 : Aside (SWK encC k w0 blk off d (grow (wr.drewN nq) osq)) := S1.out.grown nq osq
        clear l1a l1b hc1 S1
        generalize grow (wr.drewN nq) osq = w2 at S2 ⊢
        clear nq osq
        go_wp2
        go_roundg (r - (q + 1))
        case measure => omega
        case rel => exact ⟨q + 1, r, by go_num, rfl, by omega, by omega, by omega, Nat.le_refl _, S2, HE.out.up hq1.1 hq1.2 (by rw [← HPQ.out]; exact HLT.out)⟩
    · have h0z : ¬ (s : Int) < (r : Int) := by omega
      obtain rfl : s = r := by omega
      have HFD := SI.found (key := keyC) (f := getA d) (a := a) (m := m) (b := b) (mid := mid) (n := n) (st0 := st0) (r0 := mid) (s := s) (by omega) (by omega) (by omega) (by omega) (by omega) HS1.out HS2.out HE.out
      obtain ⟨f1, f2, f3, f4, f5, f6, f7⟩ := HFD
      have HSR := sym_rot (key := keyC) f1 f2 f3 f4 HS1.out HS2.out f6 f7
      rw [f5] at HSR
      clear f6 f7
      obtain ⟨en, hen⟩ : ∃ en, en = n - s := ⟨_, rfl⟩
      rw [← hen] at f3 f4 f5 HSR
      have HSR := Lib.hid HSR
      have u1 : (n : Int) - (s : Int) = (en : Int) := by omega
      have u2 : IntKind.i64.wrap ((n : Int) - (s : Int)) = (en : Int) := by rw [IntKind.wrap_i64]; omega
      have u3 : IntKind.i64.wrap (en : Int) = (en : Int) := by rw [IntKind.wrap_i64]; omega
      clear hen HE
      by_cases ht : s < m ∧ m < en
      · have x1 : (s : Int) < (m : Int) := by omega
        have x2 : (m : Int) < (en : Int) := by omega
        have hc := Lib.hid (rotate_calls L blk off cap s m en N s m en d0 d w0 wr (.func (.func g) #[] cb) rfl rfl rfl R hs0 hs S1.out ht.1 ht.2 (by omega) hN)
        go_upto_region 41 with (go_at_fn 134; refine hc.out.mono ?_; rintro e w1 ⟨rfl, d1, hs1, hd1, S2⟩)
        have HG := Lib.hid hd1
        have T2 := Lib.hid S2
        clear hc hd1 S2 S1
        have HQ : Hid (Sim keyC a b (getA d) (getA d1) ∧ Srt keyC (getA d1) a s ∧ Srt keyC (getA d1) s mid ∧ Srt keyC (getA d1) mid en ∧ Srt keyC (getA d1) en b ∧ (∀ p q, a ≤ p → p < mid → mid ≤ q → q < b → keyC (getA d1 p) ≤ keyC (getA d1 q))) := by
          have := HSR.out
          rw [← HG.out] at this
          exact this
        by_cases hl : a < s ∧ s < mid
        · have y1 : (a : Int) < (s : Int) := by omega
          have y2 : (s : Int) < (mid : Int) := by omega
          have hc := Lib.hid (IH a s mid (by omega) d1 w1 hs1 T2.out hl.1 hl.2 (by omega) HQ.out.2.1 HQ.out.2.2.1)
          go_upto_region 43 with (go_at_fn 116; refine hc.out.mono ?_; rintro e w2 ⟨rfl, d2, hs2, hsim2, hsrt2, S3⟩)
          have HL := Lib.hid (And.intro hsim2 hsrt2)
          have T3 := Lib.hid S3
          clear hc hsim2 hsrt2 S3
          by_cases hr : mid < en ∧ en < b
          · have z1 : (mid : Int) < (en : Int) := by omega
            have z2 : (en : Int) < (b : Int) := by omega
            have hc := Lib.hid (IH mid en b (by omega) d2 w2 hs2 T3.out hr.1 hr.2 hb (HQ.out.2.2.2.1.congr (fun k h1 _ => HL.out.1.1 k (Or.inr h1))) (HQ.out.2.2.2.2.1.congr (fun k h1 _ => HL.out.1.1 k (Or.inr (by omega)))))
            go_wp2_with (go_at_fn 116; refine hc.out.mono ?_; rintro e w3 ⟨rfl, d3, hs3, hsim3, hsrt3, S4⟩)
            go_end0
            have HR := Lib.hid (And.intro hsim3 hsrt3)
            have J := sym_join (key := keyC) (f := getA d1) (a := a) (m := mid) (b := b) (by omega) (by omega) HQ.out.2.2.2.2.2 HL.out.1 HL.out.2 HR.out.1 HR.out.2
            exact ⟨rfl, d3, hs3, HQ.out.1.trans J.1, J.2, S4⟩
          · by_cases hr1 : mid < en
            · have z1 : (mid : Int) < (en : Int) := by omega
              have z2 : ¬ (en : Int) < (b : Int) := by omega
              go_wp2
              go_end0
              have HR := Lib.hid (And.intro (Sim.refl keyC mid b (getA d2)) ((HQ.out.2.2.2.1.sub (Nat.le_refl mid) (show b ≤ en by omega)).congr (fun k h1 _ => HL.out.1.1 k (Or.inr h1))))
              have J := sym_join (key := keyC) (f := getA d1) (a := a) (m := mid) (b := b) (by omega) (by omega) HQ.out.2.2.2.2.2 HL.out.1 HL.out.2 HR.out.1 HR.out.2
              exact ⟨rfl, d2, hs2, HQ.out.1.trans J.1, J.2, T3.out⟩
            · have z1 : ¬ (mid : Int) < (en : Int) := by omega
              go_wp2
              go_end0
              have HR := Lib.hid (And.intro (Sim.refl keyC mid b (getA d2)) ((HQ.out.2.2.2.2.1.sub (show en ≤ mid by omega) (Nat.le_refl b)).congr (fun k h1 _ => HL.out.1.1 k (Or.inr h1))))
              have J := sym_join (key := keyC) (f := getA d1) (a := a) (m := mid) (b := b) (by omega) (by omega) HQ.out.2.2.2.2.2 HL.out.1 HL.out.2 HR.out.1 HR.out.2
              exact ⟨rfl, d2, hs2, HQ.out.1.trans J.1, J.2, T3.out⟩
        · by_cases hl1 : a < s
          · have y1 : (a : Int) < (s : Int) := by omega
            have y2 : ¬ (s : Int) < (mid : Int) := by omega
            go_upto_region 43 with fail
            have HL := Lib.hid (And.intro (Sim.refl keyC a mid (getA d1)) (HQ.out.2.1.sub (Nat.le_refl a) (show mid ≤ s by omega)))
            by_cases hr : mid < en ∧ en < b
            · have z1 : (mid : Int) < (en : Int) := by omega
              have z2 : (en : Int) < (b : Int) := by omega
              have hc := Lib.hid (IH mid en b (by omega) d1 w1 hs1 T2.out hr.1 hr.2 hb (HQ.out.2.2.2.1.congr (fun k h1 _ => HL.out.1.1 k (Or.inr h1))) (HQ.out.2.2.2.2.1.congr (fun k h1 _ => HL.out.1.1 k (Or.inr (by omega)))))
              go_wp2_with (go_at_fn 116; refine hc.out.mono ?_; rintro e w3 ⟨rfl, d3, hs3, hsim3, hsrt3, S4⟩)
              go_end0
              have HR := Lib.hid (And.intro hsim3 hsrt3)
              have J := sym_join (key := keyC) (f := getA d1) (a := a) (m := mid) (b := b) (by omega) (by omega) HQ.out.2.2.2.2.2 HL.out.1 HL.out.2 HR.out.1 HR.out.2
              exact ⟨rfl, d3, hs3, HQ.out.1.trans J.1, J.2, S4⟩
            · by_cases hr1 : mid < en
              · have z1 : (mid : Int) < (en : Int) := by omega
                have z2 : ¬ (en : Int) < (b : Int) := by omega
                go_wp2
                go_end0
                have HR := Lib.hid (And.intro (Sim.refl keyC mid b (getA d1)) ((HQ.out.2.2.2.1.sub (Nat.le_refl mid) (show b ≤ en by omega)).congr (fun k h1 _ => HL.out.1.1 k (Or.inr h1))))
                have J := sym_join (key := keyC) (f := getA d1) (a := a) (m := mid) (b := b) (by omega) (by omega) HQ.out.2.2.2.2.2 HL.out.1 HL.out.2 HR.out.1 HR.out.2
                exact ⟨rfl, d1, hs1, HQ.out.1.trans J.1, J.2, T2.out⟩
              · have z1 : ¬ (mid : Int) < (en : Int) := by omega
                go_wp2
                go_end0
                have HR := Lib.hid (And.intro (Sim.refl keyC mid b (getA d1)) ((HQ.out.2.2.2.2.1.sub (show en ≤ mid by omega) (Nat.le_refl b)).congr (fun k h1 _ => HL.out.1.1 k (Or.inr h1))))
                have J := sym_join (key := keyC) (f := getA d1) (a := a) (m := mid) (b := b) (by omega) (by omega) HQ.out.2.2.2.2.2 HL.out.1 HL.out.2 HR.out.1 HR.out.2
                exact ⟨rfl, d1, hs1, HQ.out.1.trans J.1, J.2, T2.out⟩
          · have y1 : ¬ (a : Int) < (s : Int) := by omega
            go_upto_region 43 with fail
            have HL := Lib.hid (And.intro (Sim.refl keyC a mid (getA d1)) (HQ.out.2.2.1.sub (show s ≤ a by omega) (Nat.le_refl mid)))
            by_cases hr : mid < en ∧ en < b
            · have z1 : (mid : Int) < (en : Int) := by omega
              have z2 : (en : Int) < (b : Int) := by omega
              have hc := Lib.hid (IH mid en b (by omega) d1 w1 hs1 T2.out hr.1 hr.2 hb (HQ.out.2.2.2.1.congr (fun k h1 _ => HL.out.1.1 k (Or.inr h1))) (HQ.out.2.2.2.2.1.congr (fun k h1 _ => HL.out.1.1 k (Or.inr (by omega)))))
              go_wp2_with (go_at_fn 116; refine hc.out.mono ?_; rintro e w3 ⟨rfl, d3, hs3, hsim3, hsrt3, S4⟩)
              go_end0
              have HR := Lib.hid (And.intro hsim3 hsrt3)
              have J := sym_join (key := keyC) (f := getA d1) (a := a) (m := mid) (b := b) (by omega) (by omega) HQ.out.2.2.2.2.2 HL.out.1 HL.out.2 HR.out.1 HR.out.2
              exact ⟨rfl, d3, hs3, HQ.out.1.trans J.1, J.2, S4⟩
            · by_cases hr1 : mid < en
              · have z1 : (mid : Int) < (en : Int) := by omega
                have z2 : ¬ (en : Int) < (b : Int) := by omega
                go_wp2
                go_end0
                have HR := Lib.hid (And.intro (Sim.refl keyC mid b (getA d1)) ((HQ.out.2.2.2.1.sub (Nat.le_refl mid) (show b ≤ en by omega)).congr (fun k h1 _ => HL.out.1.1 k (Or.inr h1))))
                have J := sym_join (key := keyC) (f := getA d1) (a := a) (m := mid) (b := b) (by omega) (by omega) HQ.out.2.2.2.2.2 HL.out.1 HL.out.2 HR.out.1 HR.out.2
                exact ⟨rfl, d1, hs1, HQ.out.1.trans J.1, J.2, T2.out⟩
              · have z1 : ¬ (mid : Int) < (en : Int) := by omega
                go_wp2
                go_end0
                have HR := Lib.hid (And.intro (Sim.refl keyC mid b (getA d1)) ((HQ.out.2.2.2.2.1.sub (show en ≤ mid by omega) (Nat.le_refl b)).congr (fun k h1 _ => HL.out.1.1 k (Or.inr h1))))
                have J := sym_join (key := keyC) (f := getA d1) (a := a) (m := mid) (b := b) (by omega) (by omega) HQ.out.2.2.2.2.2 HL.out.1 HL.out.2 HR.out.1 HR.out.2
                exact ⟨rfl, d1, hs1, HQ.out.1.trans J.1, J.2, T2.out⟩
      · have HG : Hid (getA d = rot (getA d) s m en) := by
          show _ = _
          by_cases e : s < m
          · rw [show en = m by omega, rot_right _ _ _ f2]
          · rw [show s = m by omega, rot_left]
        by_cases ht1 : s < m
        · have x1 : (s : Int) < (m : Int) := by omega
          have x2 : ¬ (m : Int) < (en : Int) := by omega
          go_upto_region 41 with fail
          have HQ : Hid (Sim keyC a b (getA d) (getA d) ∧ Srt keyC (getA d) a s ∧ Srt keyC (getA d) s mid ∧ Srt keyC (getA d) mid en ∧ Srt keyC (getA d) en b ∧ (∀ p q, a ≤ p → p < mid → mid ≤ q → q < b → keyC (getA d p) ≤ keyC (getA d q))) := by
            have := HSR.out
            rw [← HG.out] at this
            exact this
          by_cases hl : a < s ∧ s < mid
          · have y1 : (a : Int) < (s : Int) := by omega
            have y2 : (s : Int) < (mid : Int) := by omega
            have hc := Lib.hid (IH a s mid (by omega) d wr hs S1.out hl.1 hl.2 (by omega) HQ.out.2.1 HQ.out.2.2.1)
            go_upto_region 43 with (go_at_fn 116; refine hc.out.mono ?_; rintro e w2 ⟨rfl, d2, hs2, hsim2, hsrt2, S3⟩)
            have HL := Lib.hid (And.intro hsim2 hsrt2)
            have T3 := Lib.hid S3
            clear hc hsim2 hsrt2 S3
            by_cases hr : mid < en ∧ en < b
            · have z1 : (mid : Int) < (en : Int) := by omega
              have z2 : (en : Int) < (b : Int) := by omega
              have hc := Lib.hid (IH mid en b (by omega) d2 w2 hs2 T3.out hr.1 hr.2 hb (HQ.out.2.2.2.1.congr (fun k h1 _ => HL.out.1.1 k (Or.inr h1))) (HQ.out.2.2.2.2.1.congr (fun k h1 _ => HL.out.1.1 k (Or.inr (by omega)))))
              go_wp2_with (go_at_fn 116; refine hc.out.mono ?_; rintro e w3 ⟨rfl, d3, hs3, hsim3, hsrt3, S4⟩)
              go_end0
              have HR := Lib.hid (And.intro hsim3 hsrt3)
              have J := sym_join (key := keyC) (f := getA d) (a := a) (m := mid) (b := b) (by omega) (by omega) HQ.out.2.2.2.2.2 HL.out.1 HL.out.2 HR.out.1 HR.out.2
              exact ⟨rfl, d3, hs3, HQ.out.1.trans J.1, J.2, S4⟩
            · by_cases hr1 : mid < en
              · have z1 : (mid : Int) < (en : Int) := by omega
                have z2 : ¬ (en : Int) < (b : Int) := by omega
                go_wp2
                go_end0
                have HR := Lib.hid (And.intro (Sim.refl keyC mid b (getA d2)) ((HQ.out.2.2.2.1.sub (Nat.le_refl mid) (show b ≤ en by omega)).congr (fun k h1 _ => HL.out.1.1 k (Or.inr h1))))
                have J := sym_join (key := keyC) (f := getA d) (a := a) (m := mid) (b := b) (by omega) (by omega) HQ.out.2.2.2.2.2 HL.out.1 HL.out.2 HR.out.1 HR.out.2
                exact ⟨rfl, d2, hs2, HQ.out.1.trans J.1, J.2, T3.out⟩
              · have z1 : ¬ (mid : Int) < (en : Int) := by omega
                go_wp2
                go_end0
                have HR := Lib.hid (And.intro (Sim.refl keyC mid b (getA d2)) ((HQ.out.2.2.2.2.1.sub (show en ≤ mid by omega) (Nat.le_refl b)).congr (fun k h1 _ => HL.out.1.1 k (Or.inr h1))))
                have J := sym_join (key := keyC) (f := getA d) (a := a) (m := mid) (b := b) (by omega) (by omega) HQ.out.2.2.2.2.2 HL.out.1 HL.out.2 HR.out.1 HR.out.2
                exact ⟨rfl, d2, hs2, HQ.out.1.trans J.1, J.2, T3.out⟩
          · by_cases hl1 : a < s
            · have y1 : (a : Int) < (s : Int) := by omega
              have y2 : ¬ (s : Int) < (mid : Int) := by omega
              go_upto_region 43 with fail
              have HL := Lib.hid (And.intro (Sim.refl keyC a mid (getA d)) (HQ.out.2.1.sub (Nat.le_refl a) (show mid ≤ s by omega)))
              by_cases hr : mid < en ∧ en < b
              · have z1 : (mid : Int) < (en : Int) := by omega
                have z2 : (en : Int) < (b : Int) := by omega
                have hc := Lib.hid (IH mid en b (by omega) d wr hs S1.out hr.1 hr.2 hb (HQ.out.2.2.2.1.congr (fun k h1 _ => HL.out.1.1 k (Or.inr h1))) (HQ.out.2.2.2.2.1.congr (fun k h1 _ => HL.out.1.1 k (Or.inr (by omega)))))
                go_wp2_with (go_at_fn 116; refine hc.out.mono ?_; rintro e w3 ⟨rfl, d3, hs3, hsim3, hsrt3, S4⟩)
                go_end0
                have HR := Lib.hid (And.intro hsim3 hsrt3)
                have J := sym_join (key := keyC) (f := getA d) (a := a) (m := mid) (b := b) (by omega) (by omega) HQ.out.2.2.2.2.2 HL.out.1 HL.out.2 HR.out.1 HR.out.2
                exact ⟨rfl, d3, hs3, HQ.out.1.trans J.1, J.2, S4⟩
              · by_cases hr1 : mid < en
                · have z1 : (mid : Int) < (en : Int) := by omega
                  have z2 : ¬ (en : Int) < (b : Int) := by omega
                  go_wp2
                  go_end0
                  have HR := Lib.hid (And.intro (Sim.refl keyC mid b (getA d)) ((HQ.out.2.2.2.1.sub (Nat.le_refl mid) (show b ≤ en by omega)).congr (fun k h1 _ => HL.out.1.1 k (Or.inr h1))))
                  have J := sym_join (key := keyC) (f := getA d) (a := a) (m := mid) (b := b) (by omega) (by omega) HQ.out.2.2.2.2.2 HL.out.1 HL.out.2 HR.out.1 HR.out.2
                  exact ⟨rfl, d, hs, HQ.out.1.trans J.1, J.2, S1.out⟩
                · have z1 : ¬ (mid : Int) < (en : Int) := by omega
                  go_wp2
                  go_end0
                  have HR := Lib.hid (And.intro (Sim.refl keyC mid b (getA d)) ((HQ.out.2.2.2.2.1.sub (show en ≤ mid by omega) (Nat.le_refl b)).congr (fun k h1 _ => HL.out.1.1 k (Or.inr h1))))
                  have J := sym_join (key := keyC) (f := getA d) (a := a) (m := mid) (b := b) (by omega) (by omega) HQ.out.2.2.2.2.2 HL.out.1 HL.out.2 HR.out.1 HR.out.2
                  exact ⟨rfl, d, hs, HQ.out.1.trans J.1, J.2, S1.out⟩
            · have y1 : ¬ (a : Int) < (s : Int) := by omega
              go_upto_region 43 with fail
              have HL := Lib.hid (And.intro (Sim.refl keyC a mid (getA d)) (HQ.out.2.2.1.sub (show s ≤ a by omega) (Nat.le_refl mid)))
              by_cases hr : mid < en ∧ en < b
              · have z1 : (mid : Int) < (en : Int) := by omega
                have z2 : (en : Int) < (b : Int) := by omega
                have hc := Lib.hid (IH mid en b (by omega) d wr hs S1.out hr.1 hr.2 hb (HQ.out.2.2.2.1.congr (fun k h1 _ => HL.out.1.1 k (Or.inr h1))) (HQ.out.2.2.2.2.1.congr (fun k h1 _ => HL.out.1.1 k (Or.inr (by omega)))))
                go_wp2_with (go_at_fn 116; refine hc.out.mono ?_; rintro e w3 ⟨rfl, d3, hs3, hsim3, hsrt3, S4⟩)
                go_end0
                have HR := Lib.hid (And.intro hsim3 hsrt3)
                have J := sym_join (key := keyC) (f := getA d) (a := a) (m := mid) (b := b) (by omega) (by omega) HQ.out.2.2.2.2.2 HL.out.1 HL.out.2 HR.out.1 HR.out.2
                exact ⟨rfl, d3, hs3, HQ.out.1.trans J.1, J.2, S4⟩
              · by_cases hr1 : mid < en
                · have z1 : (mid : Int) < (en : Int) := by omega
                  have z2 : ¬ (en : Int) < (b : Int) := by omega
                  go_wp2
                  go_end0
                  have HR := Lib.hid (And.intro (Sim.refl keyC mid b (getA d)) ((HQ.out.2.2.2.1.sub (Nat.le_refl mid) (show b ≤ en by omega)).congr (fun k h1 _ => HL.out.1.1 k (Or.inr h1))))
                  have J := sym_join (key := keyC) (f := getA d) (a := a) (m := mid) (b := b) (by omega) (by omega) HQ.out.2.2.2.2.2 HL.out.1 HL.out.2 HR.out.1 HR.out.2
                  exact ⟨rfl, d, hs, HQ.out.1.trans J.1, J.2, S1.out⟩
                · have z1 : ¬ (mid : Int) < (en : Int) := by omega
                  go_wp2
                  go_end0
                  have HR := Lib.hid (And.intro (Sim.refl keyC mid b (getA d)) ((HQ.out.2.2.2.2.1.sub (show en ≤ mid by omega) (Nat.le_refl b)).congr (fun k h1 _ => HL.out.1.1 k (Or.inr h1))))
                  have J := sym_join (key := keyC) (f := getA d) (a := a) (m := mid) (b := b) (by omega) (by omega) HQ.out.2.2.2.2.2 HL.out.1 HL.out.2 HR.out.1 HR.out.2
                  exact ⟨rfl, d, hs, HQ.out.1.trans J.1, J.2, S1.out⟩
        · have x1 : ¬ (s : Int) < (m : Int) := by omega
          go_upto_region 41 with fail
          have HQ : Hid (Sim keyC a b (getA d) (getA d) ∧ Srt keyC (getA d) a s ∧ Srt keyC (getA d) s mid ∧ Srt keyC (getA d) mid en ∧ Srt keyC (getA d) en b ∧ (∀ p q, a ≤ p → p < mid → mid ≤ q → q < b → keyC (getA d p) ≤ keyC (getA d q))) := by
            have := HSR.out
            rw [← HG.out] at this
            exact this
          by_cases hl : a < s ∧ s < mid
          · have y1 : (a : Int) < (s : Int) := by omega
            have y2 : (s : Int) < (mid : Int) := by omega
            have hc := Lib.hid (IH a s mid (by omega) d wr hs S1.out hl.1 hl.2 (by omega) HQ.out.2.1 HQ.out.2.2.1)
            go_upto_region 43 with (go_at_fn 116; refine hc.out.mono ?_; rintro e w2 ⟨rfl, d2, hs2, hsim2, hsrt2, S3⟩)
            have HL := Lib.hid (And.intro hsim2 hsrt2)
            have T3 := Lib.hid S3
            clear hc hsim2 hsrt2 S3
            by_cases hr : mid < en ∧ en < b
            · have z1 : (mid : Int) < (en : Int) := by omega
              have z2 : (en : Int) < (b : Int) := by omega
              have hc := Lib.hid (IH mid en b (by omega) d2 w2 hs2 T3.out hr.1 hr.2 hb (HQ.out.2.2.2.1.congr (fun k h1 _ => HL.out.1.1 k (Or.inr h1))) (HQ.out.2.2.2.2.1.congr (fun k h1 _ => HL.out.1.1 k (Or.inr (by omega)))))
              go_wp2_with (go_at_fn 116; refine hc.out.mono ?_; rintro e w3 ⟨rfl, d3, hs3, hsim3, hsrt3, S4⟩)
              go_end0
              have HR := Lib.hid (And.intro hsim3 hsrt3)
              have J := sym_join (key := keyC) (f := getA d) (a := a) (m := mid) (b := b) (by omega) (by omega) HQ.out.2.2.2.2.2 HL.out.1 HL.out.2 HR.out.1 HR.out.2
              exact ⟨rfl, d3, hs3, HQ.out.1.trans J.1, J.2, S4⟩
            · by_cases hr1 : mid < en
              · have z1 : (mid : Int) < (en : Int) := by omega
                have z2 : ¬ (en : Int) < (b : Int) := by omega
                go_wp2
                go_end0
                have HR := Lib.hid (And.intro (Sim.refl keyC mid b (getA d2)) ((HQ.out.2.2.2.1.sub (Nat.le_refl mid) (show b ≤ en by omega)).congr (fun k h1 _ => HL.out.1.1 k (Or.inr h1))))
                have J := sym_join (key := keyC) (f := getA d) (a := a) (m := mid) (b := b) (by omega) (by omega) HQ.out.2.2.2.2.2 HL.out.1 HL.out.2 HR.out.1 HR.out.2
                exact ⟨rfl, d2, hs2, HQ.out.1.trans J.1, J.2, T3.out⟩
              · have z1 : ¬ (mid : Int) < (en : Int) := by omega
                go_wp2
                go_end0
                have HR := Lib.hid (And.intro (Sim.refl keyC mid b (getA d2)) ((HQ.out.2.2.2.2.1.sub (show en ≤ mid by omega) (Nat.le_refl b)).congr (fun k h1 _ => HL.out.1.1 k (Or.inr h1))))
                have J := sym_join (key := keyC) (f := getA d) (a := a) (m := mid) (b := b) (by omega) (by omega) HQ.out.2.2.2.2.2 HL.out.1 HL.out.2 HR.out.1 HR.out.2
                exact ⟨rfl, d2, hs2, HQ.out.1.trans J.1, J.2, T3.out⟩
          · by_cases hl1 : a < s
            · have y1 : (a : Int) < (s : Int) := by omega
              have y2 : ¬ (s : Int) < (mid : Int) := by omega
              go_upto_region 43 with fail
              have HL := Lib.hid (And.intro (Sim.refl keyC a mid (getA d)) (HQ.out.2.1.sub (Nat.le_refl a) (show mid ≤ s by omega)))
              by_cases hr : mid < en ∧ en < b
              · have z1 : (mid : Int) < (en : Int) := by omega
                have z2 : (en : Int) < (b : Int) := by omega
                have hc := Lib.hid (IH mid en b (by omega) d wr hs S1.out hr.1 hr.2 hb (HQ.out.2.2.2.1.congr (fun k h1 _ => HL.out.1.1 k (Or.inr h1))) (HQ.out.2.2.2.2.1.congr (fun k h1 _ => HL.out.1.1 k (Or.inr (by omega)))))
                go_wp2_with (go_at_fn 116; refine hc.out.mono ?_; rintro e w3 ⟨rfl, d3, hs3, hsim3, hsrt3, S4⟩)
                go_end0
                have HR := Lib.hid (And.intro hsim3 hsrt3)
                have J := sym_join (key := keyC) (f := getA d) (a := a) (m := mid) (b := b) (by omega) (by omega) HQ.out.2.2.2.2.2 HL.out.1 HL.out.2 HR.out.1 HR.out.2
                exact ⟨rfl, d3, hs3, HQ.out.1.trans J.1, J.2, S4⟩
              · by_cases hr1 : mid < en
                · have z1 : (mid : Int) < (en : Int) := by omega
                  have z2 : ¬ (en : Int) < (b : Int) := by omega
                  go_wp2
                  go_end0
                  have HR := Lib.hid (And.intro (Sim.refl keyC mid b (getA d)) ((HQ.out.2.2.2.1.sub (Nat.le_refl mid) (show b ≤ en by omega)).congr (fun k h1 _ => HL.out.1.1 k (Or.inr h1))))
                  have J := sym_join (key := keyC) (f := getA d) (a := a) (m := mid) (b := b) (by omega) (by omega) HQ.out.2.2.2.2.2 HL.out.1 HL.out.2 HR.out.1 HR.out.2
                  exact ⟨rfl, d, hs, HQ.out.1.trans J.1, J.2, S1.out⟩
                · have z1 : ¬ (mid : Int) < (en : Int) := by omega
                  go_wp2
                  go_end0
                  have HR := Lib.hid (And.intro (Sim.refl keyC mid b (getA d)) ((HQ.out.2.2.2.2.1.sub (show en ≤ mid by omega) (Nat.le_refl b)).congr (fun k h1 _ => HL.out.1.1 k (Or.inr h1))))
                  have J := sym_join (key := keyC) (f := getA d) (a := a) (m := mid) (b := b) (by omega) (by omega) HQ.out.2.2.2.2.2 HL.out.1 HL.out.2 HR.out.1 HR.out.2
                  exact ⟨rfl, d, hs, HQ.out.1.trans J.1, J.2, S1.out⟩
            · have y1 : ¬ (a : Int) < (s : Int) := by omega
              go_upto_region 43 with fail
              have HL := Lib.hid (And.intro (Sim.refl keyC a mid (getA d)) (HQ.out.2.2.1.sub (show s ≤ a by omega) (Nat.le_refl mid)))
              by_cases hr : mid < en ∧ en < b
              · have z1 : (mid : Int) < (en : Int) := by omega
                have z2 : (en : Int) < (b : Int) := by omega
                have hc := Lib.hid (IH mid en b (by omega) d wr hs S1.out hr.1 hr.2 hb (HQ.out.2.2.2.1.congr (fun k h1 _ => HL.out.1.1 k (Or.inr h1))) (HQ.out.2.2.2.2.1.congr (fun k h1 _ => HL.out.1.1 k (Or.inr (by omega)))))
                go_wp2_with (go_at_fn 116; refine hc.out.mono ?_; rintro e w3 ⟨rfl, d3, hs3, hsim3, hsrt3, S4⟩)
                go_end0
                have HR := Lib.hid (And.intro hsim3 hsrt3)
                have J := sym_join (key := keyC) (f := getA d) (a := a) (m := mid) (b := b) (by omega) (by omega) HQ.out.2.2.2.2.2 HL.out.1 HL.out.2 HR.out.1 HR.out.2
                exact ⟨rfl, d3, hs3, HQ.out.1.trans J.1, J.2, S4⟩
              · by_cases hr1 : mid < en
                · have z1 : (mid : Int) < (en : Int) := by omega
                  have z2 : ¬ (en : Int) < (b : Int) := by omega
                  go_wp2
                  go_end0
                  have HR := Lib.hid (And.intro (Sim.refl keyC mid b (getA d)) ((HQ.out.2.2.2.1.sub (Nat.le_refl mid) (show b ≤ en by omega)).congr (fun k h1 _ => HL.out.1.1 k (Or.inr h1))))
                  have J := sym_join (key := keyC) (f := getA d) (a := a) (m := mid) (b := b) (by omega) (by omega) HQ.out.2.2.2.2.2 HL.out.1 HL.out.2 HR.out.1 HR.out.2
                  exact ⟨rfl, d, hs, HQ.out.1.trans J.1, J.2, S1.out⟩
                · have z1 : ¬ (mid : Int) < (en : Int) := by omega
                  go_wp2
                  go_end0
                  have HR := Lib.hid (And.intro (Sim.refl keyC mid b (getA d)) ((HQ.out.2.2.2.2.1.sub (show en ≤ mid by omega) (Nat.le_refl b)).congr (fun k h1 _ => HL.out.1.1 k (Or.inr h1))))
                  have J := sym_join (key := keyC) (f := getA d) (a := a) (m := mid) (b := b) (by omega) (by omega) HQ.out.2.2.2.2.2 HL.out.1 HL.out.2 HR.out.1 HR.out.2
                  exact ⟨rfl, d, hs, HQ.out.1.trans J.1, J.2, S1.out⟩
set_option maxHeartbeats 40000000 in
set_option maxRecDepth 1000000 in
theorem sym4_calls (L : LaysC P k) (g : Nat) (cb : Array Value) (eg : ∀ args w, (callFunc g args).run P w = .ok (.enter g args) w) (blk off cap N : Nat) (d0 : Array CellV) (w0 : World) (hcmp : CmpLays P g cb encC k cfC blk off d0.size w0) (R : RowK encC k w0 blk off d0) (hs0 : d0.size = N) (hN : N ≤ 1000000) (a m b mid n : Nat) (d : Array CellV) (w : World) (hs : d.size = N) (S : SWK encC k w0 blk off d w) (ham : a + 1 < m) (hmb : m + 1 < b) (hb : b ≤ N) (s1 : Srt keyC (getA d) a m) (s2 : Srt keyC (getA d) m b) (hmid : mid = (a + b) / 2) (hn : n = mid + m) (hc0 : m ≤ mid) (IH : ∀ a' m' b', b' - a' < b - a → SymSpec P k g cb blk off cap N w0 a' m' b') :
    Calls P 116 #[.slice (some ⟨blk, off, none⟩) N cap, .int .i64 a, .int .i64 m, .int .i64 b, .func (.func g) #[] cb] w fun e w' => e = .returned (.tuple #[]) ∧ ∃ d' : Array CellV, d'.size = N ∧ Sim keyC a b (getA d) (getA d') ∧ Srt keyC (getA d') a b ∧ SWK encC k w0 blk off d' w' := by
  have mixed := L.mixed; have tT0 := L.tT0; have aT0 := L.aT0; have zT0 := L.zT0; have vT0 := L.vT0; have tT1 := L.tT1; have aT1 := L.aT1; have zT1 := L.zT1; have vT1 := L.vT1; have tT2 := L.tT2; have aT2 := L.aT2; have zT2 := L.zT2; have vT2 := L.vT2; have tT3 := L.tT3; have aT3 := L.aT3; have zT3 := L.zT3; have vT3 := L.vT3; have tT4 := L.tT4; have aT4 := L.aT4; have zT4 := L.zT4; have vT4 := L.vT4; have tT5 := L.tT5; have aT5 := L.aT5; have zT5 := L.zT5; have vT5 := L.vT5; have aE := L.aE; have zE := L.zE
  have HC : Aside _ := hcmp
  have S0 : Aside _ := S
  have HS1 := Lib.hid s1
  have HS2 := Lib.hid s2
  clear S hcmp s1 s2
  have eB : ∀ args w, (callFunc 134 args).run P w = .ok (.enter 134 args) w := enters_of L.fb (by kernel_rfl) rfl
  have eC : ∀ args w, (callFunc 116 args).run P w = .ok (.enter 116 args) w := enters_of L.fc (by kernel_rfl) rfl
  have r1 : IntKind.i64.wrap ((m : Int) - (a : Int)) = (m : Int) - (a : Int) := by rw [IntKind.wrap_i64]; omega
  have q1 : ((m : Int) - (a : Int) == 1) = false := by simp; omega
  have m' : IntKind.i64.wrap ((b : Int) - (m : Int)) = (b : Int) - (m : Int) := by rw [IntKind.wrap_i64]; omega
  have q0 : ((b : Int) - (m : Int) == 1) = false := by simp; omega
  have r4 : IntKind.i64.wrap ((a : Int) + (b : Int)) = (a : Int) + (b : Int) := by rw [IntKind.wrap_i64]; omega
  have r5 : IntKind.u64.wrap ((a : Int) + (b : Int)) = (a : Int) + (b : Int) := by simp [IntKind.wrap, IntKind.bits, IntKind.signed]; omega
  have r6 : ((a : Int) + (b : Int)) / 2 = (mid : Int) := by omega
  have r7 : (mid : Int) + (m : Int) = (n : Int) := by omega
  have r8 : IntKind.i64.wrap (n : Int) = (n : Int) := by rw [IntKind.wrap_i64]; omega
  obtain ⟨p, hp⟩ : ∃ p, p = n - 1 := ⟨_, rfl⟩
  have r9 : (n : Int) - 1 = (p : Int) := by omega
  have r10 : IntKind.i64.wrap (p : Int) = (p : Int) := by rw [IntKind.wrap_i64]; omega
  have hmz : ¬ (mid : Int) < (m : Int) := by omega
  clear hmid hn hp
  go_enter L.fc, Try.ntmps116
  go_wp2
  go_loopg [20, 21] (m - a) (fun kx s20 s21 wr => ∃ (s r : Nat), s20 = .int .i64 s ∧ s21 = .int .i64 r ∧ a ≤ s ∧ s ≤ r ∧ r ≤ m ∧ r - s ≤ kx ∧ Aside (SWK encC k w0 blk off d wr) ∧ Hid (SI keyC (getA d) (n - 1) a m s r))
  case atStart => exact ⟨a, m, by first | rfl | (congr 1; omega), by first | rfl | (congr 1; omega), Nat.le_refl _, by omega, Nat.le_refl _, Nat.le_refl _, S0, ⟨Nat.le_refl _, by omega, Nat.le_refl _, Or.inl rfl, Or.inl rfl⟩⟩
  case round =>
    obtain ⟨s, r, rfl, rfl, hst, hsr, hrr, hkx, S1, HE⟩ := hrel
    clear S0
    by_cases h0 : s < r
    · have h0z : (s : Int) < (r : Int) := by omega
      have v2 : IntKind.i64.wrap ((s : Int) + (r : Int)) = (s : Int) + (r : Int) := by rw [IntKind.wrap_i64]; omega
      have v3 : IntKind.u64.wrap ((s : Int) + (r : Int)) = (s : Int) + (r : Int) := by simp [IntKind.wrap, IntKind.bits, IntKind.signed]; omega
      obtain ⟨q, hq⟩ : ∃ q : Nat, (q : Int) = ((s : Int) + (r : Int)) / 2 := ⟨(s + r) / 2, by omega⟩
      have rh : ((s : Int) + (r : Int)) / 2 = (q : Int) := hq.symm
      have hq1 : s ≤ q ∧ q < r := by omega
      clear hq
      obtain ⟨pq, hpq⟩ : ∃ pq, pq = n - 1 - q := ⟨_, rfl⟩
      have HPQ := Lib.hid hpq
      have v4 : (p : Int) - (q : Int) = (pq : Int) := by omega
      clear hpq
      have v5 : IntKind.i64.wrap (pq : Int) = (pq : Int) := by rw [IntKind.wrap_i64]; omega
      have bq : (q : Int) < (N : Int) := by omega
      have bp : (pq : Int) < (N : Int) := by omega
      by_cases hlt : keyC (getA d pq) < keyC (getA d q)
      · have HLT := Lib.hid hlt
        clear hlt
        obtain ⟨x1, hx1⟩ : ∃ x, x = d[pq]! := ⟨_, rfl⟩
        obtain ⟨y1, hy1⟩ : ∃ x, x = d[q]! := ⟨_, rfl⟩
        have l1a := S1.out.ld R (by omega) P (pq) (by omega)
        have l1b := S1.out.ld R (by omega) P (q) (by omega)
        rw [← hx1] at l1a
        rw [← hy1] at l1b
        have hc1 := S1.out.cmp HC.out (by omega) x1 y1
        have hv1 : cfC x1 y1 < 0 := by rw [hx1, hy1]; exact cfC_lt.2 HLT.out
        have hd1 : decide (cfC x1 y1 < 0) = true := decide_eq_true hv1
        clear hx1 hy1
        go_wp2_with fail
        go_quiet_grown (first | (go_at_fn g; refine Calls.grown_of (hc1 _ _)))
        have S2 : Aside (SWK encC k w0 blk off d (grow (wr.drewN nq) osq)) := S1.out.grown nq osq
        clear l1a l1b hc1 S1
        generalize grow (wr.drewN nq) osq = w2 at S2 ⊢
        clear nq osq
        go_wp2
        go_roundg (q - s)
        case measure => omega
        case rel => exact ⟨s, q, rfl, rfl, hst, by omega, by omega, Nat.le_refl _, S2, HE.out.down hq1.1 hq1.2 (by rw [← HPQ.out]; exact HLT.out)⟩
      · have HLT := Lib.hid (Nat.le_of_not_lt hlt)
        clear hlt
        obtain ⟨x1, hx1⟩ : ∃ x, x = d[pq]! := ⟨_, rfl⟩
        obtain ⟨y1, hy1⟩ : ∃ x, x = d[q]! := ⟨_, rfl⟩
        have l1a := S1.out.ld R (by omega) P (pq) (by omega)
        have l1b := S1.out.ld R (by omega) P (q) (by omega)
        rw [← hx1] at l1a
        rw [← hy1] at l1b
        have hc1 := S1.out.cmp HC.out (by omega) x1 y1
        have hv1 : ¬ cfC x1 y1 < 0 := by rw [hx1, hy1]; exact cfC_ge.2 HLT.out
        have hd1 : decide (cfC x1 y1 < 0) = false := decide_eq_false hv1
        clear hx1 hy1
        go_wp2_with fail
        go_quiet_grown (first | (go_at_fn g; refine Calls.grown_of (hc1 _ _)))
        have S2 : Aside (SWK encC k w0 blk off d (grow (wr.drewN nq) osq)) := S1.out.grown nq osq
        clear l1a l1b hc1 S1
        generalize grow (wr.drewN nq) osq = w2 at S2 ⊢
        clear nq osq
        go_wp2
        go_roundg (r - (q + 1))
        case measure => omega
        case rel => exact ⟨q + 1, r, by go_num, rfl, by omega, by omega, by omega, Nat.le_refl _, S2, HE.out.up hq1.1 hq1.2 (by rw [← HPQ.out]; exact HLT.out)⟩
    · have h0z : ¬ (s : Int) < (r : Int) := by omega
      obtain rfl : s = r := by omega
      have HFD := SI.found (key := keyC) (f := getA d) (a := a) (m := m) (b := b) (mid := mid) (n := n) (st0 := a) (r0 := m) (s := s) (by omega) (by omega) (by omega) (by omega) (by omega) HS1.out HS2.out HE.out
      obtain ⟨f1, f2, f3, f4, f5, f6, f7⟩ := HFD
      have HSR := sym_rot (key := keyC) f1 f2 f3 f4 HS1.out HS2.out f6 f7
      rw [f5] at HSR
      clear f6 f7
      obtain ⟨en, hen⟩ : ∃ en, en = n - s := ⟨_, rfl⟩
      rw [← hen] at f3 f4 f5 HSR
      have HSR := Lib.hid HSR
      have u1 : (n : Int) - (s : Int) = (en : Int) := by omega
      have u2 : IntKind.i64.wrap ((n : Int) - (s : Int)) = (en : Int) := by rw [IntKind.wrap_i64]; omega
      have u3 : IntKind.i64.wrap (en : Int) = (en : Int) := by rw [IntKind.wrap_i64]; omega
      clear hen HE
      by_cases ht : s < m ∧ m < en
      · have x1 : (s : Int) < (m : Int) := by omega
        have x2 : (m : Int) < (en : Int) := by omega
        have hc := Lib.hid (rotate_calls L blk off cap s m en N s m en d0 d w0 wr (.func (.func g) #[] cb) rfl rfl rfl R hs0 hs S1.out ht.1 ht.2 (by omega) hN)
        go_upto_region 41 with (go_at_fn 134; refine hc.out.mono ?_; rintro e w1 ⟨rfl, d1, hs1, hd1, S2⟩)
        have HG := Lib.hid hd1
        have T2 := Lib.hid S2
        clear hc hd1 S2 S1
        have HQ : Hid (Sim keyC a b (getA d) (getA d1) ∧ Srt keyC (getA d1) a s ∧ Srt keyC (getA d1) s mid ∧ Srt keyC (getA d1) mid en ∧ Srt keyC (getA d1) en b ∧ (∀ p q, a ≤ p → p < mid → mid ≤ q → q < b → keyC (getA d1 p) ≤ keyC (getA d1 q))) := by
          have := HSR.out
          rw [← HG.out] at this
          exact this
        by_cases hl : a < s ∧ s < mid
        · have y1 : (a : Int) < (s : Int) := by omega
          have y2 : (s : Int) < (mid : Int) := by omega
          have hc := Lib.hid (IH a s mid (by omega) d1 w1 hs1 T2.out hl.1 hl.2 (by omega) HQ.out.2.1 HQ.out.2.2.1)
          go_upto_region 43 with (go_at_fn 116; refine hc.out.mono ?_; rintro e w2 ⟨rfl, d2, hs2, hsim2, hsrt2, S3⟩)
          have HL := Lib.hid (And.intro hsim2 hsrt2)
          have T3 := Lib.hid S3
          clear hc hsim2 hsrt2 S3
          by_cases hr : mid < en ∧ en < b
          · have z1 : (mid : Int) < (en : Int) := by omega
            have z2 : (en : Int) < (b : Int) := by omega
            have hc := Lib.hid (IH mid en b (by omega) d2 w2 hs2 T3.out hr.1 hr.2 hb (HQ.out.2.2.2.1.congr (fun k h1 _ => HL.out.1.1 k (Or.inr h1))) (HQ.out.2.2.2.2.1.congr (fun k h1 _ => HL.out.1.1 k (Or.inr (by omega)))))
            go_wp2_with (go_at_fn 116; refine hc.out.mono ?_; rintro e w3 ⟨rfl, d3, hs3, hsim3, hsrt3, S4⟩)
            go_end0
            have HR := Lib.hid (And.intro hsim3 hsrt3)
            have J := sym_join (key := keyC) (f := getA d1) (a := a) (m := mid) (b := b) (by omega) (by omega) HQ.out.2.2.2.2.2 HL.out.1 HL.out.2 HR.out.1 HR.out.2
            exact ⟨rfl, d3, hs3, HQ.out.1.trans J.1, J.2, S4⟩
          · by_cases hr1 : mid < en
            · have z1 : (mid : Int) < (en : Int) := by omega
              have z2 : ¬ (en : Int) < (b : Int) := by omega
              go_wp2
              go_end0
              have HR := Lib.hid (And.intro (Sim.refl keyC mid b (getA d2)) ((HQ.out.2.2.2.1.sub (Nat.le_refl mid) (show b ≤ en by omega)).congr (fun k h1 _ => HL.out.1.1 k (Or.inr h1))))
              have J := sym_join (key := keyC) (f := getA d1) (a := a) (m := mid) (b := b) (by omega) (by omega) HQ.out.2.2.2.2.2 HL.out.1 HL.out.2 HR.out.1 HR.out.2
              exact ⟨rfl, d2, hs2, HQ.out.1.trans J.1, J.2, T3.out⟩
            · have z1 : ¬ (mid : Int) < (en : Int) := by omega
              go_wp2
              go_end0
              have HR := Lib.hid (And.intro (Sim.refl keyC mid b (getA d2)) ((HQ.out.2.2.2.2.1.sub (show en ≤ mid by omega) (Nat.le_refl b)).congr (fun k h1 _ => HL.out.1.1 k (Or.inr h1))))
              have J := sym_join (key := keyC) (f := getA d1) (a := a) (m := mid) (b := b) (by omega) (by omega) HQ.out.2.2.2.2.2 HL.out.1 HL.out.2 HR.out.1 HR.out.2
              exact ⟨rfl, d2, hs2, HQ.out.1.trans J.1, J.2, T3.out⟩
        · by_cases hl1 : a < s
          · have y1 : (a : Int) < (s : Int) := by omega
            have y2 : ¬ (s : Int) < (mid : Int) := by omega
            go_upto_region 43 with fail
            have HL := Lib.hid (And.intro (Sim.refl keyC a mid (getA d1)) (HQ.out.2.1.sub (Nat.le_refl a) (show mid ≤ s by omega)))
            by_cases hr : mid < en ∧ en < b
            · have z1 : (mid : Int) < (en : Int) := by omega
              have z2 : (en : Int) < (b : Int) := by omega
              have hc := Lib.hid (IH mid en b (by omega) d1 w1 hs1 T2.out hr.1 hr.2 hb (HQ.out.2.2.2.1.congr (fun k h1 _ => HL.out.1.1 k (Or.inr h1))) (HQ.out.2.2.2.2.1.congr (fun k h1 _ => HL.out.1.1 k (Or.inr (by omega)))))
              go_wp2_with (go_at_fn 116; refine hc.out.mono ?_; rintro e w3 ⟨rfl, d3, hs3, hsim3, hsrt3, S4⟩)
              go_end0
              have HR := Lib.hid (And.intro hsim3 hsrt3)
              have J := sym_join (key := keyC) (f := getA d1) (a := a) (m := mid) (b := b) (by omega) (by omega) HQ.out.2.2.2.2.2 HL.out.1 HL.out.2 HR.out.1 HR.out.2
              exact ⟨rfl, d3, hs3, HQ.out.1.trans J.1, J.2, S4⟩
            · by_cases hr1 : mid < en
              · have z1 : (mid : Int) < (en : Int) := by omega
                have z2 : ¬ (en : Int) < (b : Int) := by omega
                go_wp2
                go_end0
                have HR := Lib.hid (And.intro (Sim.refl keyC mid b (getA d1)) ((HQ.out.2.2.2.1.sub (Nat.le_refl mid) (show b ≤ en by omega)).congr (fun k h1 _ => HL.out.1.1 k (Or.inr h1))))
                have J := sym_join (key := keyC) (f := getA d1) (a := a) (m := mid) (b := b) (by omega) (by omega) HQ.out.2.2.2.2.2 HL.out.1 HL.out.2 HR.out.1 HR.out.2
                exact ⟨rfl, d1, hs1, HQ.out.1.trans J.1, J.2, T2.out⟩
              · have z1 : ¬ (mid : Int) < (en : Int) := by omega
                go_wp2
                go_end0
                have HR := Lib.hid (And.intro (Sim.refl keyC mid b (getA d1)) ((HQ.out.2.2.2.2.1.sub (show en ≤ mid by omega) (Nat.le_refl b)).congr (fun k h1 _ => HL.out.1.1 k (Or.inr h1))))
                have J := sym_join (key := keyC) (f := getA d1) (a := a) (m := mid) (b := b) (by omega) (by omega) HQ.out.2.2.2.2.2 HL.out.1 HL.out.2 HR.out.1 HR.out.2
                exact ⟨rfl, d1, hs1, HQ.out.1.trans J.1, J.2, T2.out⟩
          · have y1 : ¬ (a : Int) < (s : Int) := by omega
            go_upto_region 43 with fail
            have HL := Lib.hid (And.intro (Sim.refl keyC a mid (getA d1)) (HQ.out.2.2.1.sub (show s ≤ a by omega) (Nat.le_refl mid)))
            by_cases hr : mid < en ∧ en < b
            · have z1 : (mid : Int) < (en : Int) := by omega
              have z2 : (en : Int) < (b : Int) := by omega
              have hc := Lib.hid (IH mid en b (by omega) d1 w1 hs1 T2.out hr.1 hr.2 hb (HQ.out.2.2.2.1.congr (fun k h1 _ => HL.out.1.1 k (Or.inr h1))) (HQ.out.2.2.2.2.1.congr (fun k h1 _ => HL.out.1.1 k (Or.inr (by omega)))))
              go_wp2_with (go_at_fn 116; refine hc.out.mono ?_; rintro e w3 ⟨rfl, d3, hs3, hsim3, hsrt3, S4⟩)
              go_end0
              have HR := Lib.hid (And.intro hsim3 hsrt3)
              have J := sym_join (key := keyC) (f := getA d1) (a := a) (m := mid) (b := b) (by omega) (by omega) HQ.out.2.2.2.2.2 HL.out.1 HL.out.2 HR.out.1 HR.out.2
              exact ⟨rfl, d3, hs3, HQ.out.1.trans J.1, J.2, S4⟩
            · by_cases hr1 : mid < en
              · have z1 : (mid : Int) < (en : Int) := by omega
                have z2 : ¬ (en : Int) < (b : Int) := by omega
                go_wp2
                go_end0
                have HR := Lib.hid (And.intro (Sim.refl keyC mid b (getA d1)) ((HQ.out.2.2.2.1.sub (Nat.le_refl mid) (show b ≤ en by omega)).congr (fun k h1 _ => HL.out.1.1 k (Or.inr h1))))
                have J := sym_join (key := keyC) (f := getA d1) (a := a) (m := mid) (b := b) (by omega) (by omega) HQ.out.2.2.2.2.2 HL.out.1 HL.out.2 HR.out.1 HR.out.2
                exact ⟨rfl, d1, hs1, HQ.out.1.trans J.1, J.2, T2.out⟩
              · have z1 : ¬ (mid : Int) < (en : Int) := by omega
                go_wp2
                go_end0
                have HR := Lib.hid (And.intro (Sim.refl keyC mid b (getA d1)) ((HQ.out.2.2.2.2.1.sub (show en ≤ mid by omega) (Nat.le_refl b)).congr (fun k h1 _ => HL.out.1.1 k (Or.inr h1))))
                have J := sym_join (key := keyC) (f := getA d1) (a := a) (m := mid) (b := b) (by omega) (by omega) HQ.out.2.2.2.2.2 HL.out.1 HL.out.2 HR.out.1 HR.out.2
                exact ⟨rfl, d1, hs1, HQ.out.1.trans J.1, J.2, T2.out⟩
      · have HG : Hid (getA d = rot (getA d) s m en) := by
          show _ = _
          by_cases e : s < m
          · rw [show en = m by omega, rot_right _ _ _ f2]
          · rw [show s = m by omega, rot_left]
        by_cases ht1 : s < m
        · have x1 : (s : Int) < (m : Int) := by omega
          have x2 : ¬ (m : Int) < (en : Int) := by omega
          go_upto_region 41 with fail
          have HQ : Hid (Sim keyC a b (getA d) (getA d) ∧ Srt keyC (getA d) a s ∧ Srt keyC (getA d) s mid ∧ Srt keyC (getA d) mid en ∧ Srt keyC (getA d) en b ∧ (∀ p q, a ≤ p → p < mid → mid ≤ q → q < b → keyC (getA d p) ≤ keyC (getA d q))) := by
            have := HSR.out
            rw [← HG.out] at this
            exact this
          by_cases hl : a < s ∧ s < mid
          · have y1 : (a : Int) < (s : Int) := by omega
            have y2 : (s : Int) < (mid : Int) := by omega
            have hc := Lib.hid (IH a s mid (by omega) d wr hs S1.out hl.1 hl.2 (by omega) HQ.out.2.1 HQ.out.2.2.1)
            go_upto_region 43 with (go_at_fn 116; refine hc.out.mono ?_; rintro e w2 ⟨rfl, d2, hs2, hsim2, hsrt2, S3⟩)
            have HL := Lib.hid (And.intro hsim2 hsrt2)
            have T3 := Lib.hid S3
            clear hc hsim2 hsrt2 S3
            by_cases hr : mid < en ∧ en < b
            · have z1 : (mid : Int) < (en : Int) := by omega
              have z2 : (en : Int) < (b : Int) := by omega
              have hc := Lib.hid (IH mid en b (by omega) d2 w2 hs2 T3.out hr.1 hr.2 hb (HQ.out.2.2.2.1.congr (fun k h1 _ => HL.out.1.1 k (Or.inr h1))) (HQ.out.2.2.2.2.1.congr (fun k h1 _ => HL.out.1.1 k (Or.inr (by omega)))))
              go_wp2_with (go_at_fn 116; refine hc.out.mono ?_; rintro e w3 ⟨rfl, d3, hs3, hsim3, hsrt3, S4⟩)
              go_end0
              have HR := Lib.hid (And.intro hsim3 hsrt3)
              have J := sym_join (key := keyC) (f := getA d) (a := a) (m := mid) (b := b) (by omega) (by omega) HQ.out.2.2.2.2.2 HL.out.1 HL.out.2 HR.out.1 HR.out.2
              exact ⟨rfl, d3, hs3, HQ.out.1.trans J.1, J.2, S4⟩
            · by_cases hr1 : mid < en
              · have z1 : (mid : Int) < (en : Int) := by omega
                have z2 : ¬ (en : Int) < (b : Int) := by omega
                go_wp2
                go_end0
                have HR := Lib.hid (And.intro (Sim.refl keyC mid b (getA d2)) ((HQ.out.2.2.2.1.sub (Nat.le_refl mid) (show b ≤ en by omega)).congr (fun k h1 _ => HL.out.1.1 k (Or.inr h1))))
                have J := sym_join (key := keyC) (f := getA d) (a := a) (m := mid) (b := b) (by omega) (by omega) HQ.out.2.2.2.2.2 HL.out.1 HL.out.2 HR.out.1 HR.out.2
                exact ⟨rfl, d2, hs2, HQ.out.1.trans J.1, J.2, T3.out⟩
              · have z1 : ¬ (mid : Int) < (en : Int) := by omega
                go_wp2
                go_end0
                have HR := Lib.hid (And.intro (Sim.refl keyC mid b (getA d2)) ((HQ.out.2.2.2.2.1.sub (show en ≤ mid by omega) (Nat.le_refl b)).congr (fun k h1 _ => HL.out.1.1 k (Or.inr h1))))
                have J := sym_join (key := keyC) (f := getA d) (a := a) (m := mid) (b := b) (by omega) (by omega) HQ.out.2.2.2.2.2 HL.out.1 HL.out.2 HR.out.1 HR.out.2
                exact ⟨rfl, d2, hs2, HQ.out.1.trans J.1, J.2, T3.out⟩
          · by_cases hl1 : a < s
            · have y1 : (a : Int) < (s : Int) := by omega
              have y2 : ¬ (s : Int) < (mid : Int) := by omega
              go_upto_region 43 with fail
              have HL := Lib.hid (And.intro (Sim.refl keyC a mid (getA d)) (HQ.out.2.1.sub (Nat.le_refl a) (show mid ≤ s by omega)))
              by_cases hr : mid < en ∧ en < b
              · have z1 : (mid : Int) < (en : Int) := by omega
                have z2 : (en : Int) < (b : Int) := by omega
                have hc := Lib.hid (IH mid en b (by omega) d wr hs S1.out hr.1 hr.2 hb (HQ.out.2.2.2.1.congr (fun k h1 _ => HL.out.1.1 k (Or.inr h1))) (HQ.out.2.2.2.2.1.congr (fun k h1 _ => HL.out.1.1 k (Or.inr (by omega)))))
                go_wp2_with (go_at_fn 116; refine hc.out.mono ?_; rintro e w3 ⟨rfl, d3, hs3, hsim3, hsrt3, S4⟩)
                go_end0
                have HR := Lib.hid (And.intro hsim3 hsrt3)
                have J := sym_join (key := keyC) (f := getA d) (a := a) (m := mid) (b := b) (by omega) (by omega) HQ.out.2.2.2.2.2 HL.out.1 HL.out.2 HR.out.1 HR.out.2
                exact ⟨rfl, d3, hs3, HQ.out.1.trans J.1, J.2, S4⟩
              · by_cases hr1 : mid < en
                · have z1 : (mid : Int) < (en : Int) := by omega
                  have z2 : ¬ (en : Int) < (b : Int) := by omega
                  go_wp2
                  go_end0
                  have HR := Lib.hid (And.intro (Sim.refl keyC mid b (getA d)) ((HQ.out.2.2.2.1.sub (Nat.le_refl mid) (show b ≤ en by omega)).congr (fun k h1 _ => HL.out.1.1 k (Or.inr h1))))
                  have J := sym_join (key := keyC) (f := getA d) (a := a) (m := mid) (b := b) (by omega) (by omega) HQ.out.2.2.2.2.2 HL.out.1 HL.out.2 HR.out.1 HR.out.2
                  exact ⟨rfl, d, hs, HQ.out.1.trans J.1, J.2, S1.out⟩
                · have z1 : ¬ (mid : Int) < (en : Int) := by omega
                  go_wp2
                  go_end0
                  have HR := Lib.hid (And.intro (Sim.refl keyC mid b (getA d)) ((HQ.out.2.2.2.2.1.sub (show en ≤ mid by omega) (Nat.le_refl b)).congr (fun k h1 _ => HL.out.1.1 k (Or.inr h1))))
                  have J := sym_join (key := keyC) (f := getA d) (a := a) (m := mid) (b := b) (by omega) (by omega) HQ.out.2.2.2.2.2 HL.out.1 HL.out.2 HR.out.1 HR.out.2
                  exact ⟨rfl, d, hs, HQ.out.1.trans J.1, J.2, S1.out⟩
            · have y1 : ¬ (a : Int) < (s : Int) := by omega
              go_upto_region 43 with fail
              have HL := Lib.hid (And.intro (Sim.refl keyC a mid (getA d)) (HQ.out.2.2.1.sub (show s ≤ a by omega) (Nat.le_refl mid)))
              by_cases hr : mid < en ∧ en < b
              · have z1 : (mid : Int) < (en : Int) := by omega
                have z2 : (en : Int) < (b : Int) := by omega
                have hc := Lib.hid (IH mid en b (by omega) d wr hs S1.out hr.1 hr.2 hb (HQ.out.2.2.2.1.congr (fun k h1 _ => HL.out.1.1 k (Or.inr h1))) (HQ.out.2.2.2.2.1.congr (fun k h1 _ => HL.out.1.1 k (Or.inr (by omega)))))
                go_wp2_with (go_at_fn 116; refine hc.out.mono ?_; rintro e w3 ⟨rfl, d3, hs3, hsim3, hsrt3, S4⟩)
                go_end0
                have HR := Lib.hid (And.intro hsim3 hsrt3)
                have J := sym_join (key := keyC) (f := getA d) (a := a) (m := mid) (b := b) (by omega) (by omega) HQ.out.2.2.2.2.2 HL.out.1 HL.out.2 HR.out.1 HR.out.2
                exact ⟨rfl, d3, hs3, HQ.out.1.trans J.1, J.2, S4⟩
              · by_cases hr1 : mid < en
                · have z1 : (mid : Int) < (en : Int) := by omega
                  have z2 : ¬ (en : Int) < (b : Int) := by omega
                  go_wp2
                  go_end0
                  have HR := Lib.hid (And.intro (Sim.refl keyC mid b (getA d)) ((HQ.out.2.2.2.1.sub (Nat.le_refl mid) (show b ≤ en by omega)).congr (fun k h1 _ => HL.out.1.1 k (Or.inr h1))))
                  have J := sym_join (key := keyC) (f := getA d) (a := a) (m := mid) (b := b) (by omega) (by omega) HQ.out.2.2.2.2.2 HL.out.1 HL.out.2 HR.out.1 HR.out.2
                  exact ⟨rfl, d, hs, HQ.out.1.trans J.1, J.2, S1.out⟩
                · have z1 : ¬ (mid : Int) < (en : Int) := by omega
                  go_wp2
                  go_end0
                  have HR := Lib.hid (And.intro (Sim.refl keyC mid b (getA d)) ((HQ.out.2.2.2.2.1.sub (show en ≤ mid by omega) (Nat.le_refl b)).congr (fun k h1 _ => HL.out.1.1 k (Or.inr h1))))
                  have J := sym_join (key := keyC) (f := getA d) (a := a) (m := mid) (b := b) (by omega) (by omega) HQ.out.2.2.2.2.2 HL.out.1 HL.out.2 HR.out.1 HR.out.2
                  exact ⟨rfl, d, hs, HQ.out.1.trans J.1, J.2, S1.out⟩
        · have x1 : ¬ (s : Int) < (m : Int) := by omega
          go_upto_region 41 with fail
          have HQ : Hid (Sim keyC a b (getA d) (getA d) ∧ Srt keyC (getA d) a s ∧ Srt keyC (getA d) s mid ∧ Srt keyC (getA d) mid en ∧ Srt keyC (getA d) en b ∧ (∀ p q, a ≤ p → p < mid → mid ≤ q → q < b → keyC (getA d p) ≤ keyC (getA d q))) := by
            have := HSR.out
            rw [← HG.out] at this
            exact this
          by_cases hl : a < s ∧ s < mid
          · have y1 : (a : Int) < (s : Int) := by omega
            have y2 : (s : Int) < (mid : Int) := by omega
            have hc := Lib.hid (IH a s mid (by omega) d wr hs S1.out hl.1 hl.2 (by omega) HQ.out.2.1 HQ.out.2.2.1)
            go_upto_region 43 with (go_at_fn 116; refine hc.out.mono ?_; rintro e w2 ⟨rfl, d2, hs2, hsim2, hsrt2, S3⟩)
            have HL := Lib.hid (And.intro hsim2 hsrt2)
            have T3 := Lib.hid S3
            clear hc hsim2 hsrt2 S3
            by_cases hr : mid < en ∧ en < b
            · have z1 : (mid : Int) < (en : Int) := by omega
              have z2 : (en : Int) < (b : Int) := by omega
              have hc := Lib.hid (IH mid en b (by omega) d2 w2 hs2 T3.out hr.1 hr.2 hb (HQ.out.2.2.2.1.congr (fun k h1 _ => HL.out.1.1 k (Or.inr h1))) (HQ.out.2.2.2.2.1.congr (fun k h1 _ => HL.out.1.1 k (Or.inr (by omega)))))
              go_wp2_with (go_at_fn 116; refine hc.out.mono ?_; rintro e w3 ⟨rfl, d3, hs3, hsim3, hsrt3, S4⟩)
              go_end0
              have HR := Lib.hid (And.intro hsim3 hsrt3)
              have J := sym_join (key := keyC) (f := getA d) (a := a) (m := mid) (b := b) (by omega) (by omega) HQ.out.2.2.2.2.2 HL.out.1 HL.out.2 HR.out.1 HR.out.2
              exact ⟨rfl, d3, hs3, HQ.out.1.trans J.1, J.2, S4⟩
            · by_cases hr1 : mid < en
              · have z1 : (mid : Int) < (en : Int) := by omega
                have z2 : ¬ (en : Int) < (b : Int) := by omega
                go_wp2
                go_end0
                have HR := Lib.hid (And.intro (Sim.refl keyC mid b (getA d2)) ((HQ.out.2.2.2.1.sub (Nat.le_refl mid) (show b ≤ en by omega)).congr (fun k h1 _ => HL.out.1.1 k (Or.inr h1))))
                have J := sym_join (key := keyC) (f := getA d) (a := a) (m := mid) (b := b) (by omega) (by omega) HQ.out.2.2.2.2.2 HL.out.1 HL.out.2 HR.out.1 HR.out.2
                exact ⟨rfl, d2, hs2, HQ.out.1.trans J.1, J.2, T3.out⟩
              · have z1 : ¬ (mid : Int) < (en : Int) := by omega
                go_wp2
                go_end0
                have HR := Lib.hid (And.intro (Sim.refl keyC mid b (getA d2)) ((HQ.out.2.2.2.2.1.sub (show en ≤ mid by omega) (Nat.le_refl b)).congr (fun k h1 _ => HL.out.1.1 k (Or.inr h1))))
                have J := sym_join (key := keyC) (f := getA d) (a := a) (m := mid) (b := b) (by omega) (by omega) HQ.out.2.2.2.2.2 HL.out.1 HL.out.2 HR.out.1 HR.out.2
                exact ⟨rfl, d2, hs2, HQ.out.1.trans J.1, J.2, T3.out⟩
          · by_cases hl1 : a < s
            · have y1 : (a : Int) < (s : Int) := by omega
              have y2 : ¬ (s : Int) < (mid : Int) := by omega
              go_upto_region 43 with fail
              have HL := Lib.hid (And.intro (Sim.refl keyC a mid (getA d)) (HQ.out.2.1.sub (Nat.le_refl a) (show mid ≤ s by omega)))
              by_cases hr : mid < en ∧ en < b
              · have z1 : (mid : Int) < (en : Int) := by omega
                have z2 : (en : Int) < (b : Int) := by omega
                have hc := Lib.hid (IH mid en b (by omega) d wr hs S1.out hr.1 hr.2 hb (HQ.out.2.2.2.1.congr (fun k h1 _ => HL.out.1.1 k (Or.inr h1))) (HQ.out.2.2.2.2.1.congr (fun k h1 _ => HL.out.1.1 k (Or.inr (by omega)))))
                go_wp2_with (go_at_fn 116; refine hc.out.mono ?_; rintro e w3 ⟨rfl, d3, hs3, hsim3, hsrt3, S4⟩)
                go_end0
                have HR := Lib.hid (And.intro hsim3 hsrt3)
                have J := sym_join (key := keyC) (f := getA d) (a := a) (m := mid) (b := b) (by omega) (by omega) HQ.out.2.2.2.2.2 HL.out.1 HL.out.2 HR.out.1 HR.out.2
                exact ⟨rfl, d3, hs3, HQ.out.1.trans J.1, J.2, S4⟩
              · by_cases hr1 : mid < en
                · have z1 : (mid : Int) < (en : Int) := by omega
                  have z2 : ¬ (en : Int) < (b : Int) := by omega
                  go_wp2
                  go_end0
                  have HR := Lib.hid (And.intro (Sim.refl keyC mid b (getA d)) ((HQ.out.2.2.2.1.sub (Nat.le_refl mid) (show b ≤ en by omega)).congr (fun k h1 _ => HL.out.1.1 k (Or.inr h1))))
                  have J := sym_join (key := keyC) (f := getA d) (a := a) (m := mid) (b := b) (by omega) (by omega) HQ.out.2.2.2.2.2 HL.out.1 HL.out.2 HR.out.1 HR.out.2
                  exact ⟨rfl, d, hs, HQ.out.1.trans J.1, J.2, S1.out⟩
                · have z1 : ¬ (mid : Int) < (en : Int) := by omega
                  go_wp2
                  go_end0
                  have HR := Lib.hid (And.intro (Sim.refl keyC mid b (getA d)) ((HQ.out.2.2.2.2.1.sub (show en ≤ mid by omega) (Nat.le_refl b)).congr (fun k h1 _ => HL.out.1.1 k (Or.inr h1))))
                  have J := sym_join (key := keyC) (f := getA d) (a := a) (m := mid) (b := b) (by omega) (by omega) HQ.out.2.2.2.2.2 HL.out.1 HL.out.2 HR.out.1 HR.out.2
                  exact ⟨rfl, d, hs, HQ.out.1.trans J.1, J.2, S1.out⟩
            · have y1 : ¬ (a : Int) < (s : Int) := by omega
              go_upto_region 43 with fail
              have HL := Lib.hid (And.intro (Sim.refl keyC a mid (getA d)) (HQ.out.2.2.1.sub (show s ≤ a by omega) (Nat.le_refl mid)))
              by_cases hr : mid < en ∧ en < b
              · have z1 : (mid : Int) < (en : Int) := by omega
                have z2 : (en : Int) < (b : Int) := by omega
                have hc := Lib.hid (IH mid en b (by omega) d wr hs S1.out hr.1 hr.2 hb (HQ.out.2.2.2.1.congr (fun k h1 _ => HL.out.1.1 k (Or.inr h1))) (HQ.out.2.2.2.2.1.congr (fun k h1 _ => HL.out.1.1 k (Or.inr (by omega)))))
                go_wp2_with (go_at_fn 116; refine hc.out.mono ?_; rintro e w3 ⟨rfl, d3, hs3, hsim3, hsrt3, S4⟩)
                go_end0
                have HR := Lib.hid (And.intro hsim3 hsrt3)
                have J := sym_join (key := keyC) (f := getA d) (a := a) (m := mid) (b := b) (by omega) (by omega) HQ.out.2.2.2.2.2 HL.out.1 HL.out.2 HR.out.1 HR.out.2
                exact ⟨rfl, d3, hs3, HQ.out.1.trans J.1, J.2, S4⟩
              · by_cases hr1 : mid < en
                · have z1 : (mid : Int) < (en : Int) := by omega
                  have z2 : ¬ (en : Int) < (b : Int) := by omega
                  go_wp2
                  go_end0
                  have HR := Lib.hid (And.intro (Sim.refl keyC mid b (getA d)) ((HQ.out.2.2.2.1.sub (Nat.le_refl mid) (show b ≤ en by omega)).congr (fun k h1 _ => HL.out.1.1 k (Or.inr h1))))
                  have J := sym_join (key := keyC) (f := getA d) (a := a) (m := mid) (b := b) (by omega) (by omega) HQ.out.2.2.2.2.2 HL.out.1 HL.out.2 HR.out.1 HR.out.2
                  exact ⟨rfl, d, hs, HQ.out.1.trans J.1, J.2, S1.out⟩
                · have z1 : ¬ (mid : Int) < (en : Int) := by omega
                  go_wp2
                  go_end0
                  have HR := Lib.hid (And.intro (Sim.refl keyC mid b (getA d)) ((HQ.out.2.2.2.2.1.sub (show en ≤ mid by omega) (Nat.le_refl b)).congr (fun k h1 _ => HL.out.1.1 k (Or.inr h1))))
                  have J := sym_join (key := keyC) (f := getA d) (a := a) (m := mid) (b := b) (by omega) (by omega) HQ.out.2.2.2.2.2 HL.out.1 HL.out.2 HR.out.1 HR.out.2
                  exact ⟨rfl, d, hs, HQ.out.1.trans J.1, J.2, S1.out⟩
theorem symMerge_calls (L : LaysC P k) (g : Nat) (cb : Array Value) (eg : ∀ args w, (callFunc g args).run P w = .ok (.enter g args) w) (blk off cap N : Nat) (d0 : Array CellV) (w0 : World) (hcmp : CmpLays P g cb encC k cfC blk off d0.size w0) (R : RowK encC k w0 blk off d0) (hs0 : d0.size = N) (hN : N ≤ 1000000) : ∀ (F a m b : Nat), b - a ≤ F → SymSpec P k g cb blk off cap N w0 a m b
  | 0, a, m, b, hF => fun d w hs S ham hmb hb s1 s2 => by omega
  | F + 1, a, m, b, hF => fun d w hs S ham hmb hb s1 s2 => by
    have IH : ∀ a' m' b', b' - a' < b - a → SymSpec P k g cb blk off cap N w0 a' m' b' := fun a' m' b' h => symMerge_calls L g cb eg blk off cap N d0 w0 hcmp R hs0 hN F a' m' b' (by omega)
    by_cases c1 : a + 1 = m
    · exact sym1_calls L g cb eg blk off cap N d0 w0 hcmp R hs0 hN a m b d w hs S c1 hmb hb s2
    · by_cases c2 : m + 1 = b
      · exact sym2_calls L g cb eg blk off cap N d0 w0 hcmp R hs0 hN a m b d w hs S (by omega) c2 hb s1
      · by_cases c3 : (a + b) / 2 < m
        · exact sym3_calls L g cb eg blk off cap N d0 w0 hcmp R hs0 hN a m b _ _ d w hs S (by omega) (by omega) hb s1 s2 rfl rfl c3 IH
        · exact sym4_calls L g cb eg blk off cap N d0 w0 hcmp R hs0 hN a m b _ _ d w hs S (by omega) (by omega) hb s1 s2 rfl rfl (by omega) IH
end
end Go.Proofs.Ytkppignoomnmdaa
