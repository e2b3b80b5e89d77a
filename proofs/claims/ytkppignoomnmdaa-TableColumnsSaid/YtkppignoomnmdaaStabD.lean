/- Contract of the stable sort at the table's cells. -/
import Derived.Test.YtkppignoomnmdaaStabC
namespace Go.Proofs.Ytkppignoomnmdaa
open Go.Shelf Go.RowKit Go.Lib Go.Sort
set_option linter.unusedVariables false
set_option linter.unusedSimpArgs false
set_option linter.unusedSectionVars false
section
variable {α : Type} [Inhabited α] {key : α → Nat}
/-- The blocks of B that begin at A or behind it are sorted. -/
def BlkT (key : α → Nat) (f : Nat → α) (n B A : Nat) : Prop := ∀ t, A ≤ t * B → t * B < n → Srt key f (t * B) (min (t * B + B) n)
theorem BlkT.of {f : Nat → α} {n B : Nat} (h : BlkS key f n B n) : BlkT key f n B 0 := fun t _ ht => h t ht
theorem BlkT.next {f g : Nat → α} {n B A E : Nat} (h : BlkT key f n B A) (hA : A ≤ E) (x : ∀ k, E ≤ k → g k = f k) : BlkT key g n B E := fun t h1 h2 => (h t (by omega) h2).congr (fun k h3 _ => x k (by omega))
theorem BlkT.first {f : Nat → α} {n B A q : Nat} (h : BlkT key f n B A) (hA : A = q * (2 * B)) (hn : A < n) : Srt key f A (min (A + B) n) := by
  have e : 2 * q * B = A := by rw [hA]; simp [Nat.mul_assoc, Nat.mul_comm, Nat.mul_left_comm]
  have := h (2 * q) (by omega) (by omega)
  rwa [e] at this
theorem BlkT.second {f : Nat → α} {n B A q : Nat} (h : BlkT key f n B A) (hA : A = q * (2 * B)) (hn : A + B < n) : Srt key f (A + B) (min (A + B + B) n) := by
  have e : (2 * q + 1) * B = A + B := by rw [hA, Nat.add_mul, Nat.one_mul]; simp [Nat.mul_assoc, Nat.mul_comm, Nat.mul_left_comm]
  have := h (2 * q + 1) (by omega) (by omega)
  rwa [e] at this
end
section
variable {P : Program} {k : Nat}
set_option maxHeartbeats 8000000 in
set_option maxRecDepth 1000000 in
theorem stable_calls (L : LaysC P k) (g : Nat) (cb : Array Value) (eg : ∀ args w, (callFunc g args).run P w = .ok (.enter g args) w) (blk off cap N : Nat) (d0 : Array CellV) (w0 : World) (hcmp : CmpLays P g cb encC k cfC blk off d0.size w0) (R : RowK encC k w0 blk off d0) (hs0 : d0.size = N) (hN : N ≤ 1000000) (NI : Int) (hNI : NI = N) (d : Array CellV) (w : World) (hs : d.size = N) (S : SWK encC k w0 blk off d w) :
    Calls P 102 #[.slice (some ⟨blk, off, none⟩) N cap, .int .i64 NI, .func (.func g) #[] cb] w fun e w' => e = .returned (.tuple #[]) ∧ ∃ d' : Array CellV, d'.size = N ∧ Sim keyC 0 N (getA d) (getA d') ∧ Srt keyC (getA d') 0 N ∧ SWK encC k w0 blk off d' w' := by
  subst hNI
  have mixed := L.mixed; have tT0 := L.tT0; have aT0 := L.aT0; have zT0 := L.zT0; have vT0 := L.vT0; have tT1 := L.tT1; have aT1 := L.aT1; have zT1 := L.zT1; have vT1 := L.vT1; have tT2 := L.tT2; have aT2 := L.aT2; have zT2 := L.zT2; have vT2 := L.vT2; have tT3 := L.tT3; have aT3 := L.aT3; have zT3 := L.zT3; have vT3 := L.vT3; have tT4 := L.tT4; have aT4 := L.aT4; have zT4 := L.zT4; have vT4 := L.vT4; have tT5 := L.tT5; have aT5 := L.aT5; have zT5 := L.zT5; have vT5 := L.vT5; have aE := L.aE; have zE := L.zE
  have S0 : Aside _ := S
  have HINS := Lib.hid (fun a b aI bI ha hb1 d w hs S hab hb => insertion_calls L g cb eg blk off cap N d0 w0 hcmp R hs0 hN a b aI bI ha hb1 d w hs S hab hb)
  have HSYM := Lib.hid (fun a m b => symMerge_calls L g cb eg blk off cap N d0 w0 hcmp R hs0 hN (b - a) a m b (Nat.le_refl _))
  clear S hcmp
  have eD : ∀ args w, (callFunc 115 args).run P w = .ok (.enter 115 args) w := enters_of L.fd (by kernel_rfl) rfl
  have eC : ∀ args w, (callFunc 116 args).run P w = .ok (.enter 116 args) w := enters_of L.fc (by kernel_rfl) rfl
  go_enter L.fe, Try.ntmps102
  go_wp2
  go_loopg [7, 8] (N + 1) (fun kx s7 s8 wr => ∃ (q X E : Nat) (dk : Array CellV), s7 = .int .i64 X ∧ s8 = .int .i64 E ∧ X ≤ N ∧ N + 1 - X ≤ kx ∧ dk.size = N ∧ Aside (SWK encC k w0 blk off dk wr) ∧ Hid (X = q * 20 ∧ E = X + 20) ∧ Hid (Sim keyC 0 N (getA d) (getA dk) ∧ BlkS keyC (getA dk) N 20 X))
  case atStart => exact ⟨0, 0, 20, d, rfl, rfl, Nat.zero_le _, by omega, hs, S0, ⟨by omega, by omega⟩, Sim.refl _ _ _ _, fun q hq => by omega⟩
  case round =>
    obtain ⟨q, X, E, dk, rfl, rfl, hXN, hkx, hds, S1, HX, HB⟩ := hrel
    clear S0
    have hEX := HX.out.2
    have b1 : X + 20 ≤ E ∧ E ≤ X + 20 := by omega
    clear hEX
    by_cases h0 : E ≤ N
    · have h0z : (E : Int) ≤ (N : Int) := by omega
      have r1 : IntKind.i64.wrap ((E : Int) + 20) = (E : Int) + 20 := by rw [IntKind.wrap_i64]; omega
      have hc := Lib.hid (HINS.out X E X E rfl rfl dk wr hds S1.out (by omega) h0)
      go_wp2_with (go_at_fn 115; refine hc.out.mono ?_; rintro e w1 ⟨rfl, d1, hs1, hsim1, hsrt1, S2⟩)
      have H1 := Lib.hid (And.intro hsim1 hsrt1)
      have T2 := Lib.hid S2
      clear hc hsim1 hsrt1 S2
      go_roundg (N + 1 - E)
      case measure => omega
      case rel =>
        refine ⟨q + 1, E, E + 20, d1, rfl, by go_num, h0, Nat.le_refl _, hs1, T2.out, ⟨by have := HX.out.1; have := HX.out.2; omega, rfl⟩, HB.out.1.trans (H1.out.1.mono (Nat.zero_le _) (by omega) h0), ?_⟩
        have e1 := HX.out.1
        have e2 : E = (q + 1) * 20 := by have := HX.out.2; omega
        rw [e2]
        refine BlkS.next (f := getA dk) (by rw [← e1]; exact HB.out.2) (by omega) (by omega) (fun z hz => H1.out.1.1 z (Or.inl (by omega))) ?_
        rw [← e1, show X + 20 = E by omega]
        exact H1.out.2
    · have h0z : ¬ (E : Int) ≤ (N : Int) := by omega
      have hc := Lib.hid (HINS.out X N X N rfl rfl dk wr hds S1.out hXN (Nat.le_refl _))
      go_wp2_with (go_at_fn 115; refine hc.out.mono ?_; rintro e w1 ⟨rfl, d1, hs1, hsim1, hsrt1, S2⟩)
      have HB1 : Hid (Sim keyC 0 N (getA d) (getA d1) ∧ BlkS keyC (getA d1) N 20 N) := by
        have e1 := HX.out.1
        have e2 := HX.out.2
        exact ⟨HB.out.1.trans (hsim1.mono (Nat.zero_le _) hXN (Nat.le_refl _)), BlkS.last (f := getA dk) (q := q) (by rw [← e1]; exact HB.out.2) (by omega) (by omega) (fun z hz => hsim1.1 z (Or.inl (by omega))) (by rw [← e1]; exact hsrt1)⟩
      have T2 := Lib.hid S2
      clear hc hsim1 hsrt1 S2 S1 HB HX b1
      go_loopg [6] (N + 1) (fun kx s6 wr => ∃ (D : Nat) (dk : Array CellV), s6 = .int .i64 D ∧ 20 ≤ D ∧ D ≤ 2 * N + 20 ∧ N + 1 - D ≤ kx ∧ dk.size = N ∧ Aside (SWK encC k w0 blk off dk wr) ∧ Hid (Sim keyC 0 N (getA d) (getA dk) ∧ BlkS keyC (getA dk) N D N))
      case atStart => exact ⟨20, d1, rfl, by omega, by omega, by omega, hs1, T2.out, HB1.out⟩
      case round =>
        obtain ⟨D, dj, rfl, hD20, hDN, hkx2, hdj, S3, HC3⟩ := hrel
        clear HB1 T2
        by_cases h1 : D < N
        · have h1z : (D : Int) < (N : Int) := by omega
          obtain ⟨D2, hD2⟩ : ∃ D2, D2 = 2 * D := ⟨_, rfl⟩
          have HD2 := Lib.hid hD2
          have d1 : (2 : Int) * (D : Int) = (D2 : Int) := by omega
          have d2 : (D : Int) * 2 = (D2 : Int) := by omega
          have d3 : IntKind.i64.wrap (D2 : Int) = (D2 : Int) := by rw [IntKind.wrap_i64]; omega
          have d4 : D < D2 ∧ D2 ≤ 2 * D ∧ 2 * D ≤ D2 := by omega
          clear hD2
          go_wp2
          go_loopg [7, 8] (N + 1) (fun kx s7 s8 wr => ∃ (q X E : Nat) (dk : Array CellV), s7 = .int .i64 X ∧ s8 = .int .i64 E ∧ X ≤ N ∧ N + 1 - X ≤ kx ∧ dk.size = N ∧ Aside (SWK encC k w0 blk off dk wr) ∧ Hid (X = q * D2 ∧ E = X + D2) ∧ Hid (Sim keyC 0 N (getA d) (getA dk) ∧ BlkS keyC (getA dk) N D2 X ∧ BlkT keyC (getA dk) N D X))
          case atStart => exact ⟨0, 0, D2, dj, rfl, rfl, Nat.zero_le _, by omega, hdj, S3, ⟨by simp, by omega⟩, HC3.out.1, fun q hq => by omega, BlkT.of HC3.out.2⟩
          case round =>
            obtain ⟨q, X, E, dk, rfl, rfl, hXN, hkx3, hdk, S4, HX, HB⟩ := hrel
            clear S3
            obtain ⟨M, hM⟩ : ∃ M, M = X + D := ⟨_, rfl⟩
            have HM := Lib.hid hM
            have m1 : (X : Int) + (D : Int) = (M : Int) := by omega
            have m2 : IntKind.i64.wrap (M : Int) = (M : Int) := by rw [IntKind.wrap_i64]; omega
            have hEX := HX.out.2
            have b1 : X + D2 ≤ E ∧ E ≤ X + D2 ∧ X + D ≤ M ∧ M ≤ X + D := by omega
            clear hEX hM
            have hX2 : X = q * (2 * D) := by have e1 := HX.out.1; rw [HD2.out] at e1; exact e1
            have HX2 := Lib.hid hX2
            clear hX2
            by_cases h2 : E ≤ N
            · have h2z : (E : Int) ≤ (N : Int) := by omega
              have r1 : IntKind.i64.wrap ((E : Int) + (D2 : Int)) = (E : Int) + (D2 : Int) := by rw [IntKind.wrap_i64]; omega
              have u1 : Srt keyC (getA dk) X M := (HB.out.2.2.first HX2.out (by omega)).sub (Nat.le_refl _) (by omega)
              have u2 : Srt keyC (getA dk) M E := by
                have := HB.out.2.2.second HX2.out (by omega)
                rw [show X + D = M by omega] at this
                exact this.sub (Nat.le_refl _) (by omega)
              have hc := Lib.hid (HSYM.out X M E dk wr hdk S4.out (by omega) (by omega) h2 u1 u2)
              clear u1 u2
              go_wp2_with (go_at_fn 116; refine hc.out.mono ?_; rintro e w1 ⟨rfl, d5, hs5, hsim5, hsrt5, S5⟩)
              have H5 := Lib.hid (And.intro hsim5 hsrt5)
              have T5 := Lib.hid S5
              clear hc hsim5 hsrt5 S5
              go_roundg (N + 1 - E)
              case measure => omega
              case rel =>
                refine ⟨q + 1, E, E + D2, d5, rfl, by first | go_num | (congr 1; omega), h2, Nat.le_refl _, hs5, T5.out, ⟨by have e1 := HX.out.1; have e2 := HX.out.2; rw [Nat.add_mul, Nat.one_mul, ← e1]; exact e2, rfl⟩, HB.out.1.trans (H5.out.1.mono (Nat.zero_le _) (by omega) h2), ?_, HB.out.2.2.next (show X ≤ E by omega) (fun z hz => H5.out.1.1 z (Or.inr hz))⟩
                have e1 := HX.out.1
                have e2 : E = (q + 1) * D2 := by have e3 := HX.out.2; rw [Nat.add_mul, Nat.one_mul, ← e1]; exact e3
                rw [e2]
                refine BlkS.next (f := getA dk) (by rw [← e1]; exact HB.out.2.1) (by omega) (by rw [← e1]; omega) (fun z hz => H5.out.1.1 z (Or.inl (by rw [e1]; exact hz))) ?_
                rw [← e1, show X + D2 = E by omega]
                exact H5.out.2
            · have h2z : ¬ (E : Int) ≤ (N : Int) := by omega
              have BL : Hid (∀ g : Nat → CellV, (∀ z, z < X → g z = getA dk z) → Srt keyC g X N → BlkS keyC g N D2 N) := fun g hg hS => by
                have e1 := HX.out.1
                refine BlkS.last (f := getA dk) (q := q) (by rw [← e1]; exact HB.out.2.1) (by omega) (by rw [← e1]; omega) (fun z hz => hg z (by rw [e1]; exact hz)) (by rw [← e1]; exact hS)
              by_cases h3 : M < N
              · have h3z : (M : Int) < (N : Int) := by omega
                have u1 : Srt keyC (getA dk) X M := (HB.out.2.2.first HX2.out (by omega)).sub (Nat.le_refl _) (by omega)
                have u2 : Srt keyC (getA dk) M N := by
                  have := HB.out.2.2.second HX2.out (by omega)
                  rw [show X + D = M by omega] at this
                  exact this.sub (Nat.le_refl _) (by omega)
                have hc := Lib.hid (HSYM.out X M N dk wr hdk S4.out (by omega) (by omega) (Nat.le_refl _) u1 u2)
                clear u1 u2
                go_wp2_with (go_at_fn 116; refine hc.out.mono ?_; rintro e w1 ⟨rfl, d5, hs5, hsim5, hsrt5, S5⟩)
                have H5 := Lib.hid (And.intro hsim5 hsrt5)
                have T5 := Lib.hid S5
                clear hc hsim5 hsrt5 S5
                go_roundg (N + 1 - D2)
                case measure => omega
                case rel => exact ⟨D2, d5, rfl, by omega, by omega, Nat.le_refl _, hs5, T5.out, HB.out.1.trans (H5.out.1.mono (Nat.zero_le _) (by omega) (Nat.le_refl _)), BL.out _ (fun z hz => H5.out.1.1 z (Or.inl hz)) H5.out.2⟩
              · have h3z : ¬ (M : Int) < (N : Int) := by omega
                go_wp2
                go_roundg (N + 1 - D2)
                case measure => omega
                case rel =>
                  refine ⟨D2, dk, rfl, by omega, by omega, Nat.le_refl _, hdk, S4, HB.out.1, BL.out _ (fun _ _ => rfl) ?_⟩
                  by_cases h4 : X < N
                  · exact (HB.out.2.2.first HX2.out h4).sub (Nat.le_refl _) (by omega)
                  · exact Srt.one (by omega)
        · have h1z : ¬ (D : Int) < (N : Int) := by omega
          go_wp2
          go_end0
          exact ⟨rfl, dj, hdj, HC3.out.1, HC3.out.2.whole (by omega), S3.out⟩
set_option maxHeartbeats 8000000 in
set_option maxRecDepth 1000000 in
theorem sortStable_calls (L : LaysC P k) (g : Nat) (cb : Array Value) (eg : ∀ args w, (callFunc g args).run P w = .ok (.enter g args) w) (blk off cap N : Nat) (d0 : Array CellV) (w0 : World) (hcmp : CmpLays P g cb encC k cfC blk off d0.size w0) (R : RowK encC k w0 blk off d0) (hs0 : d0.size = N) (hN : N ≤ 1000000) (d : Array CellV) (w : World) (hs : d.size = N) (S : SWK encC k w0 blk off d w) :
    Calls P 75 #[.slice (some ⟨blk, off, none⟩) N cap, .func (.func g) #[] cb] w fun e w' => e = .returned (.tuple #[]) ∧ ∃ d' : Array CellV, d'.size = N ∧ Sim keyC 0 N (getA d) (getA d') ∧ Srt keyC (getA d') 0 N ∧ SWK encC k w0 blk off d' w' := by
  have mixed := L.mixed; have tT0 := L.tT0; have aT0 := L.aT0; have zT0 := L.zT0; have vT0 := L.vT0; have tT1 := L.tT1; have aT1 := L.aT1; have zT1 := L.zT1; have vT1 := L.vT1; have tT2 := L.tT2; have aT2 := L.aT2; have zT2 := L.zT2; have vT2 := L.vT2; have tT3 := L.tT3; have aT3 := L.aT3; have zT3 := L.zT3; have vT3 := L.vT3; have tT4 := L.tT4; have aT4 := L.aT4; have zT4 := L.zT4; have vT4 := L.vT4; have tT5 := L.tT5; have aT5 := L.aT5; have zT5 := L.zT5; have vT5 := L.vT5; have aE := L.aE; have zE := L.zE
  have hc := Lib.hid (stable_calls L g cb eg blk off cap N d0 w0 hcmp R hs0 hN N rfl d w hs S)
  clear S hcmp
  have eE : ∀ args w, (callFunc 102 args).run P w = .ok (.enter 102 args) w := enters_of L.fe (by kernel_rfl) rfl
  go_enter L.ff, Try.ntmps75
  go_wp2_with (go_at_fn 102; refine hc.out.mono ?_; rintro e w1 ⟨rfl, d5, hs5, hsim5, hsrt5, S5⟩)
  go_end0
  exact ⟨rfl, d5, hs5, hsim5, hsrt5, S5⟩
end
end Go.Proofs.Ytkppignoomnmdaa
