/- Contracts of the exchange of two ranges, and of the rotation, at the table's cells. -/
import Derived.Test.YtkppignoomnmdaaStabPlain
import Derived.Test.YtkppignoomnmdaaColPlain
import Derived.Shelf.SlSortCmp.KitK
import Derived.Deep.LoopGhost
namespace Go.Proofs.Ytkppignoomnmdaa
open Go.Shelf Go.RowKit Go.Lib Go.Sort
set_option linter.unusedVariables false
set_option linter.unusedSimpArgs false
instance : Inhabited CellV := ⟨CellV.zero⟩
/-- A cell, its span held at 50. -/
def keyC (c : CellV) : Nat := min c.span 50
def encC (c : CellV) : List Value := [.int .i64 c.least, .int .i64 c.most, .int .i64 c.pos, .int .i64 (keyC c)]
section
variable {P : Program} {k : Nat}
/-- What the walks of the sort ask of the program. -/
structure LaysC (P : Program) (k : Nat) : Prop where
  mixed : P.follows .mixedOrders = true
  fa : P.funcs[149]? = some Try.f149
  fb : P.funcs[134]? = some Try.f134
  fc : P.funcs[116]? = some Try.f116
  fd : P.funcs[115]? = some Try.f115
  fe : P.funcs[102]? = some Try.f102
  ff : P.funcs[75]? = some Try.f75
  tT0 : P.underlying 0 = some (TypeDesc.tuple #[])
  aT0 : ∀ w, (isAgg 0).run P w = .ok false w
  zT0 : ∀ w, (Go.sizeOf 0).run P w = .ok 1 w
  vT0 : ∀ w, (zeroValue 0).run P w = .ok (Value.tuple #[]) w
  tT1 : P.underlying 3 = some (TypeDesc.int IntKind.i64)
  aT1 : ∀ w, (isAgg 3).run P w = .ok false w
  zT1 : ∀ w, (Go.sizeOf 3).run P w = .ok 1 w
  vT1 : ∀ w, (zeroValue 3).run P w = .ok (Value.int IntKind.i64 0) w
  tT2 : P.underlying 4 = some (TypeDesc.bool)
  aT2 : ∀ w, (isAgg 4).run P w = .ok false w
  zT2 : ∀ w, (Go.sizeOf 4).run P w = .ok 1 w
  vT2 : ∀ w, (zeroValue 4).run P w = .ok (Value.bool false) w
  tT3 : P.underlying 142 = some (TypeDesc.int IntKind.u64)
  aT3 : ∀ w, (isAgg 142).run P w = .ok false w
  zT3 : ∀ w, (Go.sizeOf 142).run P w = .ok 1 w
  vT3 : ∀ w, (zeroValue 142).run P w = .ok (Value.int IntKind.u64 0) w
  tT4 : P.underlying 102 = some (TypeDesc.slice 107)
  aT4 : ∀ w, (isAgg 102).run P w = .ok false w
  zT4 : ∀ w, (Go.sizeOf 102).run P w = .ok 1 w
  vT4 : ∀ w, (zeroValue 102).run P w = .ok (Value.slice none 0 0) w
  tT5 : P.underlying 108 = some (TypeDesc.func #[107, 107] #[3] false)
  aT5 : ∀ w, (isAgg 108).run P w = .ok false w
  zT5 : ∀ w, (Go.sizeOf 108).run P w = .ok 1 w
  vT5 : ∀ w, (zeroValue 108).run P w = .ok (Value.nilFunc) w
  aE : ∀ w, (isAgg 107).run P w = .ok true w
  zE : ∀ w, (Go.sizeOf 107).run P w = .ok k w
set_option maxHeartbeats 8000000 in
set_option maxRecDepth 1000000 in
theorem swapRange_calls (L : LaysC P k) (blk off cap a b n N : Nat) (d0 d : Array CellV) (w0 w : World) (cv : Value) (R : RowK encC k w0 blk off d0) (hs0 : d0.size = N) (hs : d.size = N) (S : SWK encC k w0 blk off d w) (hab : a + n ≤ b) (hb : b + n ≤ N) (hN : N ≤ 1000000) :
    Calls P 149 #[.slice (some ⟨blk, off, none⟩) N cap, .int .i64 a, .int .i64 b, .int .i64 n, cv] w fun e w' => e = .returned (.tuple #[]) ∧ ∃ d' : Array CellV, d'.size = N ∧ getA d' = swr (getA d) a b n ∧ SWK encC k w0 blk off d' w' := by
  have mixed := L.mixed; have tT0 := L.tT0; have aT0 := L.aT0; have zT0 := L.zT0; have vT0 := L.vT0; have tT1 := L.tT1; have aT1 := L.aT1; have zT1 := L.zT1; have vT1 := L.vT1; have tT2 := L.tT2; have aT2 := L.aT2; have zT2 := L.zT2; have vT2 := L.vT2; have tT3 := L.tT3; have aT3 := L.aT3; have zT3 := L.zT3; have vT3 := L.vT3; have tT4 := L.tT4; have aT4 := L.aT4; have zT4 := L.zT4; have vT4 := L.vT4; have tT5 := L.tT5; have aT5 := L.aT5; have zT5 := L.zT5; have vT5 := L.vT5; have aE := L.aE; have zE := L.zE
  have S0 : Aside _ := S
  clear S
  go_enter L.fa, Try.ntmps149
  go_wp2
  go_loopg [10] n (fun kx s10 wr => ∃ (i : Nat) (dk : Array CellV), s10 = .int .i64 i ∧ i ≤ n ∧ n - i ≤ kx ∧ dk.size = N ∧ Aside (SWK encC k w0 blk off dk wr) ∧ Hid (getA dk = swr (getA d) a b i))
  case atStart => exact ⟨0, d, rfl, Nat.zero_le _, Nat.le_refl _, hs, S0, (swr_zero _ _ _).symm⟩
  case round =>
    obtain ⟨i, dk, rfl, hi, hkx, hds, S1, HE⟩ := hrel
    clear S0
    by_cases h0 : i < n
    · have h0z : (i : Int) < (n : Int) := by omega
      have ea1 : ((a : Int) + (i : Int)).toNat = a + i := by omega
      have pa1 : (0 : Int) ≤ (a : Int) + (i : Int) := by omega
      have ba1 : (a : Int) + (i : Int) < (N : Int) := by omega
      have ra1 : IntKind.i64.wrap ((a : Int) + (i : Int)) = (a : Int) + (i : Int) := by rw [IntKind.wrap_i64]; omega
      have ec1 : ((b : Int) + (i : Int)).toNat = b + i := by omega
      have pc1 : (0 : Int) ≤ (b : Int) + (i : Int) := by omega
      have bc1 : (b : Int) + (i : Int) < (N : Int) := by omega
      have rc1 : IntKind.i64.wrap ((b : Int) + (i : Int)) = (b : Int) + (i : Int) := by rw [IntKind.wrap_i64]; omega
      have S2 : Aside (SWK encC k w0 blk off (swp dk (a + i) (b + i)) ((wr.drew.setCells blk (off + (a + i) * k) (encC dk[b + i]!)).setCells blk (off + (b + i) * k) (encC dk[a + i]!))) := S1.out.swapped R (a + i) (b + i) (by omega) (by omega)
      have l1a := S1.out.ld1 R (by omega) P (a + i) (by omega)
      have l1b := S1.out.ld1 R (by omega) P (b + i) (by omega)
      have s1a := S1.out.st1 R (by omega) P (a + i) (by omega) dk[b + i]!
      have s1b := S1.out.st2 R (by omega) P (a + i) (b + i) (by omega) (by omega) dk[b + i]! dk[a + i]!
      have n1a : (encC dk[a + i]!).length = k := R.hk _
      have n1b : (encC dk[b + i]!).length = k := R.hk _
      generalize encC dk[a + i]! = cI1 at S2 l1a s1b n1a
      generalize encC dk[b + i]! = cJ1 at S2 l1b s1a s1b n1b
      clear S1
      go_wp2_with fail
      go_big_region_o
      clear l1a l1b s1a s1b
      generalize (wr.drew.setCells blk (off + (a + i) * k) cJ1).setCells blk (off + (b + i) * k) cI1 = w2 at S2 ⊢
      go_wp2
      go_roundg (n - (i + 1))
      case measure => omega
      case rel => exact ⟨i + 1, swp dk (a + i) (b + i), by go_num, by omega, Nat.le_refl _, by rw [size_swp]; exact hds, S2, swr_step dk _ a b i HE.out (by omega) (by omega) (by omega)⟩
    · have h0z : ¬ (i : Int) < (n : Int) := by omega
      go_wp2
      go_end0
      obtain rfl : i = n := by omega
      exact ⟨rfl, dk, hds, HE.out, S1.out⟩
theorem swapRange_at (L : LaysC P k) (blk off cap a b n N : Nat) (aI bI nI : Int) (d0 d : Array CellV) (w0 w : World) (cv : Value) (ha : aI = a) (hb0 : bI = b) (hn : nI = n) (R : RowK encC k w0 blk off d0) (hs0 : d0.size = N) (hs : d.size = N) (S : SWK encC k w0 blk off d w) (hab : a + n ≤ b) (hb : b + n ≤ N) (hN : N ≤ 1000000) :
    Calls P 149 #[.slice (some ⟨blk, off, none⟩) N cap, .int .i64 aI, .int .i64 bI, .int .i64 nI, cv] w fun e w' => e = .returned (.tuple #[]) ∧ ∃ d' : Array CellV, d'.size = N ∧ getA d' = swr (getA d) a b n ∧ SWK encC k w0 blk off d' w' := by
  subst ha hb0 hn
  exact swapRange_calls L blk off cap a b n N d0 d w0 w cv R hs0 hs S hab hb hN
set_option maxHeartbeats 8000000 in
set_option maxRecDepth 1000000 in
theorem rotate_calls (L : LaysC P k) (blk off cap a m b N : Nat) (aI mI bI : Int) (d0 d : Array CellV) (w0 w : World) (cv : Value) (ha0 : aI = a) (hm0 : mI = m) (hb0 : bI = b) (R : RowK encC k w0 blk off d0) (hs0 : d0.size = N) (hs : d.size = N) (S : SWK encC k w0 blk off d w) (ham : a < m) (hmb : m < b) (hb : b ≤ N) (hN : N ≤ 1000000) :
    Calls P 134 #[.slice (some ⟨blk, off, none⟩) N cap, .int .i64 aI, .int .i64 mI, .int .i64 bI, cv] w fun e w' => e = .returned (.tuple #[]) ∧ ∃ d' : Array CellV, d'.size = N ∧ getA d' = rot (getA d) a m b ∧ SWK encC k w0 blk off d' w' := by
  subst ha0 hm0 hb0
  have mixed := L.mixed; have tT0 := L.tT0; have aT0 := L.aT0; have zT0 := L.zT0; have vT0 := L.vT0; have tT1 := L.tT1; have aT1 := L.aT1; have zT1 := L.zT1; have vT1 := L.vT1; have tT2 := L.tT2; have aT2 := L.aT2; have zT2 := L.zT2; have vT2 := L.vT2; have tT3 := L.tT3; have aT3 := L.aT3; have zT3 := L.zT3; have vT3 := L.vT3; have tT4 := L.tT4; have aT4 := L.aT4; have zT4 := L.zT4; have vT4 := L.vT4; have tT5 := L.tT5; have aT5 := L.aT5; have zT5 := L.zT5; have vT5 := L.vT5; have aE := L.aE; have zE := L.zE
  have e1 : ∀ args w, (callFunc 149 args).run P w = .ok (.enter 149 args) w := enters_of L.fa (by kernel_rfl) rfl
  have S0 : Aside _ := S
  clear S
  have r1 : IntKind.i64.wrap ((m : Int) - (a : Int)) = (m : Int) - (a : Int) := by rw [IntKind.wrap_i64]; omega
  have r2 : IntKind.i64.wrap ((b : Int) - (m : Int)) = (b : Int) - (m : Int) := by rw [IntKind.wrap_i64]; omega
  go_enter L.fb, Try.ntmps134
  go_wp2
  go_loopg [10, 11] (b - a) (fun kx s10 s11 wr => ∃ (i j : Nat) (dk : Array CellV), s10 = .int .i64 i ∧ s11 = .int .i64 j ∧ 0 < i ∧ 0 < j ∧ i ≤ m ∧ m + j ≤ N ∧ i + j ≤ kx ∧ dk.size = N ∧ Aside (SWK encC k w0 blk off dk wr) ∧ Hid (rot (getA dk) (m - i) m (m + j) = rot (getA d) a m b))
  case atStart => exact ⟨m - a, b - m, d, by congr 1; omega, by congr 1; omega, by omega, by omega, by omega, by omega, by omega, hs, S0, by show _ = _; rw [show m - (m - a) = a by omega, show m + (b - m) = b by omega]⟩
  case round =>
    obtain ⟨i, j, dk, rfl, rfl, hi, hj, him, hjN, hkx, hds, S1, HE⟩ := hrel
    clear S0 r1 r2
    have r3 : IntKind.i64.wrap ((m : Int) - (i : Int)) = (m : Int) - (i : Int) := by rw [IntKind.wrap_i64]; omega
    by_cases h0 : i = j
    · subst h0
      have hc := swapRange_at L blk off cap (m - i) m i N ((m : Int) - (i : Int)) m i d0 dk w0 wr cv (by omega) rfl rfl R hs0 hds S1.out (by omega) hjN hN
      go_wp2_with (go_at_fn 149; refine hc.mono ?_; rintro e w1 ⟨rfl, d1, hs1, hd1, S2⟩)
      go_end0
      exact ⟨rfl, d1, hs1, by rw [hd1, ← HE.out]; exact rot_even _ _ _ him, S2⟩
    · have h0z : ¬ (i : Int) = (j : Int) := by omega
      by_cases h1 : j < i
      · have h1z : (j : Int) < (i : Int) := by omega
        have r4 : IntKind.i64.wrap ((i : Int) - (j : Int)) = (i : Int) - (j : Int) := by rw [IntKind.wrap_i64]; omega
        have hc := swapRange_at L blk off cap (m - i) m j N ((m : Int) - (i : Int)) m j d0 dk w0 wr cv (by omega) rfl rfl R hs0 hds S1.out (by omega) hjN hN
        go_wp2_with (go_at_fn 149; refine hc.mono ?_; rintro e w1 ⟨rfl, d1, hs1, hd1, S2⟩)
        have S3 := Lib.hid S2
        have H1 := Lib.hid hd1
        clear hc S2 hd1
        go_roundg (i - j + j)
        case measure => omega
        case rel => exact ⟨i - j, j, d1, by congr 1; omega, rfl, by omega, hj, by omega, hjN, Nat.le_refl _, hs1, S3.out, by show _ = _; rw [← HE.out, H1.out]; exact rot_more _ _ _ _ h1 him⟩
      · have h1z : ¬ (j : Int) < (i : Int) := by omega
        have r4 : IntKind.i64.wrap ((j : Int) - (i : Int)) = (j : Int) - (i : Int) := by rw [IntKind.wrap_i64]; omega
        have r5 : IntKind.i64.wrap ((m : Int) + (j : Int)) = (m : Int) + (j : Int) := by rw [IntKind.wrap_i64]; omega
        have r6 : IntKind.i64.wrap ((m : Int) + (j : Int) - (i : Int)) = (m : Int) + (j : Int) - (i : Int) := by rw [IntKind.wrap_i64]; omega
        have hc := swapRange_at L blk off cap (m - i) (m + j - i) i N ((m : Int) - (i : Int)) ((m : Int) + (j : Int) - (i : Int)) i d0 dk w0 wr cv (by omega) (by omega) rfl R hs0 hds S1.out (by omega) (by omega) hN
        go_wp2_with (go_at_fn 149; refine hc.mono ?_; rintro e w1 ⟨rfl, d1, hs1, hd1, S2⟩)
        have S3 := Lib.hid S2
        have H1 := Lib.hid hd1
        clear hc S2 hd1
        go_roundg (i + (j - i))
        case measure => omega
        case rel => exact ⟨i, j - i, d1, rfl, by congr 1; omega, hi, by omega, him, by omega, Nat.le_refl _, hs1, S3.out, by show _ = _; rw [← HE.out, H1.out]; exact rot_less _ _ _ _ (by omega) him⟩
end
end Go.Proofs.Ytkppignoomnmdaa
