/- Contract of flex's Mains. -/
import Derived.Test.YtpinfaoeggipmaaFlexD
namespace Go.Proofs.Ytpinfaoeggipmaa
open Go.RowKit
set_option linter.unusedVariables false
set_option linter.unusedSimpArgs false
attribute [local go_sem high] run_min2 run_max2

/-- The first that is not settled, from k on. -/
def idxF (st : Nat → FxSt) : Nat → Nat → Int
  | 0, _ => -1
  | m + 1, k => if (st k).settled then idxF st m (k + 1) else (k : Int)
theorem idx_pos (st : Nat → FxSt) (n : Nat) : ∀ (m k : Nat), k + m = n → (0 ≤ idxF st m k ↔ ∃ i, k ≤ i ∧ i < n ∧ ¬ (st i).settled = true)
  | 0, k, h => by
    simp only [idxF]
    exact ⟨fun h' => by omega, fun ⟨i, h1, h2, _⟩ => by omega⟩
  | m + 1, k, h => by
    simp only [idxF]
    by_cases e : (st k).settled = true
    · rw [if_pos e, idx_pos st n m (k + 1) (by omega)]
      exact ⟨fun ⟨i, h1, h2, h3⟩ => ⟨i, by omega, h2, h3⟩, fun ⟨i, h1, h2, h3⟩ => ⟨i, by
        rcases Nat.lt_or_ge k i with h' | h'
        · omega
        · obtain rfl : i = k := by omega
          exact absurd e h3, h2, h3⟩⟩
    · rw [if_neg e]
      exact ⟨fun _ => ⟨k, Nat.le_refl _, by omega, e⟩, fun _ => by omega⟩
theorem idx_cnt (st : Nat → FxSt) (n : Nat) : (0 ≤ idxF st n 0) ↔ ¬ cntF n st = 0 := by
  rw [idx_pos st n n 0 (by omega)]
  constructor
  · rintro ⟨i, _, h2, h3⟩
    have := cnt_pos n st i h2 h3; omega
  · intro h
    rcases Classical.em (∃ i, 0 ≤ i ∧ i < n ∧ ¬ (st i).settled = true) with h' | h'
    · exact h'
    · exfalso
      apply h
      apply cnt_all
      intro i hi
      rcases Classical.em ((st i).settled = true) with h2 | h2
      · exact h2
      · exact absurd ⟨i, Nat.zero_le _, hi, h2⟩ h'
theorem idx_lo (st : Nat → FxSt) : ∀ (m k : Nat), -1 ≤ idxF st m k
  | 0, _ => by simp [idxF]
  | m + 1, k => by
    have := idx_lo st m (k + 1)
    simp only [idxF]; split <;> omega
set_option maxRecDepth 100000 in
set_option maxHeartbeats 1000000 in
theorem index_calls (g0 gr gi n : Nat) (room : Int) (gw : Bool) (xs : Nat → FlexV) (st : Nat → FxSt) (w : World) (h : RowAt w g0 gr gi n room gw xs st) (hn : n ≤ 1000) :
    Calls Try.prog 92 #[.slice (some ⟨gi, 0, none⟩) n n, .func (.func 78) #[] #[]] w fun e w' => e = .returned (.int .i64 (idxF st n 0)) ∧ Below w.heap.size w w' := by
  obtain ⟨T, hT⟩ : ∃ x, x = idxF st n 0 := ⟨_, rfl⟩
  rw [← hT]
  have HT := Lib.hid hT
  have H := Lib.hid h
  clear h hT
  go_enter Try.func92, Try.ntmps92
  go_wp2_with fail
  go_loopw [8] (fun i wr => ∃ k : Nat, k ≤ n ∧ i = .int .i64 k ∧ idxF st (n - k) k = T ∧ Below w.heap.size w wr) (fun i _ => n - (intOf i).toNat)
  case atStart => exact ⟨0, Nat.zero_le _, rfl, HT.out.symm, Below.refl _ _⟩
  case round =>
    obtain ⟨k, hk, rfl, hI, hbel⟩ := hrel
    by_cases hlt : k < n
    · have hR := H.out.below hbel
      have hat := hR.at hlt
      rw [show n - k = (n - (k + 1)) + 1 from by omega] at hI
      simp only [idxF] at hI
      obtain ⟨⟨b, lo, hi, g, s, e⟩, hxe⟩ : ∃ x, x = xs k := ⟨_, rfl⟩
      obtain ⟨⟨sd, is⟩, hse⟩ : ∃ x, x = st k := ⟨_, rfl⟩
      obtain ⟨lg, hle⟩ : ∃ x, x = long (xs k) := ⟨_, rfl⟩
      unfold frow at hat
      rw [← hle, ← hxe, ← hse] at hat
      rw [← hse] at hI
      have t0 : wr.cell? ⟨gi, k * 9, none⟩ = some (.int .i64 b) := hat 0 _ rfl
      have t1 : wr.cell? ⟨gi, k * 9 + 1, none⟩ = some (.int .i64 lo) := hat 1 _ rfl
      have t2 : wr.cell? ⟨gi, k * 9 + 2, none⟩ = some (.int .i64 hi) := hat 2 _ rfl
      have t3 : wr.cell? ⟨gi, k * 9 + 3, none⟩ = some (.int .i64 g) := hat 3 _ rfl
      have t4 : wr.cell? ⟨gi, k * 9 + 4, none⟩ = some (.int .i64 s) := hat 4 _ rfl
      have t5 : wr.cell? ⟨gi, k * 9 + 5, none⟩ = some (.int .i64 e) := hat 5 _ rfl
      have t6 : wr.cell? ⟨gi, k * 9 + 6, none⟩ = some (.int .i64 lg) := hat 6 _ rfl
      have t7 : wr.cell? ⟨gi, k * 9 + 7, none⟩ = some (.bool sd) := hat 7 _ rfl
      have t8 : wr.cell? ⟨gi, k * 9 + 8, none⟩ = some (.int .i64 is) := hat 8 _ rfl
      have HI := Lib.hid hI
      have KK := Lib.hid (show k ≤ n ∧ k < n from ⟨hk, hlt⟩)
      clear hat hxe hse hle hR hI
      cases sd
      · have HIT := Lib.hid (show (k : Int) = T from HI.out)
        go_wp2_with (go_at_call 78; refine (mains2_calls _ _ _ _ _ _ _ _ _ _).mono ?_; rintro e w3 ⟨rfl, hb3⟩)
        go_ret
        exact ⟨by rw [← HIT.out]; rfl, below_then hbel hb3⟩
      · have HIT := Lib.hid (show idxF st (n - (k + 1)) (k + 1) = T from HI.out)
        go_wp2_with (go_at_call 78; refine (mains2_calls _ _ _ _ _ _ _ _ _ _).mono ?_; rintro e w3 ⟨rfl, hb3⟩)
        go_roundw
        case rel => exact ⟨k + 1, by have := KK.out; omega, by go_num, HIT.out, below_then hbel hb3⟩
        case measure => have := KK.out; simp [intOf]; omega
    · obtain rfl : k = n := by omega
      rw [Nat.sub_self] at hI
      have HIT := Lib.hid (show (-1 : Int) = T from hI)
      clear hI
      go_wp2_with fail
      go_ret
      exact ⟨by rw [← HIT.out]; rfl, hbel⟩
theorem contains_calls (g0 gr gi n : Nat) (room : Int) (gw : Bool) (xs : Nat → FlexV) (st : Nat → FxSt) (w : World) (h : RowAt w g0 gr gi n room gw xs st) (hn : n ≤ 1000) :
    Calls Try.prog 77 #[.slice (some ⟨gi, 0, none⟩) n n, .func (.func 78) #[] #[]] w fun e w' => e = .returned (.bool (decide (¬ cntF n st = 0))) ∧ Below w.heap.size w w' := by
  have HX := Lib.hid (index_calls g0 gr gi n room gw xs st w h hn)
  have hi := idx_cnt st n
  obtain ⟨r, hr⟩ : ∃ r, r = idxF st n 0 := ⟨_, rfl⟩
  rw [← hr] at HX hi
  clear hr h
  by_cases hz : cntF n st = 0
  · have hneg : r < 0 := by
      rcases Int.lt_or_le r 0 with h' | h'
      · exact h'
      · exact absurd hz (hi.1 h')
    have E := Lib.hid (show decide (¬ cntF n st = 0) = false from by simp [hz])
    have hd : decide (0 ≤ r) = false := by simp; omega
    clear hi hz
    go_enter Try.func77, Try.ntmps77
    go_wp2_with (go_at_call 92; refine HX.out.mono ?_; rintro e w1 ⟨rfl, hb1⟩)
    go_ret
    exact ⟨by rw [E.out]; rfl, hb1⟩
  · have hpos : 0 ≤ r := hi.2 hz
    have E := Lib.hid (show decide (¬ cntF n st = 0) = true from by simp [hz])
    have hd : decide (0 ≤ r) = true := by simp; omega
    clear hi hz
    go_enter Try.func77, Try.ntmps77
    go_wp2_with (go_at_call 92; refine HX.out.mono ?_; rintro e w1 ⟨rfl, hb1⟩)
    go_ret
    exact ⟨by rw [E.out]; rfl, hb1⟩
theorem cnt_some (n : Nat) (st : Nat → FxSt) (h : ¬ cntF n st = 0) : ∃ i, i < n ∧ ¬ (st i).settled = true := by
  obtain ⟨i, _, h2, h3⟩ := (idx_pos st n n 0 (by omega)).1 ((idx_cnt st n).2 h)
  exact ⟨i, h2, h3⟩
theorem cells_new (w : World) (cs : List Value) (t : TypeId) (g : Nat) (hg : w.heap.size = g) : ∀ j u, cs[j]? = some u → (w.alloc (.cells cs.toArray t)).cell? ((⟨g, 0, none⟩ : Addr).add j) = some u := by
  subst hg
  intro j u hj
  have e : (⟨w.heap.size, 0, none⟩ : Addr).add j = ⟨w.heap.size, j, none⟩ := by unfold Addr.add; split <;> simp_all
  rw [e, new_cell]; simpa using hj
theorem RowAt.grown {w w' : World} {g0 gr gi n : Nat} {room : Int} {gw : Bool} {xs : Nat → FlexV} {st : Nat → FxSt} {row : Option Nat} (h : RowAt w g0 gr gi n room gw xs st) (hg : w.grownBy w' row) (h1 : row ≠ some gr) (h2 : (Value.slice (some ⟨gi, 0, none⟩) n n).ownBlock = none ∨ (Value.slice (some ⟨gi, 0, none⟩) n n).ownBlock ≠ row) : RowAt w' g0 gr gi n room gw xs st :=
  ⟨blk_grown h.row hg h1, h.own.kept hg h2, h.low⟩
/-- How many are not settled, read off the memory. -/
def cntW (w : World) (gi : Nat) : Nat → Nat
  | 0 => 0
  | k + 1 => cntW w gi k + (match w.cell? ⟨gi, k * 9 + 7, none⟩ with | some (.bool true) => 0 | _ => 1)
theorem cntW_eq {w : World} {g0 gr gi n : Nat} {room : Int} {gw : Bool} {xs : Nat → FlexV} {st : Nat → FxSt} (h : RowAt w g0 gr gi n room gw xs st) : ∀ m, m ≤ n → cntW w gi m = cntF m st
  | 0, _ => rfl
  | m + 1, hm => by
    have h1 := h.at (show m < n by omega) 7 (.bool (st m).settled) rfl
    simp only [cntW, cntF]
    rw [cntW_eq h m (by omega), h1]
    cases (st m).settled <;> rfl
theorem RowAt.setGrows {w : World} {g0 gr gi n : Nat} {room : Int} {gw gw' : Bool} {xs : Nat → FlexV} {st : Nat → FxSt} (h : RowAt w g0 gr gi n room gw xs st) : RowAt (w.setCell ⟨gr, 2, none⟩ (.bool gw')) g0 gr gi n room gw' xs st :=
  ⟨h.row.stored 2 _, own_setFar h.own (by intro e; exact h.ne (by simpa [Value.ownBlock] using e.symm)), h.low⟩
/-- The first k are told how they begin. -/
def bornK (gw : Bool) (xs : Nat → FlexV) (k : Nat) (i : Nat) : FxSt := if i < k then bornF gw (xs i) else ⟨false, 0⟩
theorem bornK_ok (gw : Bool) (xs : Nat → FlexV) (k : Nat) : StOk (bornK gw xs k) := fun i => by
  unfold bornK; split
  · exact born_ok _ _
  · show (-16777216 : Int) ≤ 0 ∧ (0 : Int) ≤ 16777216; omega
theorem bornK_keep (gw : Bool) (xs : Nat → FlexV) (k : Nat) (h : bornF gw (xs k) = ⟨false, 0⟩) : bornK gw xs (k + 1) = bornK gw xs k := by
  funext i
  unfold bornK
  by_cases e : i = k
  · subst e; rw [if_pos (by omega), if_neg (by omega), h]
  · by_cases e2 : i < k
    · rw [if_pos e2, if_pos (by omega)]
    · rw [if_neg e2, if_neg (by omega)]
theorem bornK_step (gw : Bool) (xs : Nat → FlexV) (k i : Nat) (lg : Int) (h : bornF gw (xs k) = ⟨true, lg⟩) : (if i = k then (⟨(if i = k then (⟨true, (bornK gw xs k i).is⟩ : FxSt) else bornK gw xs k i).settled, lg⟩ : FxSt) else (if i = k then (⟨true, (bornK gw xs k i).is⟩ : FxSt) else bornK gw xs k i)) = bornK gw xs (k + 1) i := by
  unfold bornK
  by_cases e : i = k
  · subst e; simp [h]
  · rw [if_neg e, if_neg e]
    by_cases e2 : i < k
    · rw [if_pos e2, if_pos (by omega)]
    · rw [if_neg e2, if_neg (by omega)]
theorem cuts_ok (l : List FlexV) : ∀ i, FxOk (cutsF l i) := fun i => fxb_ok _
set_option maxRecDepth 100000 in
set_option maxHeartbeats 8000000 in
theorem mains_calls (room gap : Int) (A : Option Addr) (n c B : Nat) (l : List FlexV) (w : World) (hn : l.length = n) (h : Holds w B A (l.flatMap flexF)) (hB : B ≤ w.heap.size) (hm : n ≤ 1000) :
    Calls Try.prog 52 #[.int .i64 room, .int .i64 gap, .slice A n c] w fun e w' => ∃ v, e = .returned v ∧ w'.ownsRow w.heap.size 3 1 v n (ints (mainsF room gap l)) ∧ Below w.heap.size w w' := by
  obtain ⟨i0, hi0, hz0, hz1, hz2⟩ := info_parts info_int
  have HI := Lib.hid (items_calls A n c B l w hn h hB hm)
  have hc1 := cut_lo room
  have hc2 := cut_hi room
  have hc3 := cut_hi gap
  have hleft := left_bd room gap n hm
  have hP0 : 0 ≤ max 0 (cut gap) * max 0 ((n : Int) - 1) := Int.mul_nonneg (by omega) (by omega)
  have hP1 : max 0 (cut gap) * max 0 ((n : Int) - 1) ≤ 16777216 * 1000 :=
    Int.le_trans (Int.mul_le_mul_of_nonneg_right (by omega) (by omega)) (Int.mul_le_mul_of_nonneg_left (by omega) (by omega))
  obtain ⟨P, hP⟩ : ∃ P, P = max 0 (cut gap) * max 0 ((n : Int) - 1) := ⟨_, rfl⟩
  rw [← hP] at hP0 hP1
  have m1 : IntKind.i64.wrap (max 0 (cut gap) * max 0 ((n : Int) - 1)) = P := by rw [← hP]; exact IntWalk.i64_in _ (by omega)
  have m2 : wrap64 (max 0 (cut gap) * max 0 ((n : Int) - 1)) = P := by rw [← hP]; exact IntWalk.wrap64_in _ (by omega)
  have HLEFT := Lib.hid (show leftF room gap n = cut room - P from by unfold leftF; rw [hP])
  have HMAIN : Hid (mainsF room gap l = (List.range n).map (fun i => max 0 (endF room gap n (cutsF l) i).is)) := by show _ = _; unfold mainsF; rw [hn]
  have HOK := Lib.hid (cuts_ok l)
  obtain ⟨xs, hxs⟩ : ∃ xs, xs = cutsF l := ⟨_, rfl⟩
  rw [← hxs] at HMAIN HOK
  have HXS := Lib.hid hxs
  clear hP h hn hxs
  go_enter Try.func52, Try.ntmps52
  go_wp2_with (first | (go_at_call 19; refine (cut_calls _ _).mono ?_; rintro e w' ⟨rfl, rfl⟩) | (go_at_call 72; refine HI.out.mono ?_; rintro e w1 ⟨gi, rfl, hown, hb1⟩))
  have hb1s := hb1.size
  have hR0 : RowAt (w1.alloc (.cells #[.int .i64 (cut room - P), .slice (some ⟨gi, 0, none⟩) n n, .bool false] 100)) w.heap.size w1.heap.size gi n (cut room - P) false xs (bornK false xs 0) :=
    ⟨Blk.new _ _ _, (own_congr hown (fun i hi => by unfold itemRow frow bornK; rw [if_pos hi, if_neg (by omega), HXS.out]; rfl)).alloc _, hb1s⟩
  have HFR := Lib.hid (freeLong_calls w.heap.size w1.heap.size gi n (cut room - P) false xs (bornK false xs 0) _ hR0 HOK.out (bornK_ok false xs 0) hm (by omega))
  have hfb := free_bd (cut room - P) n (fun i => long (xs i)) xs HOK.out (fun i => long_bd _) hm (by omega)
  have HG0 : Hid (growsF room gap n xs = decide (0 < freeF (cut room - P) n (fun i => long (xs i)) xs)) := by show _ = _; unfold growsF; rw [HLEFT.out]
  obtain ⟨F0, hF0⟩ : ∃ x, x = freeF (cut room - P) n (fun i => long (xs i)) xs := ⟨_, rfl⟩
  rw [← hF0] at HFR HG0
  obtain ⟨G, hG⟩ : ∃ x, x = decide (0 < F0) := ⟨_, rfl⟩
  rw [← hG] at HG0
  have hG' : decide (0 < F0) = G := hG.symm
  have hbel1 := below_alloc hb1 (.cells #[.int .i64 (cut room - P), .slice (some ⟨gi, 0, none⟩) n n, .bool false] 100)
  obtain ⟨gr, hgr⟩ : ∃ x, x = w1.heap.size := ⟨_, rfl⟩
  obtain ⟨L, hL⟩ : ∃ x, x = cut room - P := ⟨_, rfl⟩
  rw [← hL] at HLEFT hR0 hbel1 HFR
  rw [← hgr] at hR0 HFR
  rw [← hL, ← hgr]
  have hLb : -17179869184000 ≤ L ∧ L ≤ 17179869184000 := by omega
  have hgr0 : w.heap.size ≤ gr := by omega
  have hR0' := hR0
  generalize hwa : World.alloc w1 _ = wa at hR0 hbel1 HFR ⊢
  have HRa := Lib.hid hR0
  have HBa := Lib.hid hbel1
  clear hF0 hG hgr hL m1 m2 hown hb1 hR0 hR0' hbel1 hwa hP0 hP1 hc1 hc2 hc3 hleft hfb hb1s
  refine HFR.out.mono ?_
  rintro e w2 ⟨rfl, hb2⟩
  have hR2 := HRa.out.below hb2
  have p2 : w2.cell? ⟨gr, 2, none⟩ = some (.bool false) := hR2.row.cell 2
  have y2 := hR2.row.free 2
  have hR3 := hR2.setGrows (gw' := G)
  have hbel3 := below_set (below_then HBa.out hb2) (b := gr) (off := 2) hgr0 (.bool G)
  have p1 : (w2.setCell ⟨gr, 2, none⟩ (.bool G)).cell? ⟨gr, 1, none⟩ = some (.slice (some ⟨gi, 0, none⟩) n n) := hR3.row.cell 1
  have HR3 := Lib.hid hR3
  have HB3 := Lib.hid hbel3
  clear hR2 hR3 hbel3 hb2
  go_wp2_with fail
  clear p1 p2 y2 hG'
  go_loopw [40] (fun i wr => ∃ k : Nat, k ≤ n ∧ i = .int .i64 k ∧ RowAt wr w.heap.size gr gi n L G xs (bornK G xs k) ∧ Below w.heap.size w wr) (fun i _ => n - (intOf i).toNat)
  case atStart => exact ⟨0, Nat.zero_le _, rfl, HR3.out, HB3.out⟩
  case round =>
    obtain ⟨k, hk, rfl, hR, hbel⟩ := hrel
    have hw := hbel.size
    by_cases hlt : k < n
    · have hat := hR.at hlt
      have hlk := long_bd (xs k)
      have hfa := fac_bd G (xs k) (HOK.out k)
      have hbk : bornK G xs k k = ⟨false, 0⟩ := if_neg (by omega)
      have hlowI := hR.lowI
      have HGI := Lib.hid ((hR.own.lt gi rfl).2)
      have HBORN : Hid (bornF G (xs k) = if facF G (xs k) = 0 ∨ (G = true ∧ long (xs k) < (xs k).b) ∨ (G = false ∧ (xs k).b < long (xs k)) then ⟨true, long (xs k)⟩ else ⟨false, 0⟩) := rfl
      obtain ⟨⟨b, lo, hi, g, s, e⟩, hxe⟩ : ∃ x, x = xs k := ⟨_, rfl⟩
      obtain ⟨lg, hle⟩ : ∃ x, x = long (xs k) := ⟨_, rfl⟩
      unfold frow at hat
      rw [hbk] at hat
      rw [← hle, ← hxe] at hat HBORN
      have HXE := Lib.hid hxe
      rw [← hxe] at hfa
      have t0 : wr.cell? ⟨gi, k * 9, none⟩ = some (.int .i64 b) := hat 0 _ rfl
      have t1 : wr.cell? ⟨gi, k * 9 + 1, none⟩ = some (.int .i64 lo) := hat 1 _ rfl
      have t2 : wr.cell? ⟨gi, k * 9 + 2, none⟩ = some (.int .i64 hi) := hat 2 _ rfl
      have t3 : wr.cell? ⟨gi, k * 9 + 3, none⟩ = some (.int .i64 g) := hat 3 _ rfl
      have t4 : wr.cell? ⟨gi, k * 9 + 4, none⟩ = some (.int .i64 s) := hat 4 _ rfl
      have t5 : wr.cell? ⟨gi, k * 9 + 5, none⟩ = some (.int .i64 e) := hat 5 _ rfl
      have t6 : wr.cell? ⟨gi, k * 9 + 6, none⟩ = some (.int .i64 lg) := hat 6 _ rfl
      have t7 : wr.cell? ⟨gi, k * 9 + 7, none⟩ = some (.bool false) := hat 7 _ rfl
      have t8 : wr.cell? ⟨gi, k * 9 + 8, none⟩ = some (.int .i64 0) := hat 8 _ rfl
      have HFA := Lib.hid (fun w h => factor_calls b lo hi g s e lg 0 false G gr L (.slice (some ⟨gi, 0, none⟩) n n) w h)
      obtain ⟨q, hq⟩ : ∃ q, q = (if G then g else s) := ⟨_, rfl⟩
      have hq2 : facF G ⟨b, lo, hi, g, s, e⟩ = q := by rw [hq]; rfl
      rw [← hq] at HFA
      rw [hq2] at hfa HBORN
      obtain ⟨c0, c1⟩ := hfa
      have HRA := Lib.hid (hR.alloc (.cells #[.int .i64 b, .int .i64 lo, .int .i64 hi, .int .i64 g, .int .i64 s, .int .i64 e, .int .i64 lg, .bool false, .int .i64 0] 103))
      have HBA := Lib.hid (below_alloc hbel (.cells #[.int .i64 b, .int .i64 lo, .int .i64 hi, .int .i64 g, .int .i64 s, .int .i64 e, .int .i64 lg, .bool false, .int .i64 0] 103))
      have HXA := Lib.hid (Blk.new wr 103 #[.int .i64 b, .int .i64 lo, .int .i64 hi, .int .i64 g, .int .i64 s, .int .i64 e, .int .i64 lg, .bool false, .int .i64 0])
      have KK := Lib.hid (show k ≤ n ∧ k < n from ⟨hk, hlt⟩)
      clear hat hxe hle hq hq2 hR hbel hbk
      by_cases e0 : q = 0
      · subst e0
        have hborn := HBORN.out.trans (if_pos (Or.inl rfl))
        have HBO := Lib.hid (show bornF G (xs k) = ⟨true, lg⟩ from by rw [← HXE.out]; exact hborn)
        clear hborn
        go_wp2_with (go_at_call 75; refine (HFA.out _ HRA.out.row).mono ?_; rintro e w3 ⟨rfl, hb3⟩; have hX3 := HXA.out.below hb3 HXA.out.lt; have hR3 := HRA.out.below hb3; have hB3 := below_then HBA.out hb3; have v2 : w3.cell? ⟨gr, 2, none⟩ = some (.bool G) := hR3.row.cell 2; have v0 : w3.cell? ⟨wr.heap.size, 0, none⟩ = some (.int .i64 b) := hX3.cell 0; have v6 : w3.cell? ⟨wr.heap.size, 6, none⟩ = some (.int .i64 lg) := hX3.cell 6)
        clear v2 v0 v6
        generalize hwz : w3 = wz at hX3 hR3 hB3 ⊢
        have hX := hX3.drew
        have hR := hR3.drew
        have hbel := hB3.drew
        have hgi3 : gi < wr.heap.size := HGI.out
        have k7 : wz.drew.cell? ⟨gi, k * 9 + 7, none⟩ = some (.bool false) := hR.at KK.out.2 7 _ (by unfold frow bornK; rw [if_neg (by omega)]; rfl)
        have z7 : wz.drew.frozen? ⟨gi, k * 9 + 7, none⟩ = false := own_free hR.own
        have hS0 : (fun w' : World => w'.cell? ⟨gr, 1, none⟩ = some (.slice (some ⟨gi, 0, none⟩) n n) ∧ w'.cell? ⟨wr.heap.size, 0, none⟩ = some (.int .i64 b) ∧ w'.cell? ⟨wr.heap.size, 1, none⟩ = some (.int .i64 lo) ∧ w'.cell? ⟨wr.heap.size, 2, none⟩ = some (.int .i64 hi) ∧ w'.cell? ⟨wr.heap.size, 3, none⟩ = some (.int .i64 g) ∧ w'.cell? ⟨wr.heap.size, 4, none⟩ = some (.int .i64 s) ∧ w'.cell? ⟨wr.heap.size, 5, none⟩ = some (.int .i64 e) ∧ w'.cell? ⟨wr.heap.size, 6, none⟩ = some (.int .i64 lg) ∧ w'.cell? ⟨wr.heap.size, 7, none⟩ = some (.bool false) ∧ w'.cell? ⟨wr.heap.size, 8, none⟩ = some (.int .i64 0)) wz.drew := ⟨hR.row.cell 1, hX.cell 0, hX.cell 1, hX.cell 2, hX.cell 3, hX.cell 4, hX.cell 5, hX.cell 6, hX.cell 7, hX.cell 8⟩
        clear hwz hX3 hR3 hB3 t0 t1 t2 t3 t4 t5 t6 t7 t8
        refine wp_region_noPanic ?_
        refine region_M (S := fun w' => w'.cell? ⟨gr, 1, none⟩ = some (.slice (some ⟨gi, 0, none⟩) n n) ∧ w'.cell? ⟨wr.heap.size, 0, none⟩ = some (.int .i64 b) ∧ w'.cell? ⟨wr.heap.size, 1, none⟩ = some (.int .i64 lo) ∧ w'.cell? ⟨wr.heap.size, 2, none⟩ = some (.int .i64 hi) ∧ w'.cell? ⟨wr.heap.size, 3, none⟩ = some (.int .i64 g) ∧ w'.cell? ⟨wr.heap.size, 4, none⟩ = some (.int .i64 s) ∧ w'.cell? ⟨wr.heap.size, 5, none⟩ = some (.int .i64 e) ∧ w'.cell? ⟨wr.heap.size, 6, none⟩ = some (.int .i64 lg) ∧ w'.cell? ⟨wr.heap.size, 7, none⟩ = some (.bool false) ∧ w'.cell? ⟨wr.heap.size, 8, none⟩ = some (.int .i64 0)) (T := []) (by kernel_rfl) ?_
        refine anyM_free (i := 0) (oi := { dst := some 78, op := _, type := _, pos := _, after := _, guard := _ }) (v := ?_) rfl (by kernel_rfl) (fun _ _ _ h => h) (Or.inl ⟨by kernel_rfl, ?_⟩) (fun _ => hS0) ?_
        rotate_left 1
        · (intro w hSw; (try dsimp only at hSw); go_simp; try with_reducible rfl)
        try simp only [Act.put, Array.toArray_toList, List.setIfInBounds_toArray, List.set_cons_zero, List.set_cons_succ]
        refine anyM_free (i := 1) (oi := { dst := some 79, op := _, type := _, pos := _, after := _, guard := _ }) (v := ?_) rfl (by kernel_rfl) (fun _ _ _ h => h) (Or.inl ⟨by kernel_rfl, ?_⟩) (fun _ => hS0) ?_
        rotate_left 1
        · (intro w hSw; (try dsimp only at hSw); go_simp; try with_reducible rfl)
        try simp only [Act.put, Array.toArray_toList, List.setIfInBounds_toArray, List.set_cons_zero, List.set_cons_succ]
        refine anyM_free (i := 2) (oi := { dst := some 80, op := _, type := _, pos := _, after := _, guard := _ }) (v := ?_) rfl (by kernel_rfl) (fun _ _ _ h => h) (Or.inl ⟨by kernel_rfl, ?_⟩) (fun _ => hS0) ?_
        rotate_left 1
        · (intro w hSw; (try dsimp only at hSw); go_simp; try with_reducible rfl)
        try simp only [Act.put, Array.toArray_toList, List.setIfInBounds_toArray, List.set_cons_zero, List.set_cons_succ]
        refine anyM_take (i := 3) (oi := { dst := some 81, op := _, type := _, pos := _, after := _, guard := _ }) (v := ?_) rfl (by kernel_rfl) (fun _ _ _ h => h) (Or.inl ⟨by kernel_rfl, ?_⟩) hS0 ?_
        rotate_left 1
        · (intro w hSw; (try dsimp only at hSw); go_simp; try with_reducible rfl)
        try simp only [Act.put, Array.toArray_toList, List.setIfInBounds_toArray, List.set_cons_zero, List.set_cons_succ]
        refine anyM_free (i := 4) (oi := { dst := some 82, op := _, type := _, pos := _, after := _, guard := _ }) (v := ?_) rfl (by kernel_rfl) (fun _ _ _ h => h) (Or.inl ⟨by kernel_rfl, ?_⟩) (fun _ => hS0) ?_
        rotate_left 1
        · (intro w hSw; (try dsimp only at hSw); go_simp; try with_reducible rfl)
        try simp only [Act.put, Array.toArray_toList, List.setIfInBounds_toArray, List.set_cons_zero, List.set_cons_succ]
        refine anyM_free (i := 5) (oi := { dst := some 83, op := _, type := _, pos := _, after := _, guard := _ }) (v := ?_) rfl (by kernel_rfl) (fun _ _ _ h => h) (Or.inl ⟨by kernel_rfl, ?_⟩) (fun _ => hS0) ?_
        rotate_left 1
        · (intro w hSw; (try dsimp only at hSw); go_simp; try with_reducible rfl)
        try simp only [Act.put, Array.toArray_toList, List.setIfInBounds_toArray, List.set_cons_zero, List.set_cons_succ]
        refine anyM_free (i := 6) (oi := { dst := some 84, op := _, type := _, pos := _, after := _, guard := _ }) (v := ?_) rfl (by kernel_rfl) (fun _ _ _ h => h) (Or.inl ⟨by kernel_rfl, ?_⟩) (fun _ => hS0) ?_
        rotate_left 1
        · (intro w hSw; (try dsimp only at hSw); go_simp; try with_reducible rfl)
        try simp only [Act.put, Array.toArray_toList, List.setIfInBounds_toArray, List.set_cons_zero, List.set_cons_succ]
        refine anyM_free (i := 7) (oi := { dst := some 85, op := _, type := _, pos := _, after := _, guard := _ }) (v := ?_) rfl (by kernel_rfl) (fun _ _ _ h => h) (Or.inl ⟨by kernel_rfl, ?_⟩) (fun _ => hS0) ?_
        rotate_left 1
        · (intro w hSw; (try dsimp only at hSw); go_simp; try with_reducible rfl)
        try simp only [Act.put, Array.toArray_toList, List.setIfInBounds_toArray, List.set_cons_zero, List.set_cons_succ]
        refine anyM_take (i := 8) (oi := { dst := some 86, op := _, type := _, pos := _, after := _, guard := _ }) (v := ?_) rfl (by kernel_rfl) (fun _ _ _ h => h) (Or.inl ⟨by kernel_rfl, ?_⟩) hS0 ?_
        rotate_left 1
        · (intro w hSw; (try dsimp only at hSw); go_simp; try with_reducible rfl)
        try simp only [Act.put, Array.toArray_toList, List.setIfInBounds_toArray, List.set_cons_zero, List.set_cons_succ]
        refine anyM_free (i := 9) (oi := { dst := some 87, op := _, type := _, pos := _, after := _, guard := _ }) (v := ?_) rfl (by kernel_rfl) (fun _ _ _ h => h) (Or.inl ⟨by kernel_rfl, ?_⟩) (fun _ => hS0) ?_
        rotate_left 1
        · (intro w hSw; (try dsimp only at hSw); go_simp; try with_reducible rfl)
        try simp only [Act.put, Array.toArray_toList, List.setIfInBounds_toArray, List.set_cons_zero, List.set_cons_succ]
        refine anyM_free (i := 10) (oi := { dst := some 88, op := _, type := _, pos := _, after := _, guard := _ }) (v := ?_) rfl (by kernel_rfl) (fun _ _ _ h => h) (Or.inl ⟨by kernel_rfl, ?_⟩) (fun _ => hS0) ?_
        rotate_left 1
        · (intro w hSw; (try dsimp only at hSw); go_simp; try with_reducible rfl)
        try simp only [Act.put, Array.toArray_toList, List.setIfInBounds_toArray, List.set_cons_zero, List.set_cons_succ]
        refine anyM_take (i := 11) (oi := { dst := some 89, op := _, type := _, pos := _, after := _, guard := _ }) (v := ?_) rfl (by kernel_rfl) (fun _ _ _ h => h) (Or.inl ⟨by kernel_rfl, ?_⟩) hS0 ?_
        rotate_left 1
        · (intro w hSw; (try dsimp only at hSw); go_simp; try with_reducible rfl)
        try simp only [Act.put, Array.toArray_toList, List.setIfInBounds_toArray, List.set_cons_zero, List.set_cons_succ]
        refine anyM_free (i := 12) (oi := { dst := some 90, op := _, type := _, pos := _, after := _, guard := _ }) (v := ?_) rfl (by kernel_rfl) (fun _ _ _ h => h) (Or.inl ⟨by kernel_rfl, ?_⟩) (fun _ => hS0) ?_
        rotate_left 1
        · (intro w hSw; (try dsimp only at hSw); go_simp; try with_reducible rfl)
        try simp only [Act.put, Array.toArray_toList, List.setIfInBounds_toArray, List.set_cons_zero, List.set_cons_succ]
        refine anyM_free (i := 13) (oi := { dst := some 91, op := _, type := _, pos := _, after := _, guard := _ }) (v := ?_) rfl (by kernel_rfl) (fun _ _ _ h => h) (Or.inl ⟨by kernel_rfl, ?_⟩) (fun _ => hS0) ?_
        rotate_left 1
        · (intro w hSw; (try dsimp only at hSw); go_simp; try with_reducible rfl)
        try simp only [Act.put, Array.toArray_toList, List.setIfInBounds_toArray, List.set_cons_zero, List.set_cons_succ]
        refine anyM_one (i := 14) (by kernel_rfl) rfl (fun K hK => ?_)
        go_simp
        have hR := hR.settle KK.out.2
        have hX := hX.far (b := gi) (i := k * 9 + 7) (by omega) (.bool true)
        have hbel := below_set hbel (b := gi) (off := k * 9 + 7) hlowI (.bool true)
        have k8 : (wz.setCell ⟨gi, k * 9 + 7, none⟩ (.bool true)).cell? ⟨gi, k * 9 + 8, none⟩ = some (.int .i64 0) := hR.at KK.out.2 8 _ (by unfold frow bornK; simp [itemF])
        have z8 : (wz.setCell ⟨gi, k * 9 + 7, none⟩ (.bool true)).frozen? ⟨gi, k * 9 + 8, none⟩ = false := own_free hR.own
        have hS0 : (fun w' : World => w'.cell? ⟨gr, 1, none⟩ = some (.slice (some ⟨gi, 0, none⟩) n n) ∧ w'.cell? ⟨wr.heap.size, 0, none⟩ = some (.int .i64 b) ∧ w'.cell? ⟨wr.heap.size, 1, none⟩ = some (.int .i64 lo) ∧ w'.cell? ⟨wr.heap.size, 2, none⟩ = some (.int .i64 hi) ∧ w'.cell? ⟨wr.heap.size, 3, none⟩ = some (.int .i64 g) ∧ w'.cell? ⟨wr.heap.size, 4, none⟩ = some (.int .i64 s) ∧ w'.cell? ⟨wr.heap.size, 5, none⟩ = some (.int .i64 e) ∧ w'.cell? ⟨wr.heap.size, 6, none⟩ = some (.int .i64 lg) ∧ w'.cell? ⟨wr.heap.size, 7, none⟩ = some (.bool false) ∧ w'.cell? ⟨wr.heap.size, 8, none⟩ = some (.int .i64 0)) (wz.setCell ⟨gi, k * 9 + 7, none⟩ (.bool true)).drew := ⟨hR.row.cell 1, hX.cell 0, hX.cell 1, hX.cell 2, hX.cell 3, hX.cell 4, hX.cell 5, hX.cell 6, hX.cell 7, hX.cell 8⟩
        refine hK.out _ _ (fun _ => hS0) ?_
        clear hK K
        try simp only [Act.put, Array.toArray_toList, List.setIfInBounds_toArray, List.set_cons_zero, List.set_cons_succ]
        refine anyM_free (i := 15) (oi := { dst := some 92, op := _, type := _, pos := _, after := _, guard := _ }) (v := ?_) rfl (by kernel_rfl) (fun _ _ _ h => h) (Or.inl ⟨by kernel_rfl, ?_⟩) (fun _ => hS0) ?_
        rotate_left 1
        · (intro w hSw; (try dsimp only at hSw); go_simp; try with_reducible rfl)
        try simp only [Act.put, Array.toArray_toList, List.setIfInBounds_toArray, List.set_cons_zero, List.set_cons_succ]
        refine anyM_free (i := 16) (oi := { dst := some 93, op := _, type := _, pos := _, after := _, guard := _ }) (v := ?_) rfl (by kernel_rfl) (fun _ _ _ h => h) (Or.inl ⟨by kernel_rfl, ?_⟩) (fun _ => hS0) ?_
        rotate_left 1
        · (intro w hSw; (try dsimp only at hSw); go_simp; try with_reducible rfl)
        try simp only [Act.put, Array.toArray_toList, List.setIfInBounds_toArray, List.set_cons_zero, List.set_cons_succ]
        refine anyM_one (i := 17) (by kernel_rfl) rfl (fun K hK => ?_)
        go_simp
        have hR := hR.setIs KK.out.2 lg
        have hX := hX.far (b := gi) (i := k * 9 + 8) (by omega) (.int .i64 lg)
        have hbel := below_set hbel (b := gi) (off := k * 9 + 8) hlowI (.int .i64 lg)
        have hS0 : (fun w' : World => w'.cell? ⟨gr, 1, none⟩ = some (.slice (some ⟨gi, 0, none⟩) n n) ∧ w'.cell? ⟨wr.heap.size, 0, none⟩ = some (.int .i64 b) ∧ w'.cell? ⟨wr.heap.size, 1, none⟩ = some (.int .i64 lo) ∧ w'.cell? ⟨wr.heap.size, 2, none⟩ = some (.int .i64 hi) ∧ w'.cell? ⟨wr.heap.size, 3, none⟩ = some (.int .i64 g) ∧ w'.cell? ⟨wr.heap.size, 4, none⟩ = some (.int .i64 s) ∧ w'.cell? ⟨wr.heap.size, 5, none⟩ = some (.int .i64 e) ∧ w'.cell? ⟨wr.heap.size, 6, none⟩ = some (.int .i64 lg) ∧ w'.cell? ⟨wr.heap.size, 7, none⟩ = some (.bool false) ∧ w'.cell? ⟨wr.heap.size, 8, none⟩ = some (.int .i64 0)) ((wz.setCell ⟨gi, k * 9 + 7, none⟩ (.bool true)).setCell ⟨gi, k * 9 + 8, none⟩ (.int .i64 lg)).drew := ⟨hR.row.cell 1, hX.cell 0, hX.cell 1, hX.cell 2, hX.cell 3, hX.cell 4, hX.cell 5, hX.cell 6, hX.cell 7, hX.cell 8⟩
        refine hK.out _ _ (fun _ => hS0) ?_
        clear hK K
        try simp only [Act.put, Array.toArray_toList, List.setIfInBounds_toArray, List.set_cons_zero, List.set_cons_succ]
        refine anyM_done (by kernel_rfl) ?_ _
        refine NoPanic.normal ?_
        have hR := hR.congr (fun i hi => bornK_step G xs k i lg HBO.out)
        have HR9 := Lib.hid hR
        have HL9 := Lib.hid hbel
        clear hR hX hbel hS0 k7 z7 k8 z8 hgi3
        go_wp2_with fail
        go_roundw
        case rel => exact ⟨k + 1, by have := KK.out; omega, by go_num, HR9.out, HL9.out⟩
        case measure => have := KK.out; simp [intOf]; omega
      · have e0' : (q == 0) = false := by simpa using e0
        cases G
        · by_cases hbl : b < lg
          · have hborn := HBORN.out.trans (if_pos (Or.inr (Or.inr ⟨rfl, hbl⟩)))
            have HBO := Lib.hid (show bornF false (xs k) = ⟨true, lg⟩ from by rw [← HXE.out]; exact hborn)
            clear hborn
            go_wp2_with (go_at_call 75; refine (HFA.out _ HRA.out.row).mono ?_; rintro e w3 ⟨rfl, hb3⟩; have hX3 := HXA.out.below hb3 HXA.out.lt; have hR3 := HRA.out.below hb3; have hB3 := below_then HBA.out hb3; have v2 : w3.cell? ⟨gr, 2, none⟩ = some (.bool false) := hR3.row.cell 2; have v0 : w3.cell? ⟨wr.heap.size, 0, none⟩ = some (.int .i64 b) := hX3.cell 0; have v6 : w3.cell? ⟨wr.heap.size, 6, none⟩ = some (.int .i64 lg) := hX3.cell 6)
            clear v2 v0 v6
            generalize hwz : w3 = wz at hX3 hR3 hB3 ⊢
            have hX := hX3.drew
            have hR := hR3.drew
            have hbel := hB3.drew
            have hgi3 : gi < wr.heap.size := HGI.out
            have k7 : wz.drew.cell? ⟨gi, k * 9 + 7, none⟩ = some (.bool false) := hR.at KK.out.2 7 _ (by unfold frow bornK; rw [if_neg (by omega)]; rfl)
            have z7 : wz.drew.frozen? ⟨gi, k * 9 + 7, none⟩ = false := own_free hR.own
            have hS0 : (fun w' : World => w'.cell? ⟨gr, 1, none⟩ = some (.slice (some ⟨gi, 0, none⟩) n n) ∧ w'.cell? ⟨wr.heap.size, 0, none⟩ = some (.int .i64 b) ∧ w'.cell? ⟨wr.heap.size, 1, none⟩ = some (.int .i64 lo) ∧ w'.cell? ⟨wr.heap.size, 2, none⟩ = some (.int .i64 hi) ∧ w'.cell? ⟨wr.heap.size, 3, none⟩ = some (.int .i64 g) ∧ w'.cell? ⟨wr.heap.size, 4, none⟩ = some (.int .i64 s) ∧ w'.cell? ⟨wr.heap.size, 5, none⟩ = some (.int .i64 e) ∧ w'.cell? ⟨wr.heap.size, 6, none⟩ = some (.int .i64 lg) ∧ w'.cell? ⟨wr.heap.size, 7, none⟩ = some (.bool false) ∧ w'.cell? ⟨wr.heap.size, 8, none⟩ = some (.int .i64 0)) wz.drew := ⟨hR.row.cell 1, hX.cell 0, hX.cell 1, hX.cell 2, hX.cell 3, hX.cell 4, hX.cell 5, hX.cell 6, hX.cell 7, hX.cell 8⟩
            clear hwz hX3 hR3 hB3 t0 t1 t2 t3 t4 t5 t6 t7 t8
            refine wp_region_noPanic ?_
            refine region_M (S := fun w' => w'.cell? ⟨gr, 1, none⟩ = some (.slice (some ⟨gi, 0, none⟩) n n) ∧ w'.cell? ⟨wr.heap.size, 0, none⟩ = some (.int .i64 b) ∧ w'.cell? ⟨wr.heap.size, 1, none⟩ = some (.int .i64 lo) ∧ w'.cell? ⟨wr.heap.size, 2, none⟩ = some (.int .i64 hi) ∧ w'.cell? ⟨wr.heap.size, 3, none⟩ = some (.int .i64 g) ∧ w'.cell? ⟨wr.heap.size, 4, none⟩ = some (.int .i64 s) ∧ w'.cell? ⟨wr.heap.size, 5, none⟩ = some (.int .i64 e) ∧ w'.cell? ⟨wr.heap.size, 6, none⟩ = some (.int .i64 lg) ∧ w'.cell? ⟨wr.heap.size, 7, none⟩ = some (.bool false) ∧ w'.cell? ⟨wr.heap.size, 8, none⟩ = some (.int .i64 0)) (T := []) (by kernel_rfl) ?_
            refine anyM_free (i := 0) (oi := { dst := some 78, op := _, type := _, pos := _, after := _, guard := _ }) (v := ?_) rfl (by kernel_rfl) (fun _ _ _ h => h) (Or.inl ⟨by kernel_rfl, ?_⟩) (fun _ => hS0) ?_
            rotate_left 1
            · (intro w hSw; (try dsimp only at hSw); go_simp; try with_reducible rfl)
            try simp only [Act.put, Array.toArray_toList, List.setIfInBounds_toArray, List.set_cons_zero, List.set_cons_succ]
            refine anyM_free (i := 1) (oi := { dst := some 79, op := _, type := _, pos := _, after := _, guard := _ }) (v := ?_) rfl (by kernel_rfl) (fun _ _ _ h => h) (Or.inl ⟨by kernel_rfl, ?_⟩) (fun _ => hS0) ?_
            rotate_left 1
            · (intro w hSw; (try dsimp only at hSw); go_simp; try with_reducible rfl)
            try simp only [Act.put, Array.toArray_toList, List.setIfInBounds_toArray, List.set_cons_zero, List.set_cons_succ]
            refine anyM_free (i := 2) (oi := { dst := some 80, op := _, type := _, pos := _, after := _, guard := _ }) (v := ?_) rfl (by kernel_rfl) (fun _ _ _ h => h) (Or.inl ⟨by kernel_rfl, ?_⟩) (fun _ => hS0) ?_
            rotate_left 1
            · (intro w hSw; (try dsimp only at hSw); go_simp; try with_reducible rfl)
            try simp only [Act.put, Array.toArray_toList, List.setIfInBounds_toArray, List.set_cons_zero, List.set_cons_succ]
            refine anyM_take (i := 3) (oi := { dst := some 81, op := _, type := _, pos := _, after := _, guard := _ }) (v := ?_) rfl (by kernel_rfl) (fun _ _ _ h => h) (Or.inl ⟨by kernel_rfl, ?_⟩) hS0 ?_
            rotate_left 1
            · (intro w hSw; (try dsimp only at hSw); go_simp; try with_reducible rfl)
            try simp only [Act.put, Array.toArray_toList, List.setIfInBounds_toArray, List.set_cons_zero, List.set_cons_succ]
            refine anyM_free (i := 4) (oi := { dst := some 82, op := _, type := _, pos := _, after := _, guard := _ }) (v := ?_) rfl (by kernel_rfl) (fun _ _ _ h => h) (Or.inl ⟨by kernel_rfl, ?_⟩) (fun _ => hS0) ?_
            rotate_left 1
            · (intro w hSw; (try dsimp only at hSw); go_simp; try with_reducible rfl)
            try simp only [Act.put, Array.toArray_toList, List.setIfInBounds_toArray, List.set_cons_zero, List.set_cons_succ]
            refine anyM_free (i := 5) (oi := { dst := some 83, op := _, type := _, pos := _, after := _, guard := _ }) (v := ?_) rfl (by kernel_rfl) (fun _ _ _ h => h) (Or.inl ⟨by kernel_rfl, ?_⟩) (fun _ => hS0) ?_
            rotate_left 1
            · (intro w hSw; (try dsimp only at hSw); go_simp; try with_reducible rfl)
            try simp only [Act.put, Array.toArray_toList, List.setIfInBounds_toArray, List.set_cons_zero, List.set_cons_succ]
            refine anyM_free (i := 6) (oi := { dst := some 84, op := _, type := _, pos := _, after := _, guard := _ }) (v := ?_) rfl (by kernel_rfl) (fun _ _ _ h => h) (Or.inl ⟨by kernel_rfl, ?_⟩) (fun _ => hS0) ?_
            rotate_left 1
            · (intro w hSw; (try dsimp only at hSw); go_simp; try with_reducible rfl)
            try simp only [Act.put, Array.toArray_toList, List.setIfInBounds_toArray, List.set_cons_zero, List.set_cons_succ]
            refine anyM_free (i := 7) (oi := { dst := some 85, op := _, type := _, pos := _, after := _, guard := _ }) (v := ?_) rfl (by kernel_rfl) (fun _ _ _ h => h) (Or.inl ⟨by kernel_rfl, ?_⟩) (fun _ => hS0) ?_
            rotate_left 1
            · (intro w hSw; (try dsimp only at hSw); go_simp; try with_reducible rfl)
            try simp only [Act.put, Array.toArray_toList, List.setIfInBounds_toArray, List.set_cons_zero, List.set_cons_succ]
            refine anyM_take (i := 8) (oi := { dst := some 86, op := _, type := _, pos := _, after := _, guard := _ }) (v := ?_) rfl (by kernel_rfl) (fun _ _ _ h => h) (Or.inl ⟨by kernel_rfl, ?_⟩) hS0 ?_
            rotate_left 1
            · (intro w hSw; (try dsimp only at hSw); go_simp; try with_reducible rfl)
            try simp only [Act.put, Array.toArray_toList, List.setIfInBounds_toArray, List.set_cons_zero, List.set_cons_succ]
            refine anyM_free (i := 9) (oi := { dst := some 87, op := _, type := _, pos := _, after := _, guard := _ }) (v := ?_) rfl (by kernel_rfl) (fun _ _ _ h => h) (Or.inl ⟨by kernel_rfl, ?_⟩) (fun _ => hS0) ?_
            rotate_left 1
            · (intro w hSw; (try dsimp only at hSw); go_simp; try with_reducible rfl)
            try simp only [Act.put, Array.toArray_toList, List.setIfInBounds_toArray, List.set_cons_zero, List.set_cons_succ]
            refine anyM_free (i := 10) (oi := { dst := some 88, op := _, type := _, pos := _, after := _, guard := _ }) (v := ?_) rfl (by kernel_rfl) (fun _ _ _ h => h) (Or.inl ⟨by kernel_rfl, ?_⟩) (fun _ => hS0) ?_
            rotate_left 1
            · (intro w hSw; (try dsimp only at hSw); go_simp; try with_reducible rfl)
            try simp only [Act.put, Array.toArray_toList, List.setIfInBounds_toArray, List.set_cons_zero, List.set_cons_succ]
            refine anyM_take (i := 11) (oi := { dst := some 89, op := _, type := _, pos := _, after := _, guard := _ }) (v := ?_) rfl (by kernel_rfl) (fun _ _ _ h => h) (Or.inl ⟨by kernel_rfl, ?_⟩) hS0 ?_
            rotate_left 1
            · (intro w hSw; (try dsimp only at hSw); go_simp; try with_reducible rfl)
            try simp only [Act.put, Array.toArray_toList, List.setIfInBounds_toArray, List.set_cons_zero, List.set_cons_succ]
            refine anyM_free (i := 12) (oi := { dst := some 90, op := _, type := _, pos := _, after := _, guard := _ }) (v := ?_) rfl (by kernel_rfl) (fun _ _ _ h => h) (Or.inl ⟨by kernel_rfl, ?_⟩) (fun _ => hS0) ?_
            rotate_left 1
            · (intro w hSw; (try dsimp only at hSw); go_simp; try with_reducible rfl)
            try simp only [Act.put, Array.toArray_toList, List.setIfInBounds_toArray, List.set_cons_zero, List.set_cons_succ]
            refine anyM_free (i := 13) (oi := { dst := some 91, op := _, type := _, pos := _, after := _, guard := _ }) (v := ?_) rfl (by kernel_rfl) (fun _ _ _ h => h) (Or.inl ⟨by kernel_rfl, ?_⟩) (fun _ => hS0) ?_
            rotate_left 1
            · (intro w hSw; (try dsimp only at hSw); go_simp; try with_reducible rfl)
            try simp only [Act.put, Array.toArray_toList, List.setIfInBounds_toArray, List.set_cons_zero, List.set_cons_succ]
            refine anyM_one (i := 14) (by kernel_rfl) rfl (fun K hK => ?_)
            go_simp
            have hR := hR.settle KK.out.2
            have hX := hX.far (b := gi) (i := k * 9 + 7) (by omega) (.bool true)
            have hbel := below_set hbel (b := gi) (off := k * 9 + 7) hlowI (.bool true)
            have k8 : (wz.setCell ⟨gi, k * 9 + 7, none⟩ (.bool true)).cell? ⟨gi, k * 9 + 8, none⟩ = some (.int .i64 0) := hR.at KK.out.2 8 _ (by unfold frow bornK; simp [itemF])
            have z8 : (wz.setCell ⟨gi, k * 9 + 7, none⟩ (.bool true)).frozen? ⟨gi, k * 9 + 8, none⟩ = false := own_free hR.own
            have hS0 : (fun w' : World => w'.cell? ⟨gr, 1, none⟩ = some (.slice (some ⟨gi, 0, none⟩) n n) ∧ w'.cell? ⟨wr.heap.size, 0, none⟩ = some (.int .i64 b) ∧ w'.cell? ⟨wr.heap.size, 1, none⟩ = some (.int .i64 lo) ∧ w'.cell? ⟨wr.heap.size, 2, none⟩ = some (.int .i64 hi) ∧ w'.cell? ⟨wr.heap.size, 3, none⟩ = some (.int .i64 g) ∧ w'.cell? ⟨wr.heap.size, 4, none⟩ = some (.int .i64 s) ∧ w'.cell? ⟨wr.heap.size, 5, none⟩ = some (.int .i64 e) ∧ w'.cell? ⟨wr.heap.size, 6, none⟩ = some (.int .i64 lg) ∧ w'.cell? ⟨wr.heap.size, 7, none⟩ = some (.bool false) ∧ w'.cell? ⟨wr.heap.size, 8, none⟩ = some (.int .i64 0)) (wz.setCell ⟨gi, k * 9 + 7, none⟩ (.bool true)).drew := ⟨hR.row.cell 1, hX.cell 0, hX.cell 1, hX.cell 2, hX.cell 3, hX.cell 4, hX.cell 5, hX.cell 6, hX.cell 7, hX.cell 8⟩
            refine hK.out _ _ (fun _ => hS0) ?_
            clear hK K
            try simp only [Act.put, Array.toArray_toList, List.setIfInBounds_toArray, List.set_cons_zero, List.set_cons_succ]
            refine anyM_free (i := 15) (oi := { dst := some 92, op := _, type := _, pos := _, after := _, guard := _ }) (v := ?_) rfl (by kernel_rfl) (fun _ _ _ h => h) (Or.inl ⟨by kernel_rfl, ?_⟩) (fun _ => hS0) ?_
            rotate_left 1
            · (intro w hSw; (try dsimp only at hSw); go_simp; try with_reducible rfl)
            try simp only [Act.put, Array.toArray_toList, List.setIfInBounds_toArray, List.set_cons_zero, List.set_cons_succ]
            refine anyM_free (i := 16) (oi := { dst := some 93, op := _, type := _, pos := _, after := _, guard := _ }) (v := ?_) rfl (by kernel_rfl) (fun _ _ _ h => h) (Or.inl ⟨by kernel_rfl, ?_⟩) (fun _ => hS0) ?_
            rotate_left 1
            · (intro w hSw; (try dsimp only at hSw); go_simp; try with_reducible rfl)
            try simp only [Act.put, Array.toArray_toList, List.setIfInBounds_toArray, List.set_cons_zero, List.set_cons_succ]
            refine anyM_one (i := 17) (by kernel_rfl) rfl (fun K hK => ?_)
            go_simp
            have hR := hR.setIs KK.out.2 lg
            have hX := hX.far (b := gi) (i := k * 9 + 8) (by omega) (.int .i64 lg)
            have hbel := below_set hbel (b := gi) (off := k * 9 + 8) hlowI (.int .i64 lg)
            have hS0 : (fun w' : World => w'.cell? ⟨gr, 1, none⟩ = some (.slice (some ⟨gi, 0, none⟩) n n) ∧ w'.cell? ⟨wr.heap.size, 0, none⟩ = some (.int .i64 b) ∧ w'.cell? ⟨wr.heap.size, 1, none⟩ = some (.int .i64 lo) ∧ w'.cell? ⟨wr.heap.size, 2, none⟩ = some (.int .i64 hi) ∧ w'.cell? ⟨wr.heap.size, 3, none⟩ = some (.int .i64 g) ∧ w'.cell? ⟨wr.heap.size, 4, none⟩ = some (.int .i64 s) ∧ w'.cell? ⟨wr.heap.size, 5, none⟩ = some (.int .i64 e) ∧ w'.cell? ⟨wr.heap.size, 6, none⟩ = some (.int .i64 lg) ∧ w'.cell? ⟨wr.heap.size, 7, none⟩ = some (.bool false) ∧ w'.cell? ⟨wr.heap.size, 8, none⟩ = some (.int .i64 0)) ((wz.setCell ⟨gi, k * 9 + 7, none⟩ (.bool true)).setCell ⟨gi, k * 9 + 8, none⟩ (.int .i64 lg)).drew := ⟨hR.row.cell 1, hX.cell 0, hX.cell 1, hX.cell 2, hX.cell 3, hX.cell 4, hX.cell 5, hX.cell 6, hX.cell 7, hX.cell 8⟩
            refine hK.out _ _ (fun _ => hS0) ?_
            clear hK K
            try simp only [Act.put, Array.toArray_toList, List.setIfInBounds_toArray, List.set_cons_zero, List.set_cons_succ]
            refine anyM_done (by kernel_rfl) ?_ _
            refine NoPanic.normal ?_
            have hR := hR.congr (fun i hi => bornK_step false xs k i lg HBO.out)
            have HR9 := Lib.hid hR
            have HL9 := Lib.hid hbel
            clear hR hX hbel hS0 k7 z7 k8 z8 hgi3
            go_wp2_with fail
            go_roundw
            case rel => exact ⟨k + 1, by have := KK.out; omega, by go_num, HR9.out, HL9.out⟩
            case measure => have := KK.out; simp [intOf]; omega
          · have hborn := HBORN.out.trans (if_neg (by rintro (h | ⟨h, _⟩ | ⟨_, h⟩); exact e0 h; cases h; exact hbl h))
            have hbl' : decide (b < lg) = false := by simpa using hbl
            have HBO := Lib.hid (bornK_keep false xs k (show bornF false (xs k) = ⟨false, 0⟩ from by rw [← HXE.out]; exact hborn))
            clear hborn
            go_wp2_with (go_at_call 75; refine (HFA.out _ HRA.out.row).mono ?_; rintro e w3 ⟨rfl, hb3⟩; have hX3 := HXA.out.below hb3 HXA.out.lt; have hR3 := HRA.out.below hb3; have hB3 := below_then HBA.out hb3; have v2 : w3.cell? ⟨gr, 2, none⟩ = some (.bool false) := hR3.row.cell 2; have v0 : w3.cell? ⟨wr.heap.size, 0, none⟩ = some (.int .i64 b) := hX3.cell 0; have v6 : w3.cell? ⟨wr.heap.size, 6, none⟩ = some (.int .i64 lg) := hX3.cell 6)
            have HR9 := Lib.hid hR3
            have HL9 := Lib.hid hB3
            clear hX3 hR3 hB3 v2 v0 v6
            go_roundw
            case rel => exact ⟨k + 1, by have := KK.out; omega, by go_num, by rw [HBO.out]; exact HR9.out, HL9.out⟩
            case measure => have := KK.out; simp [intOf]; omega
        · by_cases hbl : lg < b
          · have hborn := HBORN.out.trans (if_pos (Or.inr (Or.inl ⟨rfl, hbl⟩)))
            have HBO := Lib.hid (show bornF true (xs k) = ⟨true, lg⟩ from by rw [← HXE.out]; exact hborn)
            clear hborn
            go_wp2_with (go_at_call 75; refine (HFA.out _ HRA.out.row).mono ?_; rintro e w3 ⟨rfl, hb3⟩; have hX3 := HXA.out.below hb3 HXA.out.lt; have hR3 := HRA.out.below hb3; have hB3 := below_then HBA.out hb3; have v2 : w3.cell? ⟨gr, 2, none⟩ = some (.bool true) := hR3.row.cell 2; have v0 : w3.cell? ⟨wr.heap.size, 0, none⟩ = some (.int .i64 b) := hX3.cell 0; have v6 : w3.cell? ⟨wr.heap.size, 6, none⟩ = some (.int .i64 lg) := hX3.cell 6)
            clear v2 v0 v6
            generalize hwz : w3 = wz at hX3 hR3 hB3 ⊢
            have hX := hX3.drew
            have hR := hR3.drew
            have hbel := hB3.drew
            have hgi3 : gi < wr.heap.size := HGI.out
            have k7 : wz.drew.cell? ⟨gi, k * 9 + 7, none⟩ = some (.bool false) := hR.at KK.out.2 7 _ (by unfold frow bornK; rw [if_neg (by omega)]; rfl)
            have z7 : wz.drew.frozen? ⟨gi, k * 9 + 7, none⟩ = false := own_free hR.own
            have hS0 : (fun w' : World => w'.cell? ⟨gr, 1, none⟩ = some (.slice (some ⟨gi, 0, none⟩) n n) ∧ w'.cell? ⟨wr.heap.size, 0, none⟩ = some (.int .i64 b) ∧ w'.cell? ⟨wr.heap.size, 1, none⟩ = some (.int .i64 lo) ∧ w'.cell? ⟨wr.heap.size, 2, none⟩ = some (.int .i64 hi) ∧ w'.cell? ⟨wr.heap.size, 3, none⟩ = some (.int .i64 g) ∧ w'.cell? ⟨wr.heap.size, 4, none⟩ = some (.int .i64 s) ∧ w'.cell? ⟨wr.heap.size, 5, none⟩ = some (.int .i64 e) ∧ w'.cell? ⟨wr.heap.size, 6, none⟩ = some (.int .i64 lg) ∧ w'.cell? ⟨wr.heap.size, 7, none⟩ = some (.bool false) ∧ w'.cell? ⟨wr.heap.size, 8, none⟩ = some (.int .i64 0)) wz.drew := ⟨hR.row.cell 1, hX.cell 0, hX.cell 1, hX.cell 2, hX.cell 3, hX.cell 4, hX.cell 5, hX.cell 6, hX.cell 7, hX.cell 8⟩
            clear hwz hX3 hR3 hB3 t0 t1 t2 t3 t4 t5 t6 t7 t8
            refine wp_region_noPanic ?_
            refine region_M (S := fun w' => w'.cell? ⟨gr, 1, none⟩ = some (.slice (some ⟨gi, 0, none⟩) n n) ∧ w'.cell? ⟨wr.heap.size, 0, none⟩ = some (.int .i64 b) ∧ w'.cell? ⟨wr.heap.size, 1, none⟩ = some (.int .i64 lo) ∧ w'.cell? ⟨wr.heap.size, 2, none⟩ = some (.int .i64 hi) ∧ w'.cell? ⟨wr.heap.size, 3, none⟩ = some (.int .i64 g) ∧ w'.cell? ⟨wr.heap.size, 4, none⟩ = some (.int .i64 s) ∧ w'.cell? ⟨wr.heap.size, 5, none⟩ = some (.int .i64 e) ∧ w'.cell? ⟨wr.heap.size, 6, none⟩ = some (.int .i64 lg) ∧ w'.cell? ⟨wr.heap.size, 7, none⟩ = some (.bool false) ∧ w'.cell? ⟨wr.heap.size, 8, none⟩ = some (.int .i64 0)) (T := []) (by kernel_rfl) ?_
            refine anyM_free (i := 0) (oi := { dst := some 78, op := _, type := _, pos := _, after := _, guard := _ }) (v := ?_) rfl (by kernel_rfl) (fun _ _ _ h => h) (Or.inl ⟨by kernel_rfl, ?_⟩) (fun _ => hS0) ?_
            rotate_left 1
            · (intro w hSw; (try dsimp only at hSw); go_simp; try with_reducible rfl)
            try simp only [Act.put, Array.toArray_toList, List.setIfInBounds_toArray, List.set_cons_zero, List.set_cons_succ]
            refine anyM_free (i := 1) (oi := { dst := some 79, op := _, type := _, pos := _, after := _, guard := _ }) (v := ?_) rfl (by kernel_rfl) (fun _ _ _ h => h) (Or.inl ⟨by kernel_rfl, ?_⟩) (fun _ => hS0) ?_
            rotate_left 1
            · (intro w hSw; (try dsimp only at hSw); go_simp; try with_reducible rfl)
            try simp only [Act.put, Array.toArray_toList, List.setIfInBounds_toArray, List.set_cons_zero, List.set_cons_succ]
            refine anyM_free (i := 2) (oi := { dst := some 80, op := _, type := _, pos := _, after := _, guard := _ }) (v := ?_) rfl (by kernel_rfl) (fun _ _ _ h => h) (Or.inl ⟨by kernel_rfl, ?_⟩) (fun _ => hS0) ?_
            rotate_left 1
            · (intro w hSw; (try dsimp only at hSw); go_simp; try with_reducible rfl)
            try simp only [Act.put, Array.toArray_toList, List.setIfInBounds_toArray, List.set_cons_zero, List.set_cons_succ]
            refine anyM_take (i := 3) (oi := { dst := some 81, op := _, type := _, pos := _, after := _, guard := _ }) (v := ?_) rfl (by kernel_rfl) (fun _ _ _ h => h) (Or.inl ⟨by kernel_rfl, ?_⟩) hS0 ?_
            rotate_left 1
            · (intro w hSw; (try dsimp only at hSw); go_simp; try with_reducible rfl)
            try simp only [Act.put, Array.toArray_toList, List.setIfInBounds_toArray, List.set_cons_zero, List.set_cons_succ]
            refine anyM_free (i := 4) (oi := { dst := some 82, op := _, type := _, pos := _, after := _, guard := _ }) (v := ?_) rfl (by kernel_rfl) (fun _ _ _ h => h) (Or.inl ⟨by kernel_rfl, ?_⟩) (fun _ => hS0) ?_
            rotate_left 1
            · (intro w hSw; (try dsimp only at hSw); go_simp; try with_reducible rfl)
            try simp only [Act.put, Array.toArray_toList, List.setIfInBounds_toArray, List.set_cons_zero, List.set_cons_succ]
            refine anyM_free (i := 5) (oi := { dst := some 83, op := _, type := _, pos := _, after := _, guard := _ }) (v := ?_) rfl (by kernel_rfl) (fun _ _ _ h => h) (Or.inl ⟨by kernel_rfl, ?_⟩) (fun _ => hS0) ?_
            rotate_left 1
            · (intro w hSw; (try dsimp only at hSw); go_simp; try with_reducible rfl)
            try simp only [Act.put, Array.toArray_toList, List.setIfInBounds_toArray, List.set_cons_zero, List.set_cons_succ]
            refine anyM_free (i := 6) (oi := { dst := some 84, op := _, type := _, pos := _, after := _, guard := _ }) (v := ?_) rfl (by kernel_rfl) (fun _ _ _ h => h) (Or.inl ⟨by kernel_rfl, ?_⟩) (fun _ => hS0) ?_
            rotate_left 1
            · (intro w hSw; (try dsimp only at hSw); go_simp; try with_reducible rfl)
            try simp only [Act.put, Array.toArray_toList, List.setIfInBounds_toArray, List.set_cons_zero, List.set_cons_succ]
            refine anyM_free (i := 7) (oi := { dst := some 85, op := _, type := _, pos := _, after := _, guard := _ }) (v := ?_) rfl (by kernel_rfl) (fun _ _ _ h => h) (Or.inl ⟨by kernel_rfl, ?_⟩) (fun _ => hS0) ?_
            rotate_left 1
            · (intro w hSw; (try dsimp only at hSw); go_simp; try with_reducible rfl)
            try simp only [Act.put, Array.toArray_toList, List.setIfInBounds_toArray, List.set_cons_zero, List.set_cons_succ]
            refine anyM_take (i := 8) (oi := { dst := some 86, op := _, type := _, pos := _, after := _, guard := _ }) (v := ?_) rfl (by kernel_rfl) (fun _ _ _ h => h) (Or.inl ⟨by kernel_rfl, ?_⟩) hS0 ?_
            rotate_left 1
            · (intro w hSw; (try dsimp only at hSw); go_simp; try with_reducible rfl)
            try simp only [Act.put, Array.toArray_toList, List.setIfInBounds_toArray, List.set_cons_zero, List.set_cons_succ]
            refine anyM_free (i := 9) (oi := { dst := some 87, op := _, type := _, pos := _, after := _, guard := _ }) (v := ?_) rfl (by kernel_rfl) (fun _ _ _ h => h) (Or.inl ⟨by kernel_rfl, ?_⟩) (fun _ => hS0) ?_
            rotate_left 1
            · (intro w hSw; (try dsimp only at hSw); go_simp; try with_reducible rfl)
            try simp only [Act.put, Array.toArray_toList, List.setIfInBounds_toArray, List.set_cons_zero, List.set_cons_succ]
            refine anyM_free (i := 10) (oi := { dst := some 88, op := _, type := _, pos := _, after := _, guard := _ }) (v := ?_) rfl (by kernel_rfl) (fun _ _ _ h => h) (Or.inl ⟨by kernel_rfl, ?_⟩) (fun _ => hS0) ?_
            rotate_left 1
            · (intro w hSw; (try dsimp only at hSw); go_simp; try with_reducible rfl)
            try simp only [Act.put, Array.toArray_toList, List.setIfInBounds_toArray, List.set_cons_zero, List.set_cons_succ]
            refine anyM_take (i := 11) (oi := { dst := some 89, op := _, type := _, pos := _, after := _, guard := _ }) (v := ?_) rfl (by kernel_rfl) (fun _ _ _ h => h) (Or.inl ⟨by kernel_rfl, ?_⟩) hS0 ?_
            rotate_left 1
            · (intro w hSw; (try dsimp only at hSw); go_simp; try with_reducible rfl)
            try simp only [Act.put, Array.toArray_toList, List.setIfInBounds_toArray, List.set_cons_zero, List.set_cons_succ]
            refine anyM_free (i := 12) (oi := { dst := some 90, op := _, type := _, pos := _, after := _, guard := _ }) (v := ?_) rfl (by kernel_rfl) (fun _ _ _ h => h) (Or.inl ⟨by kernel_rfl, ?_⟩) (fun _ => hS0) ?_
            rotate_left 1
            · (intro w hSw; (try dsimp only at hSw); go_simp; try with_reducible rfl)
            try simp only [Act.put, Array.toArray_toList, List.setIfInBounds_toArray, List.set_cons_zero, List.set_cons_succ]
            refine anyM_free (i := 13) (oi := { dst := some 91, op := _, type := _, pos := _, after := _, guard := _ }) (v := ?_) rfl (by kernel_rfl) (fun _ _ _ h => h) (Or.inl ⟨by kernel_rfl, ?_⟩) (fun _ => hS0) ?_
            rotate_left 1
            · (intro w hSw; (try dsimp only at hSw); go_simp; try with_reducible rfl)
            try simp only [Act.put, Array.toArray_toList, List.setIfInBounds_toArray, List.set_cons_zero, List.set_cons_succ]
            refine anyM_one (i := 14) (by kernel_rfl) rfl (fun K hK => ?_)
            go_simp
            have hR := hR.settle KK.out.2
            have hX := hX.far (b := gi) (i := k * 9 + 7) (by omega) (.bool true)
            have hbel := below_set hbel (b := gi) (off := k * 9 + 7) hlowI (.bool true)
            have k8 : (wz.setCell ⟨gi, k * 9 + 7, none⟩ (.bool true)).cell? ⟨gi, k * 9 + 8, none⟩ = some (.int .i64 0) := hR.at KK.out.2 8 _ (by unfold frow bornK; simp [itemF])
            have z8 : (wz.setCell ⟨gi, k * 9 + 7, none⟩ (.bool true)).frozen? ⟨gi, k * 9 + 8, none⟩ = false := own_free hR.own
            have hS0 : (fun w' : World => w'.cell? ⟨gr, 1, none⟩ = some (.slice (some ⟨gi, 0, none⟩) n n) ∧ w'.cell? ⟨wr.heap.size, 0, none⟩ = some (.int .i64 b) ∧ w'.cell? ⟨wr.heap.size, 1, none⟩ = some (.int .i64 lo) ∧ w'.cell? ⟨wr.heap.size, 2, none⟩ = some (.int .i64 hi) ∧ w'.cell? ⟨wr.heap.size, 3, none⟩ = some (.int .i64 g) ∧ w'.cell? ⟨wr.heap.size, 4, none⟩ = some (.int .i64 s) ∧ w'.cell? ⟨wr.heap.size, 5, none⟩ = some (.int .i64 e) ∧ w'.cell? ⟨wr.heap.size, 6, none⟩ = some (.int .i64 lg) ∧ w'.cell? ⟨wr.heap.size, 7, none⟩ = some (.bool false) ∧ w'.cell? ⟨wr.heap.size, 8, none⟩ = some (.int .i64 0)) (wz.setCell ⟨gi, k * 9 + 7, none⟩ (.bool true)).drew := ⟨hR.row.cell 1, hX.cell 0, hX.cell 1, hX.cell 2, hX.cell 3, hX.cell 4, hX.cell 5, hX.cell 6, hX.cell 7, hX.cell 8⟩
            refine hK.out _ _ (fun _ => hS0) ?_
            clear hK K
            try simp only [Act.put, Array.toArray_toList, List.setIfInBounds_toArray, List.set_cons_zero, List.set_cons_succ]
            refine anyM_free (i := 15) (oi := { dst := some 92, op := _, type := _, pos := _, after := _, guard := _ }) (v := ?_) rfl (by kernel_rfl) (fun _ _ _ h => h) (Or.inl ⟨by kernel_rfl, ?_⟩) (fun _ => hS0) ?_
            rotate_left 1
            · (intro w hSw; (try dsimp only at hSw); go_simp; try with_reducible rfl)
            try simp only [Act.put, Array.toArray_toList, List.setIfInBounds_toArray, List.set_cons_zero, List.set_cons_succ]
            refine anyM_free (i := 16) (oi := { dst := some 93, op := _, type := _, pos := _, after := _, guard := _ }) (v := ?_) rfl (by kernel_rfl) (fun _ _ _ h => h) (Or.inl ⟨by kernel_rfl, ?_⟩) (fun _ => hS0) ?_
            rotate_left 1
            · (intro w hSw; (try dsimp only at hSw); go_simp; try with_reducible rfl)
            try simp only [Act.put, Array.toArray_toList, List.setIfInBounds_toArray, List.set_cons_zero, List.set_cons_succ]
            refine anyM_one (i := 17) (by kernel_rfl) rfl (fun K hK => ?_)
            go_simp
            have hR := hR.setIs KK.out.2 lg
            have hX := hX.far (b := gi) (i := k * 9 + 8) (by omega) (.int .i64 lg)
            have hbel := below_set hbel (b := gi) (off := k * 9 + 8) hlowI (.int .i64 lg)
            have hS0 : (fun w' : World => w'.cell? ⟨gr, 1, none⟩ = some (.slice (some ⟨gi, 0, none⟩) n n) ∧ w'.cell? ⟨wr.heap.size, 0, none⟩ = some (.int .i64 b) ∧ w'.cell? ⟨wr.heap.size, 1, none⟩ = some (.int .i64 lo) ∧ w'.cell? ⟨wr.heap.size, 2, none⟩ = some (.int .i64 hi) ∧ w'.cell? ⟨wr.heap.size, 3, none⟩ = some (.int .i64 g) ∧ w'.cell? ⟨wr.heap.size, 4, none⟩ = some (.int .i64 s) ∧ w'.cell? ⟨wr.heap.size, 5, none⟩ = some (.int .i64 e) ∧ w'.cell? ⟨wr.heap.size, 6, none⟩ = some (.int .i64 lg) ∧ w'.cell? ⟨wr.heap.size, 7, none⟩ = some (.bool false) ∧ w'.cell? ⟨wr.heap.size, 8, none⟩ = some (.int .i64 0)) ((wz.setCell ⟨gi, k * 9 + 7, none⟩ (.bool true)).setCell ⟨gi, k * 9 + 8, none⟩ (.int .i64 lg)).drew := ⟨hR.row.cell 1, hX.cell 0, hX.cell 1, hX.cell 2, hX.cell 3, hX.cell 4, hX.cell 5, hX.cell 6, hX.cell 7, hX.cell 8⟩
            refine hK.out _ _ (fun _ => hS0) ?_
            clear hK K
            try simp only [Act.put, Array.toArray_toList, List.setIfInBounds_toArray, List.set_cons_zero, List.set_cons_succ]
            refine anyM_done (by kernel_rfl) ?_ _
            refine NoPanic.normal ?_
            have hR := hR.congr (fun i hi => bornK_step true xs k i lg HBO.out)
            have HR9 := Lib.hid hR
            have HL9 := Lib.hid hbel
            clear hR hX hbel hS0 k7 z7 k8 z8 hgi3
            go_wp2_with fail
            go_roundw
            case rel => exact ⟨k + 1, by have := KK.out; omega, by go_num, HR9.out, HL9.out⟩
            case measure => have := KK.out; simp [intOf]; omega
          · have hborn := HBORN.out.trans (if_neg (by rintro (h | ⟨_, h⟩ | ⟨h, _⟩); exact e0 h; exact hbl h; cases h))
            have hbl' : decide (lg < b) = false := by simpa using hbl
            have HBO := Lib.hid (bornK_keep true xs k (show bornF true (xs k) = ⟨false, 0⟩ from by rw [← HXE.out]; exact hborn))
            clear hborn
            go_wp2_with (go_at_call 75; refine (HFA.out _ HRA.out.row).mono ?_; rintro e w3 ⟨rfl, hb3⟩; have hX3 := HXA.out.below hb3 HXA.out.lt; have hR3 := HRA.out.below hb3; have hB3 := below_then HBA.out hb3; have v2 : w3.cell? ⟨gr, 2, none⟩ = some (.bool true) := hR3.row.cell 2; have v0 : w3.cell? ⟨wr.heap.size, 0, none⟩ = some (.int .i64 b) := hX3.cell 0; have v6 : w3.cell? ⟨wr.heap.size, 6, none⟩ = some (.int .i64 lg) := hX3.cell 6)
            have HR9 := Lib.hid hR3
            have HL9 := Lib.hid hB3
            clear hX3 hR3 hB3 v2 v0 v6
            go_roundw
            case rel => exact ⟨k + 1, by have := KK.out; omega, by go_num, by rw [HBO.out]; exact HR9.out, HL9.out⟩
            case measure => have := KK.out; simp [intOf]; omega
    · obtain rfl : k = n := by omega
      have hR := hR.congr (st' := startF room gap k xs) (fun i hi => by unfold bornK startF; rw [if_pos hi, HG0.out])
      have HSOK := Lib.hid (show StOk (startF room gap k xs) from fun i => born_ok _ _)
      have HNW := Lib.hid (now_calls w.heap.size gr gi k L G xs (startF room gap k xs) wr hR HOK.out HSOK.out hm hLb)
      obtain ⟨NOW, hNOW⟩ : ∃ x, x = nowF L k xs (startF room gap k xs) := ⟨_, rfl⟩
      rw [← hNOW] at HNW
      have HEND : Hid (goF G L NOW k xs k (startF room gap k xs) = endF room gap k xs) := by show _ = _; unfold endF; rw [HG0.out, HLEFT.out, hNOW]
      have HRW := Lib.hid hR
      have HBW := Lib.hid hbel
      clear hNOW hR hbel
      go_wp2_with (go_at_call 76; refine HNW.out.mono ?_; rintro e w4 ⟨rfl, hb4⟩)
      have HR4 := Lib.hid (HRW.out.below hb4)
      have HB4 := Lib.hid (below_then HBW.out hb4)
      clear hb4
      go_loopw [97] (fun _ wr => ∃ (m : Nat) (st : Nat → FxSt), RowAt wr w.heap.size gr gi k L G xs st ∧ StOk st ∧ cntF k st ≤ m ∧ goF G L NOW k xs m st = endF room gap k xs ∧ Below w.heap.size w wr) (fun _ wr => cntW wr gi k)
      case atStart => exact ⟨k, _, HR4.out, HSOK.out, cnt_bd _ _, HEND.out, HB4.out⟩
      case round =>
        obtain ⟨m, st, hR, hok, hcm, hgo, hbel⟩ := hrel
        have hw := hbel.size
        have hcon := contains_calls w.heap.size gr gi k L G xs st wr hR hm
        have u1 : wr.cell? ⟨gr, 1, none⟩ = some (.slice (some ⟨gi, 0, none⟩) k k) := hR.row.cell 1
        have hcw := cntW_eq hR k (Nat.le_refl _)
        by_cases hz : cntF k st = 0
        · rw [show decide (¬ cntF k st = 0) = false from by simp [hz]] at hcon
          have HCON := Lib.hid hcon
          rw [goF_end _ _ _ _ _ _ _ hz] at hgo
          subst hgo
          have HRX := Lib.hid hR
          have HBX := Lib.hid hbel
          clear hcon hR hbel hcw hz hok hcm
          go_wp2_with (go_at_call 77; refine HCON.out.mono ?_; rintro e w5 ⟨rfl, hb5⟩; have u2 : w5.cell? ⟨gr, 1, none⟩ = some (.slice (some ⟨gi, 0, none⟩) k k) := (HRX.out.below hb5).row.cell 1)
          have HR6 := Lib.hid (HRX.out.below hb5)
          have HB6 := Lib.hid (below_then HBX.out hb5)
          clear u1 u2 hb5
          go_loopw [11, 110] (fun v i wr => ∃ q : Nat, q ≤ k ∧ i = .int .i64 q ∧ RowAt wr w.heap.size gr gi k L G xs (endF room gap k xs) ∧ wr.ownsRow w.heap.size 3 1 v q (ints ((List.range q).map (fun i => max 0 (endF room gap k xs i).is))) ∧ Below w.heap.size w wr) (fun _ i _ => k - (intOf i).toNat)
          case atStart => exact ⟨0, Nat.zero_le _, rfl, HR6.out, World.ownsRow_nil _ _ _ _, HB6.out⟩
          case round =>
            obtain ⟨q, hq, rfl, hR, hown, hbel⟩ := hrel
            have hw := hbel.size
            by_cases hlt3 : q < k
            · have hat := hR.at hlt3
              obtain ⟨⟨b, lo, hi, g, s, e⟩, hxe⟩ : ∃ x, x = xs q := ⟨_, rfl⟩
              obtain ⟨⟨sd, is⟩, hse⟩ : ∃ x, x = endF room gap k xs q := ⟨_, rfl⟩
              obtain ⟨lg, hle⟩ : ∃ x, x = long (xs q) := ⟨_, rfl⟩
              unfold frow at hat
              rw [← hle, ← hxe, ← hse] at hat
              have t0 : wr.cell? ⟨gi, q * 9, none⟩ = some (.int .i64 b) := hat 0 _ rfl
              have t1 : wr.cell? ⟨gi, q * 9 + 1, none⟩ = some (.int .i64 lo) := hat 1 _ rfl
              have t2 : wr.cell? ⟨gi, q * 9 + 2, none⟩ = some (.int .i64 hi) := hat 2 _ rfl
              have t3 : wr.cell? ⟨gi, q * 9 + 3, none⟩ = some (.int .i64 g) := hat 3 _ rfl
              have t4 : wr.cell? ⟨gi, q * 9 + 4, none⟩ = some (.int .i64 s) := hat 4 _ rfl
              have t5 : wr.cell? ⟨gi, q * 9 + 5, none⟩ = some (.int .i64 e) := hat 5 _ rfl
              have t6 : wr.cell? ⟨gi, q * 9 + 6, none⟩ = some (.int .i64 lg) := hat 6 _ rfl
              have t7 : wr.cell? ⟨gi, q * 9 + 7, none⟩ = some (.bool sd) := hat 7 _ rfl
              have t8 : wr.cell? ⟨gi, q * 9 + 8, none⟩ = some (.int .i64 is) := hat 8 _ rfl
              have HSN : Hid (ints ((List.range (q + 1)).map (fun i => max 0 (endF room gap k xs i).is)) = ints ((List.range q).map (fun i => max 0 (endF room gap k xs i).is)) ++ [.int .i64 (max 0 is)]) := by
                show _ = _
                rw [List.range_succ, List.map_append, List.map_cons, List.map_nil, ← hse]
                simp [ints]
              have QQ := Lib.hid (show q ≤ k ∧ q < k from ⟨hq, hlt3⟩)
              obtain ⟨A9, c9, rfl⟩ := own_open hown
              have HRA := Lib.hid (hR.alloc (.cells #[.int .i64 b, .int .i64 lo, .int .i64 hi, .int .i64 g, .int .i64 s, .int .i64 e, .int .i64 lg, .bool sd, .int .i64 is] 103))
              have HBA := Lib.hid (below_alloc hbel (.cells #[.int .i64 b, .int .i64 lo, .int .i64 hi, .int .i64 g, .int .i64 s, .int .i64 e, .int .i64 lg, .bool sd, .int .i64 is] 103))
              have HOA := Lib.hid (hown.alloc (.cells #[.int .i64 b, .int .i64 lo, .int .i64 hi, .int .i64 g, .int .i64 s, .int .i64 e, .int .i64 lg, .bool sd, .int .i64 is] 103))
              clear hat hxe hse hle hR hbel hown
              go_wp2_with (at_builtin; refine wpList_append_own _ rfl _ _ 22 rfl w.heap.size 3 i0 (.int .i64 0) 1 8 Try.underlying22 hi0 hz0 hz1 hz2 rfl (by decide) _ _ _ rfl (HOA.out.alloc _) ⟨wr.heap.size + 1, 0, none⟩ 1 1 [.int .i64 (max 0 is)] rfl rfl (cells_new _ _ _ _ (by simp)) (fun u hu => by simp at hu; subst hu; rfl) (by unfold maxLen; omega) (by omega) (by simp; omega) ?_; intro v' w9 hown9 hg9 _)
              have HR9 := Lib.hid ((HRA.out.alloc (.cells #[.int .i64 (max 0 is)] 3)).grown hg9 (blk_ne HRA.out.row HOA.out (by decide)) (own_far HRA.out.own HOA.out (by decide)))
              have HB9 := Lib.hid (below_grownO (below_alloc HBA.out (.cells #[.int .i64 (max 0 is)] 3)) HOA.out hg9)
              have HO9 := Lib.hid hown9
              clear hown9 hg9
              go_roundw
              case rel => exact ⟨q + 1, by have := QQ.out; omega, by go_num, HR9.out, by rw [HSN.out]; exact HO9.out, HB9.out⟩
              case measure => have := QQ.out; simp [intOf]; omega
            · obtain rfl : q = k := by omega
              have HOE := Lib.hid hown
              clear hown hR
              go_wp2_with fail
              go_ret
              exact ⟨_, rfl, by rw [HMAIN.out]; exact HOE.out, hbel⟩
        · rw [show decide (¬ cntF k st = 0) = true from by simp [hz]] at hcon
          have HCON := Lib.hid hcon
          obtain ⟨m', rfl⟩ : ∃ m', m = m' + 1 := ⟨m - 1, by omega⟩
          rw [goF_step _ _ _ _ _ _ _ hz] at hgo
          obtain ⟨i, hik, hns⟩ := cnt_some k st hz
          have HLESS := Lib.hid (turn_less G k xs st (roomF NOW (nowF L k xs st) (facs G k xs st)) i hik hns)
          have HGO := Lib.hid hgo
          have HOKT := Lib.hid (show StOk (turn1 G L NOW k xs st) from turn_ok G k xs st _ hok)
          have HTC := Lib.hid (fun w' h hle => turn_calls w.heap.size gr gi k L NOW G xs st w' h HOK.out hok hm hLb hle)
          have HRX := Lib.hid hR
          have HBX := Lib.hid hbel
          have HCW := Lib.hid hcw
          have HCM := Lib.hid hcm
          clear hcon hR hbel hcw hz hok hcm hgo hns hik
          go_wp2_with (first | (go_at_call 77; refine HCON.out.mono ?_; rintro e w5 ⟨rfl, hb5⟩) | (go_at_call 79; refine (HTC.out _ (HRX.out.below hb5) (Nat.le_trans hw hb5.size)).mono ?_; rintro e w6 ⟨rfl, hR6, hb6⟩))
          have hb5' := below_then HBX.out hb5
          go_roundw
          case rel => exact ⟨m', _, hR6, HOKT.out, by have h1 := HLESS.out; have h2 := HCM.out; have h3 : cntF k (turn1 G L NOW k xs st) < cntF k st := h1; omega, HGO.out, hb5'.trans hb6⟩
          case measure => rw [cntW_eq hR6 k (Nat.le_refl _), HCW.out]; exact HLESS.out
end Go.Proofs.Ytpinfaoeggipmaa
