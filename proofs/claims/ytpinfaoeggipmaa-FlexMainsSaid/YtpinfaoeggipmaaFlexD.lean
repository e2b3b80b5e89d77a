/- Contract of flex's turn. -/
import Derived.Test.YtpinfaoeggipmaaFlexC
namespace Go.Proofs.Ytpinfaoeggipmaa
open Go.RowKit
set_option linter.unusedVariables false
set_option linter.unusedSimpArgs false
attribute [local go_sem high] run_min2 run_max2

section
variable {w : World} {g0 gr gi n : Nat} {room : Int} {gw : Bool} {xs : Nat → FlexV} {st st' : Nat → FxSt}
theorem RowAt.ne (h : RowAt w g0 gr gi n room gw xs st) : gr ≠ gi := fun e => blk_ne h.row h.own (by decide) (by rw [e]; rfl)
theorem RowAt.lowI (h : RowAt w g0 gr gi n room gw xs st) : g0 ≤ gi := (h.own.lt gi rfl).1
theorem RowAt.congr (h : RowAt w g0 gr gi n room gw xs st) (hs : ∀ i, i < n → st i = st' i) : RowAt w g0 gr gi n room gw xs st' :=
  ⟨h.row, own_congr h.own (fun i hi => by unfold frow; rw [hs i hi]), h.low⟩
theorem RowAt.setIs (h : RowAt w g0 gr gi n room gw xs st) {k : Nat} (hk : k < n) (v : Int) : RowAt (w.setCell ⟨gi, k * 9 + 8, none⟩ (.int .i64 v)) g0 gr gi n room gw xs (fun i => if i = k then ⟨(st i).settled, v⟩ else st i) :=
  ⟨h.row.far h.ne _, own_congr (own_rowCell (by omega) (frow_len xs st) h.own hk (j := 8) (by omega)) (fun i hi => by unfold frow; by_cases e : i = k <;> simp [e, itemF]), h.low⟩
theorem RowAt.settle (h : RowAt w g0 gr gi n room gw xs st) {k : Nat} (hk : k < n) : RowAt (w.setCell ⟨gi, k * 9 + 7, none⟩ (.bool true)) g0 gr gi n room gw xs (fun i => if i = k then ⟨true, (st i).is⟩ else st i) :=
  ⟨h.row.far h.ne _, own_congr (own_rowCell (by omega) (frow_len xs st) h.own hk (j := 7) (by omega)) (fun i hi => by unfold frow; by_cases e : i = k <;> simp [e, itemF]), h.low⟩
theorem RowAt.drewN (h : RowAt w g0 gr gi n room gw xs st) (m : Nat) : RowAt (w.drewN m) g0 gr gi n room gw xs st := ⟨h.row, h.own, h.low⟩
theorem RowAt.far (h : RowAt w g0 gr gi n room gw xs st) {b j : Nat} {u : Value} (h1 : gr ≠ b) (h2 : gi ≠ b) : RowAt (w.setCell ⟨b, j, none⟩ u) g0 gr gi n room gw xs st :=
  ⟨h.row.far h1 _, own_setFar h.own (by intro e; exact h2 (by simpa [Value.ownBlock] using e)), h.low⟩
end
/-- The first k are told what they are. -/
def isK (st : Nat → FxSt) (f : Nat → Int) (k : Nat) (i : Nat) : FxSt := if i < k then ⟨(st i).settled, f i⟩ else st i
theorem isK_at (st : Nat → FxSt) (f : Nat → Int) (k : Nat) : isK st f k k = st k := if_neg (by omega)
theorem isK_zero (st : Nat → FxSt) (f : Nat → Int) : isK st f 0 = st := by funext i; exact if_neg (by omega)
theorem isK_step (st : Nat → FxSt) (f : Nat → Int) (k i : Nat) : (if i = k then (⟨(isK st f k i).settled, f k⟩ : FxSt) else isK st f k i) = isK st f (k + 1) i := by
  unfold isK
  by_cases e : i = k
  · subst e; simp
  · rw [if_neg e]
    by_cases e2 : i < k
    · rw [if_pos e2, if_pos (by omega)]
    · rw [if_neg e2, if_neg (by omega)]
theorem isK_keep (st : Nat → FxSt) (f : Nat → Int) (k : Nat) (h : f k = (st k).is) : isK st f (k + 1) = isK st f k := by
  funext i
  unfold isK
  by_cases e : i = k
  · subst e; rw [if_pos (by omega), if_neg (by omega), h]
  · by_cases e2 : i < k
    · rw [if_pos e2, if_pos (by omega)]
    · rw [if_neg e2, if_neg (by omega)]
/-- The first k are settled as they go. -/
def stG (st : Nat → FxSt) (go : Nat → Bool) (k : Nat) (i : Nat) : FxSt := if i < k then ⟨(st i).settled || go i, (st i).is⟩ else st i
theorem stG_zero (st : Nat → FxSt) (go : Nat → Bool) : stG st go 0 = st := by funext i; exact if_neg (by omega)
theorem stG_step (st : Nat → FxSt) (go : Nat → Bool) (k i : Nat) (h : go k = true) : (if i = k then (⟨true, (stG st go k i).is⟩ : FxSt) else stG st go k i) = stG st go (k + 1) i := by
  unfold stG
  by_cases e : i = k
  · subst e; simp [h]
  · rw [if_neg e]
    by_cases e2 : i < k
    · rw [if_pos e2, if_pos (by omega)]
    · rw [if_neg e2, if_neg (by omega)]
theorem stG_keep (st : Nat → FxSt) (go : Nat → Bool) (k : Nat) (h : go k = false) : stG st go (k + 1) = stG st go k := by
  funext i
  unfold stG
  by_cases e : i = k
  · subst e; rw [if_pos (by omega), if_neg (by omega), h]; simp
  · by_cases e2 : i < k
    · rw [if_pos e2, if_pos (by omega)]
    · rw [if_neg e2, if_neg (by omega)]
theorem now_calls (g0 gr gi n : Nat) (room : Int) (gw : Bool) (xs : Nat → FlexV) (st : Nat → FxSt) (w : World) (h : RowAt w g0 gr gi n room gw xs st) (hx : ∀ i, FxOk (xs i)) (hs : StOk st) (hn : n ≤ 1000) (hr : -17179869184000 ≤ room ∧ room ≤ 17179869184000) :
    Calls Try.prog 76 #[.pointer (some ⟨gr, 0, none⟩)] w fun e w' => e = .returned (.int .i64 (nowF room n xs st)) ∧ Below w.heap.size w w' := by
  have HF := Lib.hid (freeNow_calls g0 gr gi n room gw xs st w h hx hs hn hr)
  clear h hx hs hr
  go_enter Try.func76, Try.ntmps76
  go_wp2_with (go_at_call 73; refine HF.out.mono ?_; rintro e w1 ⟨rfl, hb1⟩)
  go_ret
  exact ⟨rfl, hb1⟩
theorem own_drewN {w : World} {base size n : Nat} {e : TypeId} {v : Value} {xs : List Value} (h : w.ownsRow base e size v n xs) (m : Nat) : (w.drewN m).ownsRow base e size v n xs := h
theorem own_drew1 {w : World} {base size n : Nat} {e : TypeId} {v : Value} {xs : List Value} (h : w.ownsRow base e size v n xs) : w.drew.ownsRow base e size v n xs := h
theorem ints_get (l : List Int) (j : Nat) (hj : j < l.length) : (ints l)[j]? = some (.int .i64 (l.getD j 0)) := by simp [ints, List.getD, hj]
theorem facs_succ (gw : Bool) (k : Nat) (xs : Nat → FlexV) (st : Nat → FxSt) : facs gw (k + 1) xs st = facs gw k xs st + openF gw (xs k) (st k) := rfl
set_option maxRecDepth 100000 in
set_option maxHeartbeats 4000000 in
theorem turn_calls (g0 gr gi n : Nat) (room first : Int) (gw : Bool) (xs : Nat → FlexV) (st : Nat → FxSt) (w : World) (h : RowAt w g0 gr gi n room gw xs st) (hx : ∀ i, FxOk (xs i)) (hs : StOk st) (hn : n ≤ 1000) (hr : -17179869184000 ≤ room ∧ room ≤ 17179869184000) (hg0 : g0 ≤ w.heap.size) :
    Calls Try.prog 79 #[.pointer (some ⟨gr, 0, none⟩), .int .i64 first] w fun e w' => e = .returned (.tuple #[]) ∧ RowAt w' g0 gr gi n room gw xs (turn1 gw room first n xs st) ∧ Below g0 w w' := by
  obtain ⟨i0, hi0, hz0, hz1, hz2⟩ := info_parts info_int
  have H := Lib.hid h
  have HX := Lib.hid hx
  have HS := Lib.hid hs
  have HN := Lib.hid (now_calls g0 gr gi n room gw xs st w h hx hs hn hr)
  have hnb := free_bd room n (fun i => curF (xs i) (st i)) xs hx (fun i => cur_bd _ _ (hx i) (hs i)) hn hr
  have hsb := facs_bd gw n xs st hx hn
  have HR1 : Hid (turn1 gw room first n xs st = turnF gw n xs st (roomF first (nowF room n xs st) (facs gw n xs st))) := rfl
  rw [HR1.out]
  obtain ⟨now, hnow⟩ : ∃ x, x = nowF room n xs st := ⟨_, rfl⟩
  obtain ⟨sum, hsum⟩ : ∃ x, x = facs gw n xs st := ⟨_, rfl⟩
  have hnb : -68719476736000 ≤ now ∧ now ≤ 68719476736000 := by rw [hnow]; exact hnb
  rw [← hnow] at HN
  rw [← hsum] at hsb
  rw [← hnow, ← hsum]
  have hrb := room_bd first now sum hnb
  obtain ⟨f, hf⟩ : ∃ x, x = roomF first now sum := ⟨_, rfl⟩
  rw [← hf] at hrb
  rw [← hf]
  have HF := Lib.hid hf
  have HSUM := Lib.hid hsum
  clear h hx hs hr hnow hsum hf HR1
  go_enter Try.func79, Try.ntmps79
  go_wp2_with (go_at_call 76; refine HN.out.mono ?_; rintro e w1 ⟨rfl, hb1⟩; have q1 : w1.cell? ⟨gr, 1, none⟩ = some (.slice (some ⟨gi, 0, none⟩) n n) := (H.out.below hb1).row.cell 1)
  clear q1
  go_loopw [5, 22] (fun v i wr => ∃ k : Nat, k ≤ n ∧ i = .int .i64 k ∧ v = .int .i64 (facs gw k xs st) ∧ Below w.heap.size w wr) (fun _ i _ => n - (intOf i).toNat)
  case atStart => exact ⟨0, Nat.zero_le _, rfl, rfl, hb1⟩
  case round =>
    obtain ⟨k, hk, rfl, rfl, hbel⟩ := hrel
    have hw := hbel.size
    have hR := H.out.below hbel
    by_cases hlt : k < n
    · have hfk := facs_bd gw k xs st HX.out (by omega)
      have hfc := fac_bd gw (xs k) (HX.out k)
      have HSUC := Lib.hid (facs_succ gw k xs st)
      obtain ⟨p, hp⟩ : ∃ x, x = facs gw k xs st := ⟨_, rfl⟩
      rw [← hp] at hfk HSUC ⊢
      have hat := hR.at hlt
      have hxk := HX.out k
      obtain ⟨⟨b, lo, hi, g, s, e⟩, hxe⟩ : ∃ x, x = xs k := ⟨_, rfl⟩
      obtain ⟨⟨sd, is⟩, hse⟩ : ∃ x, x = st k := ⟨_, rfl⟩
      obtain ⟨lg, hle⟩ : ∃ x, x = long (xs k) := ⟨_, rfl⟩
      unfold frow at hat
      rw [← hle, ← hxe, ← hse] at hat
      rw [← hxe] at hxk
      have t0 : wr.cell? ⟨gi, k * 9, none⟩ = some (.int .i64 b) := hat 0 _ rfl
      have t1 : wr.cell? ⟨gi, k * 9 + 1, none⟩ = some (.int .i64 lo) := hat 1 _ rfl
      have t2 : wr.cell? ⟨gi, k * 9 + 2, none⟩ = some (.int .i64 hi) := hat 2 _ rfl
      have t3 : wr.cell? ⟨gi, k * 9 + 3, none⟩ = some (.int .i64 g) := hat 3 _ rfl
      have t4 : wr.cell? ⟨gi, k * 9 + 4, none⟩ = some (.int .i64 s) := hat 4 _ rfl
      have t5 : wr.cell? ⟨gi, k * 9 + 5, none⟩ = some (.int .i64 e) := hat 5 _ rfl
      have t6 : wr.cell? ⟨gi, k * 9 + 6, none⟩ = some (.int .i64 lg) := hat 6 _ rfl
      have t7 : wr.cell? ⟨gi, k * 9 + 7, none⟩ = some (.bool sd) := hat 7 _ rfl
      have t8 : wr.cell? ⟨gi, k * 9 + 8, none⟩ = some (.int .i64 is) := hat 8 _ rfl
      rw [← hxe, ← hse] at HSUC
      rw [← hxe] at hfc
      have HFA := Lib.hid (fun w h => factor_calls b lo hi g s e lg is sd gw gr room (.slice (some ⟨gi, 0, none⟩) n n) w h)
      have hB2 := Lib.hid (hR.alloc (.cells #[.int .i64 b, .int .i64 lo, .int .i64 hi, .int .i64 g, .int .i64 s, .int .i64 e, .int .i64 lg, .bool sd, .int .i64 is] 103)).row
      have HB2 := Lib.hid (below_alloc hbel (.cells #[.int .i64 b, .int .i64 lo, .int .i64 hi, .int .i64 g, .int .i64 s, .int .i64 e, .int .i64 lg, .bool sd, .int .i64 is] 103))
      have KK := Lib.hid (show k ≤ n ∧ k < n from ⟨hk, hlt⟩)
      obtain ⟨c0, c1⟩ := hfc
      obtain ⟨p0, p1⟩ := hfk
      clear hat hxe hse hle hp hR hbel hxk
      cases sd
      · obtain ⟨q, hq⟩ : ∃ q, q = (if gw then g else s) := ⟨_, rfl⟩
        have hq0 : 0 ≤ q ∧ q ≤ 1000000 := by rw [hq]; exact ⟨c0, c1⟩
        obtain ⟨q0, q1⟩ := hq0
        rw [← hq] at HFA
        have HQ := Lib.hid (show facs gw (k + 1) xs st = p + q from by rw [HSUC.out, hq]; rfl)
        clear hq c0 c1
        go_wp2_with (go_at_call 75; refine (HFA.out _ hB2.out).mono ?_; rintro e w3 ⟨rfl, hb3⟩; have hb4 := below_then HB2.out hb3)
        go_roundw
        case rel => exact ⟨k + 1, by have := KK.out; omega, by go_num, by rw [HQ.out], hb4⟩
        case measure => have := KK.out; simp [intOf]; omega
      · have HQ := Lib.hid (show facs gw (k + 1) xs st = p from by rw [HSUC.out]; show p + 0 = p; omega)
        clear c0 c1
        go_wp2_with fail
        go_roundw
        case rel => exact ⟨k + 1, by have := KK.out; omega, by go_num, by rw [HQ.out], HB2.out⟩
        case measure => have := KK.out; simp [intOf]; omega
    · obtain rfl : k = n := by omega
      rw [← HSUM.out]
      obtain ⟨wo, rfl⟩ : ∃ wo : World, wo = wr := ⟨_, rfl⟩
      have u1 : wo.cell? ⟨gr, 1, none⟩ = some (.slice (some ⟨gi, 0, none⟩) k k) := hR.row.cell 1
      have HP := Lib.hid (parts_calls g0 gr gi k room f gw xs st wo hR HX.out hn hrb)
      have HRW := Lib.hid hR
      have HBW := Lib.hid hbel
      obtain ⟨n0, n1⟩ := hnb
      obtain ⟨s0, s1⟩ := hsb
      obtain ⟨f0, f1⟩ := hrb
      clear hR hbel hb1
      by_cases hlow : sum < 1000
      · have HFF := Lib.hid (show nearF now (part first sum 1000) = f from by rw [HF.out]; unfold roomF; rw [if_pos hlow])
        have hpl := part_lo first sum 1000
        have hph := part_hi first sum 1000
        have HNE := Lib.hid (fun w => near_calls now (part first sum 1000) w (by omega) (by omega))
        rw [HFF.out] at HNE
        clear hpl hph
        go_wp2_with (first | (go_at_call 21; refine (part_calls _ _ _ _).mono ?_; rintro e w' ⟨rfl, rfl⟩) | (go_at_call 93; refine (HNE.out _).mono ?_; rintro e w' ⟨rfl, rfl⟩) | (go_at_call 94; refine HP.out.mono ?_; rintro e w3 ⟨gP, cP, rfl, hP, hb3⟩; have u3 : w3.cell? ⟨gr, 1, none⟩ = some (.slice (some ⟨gi, 0, none⟩) k k) := (HRW.out.below hb3).row.cell 1) | (at_make; refine wpList_make_full _ rfl (.tmp 49) (.tmp 49) 22 rfl w3.heap.size 3 i0 (.int .i64 0) 1 Try.underlying22 hi0 hz0 hz1 .i64 .i64 _ _ k rfl rfl rfl rfl (by rw [hz2]; omega) (by unfold maxLen; omega) (by simp) ?_; intro w4 hB hg4; have hb4 := below_made (Below.refl _ w3) hg4; have u4 : w4.cell? ⟨gr, 1, none⟩ = some (.slice (some ⟨gi, 0, none⟩) k k) := ((HRW.out.below hb3).below hb4).row.cell 1))
        have hgr := H.out.row.lt
        have hgi := (H.out.own.lt gi rfl).2
        have hbw := HBW.out.size
        have hgP := (hP.lt gP rfl)
        obtain ⟨gB, hgB⟩ : ∃ x, x = w3.heap.size := ⟨_, rfl⟩
        rw [made_zero k (byF gw k xs st f), ← hgB] at hB
        have hlow0 := H.out.lowI
        have hbelT := ((HBW.out.mono hg0).trans ((hb3.mono (by omega)).trans (hb4.mono (by omega))) : Below g0 w w4)
        have HB4 := Lib.hid hbelT
        have HR4 := Lib.hid (((HRW.out.below hb3).below hb4))
        have HP4 := Lib.hid (own_below hP hb4)
        have HBY4 := Lib.hid hB
        have hgP1 : w.heap.size ≤ gP := by omega
        have hgPB : gP < gB := by omega
        rw [← hgB]
        clear hP hB hgP hgB hb3 hb4 hbelT u1 u3 u4 hg4
        clear HP HRW HBW
        have hPL := parts_len gw k xs st f
        go_loopw [8, 56] (fun v i wr => ∃ j : Nat, j ≤ k ∧ i = .int .i64 j ∧ v = .int .i64 (sumTo (byF gw k xs st f) j) ∧ RowAt wr g0 gr gi k room gw xs (isK st (isF gw k xs st f) j) ∧ wr.ownsRow wo.heap.size 3 1 (.slice (some ⟨gP, 0, none⟩) k cP) k (ints (partsF gw k xs st f)) ∧ wr.ownsRow gB 3 1 (.slice (some ⟨gB, 0, none⟩) k k) k (ints (upK k (byF gw k xs st f) j)) ∧ Below g0 w wr) (fun _ i _ => k - (intOf i).toNat)
        case atStart => exact ⟨0, Nat.zero_le _, rfl, rfl, by rw [isK_zero]; exact HR4.out, HP4.out, HBY4.out, HB4.out⟩
        case round =>
          obtain ⟨j, hj, rfl, rfl, hR, hP, hB, hbel⟩ := hrel
          by_cases hlt2 : j < k
          · have hat := hR.at hlt2
            have hxk := HX.out j
            have hbyb := by_bd gw k xs st f j (HS.out j)
            have hsumb := bySum_bd gw k j xs st f HS.out (by omega)
            have hpb := parts_bd gw k xs st f j
            obtain ⟨⟨b, lo, hi, g, s, e⟩, hxe⟩ : ∃ x, x = xs j := ⟨_, rfl⟩
            obtain ⟨⟨sd, is⟩, hse⟩ : ∃ x, x = st j := ⟨_, rfl⟩
            obtain ⟨lg, hle⟩ : ∃ x, x = long (xs j) := ⟨_, rfl⟩
            obtain ⟨p, hp⟩ : ∃ x, x = (partsF gw k xs st f).getD j 0 := ⟨_, rfl⟩
            unfold frow at hat
            rw [isK_at] at hat
            rw [← hle, ← hxe, ← hse] at hat
            rw [← hxe] at hxk
            rw [← hp] at hpb
            have t0 : wr.cell? ⟨gi, j * 9, none⟩ = some (.int .i64 b) := hat 0 _ rfl
            have t1 : wr.cell? ⟨gi, j * 9 + 1, none⟩ = some (.int .i64 lo) := hat 1 _ rfl
            have t2 : wr.cell? ⟨gi, j * 9 + 2, none⟩ = some (.int .i64 hi) := hat 2 _ rfl
            have t3 : wr.cell? ⟨gi, j * 9 + 3, none⟩ = some (.int .i64 g) := hat 3 _ rfl
            have t4 : wr.cell? ⟨gi, j * 9 + 4, none⟩ = some (.int .i64 s) := hat 4 _ rfl
            have t5 : wr.cell? ⟨gi, j * 9 + 5, none⟩ = some (.int .i64 e) := hat 5 _ rfl
            have t6 : wr.cell? ⟨gi, j * 9 + 6, none⟩ = some (.int .i64 lg) := hat 6 _ rfl
            have t7 : wr.cell? ⟨gi, j * 9 + 7, none⟩ = some (.bool sd) := hat 7 _ rfl
            have t8 : wr.cell? ⟨gi, j * 9 + 8, none⟩ = some (.int .i64 is) := hat 8 _ rfl
            have HISF : Hid (isF gw k xs st f j = if sd then is else between (b + p) lo hi) := by show _ = _; unfold isF wouldF; rw [← hse, ← hxe, ← hp]
            have HBYF : Hid (byF gw k xs st f j = if sd then 0 else between (b + p) lo hi - cut (b + p)) := by
              show _ = _
              unfold byF
              rw [HISF.out]
              unfold wouldF
              rw [← hse, ← hxe, ← hp]
              cases sd <;> rfl
            have HSUC : Hid (sumTo (byF gw k xs st f) (j + 1) = sumTo (byF gw k xs st f) j + byF gw k xs st f j) := rfl
            obtain ⟨c, hc⟩ : ∃ x, x = sumTo (byF gw k xs st f) j := ⟨_, rfl⟩
            rw [← hc] at hsumb HSUC ⊢
            have JJ := Lib.hid (show j ≤ k ∧ j < k from ⟨hj, hlt2⟩)
            have HSE := Lib.hid hse
            have HR5 := Lib.hid (hR.alloc (.cells #[.int .i64 b, .int .i64 lo, .int .i64 hi, .int .i64 g, .int .i64 s, .int .i64 e, .int .i64 lg, .bool sd, .int .i64 is] 103))
            have HP5 := Lib.hid (hP.alloc (.cells #[.int .i64 b, .int .i64 lo, .int .i64 hi, .int .i64 g, .int .i64 s, .int .i64 e, .int .i64 lg, .bool sd, .int .i64 is] 103))
            have HB5 := Lib.hid (hB.alloc (.cells #[.int .i64 b, .int .i64 lo, .int .i64 hi, .int .i64 g, .int .i64 s, .int .i64 e, .int .i64 lg, .bool sd, .int .i64 is] 103))
            have HL5 := Lib.hid (hbel.alloc (Nat.le_trans hg0 hbel.size) (.cells #[.int .i64 b, .int .i64 lo, .int .i64 hi, .int .i64 g, .int .i64 s, .int .i64 e, .int .i64 lg, .bool sd, .int .i64 is] 103))
            have HX5 := Lib.hid (Blk.new wr 103 #[.int .i64 b, .int .i64 lo, .int .i64 hi, .int .i64 g, .int .i64 s, .int .i64 e, .int .i64 lg, .bool sd, .int .i64 is])
            have tp : (wr.alloc (.cells #[.int .i64 b, .int .i64 lo, .int .i64 hi, .int .i64 g, .int .i64 s, .int .i64 e, .int .i64 lg, .bool sd, .int .i64 is] 103)).cell? ⟨gP, j, none⟩ = some (.int .i64 p) := (HP5.out.cellAt j (by omega)).trans (by rw [hp]; exact ints_get _ _ (by rw [hPL]; exact hlt2))
            obtain ⟨b0, b1, _⟩ := hxk
            simp only at b0 b1
            obtain ⟨p0, p1⟩ := hpb
            obtain ⟨s0, s1⟩ := hsumb
            clear hat hxe hse hle hp hc hR hP hB hbel
            cases sd
            · have hby : byF gw k xs st f j = between (b + p) lo hi - cut (b + p) := HBYF.out
              rw [hby] at hbyb
              have HBYV := Lib.hid hby
              obtain ⟨d0, d1⟩ := hbyb
              clear hby
              have hv0 := between_lo (b + p) lo hi
              have hv1 := between_hi (b + p) lo hi
              have m1 : IntKind.i64.wrap (b + p) = b + p := IntWalk.i64_in _ (by omega)
              go_wp2_with fail
              go_quiet (fail)
              go_wp2_with fail
              have hX := HX5.out.drewN nq
              have hR := HR5.out.drewN nq
              have hP := own_drewN HP5.out nq
              have hB := own_drewN HB5.out nq
              have hbel := below_drewN HL5.out nq
              generalize hwz : World.drewN _ nq = wz at hX hR hP hB hbel ⊢
              have hX := hX.drew
              have hR := hR.drew
              have hP := own_drew1 hP
              have hB := own_drew1 hB
              have hbel := hbel.drew
              have k8 : wz.drew.cell? ⟨gi, j * 9 + 8, none⟩ = some (.int .i64 is) := hR.at JJ.out.2 8 _ (by unfold frow; rw [isK_at, ← HSE.out]; rfl)
              have z8 : wz.drew.frozen? ⟨gi, j * 9 + 8, none⟩ = false := own_free hR.own
              have hS0 : (fun w' : World => w'.cell? ⟨gr, 1, none⟩ = some (.slice (some ⟨gi, 0, none⟩) k k) ∧ w'.cell? ⟨wr.heap.size, 0, none⟩ = some (.int .i64 b) ∧ w'.cell? ⟨wr.heap.size, 1, none⟩ = some (.int .i64 lo) ∧ w'.cell? ⟨wr.heap.size, 2, none⟩ = some (.int .i64 hi) ∧ w'.cell? ⟨wr.heap.size, 3, none⟩ = some (.int .i64 g) ∧ w'.cell? ⟨wr.heap.size, 4, none⟩ = some (.int .i64 s) ∧ w'.cell? ⟨wr.heap.size, 5, none⟩ = some (.int .i64 e) ∧ w'.cell? ⟨wr.heap.size, 6, none⟩ = some (.int .i64 lg) ∧ w'.cell? ⟨wr.heap.size, 7, none⟩ = some (.bool false) ∧ w'.cell? ⟨wr.heap.size, 8, none⟩ = some (.int .i64 is)) wz.drew := ⟨hR.row.cell 1, hX.cell 0, hX.cell 1, hX.cell 2, hX.cell 3, hX.cell 4, hX.cell 5, hX.cell 6, hX.cell 7, hX.cell 8⟩
              clear hwz t0 t1 t2 t3 t4 t5 t6 t7 t8 tp
              refine wp_region_noPanic ?_
              refine region_M (S := fun w' => w'.cell? ⟨gr, 1, none⟩ = some (.slice (some ⟨gi, 0, none⟩) k k) ∧ w'.cell? ⟨wr.heap.size, 0, none⟩ = some (.int .i64 b) ∧ w'.cell? ⟨wr.heap.size, 1, none⟩ = some (.int .i64 lo) ∧ w'.cell? ⟨wr.heap.size, 2, none⟩ = some (.int .i64 hi) ∧ w'.cell? ⟨wr.heap.size, 3, none⟩ = some (.int .i64 g) ∧ w'.cell? ⟨wr.heap.size, 4, none⟩ = some (.int .i64 s) ∧ w'.cell? ⟨wr.heap.size, 5, none⟩ = some (.int .i64 e) ∧ w'.cell? ⟨wr.heap.size, 6, none⟩ = some (.int .i64 lg) ∧ w'.cell? ⟨wr.heap.size, 7, none⟩ = some (.bool false) ∧ w'.cell? ⟨wr.heap.size, 8, none⟩ = some (.int .i64 is)) (T := [15]) (by kernel_rfl) ?_
              refine anyM_free (i := 0) (oi := { dst := some 71, op := _, type := _, pos := _, after := _, guard := _ }) (v := ?_) rfl (by kernel_rfl) (fun _ _ _ h => h) (Or.inl ⟨by kernel_rfl, ?_⟩) (fun _ => hS0) ?_
              rotate_left 1
              · (intro w hSw; (try dsimp only at hSw); go_simp; try with_reducible rfl)
              try simp only [Act.put, Array.toArray_toList, List.setIfInBounds_toArray, List.set_cons_zero, List.set_cons_succ]
              refine anyM_free (i := 1) (oi := { dst := some 72, op := _, type := _, pos := _, after := _, guard := _ }) (v := ?_) rfl (by kernel_rfl) (fun _ _ _ h => h) (Or.inl ⟨by kernel_rfl, ?_⟩) (fun _ => hS0) ?_
              rotate_left 1
              · (intro w hSw; (try dsimp only at hSw); go_simp; try with_reducible rfl)
              try simp only [Act.put, Array.toArray_toList, List.setIfInBounds_toArray, List.set_cons_zero, List.set_cons_succ]
              refine anyM_free (i := 2) (oi := { dst := some 73, op := _, type := _, pos := _, after := _, guard := _ }) (v := ?_) rfl (by kernel_rfl) (fun _ _ _ h => h) (Or.inl ⟨by kernel_rfl, ?_⟩) (fun _ => hS0) ?_
              rotate_left 1
              · (intro w hSw; (try dsimp only at hSw); go_simp; try with_reducible rfl)
              try simp only [Act.put, Array.toArray_toList, List.setIfInBounds_toArray, List.set_cons_zero, List.set_cons_succ]
              refine anyM_take (i := 3) (oi := { dst := some 74, op := _, type := _, pos := _, after := _, guard := _ }) (v := ?_) rfl (by kernel_rfl) (fun _ _ _ h => h) (Or.inl ⟨by kernel_rfl, ?_⟩) hS0 ?_
              rotate_left 1
              · (intro w hSw; (try dsimp only at hSw); go_simp; try with_reducible rfl)
              try simp only [Act.put, Array.toArray_toList, List.setIfInBounds_toArray, List.set_cons_zero, List.set_cons_succ]
              refine anyM_free (i := 4) (oi := { dst := some 75, op := _, type := _, pos := _, after := _, guard := _ }) (v := ?_) rfl (by kernel_rfl) (fun _ _ _ h => h) (Or.inl ⟨by kernel_rfl, ?_⟩) (fun _ => hS0) ?_
              rotate_left 1
              · (intro w hSw; (try dsimp only at hSw); go_simp; try with_reducible rfl)
              try simp only [Act.put, Array.toArray_toList, List.setIfInBounds_toArray, List.set_cons_zero, List.set_cons_succ]
              refine anyM_free (i := 5) (oi := { dst := some 76, op := _, type := _, pos := _, after := _, guard := _ }) (v := ?_) rfl (by kernel_rfl) (fun _ _ _ h => h) (Or.inl ⟨by kernel_rfl, ?_⟩) (fun _ => hS0) ?_
              rotate_left 1
              · (intro w hSw; (try dsimp only at hSw); go_simp; try with_reducible rfl)
              try simp only [Act.put, Array.toArray_toList, List.setIfInBounds_toArray, List.set_cons_zero, List.set_cons_succ]
              refine anyM_free (i := 6) (oi := { dst := some 77, op := _, type := _, pos := _, after := _, guard := _ }) (v := ?_) rfl (by kernel_rfl) (fun _ _ _ h => h) (Or.inl ⟨by kernel_rfl, ?_⟩) (fun _ => hS0) ?_
              rotate_left 1
              · (intro w hSw; (try dsimp only at hSw); go_simp; try with_reducible rfl)
              try simp only [Act.put, Array.toArray_toList, List.setIfInBounds_toArray, List.set_cons_zero, List.set_cons_succ]
              refine anyM_free (i := 7) (oi := { dst := some 78, op := _, type := _, pos := _, after := _, guard := _ }) (v := ?_) rfl (by kernel_rfl) (fun _ _ _ h => h) (Or.inl ⟨by kernel_rfl, ?_⟩) (fun _ => hS0) ?_
              rotate_left 1
              · (intro w hSw; (try dsimp only at hSw); go_simp; try with_reducible rfl)
              try simp only [Act.put, Array.toArray_toList, List.setIfInBounds_toArray, List.set_cons_zero, List.set_cons_succ]
              refine anyM_take (i := 8) (oi := { dst := some 79, op := _, type := _, pos := _, after := _, guard := _ }) (v := ?_) rfl (by kernel_rfl) (fun _ _ _ h => h) (Or.inl ⟨by kernel_rfl, ?_⟩) hS0 ?_
              rotate_left 1
              · (intro w hSw; (try dsimp only at hSw); go_simp; try with_reducible rfl)
              try simp only [Act.put, Array.toArray_toList, List.setIfInBounds_toArray, List.set_cons_zero, List.set_cons_succ]
              refine anyM_free (i := 9) (oi := { dst := some 80, op := _, type := _, pos := _, after := _, guard := _ }) (v := ?_) rfl (by kernel_rfl) (fun _ _ _ h => h) (Or.inl ⟨by kernel_rfl, ?_⟩) (fun _ => hS0) ?_
              rotate_left 1
              · (intro w hSw; (try dsimp only at hSw); go_simp; try with_reducible rfl)
              try simp only [Act.put, Array.toArray_toList, List.setIfInBounds_toArray, List.set_cons_zero, List.set_cons_succ]
              refine anyM_free (i := 10) (oi := { dst := some 81, op := _, type := _, pos := _, after := _, guard := _ }) (v := ?_) rfl (by kernel_rfl) (fun _ _ _ h => h) (Or.inl ⟨by kernel_rfl, ?_⟩) (fun _ => hS0) ?_
              rotate_left 1
              · (intro w hSw; (try dsimp only at hSw); go_simp; try with_reducible rfl)
              try simp only [Act.put, Array.toArray_toList, List.setIfInBounds_toArray, List.set_cons_zero, List.set_cons_succ]
              refine anyM_take (i := 11) (oi := { dst := some 82, op := _, type := _, pos := _, after := _, guard := _ }) (v := ?_) rfl (by kernel_rfl) (fun _ _ _ h => h) (Or.inl ⟨by kernel_rfl, ?_⟩) hS0 ?_
              rotate_left 1
              · (intro w hSw; (try dsimp only at hSw); go_simp; try with_reducible rfl)
              try simp only [Act.put, Array.toArray_toList, List.setIfInBounds_toArray, List.set_cons_zero, List.set_cons_succ]
              refine anyM_one (i := 12) (by kernel_rfl) rfl (fun K hK => ?_)
              go_simp
              refine (between_calls _ _ _ _).mono ?_
              rintro e w' ⟨rfl, rfl⟩
              refine hK.out _ _ (fun _ => hS0) ?_
              clear hK K
              try simp only [Act.put, Array.toArray_toList, List.setIfInBounds_toArray, List.set_cons_zero, List.set_cons_succ]
              refine anyM_free (i := 13) (oi := { dst := some 84, op := _, type := _, pos := _, after := _, guard := _ }) (v := ?_) rfl (by kernel_rfl) (fun _ _ _ h => h) (Or.inl ⟨by kernel_rfl, ?_⟩) (fun _ => hS0) ?_
              rotate_left 1
              · (intro w hSw; (try dsimp only at hSw); go_simp; try with_reducible rfl)
              try simp only [Act.put, Array.toArray_toList, List.setIfInBounds_toArray, List.set_cons_zero, List.set_cons_succ]
              refine anyM_free (i := 14) (oi := { dst := some 85, op := _, type := _, pos := _, after := _, guard := _ }) (v := ?_) rfl (by kernel_rfl) (fun _ _ _ h => h) (Or.inl ⟨by kernel_rfl, ?_⟩) (fun _ => hS0) ?_
              rotate_left 1
              · (intro w hSw; (try dsimp only at hSw); go_simp; try with_reducible rfl)
              try simp only [Act.put, Array.toArray_toList, List.setIfInBounds_toArray, List.set_cons_zero, List.set_cons_succ]
              refine anyM_one (i := 15) (by kernel_rfl) rfl (fun K hK => ?_)
              go_simp
              refine hK.out _ _ (fun h => late_no h (by kernel_rfl)) ?_
              clear hK K
              try simp only [Act.put, Array.toArray_toList, List.setIfInBounds_toArray, List.set_cons_zero, List.set_cons_succ]
              refine anyM_done (by kernel_rfl) ?_ _
              refine NoPanic.normal ?_
              have hR := (hR.setIs JJ.out.2 (between (b + p) lo hi)).congr (st' := isK st (isF gw k xs st f) (j + 1)) (fun i hi => by
                rw [← isK_step]
                by_cases e : i = j
                · subst e; rw [if_pos rfl, if_pos rfl, HISF.out]; rfl
                · rw [if_neg e, if_neg e])
              have hP := own_setFar (b := gi) (j := j * 9 + 8) (u := .int .i64 (between (b + p) lo hi)) hP (by simp [Value.ownBlock]; omega)
              have hB := own_setFar (b := gi) (j := j * 9 + 8) (u := .int .i64 (between (b + p) lo hi)) hB (by simp [Value.ownBlock]; omega)
              have hbel := hbel.setCell (p := ⟨gi, j * 9 + 8, none⟩) hlow0 (.int .i64 (between (b + p) lo hi))
              have ks : (wz.drew.setCell ⟨gi, j * 9 + 8, none⟩ (.int .i64 (between (b + p) lo hi))).cell? ⟨gi, j * 9 + 8, none⟩ = some (.int .i64 (between (b + p) lo hi)) := hR.at JJ.out.2 8 _ (by unfold frow isK; rw [if_pos (by omega), HISF.out]; rfl)
              clear hX k8 z8 hS0
              go_wp2_with fail
              obtain ⟨wy, hwy⟩ : ∃ x, x = (wz.setCell ⟨gi, j * 9 + 8, none⟩ (.int .i64 (between (b + p) lo hi))).drew := ⟨_, rfl⟩
              rw [← hwy]
              have hR : RowAt wy.drew g0 gr gi k room gw xs (isK st (isF gw k xs st f) (j + 1)) := by rw [hwy]; exact ⟨hR.row, hR.own, hR.low⟩
              have hP : wy.drew.ownsRow wo.heap.size 3 1 (.slice (some ⟨gP, 0, none⟩) k cP) k (ints (partsF gw k xs st f)) := by rw [hwy]; exact hP
              have hB : wy.drew.ownsRow gB 3 1 (.slice (some ⟨gB, 0, none⟩) k k) k (ints (upK k (byF gw k xs st f) j)) := by rw [hwy]; exact hB
              have hbel : Below g0 w wy.drew := by rw [hwy]; exact ⟨hbel.os, hbel.tape, hbel.output, hbel.size, hbel.block⟩
              have ks : wy.drew.cell? ⟨gi, j * 9 + 8, none⟩ = some (.int .i64 (between (b + p) lo hi)) := by rw [hwy]; exact ks
              have kb : wy.drew.cell? ⟨gB, j, none⟩ = some (.int .i64 0) := (hB.cellAt j (by omega)).trans (by rw [upK_at _ _ _ _ JJ.out.2, if_neg (by omega)])
              have zb : wy.drew.frozen? ⟨gB, j, none⟩ = false := hB.frozenAt j
              have hS0 : (fun w' : World => w'.cell? ⟨gr, 1, none⟩ = some (.slice (some ⟨gi, 0, none⟩) k k) ∧ w'.cell? ⟨gi, j * 9 + 8, none⟩ = some (.int .i64 (between (b + p) lo hi))) wy.drew := ⟨hR.row.cell 1, ks⟩
              have hc0 := cut_lo (b + p)
              have hc1 := cut_hi (b + p)
              obtain ⟨dd, hdd⟩ : ∃ x, x = between (b + p) lo hi - cut (b + p) := ⟨_, rfl⟩
              have m2 : IntKind.i64.wrap (between (b + p) lo hi - cut (b + p)) = dd := by rw [hdd]; exact IntWalk.i64_in _ (by omega)
              rw [← hdd] at d0 d1 HBYV
              clear hwy ks m1 hdd
              refine wp_region_noPanic ?_
              refine region_M (S := fun w' => w'.cell? ⟨gr, 1, none⟩ = some (.slice (some ⟨gi, 0, none⟩) k k) ∧ w'.cell? ⟨gi, j * 9 + 8, none⟩ = some (.int .i64 (between (b + p) lo hi))) (T := [14]) (by kernel_rfl) ?_
              refine anyM_free (i := 0) (oi := { dst := some 86, op := _, type := _, pos := _, after := _, guard := _ }) (v := ?_) rfl (by kernel_rfl) (fun _ _ _ h => h) (Or.inl ⟨by kernel_rfl, ?_⟩) (fun _ => hS0) ?_
              rotate_left 1
              · (intro w hSw; (try dsimp only at hSw); go_simp; try with_reducible rfl)
              try simp only [Act.put, Array.toArray_toList, List.setIfInBounds_toArray, List.set_cons_zero, List.set_cons_succ]
              refine anyM_free (i := 1) (oi := { dst := some 87, op := _, type := _, pos := _, after := _, guard := _ }) (v := ?_) rfl (by kernel_rfl) (fun _ _ _ h => h) (Or.inl ⟨by kernel_rfl, ?_⟩) (fun _ => hS0) ?_
              rotate_left 1
              · (intro w hSw; (try dsimp only at hSw); go_simp; try with_reducible rfl)
              try simp only [Act.put, Array.toArray_toList, List.setIfInBounds_toArray, List.set_cons_zero, List.set_cons_succ]
              refine anyM_free (i := 2) (oi := { dst := some 88, op := _, type := _, pos := _, after := _, guard := _ }) (v := ?_) rfl (by kernel_rfl) (fun _ _ _ h => h) (Or.inl ⟨by kernel_rfl, ?_⟩) (fun _ => hS0) ?_
              rotate_left 1
              · (intro w hSw; (try dsimp only at hSw); go_simp; try with_reducible rfl)
              try simp only [Act.put, Array.toArray_toList, List.setIfInBounds_toArray, List.set_cons_zero, List.set_cons_succ]
              refine anyM_free (i := 3) (oi := { dst := some 89, op := _, type := _, pos := _, after := _, guard := _ }) (v := ?_) rfl (by kernel_rfl) (fun _ _ _ h => h) (Or.inl ⟨by kernel_rfl, ?_⟩) (fun _ => hS0) ?_
              rotate_left 1
              · (intro w hSw; (try dsimp only at hSw); go_simp; try with_reducible rfl)
              try simp only [Act.put, Array.toArray_toList, List.setIfInBounds_toArray, List.set_cons_zero, List.set_cons_succ]
              refine anyM_free (i := 4) (oi := { dst := some 90, op := _, type := _, pos := _, after := _, guard := _ }) (v := ?_) rfl (by kernel_rfl) (fun _ _ _ h => h) (Or.inl ⟨by kernel_rfl, ?_⟩) (fun _ => hS0) ?_
              rotate_left 1
              · (intro w hSw; (try dsimp only at hSw); go_simp; try with_reducible rfl)
              try simp only [Act.put, Array.toArray_toList, List.setIfInBounds_toArray, List.set_cons_zero, List.set_cons_succ]
              refine anyM_take (i := 5) (oi := { dst := some 91, op := _, type := _, pos := _, after := _, guard := _ }) (v := ?_) rfl (by kernel_rfl) (fun _ _ _ h => h) (Or.inl ⟨by kernel_rfl, ?_⟩) hS0 ?_
              rotate_left 1
              · (intro w hSw; (try dsimp only at hSw); go_simp; try with_reducible rfl)
              try simp only [Act.put, Array.toArray_toList, List.setIfInBounds_toArray, List.set_cons_zero, List.set_cons_succ]
              refine anyM_free (i := 6) (oi := { dst := some 92, op := _, type := _, pos := _, after := _, guard := _ }) (v := ?_) rfl (by kernel_rfl) (fun _ _ _ h => h) (Or.inl ⟨by kernel_rfl, ?_⟩) (fun _ => hS0) ?_
              rotate_left 1
              · (intro w hSw; (try dsimp only at hSw); go_simp; try with_reducible rfl)
              try simp only [Act.put, Array.toArray_toList, List.setIfInBounds_toArray, List.set_cons_zero, List.set_cons_succ]
              refine anyM_free (i := 7) (oi := { dst := some 93, op := _, type := _, pos := _, after := _, guard := _ }) (v := ?_) rfl (by kernel_rfl) (fun _ _ _ h => h) (Or.inl ⟨by kernel_rfl, ?_⟩) (fun _ => hS0) ?_
              rotate_left 1
              · (intro w hSw; (try dsimp only at hSw); go_simp; try with_reducible rfl)
              try simp only [Act.put, Array.toArray_toList, List.setIfInBounds_toArray, List.set_cons_zero, List.set_cons_succ]
              refine anyM_free (i := 8) (oi := { dst := some 94, op := _, type := _, pos := _, after := _, guard := _ }) (v := ?_) rfl (by kernel_rfl) (fun _ _ _ h => h) (Or.inl ⟨by kernel_rfl, ?_⟩) (fun _ => hS0) ?_
              rotate_left 1
              · (intro w hSw; (try dsimp only at hSw); go_simp; try with_reducible rfl)
              try simp only [Act.put, Array.toArray_toList, List.setIfInBounds_toArray, List.set_cons_zero, List.set_cons_succ]
              refine anyM_take (i := 9) (oi := { dst := some 95, op := _, type := _, pos := _, after := _, guard := _ }) (v := ?_) rfl (by kernel_rfl) (fun _ _ _ h => h) (Or.inl ⟨by kernel_rfl, ?_⟩) hS0 ?_
              rotate_left 1
              · (intro w hSw; (try dsimp only at hSw); go_simp; try with_reducible rfl)
              try simp only [Act.put, Array.toArray_toList, List.setIfInBounds_toArray, List.set_cons_zero, List.set_cons_succ]
              refine anyM_free (i := 10) (oi := { dst := some 96, op := _, type := _, pos := _, after := _, guard := _ }) (v := ?_) rfl (by kernel_rfl) (fun _ _ _ h => h) (Or.inl ⟨by kernel_rfl, ?_⟩) (fun _ => hS0) ?_
              rotate_left 1
              · (intro w hSw; (try dsimp only at hSw); go_simp; try with_reducible rfl)
              try simp only [Act.put, Array.toArray_toList, List.setIfInBounds_toArray, List.set_cons_zero, List.set_cons_succ]
              refine anyM_one (i := 11) (by kernel_rfl) rfl (fun K hK => ?_)
              go_simp
              refine (cut_calls _ _).mono ?_
              rintro e w' ⟨rfl, rfl⟩
              refine hK.out _ _ (fun _ => hS0) ?_
              clear hK K
              try simp only [Act.put, Array.toArray_toList, List.setIfInBounds_toArray, List.set_cons_zero, List.set_cons_succ]
              refine anyM_free (i := 12) (oi := { dst := some 98, op := _, type := _, pos := _, after := _, guard := _ }) (v := ?_) rfl (by kernel_rfl) (fun _ _ _ h => h) (Or.inl ⟨by kernel_rfl, ?_⟩) (fun _ => hS0) ?_
              rotate_left 1
              · (intro w hSw; (try dsimp only at hSw); go_simp; try with_reducible rfl)
              try simp only [Act.put, Array.toArray_toList, List.setIfInBounds_toArray, List.set_cons_zero, List.set_cons_succ]
              refine anyM_free (i := 13) (oi := { dst := some 99, op := _, type := _, pos := _, after := _, guard := _ }) (v := ?_) rfl (by kernel_rfl) (fun _ _ _ h => h) (Or.inl ⟨by kernel_rfl, ?_⟩) (fun _ => hS0) ?_
              rotate_left 1
              · (intro w hSw; (try dsimp only at hSw); go_simp; try with_reducible rfl)
              try simp only [Act.put, Array.toArray_toList, List.setIfInBounds_toArray, List.set_cons_zero, List.set_cons_succ]
              refine anyM_one (i := 14) (by kernel_rfl) rfl (fun K hK => ?_)
              go_simp
              refine hK.out _ _ (fun h => late_no h (by kernel_rfl)) ?_
              clear hK K
              try simp only [Act.put, Array.toArray_toList, List.setIfInBounds_toArray, List.set_cons_zero, List.set_cons_succ]
              refine anyM_done (by kernel_rfl) ?_ _
              refine NoPanic.normal ?_
              have hset := (hB.stored j (.int .i64 dd)).1
              rw [← HBYV.out, upK_set _ _ _ JJ.out.2, HBYV.out] at hset
              have hR := hR.far (b := gB) (j := j) (u := .int .i64 dd) (by omega) (by omega)
              have hP := own_setFar (b := gB) (j := j) (u := .int .i64 dd) hP (by simp [Value.ownBlock]; omega)
              have hbel := hbel.setCell (p := ⟨gB, j, none⟩) (show g0 ≤ gB by omega) (.int .i64 dd)
              have kd : (wy.setCell ⟨gB, j, none⟩ (.int .i64 dd)).cell? ⟨gB, j, none⟩ = some (.int .i64 dd) := (hset.cellAt j (by omega)).trans (by rw [upK_at _ _ _ _ JJ.out.2, if_pos (by omega), HBYV.out])
              have HR9 := Lib.hid hR
              have HP9 := Lib.hid hP
              have HB9 := Lib.hid hset
              have HL9 := Lib.hid hbel
              clear hR hP hB hset hbel hS0 kb zb m2 hc0 hc1 hv0 hv1
              go_wp2_with fail
              go_roundw
              case rel => exact ⟨j + 1, by have := JJ.out; omega, by go_num, by rw [HSUC.out, HBYV.out], HR9.out, HP9.out, HB9.out, HL9.out⟩
              case measure => have := JJ.out; simp [intOf]; omega
            · have hby : byF gw k xs st f j = 0 := HBYF.out
              have HK1 : Hid (isK st (isF gw k xs st f) (j + 1) = isK st (isF gw k xs st f) j) := isK_keep _ _ _ (by rw [HISF.out, ← HSE.out]; rfl)
              have HK2 : Hid (upK k (byF gw k xs st f) (j + 1) = upK k (byF gw k xs st f) j) := upK_keep _ _ _ hby
              have HS2 := Lib.hid (show sumTo (byF gw k xs st f) (j + 1) = c from by rw [HSUC.out, hby]; omega)
              clear hby hbyb tp
              go_wp2_with fail
              go_roundw
              case rel => exact ⟨j + 1, by have := JJ.out; omega, by go_num, by rw [HS2.out], by rw [HK1.out]; exact HR5.out, HP5.out, by rw [HK2.out]; exact HB5.out, HL5.out⟩
              case measure => have := JJ.out; simp [intOf]; omega
          · obtain rfl : j = k := by omega
            have u5 : wr.cell? ⟨gr, 1, none⟩ = some (.slice (some ⟨gi, 0, none⟩) j j) := hR.row.cell 1
            have HTURN : Hid (∀ i, i < j → stG (isK st (isF gw j xs st f) j) (fun i => goesF (sumTo (byF gw j xs st f) j) (byF gw j xs st f i)) j i = turnF gw j xs st f i) := by
              show ∀ i, _
              intro i hi
              unfold stG isK turnF
              rw [if_pos hi, if_pos hi]
              rfl
            have HRX := Lib.hid hR
            have HBX := Lib.hid hB
            have HLX := Lib.hid hbel
            clear hR hP hB hbel
            obtain ⟨A, hA⟩ : ∃ x, x = sumTo (byF gw j xs st f) j := ⟨_, rfl⟩
            rw [← hA] at HTURN ⊢
            clear hA
            go_wp2_with fail
            clear u5
            go_loopw [112] (fun i wr => ∃ q : Nat, q ≤ j ∧ i = .int .i64 q ∧ RowAt wr g0 gr gi j room gw xs (stG (isK st (isF gw j xs st f) j) (fun i => goesF A (byF gw j xs st f i)) q) ∧ wr.ownsRow gB 3 1 (.slice (some ⟨gB, 0, none⟩) j j) j (ints (upK j (byF gw j xs st f) j)) ∧ Below g0 w wr) (fun i _ => j - (intOf i).toNat)
            case atStart => exact ⟨0, Nat.zero_le _, rfl, by rw [stG_zero]; exact HRX.out, HBX.out, HLX.out⟩
            case round =>
              obtain ⟨q, hq, rfl, hR, hB, hbel⟩ := hrel
              by_cases hlt3 : q < j
              · have tb : wr.cell? ⟨gB, q, none⟩ = some (.int .i64 (byF gw j xs st f q)) := (hB.cellAt q (by omega)).trans (by rw [upK_at _ _ _ _ hlt3, if_pos hlt3])
                have u6 : wr.cell? ⟨gr, 1, none⟩ = some (.slice (some ⟨gi, 0, none⟩) j j) := hR.row.cell 1
                obtain ⟨sd7, hsd7⟩ : ∃ x, x = (stG (isK st (isF gw j xs st f) j) (fun i => goesF A (byF gw j xs st f i)) q q).settled := ⟨_, rfl⟩
                have t7 : wr.cell? ⟨gi, q * 9 + 7, none⟩ = some (.bool sd7) := hR.at hlt3 7 _ (by rw [hsd7]; rfl)
                have z7 : wr.frozen? ⟨gi, q * 9 + 7, none⟩ = false := own_free hR.own
                obtain ⟨B, hBB⟩ : ∃ x, x = byF gw j xs st f q := ⟨_, rfl⟩
                rw [← hBB] at tb
                have HGO : Hid (goesF A B = (fun i => goesF A (byF gw j xs st f i)) q) := by show _ = _; rw [hBB]
                have QQ := Lib.hid (show q ≤ j ∧ q < j from ⟨hq, hlt3⟩)
                have HR9 := Lib.hid hR
                have HB9 := Lib.hid hB
                have HL9 := Lib.hid hbel
                clear hR hB hbel hBB hsd7
                rcases Int.lt_trichotomy A 0 with ha | ha | ha
                · have e0 : (A == 0) = false := by simp; omega
                  have ha2 : decide (0 < A) = false := by simp; omega
                  by_cases hb0 : B < 0
                  · have hgo : goesF A B = true := by unfold goesF; simp [ha, hb0]
                    have HST := Lib.hid ((HR9.out.settle QQ.out.2).congr (fun i hi => stG_step _ _ _ i (HGO.out.symm.trans hgo)))
                    have HS3 := Lib.hid (own_setFar (b := gi) (j := q * 9 + 7) (u := .bool true) HB9.out (by simp [Value.ownBlock]; omega))
                    have HL3 := Lib.hid (HL9.out.setCell (p := ⟨gi, q * 9 + 7, none⟩) hlow0 (.bool true))
                    clear hgo
                    go_wp2_with fail
                    go_roundw
                    case rel => exact ⟨q + 1, by have := QQ.out; omega, by go_num, HST.out, HS3.out, HL3.out⟩
                    case measure => have := QQ.out; simp [intOf]; omega
                  · have hgo : goesF A B = false := by unfold goesF; simp [hb0]; omega
                    have hb1 : decide (B < 0) = false := by simp; omega
                    have HKE := Lib.hid (stG_keep (isK st (isF gw j xs st f) j) (fun i => goesF A (byF gw j xs st f i)) q (HGO.out.symm.trans hgo))
                    clear hgo
                    go_wp2_with fail
                    go_roundw
                    case rel => exact ⟨q + 1, by have := QQ.out; omega, by go_num, by rw [HKE.out]; exact HR9.out, HB9.out, HL9.out⟩
                    case measure => have := QQ.out; simp [intOf]; omega
                · have hgo : goesF A B = true := by unfold goesF; simp [ha]
                  have e0 : (A == 0) = true := by simp [ha]
                  have HST := Lib.hid ((HR9.out.settle QQ.out.2).congr (fun i hi => stG_step _ _ _ i (HGO.out.symm.trans hgo)))
                  have HS3 := Lib.hid (own_setFar (b := gi) (j := q * 9 + 7) (u := .bool true) HB9.out (by simp [Value.ownBlock]; omega))
                  have HL3 := Lib.hid (HL9.out.setCell (p := ⟨gi, q * 9 + 7, none⟩) hlow0 (.bool true))
                  clear hgo
                  go_wp2_with fail
                  go_roundw
                  case rel => exact ⟨q + 1, by have := QQ.out; omega, by go_num, HST.out, HS3.out, HL3.out⟩
                  case measure => have := QQ.out; simp [intOf]; omega
                · have e0 : (A == 0) = false := by simp; omega
                  by_cases hb0 : 0 < B
                  · have hgo : goesF A B = true := by unfold goesF; simp [ha, hb0]
                    have HST := Lib.hid ((HR9.out.settle QQ.out.2).congr (fun i hi => stG_step _ _ _ i (HGO.out.symm.trans hgo)))
                    have HS3 := Lib.hid (own_setFar (b := gi) (j := q * 9 + 7) (u := .bool true) HB9.out (by simp [Value.ownBlock]; omega))
                    have HL3 := Lib.hid (HL9.out.setCell (p := ⟨gi, q * 9 + 7, none⟩) hlow0 (.bool true))
                    clear hgo
                    go_wp2_with fail
                    go_roundw
                    case rel => exact ⟨q + 1, by have := QQ.out; omega, by go_num, HST.out, HS3.out, HL3.out⟩
                    case measure => have := QQ.out; simp [intOf]; omega
                  · have hgo : goesF A B = false := by unfold goesF; simp [hb0]; omega
                    have hb1 : decide (0 < B) = false := by simp; omega
                    have ha2 : decide (A < 0) = false := by simp; omega
                    have HKE := Lib.hid (stG_keep (isK st (isF gw j xs st f) j) (fun i => goesF A (byF gw j xs st f i)) q (HGO.out.symm.trans hgo))
                    clear hgo
                    go_wp2_with fail
                    go_roundw
                    case rel => exact ⟨q + 1, by have := QQ.out; omega, by go_num, by rw [HKE.out]; exact HR9.out, HB9.out, HL9.out⟩
                    case measure => have := QQ.out; simp [intOf]; omega
              · obtain rfl : q = j := by omega
                have HRE := Lib.hid (hR.congr HTURN.out)
                clear hR hB
                go_wp2_with fail
                go_end0
                exact ⟨rfl, HRE.out, hbel⟩
      · have HFF := Lib.hid (show now = f from by rw [HF.out]; unfold roomF; rw [if_neg hlow])
        have hnf := HFF.out.symm
        subst hnf
        go_wp2_with (first | (go_at_call 94; refine HP.out.mono ?_; rintro e w3 ⟨gP, cP, rfl, hP, hb3⟩; have u3 : w3.cell? ⟨gr, 1, none⟩ = some (.slice (some ⟨gi, 0, none⟩) k k) := (HRW.out.below hb3).row.cell 1) | (at_make; refine wpList_make_full _ rfl (.tmp 49) (.tmp 49) 22 rfl w3.heap.size 3 i0 (.int .i64 0) 1 Try.underlying22 hi0 hz0 hz1 .i64 .i64 _ _ k rfl rfl rfl rfl (by rw [hz2]; omega) (by unfold maxLen; omega) (by simp) ?_; intro w4 hB hg4; have hb4 := below_made (Below.refl _ w3) hg4; have u4 : w4.cell? ⟨gr, 1, none⟩ = some (.slice (some ⟨gi, 0, none⟩) k k) := ((HRW.out.below hb3).below hb4).row.cell 1))
        have hgr := H.out.row.lt
        have hgi := (H.out.own.lt gi rfl).2
        have hbw := HBW.out.size
        have hgP := (hP.lt gP rfl)
        obtain ⟨gB, hgB⟩ : ∃ x, x = w3.heap.size := ⟨_, rfl⟩
        rw [made_zero k (byF gw k xs st f), ← hgB] at hB
        have hlow0 := H.out.lowI
        have hbelT := ((HBW.out.mono hg0).trans ((hb3.mono (by omega)).trans (hb4.mono (by omega))) : Below g0 w w4)
        have HB4 := Lib.hid hbelT
        have HR4 := Lib.hid (((HRW.out.below hb3).below hb4))
        have HP4 := Lib.hid (own_below hP hb4)
        have HBY4 := Lib.hid hB
        have hgP1 : w.heap.size ≤ gP := by omega
        have hgPB : gP < gB := by omega
        rw [← hgB]
        clear hP hB hgP hgB hb3 hb4 hbelT u1 u3 u4 hg4
        clear HP HRW HBW
        have hPL := parts_len gw k xs st f
        go_loopw [8, 56] (fun v i wr => ∃ j : Nat, j ≤ k ∧ i = .int .i64 j ∧ v = .int .i64 (sumTo (byF gw k xs st f) j) ∧ RowAt wr g0 gr gi k room gw xs (isK st (isF gw k xs st f) j) ∧ wr.ownsRow wo.heap.size 3 1 (.slice (some ⟨gP, 0, none⟩) k cP) k (ints (partsF gw k xs st f)) ∧ wr.ownsRow gB 3 1 (.slice (some ⟨gB, 0, none⟩) k k) k (ints (upK k (byF gw k xs st f) j)) ∧ Below g0 w wr) (fun _ i _ => k - (intOf i).toNat)
        case atStart => exact ⟨0, Nat.zero_le _, rfl, rfl, by rw [isK_zero]; exact HR4.out, HP4.out, HBY4.out, HB4.out⟩
        case round =>
          obtain ⟨j, hj, rfl, rfl, hR, hP, hB, hbel⟩ := hrel
          by_cases hlt2 : j < k
          · have hat := hR.at hlt2
            have hxk := HX.out j
            have hbyb := by_bd gw k xs st f j (HS.out j)
            have hsumb := bySum_bd gw k j xs st f HS.out (by omega)
            have hpb := parts_bd gw k xs st f j
            obtain ⟨⟨b, lo, hi, g, s, e⟩, hxe⟩ : ∃ x, x = xs j := ⟨_, rfl⟩
            obtain ⟨⟨sd, is⟩, hse⟩ : ∃ x, x = st j := ⟨_, rfl⟩
            obtain ⟨lg, hle⟩ : ∃ x, x = long (xs j) := ⟨_, rfl⟩
            obtain ⟨p, hp⟩ : ∃ x, x = (partsF gw k xs st f).getD j 0 := ⟨_, rfl⟩
            unfold frow at hat
            rw [isK_at] at hat
            rw [← hle, ← hxe, ← hse] at hat
            rw [← hxe] at hxk
            rw [← hp] at hpb
            have t0 : wr.cell? ⟨gi, j * 9, none⟩ = some (.int .i64 b) := hat 0 _ rfl
            have t1 : wr.cell? ⟨gi, j * 9 + 1, none⟩ = some (.int .i64 lo) := hat 1 _ rfl
            have t2 : wr.cell? ⟨gi, j * 9 + 2, none⟩ = some (.int .i64 hi) := hat 2 _ rfl
            have t3 : wr.cell? ⟨gi, j * 9 + 3, none⟩ = some (.int .i64 g) := hat 3 _ rfl
            have t4 : wr.cell? ⟨gi, j * 9 + 4, none⟩ = some (.int .i64 s) := hat 4 _ rfl
            have t5 : wr.cell? ⟨gi, j * 9 + 5, none⟩ = some (.int .i64 e) := hat 5 _ rfl
            have t6 : wr.cell? ⟨gi, j * 9 + 6, none⟩ = some (.int .i64 lg) := hat 6 _ rfl
            have t7 : wr.cell? ⟨gi, j * 9 + 7, none⟩ = some (.bool sd) := hat 7 _ rfl
            have t8 : wr.cell? ⟨gi, j * 9 + 8, none⟩ = some (.int .i64 is) := hat 8 _ rfl
            have HISF : Hid (isF gw k xs st f j = if sd then is else between (b + p) lo hi) := by show _ = _; unfold isF wouldF; rw [← hse, ← hxe, ← hp]
            have HBYF : Hid (byF gw k xs st f j = if sd then 0 else between (b + p) lo hi - cut (b + p)) := by
              show _ = _
              unfold byF
              rw [HISF.out]
              unfold wouldF
              rw [← hse, ← hxe, ← hp]
              cases sd <;> rfl
            have HSUC : Hid (sumTo (byF gw k xs st f) (j + 1) = sumTo (byF gw k xs st f) j + byF gw k xs st f j) := rfl
            obtain ⟨c, hc⟩ : ∃ x, x = sumTo (byF gw k xs st f) j := ⟨_, rfl⟩
            rw [← hc] at hsumb HSUC ⊢
            have JJ := Lib.hid (show j ≤ k ∧ j < k from ⟨hj, hlt2⟩)
            have HSE := Lib.hid hse
            have HR5 := Lib.hid (hR.alloc (.cells #[.int .i64 b, .int .i64 lo, .int .i64 hi, .int .i64 g, .int .i64 s, .int .i64 e, .int .i64 lg, .bool sd, .int .i64 is] 103))
            have HP5 := Lib.hid (hP.alloc (.cells #[.int .i64 b, .int .i64 lo, .int .i64 hi, .int .i64 g, .int .i64 s, .int .i64 e, .int .i64 lg, .bool sd, .int .i64 is] 103))
            have HB5 := Lib.hid (hB.alloc (.cells #[.int .i64 b, .int .i64 lo, .int .i64 hi, .int .i64 g, .int .i64 s, .int .i64 e, .int .i64 lg, .bool sd, .int .i64 is] 103))
            have HL5 := Lib.hid (hbel.alloc (Nat.le_trans hg0 hbel.size) (.cells #[.int .i64 b, .int .i64 lo, .int .i64 hi, .int .i64 g, .int .i64 s, .int .i64 e, .int .i64 lg, .bool sd, .int .i64 is] 103))
            have HX5 := Lib.hid (Blk.new wr 103 #[.int .i64 b, .int .i64 lo, .int .i64 hi, .int .i64 g, .int .i64 s, .int .i64 e, .int .i64 lg, .bool sd, .int .i64 is])
            have tp : (wr.alloc (.cells #[.int .i64 b, .int .i64 lo, .int .i64 hi, .int .i64 g, .int .i64 s, .int .i64 e, .int .i64 lg, .bool sd, .int .i64 is] 103)).cell? ⟨gP, j, none⟩ = some (.int .i64 p) := (HP5.out.cellAt j (by omega)).trans (by rw [hp]; exact ints_get _ _ (by rw [hPL]; exact hlt2))
            obtain ⟨b0, b1, _⟩ := hxk
            simp only at b0 b1
            obtain ⟨p0, p1⟩ := hpb
            obtain ⟨s0, s1⟩ := hsumb
            clear hat hxe hse hle hp hc hR hP hB hbel
            cases sd
            · have hby : byF gw k xs st f j = between (b + p) lo hi - cut (b + p) := HBYF.out
              rw [hby] at hbyb
              have HBYV := Lib.hid hby
              obtain ⟨d0, d1⟩ := hbyb
              clear hby
              have hv0 := between_lo (b + p) lo hi
              have hv1 := between_hi (b + p) lo hi
              have m1 : IntKind.i64.wrap (b + p) = b + p := IntWalk.i64_in _ (by omega)
              go_wp2_with fail
              go_quiet (fail)
              go_wp2_with fail
              have hX := HX5.out.drewN nq
              have hR := HR5.out.drewN nq
              have hP := own_drewN HP5.out nq
              have hB := own_drewN HB5.out nq
              have hbel := below_drewN HL5.out nq
              generalize hwz : World.drewN _ nq = wz at hX hR hP hB hbel ⊢
              have hX := hX.drew
              have hR := hR.drew
              have hP := own_drew1 hP
              have hB := own_drew1 hB
              have hbel := hbel.drew
              have k8 : wz.drew.cell? ⟨gi, j * 9 + 8, none⟩ = some (.int .i64 is) := hR.at JJ.out.2 8 _ (by unfold frow; rw [isK_at, ← HSE.out]; rfl)
              have z8 : wz.drew.frozen? ⟨gi, j * 9 + 8, none⟩ = false := own_free hR.own
              have hS0 : (fun w' : World => w'.cell? ⟨gr, 1, none⟩ = some (.slice (some ⟨gi, 0, none⟩) k k) ∧ w'.cell? ⟨wr.heap.size, 0, none⟩ = some (.int .i64 b) ∧ w'.cell? ⟨wr.heap.size, 1, none⟩ = some (.int .i64 lo) ∧ w'.cell? ⟨wr.heap.size, 2, none⟩ = some (.int .i64 hi) ∧ w'.cell? ⟨wr.heap.size, 3, none⟩ = some (.int .i64 g) ∧ w'.cell? ⟨wr.heap.size, 4, none⟩ = some (.int .i64 s) ∧ w'.cell? ⟨wr.heap.size, 5, none⟩ = some (.int .i64 e) ∧ w'.cell? ⟨wr.heap.size, 6, none⟩ = some (.int .i64 lg) ∧ w'.cell? ⟨wr.heap.size, 7, none⟩ = some (.bool false) ∧ w'.cell? ⟨wr.heap.size, 8, none⟩ = some (.int .i64 is)) wz.drew := ⟨hR.row.cell 1, hX.cell 0, hX.cell 1, hX.cell 2, hX.cell 3, hX.cell 4, hX.cell 5, hX.cell 6, hX.cell 7, hX.cell 8⟩
              clear hwz t0 t1 t2 t3 t4 t5 t6 t7 t8 tp
              refine wp_region_noPanic ?_
              refine region_M (S := fun w' => w'.cell? ⟨gr, 1, none⟩ = some (.slice (some ⟨gi, 0, none⟩) k k) ∧ w'.cell? ⟨wr.heap.size, 0, none⟩ = some (.int .i64 b) ∧ w'.cell? ⟨wr.heap.size, 1, none⟩ = some (.int .i64 lo) ∧ w'.cell? ⟨wr.heap.size, 2, none⟩ = some (.int .i64 hi) ∧ w'.cell? ⟨wr.heap.size, 3, none⟩ = some (.int .i64 g) ∧ w'.cell? ⟨wr.heap.size, 4, none⟩ = some (.int .i64 s) ∧ w'.cell? ⟨wr.heap.size, 5, none⟩ = some (.int .i64 e) ∧ w'.cell? ⟨wr.heap.size, 6, none⟩ = some (.int .i64 lg) ∧ w'.cell? ⟨wr.heap.size, 7, none⟩ = some (.bool false) ∧ w'.cell? ⟨wr.heap.size, 8, none⟩ = some (.int .i64 is)) (T := [15]) (by kernel_rfl) ?_
              refine anyM_free (i := 0) (oi := { dst := some 71, op := _, type := _, pos := _, after := _, guard := _ }) (v := ?_) rfl (by kernel_rfl) (fun _ _ _ h => h) (Or.inl ⟨by kernel_rfl, ?_⟩) (fun _ => hS0) ?_
              rotate_left 1
              · (intro w hSw; (try dsimp only at hSw); go_simp; try with_reducible rfl)
              try simp only [Act.put, Array.toArray_toList, List.setIfInBounds_toArray, List.set_cons_zero, List.set_cons_succ]
              refine anyM_free (i := 1) (oi := { dst := some 72, op := _, type := _, pos := _, after := _, guard := _ }) (v := ?_) rfl (by kernel_rfl) (fun _ _ _ h => h) (Or.inl ⟨by kernel_rfl, ?_⟩) (fun _ => hS0) ?_
              rotate_left 1
              · (intro w hSw; (try dsimp only at hSw); go_simp; try with_reducible rfl)
              try simp only [Act.put, Array.toArray_toList, List.setIfInBounds_toArray, List.set_cons_zero, List.set_cons_succ]
              refine anyM_free (i := 2) (oi := { dst := some 73, op := _, type := _, pos := _, after := _, guard := _ }) (v := ?_) rfl (by kernel_rfl) (fun _ _ _ h => h) (Or.inl ⟨by kernel_rfl, ?_⟩) (fun _ => hS0) ?_
              rotate_left 1
              · (intro w hSw; (try dsimp only at hSw); go_simp; try with_reducible rfl)
              try simp only [Act.put, Array.toArray_toList, List.setIfInBounds_toArray, List.set_cons_zero, List.set_cons_succ]
              refine anyM_take (i := 3) (oi := { dst := some 74, op := _, type := _, pos := _, after := _, guard := _ }) (v := ?_) rfl (by kernel_rfl) (fun _ _ _ h => h) (Or.inl ⟨by kernel_rfl, ?_⟩) hS0 ?_
              rotate_left 1
              · (intro w hSw; (try dsimp only at hSw); go_simp; try with_reducible rfl)
              try simp only [Act.put, Array.toArray_toList, List.setIfInBounds_toArray, List.set_cons_zero, List.set_cons_succ]
              refine anyM_free (i := 4) (oi := { dst := some 75, op := _, type := _, pos := _, after := _, guard := _ }) (v := ?_) rfl (by kernel_rfl) (fun _ _ _ h => h) (Or.inl ⟨by kernel_rfl, ?_⟩) (fun _ => hS0) ?_
              rotate_left 1
              · (intro w hSw; (try dsimp only at hSw); go_simp; try with_reducible rfl)
              try simp only [Act.put, Array.toArray_toList, List.setIfInBounds_toArray, List.set_cons_zero, List.set_cons_succ]
              refine anyM_free (i := 5) (oi := { dst := some 76, op := _, type := _, pos := _, after := _, guard := _ }) (v := ?_) rfl (by kernel_rfl) (fun _ _ _ h => h) (Or.inl ⟨by kernel_rfl, ?_⟩) (fun _ => hS0) ?_
              rotate_left 1
              · (intro w hSw; (try dsimp only at hSw); go_simp; try with_reducible rfl)
              try simp only [Act.put, Array.toArray_toList, List.setIfInBounds_toArray, List.set_cons_zero, List.set_cons_succ]
              refine anyM_free (i := 6) (oi := { dst := some 77, op := _, type := _, pos := _, after := _, guard := _ }) (v := ?_) rfl (by kernel_rfl) (fun _ _ _ h => h) (Or.inl ⟨by kernel_rfl, ?_⟩) (fun _ => hS0) ?_
              rotate_left 1
              · (intro w hSw; (try dsimp only at hSw); go_simp; try with_reducible rfl)
              try simp only [Act.put, Array.toArray_toList, List.setIfInBounds_toArray, List.set_cons_zero, List.set_cons_succ]
              refine anyM_free (i := 7) (oi := { dst := some 78, op := _, type := _, pos := _, after := _, guard := _ }) (v := ?_) rfl (by kernel_rfl) (fun _ _ _ h => h) (Or.inl ⟨by kernel_rfl, ?_⟩) (fun _ => hS0) ?_
              rotate_left 1
              · (intro w hSw; (try dsimp only at hSw); go_simp; try with_reducible rfl)
              try simp only [Act.put, Array.toArray_toList, List.setIfInBounds_toArray, List.set_cons_zero, List.set_cons_succ]
              refine anyM_take (i := 8) (oi := { dst := some 79, op := _, type := _, pos := _, after := _, guard := _ }) (v := ?_) rfl (by kernel_rfl) (fun _ _ _ h => h) (Or.inl ⟨by kernel_rfl, ?_⟩) hS0 ?_
              rotate_left 1
              · (intro w hSw; (try dsimp only at hSw); go_simp; try with_reducible rfl)
              try simp only [Act.put, Array.toArray_toList, List.setIfInBounds_toArray, List.set_cons_zero, List.set_cons_succ]
              refine anyM_free (i := 9) (oi := { dst := some 80, op := _, type := _, pos := _, after := _, guard := _ }) (v := ?_) rfl (by kernel_rfl) (fun _ _ _ h => h) (Or.inl ⟨by kernel_rfl, ?_⟩) (fun _ => hS0) ?_
              rotate_left 1
              · (intro w hSw; (try dsimp only at hSw); go_simp; try with_reducible rfl)
              try simp only [Act.put, Array.toArray_toList, List.setIfInBounds_toArray, List.set_cons_zero, List.set_cons_succ]
              refine anyM_free (i := 10) (oi := { dst := some 81, op := _, type := _, pos := _, after := _, guard := _ }) (v := ?_) rfl (by kernel_rfl) (fun _ _ _ h => h) (Or.inl ⟨by kernel_rfl, ?_⟩) (fun _ => hS0) ?_
              rotate_left 1
              · (intro w hSw; (try dsimp only at hSw); go_simp; try with_reducible rfl)
              try simp only [Act.put, Array.toArray_toList, List.setIfInBounds_toArray, List.set_cons_zero, List.set_cons_succ]
              refine anyM_take (i := 11) (oi := { dst := some 82, op := _, type := _, pos := _, after := _, guard := _ }) (v := ?_) rfl (by kernel_rfl) (fun _ _ _ h => h) (Or.inl ⟨by kernel_rfl, ?_⟩) hS0 ?_
              rotate_left 1
              · (intro w hSw; (try dsimp only at hSw); go_simp; try with_reducible rfl)
              try simp only [Act.put, Array.toArray_toList, List.setIfInBounds_toArray, List.set_cons_zero, List.set_cons_succ]
              refine anyM_one (i := 12) (by kernel_rfl) rfl (fun K hK => ?_)
              go_simp
              refine (between_calls _ _ _ _).mono ?_
              rintro e w' ⟨rfl, rfl⟩
              refine hK.out _ _ (fun _ => hS0) ?_
              clear hK K
              try simp only [Act.put, Array.toArray_toList, List.setIfInBounds_toArray, List.set_cons_zero, List.set_cons_succ]
              refine anyM_free (i := 13) (oi := { dst := some 84, op := _, type := _, pos := _, after := _, guard := _ }) (v := ?_) rfl (by kernel_rfl) (fun _ _ _ h => h) (Or.inl ⟨by kernel_rfl, ?_⟩) (fun _ => hS0) ?_
              rotate_left 1
              · (intro w hSw; (try dsimp only at hSw); go_simp; try with_reducible rfl)
              try simp only [Act.put, Array.toArray_toList, List.setIfInBounds_toArray, List.set_cons_zero, List.set_cons_succ]
              refine anyM_free (i := 14) (oi := { dst := some 85, op := _, type := _, pos := _, after := _, guard := _ }) (v := ?_) rfl (by kernel_rfl) (fun _ _ _ h => h) (Or.inl ⟨by kernel_rfl, ?_⟩) (fun _ => hS0) ?_
              rotate_left 1
              · (intro w hSw; (try dsimp only at hSw); go_simp; try with_reducible rfl)
              try simp only [Act.put, Array.toArray_toList, List.setIfInBounds_toArray, List.set_cons_zero, List.set_cons_succ]
              refine anyM_one (i := 15) (by kernel_rfl) rfl (fun K hK => ?_)
              go_simp
              refine hK.out _ _ (fun h => late_no h (by kernel_rfl)) ?_
              clear hK K
              try simp only [Act.put, Array.toArray_toList, List.setIfInBounds_toArray, List.set_cons_zero, List.set_cons_succ]
              refine anyM_done (by kernel_rfl) ?_ _
              refine NoPanic.normal ?_
              have hR := (hR.setIs JJ.out.2 (between (b + p) lo hi)).congr (st' := isK st (isF gw k xs st f) (j + 1)) (fun i hi => by
                rw [← isK_step]
                by_cases e : i = j
                · subst e; rw [if_pos rfl, if_pos rfl, HISF.out]; rfl
                · rw [if_neg e, if_neg e])
              have hP := own_setFar (b := gi) (j := j * 9 + 8) (u := .int .i64 (between (b + p) lo hi)) hP (by simp [Value.ownBlock]; omega)
              have hB := own_setFar (b := gi) (j := j * 9 + 8) (u := .int .i64 (between (b + p) lo hi)) hB (by simp [Value.ownBlock]; omega)
              have hbel := hbel.setCell (p := ⟨gi, j * 9 + 8, none⟩) hlow0 (.int .i64 (between (b + p) lo hi))
              have ks : (wz.drew.setCell ⟨gi, j * 9 + 8, none⟩ (.int .i64 (between (b + p) lo hi))).cell? ⟨gi, j * 9 + 8, none⟩ = some (.int .i64 (between (b + p) lo hi)) := hR.at JJ.out.2 8 _ (by unfold frow isK; rw [if_pos (by omega), HISF.out]; rfl)
              clear hX k8 z8 hS0
              go_wp2_with fail
              obtain ⟨wy, hwy⟩ : ∃ x, x = (wz.setCell ⟨gi, j * 9 + 8, none⟩ (.int .i64 (between (b + p) lo hi))).drew := ⟨_, rfl⟩
              rw [← hwy]
              have hR : RowAt wy.drew g0 gr gi k room gw xs (isK st (isF gw k xs st f) (j + 1)) := by rw [hwy]; exact ⟨hR.row, hR.own, hR.low⟩
              have hP : wy.drew.ownsRow wo.heap.size 3 1 (.slice (some ⟨gP, 0, none⟩) k cP) k (ints (partsF gw k xs st f)) := by rw [hwy]; exact hP
              have hB : wy.drew.ownsRow gB 3 1 (.slice (some ⟨gB, 0, none⟩) k k) k (ints (upK k (byF gw k xs st f) j)) := by rw [hwy]; exact hB
              have hbel : Below g0 w wy.drew := by rw [hwy]; exact ⟨hbel.os, hbel.tape, hbel.output, hbel.size, hbel.block⟩
              have ks : wy.drew.cell? ⟨gi, j * 9 + 8, none⟩ = some (.int .i64 (between (b + p) lo hi)) := by rw [hwy]; exact ks
              have kb : wy.drew.cell? ⟨gB, j, none⟩ = some (.int .i64 0) := (hB.cellAt j (by omega)).trans (by rw [upK_at _ _ _ _ JJ.out.2, if_neg (by omega)])
              have zb : wy.drew.frozen? ⟨gB, j, none⟩ = false := hB.frozenAt j
              have hS0 : (fun w' : World => w'.cell? ⟨gr, 1, none⟩ = some (.slice (some ⟨gi, 0, none⟩) k k) ∧ w'.cell? ⟨gi, j * 9 + 8, none⟩ = some (.int .i64 (between (b + p) lo hi))) wy.drew := ⟨hR.row.cell 1, ks⟩
              have hc0 := cut_lo (b + p)
              have hc1 := cut_hi (b + p)
              obtain ⟨dd, hdd⟩ : ∃ x, x = between (b + p) lo hi - cut (b + p) := ⟨_, rfl⟩
              have m2 : IntKind.i64.wrap (between (b + p) lo hi - cut (b + p)) = dd := by rw [hdd]; exact IntWalk.i64_in _ (by omega)
              rw [← hdd] at d0 d1 HBYV
              clear hwy ks m1 hdd
              refine wp_region_noPanic ?_
              refine region_M (S := fun w' => w'.cell? ⟨gr, 1, none⟩ = some (.slice (some ⟨gi, 0, none⟩) k k) ∧ w'.cell? ⟨gi, j * 9 + 8, none⟩ = some (.int .i64 (between (b + p) lo hi))) (T := [14]) (by kernel_rfl) ?_
              refine anyM_free (i := 0) (oi := { dst := some 86, op := _, type := _, pos := _, after := _, guard := _ }) (v := ?_) rfl (by kernel_rfl) (fun _ _ _ h => h) (Or.inl ⟨by kernel_rfl, ?_⟩) (fun _ => hS0) ?_
              rotate_left 1
              · (intro w hSw; (try dsimp only at hSw); go_simp; try with_reducible rfl)
              try simp only [Act.put, Array.toArray_toList, List.setIfInBounds_toArray, List.set_cons_zero, List.set_cons_succ]
              refine anyM_free (i := 1) (oi := { dst := some 87, op := _, type := _, pos := _, after := _, guard := _ }) (v := ?_) rfl (by kernel_rfl) (fun _ _ _ h => h) (Or.inl ⟨by kernel_rfl, ?_⟩) (fun _ => hS0) ?_
              rotate_left 1
              · (intro w hSw; (try dsimp only at hSw); go_simp; try with_reducible rfl)
              try simp only [Act.put, Array.toArray_toList, List.setIfInBounds_toArray, List.set_cons_zero, List.set_cons_succ]
              refine anyM_free (i := 2) (oi := { dst := some 88, op := _, type := _, pos := _, after := _, guard := _ }) (v := ?_) rfl (by kernel_rfl) (fun _ _ _ h => h) (Or.inl ⟨by kernel_rfl, ?_⟩) (fun _ => hS0) ?_
              rotate_left 1
              · (intro w hSw; (try dsimp only at hSw); go_simp; try with_reducible rfl)
              try simp only [Act.put, Array.toArray_toList, List.setIfInBounds_toArray, List.set_cons_zero, List.set_cons_succ]
              refine anyM_free (i := 3) (oi := { dst := some 89, op := _, type := _, pos := _, after := _, guard := _ }) (v := ?_) rfl (by kernel_rfl) (fun _ _ _ h => h) (Or.inl ⟨by kernel_rfl, ?_⟩) (fun _ => hS0) ?_
              rotate_left 1
              · (intro w hSw; (try dsimp only at hSw); go_simp; try with_reducible rfl)
              try simp only [Act.put, Array.toArray_toList, List.setIfInBounds_toArray, List.set_cons_zero, List.set_cons_succ]
              refine anyM_free (i := 4) (oi := { dst := some 90, op := _, type := _, pos := _, after := _, guard := _ }) (v := ?_) rfl (by kernel_rfl) (fun _ _ _ h => h) (Or.inl ⟨by kernel_rfl, ?_⟩) (fun _ => hS0) ?_
              rotate_left 1
              · (intro w hSw; (try dsimp only at hSw); go_simp; try with_reducible rfl)
              try simp only [Act.put, Array.toArray_toList, List.setIfInBounds_toArray, List.set_cons_zero, List.set_cons_succ]
              refine anyM_take (i := 5) (oi := { dst := some 91, op := _, type := _, pos := _, after := _, guard := _ }) (v := ?_) rfl (by kernel_rfl) (fun _ _ _ h => h) (Or.inl ⟨by kernel_rfl, ?_⟩) hS0 ?_
              rotate_left 1
              · (intro w hSw; (try dsimp only at hSw); go_simp; try with_reducible rfl)
              try simp only [Act.put, Array.toArray_toList, List.setIfInBounds_toArray, List.set_cons_zero, List.set_cons_succ]
              refine anyM_free (i := 6) (oi := { dst := some 92, op := _, type := _, pos := _, after := _, guard := _ }) (v := ?_) rfl (by kernel_rfl) (fun _ _ _ h => h) (Or.inl ⟨by kernel_rfl, ?_⟩) (fun _ => hS0) ?_
              rotate_left 1
              · (intro w hSw; (try dsimp only at hSw); go_simp; try with_reducible rfl)
              try simp only [Act.put, Array.toArray_toList, List.setIfInBounds_toArray, List.set_cons_zero, List.set_cons_succ]
              refine anyM_free (i := 7) (oi := { dst := some 93, op := _, type := _, pos := _, after := _, guard := _ }) (v := ?_) rfl (by kernel_rfl) (fun _ _ _ h => h) (Or.inl ⟨by kernel_rfl, ?_⟩) (fun _ => hS0) ?_
              rotate_left 1
              · (intro w hSw; (try dsimp only at hSw); go_simp; try with_reducible rfl)
              try simp only [Act.put, Array.toArray_toList, List.setIfInBounds_toArray, List.set_cons_zero, List.set_cons_succ]
              refine anyM_free (i := 8) (oi := { dst := some 94, op := _, type := _, pos := _, after := _, guard := _ }) (v := ?_) rfl (by kernel_rfl) (fun _ _ _ h => h) (Or.inl ⟨by kernel_rfl, ?_⟩) (fun _ => hS0) ?_
              rotate_left 1
              · (intro w hSw; (try dsimp only at hSw); go_simp; try with_reducible rfl)
              try simp only [Act.put, Array.toArray_toList, List.setIfInBounds_toArray, List.set_cons_zero, List.set_cons_succ]
              refine anyM_take (i := 9) (oi := { dst := some 95, op := _, type := _, pos := _, after := _, guard := _ }) (v := ?_) rfl (by kernel_rfl) (fun _ _ _ h => h) (Or.inl ⟨by kernel_rfl, ?_⟩) hS0 ?_
              rotate_left 1
              · (intro w hSw; (try dsimp only at hSw); go_simp; try with_reducible rfl)
              try simp only [Act.put, Array.toArray_toList, List.setIfInBounds_toArray, List.set_cons_zero, List.set_cons_succ]
              refine anyM_free (i := 10) (oi := { dst := some 96, op := _, type := _, pos := _, after := _, guard := _ }) (v := ?_) rfl (by kernel_rfl) (fun _ _ _ h => h) (Or.inl ⟨by kernel_rfl, ?_⟩) (fun _ => hS0) ?_
              rotate_left 1
              · (intro w hSw; (try dsimp only at hSw); go_simp; try with_reducible rfl)
              try simp only [Act.put, Array.toArray_toList, List.setIfInBounds_toArray, List.set_cons_zero, List.set_cons_succ]
              refine anyM_one (i := 11) (by kernel_rfl) rfl (fun K hK => ?_)
              go_simp
              refine (cut_calls _ _).mono ?_
              rintro e w' ⟨rfl, rfl⟩
              refine hK.out _ _ (fun _ => hS0) ?_
              clear hK K
              try simp only [Act.put, Array.toArray_toList, List.setIfInBounds_toArray, List.set_cons_zero, List.set_cons_succ]
              refine anyM_free (i := 12) (oi := { dst := some 98, op := _, type := _, pos := _, after := _, guard := _ }) (v := ?_) rfl (by kernel_rfl) (fun _ _ _ h => h) (Or.inl ⟨by kernel_rfl, ?_⟩) (fun _ => hS0) ?_
              rotate_left 1
              · (intro w hSw; (try dsimp only at hSw); go_simp; try with_reducible rfl)
              try simp only [Act.put, Array.toArray_toList, List.setIfInBounds_toArray, List.set_cons_zero, List.set_cons_succ]
              refine anyM_free (i := 13) (oi := { dst := some 99, op := _, type := _, pos := _, after := _, guard := _ }) (v := ?_) rfl (by kernel_rfl) (fun _ _ _ h => h) (Or.inl ⟨by kernel_rfl, ?_⟩) (fun _ => hS0) ?_
              rotate_left 1
              · (intro w hSw; (try dsimp only at hSw); go_simp; try with_reducible rfl)
              try simp only [Act.put, Array.toArray_toList, List.setIfInBounds_toArray, List.set_cons_zero, List.set_cons_succ]
              refine anyM_one (i := 14) (by kernel_rfl) rfl (fun K hK => ?_)
              go_simp
              refine hK.out _ _ (fun h => late_no h (by kernel_rfl)) ?_
              clear hK K
              try simp only [Act.put, Array.toArray_toList, List.setIfInBounds_toArray, List.set_cons_zero, List.set_cons_succ]
              refine anyM_done (by kernel_rfl) ?_ _
              refine NoPanic.normal ?_
              have hset := (hB.stored j (.int .i64 dd)).1
              rw [← HBYV.out, upK_set _ _ _ JJ.out.2, HBYV.out] at hset
              have hR := hR.far (b := gB) (j := j) (u := .int .i64 dd) (by omega) (by omega)
              have hP := own_setFar (b := gB) (j := j) (u := .int .i64 dd) hP (by simp [Value.ownBlock]; omega)
              have hbel := hbel.setCell (p := ⟨gB, j, none⟩) (show g0 ≤ gB by omega) (.int .i64 dd)
              have kd : (wy.setCell ⟨gB, j, none⟩ (.int .i64 dd)).cell? ⟨gB, j, none⟩ = some (.int .i64 dd) := (hset.cellAt j (by omega)).trans (by rw [upK_at _ _ _ _ JJ.out.2, if_pos (by omega), HBYV.out])
              have HR9 := Lib.hid hR
              have HP9 := Lib.hid hP
              have HB9 := Lib.hid hset
              have HL9 := Lib.hid hbel
              clear hR hP hB hset hbel hS0 kb zb m2 hc0 hc1 hv0 hv1
              go_wp2_with fail
              go_roundw
              case rel => exact ⟨j + 1, by have := JJ.out; omega, by go_num, by rw [HSUC.out, HBYV.out], HR9.out, HP9.out, HB9.out, HL9.out⟩
              case measure => have := JJ.out; simp [intOf]; omega
            · have hby : byF gw k xs st f j = 0 := HBYF.out
              have HK1 : Hid (isK st (isF gw k xs st f) (j + 1) = isK st (isF gw k xs st f) j) := isK_keep _ _ _ (by rw [HISF.out, ← HSE.out]; rfl)
              have HK2 : Hid (upK k (byF gw k xs st f) (j + 1) = upK k (byF gw k xs st f) j) := upK_keep _ _ _ hby
              have HS2 := Lib.hid (show sumTo (byF gw k xs st f) (j + 1) = c from by rw [HSUC.out, hby]; omega)
              clear hby hbyb tp
              go_wp2_with fail
              go_roundw
              case rel => exact ⟨j + 1, by have := JJ.out; omega, by go_num, by rw [HS2.out], by rw [HK1.out]; exact HR5.out, HP5.out, by rw [HK2.out]; exact HB5.out, HL5.out⟩
              case measure => have := JJ.out; simp [intOf]; omega
          · obtain rfl : j = k := by omega
            have u5 : wr.cell? ⟨gr, 1, none⟩ = some (.slice (some ⟨gi, 0, none⟩) j j) := hR.row.cell 1
            have HTURN : Hid (∀ i, i < j → stG (isK st (isF gw j xs st f) j) (fun i => goesF (sumTo (byF gw j xs st f) j) (byF gw j xs st f i)) j i = turnF gw j xs st f i) := by
              show ∀ i, _
              intro i hi
              unfold stG isK turnF
              rw [if_pos hi, if_pos hi]
              rfl
            have HRX := Lib.hid hR
            have HBX := Lib.hid hB
            have HLX := Lib.hid hbel
            clear hR hP hB hbel
            obtain ⟨A, hA⟩ : ∃ x, x = sumTo (byF gw j xs st f) j := ⟨_, rfl⟩
            rw [← hA] at HTURN ⊢
            clear hA
            go_wp2_with fail
            clear u5
            go_loopw [112] (fun i wr => ∃ q : Nat, q ≤ j ∧ i = .int .i64 q ∧ RowAt wr g0 gr gi j room gw xs (stG (isK st (isF gw j xs st f) j) (fun i => goesF A (byF gw j xs st f i)) q) ∧ wr.ownsRow gB 3 1 (.slice (some ⟨gB, 0, none⟩) j j) j (ints (upK j (byF gw j xs st f) j)) ∧ Below g0 w wr) (fun i _ => j - (intOf i).toNat)
            case atStart => exact ⟨0, Nat.zero_le _, rfl, by rw [stG_zero]; exact HRX.out, HBX.out, HLX.out⟩
            case round =>
              obtain ⟨q, hq, rfl, hR, hB, hbel⟩ := hrel
              by_cases hlt3 : q < j
              · have tb : wr.cell? ⟨gB, q, none⟩ = some (.int .i64 (byF gw j xs st f q)) := (hB.cellAt q (by omega)).trans (by rw [upK_at _ _ _ _ hlt3, if_pos hlt3])
                have u6 : wr.cell? ⟨gr, 1, none⟩ = some (.slice (some ⟨gi, 0, none⟩) j j) := hR.row.cell 1
                obtain ⟨sd7, hsd7⟩ : ∃ x, x = (stG (isK st (isF gw j xs st f) j) (fun i => goesF A (byF gw j xs st f i)) q q).settled := ⟨_, rfl⟩
                have t7 : wr.cell? ⟨gi, q * 9 + 7, none⟩ = some (.bool sd7) := hR.at hlt3 7 _ (by rw [hsd7]; rfl)
                have z7 : wr.frozen? ⟨gi, q * 9 + 7, none⟩ = false := own_free hR.own
                obtain ⟨B, hBB⟩ : ∃ x, x = byF gw j xs st f q := ⟨_, rfl⟩
                rw [← hBB] at tb
                have HGO : Hid (goesF A B = (fun i => goesF A (byF gw j xs st f i)) q) := by show _ = _; rw [hBB]
                have QQ := Lib.hid (show q ≤ j ∧ q < j from ⟨hq, hlt3⟩)
                have HR9 := Lib.hid hR
                have HB9 := Lib.hid hB
                have HL9 := Lib.hid hbel
                clear hR hB hbel hBB hsd7
                rcases Int.lt_trichotomy A 0 with ha | ha | ha
                · have e0 : (A == 0) = false := by simp; omega
                  have ha2 : decide (0 < A) = false := by simp; omega
                  by_cases hb0 : B < 0
                  · have hgo : goesF A B = true := by unfold goesF; simp [ha, hb0]
                    have HST := Lib.hid ((HR9.out.settle QQ.out.2).congr (fun i hi => stG_step _ _ _ i (HGO.out.symm.trans hgo)))
                    have HS3 := Lib.hid (own_setFar (b := gi) (j := q * 9 + 7) (u := .bool true) HB9.out (by simp [Value.ownBlock]; omega))
                    have HL3 := Lib.hid (HL9.out.setCell (p := ⟨gi, q * 9 + 7, none⟩) hlow0 (.bool true))
                    clear hgo
                    go_wp2_with fail
                    go_roundw
                    case rel => exact ⟨q + 1, by have := QQ.out; omega, by go_num, HST.out, HS3.out, HL3.out⟩
                    case measure => have := QQ.out; simp [intOf]; omega
                  · have hgo : goesF A B = false := by unfold goesF; simp [hb0]; omega
                    have hb1 : decide (B < 0) = false := by simp; omega
                    have HKE := Lib.hid (stG_keep (isK st (isF gw j xs st f) j) (fun i => goesF A (byF gw j xs st f i)) q (HGO.out.symm.trans hgo))
                    clear hgo
                    go_wp2_with fail
                    go_roundw
                    case rel => exact ⟨q + 1, by have := QQ.out; omega, by go_num, by rw [HKE.out]; exact HR9.out, HB9.out, HL9.out⟩
                    case measure => have := QQ.out; simp [intOf]; omega
                · have hgo : goesF A B = true := by unfold goesF; simp [ha]
                  have e0 : (A == 0) = true := by simp [ha]
                  have HST := Lib.hid ((HR9.out.settle QQ.out.2).congr (fun i hi => stG_step _ _ _ i (HGO.out.symm.trans hgo)))
                  have HS3 := Lib.hid (own_setFar (b := gi) (j := q * 9 + 7) (u := .bool true) HB9.out (by simp [Value.ownBlock]; omega))
                  have HL3 := Lib.hid (HL9.out.setCell (p := ⟨gi, q * 9 + 7, none⟩) hlow0 (.bool true))
                  clear hgo
                  go_wp2_with fail
                  go_roundw
                  case rel => exact ⟨q + 1, by have := QQ.out; omega, by go_num, HST.out, HS3.out, HL3.out⟩
                  case measure => have := QQ.out; simp [intOf]; omega
                · have e0 : (A == 0) = false := by simp; omega
                  by_cases hb0 : 0 < B
                  · have hgo : goesF A B = true := by unfold goesF; simp [ha, hb0]
                    have HST := Lib.hid ((HR9.out.settle QQ.out.2).congr (fun i hi => stG_step _ _ _ i (HGO.out.symm.trans hgo)))
                    have HS3 := Lib.hid (own_setFar (b := gi) (j := q * 9 + 7) (u := .bool true) HB9.out (by simp [Value.ownBlock]; omega))
                    have HL3 := Lib.hid (HL9.out.setCell (p := ⟨gi, q * 9 + 7, none⟩) hlow0 (.bool true))
                    clear hgo
                    go_wp2_with fail
                    go_roundw
                    case rel => exact ⟨q + 1, by have := QQ.out; omega, by go_num, HST.out, HS3.out, HL3.out⟩
                    case measure => have := QQ.out; simp [intOf]; omega
                  · have hgo : goesF A B = false := by unfold goesF; simp [hb0]; omega
                    have hb1 : decide (0 < B) = false := by simp; omega
                    have ha2 : decide (A < 0) = false := by simp; omega
                    have HKE := Lib.hid (stG_keep (isK st (isF gw j xs st f) j) (fun i => goesF A (byF gw j xs st f i)) q (HGO.out.symm.trans hgo))
                    clear hgo
                    go_wp2_with fail
                    go_roundw
                    case rel => exact ⟨q + 1, by have := QQ.out; omega, by go_num, by rw [HKE.out]; exact HR9.out, HB9.out, HL9.out⟩
                    case measure => have := QQ.out; simp [intOf]; omega
              · obtain rfl : q = j := by omega
                have HRE := Lib.hid (hR.congr HTURN.out)
                clear hR hB
                go_wp2_with fail
                go_end0
                exact ⟨rfl, HRE.out, hbel⟩

end Go.Proofs.Ytpinfaoeggipmaa
