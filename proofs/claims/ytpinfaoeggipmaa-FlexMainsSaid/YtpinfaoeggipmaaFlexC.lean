/- Contract of flex's parts. -/
import Derived.Test.YtpinfaoeggipmaaFlexB
namespace Go.Proofs.Ytpinfaoeggipmaa
open Go.RowKit
set_option linter.unusedVariables false
set_option linter.unusedSimpArgs false
attribute [local go_sem high] run_min2 run_max2

/-- The first k of a list of numbers; the others 0. -/
def upK (n : Nat) (f : Nat → Int) (k : Nat) : List Int := (List.range n).map (fun i => if i < k then f i else 0)
theorem upK_len (n : Nat) (f : Nat → Int) (k : Nat) : (upK n f k).length = n := by simp [upK]
theorem upK_set (n : Nat) (f : Nat → Int) (k : Nat) (hk : k < n) : (ints (upK n f k)).set k (.int .i64 (f k)) = ints (upK n f (k + 1)) := by
  unfold ints upK
  apply List.ext_getElem
  · simp
  · intro i h1 h2
    simp only [List.getElem_set, List.getElem_map, List.getElem_range]
    by_cases e : k = i
    · subst e; rw [if_pos rfl, if_pos (by omega)]
    · rw [if_neg e]
      by_cases e2 : i < k
      · rw [if_pos e2, if_pos (by omega)]
      · rw [if_neg e2, if_neg (by omega)]
theorem upK_keep (n : Nat) (f : Nat → Int) (k : Nat) (h : f k = 0) : upK n f (k + 1) = upK n f k := by
  unfold upK
  apply List.map_congr_left
  intro i _
  by_cases e : i = k
  · subst e; rw [if_pos (by omega), if_neg (by omega), h]
  · by_cases e2 : i < k
    · rw [if_pos e2, if_pos (by omega)]
    · rw [if_neg e2, if_neg (by omega)]
theorem upK_zero (n : Nat) (f : Nat → Int) : upK n f 0 = List.replicate n 0 := by
  apply List.ext_getElem
  · simp [upK]
  · intro i h1 h2; simp [upK]
theorem upK_all (n : Nat) (f : Nat → Int) : upK n f n = (List.range n).map f := by
  unfold upK
  apply List.map_congr_left
  intro i hi
  rw [if_pos (by simpa using hi)]
theorem upK_at (n : Nat) (f : Nat → Int) (k j : Nat) (hj : j < n) : (ints (upK n f k))[j]? = some (.int .i64 (if j < k then f j else 0)) := by
  simp [ints, upK, hj]
theorem made_zero (n : Nat) (f : Nat → Int) : (madeCells (Value.int IntKind.i64 0).cells (n * 1)).toList = ints (upK n f 0) := by
  rw [upK_zero]
  show (madeCells #[Value.int IntKind.i64 0] (n * 1)).toList = _
  rw [toList_madeCells_one]
  simp [ints]
/-- The first k turned round. -/
def negK (l : List Int) (k : Nat) : List Int := (List.range l.length).map (fun i => if i < k then -(l.getD i 0) else l.getD i 0)
theorem negK_zero (l : List Int) : negK l 0 = l := by
  apply List.ext_getElem
  · simp [negK]
  · intro i h1 h2; simp [negK, List.getD, h2]
theorem negK_all (l : List Int) : negK l l.length = l.map (fun x => -x) := by
  apply List.ext_getElem
  · simp [negK]
  · intro i h1 h2
    have : i < l.length := by simpa [negK] using h1
    simp [negK, List.getD, this]
theorem negK_at (l : List Int) (k j : Nat) (hj : j < l.length) : (ints (negK l k))[j]? = some (.int .i64 (if j < k then -(l.getD j 0) else l.getD j 0)) := by
  simp [ints, negK, hj]
theorem negK_set (l : List Int) (k : Nat) (hk : k < l.length) : (ints (negK l k)).set k (.int .i64 (-(l.getD k 0))) = ints (negK l (k + 1)) := by
  unfold ints negK
  apply List.ext_getElem
  · simp
  · intro i h1 h2
    simp only [List.getElem_set, List.getElem_map, List.getElem_range]
    by_cases e : k = i
    · subst e; rw [if_pos rfl, if_pos (by omega)]
    · rw [if_neg e]
      by_cases e2 : i < k
      · rw [if_pos e2, if_pos (by omega)]
      · rw [if_neg e2, if_neg (by omega)]
theorem own_tight {w : World} {base : Nat} {e : TypeId} {size n g cap : Nat} {xs : List Value} (h : w.ownsRow base e size (.slice (some ⟨g, 0, none⟩) n cap) n xs) : w.ownsRow g e size (.slice (some ⟨g, 0, none⟩) n cap) n xs := by
  refine ⟨h.1, ?_⟩
  rcases h.2 with ⟨h1, _⟩ | ⟨g', cap', cur, hv, h1, h2⟩
  · cases h1
  · injection hv with hv1 hv2 hv3
    injection hv1 with hv1
    injection hv1 with hv1
    subst hv1; subst hv3
    exact .inr ⟨g, cap, cur, rfl, Nat.le_refl _, h2⟩
set_option maxRecDepth 100000 in
set_option maxHeartbeats 4000000 in
theorem parts_calls (g0 gr gi n : Nat) (room f : Int) (gw : Bool) (xs : Nat → FlexV) (st : Nat → FxSt) (w : World) (h : RowAt w g0 gr gi n room gw xs st) (hx : ∀ i, FxOk (xs i)) (hn : n ≤ 1000) (hf : -68719476736000 ≤ f ∧ f ≤ 68719476736000) :
    Calls Try.prog 94 #[.pointer (some ⟨gr, 0, none⟩), .int .i64 f] w fun e w' => ∃ A c, e = .returned (.slice (some ⟨A, 0, none⟩) n c) ∧ w'.ownsRow w.heap.size 3 1 (.slice (some ⟨A, 0, none⟩) n c) n (ints (partsF gw n xs st f)) ∧ Below w.heap.size w w' := by
  obtain ⟨i0, hi, hz0, hz1, hz2⟩ := info_parts info_int
  have q1 : w.cell? ⟨gr, 1, none⟩ = some (.slice (some ⟨gi, 0, none⟩) n n) := h.row.cell 1
  have H := Lib.hid h
  have HX := Lib.hid hx
  obtain ⟨f0, f1⟩ := hf
  clear h hx
  go_enter Try.func94, Try.ntmps94
  go_wp2_with (at_make; refine wpList_make_full _ rfl (.tmp 14) (.tmp 14) 22 rfl w.heap.size 3 i0 (.int .i64 0) 1 Try.underlying22 hi hz0 hz1 .i64 .i64 _ _ n rfl rfl rfl rfl (by rw [hz2]; omega) (by unfold maxLen; omega) (by simp) ?_; intro w2 hown hg; have hb2 := below_made (Below.refl _ w) hg; have q1 : w2.cell? ⟨gr, 1, none⟩ = some (.slice (some ⟨gi, 0, none⟩) n n) := (H.out.row.below hb2 H.out.row.lt).cell 1)
  obtain ⟨gW, hgW⟩ : ∃ g, g = w.heap.size := ⟨_, rfl⟩
  rw [made_zero n (fun i => wtF gw (xs i) (st i)), ← hgW] at hown
  have hgW0 : w.heap.size ≤ gW := by omega
  have HO := Lib.hid hown
  have HB2 := Lib.hid hb2
  rw [← hgW]
  clear hown hg hb2 q1 hgW
  go_loopw [21] (fun i wr => ∃ k : Nat, k ≤ n ∧ i = .int .i64 k ∧ wr.ownsRow gW 3 1 (.slice (some ⟨gW, 0, none⟩) n n) n (ints (upK n (fun i => wtF gw (xs i) (st i)) k)) ∧ Below w.heap.size w wr) (fun i _ => n - (intOf i).toNat)
  case atStart => exact ⟨0, Nat.zero_le _, rfl, HO.out, HB2.out⟩
  case round =>
    obtain ⟨k, hk, rfl, hown, hbel⟩ := hrel
    have hw := hbel.size
    have hR := H.out.below hbel
    have u1 : wr.cell? ⟨gr, 1, none⟩ = some (.slice (some ⟨gi, 0, none⟩) n n) := hR.row.cell 1
    by_cases hlt : k < n
    · skip
      have hat := hR.at hlt
      have hxk := HX.out k
      obtain ⟨⟨b, lo, hi, g, s, e⟩, hxe⟩ : ∃ x, x = xs k := ⟨_, rfl⟩
      obtain ⟨⟨sd, is⟩, hse⟩ : ∃ x, x = st k := ⟨_, rfl⟩
      obtain ⟨lg, hle⟩ : ∃ x, x = long (xs k) := ⟨_, rfl⟩
      unfold frow at hat
      rw [← hle, ← hxe, ← hse] at hat
      rw [← hxe] at hxk
      have t0 : wr.cell? ⟨gi, k * 9, none⟩ = some (.int .i64 b) := hat 0 _ rfl
      have t1 : wr.cell? ⟨gi, k * 9 + 1, none⟩ = some (.int .i64 lo) := hat 1 _ rfl
      have t2 : wr.cell? ⟨gi, k * 9 + 2, none⟩ = some (.int .i64 hi) := hat 2 _ rfl
      have t3 : wr.cell? ⟨gi, k * 9 + 3, none⟩ = some (.int .i64 g) := hat 3 _ rfl
      have t4 : wr.cell? ⟨gi, k * 9 + 4, none⟩ = some (.int .i64 s) := hat 4 _ rfl
      have t5 : wr.cell? ⟨gi, k * 9 + 5, none⟩ = some (.int .i64 e) := hat 5 _ rfl
      have t6 : wr.cell? ⟨gi, k * 9 + 6, none⟩ = some (.int .i64 lg) := hat 6 _ rfl
      have t7 : wr.cell? ⟨gi, k * 9 + 7, none⟩ = some (.bool sd) := hat 7 _ rfl
      have t8 : wr.cell? ⟨gi, k * 9 + 8, none⟩ = some (.int .i64 is) := hat 8 _ rfl
      have HWT : Hid (wtF gw (xs k) (st k) = if sd then 0 else if gw then g else part s (max 0 b) 64) := by show _ = _; rw [← hxe, ← hse]; rfl
      have ho := hown.cellAt k (by omega)
      rw [upK_at _ _ _ _ hlt, if_neg (by omega)] at ho
      have ho2 : (wr.alloc (.cells #[.int .i64 b, .int .i64 lo, .int .i64 hi, .int .i64 g, .int .i64 s, .int .i64 e, .int .i64 lg, .bool sd, .int .i64 is] 103)).cell? ⟨gW, k, none⟩ = some (.int .i64 0) := ((hown.alloc (.cells #[.int .i64 b, .int .i64 lo, .int .i64 hi, .int .i64 g, .int .i64 s, .int .i64 e, .int .i64 lg, .bool sd, .int .i64 is] 103)).cellAt k (by omega)).trans (by rw [upK_at _ _ _ _ hlt, if_neg (by omega)])
      have hf2 := (hown.alloc (.cells #[.int .i64 b, .int .i64 lo, .int .i64 hi, .int .i64 g, .int .i64 s, .int .i64 e, .int .i64 lg, .bool sd, .int .i64 is] 103)).frozenAt k
      have u2 : (wr.alloc (.cells #[.int .i64 b, .int .i64 lo, .int .i64 hi, .int .i64 g, .int .i64 s, .int .i64 e, .int .i64 lg, .bool sd, .int .i64 is] 103)).cell? ⟨gr, 2, none⟩ = some (.bool gw) := (hR.row.alloc _).cell 2
      have HOW := Lib.hid (hown.alloc (.cells #[.int .i64 b, .int .i64 lo, .int .i64 hi, .int .i64 g, .int .i64 s, .int .i64 e, .int .i64 lg, .bool sd, .int .i64 is] 103))
      have HB3 := Lib.hid (below_alloc hbel (.cells #[.int .i64 b, .int .i64 lo, .int .i64 hi, .int .i64 g, .int .i64 s, .int .i64 e, .int .i64 lg, .bool sd, .int .i64 is] 103))
      have KK := Lib.hid (show k ≤ n ∧ k < n from ⟨hk, hlt⟩)
      obtain ⟨b0, b1, _, _, _, _, g1, g2, s1, s2, _, _⟩ := hxk
      simp only at b0 b1 g1 g2 s1 s2
      clear hat hxe hse hle hR hbel hown u1 ho
      cases sd
      · cases gw
        · have hset := HOW.out.stored k (.int .i64 (part s (max 0 b) 64))
          rw [show part s (max 0 b) 64 = wtF false (xs k) (st k) from HWT.out.symm, upK_set n (fun i => wtF false (xs i) (st i)) k KK.out.2] at hset
          rw [HWT.out] at hset
          have HST := Lib.hid hset.1
          clear hset
          go_wp2_with (go_at_call 21; refine (part_calls _ _ _ _).mono ?_; rintro e w' ⟨rfl, rfl⟩)
          go_roundw
          case rel => exact ⟨k + 1, by have := KK.out; omega, by go_num, HST.out, below_set HB3.out hgW0 _⟩
          case measure => have := KK.out; simp [intOf]; omega
        · have hset := HOW.out.stored k (.int .i64 g)
          rw [show g = wtF true (xs k) (st k) from HWT.out.symm, upK_set n (fun i => wtF true (xs i) (st i)) k KK.out.2] at hset
          rw [HWT.out] at hset
          have HST := Lib.hid hset.1
          clear hset
          go_wp2_with fail
          go_roundw
          case rel => exact ⟨k + 1, by have := KK.out; omega, by go_num, HST.out, below_set HB3.out hgW0 _⟩
          case measure => have := KK.out; simp [intOf]; omega
      · have HK : Hid (upK n (fun i => wtF gw (xs i) (st i)) (k + 1) = upK n (fun i => wtF gw (xs i) (st i)) k) := upK_keep _ _ _ HWT.out
        go_wp2_with fail
        go_roundw
        case rel => exact ⟨k + 1, by have := KK.out; omega, by go_num, by rw [HK.out]; exact HOW.out, HB3.out⟩
        case measure => have := KK.out; simp [intOf]; omega
    · obtain rfl : k = n := by omega
      rw [upK_all] at hown
      have u2 : wr.cell? ⟨gr, 2, none⟩ = some (.bool gw) := hR.row.cell 2
      have hH := Holds.of_own hown
      have hl : ((List.range k).map (fun i => wtF gw (xs i) (st i))).length = k := by simp
      have HSH := Lib.hid (fun x => share_own x (some ⟨gW, 0, none⟩) k k wr.heap.size _ wr hl hH (Nat.le_refl _) (by omega))
      clear hown hH hl hR
      cases gw
      · have hsb := fun i => share_getD (max 0 (-f)) ((List.range k).map (fun i => wtF false (xs i) (st i))) i
        have HL : Hid ((share (max 0 (-f)) ((List.range k).map (fun i => wtF false (xs i) (st i)))).length = k) := by show _ = _; simp [share_length]
        have HP : Hid (partsF false k xs st f = (share (max 0 (-f)) ((List.range k).map (fun i => wtF false (xs i) (st i)))).map (fun x => -x)) := rfl
        have HSH := Lib.hid (HSH.out (max 0 (-f)))
        obtain ⟨P, hP⟩ : ∃ P, P = share (max 0 (-f)) ((List.range k).map (fun i => wtF false (xs i) (st i))) := ⟨_, rfl⟩
        rw [← hP] at hsb HL HSH HP
        have HSB := Lib.hid hsb
        clear hP hsb
        go_wp2_with (go_at_call 28; refine HSH.out.mono ?_; rintro e w3 ⟨gP, rfl, hown, hb3⟩; have hbel := below_then hbel hb3)
        have hgP := (hown.lt gP rfl).1
        have hgPw : w.heap.size ≤ gP := by omega
        have HO3 := Lib.hid hown
        have HB3 := Lib.hid hbel
        clear hown hbel hb3 u1 u2
        go_loopw [67] (fun i wr => ∃ j : Nat, j ≤ k ∧ i = .int .i64 j ∧ wr.ownsRow gP 3 1 (.slice (some ⟨gP, 0, none⟩) k k) k (ints (negK P j)) ∧ Below w.heap.size w wr) (fun i _ => k - (intOf i).toNat)
        case atStart => exact ⟨0, Nat.zero_le _, rfl, by rw [negK_zero]; exact own_tight HO3.out, HB3.out⟩
        case round =>
          obtain ⟨j, hj, rfl, hown, hbel⟩ := hrel
          by_cases hlt2 : j < k
          · have hjl : j < P.length := by rw [HL.out]; exact hlt2
            have ho := hown.cellAt j (by omega)
            rw [negK_at _ _ _ hjl, if_neg (by omega)] at ho
            have hfz := hown.frozenAt j
            have hset := hown.stored j (.int .i64 (-(P.getD j 0)))
            rw [negK_set _ _ hjl] at hset
            have hb := HSB.out j
            have HST := Lib.hid hset.1
            have HBB := Lib.hid hbel
            have JJ := Lib.hid (show j ≤ k ∧ j < k from ⟨hj, hlt2⟩)
            obtain ⟨p, hp⟩ : ∃ p, p = P.getD j 0 := ⟨_, rfl⟩
            rw [← hp] at ho hb HST
            obtain ⟨p0, p1⟩ := hb
            clear hp hset hown hbel hjl
            go_wp2_with fail
            go_roundw
            case rel => exact ⟨j + 1, by have := JJ.out; omega, by go_num, HST.out, below_set HBB.out (by omega) _⟩
            case measure => have := JJ.out; simp [intOf]; omega
          · obtain rfl : j = k := by omega
            have e : negK P j = P.map (fun x => -x) := by rw [← negK_all, HL.out]
            rw [e] at hown
            have HH := Lib.hid (own_low hown hgPw)
            clear hown e
            go_wp2_with fail
            go_ret
            exact ⟨_, _, rfl, by rw [HP.out]; exact HH.out, hbel⟩
      · have HP : Hid (partsF true k xs st f = share (max 0 f) ((List.range k).map (fun i => wtF true (xs i) (st i)))) := rfl
        have HSH := Lib.hid (HSH.out (max 0 f))
        go_wp2_with (go_at_call 28; refine HSH.out.mono ?_; rintro e w3 ⟨gP, rfl, hown, hb3⟩; have hbel := below_then hbel hb3)
        go_ret
        exact ⟨_, _, rfl, by rw [HP.out]; exact own_low hown hw, hbel⟩
end Go.Proofs.Ytpinfaoeggipmaa
