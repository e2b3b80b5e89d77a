/- flexed; contracts of flex's Rows and of the reference's; the walk of FlexRows. -/
import Derived.Test.YtpinfaoeggipmaaFlexE
namespace Go.Proofs.Ytpinfaoeggipmaa
open Go.RowKit
set_option linter.unusedVariables false
set_option linter.unusedSimpArgs false
attribute [local go_sem high] run_min2 run_max2

theorem flexed_list : mainsF 100 10 [⟨20, 0, -1, 1000, 0, 0⟩, ⟨20, 0, -1, 2000, 0, 0⟩] = [36, 54] := by decide +kernel
theorem holds_cells {w : World} {g : Nat} {t : TypeId} {cs : List Value} (h : Blk w g t cs.toArray) : Holds w w.heap.size (some ⟨g, 0, none⟩) cs := fun _ => ⟨g, 0, rfl, h.lt, fun j hj => by
  rw [Nat.zero_add, h.cell]
  simp [List.getD, hj]⟩
set_option maxRecDepth 100000 in
set_option maxHeartbeats 1000000 in
theorem flexed_calls (w : World) :
    Calls Try.prog 51 #[] w fun e w' => e = .returned (.bool true) ∧ Below w.heap.size w w' := by
  have hb := Blk.new w 95 #[.int .i64 20, .int .i64 0, .int .i64 (-1), .int .i64 1000, .int .i64 0, .int .i64 0, .int .i64 20, .int .i64 0, .int .i64 (-1), .int .i64 2000, .int .i64 0, .int .i64 0]
  have hl : Holds (w.alloc (.cells #[.int .i64 20, .int .i64 0, .int .i64 (-1), .int .i64 1000, .int .i64 0, .int .i64 0, .int .i64 20, .int .i64 0, .int .i64 (-1), .int .i64 2000, .int .i64 0, .int .i64 0] 95)) (w.heap.size + 1) (some ⟨w.heap.size, 0, none⟩) (([⟨20, 0, -1, 1000, 0, 0⟩, ⟨20, 0, -1, 2000, 0, 0⟩] : List FlexV).flatMap flexF) := by
    have := holds_cells (cs := #[.int .i64 20, .int .i64 0, .int .i64 (-1), .int .i64 1000, .int .i64 0, .int .i64 0, .int .i64 20, .int .i64 0, .int .i64 (-1), .int .i64 2000, .int .i64 0, .int .i64 0].toList) hb
    rw [alloc_size] at this
    exact this
  have HM := Lib.hid (mains_calls 100 10 (some ⟨w.heap.size, 0, none⟩) 2 2 (w.heap.size + 1) _ (w.alloc (.cells #[.int .i64 20, .int .i64 0, .int .i64 (-1), .int .i64 1000, .int .i64 0, .int .i64 0, .int .i64 20, .int .i64 0, .int .i64 (-1), .int .i64 2000, .int .i64 0, .int .i64 0] 95)) rfl hl (by simp) (by omega))
  rw [flexed_list] at HM
  have hbel := below_alloc (Below.refl _ w) (.cells #[.int .i64 20, .int .i64 0, .int .i64 (-1), .int .i64 1000, .int .i64 0, .int .i64 0, .int .i64 20, .int .i64 0, .int .i64 (-1), .int .i64 2000, .int .i64 0, .int .i64 0] 95)
  clear hb hl
  go_enter Try.func51, Try.ntmps51
  go_wp2_with (go_at_call 52; refine HM.out.mono ?_; rintro e w1 ⟨v, rfl, hv, hb1⟩; have hbel := below_then hbel hb1; obtain ⟨A1, c1, rfl⟩ := own_open hv; have h1 := Holds.of_own (hv.alloc (.cells #[.int .i64 36, .int .i64 54] 3)); have h2 := holds_cells (cs := ints [36, 54]) (Blk.new w1 3 #[.int .i64 36, .int .i64 54]); have hbel := below_alloc hbel (.cells #[.int .i64 36, .int .i64 54] 3); have HE := Lib.hid (eqInt_calls A1 (some ⟨w1.heap.size, 0, none⟩) 2 c1 2 _ _ [36, 54] (w1.alloc (.cells #[.int .i64 36, .int .i64 54] 3)) rfl h1 h2 (by omega)); clear h1 h2 hv)
  refine HE.out.mono ?_
  rintro e w' ⟨rfl, rfl⟩
  go_wp2_with fail
  go_ret
  exact ⟨rfl, hbel⟩
theorem far_ne {g n c : Nat} {x : Option Nat} (h : (Value.slice (some ⟨g, 0, none⟩) n c).ownBlock = none ∨ (Value.slice (some ⟨g, 0, none⟩) n c).ownBlock ≠ x) : (Value.slice (some ⟨g, 0, none⟩) n c).ownBlock ≠ x := by
  rcases h with h | h
  · exact absurd h (by simp [Value.ownBlock])
  · exact h
theorem incLast_ints (out : List Int) (h : 0 < out.length) : (ints out).set (out.length - 1) (.int .i64 (out.getD (out.length - 1) 0 + 1)) = ints (incLast out) := by
  obtain ⟨l, x, rfl⟩ : ∃ l x, out = l ++ [x] := ⟨out.dropLast, out.getLast (by intro e; subst e; simp at h), (List.dropLast_concat_getLast _).symm⟩
  simp [incLast, ints, List.getD]
theorem incLast_last (out : List Int) (h : 0 < out.length) : out.getD (out.length - 1) 0 = out.getLastD 0 := by
  obtain ⟨l, x, rfl⟩ : ∃ l x, out = l ++ [x] := ⟨out.dropLast, out.getLast (by intro e; subst e; simp at h), (List.dropLast_concat_getLast _).symm⟩
  simp [List.getD]
theorem incLast_bd (out : List Int) (k : Int) (h : ∀ x ∈ out, 0 ≤ x ∧ x ≤ k) (h0 : 0 < out.length) : ∀ x ∈ incLast out, 0 ≤ x ∧ x ≤ k + 1 := by
  obtain ⟨l, y, rfl⟩ : ∃ l x, out = l ++ [x] := ⟨out.dropLast, out.getLast (by intro e; subst e; simp at h0), (List.dropLast_concat_getLast _).symm⟩
  intro x hx
  have hy := h y (by simp)
  simp [incLast] at hx
  rcases hx with hx | hx
  · have := h x (by simp [hx]); omega
  · omega
theorem getD_bd (out : List Int) (k : Int) (h : ∀ x ∈ out, 0 ≤ x ∧ x ≤ k) (j : Nat) (hj : j < out.length) : 0 ≤ out.getD j 0 ∧ out.getD j 0 ≤ k := by
  have : out.getD j 0 = out[j] := by simp [List.getD, hj]
  rw [this]; exact h _ (List.getElem_mem hj)
/-- The state behind k items. -/
def RowsRel (room gap : Int) (wraps : Bool) (n : Nat) (l : List FlexV) (T : List Int) (w : World) (v9 v10 i : Value) (wr : World) : Prop :=
  ∃ (k : Nat) (out : List Int) (sum : Int), k ≤ n ∧ i = .int .i64 k ∧ v10 = .int .i64 sum ∧ rowsGo room gap wraps (l.drop k) sum out = T ∧ out.length ≤ k ∧ (0 < k → 0 < out.length) ∧ (∀ x ∈ out, 0 ≤ x ∧ x ≤ (k : Int)) ∧ -50331648 * (k : Int) ≤ sum ∧ sum ≤ 50331648 * (k : Int) ∧
    wr.ownsRow w.heap.size 3 1 v9 out.length (ints out) ∧ Below w.heap.size w wr
theorem drop_flex (l : List FlexV) (k : Nat) (h : k < l.length) : l.drop k = l.getD k FlexV.zero :: l.drop (k + 1) := by
  rw [List.drop_eq_getElem_cons h]; simp [List.getD, h]
set_option maxRecDepth 100000 in
set_option maxHeartbeats 4000000 in
theorem rows_calls (room gap : Int) (wraps : Bool) (A : Option Addr) (n c B : Nat) (l : List FlexV) (w : World) (hn : l.length = n) (h : Holds w B A (l.flatMap flexF)) (hB : B ≤ w.heap.size) (hm : n ≤ 1000) :
    Calls Try.prog 54 #[.int .i64 room, .int .i64 gap, .slice A n c, .bool wraps] w fun e w' => ∃ v, e = .returned v ∧ w'.ownsRow w.heap.size 3 1 v (rowsGo (cut room) (max 0 (cut gap)) wraps l 0 []).length (ints (rowsGo (cut room) (max 0 (cut gap)) wraps l 0 [])) ∧ Below w.heap.size w w' := by
  obtain ⟨i0, hi0, hz0, hz1, hz2⟩ := info_parts info_int
  have HI := Lib.hid (items_calls A n c B l w hn h hB hm)
  have HN := Lib.hid hn
  have hr0 := cut_lo room
  have hr1 := cut_hi room
  have hgp := cut_hi gap
  obtain ⟨R, hR⟩ : ∃ x, x = cut room := ⟨_, rfl⟩
  obtain ⟨G, hG⟩ : ∃ x, x = max 0 (cut gap) := ⟨_, rfl⟩
  rw [← hR, ← hG]
  have hG0 : 0 ≤ G ∧ G ≤ 16777216 := by omega
  rw [← hR] at hr0 hr1
  obtain ⟨G0, G1⟩ := hG0
  have HRC := Lib.hid (fun w => cut_calls room w)
  rw [← hR] at HRC
  have hG' : max 0 (cut gap) = G := hG.symm
  obtain ⟨T, hT⟩ : ∃ T, T = rowsGo R G wraps l 0 [] := ⟨_, rfl⟩
  rw [← hT]
  have HT := Lib.hid hT
  clear h hn hR hG hT hgp
  go_enter Try.func54, Try.ntmps54
  go_wp2_with (first | (go_at_call 19; first | ((with_reducible refine (HRC.out _).mono ?_); rintro e w' ⟨rfl, rfl⟩) | (refine (cut_calls _ _).mono ?_; rintro e w' ⟨rfl, rfl⟩)) | (go_at_call 72; refine HI.out.mono ?_; rintro e w1 ⟨gi, rfl, hown, hb1⟩))
  have HIT := Lib.hid (own_tight hown)
  have hgi := (hown.lt gi rfl).1
  have hgl := (hown.lt gi rfl).2
  have HB1 := Lib.hid hb1
  clear hown hG'
  obtain ⟨W1, hW1⟩ : ∃ x, x = w1.heap.size := ⟨_, rfl⟩
  go_loopw [9, 10, 22] (fun v9 v10 i wr => RowsRel R G wraps n l T w v9 v10 i wr ∧ wr.ownsRow gi 103 9 (.slice (some ⟨gi, 0, none⟩) n n) n (rows n (itemRow l n))) (fun _ _ i _ => n - (intOf i).toNat)
  case atStart => exact ⟨⟨0, [], 0, Nat.zero_le _, rfl, rfl, HT.out.symm, Nat.le_refl _, (fun h => by omega), (fun x hx => by cases hx), by omega, by omega, World.ownsRow_nil _ _ _ _, HB1.out⟩, HIT.out⟩
  case round =>
    obtain ⟨⟨k, out, sum, hk, rfl, rfl, hgo, hlen, hpos, hall, hs0, hs1, hown, hbel⟩, hit⟩ := hrel
    have hw := hbel.size
    obtain ⟨A9, c9, rfl⟩ := own_open hown
    by_cases hlt : k < n
    · have hat : ∀ j u, (itemRow l n k)[j]? = some u → wr.cell? ⟨gi, k * 9 + j, none⟩ = some u := fun j u hu => own_rowAt (itemRow_len l n) hit hlt hu
      unfold itemRow at hat
      rw [if_pos hlt] at hat
      rw [drop_flex l k (by rw [HN.out]; exact hlt)] at hgo
      have hok := fxb_ok (l.getD k FlexV.zero)
      have hlb := long_bd (fxb (l.getD k FlexV.zero))
      obtain ⟨x, hx⟩ : ∃ x, x = l.getD k FlexV.zero := ⟨_, rfl⟩
      rw [← hx] at hat hgo hok hlb
      have HNEW := Lib.hid (fun h => (rowsGo_new (room := R) (gap := G) (wraps := wraps) (x := x) (l := l.drop (k + 1)) (sum := sum) (out := out) h).symm.trans hgo)
      have HMORE := Lib.hid (fun h => (rowsGo_more (room := R) (gap := G) (wraps := wraps) (x := x) (l := l.drop (k + 1)) (sum := sum) (out := out) h).symm.trans hgo)
      obtain ⟨lg, hlg⟩ : ∃ y, y = long (fxb x) := ⟨_, rfl⟩
      rw [← hlg] at hat HNEW HMORE hlb
      obtain ⟨⟨b, lo, hi, g, s, e⟩, hxe⟩ : ∃ y, y = fxb x := ⟨_, rfl⟩
      rw [← hxe] at hat HNEW HMORE hok
      simp only at HNEW HMORE
      have t0 : wr.cell? ⟨gi, k * 9, none⟩ = some (.int .i64 b) := hat 0 _ rfl
      have t1 : wr.cell? ⟨gi, k * 9 + 1, none⟩ = some (.int .i64 lo) := hat 1 _ rfl
      have t2 : wr.cell? ⟨gi, k * 9 + 2, none⟩ = some (.int .i64 hi) := hat 2 _ rfl
      have t3 : wr.cell? ⟨gi, k * 9 + 3, none⟩ = some (.int .i64 g) := hat 3 _ rfl
      have t4 : wr.cell? ⟨gi, k * 9 + 4, none⟩ = some (.int .i64 s) := hat 4 _ rfl
      have t5 : wr.cell? ⟨gi, k * 9 + 5, none⟩ = some (.int .i64 e) := hat 5 _ rfl
      have t6 : wr.cell? ⟨gi, k * 9 + 6, none⟩ = some (.int .i64 lg) := hat 6 _ rfl
      have t7 : wr.cell? ⟨gi, k * 9 + 7, none⟩ = some (.bool false) := hat 7 _ rfl
      have t8 : wr.cell? ⟨gi, k * 9 + 8, none⟩ = some (.int .i64 0) := hat 8 _ rfl
      obtain ⟨_, _, _, _, _, _, _, _, _, _, e0, e1⟩ := hok
      simp only at e0 e1
      obtain ⟨l0, l1⟩ := hlb
      have HOA := Lib.hid (hown.alloc (.cells #[.int .i64 b, .int .i64 lo, .int .i64 hi, .int .i64 g, .int .i64 s, .int .i64 e, .int .i64 lg, .bool false, .int .i64 0] 103))
      have HBA := Lib.hid (below_alloc hbel (.cells #[.int .i64 b, .int .i64 lo, .int .i64 hi, .int .i64 g, .int .i64 s, .int .i64 e, .int .i64 lg, .bool false, .int .i64 0] 103))
      have HITA := Lib.hid (hit.alloc (.cells #[.int .i64 b, .int .i64 lo, .int .i64 hi, .int .i64 g, .int .i64 s, .int .i64 e, .int .i64 lg, .bool false, .int .i64 0] 103))
      have HALL := Lib.hid hall
      have HPOS := Lib.hid hpos
      have KK := Lib.hid (show k ≤ n ∧ k < n from ⟨hk, hlt⟩)
      clear hat hgo hx hlg hxe hown hbel hit hall
      by_cases hnew : out.length = 0 ∨ (wraps = true ∧ R < sum + G + lg + e)
      · have HG2 := Lib.hid (HNEW.out hnew)
        have hon : (out ++ [1]).length = out.length + 1 := by simp
        have HST : ∀ (v' : Value) (w9 : World), w9.ownsRow w.heap.size 3 1 v' (out.length + 1) (ints out ++ [.int .i64 0]) → ∃ g9 cap9, v' = .slice (some ⟨g9, 0, none⟩) (out.length + 1) cap9 ∧ w9.cell? ⟨g9, out.length, none⟩ = some (.int .i64 0) ∧ w9.frozen? ⟨g9, out.length, none⟩ = false ∧ w.heap.size ≤ g9 ∧ (w9.setCell ⟨g9, out.length, none⟩ (.int .i64 1)).ownsRow w.heap.size 3 1 v' (out.length + 1) (ints (out ++ [1])) := fun v' w9 h9 => by
          obtain ⟨g9, cap9, rfl, hb9, hl9⟩ := own_some h9 (by omega)
          have hc := h9.cellAt out.length (by omega)
          have hcl : (ints out ++ [Value.int .i64 0])[out.length]? = some (.int .i64 0) := by simp [ints]
          refine ⟨g9, cap9, rfl, hc.trans hcl, h9.frozenAt _, hb9, ?_⟩
          have hs := (h9.stored out.length (.int .i64 1)).1
          have e : (ints out ++ [Value.int .i64 0]).set out.length (.int .i64 1) = ints (out ++ [1]) := by simp [ints]
          rwa [e] at hs
        have HST' := Lib.hid HST
        clear HST HNEW HMORE hon
        have HX := Lib.hid (Blk.new wr 103 #[.int .i64 b, .int .i64 lo, .int .i64 hi, .int .i64 g, .int .i64 s, .int .i64 e, .int .i64 lg, .bool false, .int .i64 0])
        have hm1 : out.length ≤ 1000 := by omega
        have HLEN := Lib.hid hlen
        by_cases hk0 : k = 0
        · subst hk0
          go_wp2_with (at_builtin; refine wpList_append_own _ rfl _ _ 22 rfl w.heap.size 3 i0 (.int .i64 0) 1 8 Try.underlying22 hi0 hz0 hz1 hz2 rfl (by decide) _ _ _ rfl (HOA.out.alloc _) ⟨wr.heap.size + 1, 0, none⟩ 1 1 [.int .i64 0] rfl rfl (cells_new _ _ _ _ (by simp)) (fun u hu => by simp at hu; subst hu; rfl) (by unfold maxLen; omega) (by omega) (by simp; omega) ?_; intro v' w9 hown9 hg9 _; obtain ⟨g9, cap9, rfl, hc9, hf9, hb9, hs9⟩ := HST'.out v' w9 hown9; have hX9 := blk_grown (HX.out.alloc (.cells #[.int .i64 0] 3)) hg9 (blk_ne HX.out HOA.out (by decide)); have r5 : w9.cell? ⟨wr.heap.size, 5, none⟩ = some (.int .i64 e) := hX9.cell 5; have r6 : w9.cell? ⟨wr.heap.size, 6, none⟩ = some (.int .i64 lg) := hX9.cell 6)
          have hit9 := (HITA.out.alloc (.cells #[.int .i64 0] 3)).kept hg9 (own_far HITA.out HOA.out (by decide))
          have hfar := own_far hit9 hown9 (by decide)
          have HIT9 := Lib.hid (own_setFar (b := g9) (j := out.length) (u := .int .i64 1) hit9 (far_ne hfar))
          have HB9 := Lib.hid (below_set (below_grownO (below_alloc HBA.out (.cells #[.int .i64 0] 3)) HOA.out hg9) (b := g9) (off := out.length) hb9 (.int .i64 1))
          have HS9 := Lib.hid hs9
          clear hit9 hfar hs9 hown9 hg9 hX9 hc9 hf9 r5 r6
          go_roundw
          case rel => exact ⟨⟨0 + 1, out ++ [1], lg + e, by have := KK.out; omega, by go_num, rfl, HG2.out, by rw [List.length_append]; have := HLEN.out; show out.length + 1 ≤ _; omega, (fun _ => by simp), (fun x hx => by
            rcases List.mem_append.1 hx with h | h
            · have := HALL.out x h; omega
            · simp at h; omega), by omega, by omega, by rw [List.length_append]; exact HS9.out, HB9.out⟩, HIT9.out⟩
          case measure => have := KK.out; simp [intOf]; omega
        · have hw3 : wraps = true ∧ R < sum + G + lg + e := by
            rcases hnew with h | h
            · have := HPOS.out (by omega); omega
            · exact h
          obtain ⟨hwr, hroom⟩ := hw3
          subst hwr
          have hk0' : ((k : Int) == 0) = false := by simp; omega
          go_wp2_with (at_builtin; refine wpList_append_own _ rfl _ _ 22 rfl w.heap.size 3 i0 (.int .i64 0) 1 8 Try.underlying22 hi0 hz0 hz1 hz2 rfl (by decide) _ _ _ rfl (HOA.out.alloc _) ⟨wr.heap.size + 1, 0, none⟩ 1 1 [.int .i64 0] rfl rfl (cells_new _ _ _ _ (by simp)) (fun u hu => by simp at hu; subst hu; rfl) (by unfold maxLen; omega) (by omega) (by simp; omega) ?_; intro v' w9 hown9 hg9 _; obtain ⟨g9, cap9, rfl, hc9, hf9, hb9, hs9⟩ := HST'.out v' w9 hown9; have hX9 := blk_grown (HX.out.alloc (.cells #[.int .i64 0] 3)) hg9 (blk_ne HX.out HOA.out (by decide)); have r5 : w9.cell? ⟨wr.heap.size, 5, none⟩ = some (.int .i64 e) := hX9.cell 5; have r6 : w9.cell? ⟨wr.heap.size, 6, none⟩ = some (.int .i64 lg) := hX9.cell 6)
          have hit9 := (HITA.out.alloc (.cells #[.int .i64 0] 3)).kept hg9 (own_far HITA.out HOA.out (by decide))
          have hfar := own_far hit9 hown9 (by decide)
          have HIT9 := Lib.hid (own_setFar (b := g9) (j := out.length) (u := .int .i64 1) hit9 (far_ne hfar))
          have HB9 := Lib.hid (below_set (below_grownO (below_alloc HBA.out (.cells #[.int .i64 0] 3)) HOA.out hg9) (b := g9) (off := out.length) hb9 (.int .i64 1))
          have HS9 := Lib.hid hs9
          clear hit9 hfar hs9 hown9 hg9 hX9 hc9 hf9 r5 r6
          go_roundw
          case rel => exact ⟨⟨k + 1, out ++ [1], lg + e, by have := KK.out; omega, by go_num, rfl, HG2.out, by rw [List.length_append]; have := HLEN.out; show out.length + 1 ≤ _; omega, (fun _ => by simp), (fun x hx => by
            rcases List.mem_append.1 hx with h | h
            · have := HALL.out x h; omega
            · simp at h; omega), by omega, by omega, by rw [List.length_append]; exact HS9.out, HB9.out⟩, HIT9.out⟩
          case measure => have := KK.out; simp [intOf]; omega
      · have HG2 := Lib.hid (HMORE.out hnew)
        have hk0 : k ≠ 0 := fun e => hnew (Or.inl (by omega))
        have hk0' : ((k : Int) == 0) = false := by simp; omega
        have hpos := HPOS.out (by omega)
        obtain ⟨m, hm⟩ : ∃ m, out.length = m + 1 := ⟨out.length - 1, by omega⟩
        have hgd := getD_bd out k HALL.out m (by omega)
        have hown := HOA.out
        rw [hm] at hown
        obtain ⟨g9, cap9, hv9, hb9, hl9⟩ := own_some hown (by omega)
        injection hv9 with hv1 hv2 hv3
        subst hv1; subst hv3
        have hc0 : (ints out)[m]? = some (.int .i64 (out.getD m 0)) := by simp [ints, List.getD, show m < out.length from by omega]
        have hc := (hown.cellAt m (by omega)).trans hc0
        have hf9 := hown.frozenAt m
        have hset := (hown.stored m (.int .i64 (out.getD m 0 + 1))).1
        have hin := incLast_ints out (by omega)
        rw [hm, Nat.add_sub_cancel] at hin
        rw [hin] at hset
        have hilen := incLast_len out (by omega)
        have HIL := Lib.hid (show (incLast out).length = m + 1 from by rw [hilen, hm])
        have HIB := Lib.hid (incLast_bd out k HALL.out (by omega))
        have hfar := own_far HITA.out hown (by decide)
        have HIT9 := Lib.hid (own_setFar (b := g9) (j := m) (u := .int .i64 (out.getD m 0 + 1)) HITA.out (far_ne hfar))
        have HSET := Lib.hid hset
        have HBS := Lib.hid (below_set HBA.out (b := g9) (off := m) hb9 (.int .i64 (out.getD m 0 + 1)))
        obtain ⟨y, hy⟩ : ∃ y, y = out.getD m 0 := ⟨_, rfl⟩
        rw [← hy] at hc hgd HSET HBS HIT9
        obtain ⟨y0, y1⟩ := hgd
        have HLE := Lib.hid (show m + 1 ≤ k from by omega)
        rw [hm]
        have hm1 : m ≤ 1000 := by omega
        clear hc0 hset hin hilen hfar hown hm hy hpos HNEW HMORE hlen
        cases wraps
        · go_wp2_with fail
          go_roundw
          case rel => exact ⟨⟨k + 1, incLast out, sum + G + lg + e, by have := KK.out; omega, by go_num, rfl, HG2.out, by rw [HIL.out]; have := HLE.out; omega, (fun _ => by rw [HIL.out]; omega), (fun x hx => by have := HIB.out x hx; omega), by omega, by omega, by rw [HIL.out]; exact HSET.out, HBS.out⟩, HIT9.out⟩
          case measure => have := KK.out; simp [intOf]; omega
        · have hroom : decide (R < sum + G + lg + e) = false := by
            simp only [decide_eq_false_iff_not]
            exact fun h => hnew (Or.inr ⟨rfl, h⟩)
          go_wp2_with fail
          go_roundw
          case rel => exact ⟨⟨k + 1, incLast out, sum + G + lg + e, by have := KK.out; omega, by go_num, rfl, HG2.out, by rw [HIL.out]; have := HLE.out; omega, (fun _ => by rw [HIL.out]; omega), (fun x hx => by have := HIB.out x hx; omega), by omega, by omega, by rw [HIL.out]; exact HSET.out, HBS.out⟩, HIT9.out⟩
          case measure => have := KK.out; simp [intOf]; omega
    · obtain rfl : k = n := by omega
      rw [List.drop_of_length_le (by rw [HN.out]; omega)] at hgo
      have hT : T = out := hgo.symm
      have HTO := Lib.hid hT
      have HO := Lib.hid hown
      clear hown hit hgo hT
      go_wp2_with fail
      go_ret
      exact ⟨_, rfl, by rw [HTO.out]; exact HO.out, hbel⟩
end Go.Proofs.Ytpinfaoeggipmaa
