/- Contracts of table.widen, of slices.Clone at numbers, of the comparison of cells. -/
import Derived.Test.YtkppignoomnmdaaColPlain
import Derived.Test.YtkppignoomnmdaaTabC
import Derived.Test.YtkppignoomnmdaaTabB
import Derived.Maps.Range
import Derived.Lib.LazyBuf
namespace Go.Proofs.Ytkppignoomnmdaa
open Go.RowKit
set_option linter.unusedVariables false
set_option linter.unusedSimpArgs false
attribute [local go_sem high] run_min2 run_max2

theorem grown_set (w : World) (g j : Nat) (u : Value) : w.grownBy (w.setCell ⟨g, j, none⟩ u) (some g) :=
  ⟨rfl, rfl, rfl, by simp [World.setCell], fun k hk hne => Below.heap_setCell w ⟨g, j, none⟩ u k (fun e => hne (by rw [e]))⟩
theorem grown_of_below {w w' : World} (h : Below w.heap.size w w') (row : Option Nat) : w.grownBy w' row := ⟨h.os, h.tape, h.output, h.size, fun k hk _ => h.block k hk⟩
theorem grown_alloc (w : World) (o : Obj) (row : Option Nat) : w.grownBy (w.alloc o) row := grown_of_below (below_alloc (Below.refl _ w) o) row
theorem own_grownOther {w w' : World} {base size n g : Nat} {e : TypeId} {v : Value} {xs : List Value} (h : w.ownsRow base e size v n xs) (hne : v.ownBlock ≠ some g) (hg : w.grownBy w' (some g)) : w'.ownsRow base e size v n xs :=
  own_heap h fun k hv => hg.block k (h.lt k hv).2 (fun e => by injection e with e; subst e; exact hne hv)
/-- A window of a list. -/
theorem holds_win {w : World} {base g m p s : Nat} {e : TypeId} {f : Nat → Int} (h : w.ownsRow base e 1 (.slice (some ⟨g, 0, none⟩) m m) m (ints (fnL m f))) (hp : p + s ≤ m) : Holds w w.heap.size (some ⟨g, p, none⟩) (ints (winL f p s)) := fun hn => by
  refine ⟨g, p, rfl, (h.lt g rfl).2, fun j hj => ?_⟩
  have hj' : j < s := by rw [ints_len] at hj; unfold winL at hj; rw [fnL_len] at hj; exact hj
  rw [h.cellAt (p + j) (by omega), fnL_at _ _ _ (by omega)]
  unfold winL
  simp [List.getD, ints, fnL, hj']
theorem eqlNil (w : World) (a : Addr) (n c : Nat) : (binOp .eql 64 (.slice (some a) n c) (.slice none 0 0)).run Try.prog w = .ok (.bool false) w := by
  have h : ∀ d : Nat, (Op.equalIn (d + 1) 64 (.slice (some a) n c) (.slice none 0 0)).run Try.prog w = .ok false w := fun d => by
    simp [Op.equalIn, run_underlying Try.underlying64]
  simp only [binOp]
  simp [Op.equal, Op.maxDepth, h 9999]
set_option maxRecDepth 100000 in
set_option maxHeartbeats 1000000 in
theorem cloneInt_calls (zs : List Int) (n c B : Nat) (a : Addr) (w : World) (hn : zs.length = n) (h : Holds w B (some a) (ints zs)) (hB : B ≤ w.heap.size) (h0 : 0 < n) (hm : n ≤ 1000) :
    Calls Try.prog 78 #[.slice (some a) n c] w fun e w' => ∃ g c', e = .returned (.slice (some ⟨g, 0, none⟩) n c') ∧ w'.ownsRow w.heap.size 3 1 (.slice (some ⟨g, 0, none⟩) n c') n (ints zs) ∧ Below w.heap.size w w' := by
  obtain ⟨i0, hi, hz0, hz1, hz2⟩ := info_parts info_int
  obtain ⟨b, off, ha, hb, hc⟩ := h (by rw [ints_len]; omega)
  injection ha with ha
  subst ha
  have hcl : ∀ j u, (ints zs)[j]? = some u → (w.alloc (.cells #[] 3)).cell? ((⟨b, off, none⟩ : Addr).add j) = some u := fun j u hj => by
    have hjl : j < (ints zs).length := by
      rcases Nat.lt_or_ge j (ints zs).length with h1 | h1
      · exact h1
      · rw [List.getElem?_eq_none h1] at hj; cases hj
    have e : (⟨b, off, none⟩ : Addr).add j = ⟨b, off + j, none⟩ := by unfold Addr.add; split <;> simp_all
    rw [e, (below_alloc (Below.refl _ w) _).cell (p := ⟨b, off + j, none⟩) (by simp; omega), hc j hjl]
    simp [List.getD, hj]
  have hq := eqlNil w ⟨b, off, none⟩ n c
  have HCL := Lib.hid hcl
  have HN := Lib.hid hn
  clear hcl hn h hc
  go_enter Try.func78, Try.ntmps78
  go_wp2_with (at_builtin; refine wpList_append_lies rfl _ _ 64 rfl w.heap.size 3 i0 (.int .i64 0) 1 8 Try.underlying64 hi hz0 hz1 hz2 rfl (by decide) _ 0 [] rfl (World.ownsRow_lit (size := 1) _ #[] 0 (Nat.le_refl _) (by unfold maxLen; omega) rfl) ⟨b, off, none⟩ n c (ints zs) rfl (by rw [ints_len, HN.out]; omega) HCL.out (fun u hu => by simp [ints] at hu; obtain ⟨z, _, rfl⟩ := hu; rfl) h0 (by unfold maxLen; omega) (by omega) (by simp) _ rfl ?_; intro g cap w1 o1 hg1 hat1 hlt1)
  have hbel := below_grownA (below_alloc (Below.refl _ w) (.cells #[] 3)) (World.ownsRow_lit (base := w.heap.size) (e := 3) (size := 1) w #[] 0 (Nat.le_refl _) (by unfold maxLen; omega) rfl) hg1
  rw [Nat.zero_add, List.nil_append] at o1
  have HO := Lib.hid o1
  clear o1 hg1 hat1
  go_ret
  exact ⟨g, cap, rfl, HO.out, hbel⟩
theorem cmp_calls (a0 a1 b0 b1 : Int) (a2 a3 b2 b3 : Nat) (w : World) (ha : a3 ≤ 100) (hb : b3 ≤ 100) :
    Calls Try.prog 76 #[.agg #[.int .i64 a0, .int .i64 a1, .int .i64 a2, .int .i64 a3], .agg #[.int .i64 b0, .int .i64 b1, .int .i64 b2, .int .i64 b3]] w fun e w' => e = .returned (.int .i64 ((a3 : Int) - (b3 : Int))) ∧ Below w.heap.size w w' := by
  have hbel := below_alloc (below_alloc (Below.refl _ w) (.cells #[.int .i64 a0, .int .i64 a1, .int .i64 a2, .int .i64 a3] 107)) (.cells #[.int .i64 b0, .int .i64 b1, .int .i64 b2, .int .i64 b3] 107)
  go_enter Try.func76, Try.ntmps76
  go_wp2_with fail
  go_ret
  exact ⟨rfl, hbel⟩
/-- What the weights are. -/
def CutW (w : World) (base g m : Nat) (f : Nat → Int) (s : Nat) (ws : List Int) (v : Value) (wx : World) : Prop :=
  ∃ (A : Option Addr) (c : Nat), v = .slice A s c ∧ Holds wx wx.heap.size A (ints ws) ∧ wx.ownsRow base 3 1 (.slice (some ⟨g, 0, none⟩) m m) m (ints (fnL m f)) ∧ Below w.heap.size w wx
set_option maxRecDepth 100000 in
set_option maxHeartbeats 2000000 in
theorem widen_calls (g p s m base : Nat) (A : Option Addr) (cb : Nat) (f b : Nat → Int) (want : Int) (w : World) (h : w.ownsRow base 3 1 (.slice (some ⟨g, 0, none⟩) m m) m (ints (fnL m f)))
    (hb : Holds w w.heap.size A (ints (winL b p s))) (hp : p + s ≤ m) (hm : m ≤ 100) (hs : 1 ≤ s) (hf : FnOk f) (hbo : FnOk b) (hw0 : 0 ≤ want) (hw1 : want ≤ 16777216) :
    Calls Try.prog 77 #[.slice (some ⟨g, p, none⟩) s (m - p), .int .i64 want, .slice A s cb] w fun e w' => e = .returned (.tuple #[]) ∧ w'.ownsRow base 3 1 (.slice (some ⟨g, 0, none⟩) m m) m (ints (fnL m (widenF f p s want (wtsW b p s)))) ∧ w.grownBy w' (some g) := by
  have hwin := holds_win h hp
  have HS1 := Lib.hid (sum_calls (some ⟨g, p, none⟩) s (m - p) _ (fun i => f (p + i)) w hwin (fun i => hf (p + i)) (by omega))
  have HS2 := Lib.hid (sum_calls A s cb _ (fun i => b (p + i)) w hb (fun i => hbo (p + i)) (by omega))
  have hsl := winS_bd hf p s
  have hsb := winS_bd hbo p s
  have HWN := Lib.hid (fun h => widen_no (f := f) (p := p) (s := s) (want := want) (ws := wtsW b p s) h)
  have HWY := Lib.hid (fun h => widen_yes (f := f) (p := p) (s := s) (want := want) (ws := wtsW b p s) h)
  have HWT : Hid (wtsW b p s = if winS b p s = 0 then onesL s else winL b p s) := rfl
  obtain ⟨sl, hsle⟩ : ∃ x, x = winS f p s := ⟨_, rfl⟩
  obtain ⟨sb, hsbe⟩ : ∃ x, x = winS b p s := ⟨_, rfl⟩
  have e1 : sumTo (fun i => f (p + i)) s = sl := hsle.symm
  have e2 : sumTo (fun i => b (p + i)) s = sb := hsbe.symm
  rw [e1] at HS1
  rw [e2] at HS2
  rw [← hsle] at hsl HWN HWY
  rw [← hsbe] at hsb HWT
  have HWL := Lib.hid (wtsW_len b p s)
  have HO := Lib.hid h
  have HBO := Lib.hid hb
  have HF := Lib.hid hf
  have hgw := (h.lt g rfl).2
  clear hsle hsbe e1 e2 h hb hwin hf hbo
  have ms : m - p ≤ maxLen := by unfold maxLen; omega
  go_enter Try.func77, Try.ntmps77
  by_cases hlack : want - sl ≤ 0
  · go_wp2_with (go_at_call 87; refine HS1.out.mono ?_; rintro e w' ⟨rfl, rfl⟩)
    refine bodyPost_ret (results_none rfl _ _ _) rfl ?_
    exact ⟨rfl, by rw [HWN.out hlack]; exact HO.out, World.grownBy.refl _ _⟩
  · have HR := Lib.hid (HWY.out hlack)
    obtain ⟨lack, hlk⟩ : ∃ x, x = want - sl := ⟨_, rfl⟩
    have hl0 : 0 < lack := by omega
    have hl1 : lack ≤ 16777216 := by omega
    rw [← hlk] at HR
    have hlk' : want - sl = lack := hlk.symm
    clear hlack hlk HWN HWY
    go_upto_if 17 with (first | (go_at_call 87; ((with_reducible refine HS1.out.mono ?_); rintro e w' ⟨rfl, rfl⟩)) | (go_at_call 87; ((with_reducible refine HS2.out.mono ?_); rintro e w' ⟨rfl, rfl⟩)))
    go_cut [2] from 18 to 21 (fun v wx => CutW w base g m f s (wtsW b p s) v wx)
    case first =>
      by_cases hz : sb = 0
      · have HR2 : Hid (wtsW b p s = onesL s) := by show _ = _; rw [HWT.out, if_pos hz]
        subst hz
        go_wp2_with (go_at_call 86; refine (repeat_calls s _ _ (by omega) (Blk.new _ _ _)).mono ?_; rintro e w3 ⟨g3, rfl, ho3, hb3⟩)
        have hbA := below_then (below_alloc (Below.refl _ w) (.cells #[.int .i64 1] 3)) hb3
        have hO := own_below HO.out hbA
        have HRES := Lib.hid (show CutW w base g m f s (wtsW b p s) (.slice (some ⟨g3, 0, none⟩) s s) w3 from ⟨_, _, rfl, by rw [HR2.out]; exact Holds.of_own ho3, hO, hbA⟩)
        go_meet
        case rel => exact HRES.out
      · have HR2 : Hid (wtsW b p s = winL b p s) := by show _ = _; rw [HWT.out, if_neg hz]
        have HRES := Lib.hid (show CutW w base g m f s (wtsW b p s) (.slice A s cb) w from ⟨_, _, rfl, by rw [HR2.out]; exact HBO.out, HO.out, Below.refl _ _⟩)
        go_wp2_with fail
        go_meet
        case rel => exact HRES.out
    case rest =>
      obtain ⟨A2, c2, rfl, hW, hO, hbw⟩ := hcut
      have hsz := hbw.size
      have HSH := Lib.hid (share_own lack A2 s c2 _ (wtsW b p s) wc HWL.out hW (Nat.le_refl _) (by omega))
      have HSB := Lib.hid (fun j => share_getD lack (wtsW b p s) j)
      have HSL := Lib.hid (show (share lack (wtsW b p s)).length = s by rw [share_length]; exact HWL.out)
      have HSET := Lib.hid (fun k hk => addsF_set m f p s lack (wtsW b p s) k hk)
      have HAT := Lib.hid (fun k => addsF_at f p s lack (wtsW b p s) k)
      obtain ⟨sh, hsh⟩ : ∃ x, x = share lack (wtsW b p s) := ⟨_, rfl⟩
      rw [← hsh] at HSH HSB HSL HSET
      have HO2 := Lib.hid hO
      have HB2 := Lib.hid hbw
      clear hsh hO hbw hW
      go_wp2_with (go_at_call 85; refine HSH.out.mono ?_; rintro e w4 ⟨g4, rfl, ho4, hb4⟩)
      have hg4 : g < g4 := by have h1 : wc.heap.size ≤ g4 := (ho4.lt _ rfl).1; omega
      have HO3 := Lib.hid (own_below HO2.out hb4)
      have HS4 := Lib.hid ho4
      have HG4 := Lib.hid (grown_of_below (below_then HB2.out hb4) (some g))
      obtain ⟨b4, hb4'⟩ : ∃ x, x = wc.heap.size := ⟨_, rfl⟩
      rw [← hb4'] at HS4
      clear ho4 hb4 hb4' hlk' hsl hsb
      go_loopw [26] (fun i wr => ∃ k : Nat, k ≤ s ∧ i = .int .i64 k ∧ wr.ownsRow base 3 1 (.slice (some ⟨g, 0, none⟩) m m) m (ints (fnL m (addsF f p s lack (wtsW b p s) k))) ∧ wr.ownsRow b4 3 1 (.slice (some ⟨g4, 0, none⟩) s s) s (ints sh) ∧ w.grownBy wr (some g)) (fun i _ => s - (intOf i).toNat)
      case atStart => exact ⟨0, Nat.zero_le _, rfl, by rw [addsF_zero]; exact HO3.out, HS4.out, HG4.out⟩
      case round =>
        obtain ⟨k, hk, rfl, hL, hS, hgr⟩ := hrel
        by_cases hlt : k < s
        · have cL : wr.cell? ⟨g, p + k, none⟩ = some (.int .i64 (f (p + k))) := (hL.cellAt (p + k) (by omega)).trans (by rw [fnL_at _ _ _ (by omega), HAT.out])
          have zL : wr.frozen? ⟨g, p + k, none⟩ = false := own_free hL
          have cS : wr.cell? ⟨g4, k, none⟩ = some (.int .i64 (sh.getD k 0)) := (hS.cellAt k (by omega)).trans (ints_get _ _ (by rw [HSL.out]; exact hlt))
          have hb1 := HF.out (p + k)
          have hb2 := HSB.out k
          have HST := Lib.hid (HSET.out k (by omega))
          obtain ⟨lv, hlv⟩ : ∃ z, z = f (p + k) := ⟨_, rfl⟩
          obtain ⟨sv, hsv⟩ : ∃ z, z = sh.getD k 0 := ⟨_, rfl⟩
          rw [← hlv] at cL hb1 HST
          rw [← hsv] at cS hb2 HST
          have hL2 := own_set (j := p + k) (u := .int .i64 (lv + sv)) hL
          rw [HST.out] at hL2
          have hS2 := own_setFar (b := g) (j := p + k) (u := .int .i64 (lv + sv)) hS (by simp [Value.ownBlock]; omega)
          have HL5 := Lib.hid hL2
          have HS5 := Lib.hid hS2
          have HG5 := Lib.hid (hgr.trans (grown_set wr g (p + k) (.int .i64 (lv + sv))))
          have QQ := Lib.hid (show k ≤ s ∧ k < s from ⟨hk, hlt⟩)
          clear hL hS hgr hL2 hS2 hlv hsv
          go_wp2_with fail
          go_roundw
          case rel => exact ⟨k + 1, by have := QQ.out; omega, by go_num, HL5.out, HS5.out, HG5.out⟩
          case measure => have := QQ.out; simp [intOf]; omega
        · obtain rfl : k = s := by omega
          have HL5 := Lib.hid hL
          have HG5 := Lib.hid hgr
          clear hL hS hgr
          go_wp2_with fail
          go_end0
          exact ⟨rfl, by rw [HR.out]; exact HL5.out, HG5.out⟩
end Go.Proofs.Ytkppignoomnmdaa
