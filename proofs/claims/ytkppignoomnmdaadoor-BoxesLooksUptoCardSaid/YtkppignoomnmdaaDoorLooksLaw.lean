/- The walk of BoxesLooks. -/
import Derived.Test.YtkppignoomnmdaaDoorLooksB
import Derived.BigQuiet
namespace Go.Proofs.YtkppignoomnmdaaDoor
open Go.RowKit Go.Great
set_option linter.unusedVariables false
set_option linter.unusedSimpArgs false
theorem own_drewNL {w : World} {base size n : Nat} {e : TypeId} {v : Value} {xs : List Value} (h : w.ownsRow base e size v n xs) (m : Nat) : (w.drewN m).ownsRow base e size v n xs := h
theorem look_cell2 {w : World} {base k c g : Nat} {lz tbl : List Int} {bs : List BoxV} {p q : Nat} (h : w.ownsRow base 38 118 (.slice (some ⟨g, 0, none⟩) k c) k (rows k (lookRow lz tbl bs))) (hp : p < k) (hq : q < 59) :
    w.cell? ⟨g, p * 118 + q * 2, none⟩ = some (.int .i64 ((lookAt lz tbl bs p).getD (q * 2) 0)) ∧ w.cell? ⟨g, p * 118 + q * 2 + 1, none⟩ = some (.int .i64 ((lookAt lz tbl bs p).getD (q * 2 + 1) 0)) :=
  ⟨look_cell h hp (by omega), by have h1 := look_cell (q := q * 2 + 1) h hp (by omega); rw [← Nat.add_assoc] at h1; exact h1⟩
theorem look_range2 {w : World} {b o q : Nat} {lz tbl : List Int} {bs : List BoxV} {k : Nat} (h : w.rangeAt b o (lookRow lz tbl bs k)) (hq : q < 59) :
    w.cell? ⟨b, o + q * 2, none⟩ = some (.int .i64 (lookQ lz tbl (looksL lz tbl bs k) (bx bs k) (q * 2))) ∧ w.cell? ⟨b, o + q * 2 + 1, none⟩ = some (.int .i64 (lookQ lz tbl (looksL lz tbl bs k) (bx bs k) (q * 2 + 1))) :=
  ⟨h (q * 2) _ (lookRow_at lz tbl bs k (q * 2) (by omega)), by have h1 := h (q * 2 + 1) _ (lookRow_at lz tbl bs k (q * 2 + 1) (by omega)); rw [← Nat.add_assoc] at h1; exact h1⟩
set_option maxRecDepth 100000 in
set_option maxHeartbeats 4000000 in
theorem boxesLooks_calls (Ab : Option Addr) (nb cb : Nat) (bs : List BoxV) (Al : Option Addr) (nl cl : Nat) (lz tbl : List Int) (W : World) (hn : bs.length = nb) (hl : lz.length = nl * 118) (h : Boxes W W.heap.size Ab bs) (h2 : Holds W W.heap.size Al (ints lz)) (hT : TabAt W tbl) (h0 : 0 < W.heap.size) (hm : nb ≤ 1048576) (hm2 : nl ≤ 1048576) :
    Calls Tryd.prog 4 #[.slice Ab nb cb, .slice Al nl cl] W fun e w' => e = .returned (.bool true) ∧ Below W.heap.size W w' := by
  have hc := looks_calls Ab nb cb bs Al nl cl lz tbl W.heap.size W hn hl h h2 hT (Nat.le_refl _) h0 hm hm2
  have H := Lib.hid h
  have H2 := Lib.hid h2
  have HT := Lib.hid hT
  have HN := Lib.hid hn
  have HLZ := Lib.hid hl
  by_cases hok : LooksOk nl bs
  · have HC : Hid (Calls Tryd.prog 10 #[.slice Ab nb cb, .slice Al nl cl] W fun e w' => (∃ v, e = .returned (.tuple #[v, .int .i64 0]) ∧ w'.ownsRow W.heap.size 38 118 v nb (rows nb (lookRow lz tbl bs))) ∧ Below W.heap.size W w') :=
      hc.mono fun e w' hh => by
        rcases hh with ⟨⟨v, he, ho, _⟩ | ⟨_, hno⟩, hb⟩
        · exact ⟨⟨v, he, ho⟩, hb⟩
        · exact absurd hok hno
    have HOKK := Lib.hid hok
    clear hc h h2 hT hn hl hok
    go_enter Tryd.func4, Tryd.ntmps4
    go_wp2_with (go_at_call 10; refine HC.out.mono ?_; rintro e w1 ⟨⟨v, rfl, hown⟩, hb1⟩; obtain ⟨A1, C1, rfl⟩ := own_open hown; have HO1 := Lib.hid hown; clear hown)
    go_loopw [22] (fun i wr => ∃ k : Nat, k ≤ nb ∧ i = .int .i64 k ∧ wr.ownsRow W.heap.size 38 118 (.slice A1 nb C1) nb (rows nb (lookRow lz tbl bs)) ∧ Below W.heap.size W wr) (fun i _ => nb - (intOf i).toNat)
    case atStart => exact ⟨0, Nat.zero_le _, rfl, HO1.out, hb1⟩
    case round =>
      clear hb1
      obtain ⟨k, hk, rfl, hown, hbel⟩ := hrel
      have hw := hbel.size
      have HOW := Lib.hid hown
      clear hown
      by_cases hlt : k < nb
      · obtain ⟨b, off, rfl, hb, c0, c1, c2, c3, c4, hkids, hkl⟩ := (H.out.below hbel (Nat.le_refl _)).at_ (i := k) (by rw [HN.out]; exact hlt)
        clear hkids hkl
        have hnb := HOKK.out k (by rw [HN.out]; exact hlt)
        obtain ⟨⟨kd, nd, pa, ka, ks, kc, tx⟩, hx⟩ : ∃ x, x = bx bs k := ⟨_, rfl⟩
        rw [← hx] at c0 c1 c2 c3 c4 hnb
        simp only at c0 c1 c2 c3 c4
        unfold boxBad at hnb
        simp only at hnb
        have KK := Lib.hid (show k ≤ nb ∧ k < nb from ⟨hk, hlt⟩)
        have HBB := Lib.hid hbel
        clear hx
        have e1 : decide (nd < -1) = false := decide_eq_false (by omega)
        have e2 : decide ((nl : Int) ≤ nd) = false := decide_eq_false (by omega)
        by_cases hk0 : k = 0
        · have e3 : ((k : Int) == 0) = true := by simp <;> omega
          have e4 : (pa != -1) = false := by simp <;> omega
          have e7 : decide (nd < 0) = false := decide_eq_false (by omega)
          clear hnb hk0 hk
          go_wp2_with fail
          exact ⟨⟨k + 1, by have := KK.out; omega, by go_num, HOW.out.alloc _, below_alloc HBB.out _⟩, by have := KK.out; simp [intOf]; omega⟩
        · have e3 : ((k : Int) == 0) = false := by simp <;> omega
          have e5 : decide (pa < 0) = false := decide_eq_false (by omega)
          have e6 : decide ((k : Int) ≤ pa) = false := decide_eq_false (by omega)
          clear hnb hk0 hk
          go_wp2_with fail
          exact ⟨⟨k + 1, by have := KK.out; omega, by go_num, HOW.out.alloc _, below_alloc HBB.out _⟩, by have := KK.out; simp [intOf]; omega⟩
      · obtain rfl : nb = k := by omega
        have HBB := Lib.hid hbel
        clear hbel hk
        go_wp2_with fail
        go_loopw [85] (fun i wr => ∃ k : Nat, k ≤ nb ∧ i = .int .i64 k ∧ wr.ownsRow W.heap.size 38 118 (.slice A1 nb C1) nb (rows nb (lookRow lz tbl bs)) ∧ Below W.heap.size W wr) (fun i _ => nb - (intOf i).toNat)
        case atStart => exact ⟨0, Nat.zero_le _, rfl, HOW.out, HBB.out⟩
        case round =>
          clear HOW HBB
          obtain ⟨k, hk, rfl, hown, hbel⟩ := hrel
          have hw := hbel.size
          by_cases hlt2 : k < nb
          · obtain ⟨b, off, rfl, hb, c0, c1, c2, c3, c4, hkids, hkl⟩ := (H.out.below hbel (Nat.le_refl _)).at_ (i := k) (by rw [HN.out]; exact hlt2)
            clear hkids hkl
            have hnb := HOKK.out k (by rw [HN.out]; exact hlt2)
            obtain ⟨⟨kd, nd, pa, ka, ks, kc, tx⟩, hx⟩ : ∃ x, x = bx bs k := ⟨_, rfl⟩
            rw [← hx] at c0 c1 c2 c3 c4 hnb
            simp only at c0 c1 c2 c3 c4
            unfold boxBad at hnb
            simp only at hnb
            have HNBD := Lib.hid hnb
            have HND := Lib.hid (show (bx bs k).node = nd by rw [← hx])
            have HPA := Lib.hid (show (bx bs k).parent = pa by rw [← hx])
            clear hx hnb
            have KK := Lib.hid (show k ≤ nb ∧ k < nb from ⟨hk, hlt2⟩)
            obtain ⟨gO, cO, he1, hga, hgb⟩ := own_some hown (by omega)
            injection he1 with he1 he2 he3
            subst he1; subst he3
            have HGA := Lib.hid (show W.heap.size ≤ gO ∧ gO < wr.heap.size from ⟨hga, hgb⟩)
            have HOO := Lib.hid hown
            have HBB := Lib.hid hbel
            have HXX := Lib.hid (Blk.new wr 33 #[.int .i64 kd, .int .i64 nd, .int .i64 pa, .slice ka ks.length kc, .string tx])
            obtain ⟨wv, rfl⟩ : ∃ x, x = wr := ⟨_, rfl⟩
            clear hown hbel hga hgb hk
            go_wp2_with fail
            go_loopw [90] (fun i wr => ∃ p : Nat, p ≤ 59 ∧ i = .int .i64 p ∧ wr.ownsRow W.heap.size 38 118 (.slice (some ⟨gO, 0, none⟩) nb C1) nb (rows nb (lookRow lz tbl bs)) ∧ Blk wr wv.heap.size 33 #[.int .i64 kd, .int .i64 nd, .int .i64 pa, .slice ka ks.length kc, .string tx] ∧ Below W.heap.size W wr) (fun i _ => 59 - (intOf i).toNat)
            case atStart => exact ⟨0, by omega, rfl, HOO.out.alloc _, HXX.out, below_alloc HBB.out _⟩
            case round =>
              clear c0 c1 c2 c3 c4
              obtain ⟨p, hp, rfl, hown, hX, hbel⟩ := hrel
              have hw2 := hbel.size
              by_cases hlt3 : p < 59
              · have PP := Lib.hid (show p ≤ 59 ∧ p < 59 from ⟨hp, hlt3⟩)
                obtain ⟨L, hL⟩ : ∃ L : Nat → Int, ∀ q, (lookAt lz tbl bs k).getD q 0 = L q := ⟨_, fun _ => rfl⟩
                have HLQ : Hid (∀ q, q < 118 → lookQ lz tbl (looksL lz tbl bs k) (bx bs k) q = L q) := fun q hq => by rw [← hL]; exact (lookAt_getD lz tbl bs k q hq).symm
                have HO : Hid (∀ w', Below wr.heap.size wr w' → w'.cell? ⟨gO, k * 118 + p * 2, none⟩ = some (.int .i64 (L (p * 2))) ∧ w'.cell? ⟨gO, k * 118 + p * 2 + 1, none⟩ = some (.int .i64 (L (p * 2 + 1)))) := fun w' hb' => by
                  have h3 := look_cell2 (own_below hown hb') KK.out.2 hlt3
                  rw [hL, hL] at h3
                  exact h3
                have HX : Hid (∀ w', Below wr.heap.size wr w' → w'.cell? ⟨wv.heap.size, 1, none⟩ = some (.int .i64 nd) ∧ w'.cell? ⟨wv.heap.size, 2, none⟩ = some (.int .i64 pa)) := fun w' hb' => ⟨(hX.below hb' hX.lt).cell 1, (hX.below hb' hX.lt).cell 2⟩
                have HI0 := inherits_calls p
                have HJ0 := initial_calls p wr tbl (HT.out.below hbel h0) (by omega) hlt3
                obtain ⟨a0, ha0⟩ : ∃ x, x = tbl.getD (p * 2) 0 := ⟨_, rfl⟩
                obtain ⟨a1, ha1⟩ : ∃ x, x = tbl.getD (p * 2 + 1) 0 := ⟨_, rfl⟩
                rw [← ha0, ← ha1] at HJ0
                have HJ := Lib.hid HJ0
                obtain ⟨v0, hv0⟩ : ∃ x, x = L (p * 2) := ⟨_, rfl⟩
                obtain ⟨v1, hv1⟩ : ∃ x, x = L (p * 2 + 1) := ⟨_, rfl⟩
                rw [← hv0, ← hv1] at HO
                have HOO2 := Lib.hid hown
                have HXX2 := Lib.hid hX
                have HBB2 := Lib.hid hbel
                have hvb : wv.heap.size < wr.heap.size := hX.lt
                have hgO : gO < wr.heap.size := (hown.lt _ rfl).2
                by_cases hnd : 0 ≤ nd
                · obtain ⟨m, rfl⟩ : ∃ m : Nat, nd = m := ⟨nd.toNat, by omega⟩
                  have hmn : m < nl := by have := HNBD.out; omega
                  obtain ⟨b2, off2, rfl, hb2, hR⟩ := look_range (tbl := tbl) (H2.out.below hbel (Nat.le_refl _)) HLZ.out HND.out hmn
                  have HL : Hid (∀ w', Below wr.heap.size wr w' → w'.cell? ⟨b2, off2 + m * 118 + p * 2, none⟩ = some (.int .i64 v0) ∧ w'.cell? ⟨b2, off2 + m * 118 + p * 2 + 1, none⟩ = some (.int .i64 v1)) := fun w' hb' =>
                    by
                      have h3 := look_range2 hR hlt3
                      rw [HLQ.out _ (by omega), HLQ.out _ (by omega), ← hv0, ← hv1] at h3
                      exact ⟨(hb'.cell (p := ⟨b2, _, none⟩) (by show b2 < _; omega)).trans h3.1, (hb'.cell (p := ⟨b2, _, none⟩) (by show b2 < _; omega)).trans h3.2⟩
                  clear hL hv0 hv1 ha0 ha1 HJ0 HI0 hR hown hX hbel hp hnd
                  go_wp2_with (go_at_call 12; refine HJ.out.mono ?_; rintro e w1 ⟨rfl, hb1⟩; have x1 := (HX.out _ hb1).1; have t0 := (HL.out _ hb1).1; have t1 := (HL.out _ hb1).2; have hw1 := hb1.size; have hl1 : wv.heap.size < w1.heap.size := (by omega); have hl2 : b2 < w1.heap.size := (by omega))
                  have hb2 := below_alloc hb1 (.cells #[.int .i64 v0, .int .i64 v1] 35)
                  have e0 := (HO.out _ hb2).1
                  have e1 := (HO.out _ hb2).2
                  have f0 : (w1.alloc (.cells #[.int .i64 v0, .int .i64 v1] 35)).cell? ⟨w1.heap.size, 0, none⟩ = some (.int .i64 v0) := new_cell w1 _ _ 0
                  have f1 : (w1.alloc (.cells #[.int .i64 v0, .int .i64 v1] 35)).cell? ⟨w1.heap.size, 1, none⟩ = some (.int .i64 v1) := new_cell w1 _ _ 1
                  have HB4 := Lib.hid hb2
                  clear hb1 hb2 x1 t0 t1
                  generalize hW2 : World.alloc w1 _ = w2 at e0 e1 f0 f1 HB4 ⊢
                  clear hW2
                  go_quiet (fail)
                  go_wp2_with fail
                  go_roundw
                  case rel => exact ⟨p + 1, by have := PP.out; omega, by go_num, own_drewNL (own_below HOO2.out HB4.out) _, (HXX2.out.below HB4.out HXX2.out.lt).drewN _, below_drewN (below_then HBB2.out HB4.out) _⟩
                  case measure => have := PP.out; simp [intOf]; omega
                · obtain rfl : nd = -1 := by have := HNBD.out; omega
                  cases hI : inhP p
                  · rw [hI] at HI0
                    have HI := Lib.hid (fun w => HI0 w hlt3)
                    have HVV := Lib.hid (show a0 = v0 ∧ a1 = v1 from ⟨by rw [hv0, ← HLQ.out (p * 2) (by omega), look_init (by rw [HND.out]; omega) (by rw [show p * 2 / 2 = p by omega]; exact hI), ha0], by rw [hv1, ← HLQ.out (p * 2 + 1) (by omega), look_init (by rw [HND.out]; omega) (by rw [show (p * 2 + 1) / 2 = p by omega]; exact hI), ha1]⟩)
                    clear hL hv0 hv1 ha0 ha1 HJ0 HI0 hown hX hbel hp hnd hI
                    obtain rfl := HVV.out.1.symm
                    obtain rfl := HVV.out.2.symm
                    go_wp2_with (first | (go_at_call 12; refine HJ.out.mono ?_; rintro e w1 ⟨rfl, hb1⟩; have x1 := (HX.out _ hb1).1; have hw1 := hb1.size; have hl1 : wv.heap.size < w1.heap.size := (by omega)) | (go_at_call 13; refine (HI.out _).mono ?_; rintro e w3 ⟨rfl, rfl⟩))
                    have hb2 := below_alloc hb1 (.cells #[.int .i64 v0, .int .i64 v1] 35)
                    have e0 := (HO.out _ hb2).1
                    have e1 := (HO.out _ hb2).2
                    have f0 : (w1.alloc (.cells #[.int .i64 v0, .int .i64 v1] 35)).cell? ⟨w1.heap.size, 0, none⟩ = some (.int .i64 v0) := new_cell w1 _ _ 0
                    have f1 : (w1.alloc (.cells #[.int .i64 v0, .int .i64 v1] 35)).cell? ⟨w1.heap.size, 1, none⟩ = some (.int .i64 v1) := new_cell w1 _ _ 1
                    have HB4 := Lib.hid hb2
                    clear hb1 hb2 x1 
                    generalize hW2 : World.alloc w1 _ = w2 at e0 e1 f0 f1 HB4 ⊢
                    clear hW2
                    go_quiet (fail)
                    go_wp2_with fail
                    go_roundw
                    case rel => exact ⟨p + 1, by have := PP.out; omega, by go_num, own_drewNL (own_below HOO2.out HB4.out) _, (HXX2.out.below HB4.out HXX2.out.lt).drewN _, below_drewN (below_then HBB2.out HB4.out) _⟩
                    case measure => have := PP.out; simp [intOf]; omega
                  · rw [hI] at HI0
                    have HI := Lib.hid (fun w => HI0 w hlt3)
                    have hpk : 0 ≤ pa ∧ pa < k := by have := HNBD.out; omega
                    obtain ⟨q, rfl⟩ : ∃ q : Nat, pa = q := ⟨pa.toNat, by omega⟩
                    have hqk : q < k := by omega
                    have hqn : q < nb := by have := KK.out; omega
                    have HPP := Lib.hid (show (bx bs k).parent.toNat = q by rw [HPA.out]; simp)
                    have HQ : Hid (∀ w', Below wr.heap.size wr w' → w'.cell? ⟨gO, q * 118 + p * 2, none⟩ = some (.int .i64 v0) ∧ w'.cell? ⟨gO, q * 118 + p * 2 + 1, none⟩ = some (.int .i64 v1)) := fun w' hb' => by
                      have i0 := look_inh (lz := lz) (tbl := tbl) (bs := bs) (i := k) (q := p * 2) (by rw [HND.out]; omega) (by rw [show p * 2 / 2 = p by omega]; exact hI) (by rw [HPP.out]; exact hqk) (by omega)
                      have i1 := look_inh (lz := lz) (tbl := tbl) (bs := bs) (i := k) (q := p * 2 + 1) (by rw [HND.out]; omega) (by rw [show (p * 2 + 1) / 2 = p by omega]; exact hI) (by rw [HPP.out]; exact hqk) (by omega)
                      rw [HPP.out, HLQ.out _ (by omega)] at i0 i1
                      rw [hv0, hv1, i0, i1]
                      exact look_cell2 (own_below hown hb') hqn hlt3
                    clear hL hv0 hv1 ha0 ha1 HJ0 HI0 hown hX hbel hp hnd hI hpk
                    go_wp2_with (first | (go_at_call 12; refine HJ.out.mono ?_; rintro e w1 ⟨rfl, hb1⟩; have x1 := (HX.out _ hb1).1; have x2 := (HX.out _ hb1).2; have t0 := (HQ.out _ hb1).1; have t1 := (HQ.out _ hb1).2; have hw1 := hb1.size; have hl1 : wv.heap.size < w1.heap.size := (by omega); have hl2 : gO < w1.heap.size := (by omega)) | (go_at_call 13; refine (HI.out _).mono ?_; rintro e w3 ⟨rfl, rfl⟩))
                    have hb2 := below_alloc hb1 (.cells #[.int .i64 v0, .int .i64 v1] 35)
                    have e0 := (HO.out _ hb2).1
                    have e1 := (HO.out _ hb2).2
                    have f0 : (w1.alloc (.cells #[.int .i64 v0, .int .i64 v1] 35)).cell? ⟨w1.heap.size, 0, none⟩ = some (.int .i64 v0) := new_cell w1 _ _ 0
                    have f1 : (w1.alloc (.cells #[.int .i64 v0, .int .i64 v1] 35)).cell? ⟨w1.heap.size, 1, none⟩ = some (.int .i64 v1) := new_cell w1 _ _ 1
                    have HB4 := Lib.hid hb2
                    clear hb1 hb2 x1 x2 t0 t1
                    generalize hW2 : World.alloc w1 _ = w2 at e0 e1 f0 f1 HB4 ⊢
                    clear hW2
                    go_quiet (fail)
                    go_wp2_with fail
                    go_roundw
                    case rel => exact ⟨p + 1, by have := PP.out; omega, by go_num, own_drewNL (own_below HOO2.out HB4.out) _, (HXX2.out.below HB4.out HXX2.out.lt).drewN _, below_drewN (below_then HBB2.out HB4.out) _⟩
                    case measure => have := PP.out; simp [intOf]; omega
              · obtain rfl : 59 = p := by omega
                have HB3 := Lib.hid hbel
                have HO3 := Lib.hid hown
                clear hbel hown hX
                go_wp2_with fail
                exact ⟨⟨k + 1, by have := KK.out; omega, by go_num, HO3.out, HB3.out⟩, by have := KK.out; simp [intOf]; omega⟩
          · obtain rfl : nb = k := by omega
            have HB3 := Lib.hid hbel
            clear hbel hown
            go_wp2_with (go_at_call 11; refine (boxed_calls _).mono ?_; rintro e w2 ⟨rfl, hb2⟩)
            go_ret
            exact ⟨rfl, below_then HB3.out hb2⟩
  · have HC : Hid (Calls Tryd.prog 10 #[.slice Ab nb cb, .slice Al nl cl] W fun e w' => e = .returned (.tuple #[.slice none 0 0, .int .i64 3]) ∧ Below W.heap.size W w') :=
      hc.mono fun e w' hh => by
        rcases hh with ⟨⟨v, he, ho, hyes⟩ | ⟨he, _⟩, hb⟩
        · exact absurd hyes hok
        · exact ⟨he, hb⟩
    have HNO := Lib.hid hok
    clear hc h h2 hT hn hl hok
    go_enter Tryd.func4, Tryd.ntmps4
    go_wp2_with (go_at_call 10; refine HC.out.mono ?_; rintro e w1 ⟨rfl, hb1⟩)
    go_loopw [22] (fun i wr => ∃ k : Nat, k ≤ nb ∧ i = .int .i64 k ∧ Hid (∀ j, j < k → ¬ boxBad nl (bx bs j) j) ∧ Below W.heap.size W wr) (fun i _ => nb - (intOf i).toNat)
    case atStart => exact ⟨0, Nat.zero_le _, rfl, fun j hj => absurd hj (by omega), hb1⟩
    case round =>
      clear hb1
      obtain ⟨k, hk, rfl, HALL, hbel⟩ := hrel
      have hw := hbel.size
      by_cases hlt : k < nb
      · obtain ⟨b, off, rfl, hb, c0, c1, c2, c3, c4, hkids, hkl⟩ := (H.out.below hbel (Nat.le_refl _)).at_ (i := k) (by rw [HN.out]; exact hlt)
        clear hkids hkl
        obtain ⟨⟨kd, nd, pa, ka, ks, kc, tx⟩, hx⟩ : ∃ x, x = bx bs k := ⟨_, rfl⟩
        rw [← hx] at c0 c1 c2 c3 c4
        simp only at c0 c1 c2 c3 c4
        have HND := Lib.hid (show (bx bs k).node = nd by rw [← hx])
        have HPA := Lib.hid (show (bx bs k).parent = pa by rw [← hx])
        clear hx
        have KK := Lib.hid (show k ≤ nb ∧ k < nb from ⟨hk, hlt⟩)
        have HBB := Lib.hid hbel
        rcases (show (nd < -1 ∧ k = 0) ∨ (nd < -1 ∧ 0 < k) ∨ (-1 ≤ nd ∧ nl ≤ nd ∧ k = 0) ∨ (-1 ≤ nd ∧ nl ≤ nd ∧ 0 < k) ∨ (-1 ≤ nd ∧ nd < nl ∧ k = 0 ∧ nd < 0) ∨ (-1 ≤ nd ∧ nd < nl ∧ k = 0 ∧ 0 ≤ nd ∧ ¬ pa = -1) ∨ (-1 ≤ nd ∧ nd < nl ∧ 0 < k ∧ pa < 0) ∨ (-1 ≤ nd ∧ nd < nl ∧ 0 < k ∧ 0 ≤ pa ∧ k ≤ pa) ∨ (0 ≤ nd ∧ nd < nl ∧ k = 0 ∧ pa = -1) ∨ (-1 ≤ nd ∧ nd < nl ∧ 0 < k ∧ 0 ≤ pa ∧ pa < k) by omega) with hd | hd | hd | hd | hd | hd | hd | hd | hd | hd
        · have e1 : decide (nd < -1) = true := decide_eq_true (by omega)
          have e3 : ((k : Int) == 0) = true := by simp <;> omega
          clear hd hk hbel
          go_wp2_with (go_at_call 11; refine (boxed_calls _).mono ?_; rintro e w2 ⟨rfl, hb2⟩)
          go_ret
          exact ⟨rfl, below_then (below_alloc HBB.out _) hb2⟩
        · have e1 : decide (nd < -1) = true := decide_eq_true (by omega)
          have e3 : ((k : Int) == 0) = false := by simp <;> omega
          clear hd hk hbel
          go_wp2_with (go_at_call 11; refine (boxed_calls _).mono ?_; rintro e w2 ⟨rfl, hb2⟩)
          go_ret
          exact ⟨rfl, below_then (below_alloc HBB.out _) hb2⟩
        · have e1 : decide (nd < -1) = false := decide_eq_false (by omega)
          have e2 : decide ((nl : Int) ≤ nd) = true := decide_eq_true (by omega)
          have e3 : ((k : Int) == 0) = true := by simp <;> omega
          clear hd hk hbel
          go_wp2_with (go_at_call 11; refine (boxed_calls _).mono ?_; rintro e w2 ⟨rfl, hb2⟩)
          go_ret
          exact ⟨rfl, below_then (below_alloc HBB.out _) hb2⟩
        · have e1 : decide (nd < -1) = false := decide_eq_false (by omega)
          have e2 : decide ((nl : Int) ≤ nd) = true := decide_eq_true (by omega)
          have e3 : ((k : Int) == 0) = false := by simp <;> omega
          clear hd hk hbel
          go_wp2_with (go_at_call 11; refine (boxed_calls _).mono ?_; rintro e w2 ⟨rfl, hb2⟩)
          go_ret
          exact ⟨rfl, below_then (below_alloc HBB.out _) hb2⟩
        · have e1 : decide (nd < -1) = false := decide_eq_false (by omega)
          have e2 : decide ((nl : Int) ≤ nd) = false := decide_eq_false (by omega)
          have e3 : ((k : Int) == 0) = true := by simp <;> omega
          have e7 : decide (nd < 0) = true := decide_eq_true (by omega)
          clear hd hk hbel
          go_wp2_with (go_at_call 11; refine (boxed_calls _).mono ?_; rintro e w2 ⟨rfl, hb2⟩)
          go_ret
          exact ⟨rfl, below_then (below_alloc HBB.out _) hb2⟩
        · have e1 : decide (nd < -1) = false := decide_eq_false (by omega)
          have e2 : decide ((nl : Int) ≤ nd) = false := decide_eq_false (by omega)
          have e3 : ((k : Int) == 0) = true := by simp <;> omega
          have e7 : decide (nd < 0) = false := decide_eq_false (by omega)
          have e4 : (pa != -1) = true := by simp <;> omega
          clear hd hk hbel
          go_wp2_with (go_at_call 11; refine (boxed_calls _).mono ?_; rintro e w2 ⟨rfl, hb2⟩)
          go_ret
          exact ⟨rfl, below_then (below_alloc HBB.out _) hb2⟩
        · have e1 : decide (nd < -1) = false := decide_eq_false (by omega)
          have e2 : decide ((nl : Int) ≤ nd) = false := decide_eq_false (by omega)
          have e3 : ((k : Int) == 0) = false := by simp <;> omega
          have e5 : decide (pa < 0) = true := decide_eq_true (by omega)
          clear hd hk hbel
          go_wp2_with (go_at_call 11; refine (boxed_calls _).mono ?_; rintro e w2 ⟨rfl, hb2⟩)
          go_ret
          exact ⟨rfl, below_then (below_alloc HBB.out _) hb2⟩
        · have e1 : decide (nd < -1) = false := decide_eq_false (by omega)
          have e2 : decide ((nl : Int) ≤ nd) = false := decide_eq_false (by omega)
          have e3 : ((k : Int) == 0) = false := by simp <;> omega
          have e5 : decide (pa < 0) = false := decide_eq_false (by omega)
          have e6 : decide ((k : Int) ≤ pa) = true := decide_eq_true (by omega)
          clear hd hk hbel
          go_wp2_with (go_at_call 11; refine (boxed_calls _).mono ?_; rintro e w2 ⟨rfl, hb2⟩)
          go_ret
          exact ⟨rfl, below_then (below_alloc HBB.out _) hb2⟩
        · have HNB : Hid (¬ boxBad nl (bx bs k) k) := by show ¬ _; unfold boxBad; rw [HND.out, HPA.out]; omega
          have e1 : decide (nd < -1) = false := decide_eq_false (by omega)
          have e2 : decide ((nl : Int) ≤ nd) = false := decide_eq_false (by omega)
          have e3 : ((k : Int) == 0) = true := by simp <;> omega
          have e7 : decide (nd < 0) = false := decide_eq_false (by omega)
          have e4 : (pa != -1) = false := by simp <;> omega
          clear hd hk hbel
          go_wp2_with fail
          exact ⟨⟨k + 1, by have := KK.out; omega, by go_num, fun j hj => by
            by_cases e : j = k
            · subst e; exact HNB.out
            · exact HALL.out j (by omega), below_alloc HBB.out _⟩, by have := KK.out; simp [intOf]; omega⟩
        · have HNB : Hid (¬ boxBad nl (bx bs k) k) := by show ¬ _; unfold boxBad; rw [HND.out, HPA.out]; omega
          have e1 : decide (nd < -1) = false := decide_eq_false (by omega)
          have e2 : decide ((nl : Int) ≤ nd) = false := decide_eq_false (by omega)
          have e3 : ((k : Int) == 0) = false := by simp <;> omega
          have e5 : decide (pa < 0) = false := decide_eq_false (by omega)
          have e6 : decide ((k : Int) ≤ pa) = false := decide_eq_false (by omega)
          clear hd hk hbel
          go_wp2_with fail
          exact ⟨⟨k + 1, by have := KK.out; omega, by go_num, fun j hj => by
            by_cases e : j = k
            · subst e; exact HNB.out
            · exact HALL.out j (by omega), below_alloc HBB.out _⟩, by have := KK.out; simp [intOf]; omega⟩
      · obtain rfl : nb = k := by omega
        exact absurd (fun j hj => HALL.out j (by rw [HN.out] at hj; exact hj)) HNO.out
end Go.Proofs.YtkppignoomnmdaaDoor
