/- Several texts in one: BoxesLaw, StkA, StkR1. -/
import Derived.Test.YtkmmlcnoeeaekaaGreatDoorPaintListM2
import Derived.Test.YtkmmlcnoeeaekaaGreatDoorPaintListM22
import Derived.Outline
import Derived.Test.YtkmmlcnoeeaekaaGreatDoorPaintListM4
import Derived.BigQuiet
/- boxes.Out; the closed fact 'boxed'; the walk of BoxesChecks. -/
namespace Go.Proofs.YtkmmlcnoeeaekaaGreatDoor
open Go.RowKit
set_option linter.unusedVariables false
/-- P308: 1 floats, 2 is placed. -/
def outN (p f : Int) : Int := if p = 2 ∨ p = 3 then 2 else if f = 1 ∨ f = 2 then 1 else 0
set_option maxHeartbeats 400000 in
theorem out_calls (cs : Array Value) (p f : Int) (w : World) (h3 : cs[3]? = some (.int .i64 p)) (h5 : cs[5]? = some (.int .i64 f)) :
    Calls Tryz.prog 9 #[.agg cs] w fun e w' => e = .returned (.int .i64 (outN p f)) ∧ Below w.heap.size w w' := by
  have c3 := (new_cell w cs 35 3).trans h3
  have c5 := (new_cell w cs 35 5).trans h5
  clear h3 h5
  by_cases p2 : p = 2
  · subst p2
    go_enter Tryz.func9, Tryz.ntmps9
    go_wp2_with fail
    go_ret
    exact ⟨ret_i (by unfold outN; simp [*]), below_alloc (Below.refl _ _) _⟩
  by_cases p3 : p = 3
  · subst p3
    go_enter Tryz.func9, Tryz.ntmps9
    go_wp2_with fail
    go_ret
    exact ⟨ret_i (by unfold outN; simp [*]), below_alloc (Below.refl _ _) _⟩
  have e2 : (p == 2) = false := by simpa using p2
  have e3 : (p == 3) = false := by simpa using p3
  by_cases f1 : f = 1
  · subst f1
    go_enter Tryz.func9, Tryz.ntmps9
    go_wp2_with fail
    go_ret
    exact ⟨ret_i (by unfold outN; simp [*]), below_alloc (Below.refl _ _) _⟩
  by_cases f2 : f = 2
  · subst f2
    go_enter Tryz.func9, Tryz.ntmps9
    go_wp2_with fail
    go_ret
    exact ⟨ret_i (by unfold outN; simp [*]), below_alloc (Below.refl _ _) _⟩
  have e4 : (f == 1) = false := by simpa using f1
  have e5 : (f == 2) = false := by simpa using f2
  · go_enter Tryz.func9, Tryz.ntmps9
    go_wp2_with fail
    go_ret
    exact ⟨ret_i (by unfold outN; simp [*]), below_alloc (Below.refl _ _) _⟩

/-- The zero value of a style (118 cells: the seat's loader leaves it out). -/
def zst : Array Value := Array.replicate 118 (.int .i64 0)
theorem zst_size : zst.size = 118 := by simp [zst]
theorem zst_run (w : World) : (zeroValue 35).run Tryz.prog w = .ok (.agg zst) w := by kernel_rfl
attribute [local go_sem] zst_run zst_size
def bad1 (g : Nat) : List BoxV := [⟨4, 0, -1, some ⟨g, 0, none⟩, [0], 1, ⟨#[]⟩⟩]
theorem bad1_no (g : Nat) : boxesE (bad1 g) = 3 := no_of_kids _ 0 (by simp [bad1]) (by simp [bad1, bx, kidsOk])
set_option maxRecDepth 100000 in
set_option maxHeartbeats 1000000 in
theorem boxed_calls (w : World) :
    Calls Tryz.prog 8 #[] w fun e w' => e = .returned (.bool true) ∧ Below w.heap.size w w' := by
  have hc := check_calls (some ⟨w.heap.size + 1, 0, none⟩) 1 1 (w.heap.size + 2) (bad1 w.heap.size) ((w.alloc (.cells #[.int .i64 0] 3)).alloc (.cells #[.int .i64 4, .int .i64 0, .int .i64 (-1), .slice (some ⟨w.heap.size, 0, none⟩) 1 1, .string ⟨#[]⟩] 72)) rfl (by
    intro i hi
    have h0 : i = 0 := by simp [bad1] at hi; omega
    subst h0
    have e1 : (w.alloc (.cells #[.int .i64 0] 3)).heap.size = w.heap.size + 1 := alloc_size _ _
    have nc := new_cell (w.alloc (.cells #[.int .i64 0] 3)) #[.int .i64 4, .int .i64 0, .int .i64 (-1), .slice (some ⟨w.heap.size, 0, none⟩) 1 1, .string ⟨#[]⟩] 72
    rw [e1] at nc
    refine ⟨w.heap.size + 1, 0, rfl, by omega, nc 0, nc 1, nc 2, nc 3, nc 4, ?_, by simp [bad1, bx]⟩
    have hh := (Holds.new w #[.int .i64 0] 3).below ((Below.refl (w.heap.size + 1) _).alloc (by simp) (.cells #[.int .i64 4, .int .i64 0, .int .i64 (-1), .slice (some ⟨w.heap.size, 0, none⟩) 1 1, .string ⟨#[]⟩] 72)) (Nat.le_refl _)
    exact hh.more (by omega)) (by omega) (by simp)
  rw [bad1_no] at hc
  have HC := Lib.hid hc
  clear hc
  have hbel := Below.refl w.heap.size w
  go_enter Tryz.func8, Tryz.ntmps8
  go_wp2_with (first | (go_at_call 32; refine HC.out.mono ?_; rintro e w1 ⟨rfl, hb1⟩) | (go_at_call 9; refine (out_calls _ 0 1 _ rfl rfl).mono ?_; rintro e w2 ⟨rfl, hb2⟩))
  go_ret
  refine ⟨rfl, ?_⟩
  have hb0 : Below w.heap.size w ((w.alloc (.cells #[.int .i64 0] 3)).alloc (.cells #[.int .i64 4, .int .i64 0, .int .i64 (-1), .slice (some ⟨w.heap.size, 0, none⟩) 1 1, .string ⟨#[]⟩] 72)) := below_alloc (below_alloc (Below.refl _ _) _) _
  exact below_then (below_then hb0 hb1) hb2
theorem boxesE_or (bs : List BoxV) : boxesE bs = 0 ∨ boxesE bs = 3 := by
  unfold boxesE
  split
  · exact .inl rfl
  · exact .inr rfl
end Go.Proofs.YtkmmlcnoeeaekaaGreatDoor
/- Contract of stack.Check. -/
namespace Go.Proofs.YtkmmlcnoeeaekaaGreatDoor
open Go.RowKit
set_option linter.unusedVariables false
set_option linter.unusedSimpArgs false

def layC (Ab : Option Addr) (nb cb : Nat) (Af : Option Addr) (nf cf : Nat) (W1 H1 : Int) : Array Value := #[.slice Ab nb cb, .slice Af nf cf, .int .i64 W1, .int .i64 H1]
set_option maxRecDepth 100000 in
set_option maxHeartbeats 4000000 in
theorem scheck_calls (Ab : Option Addr) (nb cb : Nat) (bs : List BoxV) (Af : Option Addr) (nf cf : Nat) (fs : List FragV) (W1 H1 : Int) (B : Nat) (w : World) (hn : bs.length = nb) (hf : fs.length = nf) (h : Boxes w B Ab bs) (h2 : Frags w B Af fs) (hB : B ≤ w.heap.size) (hm : nb ≤ 1048576) (hm2 : nf ≤ 1048576) :
    Calls Tryz.prog 36 #[.agg #[.slice Ab nb cb, .slice Af nf cf, .int .i64 W1, .int .i64 H1]] w fun e w' => e = .returned (.int .i64 (layE bs fs)) ∧ Below w.heap.size w w' := by
  have hcb : ∀ w', Below w.heap.size w w' → Calls Tryz.prog 32 #[.slice Ab nb cb] w' fun e w'' => e = .returned (.int .i64 (boxesE bs)) ∧ Below w'.heap.size w' w'' := fun w' hb => check_calls Ab nb cb B bs w' hn (h.below hb hB) (by omega) (by have := hb.size; omega)
  have HN := Lib.hid hn
  have HNF := Lib.hid hf
  have H := Lib.hid h
  have H2 := Lib.hid h2
  have hL := Blk.new w 42 (layC Ab nb cb Af nf cf W1 H1)
  have hbel0 := below_alloc (Below.refl w.heap.size w) (.cells (layC Ab nb cb Af nf cf W1 H1) 42)
  unfold layC at hL hbel0
  by_cases hok : BoxesOk bs
  · rw [boxesE_yes bs hok] at hcb
    have HOKB := Lib.hid hok
    have HC := Lib.hid hcb
    have HLB := Lib.hid hL
    have HB0 := Lib.hid hbel0
    clear hn hf h h2 hok hcb hL hbel0
    go_enter Tryz.func36, Tryz.ntmps36
    go_wp2_with (go_at_call 32; refine (HC.out _ HB0.out).mono ?_; rintro e w1 ⟨rfl, hb1⟩; have hL1 := HLB.out.below hb1 HLB.out.lt; have l1 : w1.cell? ⟨w.heap.size, 1, none⟩ = some (.slice Af nf cf) := hL1.cell 1; have hbel1 := below_then HB0.out hb1)
    have HL1 := Lib.hid hL1
    have HB1 := Lib.hid hbel1
    clear hL1 hbel1 l1 hb1
    go_loopw [15] (fun i wr => ∃ k : Nat, k ≤ nf ∧ i = .int .i64 k ∧ Blk wr w.heap.size 42 (layC Ab nb cb Af nf cf W1 H1) ∧ Below w.heap.size w wr ∧ Hid (∀ i, i < k → fragOk bs i (fr fs i))) (fun i _ => nf - (intOf i).toNat)
    case atStart => exact ⟨0, Nat.zero_le _, rfl, HL1.out, HB1.out, fun i hi => absurd hi (by omega)⟩
    case round =>
      clear HL1 HB1 HB0 HLB HC
      obtain ⟨k, hk, rfl, hL, hbel, HALL⟩ := hrel
      have hw := hbel.size
      have HLL := Lib.hid hL
      have HBB := Lib.hid hbel
      have hLlt := hL.lt
      by_cases hlt : k < nf
      · obtain ⟨b, off, rfl, hb, c0, c1, c2, c3, c4, c5, c6, c7⟩ := (H2.out.below hbel hB).at_ (k := k) (by rw [HNF.out]; exact hlt)
        obtain ⟨x, hx⟩ : ∃ x, x = fr fs k := ⟨_, rfl⟩
        rw [← hx] at c0 c1 c2 c3 c4 c5 c6 c7
        have HX := Lib.hid hx
        have KK := Lib.hid (show k ≤ nf ∧ k < nf from ⟨hk, hlt⟩)
        have HNO : Hid (¬ fragOk bs k x → layE bs fs = 3) := fun hno => layE_frag (k := k) (by rw [HNF.out]; exact hlt) (by rw [← HX.out]; exact hno)
        have hN := Blk.new wr 88 (fragC x)
        have hL2 := hL.alloc (.cells (fragC x) 88)
        have hbel2 := below_alloc hbel (.cells (fragC x) 88)
        have HL2 := Lib.hid hL2
        have HB2 := Lib.hid hbel2
        have f0 : (wr.alloc (.cells (fragC x) 88)).cell? ⟨wr.heap.size, 0, none⟩ = some (.int .i64 x.box) := hN.cell 0
        have f1 : (wr.alloc (.cells (fragC x) 88)).cell? ⟨wr.heap.size, 1, none⟩ = some (.int .i64 x.node) := hN.cell 1
        have f2 : (wr.alloc (.cells (fragC x) 88)).cell? ⟨wr.heap.size, 2, none⟩ = some (.int .i64 x.par) := hN.cell 2
        have l0 : (wr.alloc (.cells (fragC x) 88)).cell? ⟨w.heap.size, 0, none⟩ = some (.slice Ab nb cb) := hL2.cell 0
        have HF0 := Lib.hid f0
        have HF1 := Lib.hid f1
        have HF2 := Lib.hid f2
        have HL0 := Lib.hid l0
        have HBX := Lib.hid (fun i hi => (H.out.below hbel2 hB).at_ (i := i) hi)
        unfold fragC at HF0 HF1 HF2 HL0 HBX HL2 HB2
        clear hL hbel hx hN hL2 hbel2 f0 f1 f2 l0 hk hw
        go_wp2_with fail
        generalize hW2 : World.alloc wr _ = w2 at HF0 HF1 HF2 HL0 HBX HL2 HB2 ⊢
        have f0 := HF0.out
        have f1 := HF1.out
        have f2 := HF2.out
        have l0 := HL0.out
        clear HF0 HF1 HF2 HL0 c0 c1 c2 c3 c4 c5 c6 c7 hW2
        by_cases g1 : x.box < 0
        · have d1 : decide (x.box < 0) = true := decide_eq_true g1
          have HR : Hid (layE bs fs = 3) := HNO.out (fun hh => by have := hh.1; omega)
          go_quiet (fail)
          go_wp2_with fail
          go_ret
          exact ⟨ret_i HR.out.symm, below_drewN HB2.out _⟩
        have d1 : decide (x.box < 0) = false := decide_eq_false g1
        by_cases g2 : (nb : Int) ≤ x.box
        · have d2 : decide ((nb : Int) ≤ x.box) = true := decide_eq_true g2
          have HR : Hid (layE bs fs = 3) := HNO.out (fun hh => by have := hh.2.1; rw [HN.out] at this; omega)
          go_quiet (fail)
          go_wp2_with fail
          go_ret
          exact ⟨ret_i HR.out.symm, below_drewN HB2.out _⟩
        have d2 : decide ((nb : Int) ≤ x.box) = false := decide_eq_false g2
        obtain ⟨m, hmx⟩ : ∃ m : Nat, x.box = (m : Int) := ⟨x.box.toNat, by omega⟩
        have hmn : m < nb := by omega
        obtain ⟨b2, off2, rfl, hb2, e0, e1, e2, e3, e4, e5, e6⟩ := HBX.out m (by rw [HN.out]; exact hmn)
        obtain ⟨nd, hnd⟩ : ∃ nd, nd = (bx bs m).node := ⟨_, rfl⟩
        rw [← hnd] at e1
        rw [hmx] at f0 d1 d2
        have d2' : decide (nb ≤ m) = false := decide_eq_false (by omega)
        have HM := Lib.hid hmx
        have HND := Lib.hid hnd
        clear e0 e2 e3 e4 e5 e6 hmx hnd g1 g2 HBX
        have HBN : Hid (∀ P : Prop, (x.node = nd → (k = 0 → x.par = -1) → (0 < k → 0 ≤ x.par ∧ x.par < k) → P) → fragOk bs k x → P) := fun P hP hh => hP (by rw [hh.2.2.1, HM.out, HND.out]; simp) hh.2.2.2.1 hh.2.2.2.2
        by_cases g3 : x.node = nd
        · have d3 : (x.node != nd) = false := by simp [g3]
          have G3 := Lib.hid g3
          clear g3
          by_cases g4 : k = 0
          · have d4 : ((k : Int) == 0) = true := by simp [g4]
            have d4' : (k == 0) = true := by simp [g4]
            have d5 : decide ((0 : Int) < (k : Int)) = false := decide_eq_false (by omega)
            have d5' : decide (0 < k) = false := decide_eq_false (by omega)
            have G4 := Lib.hid g4
            clear g4
            by_cases g6 : x.par = -1
            · have d6 : (x.par != -1) = false := by simp [g6]
              have G6 := Lib.hid g6
              clear g6
              go_quiet (fail)
              go_wp2_with fail
              go_roundw
              case rel => exact ⟨k + 1, by have := KK.out; omega, by go_num, HL2.out.drewN _, below_drewN HB2.out _, fun i hi => by
                by_cases e : i = k
                · subst e; rw [← HX.out]; exact ⟨by rw [HM.out]; omega, by rw [HM.out, HN.out]; omega, by rw [G3.out, HM.out, HND.out]; simp, fun _ => G6.out, fun h0 => by have := G4.out; omega⟩
                · exact HALL.out i (by omega)⟩
              case measure => have := KK.out; simp [intOf]; omega
            · have d6 : (x.par != -1) = true := by simp [g6]
              have HR : Hid (layE bs fs = 3) := HNO.out (HBN.out _ (fun _ h4 _ => g6 (h4 G4.out)))
              clear g6
              go_quiet (fail)
              go_wp2_with fail
              go_ret
              exact ⟨ret_i HR.out.symm, below_drewN HB2.out _⟩
          · have d4 : ((k : Int) == 0) = false := by simp [g4]
            have d4' : (k == 0) = false := by simp [g4]
            have d5 : decide ((0 : Int) < (k : Int)) = true := decide_eq_true (by omega)
            have d5' : decide (0 < k) = true := decide_eq_true (by omega)
            by_cases g6 : x.par < 0
            · have d6 : decide (x.par < 0) = true := decide_eq_true g6
              have HR : Hid (layE bs fs = 3) := HNO.out (HBN.out _ (fun _ _ h5 => by have := h5 (by omega); omega))
              go_quiet (fail)
              go_wp2_with fail
              go_ret
              exact ⟨ret_i HR.out.symm, below_drewN HB2.out _⟩
            have d6 : decide (x.par < 0) = false := decide_eq_false g6
            by_cases g7 : (k : Int) ≤ x.par
            · have d7 : decide ((k : Int) ≤ x.par) = true := decide_eq_true g7
              have HR : Hid (layE bs fs = 3) := HNO.out (HBN.out _ (fun _ _ h5 => by have := h5 (by omega); omega))
              go_quiet (fail)
              go_wp2_with fail
              go_ret
              exact ⟨ret_i HR.out.symm, below_drewN HB2.out _⟩
            have d7 : decide ((k : Int) ≤ x.par) = false := decide_eq_false g7
            have G7 := Lib.hid (show ¬ k = 0 ∧ 0 ≤ x.par ∧ x.par < k from ⟨g4, by omega, by omega⟩)
            go_quiet (fail)
            go_wp2_with fail
            go_roundw
            case rel => exact ⟨k + 1, by have := KK.out; omega, by go_num, HL2.out.drewN _, below_drewN HB2.out _, fun i hi => by
              by_cases e : i = k
              · subst e; rw [← HX.out]; exact ⟨by rw [HM.out]; omega, by rw [HM.out, HN.out]; omega, by rw [G3.out, HM.out, HND.out]; simp, fun h0 => absurd h0 G7.out.1, fun _ => G7.out.2⟩
              · exact HALL.out i (by omega)⟩
            case measure => have := KK.out; simp [intOf]; omega
        · have d3 : (x.node != nd) = true := by simp [g3]
          have HR : Hid (layE bs fs = 3) := HNO.out (HBN.out _ (fun h3 _ _ => g3 h3))
          clear g3
          go_quiet (fail)
          go_wp2_with fail
          go_ret
          exact ⟨ret_i HR.out.symm, below_drewN HB2.out _⟩
      · obtain rfl : nf = k := by omega
        have l1 : wr.cell? ⟨w.heap.size, 1, none⟩ = some (.slice Af nf cf) := hL.cell 1
        by_cases h0 : nf = 0
        · have HR : Hid (layE bs fs = 3) := layE_no (fun hh => by have := hh.2.2.1; rw [HNF.out] at this; omega)
          have e0 : ((nf : Int) == 0) = true := by simp [h0]
          clear hL hbel hlt hk hw h0
          go_wp2_with fail
          go_ret
          exact ⟨ret_i HR.out.symm, HBB.out⟩
        · obtain ⟨b, off, rfl, hb, c0, -⟩ := (H2.out.below hbel hB).at_ (k := 0) (by rw [HNF.out]; omega)
          have e0 : ((nf : Int) == 0) = false := by simp [h0]
          have hnf : 0 < nf := by omega
          obtain ⟨xb, hxb⟩ : ∃ xb, xb = (fr fs 0).box := ⟨_, rfl⟩
          rw [← hxb] at c0
          simp only [Nat.zero_mul, Nat.add_zero] at c0
          have HXB := Lib.hid hxb
          clear hxb hL hbel hlt hk hw h0
          by_cases g0 : xb = 0
          · have HR : Hid (layE bs fs = 0) := layE_yes ⟨HOKB.out, fun i hi => HALL.out i (by rw [← HNF.out]; exact hi), by rw [HNF.out]; exact hnf, by rw [← HXB.out]; exact g0⟩
            have d0 : (xb != 0) = false := by simp [g0]
            clear g0
            go_wp2_with fail
            go_ret
            exact ⟨ret_i HR.out.symm, HBB.out⟩
          · have HR : Hid (layE bs fs = 3) := layE_no (fun hh => by have := hh.2.2.2; rw [← HXB.out] at this; exact g0 this)
            have d0 : (xb != 0) = true := by simp [g0]
            clear g0
            go_wp2_with fail
            go_ret
            exact ⟨ret_i HR.out.symm, HBB.out⟩
  · rw [boxesE_no bs hok] at hcb
    have HC := Lib.hid hcb
    have HB0 := Lib.hid hbel0
    have HR : Hid (layE bs fs = 3) := layE_no (fun hh => hok hh.1)
    clear hn hf h h2 hok hcb hL hbel0
    go_enter Tryz.func36, Tryz.ntmps36
    go_wp2_with (go_at_call 32; refine (HC.out _ HB0.out).mono ?_; rintro e w1 ⟨rfl, hb1⟩)
    go_ret
    exact ⟨ret_i HR.out.symm, below_then HB0.out hb1⟩
end Go.Proofs.YtkmmlcnoeeaekaaGreatDoor
/- Contract of the reference's LayoutCheck. -/
namespace Go.Proofs.YtkmmlcnoeeaekaaGreatDoor
open Go.RowKit
set_option linter.unusedVariables false
set_option linter.unusedSimpArgs false

set_option maxRecDepth 100000 in
set_option maxHeartbeats 4000000 in
theorem rlay_calls (Ab : Option Addr) (nb cb : Nat) (bs : List BoxV) (Af : Option Addr) (nf cf : Nat) (fs : List FragV) (W1 H1 : Int) (B : Nat) (w : World) (hn : bs.length = nb) (hf : fs.length = nf) (h : Boxes w B Ab bs) (h2 : Frags w B Af fs) (hB : B ≤ w.heap.size) (hm : nb ≤ 1048576) (hm2 : nf ≤ 1048576) :
    Calls Tryz.prog 17 #[.agg #[.slice Ab nb cb, .slice Af nf cf, .int .i64 W1, .int .i64 H1]] w fun e w' => e = .returned (.bool (layE bs fs == 0)) ∧ Below w.heap.size w w' := by
  have hcb : ∀ w', Below w.heap.size w w' → Calls Tryz.prog 46 #[.slice Ab nb cb] w' fun e w'' => e = .returned (.bool (boxesE bs == 0)) ∧ Below w'.heap.size w' w'' := fun w' hb => rcheck_calls Ab nb cb B bs w' hn (h.below hb hB) (by omega) (by have := hb.size; omega)
  have HN := Lib.hid hn
  have HNF := Lib.hid hf
  have H := Lib.hid h
  have H2 := Lib.hid h2
  have hL := Blk.new w 42 (layC Ab nb cb Af nf cf W1 H1)
  have hbel0 := below_alloc (Below.refl w.heap.size w) (.cells (layC Ab nb cb Af nf cf W1 H1) 42)
  unfold layC at hL hbel0
  by_cases hok : BoxesOk bs
  · have hcb' : ∀ w', Below w.heap.size w w' → Calls Tryz.prog 46 #[.slice Ab nb cb] w' fun e w'' => e = .returned (.bool true) ∧ Below w'.heap.size w' w'' := by rw [boxesE_yes bs hok] at hcb; exact hcb
    have HOKB := Lib.hid hok
    have HC := Lib.hid hcb'
    have HLB := Lib.hid hL
    have HB0 := Lib.hid hbel0
    clear hn hf h h2 hok hcb hcb' hL hbel0
    by_cases h0 : nf = 0
    · have HR : Hid (layE bs fs = 3) := layE_no (fun hh => by have := hh.2.2.1; rw [HNF.out] at this; omega)
      have e0 : ((nf : Int) == 0) = true := by simp [h0]
      have e0' : (nf == 0) = true := by simp [h0]
      clear h0
      go_enter Tryz.func17, Tryz.ntmps17
      go_wp2_with (go_at_call 46; refine (HC.out _ HB0.out).mono ?_; rintro e w1 ⟨rfl, hb1⟩; have hL1 := HLB.out.below hb1 HLB.out.lt; have l1 : w1.cell? ⟨w.heap.size, 1, none⟩ = some (.slice Af nf cf) := hL1.cell 1; have hbel1 := below_then HB0.out hb1)
      go_ret
      exact ⟨ret_b0 HR.out, hbel1⟩
    have hnf : 0 < nf := by omega
    have e0 : ((nf : Int) == 0) = false := by simp [h0]
    have e0' : (nf == 0) = false := by simp [h0]
    obtain ⟨b, off, rfl, hb, -⟩ := H2.out.at_ (k := 0) (by rw [HNF.out]; omega)
    have hf0 : ∀ w', Below w.heap.size w w' → w'.cell? ⟨b, off, none⟩ = some (.int .i64 (fr fs 0).box) := fun w' hb' => by
      obtain ⟨b', off', e, _, c0, -⟩ := (H2.out.below hb' hB).at_ (k := 0) (by rw [HNF.out]; omega)
      injection e with e
      injection e with e1 e2
      subst e1; subst e2
      simpa using c0
    obtain ⟨xb, hxb⟩ : ∃ xb, xb = (fr fs 0).box := ⟨_, rfl⟩
    rw [← hxb] at hf0
    have HF0 := Lib.hid hf0
    have HXB := Lib.hid hxb
    clear hxb hf0 h0
    by_cases g0 : xb = 0
    · have d0 : (xb != 0) = false := by simp [g0]
      have G0 := Lib.hid g0
      clear g0
      go_enter Tryz.func17, Tryz.ntmps17
      go_wp2_with (go_at_call 46; refine (HC.out _ HB0.out).mono ?_; rintro e w1 ⟨rfl, hb1⟩; have hL1 := HLB.out.below hb1 HLB.out.lt; have l1 : w1.cell? ⟨w.heap.size, 1, none⟩ = some (.slice (some ⟨b, off, none⟩) nf cf) := hL1.cell 1; have hbel1 := below_then HB0.out hb1; have x0 := HF0.out _ hbel1)
      have HL1 := Lib.hid hL1
      have HB1 := Lib.hid hbel1
      clear hL1 hbel1 l1 hb1 x0
      go_loopw [26] (fun i wr => ∃ k : Nat, k ≤ nf ∧ i = .int .i64 k ∧ Blk wr w.heap.size 42 (layC Ab nb cb (some ⟨b, off, none⟩) nf cf W1 H1) ∧ Below w.heap.size w wr ∧ Hid (∀ i, i < k → fragOk bs i (fr fs i))) (fun i _ => nf - (intOf i).toNat)
      case atStart => exact ⟨0, Nat.zero_le _, rfl, HL1.out, HB1.out, fun i hi => absurd hi (by omega)⟩
      case round =>
        clear HL1 HB1 HB0 HLB HC HF0
        obtain ⟨k, hk, rfl, hL, hbel, HALL⟩ := hrel
        have hw := hbel.size
        have HLL := Lib.hid hL
        have HBB := Lib.hid hbel
        have hLlt := hL.lt
        by_cases hlt : k < nf
        · obtain ⟨b', off', e', hb', c0, c1, c2, c3, c4, c5, c6, c7⟩ := (H2.out.below hbel hB).at_ (k := k) (by rw [HNF.out]; exact hlt)
          injection e' with e'
          injection e' with e1 e2
          subst e1; subst e2
          obtain ⟨x, hx⟩ : ∃ x, x = fr fs k := ⟨_, rfl⟩
          rw [← hx] at c0 c1 c2 c3 c4 c5 c6 c7
          have HX := Lib.hid hx
          have KK := Lib.hid (show k ≤ nf ∧ k < nf from ⟨hk, hlt⟩)
          have HNO : Hid (¬ fragOk bs k x → layE bs fs = 3) := fun hno => layE_frag (k := k) (by rw [HNF.out]; exact hlt) (by rw [← HX.out]; exact hno)
          have hN := Blk.new wr 88 (fragC x)
          have hL2 := hL.alloc (.cells (fragC x) 88)
          have hbel2 := below_alloc hbel (.cells (fragC x) 88)
          have HL2 := Lib.hid hL2
          have HB2 := Lib.hid hbel2
          have f0 : (wr.alloc (.cells (fragC x) 88)).cell? ⟨wr.heap.size, 0, none⟩ = some (.int .i64 x.box) := hN.cell 0
          have f1 : (wr.alloc (.cells (fragC x) 88)).cell? ⟨wr.heap.size, 1, none⟩ = some (.int .i64 x.node) := hN.cell 1
          have f2 : (wr.alloc (.cells (fragC x) 88)).cell? ⟨wr.heap.size, 2, none⟩ = some (.int .i64 x.par) := hN.cell 2
          have l0 : (wr.alloc (.cells (fragC x) 88)).cell? ⟨w.heap.size, 0, none⟩ = some (.slice Ab nb cb) := hL2.cell 0
          have HF0 := Lib.hid f0
          have HF1 := Lib.hid f1
          have HF2 := Lib.hid f2
          have HL0 := Lib.hid l0
          have HBX := Lib.hid (fun i hi => (H.out.below hbel2 hB).at_ (i := i) hi)
          unfold fragC at HF0 HF1 HF2 HL0 HBX HL2 HB2
          clear hL hbel hx hN hL2 hbel2 f0 f1 f2 l0 hk hw e0 e0' hnf d0
          go_wp2_with fail
          generalize hW2 : World.alloc wr _ = w2 at HF0 HF1 HF2 HL0 HBX HL2 HB2 ⊢
          have f0 := HF0.out
          have f1 := HF1.out
          have f2 := HF2.out
          have l0 := HL0.out
          clear HF0 HF1 HF2 HL0 c0 c1 c2 c3 c4 c5 c6 c7 hW2
          by_cases g1 : x.box < 0
          · have d1 : decide (x.box < 0) = true := decide_eq_true g1
            have HR : Hid (layE bs fs = 3) := HNO.out (fun hh => by have := hh.1; omega)
            go_quiet (fail)
            go_wp2_with fail
            go_ret
            exact ⟨ret_b0 HR.out, below_drewN HB2.out _⟩
          have d1 : decide (x.box < 0) = false := decide_eq_false g1
          by_cases g2 : (nb : Int) ≤ x.box
          · have d2 : decide ((nb : Int) ≤ x.box) = true := decide_eq_true g2
            have HR : Hid (layE bs fs = 3) := HNO.out (fun hh => by have := hh.2.1; rw [HN.out] at this; omega)
            go_quiet (fail)
            go_wp2_with fail
            go_ret
            exact ⟨ret_b0 HR.out, below_drewN HB2.out _⟩
          have d2 : decide ((nb : Int) ≤ x.box) = false := decide_eq_false g2
          obtain ⟨m, hmx⟩ : ∃ m : Nat, x.box = (m : Int) := ⟨x.box.toNat, by omega⟩
          have hmn : m < nb := by omega
          obtain ⟨b2, off2, rfl, hb2, e0, e1, e2, e3, e4, e5, e6⟩ := HBX.out m (by rw [HN.out]; exact hmn)
          obtain ⟨nd, hnd⟩ : ∃ nd, nd = (bx bs m).node := ⟨_, rfl⟩
          rw [← hnd] at e1
          rw [hmx] at f0 d1 d2
          have d2' : decide (nb ≤ m) = false := decide_eq_false (by omega)
          have HM := Lib.hid hmx
          have HND := Lib.hid hnd
          clear e0 e2 e3 e4 e5 e6 hmx hnd g1 g2 HBX
          have HBN : Hid (∀ P : Prop, (x.node = nd → (k = 0 → x.par = -1) → (0 < k → 0 ≤ x.par ∧ x.par < k) → P) → fragOk bs k x → P) := fun P hP hh => hP (by rw [hh.2.2.1, HM.out, HND.out]; simp) hh.2.2.2.1 hh.2.2.2.2
          by_cases g3 : nd = x.node
          · have d3 : (nd != x.node) = false := by simp [g3]
            have G3 := Lib.hid g3
            clear g3
            by_cases g4 : (k : Int) ≤ x.par
            · have d4 : decide ((k : Int) ≤ x.par) = true := decide_eq_true g4
              have HR : Hid (layE bs fs = 3) := HNO.out (HBN.out _ (fun _ h4 h5 => by
                by_cases e : k = 0
                · have := h4 e; omega
                · have := h5 (by omega); omega))
              go_quiet (fail)
              go_wp2_with fail
              go_ret
              exact ⟨ret_b0 HR.out, below_drewN HB2.out _⟩
            have d4 : decide ((k : Int) ≤ x.par) = false := decide_eq_false g4
            by_cases g5 : x.par < 0
            · have d5 : decide (x.par < 0) = true := decide_eq_true g5
              by_cases g6 : k = 0
              · have d6 : decide ((0 : Int) < (k : Int)) = false := decide_eq_false (by omega)
                have d6' : decide (0 < k) = false := decide_eq_false (by omega)
                have G6 := Lib.hid g6
                clear g6 g4
                by_cases g7 : x.par < -1
                · have d7 : decide (x.par < -1) = true := decide_eq_true g7
                  have HR : Hid (layE bs fs = 3) := HNO.out (HBN.out _ (fun _ h4 _ => by have := h4 G6.out; omega))
                  go_quiet (fail)
                  go_wp2_with fail
                  go_ret
                  exact ⟨ret_b0 HR.out, below_drewN HB2.out _⟩
                · have d7 : decide (x.par < -1) = false := decide_eq_false g7
                  have G7 := Lib.hid (show x.par = -1 by omega)
                  clear g7
                  go_quiet (fail)
                  go_wp2_with fail
                  go_roundw
                  case rel => exact ⟨k + 1, by have := KK.out; omega, by go_num, HL2.out.drewN _, below_drewN HB2.out _, fun i hi => by
                    by_cases e : i = k
                    · subst e; rw [← HX.out]; exact ⟨by rw [HM.out]; omega, by rw [HM.out, HN.out]; omega, by rw [← G3.out, HM.out, HND.out]; simp, fun _ => G7.out, fun h0 => by have := G6.out; omega⟩
                    · exact HALL.out i (by omega)⟩
                  case measure => have := KK.out; simp [intOf]; omega
              · have d6 : decide ((0 : Int) < (k : Int)) = true := decide_eq_true (by omega)
                have d6' : decide (0 < k) = true := decide_eq_true (by omega)
                have HR : Hid (layE bs fs = 3) := HNO.out (HBN.out _ (fun _ _ h5 => by have := h5 (by omega); omega))
                go_quiet (fail)
                go_wp2_with fail
                go_ret
                exact ⟨ret_b0 HR.out, below_drewN HB2.out _⟩
            have d5 : decide (x.par < 0) = false := decide_eq_false g5
            have G7 := Lib.hid (show ¬ k = 0 ∧ 0 ≤ x.par ∧ x.par < k from ⟨by omega, by omega, by omega⟩)
            go_quiet (fail)
            go_wp2_with fail
            go_roundw
            case rel => exact ⟨k + 1, by have := KK.out; omega, by go_num, HL2.out.drewN _, below_drewN HB2.out _, fun i hi => by
              by_cases e : i = k
              · subst e; rw [← HX.out]; exact ⟨by rw [HM.out]; omega, by rw [HM.out, HN.out]; omega, by rw [← G3.out, HM.out, HND.out]; simp, fun h0 => absurd h0 G7.out.1, fun _ => G7.out.2⟩
              · exact HALL.out i (by omega)⟩
            case measure => have := KK.out; simp [intOf]; omega
          · have d3 : (nd != x.node) = true := by simp [g3]
            have HR : Hid (layE bs fs = 3) := HNO.out (HBN.out _ (fun h3 _ _ => g3 h3.symm))
            clear g3
            go_quiet (fail)
            go_wp2_with fail
            go_ret
            exact ⟨ret_b0 HR.out, below_drewN HB2.out _⟩
        · obtain rfl : nf = k := by omega
          have HR : Hid (layE bs fs = 0) := layE_yes ⟨HOKB.out, fun i hi => HALL.out i (by rw [← HNF.out]; exact hi), by rw [HNF.out]; exact hnf, by rw [← HXB.out]; exact G0.out⟩
          clear hL hbel hk hw
          go_wp2_with fail
          go_ret
          exact ⟨RB HR.out, HBB.out⟩
    · have d0 : (xb != 0) = true := by simp [g0]
      have HR : Hid (layE bs fs = 3) := layE_no (fun hh => by have := hh.2.2.2; rw [← HXB.out] at this; exact g0 this)
      clear g0
      go_enter Tryz.func17, Tryz.ntmps17
      go_wp2_with (go_at_call 46; refine (HC.out _ HB0.out).mono ?_; rintro e w1 ⟨rfl, hb1⟩; have hL1 := HLB.out.below hb1 HLB.out.lt; have l1 : w1.cell? ⟨w.heap.size, 1, none⟩ = some (.slice (some ⟨b, off, none⟩) nf cf) := hL1.cell 1; have hbel1 := below_then HB0.out hb1; have x0 := HF0.out _ hbel1)
      go_ret
      exact ⟨ret_b0 HR.out, hbel1⟩
  · have hcb' : ∀ w', Below w.heap.size w w' → Calls Tryz.prog 46 #[.slice Ab nb cb] w' fun e w'' => e = .returned (.bool false) ∧ Below w'.heap.size w' w'' := by rw [boxesE_no bs hok] at hcb; exact hcb
    have HC := Lib.hid hcb'
    have HB0 := Lib.hid hbel0
    have HR : Hid (layE bs fs = 3) := layE_no (fun hh => hok hh.1)
    clear hn hf h h2 hok hcb hcb' hL hbel0
    go_enter Tryz.func17, Tryz.ntmps17
    go_wp2_with (go_at_call 46; refine (HC.out _ HB0.out).mono ?_; rintro e w1 ⟨rfl, hb1⟩)
    go_ret
    exact ⟨ret_b0 HR.out, below_then HB0.out hb1⟩
end Go.Proofs.YtkmmlcnoeeaekaaGreatDoor
