/- Contracts for the closed fact lined: a line's end. -/
import Derived.Test.YtabbpdlnlibngaaLinP
namespace Go.Proofs.Ytabbpdlnlibngaa
open Go.RowKit Go.Sort
set_option linter.unusedVariables false
set_option linter.unusedSimpArgs false
attribute [local go_sem high] run_min2 run_max2

set_option maxRecDepth 100000 in
set_option maxHeartbeats 4000000 in
theorem end_calls (hT : TellSaid) (gB gF : Nat) (y : Int) (full : Bool) (b o c gL : Nat) (t : ByteArray) (wd : Int) (lp last : Bool) (ht : (t = tAAB ∧ wd = 80) ∨ (t = tAA ∧ wd = 64)) (hy0 : 0 ≤ y) (hy1 : y ≤ 1000) (base n : Nat) (A : Option Addr) (co : Nat) (xs : List Value) (w : World) (hn : n ≤ 1) (hbase : base ≤ w.heap.size)
    (hB : Blk w gB 43 (brC gF y 0 100 (.slice (some ⟨b, o, none⟩) 1 c) full (.slice A n co))) (hP : PartAt w b o gL t wd lp) (hI : Blk w gL 28 itemC) (hO : w.ownsRow base 34 7 (.slice A n co) n xs) (hF : Blk w gF 51 roomC) :
    Calls Try.prog 18 #[.pointer (some ⟨gB, 0, none⟩), .bool last] w fun e w' => e = .returned (.tuple #[]) ∧ ∃ g cp gp cc, Blk w' gB 43 (brC gF (y + 80) 0 100 (.slice none 0 0) false (.slice (some ⟨g, 0, none⟩) (n + 1) cp)) ∧
      w'.ownsRow base 34 7 (.slice (some ⟨g, 0, none⟩) (n + 1) cp) (n + 1) (xs ++ (lineC y gp cc last).toList) ∧ ((Value.slice A n co).ownBlock = some g ∨ w.heap.size ≤ g) ∧ w'.ownsRow w.heap.size 36 4 (.slice (some ⟨gp, 0, none⟩) 1 cc) 1 pieceC.toList ∧ Fr gB (.slice A n co) w w' := by
  have a8 : w.cell? ⟨gB, 8, none⟩ = some (.slice (some ⟨b, o, none⟩) 1 c) := hB.cell 8
  have hne : gF ≠ gB := blk_two hF hB (by decide)
  have hno : (Value.slice A n co).ownBlock ≠ some gF := blk_ne hF hO (by decide)
  have HX := Lib.hid (has_told b o c gL t wd lp w hP hI)
  have HB := Lib.hid hB
  have HP := Lib.hid hP
  have HI := Lib.hid hI
  have HO := Lib.hid hO
  have HF := Lib.hid hF
  have HNE := Lib.hid hne
  have HNO := Lib.hid hno
  have HBA := Lib.hid hbase
  have HTT := Lib.hid ht
  have HT := Lib.hid hT
  clear hB hP hI hO hF hne hno hbase ht hT
  go_enter Try.func18, Try.ntmps18
  go_upto_region 2 with (first | (go_at_call 34; refine HX.out.mono ?_; rintro e w1 ⟨rfl, hb1⟩; have HB1 := Lib.hid hb1; clear hb1) | (go_at_call 36; refine (HT.out gB gF y full b o c gL t wd lp last HTT.out hy0 hy1 base n A co xs w1 hn (Nat.le_trans HBA.out HB1.out.size) (HB.out.below HB1.out HB.out.lt) (HP.out.below HB1.out) (HI.out.below HB1.out HI.out.lt) (own_below HO.out HB1.out)).mono ?_; rintro e w2 ⟨g, cp, gp, cc, rfl, hB2, hO2, hat, hP2, hF2⟩; have HB2 := Lib.hid hB2; have HO2 := Lib.hid hO2; have HAT := Lib.hid hat; have HP2 := Lib.hid hP2; have HF2 := Lib.hid hF2; clear hB2 hO2 hat hP2 hF2))
  clear a8 HX
  have HBS := HB1.out.size
  have HFR := Lib.hid ((Fr.below (gS := gB) (v := .slice A n co) HB1.out).trans (.inl rfl) HF2.out)
  have HF3 := Lib.hid (HFR.out.blk HF.out HNE.out HNO.out)
  have a5 : w2.cell? ⟨gB, 5, none⟩ = some (.int .i64 0) := HB2.out.cell 5
  have z5 : w2.frozen? ⟨gB, 5, none⟩ = false := HB2.out.free 5
  have HB3 := Lib.hid (show Blk (w2.setCell ⟨gB, 5, none⟩ (.int .i64 0)) gB 43 (brC gF (y + 80) 0 100 (.slice (some ⟨b, o, none⟩) 1 c) full (.slice (some ⟨g, 0, none⟩) (n + 1) cp)) from HB2.out.stored 5 _)
  have HF4 := Lib.hid (HF3.out.far HNE.out (i := 5) (.int .i64 0))
  have HFS := Lib.hid (HFR.out.trans (.inl rfl) (Fr.set (gS := gB) (v := .slice A n co) (w := w2) 5 (.int .i64 0)))
  have HO3 := Lib.hid (own_setFar (j := 5) (u := .int .i64 0) HO2.out (blk_ne HB2.out HO2.out (by decide)))
  have HP3 := Lib.hid (own_setFar (j := 5) (u := .int .i64 0) HP2.out (blk_ne HB2.out HP2.out (by decide)))
  have HN2 := Lib.hid (blk_ne HB2.out HO2.out (by decide))
  have HN3 := Lib.hid (blk_ne HB2.out HP2.out (by decide))
  have HAT2 : Hid ((Value.slice A n co).ownBlock = some g ∨ w.heap.size ≤ g) := HAT.out.imp_right (fun h => Nat.le_trans HBS h)
  have HBS := Lib.hid HBS
  clear HBS HFR HF3 HO2 HP2 HB2 HAT
  go_upto_region 3 with fail
  clear a5 z5
  generalize World.setCell w2 _ _ = w3 at HB3 HF4 HFS HO3 HP3 ⊢
  go_wp2_with (go_at_call 14; refine (begin_calls gB gF (y + 80) 0 100 _ full _ w3 HB3.out HF4.out).mono ?_; rintro e w4 ⟨rfl, hB4, hg4⟩; have HB4 := Lib.hid hB4; have HG4 := Lib.hid hg4; clear hB4 hg4)
  (try simp only [Exit.inBlock, Exit.then]); refine bodyPost_end (results_none rfl _ _ _) rfl ?_
  exact ⟨rfl, g, cp, gp, cc, HB4.out, own_grown2 HO3.out HG4.out (fun k h1 h2 => HN2.out (by rw [h1, h2])), HAT2.out, own_base (own_grown2 HP3.out HG4.out (fun k h1 h2 => HN3.out (by rw [h1, h2]))) HB1.out.size, HFS.out.trans (.inl rfl) (Fr.one HG4.out)⟩
end Go.Proofs.Ytabbpdlnlibngaa
