/- Contracts for the closed fact lined: a new room, Break. -/
import Derived.Test.YtabbpdlnlibngaaLinT
namespace Go.Proofs.Ytabbpdlnlibngaa
open Go.RowKit Go.Sort
set_option linter.unusedVariables false
set_option linter.unusedSimpArgs false
attribute [local go_sem high] run_min2 run_max2

theorem row_at {w : World} {base g n cap size : Nat} {e : TypeId} {xs : List Value} (h : w.ownsRow base e size (.slice (some ⟨g, 0, none⟩) n cap) n xs) : (∀ j u, xs[j]? = some u → w.cell? ⟨g, j, none⟩ = some u) ∧ base ≤ g ∧ g < w.heap.size ∧ n ≤ cap := by
  rcases h.2 with ⟨h1, _⟩ | ⟨g', cap', cur, hv, h1, h2, h3, h4, h5, h6⟩
  · cases h1
  · injection hv with hv1 hv2 hv3
    injection hv1 with hv1
    injection hv1 with hv1
    subst hv1; subst hv3
    have hB : Blk w g e cur := h2
    refine ⟨fun j u hj => ?_, h1, hB.lt, h3⟩
    have hj5 : j < n * size := by
      rcases Nat.lt_or_ge j (n * size) with h7 | h7
      · exact h7
      · rw [List.getElem?_eq_none (by rw [h.1]; exact h7)] at hj; cases hj
    rw [hB.cell j]
    have h8 := congrArg (fun l : List Value => l[j]?) h6
    rw [List.getElem?_take_of_lt hj5, hj] at h8
    simpa using h8
theorem two_parts {w : World} {base g cap gL : Nat} (h : w.ownsRow base 54 5 (.slice (some ⟨g, 0, none⟩) 2 cap) 2 ((#[.pointer (some ⟨gL, 0, none⟩), .int .i64 0, .string tAAB, .int .i64 80, .bool false] : Array Value).toList ++ (#[.pointer (some ⟨gL, 0, none⟩), .int .i64 0, .string tAA, .int .i64 64, .bool true] : Array Value).toList)) : PartAt w g 0 gL tAAB 80 false ∧ PartAt w g 5 gL tAA 64 true ∧ base ≤ g ∧ 2 ≤ cap := by
  obtain ⟨hc, h1, h2, h3⟩ := row_at h
  exact ⟨⟨hc 0 _ rfl, hc 1 _ rfl, hc 2 _ rfl, hc 3 _ rfl, hc 4 _ rfl, h2⟩, ⟨hc 5 _ rfl, hc 6 _ rfl, hc 7 _ rfl, hc 8 _ rfl, hc 9 _ rfl, h2⟩, h1, h3⟩
theorem cutN_calls (x : Int) (hx : x = 0 ∨ x = 64 ∨ x = 80 ∨ x = 100) (w : World) : Calls Try.prog 13 #[.int .i64 x] w fun e w' => e = .returned (.int .i64 x) ∧ w = w' := by
  have h := cut_calls x w
  have e : cut x = x := by rcases hx with rfl | rfl | rfl | rfl <;> decide
  rw [e] at h
  exact h
theorem new_calls (w : World) : Calls Try.prog 8 #[.int .i64 100] w fun e w' => ∃ g, e = .returned (.pointer (some ⟨g, 0, none⟩)) ∧ Blk w' g 51 roomC ∧ Below w.heap.size w w' := by
  go_enter Try.func8, Try.ntmps8
  go_wp2_with (go_at_call 13; refine (cutN_calls _ (by decide) _).mono ?_; rintro e w' ⟨rfl, rfl⟩)
  go_ret
  exact ⟨_, rfl, Blk.new w _ _, below_alloc (Below.refl _ _) _⟩
set_option maxRecDepth 100000 in
set_option maxHeartbeats 8000000 in
theorem break_calls (hT : TellSaid) (gF gL cL : Nat) (w : World) (hI : Blk w gL 28 itemC) (hF : Blk w gF 51 roomC) :
    Calls Try.prog 7 #[.slice (some ⟨gL, 0, none⟩) 1 cL, .pointer (some ⟨gF, 0, none⟩), .int .i64 0, .int .i64 64, .int .i64 80, .int .i64 0, .int .i64 0] w fun e w' => ∃ g cp gp cc gp2 cc2, e = .returned (.slice (some ⟨g, 0, none⟩) 2 cp) ∧ w'.ownsRow w.heap.size 34 7 (.slice (some ⟨g, 0, none⟩) 2 cp) 2 ((lineC 0 gp cc false).toList ++ (lineC 80 gp2 cc2 true).toList) ∧ w'.ownsRow w.heap.size 36 4 (.slice (some ⟨gp, 0, none⟩) 1 cc) 1 pieceC.toList ∧ Below w.heap.size w w' := by
  have HI := Lib.hid (hI.alloc (.cells (brC gF 0 0 0 (.slice none 0 0) false (.slice none 0 0)) 43))
  have HF := Lib.hid (hF.alloc (.cells (brC gF 0 0 0 (.slice none 0 0) false (.slice none 0 0)) 43))
  have HB := Lib.hid (Blk.new w 43 (brC gF 0 0 0 (.slice none 0 0) false (.slice none 0 0)))
  have HW := Lib.hid (below_alloc (Below.refl w.heap.size w) (.cells (brC gF 0 0 0 (.slice none 0 0) false (.slice none 0 0)) 43))
  have HT := Lib.hid hT
  have HGB := Lib.hid (show w.heap.size ≤ w.heap.size from Nat.le_refl _)
  have HGL := Lib.hid hI.lt
  have HGF := Lib.hid hF.lt
  unfold brC at HI HF HB HW
  clear hI hF hT
  go_enter Try.func7, Try.ntmps7
  go_upto_region 2 with (go_at_call 13; refine (cutN_calls _ (by decide) _).mono ?_; rintro e w' ⟨rfl, rfl⟩)
  rw [show max (0 : Int) 64 = 64 from by decide, show max (0 : Int) 80 = 80 from by decide]
  generalize World.alloc w _ = w0 at HI HF HB HW ⊢
  have HN := Lib.hid (Nat.le_of_lt HB.out.lt)
  have HNB := Lib.hid (Nat.ne_of_lt HGL.out)
  have HNF := Lib.hid (Nat.ne_of_lt HGF.out)
  generalize hEQ : w.heap.size = N at HB HN HNB HNF ⊢
  have HEQ := Lib.hid hEQ
  clear hEQ
  clear HGB HGL HGF
  have HR := Lib.hid (Fr.refl (gS := N) (v := .slice none 0 0) (w := w0))
  go_upto_region 3 with (go_at_call 14; (refine (begin_calls N gF 0 0 0 (.slice none 0 0) false (.slice none 0 0) w0 HB.out HF.out).mono ?_; rintro e w1 ⟨rfl, hB1, hg1⟩; have HB1 := Lib.hid hB1; have HI := Lib.hid (blk_keep HI.out hg1 (fun e => HNB.out (by injection e with e; exact e.symm))); have HF := Lib.hid (blk_keep HF.out hg1 (fun e => HNF.out (by injection e with e; exact e.symm))); have HR := Lib.hid (HR.out.trans (.inl rfl) (Fr.one (v := .slice none 0 0) hg1)); clear hB1 hg1))
  clear HB
  go_upto_region 4 with (first | (go_at_call 16; (refine (parts_calls gL cL w1 HI.out).mono ?_; rintro e w2 ⟨g, c, rfl, ho, hb⟩; obtain ⟨p0, p1, p2, p3⟩ := two_parts ho; have HP0 := Lib.hid p0; have HP1 := Lib.hid p1; have HG := Lib.hid (Nat.le_trans (Nat.le_trans HN.out HR.out.size) p2); have HB2 := Lib.hid (HB1.out.below hb HB1.out.lt); have HNP : Hid (g ≠ N) := fun e => blk_ne HB2.out ho (by decide) (by rw [e]; rfl); have HC := Lib.hid p3; have HB2 := Lib.hid (HB1.out.below hb HB1.out.lt); have HI := Lib.hid (HI.out.below hb HI.out.lt); have HF := Lib.hid (HF.out.below hb HF.out.lt); have HR := Lib.hid (HR.out.trans (.inl rfl) (Fr.below (gS := N) (v := .slice none 0 0) hb)); clear ho hb p0 p1 p2 p3)) | (go_at_call 15; refine (groups_calls g c gL w2 HP0.out HP1.out HI.out HC.out).mono ?_; rintro e w3 ⟨gg, cg, rfl, ho, hb⟩; have HO := Lib.hid ho; have HP0 := Lib.hid (HP0.out.below hb); have HP1 := Lib.hid (HP1.out.below hb); have HB := Lib.hid (HB2.out.below hb HB2.out.lt); have HI := Lib.hid (HI.out.below hb HI.out.lt); have HF := Lib.hid (HF.out.below hb HF.out.lt); have HR := Lib.hid (HR.out.trans (.inl rfl) (Fr.below (gS := N) (v := .slice none 0 0) hb)); clear ho hb))
  clear HB1 HB2
  have g0 : w3.cell? ⟨gg, 0, none⟩ = some (.slice (some ⟨g, 0, none⟩) 1 c) := (row_at HO.out).1 0 _ rfl
  have HNG := Lib.hid (blk_ne HB.out HO.out (by decide))
  refine wp_loop_rounds 3 ?_
  rw [rounds_succ]
  go_wp2_with (go_at_call 17; refine (put0_calls N gF g 0 c gL w3 HB.out HP0.out HI.out).mono ?_; rintro e w4 ⟨rfl, gl, cl, hB4, hP4, hl4, hF4⟩; have HQ := Lib.hid hF4; have HB4 := Lib.hid hB4; have HP4 := Lib.hid hP4; have HP1 := Lib.hid (HQ.out.part HP1.out HNP.out (by intro e; cases e)); have HO := Lib.hid (HQ.out.own HO.out HNG.out (fun k h1 h2 => by cases h2)); have HI := Lib.hid (HQ.out.blk HI.out HNB.out (by intro e; cases e)); have HF := Lib.hid (HQ.out.blk HF.out HNF.out (by intro e; cases e)); have HR := Lib.hid (HR.out.trans (.inl rfl) HQ.out); clear hB4 hP4 hl4 hF4)
  clear g0 HB
  have g1 : w4.cell? ⟨gg, 1, none⟩ = some (.slice (some ⟨g, 5, none⟩) 1 (c - 1)) := (row_at HO.out).1 1 _ rfl
  rw [rounds_succ]
  go_wp2_with (go_at_call 17; refine (put1_calls HT.out N gF g 5 (c - 1) gL gl cl N w4 HB4.out HP4.out HP1.out HNP.out HI.out HF.out (Nat.le_trans HN.out HR.out.size)).mono ?_; rintro e w5 ⟨rfl, gO, cp, gp, cc, glb, clb, hB5, hO5, hp5, hP5, hl5, hF5⟩; have HQ5 := Lib.hid hF5; have HB := Lib.hid hB5; have HP5 := Lib.hid hP5; have HO5 := Lib.hid hO5; have HPC := Lib.hid (own_base hp5 (Nat.le_trans HN.out HR.out.size)); have HI := Lib.hid (HQ5.out.blk HI.out HNB.out (by intro e; cases e)); have HF := Lib.hid (HQ5.out.blk HF.out HNF.out (by intro e; cases e)); have HR := Lib.hid (HR.out.trans (.inl rfl) HQ5.out); clear hB5 hO5 hp5 hP5 hl5 hF5)
  clear g1 HB4
  rw [rounds_succ]
  have a8 : w5.cell? ⟨N, 8, none⟩ = some (.slice (some ⟨glb, 0, none⟩) 1 clb) := HB.out.cell 8
  go_upto_region 13 with (go_at_call 18; refine (end_calls HT.out N gF 80 true glb 0 clb gL tAA 64 true true (.inr ⟨rfl, rfl⟩) (by decide) (by decide) N 1 (some ⟨gO, 0, none⟩) cp (lineC 0 gp cc false).toList w5 (by decide) (Nat.le_trans HN.out HR.out.size) HB.out HP5.out HI.out HO5.out HF.out).mono ?_; rintro e w6 ⟨rfl, g6, cp6, gp6, cc6, hB6, hO6, hat6, hp6, hF6⟩; have HQ6 := Lib.hid hF6; have HB6 := Lib.hid hB6; have HO6 := Lib.hid hO6; have HF6 := Lib.hid (HQ6.out.blk HF.out HNF.out (blk_ne HF.out HO5.out (by decide))); have HPC6 := Lib.hid (HQ6.out.own HPC.out (blk_ne HB.out HPC.out (by decide)) (fun k h1 h2 => (own_far HPC.out HO5.out (by decide)).elim (fun h => by rw [h] at h1; cases h1) (fun h => h (h1.trans h2.symm)))); have HU := Lib.hid (HQ6.out.under (B := N) (Nat.le_trans HN.out HR.out.size) (Nat.le_refl _) (fun k hk => (HO5.out.lt k hk).1)); clear hB6 hO6 hat6 hp6 hF6)
  clear a8
  go_wp2_with (go_at_call 14; refine (begin_calls N gF (80 + 80) 0 100 (.slice none 0 0) false _ w6 HB6.out HF6.out).mono ?_; rintro e w7 ⟨rfl, hB7, hg7⟩; have HG7 := Lib.hid hg7; have a11 : w7.cell? ⟨N, 11, none⟩ = some (.slice (some ⟨g6, 0, none⟩) (1 + 1) cp6) := hB7.cell 11; clear hB7 hg7)
  go_ret
  have hEQ := HEQ.out
  subst hEQ
  have hS6 : w.heap.size ≤ w6.heap.size := Nat.le_trans (Nat.le_trans HN.out HR.out.size) HU.out.size
  exact ⟨g6, cp6, gp, cc, gp6, cc6, rfl, own_grown2 HO6.out HG7.out (fun k h1 h2 => blk_ne HB6.out HO6.out (by decide) (h1.trans h2.symm)), own_grown2 HPC6.out HG7.out (fun k h1 h2 => blk_ne HB6.out HPC6.out (by decide) (h1.trans h2.symm)), ((HW.out.trans (HR.out.under HN.out (Nat.le_refl _) (fun k hk => by cases hk))).trans HU.out).trans ((Fr.one (v := .slice none 0 0) HG7.out).under hS6 (Nat.le_refl _) (fun k hk => by cases hk))⟩
end Go.Proofs.Ytabbpdlnlibngaa
