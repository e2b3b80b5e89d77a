/- Joins; the reference's Eq at commands; painted. -/
import Derived.Test.YtkppignoomnmdaaPaintG
import Derived.Great.Walk
namespace Go.Proofs.Ytkppignoomnmdaa
open Go.RowKit Go.Great
set_option linter.unusedVariables false
set_option linter.unusedSimpArgs false

theorem own_form2 {w : World} {base : Nat} {e : TypeId} {size n : Nat} {v : Value} {xs : List Value} (h : w.ownsRow base e size v n xs) (hn : 0 < n) : ∃ g cap, v = .slice (some ⟨g, 0, none⟩) n cap ∧ base ≤ g ∧ g < w.heap.size := by
  rcases h.2 with ⟨_, h0⟩ | ⟨g, cap, cur, hv, hb, hh, _⟩
  · omega
  · refine ⟨g, cap, hv, hb, ?_⟩
    rcases Nat.lt_or_ge g w.heap.size with h1 | h1
    · exact h1
    · rw [Array.getElem?_eq_none h1] at hh; cases hh
theorem frag_calls (zs : List Int) (kind : Int) (f : FragV) (w : World) (hz : zs.length = 118) (hok : FragOk f) :
    Calls Try.prog 29 #[.agg (fragC f), .int .i64 kind, .agg (sty zs)] w fun e w' => ∃ v, e = .returned v ∧ w'.ownsRow w.heap.size 48 9 v (fragCmds f kind zs).length (cmds (fragCmds f kind zs)) ∧ Below w.heap.size w w' := by
  unfold fragCmds
  by_cases hv : stN zs 33 = 1
  · rw [if_pos hv]; exact frag_hid zs kind f w hz hok hv
  · rw [if_neg hv]
    by_cases h4 : kind = 4
    · rw [if_pos h4]; subst h4
      by_cases ht : f.text.toList = []
      · rw [if_pos ht]; exact frag_blank zs f w hz hok hv ht
      · rw [if_neg ht]; exact (frag_text zs f w hz hok hv ht).mono fun e w' ⟨v, h1, h2, h3⟩ => ⟨v, h1, by simpa [cmds] using h2, h3⟩
    · rw [if_neg h4]
      by_cases h8 : kind = 8
      · rw [if_pos h8]; subst h8; exact frag_row zs f w hz hok hv
      · rw [if_neg h8]; exact frag_box zs kind f w hz hok hv h4 h8
theorem rfrag_calls (zs : List Int) (kind : Int) (f : FragV) (w : World) (hz : zs.length = 118) (hok : FragOk f) :
    Calls Try.prog 30 #[.agg (fragC f), .int .i64 kind, .agg (sty zs)] w fun e w' => ∃ v, e = .returned v ∧ w'.ownsRow w.heap.size 48 9 v (fragCmds f kind zs).length (cmds (fragCmds f kind zs)) ∧ Below w.heap.size w w' := by
  unfold fragCmds
  by_cases hv : stN zs 33 = 1
  · rw [if_pos hv]; exact rfrag_hid zs kind f w hz hok hv
  · rw [if_neg hv]
    by_cases h4 : kind = 4
    · rw [if_pos h4]; subst h4
      by_cases ht : f.text.toList = []
      · rw [if_pos ht]; exact rfrag_blank zs f w hz hok hv ht
      · rw [if_neg ht]; exact (rfrag_text zs f w hz hok hv ht).mono fun e w' ⟨v, h1, h2, h3⟩ => ⟨v, h1, by simpa [cmds] using h2, h3⟩
    · rw [if_neg h4]
      by_cases h8 : kind = 8
      · rw [if_pos h8]; subst h8; exact rfrag_row zs f w hz hok hv
      · rw [if_neg h8]; exact rfrag_box zs kind f w hz hok hv h4 h8
theorem fragCmds_len (f : FragV) (kind : Int) (zs : List Int) : (fragCmds f kind zs).length ≤ 5 := by
  unfold fragCmds
  split
  · simp
  · split
    · split <;> simp
    · refine Nat.le_trans (List.length_filter_le _ _) ?_
      split <;> simp
set_option maxRecDepth 100000 in
set_option maxHeartbeats 1000000 in
theorem eqCmd_calls (A A' : Option Addr) (n c c' B B' : Nat) (l : List CmdV) (w : World) (hn : l.length = n) (h : Holds w B A (cmds l)) (h' : Holds w B' A' (cmds l)) (hm : n ≤ 9223372036854775807) (hB : B ≤ w.heap.size) (hB' : B' ≤ w.heap.size) :
    Calls Try.prog 28 #[.slice A n c, .slice A' n c'] w fun e w' => e = .returned (.bool true) ∧ Below w.heap.size w w' := by
  have H := Lib.hid h
  have H' := Lib.hid h'
  have HN := Lib.hid hn
  clear h h' hn
  go_enter Try.func28, Try.ntmps28
  go_wp2_with fail
  go_loopw [14] (fun i wr => ∃ k : Nat, k ≤ n ∧ i = .int .i64 k ∧ Below w.heap.size w wr) (fun i _ => n - (intOf i).toNat)
  case atStart => exact ⟨0, Nat.zero_le _, rfl, Below.refl _ _⟩
  case round =>
    obtain ⟨k, hk, rfl, hbel⟩ := hrel
    by_cases hlt : k < n
    · obtain ⟨b, off, rfl, hb, hc⟩ := (H.out.below hbel hB).flat (f := cmdF) 9 (fun _ => rfl) (by omega) CmdV.zero (by rw [HN.out]; exact hlt)
      obtain ⟨b', off', rfl, hb', hc'⟩ := (H'.out.below hbel hB').flat (f := cmdF) 9 (fun _ => rfl) (by omega) CmdV.zero (by rw [HN.out]; exact hlt)
      obtain ⟨⟨d, node, x, y, cw, ch, color, cn, text⟩, hx⟩ : ∃ x, x = l.getD k CmdV.zero := ⟨_, rfl⟩
      rw [← hx] at hc hc'
      have c0 := hc 0 _ rfl
      have c1 := hc 1 _ rfl
      have c2 := hc 2 _ rfl
      have c3 := hc 3 _ rfl
      have c4 := hc 4 _ rfl
      have c5 := hc 5 _ rfl
      have c6 := hc 6 _ rfl
      have c7 := hc 7 _ rfl
      have c8 := hc 8 _ rfl
      have hw := hbel.size
      have KK := Lib.hid (show k ≤ n ∧ k < n from ⟨hk, hlt⟩)
      have hcX := Lib.hid hc'
      clear hc hc' hx
      simp only [Nat.add_zero] at c0
      go_wp2_with fail
      have hb1 := (Below.refl wr.heap.size wr).alloc (Nat.le_refl _) (.cells #[.int .i64 d, .int .i64 node, .int .i64 x, .int .i64 y, .int .i64 cw, .int .i64 ch, .int .i64 color, .int .i64 cn, .string text] 48)
      have hbn := Blk.new wr 48 #[.int .i64 d, .int .i64 node, .int .i64 x, .int .i64 y, .int .i64 cw, .int .i64 ch, .int .i64 color, .int .i64 cn, .string text]
      have hbel := below_alloc hbel (.cells #[.int .i64 d, .int .i64 node, .int .i64 x, .int .i64 y, .int .i64 cw, .int .i64 ch, .int .i64 color, .int .i64 cn, .string text] 48)
      have e0 := (hb1.cell (p := ⟨b', off' + k * 9 + 0, none⟩) (by show b' < _; omega)).trans (hcX.out 0 _ rfl)
      have e1 := (hb1.cell (p := ⟨b', off' + k * 9 + 1, none⟩) (by show b' < _; omega)).trans (hcX.out 1 _ rfl)
      have e2 := (hb1.cell (p := ⟨b', off' + k * 9 + 2, none⟩) (by show b' < _; omega)).trans (hcX.out 2 _ rfl)
      have e3 := (hb1.cell (p := ⟨b', off' + k * 9 + 3, none⟩) (by show b' < _; omega)).trans (hcX.out 3 _ rfl)
      have e4 := (hb1.cell (p := ⟨b', off' + k * 9 + 4, none⟩) (by show b' < _; omega)).trans (hcX.out 4 _ rfl)
      have e5 := (hb1.cell (p := ⟨b', off' + k * 9 + 5, none⟩) (by show b' < _; omega)).trans (hcX.out 5 _ rfl)
      have e6 := (hb1.cell (p := ⟨b', off' + k * 9 + 6, none⟩) (by show b' < _; omega)).trans (hcX.out 6 _ rfl)
      have e7 := (hb1.cell (p := ⟨b', off' + k * 9 + 7, none⟩) (by show b' < _; omega)).trans (hcX.out 7 _ rfl)
      have e8 := (hb1.cell (p := ⟨b', off' + k * 9 + 8, none⟩) (by show b' < _; omega)).trans (hcX.out 8 _ rfl)
      simp only [Nat.add_zero] at e0
      clear hb1 c0 c1 c2 c3 c4 c5 c6 c7 c8 hcX
      generalize hW2 : World.alloc wr _ = w2 at e0 e1 e2 e3 e4 e5 e6 e7 e8 hbn hbel ⊢
      have f0 : w2.cell? ⟨wr.heap.size, 0, none⟩ = some (.int .i64 d) := hbn.cell 0
      have f1 : w2.cell? ⟨wr.heap.size, 1, none⟩ = some (.int .i64 node) := hbn.cell 1
      have f2 : w2.cell? ⟨wr.heap.size, 2, none⟩ = some (.int .i64 x) := hbn.cell 2
      have f3 : w2.cell? ⟨wr.heap.size, 3, none⟩ = some (.int .i64 y) := hbn.cell 3
      have f4 : w2.cell? ⟨wr.heap.size, 4, none⟩ = some (.int .i64 cw) := hbn.cell 4
      have f5 : w2.cell? ⟨wr.heap.size, 5, none⟩ = some (.int .i64 ch) := hbn.cell 5
      have f6 : w2.cell? ⟨wr.heap.size, 6, none⟩ = some (.int .i64 color) := hbn.cell 6
      have f7 : w2.cell? ⟨wr.heap.size, 7, none⟩ = some (.int .i64 cn) := hbn.cell 7
      have f8 : w2.cell? ⟨wr.heap.size, 8, none⟩ = some (.string text) := hbn.cell 8
      clear hbn hW2
      go_quiet (fail)
      go_wp2_with fail
      go_roundw
      case rel => exact ⟨k + 1, by have := KK.out; omega, by go_num, below_drewN hbel _⟩
      case measure => have := KK.out; simp [intOf]; omega
    · go_wp2_with fail
      go_ret
      exact ⟨rfl, hbel⟩
def zsP : List Int := (List.range 118).map (fun i => if i = 72 then 5 else if i = 73 then 255 else 0)
def fP : FragV := ⟨0, 0, 0, 0, 0, 5, 6, ⟨#[]⟩⟩
set_option maxRecDepth 100000 in
theorem exec_sty (ρ : Operand → Value) (o : Oper) (x0 : Operand) (w : World) (ho : o.op = .build 44 #[(36, x0)]) (h0 : ρ x0 = .agg #[.int .i64 5, .int .i64 255]) :
    (execOp ρ o).run Try.prog w = .ok (.value (.agg (sty zsP))) w := by
  have hb : (Instr.build 44 #[(36, .agg #[.int .i64 5, .int .i64 255])]).run Try.prog w = .ok (.agg (sty zsP)) w := by kernel_rfl
  unfold execOp
  rw [ho]
  simp only [List.map_toArray, List.map_cons, List.map_nil, h0, Sem.run_bind, hb, Result.andThen_ok, Sem.run_pure]
theorem painted_list : fragCmds fP 2 zsP = [fillC 0 0 0 5 6 255] := by kernel_rfl
set_option maxRecDepth 100000 in
set_option maxHeartbeats 1000000 in
theorem painted_calls (w : World) :
    Calls Try.prog 27 #[] w fun e w' => e = .returned (.bool true) ∧ Below w.heap.size w w' := by
  have hc := frag_calls zsP 2 fP w (by kernel_rfl) (by unfold FragOk fP; simp)
  rw [painted_list] at hc
  have HC := Lib.hid hc
  clear hc
  go_enter Try.func27, Try.ntmps27
  go_wp2_with (first | (refine wpList_runTo rfl _ rfl _ _ (exec_sty _ _ _ _ rfl rfl) ?_; simp only [Act.put, List.setIfInBounds_toArray, List.set_cons_zero, List.set_cons_succ]) | (go_at_call 29; refine HC.out.mono ?_; rintro e w1 ⟨v, rfl, hown, hb⟩; obtain ⟨g, cap, rfl, hg1, hg2⟩ := own_form2 hown (by decide); have q4 : w1.cell? ⟨g, 4, none⟩ = some (.int .i64 5) := hown.cellAt 4 (by decide); have q5 : w1.cell? ⟨g, 5, none⟩ = some (.int .i64 6) := hown.cellAt 5 (by decide)))
  go_ret
  exact ⟨rfl, hb⟩
end Go.Proofs.Ytkppignoomnmdaa
