/- Several texts in one: PaintH, PntPlain, PntA. -/
import Derived.Test.YtkmmlcnoeeaekaaGreatDoorPaintListM43
import Derived.Great.Walk
import Derived.Test.YtkmmlcnoeeaekaaGreatDoorPaintListM21
import Derived.Test.YtkmmlcnoeeaekaaGreatDoorPaintListM37
/- Joins; the reference's Eq at commands; painted. -/
namespace Go.Proofs.YtkmmlcnoeeaekaaGreatDoor
open Go.RowKit Go.Great
set_option linter.unusedVariables false
set_option linter.unusedSimpArgs false

theorem own_form2 {w : World} {base : Nat} {e : TypeId} {size n : Nat} {v : Value} {xs : List Value} (h : w.ownsRow base e size v n xs) (hn : 0 < n) : ∃ g cap, v = .slice (some ⟨g, 0, none⟩) n cap ∧ base ≤ g ∧ g < w.heap.size := by
  rcases h.2 with ⟨_, h0⟩ | ⟨g, cap, cur, hv, hb, hh, _⟩
  · omega
  · refine ⟨g, cap, hv, hb, ?_⟩
    rcases Nat.lt_or_ge g w.heap.size with h1 | h1
    · exact h1
    · rw [Array.getElem?_eq_none h1] at hh; cases hh
theorem frag_calls (zs : List Int) (kind : Int) (f : FragV) (w : World) (hz : zs.length = 118) (hok : FragOk f) :
    Calls Tryz.prog 51 #[.agg (fragC f), .int .i64 kind, .agg (sty zs)] w fun e w' => ∃ v, e = .returned v ∧ w'.ownsRow w.heap.size 64 9 v (fragCmds f kind zs).length (cmds (fragCmds f kind zs)) ∧ Below w.heap.size w w' := by
  unfold fragCmds
  by_cases hv : stN zs 33 = 1
  · rw [if_pos hv]; exact frag_hid zs kind f w hz hok hv
  · rw [if_neg hv]
    by_cases h4 : kind = 4
    · rw [if_pos h4]; subst h4
      by_cases ht : f.text.toList = []
      · rw [if_pos ht]; exact frag_blank zs f w hz hok hv ht
      · rw [if_neg ht]; exact (frag_text zs f w hz hok hv ht).mono fun e w' ⟨v, h1, h2, h3⟩ => ⟨v, h1, by simpa [cmds] using h2, h3⟩
    · rw [if_neg h4]
      by_cases h8 : kind = 8
      · rw [if_pos h8]; subst h8; exact frag_row zs f w hz hok hv
      · rw [if_neg h8]; exact frag_box zs kind f w hz hok hv h4 h8
theorem rfrag_calls (zs : List Int) (kind : Int) (f : FragV) (w : World) (hz : zs.length = 118) (hok : FragOk f) :
    Calls Tryz.prog 56 #[.agg (fragC f), .int .i64 kind, .agg (sty zs)] w fun e w' => ∃ v, e = .returned v ∧ w'.ownsRow w.heap.size 64 9 v (fragCmds f kind zs).length (cmds (fragCmds f kind zs)) ∧ Below w.heap.size w w' := by
  unfold fragCmds
  by_cases hv : stN zs 33 = 1
  · rw [if_pos hv]; exact rfrag_hid zs kind f w hz hok hv
  · rw [if_neg hv]
    by_cases h4 : kind = 4
    · rw [if_pos h4]; subst h4
      by_cases ht : f.text.toList = []
      · rw [if_pos ht]; exact rfrag_blank zs f w hz hok hv ht
      · rw [if_neg ht]; exact (rfrag_text zs f w hz hok hv ht).mono fun e w' ⟨v, h1, h2, h3⟩ => ⟨v, h1, by simpa [cmds] using h2, h3⟩
    · rw [if_neg h4]
      by_cases h8 : kind = 8
      · rw [if_pos h8]; subst h8; exact rfrag_row zs f w hz hok hv
      · rw [if_neg h8]; exact rfrag_box zs kind f w hz hok hv h4 h8
theorem fragCmds_len (f : FragV) (kind : Int) (zs : List Int) : (fragCmds f kind zs).length ≤ 5 := by
  unfold fragCmds
  split
  · simp
  · split
    · split <;> simp
    · refine Nat.le_trans (List.length_filter_le _ _) ?_
      split <;> simp
set_option maxRecDepth 100000 in
set_option maxHeartbeats 1000000 in
theorem eqCmd_calls (A A' : Option Addr) (n c c' B B' : Nat) (l : List CmdV) (w : World) (hn : l.length = n) (h : Holds w B A (cmds l)) (h' : Holds w B' A' (cmds l)) (hm : n ≤ 9223372036854775807) (hB : B ≤ w.heap.size) (hB' : B' ≤ w.heap.size) :
    Calls Tryz.prog 24 #[.slice A n c, .slice A' n c'] w fun e w' => e = .returned (.bool true) ∧ Below w.heap.size w w' := by
  have H := Lib.hid h
  have H' := Lib.hid h'
  have HN := Lib.hid hn
  clear h h' hn
  go_enter Tryz.func24, Tryz.ntmps24
  go_wp2_with fail
  go_loopw [14] (fun i wr => ∃ k : Nat, k ≤ n ∧ i = .int .i64 k ∧ Below w.heap.size w wr) (fun i _ => n - (intOf i).toNat)
  case atStart => exact ⟨0, Nat.zero_le _, rfl, Below.refl _ _⟩
  case round =>
    obtain ⟨k, hk, rfl, hbel⟩ := hrel
    by_cases hlt : k < n
    · obtain ⟨b, off, rfl, hb, hc⟩ := (H.out.below hbel hB).flat (f := cmdF) 9 (fun _ => rfl) (by omega) CmdV.zero (by rw [HN.out]; exact hlt)
      obtain ⟨b', off', rfl, hb', hc'⟩ := (H'.out.below hbel hB').flat (f := cmdF) 9 (fun _ => rfl) (by omega) CmdV.zero (by rw [HN.out]; exact hlt)
      obtain ⟨⟨d, node, x, y, cw, ch, color, cn, text⟩, hx⟩ : ∃ x, x = l.getD k CmdV.zero := ⟨_, rfl⟩
      rw [← hx] at hc hc'
      have c0 := hc 0 _ rfl
      have c1 := hc 1 _ rfl
      have c2 := hc 2 _ rfl
      have c3 := hc 3 _ rfl
      have c4 := hc 4 _ rfl
      have c5 := hc 5 _ rfl
      have c6 := hc 6 _ rfl
      have c7 := hc 7 _ rfl
      have c8 := hc 8 _ rfl
      have hw := hbel.size
      have KK := Lib.hid (show k ≤ n ∧ k < n from ⟨hk, hlt⟩)
      have hcX := Lib.hid hc'
      clear hc hc' hx
      simp only [Nat.add_zero] at c0
      go_wp2_with fail
      have hb1 := (Below.refl wr.heap.size wr).alloc (Nat.le_refl _) (.cells #[.int .i64 d, .int .i64 node, .int .i64 x, .int .i64 y, .int .i64 cw, .int .i64 ch, .int .i64 color, .int .i64 cn, .string text] 64)
      have hbn := Blk.new wr 64 #[.int .i64 d, .int .i64 node, .int .i64 x, .int .i64 y, .int .i64 cw, .int .i64 ch, .int .i64 color, .int .i64 cn, .string text]
      have hbel := below_alloc hbel (.cells #[.int .i64 d, .int .i64 node, .int .i64 x, .int .i64 y, .int .i64 cw, .int .i64 ch, .int .i64 color, .int .i64 cn, .string text] 64)
      have e0 := (hb1.cell (p := ⟨b', off' + k * 9 + 0, none⟩) (by show b' < _; omega)).trans (hcX.out 0 _ rfl)
      have e1 := (hb1.cell (p := ⟨b', off' + k * 9 + 1, none⟩) (by show b' < _; omega)).trans (hcX.out 1 _ rfl)
      have e2 := (hb1.cell (p := ⟨b', off' + k * 9 + 2, none⟩) (by show b' < _; omega)).trans (hcX.out 2 _ rfl)
      have e3 := (hb1.cell (p := ⟨b', off' + k * 9 + 3, none⟩) (by show b' < _; omega)).trans (hcX.out 3 _ rfl)
      have e4 := (hb1.cell (p := ⟨b', off' + k * 9 + 4, none⟩) (by show b' < _; omega)).trans (hcX.out 4 _ rfl)
      have e5 := (hb1.cell (p := ⟨b', off' + k * 9 + 5, none⟩) (by show b' < _; omega)).trans (hcX.out 5 _ rfl)
      have e6 := (hb1.cell (p := ⟨b', off' + k * 9 + 6, none⟩) (by show b' < _; omega)).trans (hcX.out 6 _ rfl)
      have e7 := (hb1.cell (p := ⟨b', off' + k * 9 + 7, none⟩) (by show b' < _; omega)).trans (hcX.out 7 _ rfl)
      have e8 := (hb1.cell (p := ⟨b', off' + k * 9 + 8, none⟩) (by show b' < _; omega)).trans (hcX.out 8 _ rfl)
      simp only [Nat.add_zero] at e0
      clear hb1 c0 c1 c2 c3 c4 c5 c6 c7 c8 hcX
      generalize hW2 : World.alloc wr _ = w2 at e0 e1 e2 e3 e4 e5 e6 e7 e8 hbn hbel ⊢
      have f0 : w2.cell? ⟨wr.heap.size, 0, none⟩ = some (.int .i64 d) := hbn.cell 0
      have f1 : w2.cell? ⟨wr.heap.size, 1, none⟩ = some (.int .i64 node) := hbn.cell 1
      have f2 : w2.cell? ⟨wr.heap.size, 2, none⟩ = some (.int .i64 x) := hbn.cell 2
      have f3 : w2.cell? ⟨wr.heap.size, 3, none⟩ = some (.int .i64 y) := hbn.cell 3
      have f4 : w2.cell? ⟨wr.heap.size, 4, none⟩ = some (.int .i64 cw) := hbn.cell 4
      have f5 : w2.cell? ⟨wr.heap.size, 5, none⟩ = some (.int .i64 ch) := hbn.cell 5
      have f6 : w2.cell? ⟨wr.heap.size, 6, none⟩ = some (.int .i64 color) := hbn.cell 6
      have f7 : w2.cell? ⟨wr.heap.size, 7, none⟩ = some (.int .i64 cn) := hbn.cell 7
      have f8 : w2.cell? ⟨wr.heap.size, 8, none⟩ = some (.string text) := hbn.cell 8
      clear hbn hW2
      go_quiet (fail)
      go_wp2_with fail
      go_roundw
      case rel => exact ⟨k + 1, by have := KK.out; omega, by go_num, below_drewN hbel _⟩
      case measure => have := KK.out; simp [intOf]; omega
    · go_wp2_with fail
      go_ret
      exact ⟨rfl, hbel⟩
def zsP : List Int := (List.range 118).map (fun i => if i = 72 then 5 else if i = 73 then 255 else 0)
def fP : FragV := ⟨0, 0, 0, 0, 0, 5, 6, ⟨#[]⟩⟩
set_option maxRecDepth 100000 in
theorem exec_sty (ρ : Operand → Value) (o : Oper) (x0 : Operand) (w : World) (ho : o.op = .build 35 #[(36, x0)]) (h0 : ρ x0 = .agg #[.int .i64 5, .int .i64 255]) :
    (execOp ρ o).run Tryz.prog w = .ok (.value (.agg (sty zsP))) w := by
  have hb : (Instr.build 35 #[(36, .agg #[.int .i64 5, .int .i64 255])]).run Tryz.prog w = .ok (.agg (sty zsP)) w := by kernel_rfl
  unfold execOp
  rw [ho]
  simp only [List.map_toArray, List.map_cons, List.map_nil, h0, Sem.run_bind, hb, Result.andThen_ok, Sem.run_pure]
theorem painted_list : fragCmds fP 2 zsP = [fillC 0 0 0 5 6 255] := by kernel_rfl
set_option maxRecDepth 100000 in
set_option maxHeartbeats 1000000 in
theorem painted_calls (w : World) :
    Calls Tryz.prog 21 #[] w fun e w' => e = .returned (.bool true) ∧ Below w.heap.size w w' := by
  have hc := frag_calls zsP 2 fP w (by kernel_rfl) (by unfold FragOk fP; simp)
  rw [painted_list] at hc
  have HC := Lib.hid hc
  clear hc
  go_enter Tryz.func21, Tryz.ntmps21
  go_wp2_with (first | (refine wpList_runTo rfl _ rfl _ _ (exec_sty _ _ _ _ rfl rfl) ?_; simp only [Act.put, List.setIfInBounds_toArray, List.set_cons_zero, List.set_cons_succ]) | (go_at_call 51; refine HC.out.mono ?_; rintro e w1 ⟨v, rfl, hown, hb⟩; obtain ⟨g, cap, rfl, hg1, hg2⟩ := own_form2 hown (by decide); have q4 : w1.cell? ⟨g, 4, none⟩ = some (.int .i64 5) := hown.cellAt 4 (by decide); have q5 : w1.cell? ⟨g, 5, none⟩ = some (.int .i64 6) := hown.cellAt 5 (by decide)))
  go_ret
  exact ⟨rfl, hb⟩
end Go.Proofs.YtkmmlcnoeeaekaaGreatDoor
/- Plain law of P344: what a step and those within tell, by recursion, is what one pass tells that keeps the ends ahead of each step. -/
namespace Go.Proofs.YtkmmlcnoeeaekaaGreatDoor
set_option linter.unusedVariables false

section
variable {C : Type} (en : Nat → Nat) (opn : Nat → List C) (cls : Nat → List Int) (endC : Int → C)
def upd (E : Nat → List Int) (k : Nat) (v : List Int) : Nat → List Int := fun j => if j = k then v else E j
theorem upd_same (E : Nat → List Int) (k : Nat) (v : List Int) : upd E k v k = v := by unfold upd; rw [if_pos rfl]
theorem upd_other (E : Nat → List Int) {k j : Nat} (v : List Int) (h : j ≠ k) : upd E k v j = E j := by unfold upd; rw [if_neg h]
theorem upd_twice (E : Nat → List Int) (k : Nat) (v v' : List Int) : upd (upd E k v) k v' = upd E k v' := by funext j; unfold upd; split <;> rfl
theorem upd_self (E : Nat → List Int) (k : Nat) : upd E k (E k) = E := by funext j; unfold upd; split <;> simp_all
/-- What the steps from f to t tell. -/
def cmdR : Nat → Nat → Nat → List C
  | 0, _, _ => []
  | u + 1, f, t => if f < t then opn f ++ (cmdR u (f + 1) (en f) ++ ((cls f).map endC ++ cmdR u (en f) t)) else []
/-- What one pass tells from step i on, u steps being left; E: what ends ahead of a step. -/
def runE : Nat → Nat → (Nat → List Int) → List C
  | 0, i, E => (E i).map endC
  | u + 1, i, E => (E i).map endC ++ (opn i ++ runE u (i + 1) (upd E (en i) (cls i ++ E (en i))))
/-- A stretch of steps that ends in itself. -/
def Shut (f t : Nat) : Prop := (∀ i, f ≤ i → i < t → i < en i ∧ en i ≤ t) ∧ ∀ i j, f ≤ i → i < j → j < t → en i ≤ j ∨ en j ≤ en i
variable {en}
theorem Shut.inner {f t : Nat} (h : Shut en f t) (hf : f < t) : Shut en (f + 1) (en f) := by
  have h0 := h.1 f (Nat.le_refl _) hf
  refine ⟨fun i hi hi2 => ?_, fun i j hi hij hj => h.2 i j (by omega) hij (by omega)⟩
  have h1 := h.1 i (by omega) (by omega)
  have h2 := h.2 f i (Nat.le_refl _) (by omega) (by omega)
  omega
theorem Shut.after {f t : Nat} (h : Shut en f t) (hf : f < t) : Shut en (en f) t := by
  have h0 := h.1 f (Nat.le_refl _) hf
  exact ⟨fun i hi hi2 => h.1 i (by omega) hi2, fun i j hi hij hj => h.2 i j (by omega) hij hj⟩
theorem cmdR_fuel : ∀ (d f t u : Nat), t - f ≤ d → t - f ≤ u → Shut en f t → cmdR en opn cls endC u f t = cmdR en opn cls endC d f t := by
  intro d
  induction d with
  | zero =>
    intro f t u hd hu h
    cases u with
    | zero => rfl
    | succ u =>
      show cmdR en opn cls endC (u + 1) f t = []
      rw [cmdR, if_neg (by omega)]
  | succ d ih =>
    intro f t u hd hu h
    by_cases hf : f < t
    · cases u with
      | zero => omega
      | succ u =>
        have h0 := h.1 f (Nat.le_refl _) hf
        rw [cmdR, cmdR, if_pos hf, if_pos hf, ih (f + 1) (en f) u (by omega) (by omega) (h.inner hf), ih (en f) t u (by omega) (by omega) (h.after hf)]
    · cases u with
      | zero => rw [cmdR, cmdR, if_neg hf]
      | succ u => rw [cmdR, cmdR, if_neg hf, if_neg hf]
/-- The recursion, without fuel. -/
def cmdsR (en : Nat → Nat) (opn : Nat → List C) (cls : Nat → List Int) (endC : Int → C) (f t : Nat) : List C := cmdR en opn cls endC (t - f) f t
theorem cmdsR_step {f t : Nat} (h : Shut en f t) (hf : f < t) : cmdsR en opn cls endC f t = opn f ++ (cmdsR en opn cls endC (f + 1) (en f) ++ ((cls f).map endC ++ cmdsR en opn cls endC (en f) t)) := by
  have h0 := h.1 f (Nat.le_refl _) hf
  unfold cmdsR
  rw [show t - f = (t - f - 1) + 1 from by omega, cmdR, if_pos hf, cmdR_fuel opn cls endC (en f - (f + 1)) (f + 1) (en f) (t - f - 1) (by omega) (by omega) (h.inner hf), cmdR_fuel opn cls endC (t - en f) (en f) t (t - f - 1) (by omega) (by omega) (h.after hf)]
theorem cmdsR_none {f t : Nat} (hf : ¬ f < t) : cmdsR en opn cls endC f t = [] := by
  unfold cmdsR
  rw [show t - f = 0 from by omega]
  rfl
theorem cmdsR_len {a b : Nat} (ha : ∀ i, (opn i).length ≤ a) (hb : ∀ i, (cls i).length ≤ b) : ∀ (d f t : Nat), t - f ≤ d → Shut en f t → (cmdsR en opn cls endC f t).length ≤ (t - f) * (a + b) := by
  intro d
  induction d with
  | zero =>
    intro f t hd h
    rw [cmdsR_none opn cls endC (by omega)]
    simp
  | succ d ih =>
    intro f t hd h
    by_cases hf : f < t
    · have h0 := h.1 f (Nat.le_refl _) hf
      have h1 := ih (f + 1) (en f) (by omega) (h.inner hf)
      have h2 := ih (en f) t (by omega) (h.after hf)
      have h3 := ha f
      have h4 := hb f
      rw [cmdsR_step opn cls endC h hf]
      simp only [List.length_append, List.length_map]
      have e : (t - f) = 1 + (en f - (f + 1)) + (t - en f) := by omega
      rw [e, Nat.add_mul, Nat.add_mul, Nat.one_mul]
      omega
    · rw [cmdsR_none opn cls endC hf]
      simp
theorem runE_far : ∀ (u i : Nat) (E E' : Nat → List Int), (∀ j, i ≤ j → E j = E' j) → runE en opn cls endC u i E = runE en opn cls endC u i E'
  | 0, i, E, E', h => by rw [runE, runE, h i (Nat.le_refl _)]
  | u + 1, i, E, E', h => by
    rw [runE, runE, h i (Nat.le_refl _), runE_far u (i + 1) _ (upd E' (en i) (cls i ++ E' (en i))) (fun j hj => ?_)]
    by_cases hj2 : j = en i
    · subst hj2
      rw [upd_same, upd_same, h _ (by omega)]
    · rw [upd_other _ _ hj2, upd_other _ _ hj2, h j (by omega)]
/-- What ends ahead of a step is told first. -/
theorem runE_head (u i : Nat) (E : Nat → List Int) : runE en opn cls endC u i E = (E i).map endC ++ runE en opn cls endC u i (upd E i []) := by
  cases u with
  | zero => rw [runE, runE, upd_same]; simp
  | succ u =>
    rw [runE, runE, upd_same]
    simp only [List.map_nil, List.nil_append]
    rw [runE_far opn cls endC u (i + 1) (upd E (en i) (cls i ++ E (en i))) (upd (upd E i []) (en i) (cls i ++ (upd E i []) (en i))) (fun j hj => ?_)]
    by_cases hj2 : j = en i
    · subst hj2
      rw [upd_same, upd_same, upd_other _ _ (by omega)]
    · rw [upd_other _ _ hj2, upd_other _ _ hj2, upd_other _ _ (by omega)]
theorem runE_cmds (n : Nat) : ∀ (d f t : Nat) (E : Nat → List Int), t - f ≤ d → f ≤ t → t ≤ n → Shut en f t → (∀ j, f ≤ j → j < t → E j = []) →
    ∃ (O : List C) (K : List Int), cmdsR en opn cls endC f t = O ++ K.map endC ∧ runE en opn cls endC (n - f) f E = O ++ runE en opn cls endC (n - t) t (upd E t (K ++ E t)) := by
  intro d
  induction d with
  | zero =>
    intro f t E hd hft htn h hE
    have e : f = t := by omega
    subst e
    refine ⟨[], [], by rw [cmdsR_none opn cls endC (by omega)]; rfl, ?_⟩
    simp only [List.nil_append]
    rw [upd_self]
  | succ d ih =>
    intro f t E hd hft htn h hE
    by_cases hf : f < t
    · have h0 := h.1 f (Nat.le_refl _) hf
      obtain ⟨O1, K1, c1, r1⟩ := ih (f + 1) (en f) (upd E (en f) (cls f ++ E (en f))) (by omega) (by omega) (by omega) (h.inner hf) (fun j hj hj2 => by rw [upd_other _ _ (by omega)]; exact hE j (by omega) (by omega))
      rw [upd_same, upd_twice] at r1
      have hrun : runE en opn cls endC (n - f) f E = opn f ++ (O1 ++ runE en opn cls endC (n - en f) (en f) (upd E (en f) (K1 ++ (cls f ++ E (en f))))) := by
        rw [show n - f = (n - (f + 1)) + 1 from by omega, runE, hE f (Nat.le_refl _) hf, r1]
        rfl
      by_cases he : en f = t
      · refine ⟨opn f ++ O1, K1 ++ cls f, ?_, ?_⟩
        · rw [cmdsR_step opn cls endC h hf, c1, he, cmdsR_none opn cls endC (by omega)]
          simp [List.append_assoc]
        · rw [hrun, he]
          simp [List.append_assoc]
      · have hz : E (en f) = [] := hE _ (by omega) (by omega)
        obtain ⟨O2, K2, c2, r2⟩ := ih (en f) t E (by omega) (by omega) htn (h.after hf) (fun j hj hj2 => hE j (by omega) hj2)
        refine ⟨opn f ++ O1 ++ (K1 ++ cls f).map endC ++ O2, K2, ?_, ?_⟩
        · rw [cmdsR_step opn cls endC h hf, c1, c2]
          simp [List.append_assoc]
        · rw [hrun, runE_head, upd_same, upd_twice, hz, ← hz, upd_self, r2, hz]
          simp [List.append_assoc]
    · have e : f = t := by omega
      subst e
      refine ⟨[], [], by rw [cmdsR_none opn cls endC (by omega)]; rfl, ?_⟩
      simp only [List.nil_append]
      rw [upd_self]
theorem run_is_cmds {n : Nat} (h : Shut en 0 n) : runE en opn cls endC n 0 (fun _ => []) = cmdsR en opn cls endC 0 n := by
  obtain ⟨O, K, c, r⟩ := runE_cmds opn cls endC n n 0 n (fun _ => []) (by omega) (by omega) (Nat.le_refl _) h (fun _ _ _ => rfl)
  rw [Nat.sub_zero] at r
  rw [r, c, Nat.sub_self, runE, upd_same, List.append_nil]
end
theorem shut_of_lam {ns : List (Nat × Nat)} (h : Lam ns 0) : Shut (endAt ns) 0 ns.length := by
  refine ⟨fun i _ hi => ?_, fun i j _ hij hj => ?_⟩
  · have := h.1 i hi
    omega
  · have := h.2 i j hij hj
    omega
end Go.Proofs.YtkmmlcnoeeaekaaGreatDoor
/- What a layout's steps tell, by command; contract of paint.Fades. -/
namespace Go.Proofs.YtkmmlcnoeeaekaaGreatDoor
open Go.RowKit Go.Great
set_option linter.unusedVariables false
set_option linter.unusedSimpArgs false

theorem fades_calls (zs : List Int) (kind : Int) (w : World) (hz : zs.length = 118) :
    Calls Tryz.prog 54 #[.int .i64 kind, .agg (sty zs)] w fun e w' => e = .returned (.bool (decide (stN zs 34 < 1000) && decide (kind ≠ 3) && decide (kind ≠ 4))) ∧ Below w.heap.size w w' := by
  have HB := Lib.hid (below_alloc (Below.refl w.heap.size w) (.cells (sty zs) 35))
  have c65 : (w.alloc (.cells (sty zs) 35)).cell? ⟨w.heap.size, 69, none⟩ = some (.int .i64 (stN zs 34)) := ((Blk.new w 35 (sty zs)).cell 69).trans (sty_at zs 69 (by omega))
  generalize stN zs 34 = v at c65 ⊢
  by_cases h1 : v < 1000
  · have q1 : decide (v < 1000) = true := by simp [h1]
    by_cases h2 : kind = 3
    · have q2 : (kind != 3) = false := by simp [h2]
      have HE : Hid ((decide (v < 1000) && decide (kind ≠ 3) && decide (kind ≠ 4)) = false) := by show _ = _; simp [h2]
      clear h1 h2
      go_enter Tryz.func54, Tryz.ntmps54
      go_wp2_with fail
      go_ret
      exact ⟨by rw [HE.out]; rfl, HB.out⟩
    · have q2 : (kind != 3) = true := by simp [h2]
      have HE : Hid ((decide (v < 1000) && decide (kind ≠ 3) && decide (kind ≠ 4)) = (kind != 4)) := by show _ = _; rw [Bool.eq_iff_iff]; simp [h1, h2]
      clear h1 h2
      go_enter Tryz.func54, Tryz.ntmps54
      go_wp2_with fail
      go_ret
      exact ⟨by rw [HE.out]; rfl, HB.out⟩
  · have q1 : decide (v < 1000) = false := by simp [h1]
    have HE : Hid ((decide (v < 1000) && decide (kind ≠ 3) && decide (kind ≠ 4)) = false) := by show _ = _; simp [h1]
    clear h1
    go_enter Tryz.func54, Tryz.ntmps54
    go_wp2_with fail
    go_ret
    exact ⟨by rw [HE.out]; rfl, HB.out⟩

/-- Does a step's box fade? -/
def pFd (L : LayV) (ns : List (Nat × Nat)) (k : Nat) : Bool := decide (stN (L.st (hF ns k)) 34 < 1000) && decide (L.kd (hF ns k) ≠ 3) && decide (L.kd (hF ns k) ≠ 4)
def pNd (L : LayV) (ns : List (Nat × Nat)) (k : Nat) : Int := (fr L.fs (hF ns k)).node
def grpC (node n : Int) : CmdV := ⟨4, node, 0, 0, 0, 0, 0, n, ⟨#[]⟩⟩
def clpC (node : Int) (r : RectV) : CmdV := ⟨3, node, r.x, r.y, r.w, r.h, 0, 0, ⟨#[]⟩⟩
def endC (node : Int) : CmdV := ⟨5, node, 0, 0, 0, 0, 0, 0, ⟨#[]⟩⟩
def pGr (L : LayV) (ns : List (Nat × Nat)) (k : Nat) : List CmdV := if pFd L ns k then [grpC (pNd L ns k) (stN (L.st (hF ns k)) 34)] else []
def pFr (L : LayV) (ns : List (Nat × Nat)) (k : Nat) : List CmdV := fragCmds (fr L.fs (hF ns k)) (L.kd (hF ns k)) (L.st (hF ns k))
def pCp (L : LayV) (ns : List (Nat × Nat)) (k : Nat) : List CmdV := if hCl L ns k then [clpC (pNd L ns k) (innerR (fr L.fs (hF ns k)) (L.st (hF ns k)))] else []
/-- What a step tells ahead of those within; the nodes of what ends behind them. -/
def pOp (L : LayV) (ns : List (Nat × Nat)) (k : Nat) : List CmdV := pGr L ns k ++ (pFr L ns k ++ pCp L ns k)
def pCs (L : LayV) (ns : List (Nat × Nat)) (k : Nat) : List Int := (if hCl L ns k then [pNd L ns k] else []) ++ (if pFd L ns k then [pNd L ns k] else [])
theorem pOp_len (L : LayV) (ns : List (Nat × Nat)) (k : Nat) : (pOp L ns k).length ≤ 7 := by
  have h := fragCmds_len (fr L.fs (hF ns k)) (L.kd (hF ns k)) (L.st (hF ns k))
  unfold pOp pGr pCp pFr
  simp only [List.length_append]
  split <;> split <;> simp <;> omega
theorem pCs_len (L : LayV) (ns : List (Nat × Nat)) (k : Nat) : (pCs L ns k).length ≤ 2 := by
  unfold pCs
  split <;> split <;> simp
/-- What the steps from f to t tell. -/
def pCmds (L : LayV) (ns : List (Nat × Nat)) (f t : Nat) : List CmdV := cmdsR (endAt ns) (pOp L ns) (pCs L ns) endC f t
theorem pCmds_len (L : LayV) (ns : List (Nat × Nat)) {f t : Nat} (h : Shut (endAt ns) f t) : (pCmds L ns f t).length ≤ (t - f) * 9 := cmdsR_len _ _ _ (pOp_len L ns) (pCs_len L ns) _ f t (Nat.le_refl _) h
/-- What one pass tells from step i on. -/
def pRun (L : LayV) (ns : List (Nat × Nat)) (u i : Nat) (E : Nat → List Int) : List CmdV := runE (endAt ns) (pOp L ns) (pCs L ns) endC u i E
theorem pRun_is (L : LayV) {ns : List (Nat × Nat)} (h : Lam ns 0) : pRun L ns ns.length 0 (fun _ => []) = pCmds L ns 0 ns.length := run_is_cmds _ _ _ (shut_of_lam h)
end Go.Proofs.YtkmmlcnoeeaekaaGreatDoor
