/- Several texts in one: StkI. -/
import Derived.Test.YtkmmlcnoeeaekaaGreatDoorPaintListM29
/- The reference's Tell: one step of the induction. -/
namespace Go.Proofs.YtkmmlcnoeeaekaaGreatDoor
open Go.RowKit
set_option linter.unusedVariables false
set_option linter.unusedSimpArgs false

theorem yields_slice {P : Program} {ops : Array Oper} {S : World → Prop} {op : Oper} {a : Act} (hw : Region.wanted op (yielded ops a.tmps) = true) (t : TypeId) (x : Operand) (lo hi mx : Option Operand) (ho : op.op = .slice t x lo hi mx) (r : Value)
    (h : ∀ w, (Instr.sliceAt t (a.eval x) (lo.map a.eval) (hi.map a.eval) (mx.map a.eval)).run P w = .ok r w) : YieldsIf P ops S op r a :=
  .inl ⟨hw, fun w _ => by
    unfold execOp
    simp only [ho, Sem.run_bind, Sem.run_pure, Result.andThen_ok, h w]⟩
theorem blk_one {w : World} {g m : Nat} (h : Blk w g 3 #[.int .i64 (m : Nat)]) : ∀ j u, (nums [m])[j]? = some u → w.cell? ⟨g, 0 + j, none⟩ = some u := fun j u hj => by
  rw [Nat.zero_add, h.cell]
  match j, hj with
  | 0, hj => simpa [nums] using hj
  | j + 1, hj => simp [nums] at hj
theorem blk_two' {w : World} {g a b : Nat} (h : Blk w g 94 #[.int .i64 (a : Nat), .int .i64 (b : Nat)]) : ∀ j u, (steps [(a, b)])[j]? = some u → w.cell? ⟨g, 0 + j, none⟩ = some u := fun j u hj => by
  rw [Nat.zero_add, h.cell]
  match j, hj with
  | 0, hj => simpa [steps, stepF] using hj
  | 1, hj => simpa [steps, stepF] using hj
  | j + 2, hj => simp [steps, stepF] at hj
/-- Is the new value where the old one was, or new? -/
def OwnRel (v v1 : Value) (w : World) : Prop := v1.ownBlock = v.ownBlock ∨ ∃ g, v1.ownBlock = some g ∧ w.heap.size ≤ g
theorem OwnRel.refl {v : Value} {w : World} : OwnRel v v w := .inl rfl
theorem OwnRel.trans {v v1 v2 : Value} {w w1 : World} (h : OwnRel v v1 w) (hs : w.heap.size ≤ w1.heap.size) (h' : OwnRel v1 v2 w1) : OwnRel v v2 w := by
  rcases h' with h' | ⟨g, h', hg⟩
  · rcases h with h | ⟨g, h, hg⟩
    · exact .inl (h'.trans h)
    · exact .inr ⟨g, h'.trans h, hg⟩
  · exact .inr ⟨g, h', Nat.le_trans hs hg⟩
theorem own_apart {w w' : World} {base size size' n n' : Nat} {e e' : TypeId} {v v' : Value} {xs xs' : List Value} (h : w.ownsRow base e size v n xs) (h' : w'.ownsRow w.heap.size e' size' v' n' xs') : ∀ g, v.ownBlock = some g → v'.ownBlock ≠ some g := fun g h1 h2 => by
  have := (h.lt g h1).2
  have := (h'.lt g h2).1
  omega
theorem below_grownB {W w w' : World} {base size n : Nat} {e : TypeId} {v : Value} {xs : List Value} (hb : Below W.heap.size W w) (h : w.ownsRow base e size v n xs) (hW : W.heap.size ≤ base) (hg : w.grownBy w' v.ownBlock) : Below W.heap.size W w' :=
  hb.grown hg hb.size (fun k hk => Nat.le_trans hW (h.lt k hk).1)
theorem own_fr {w w' : World} {gS base size n base' size' n' : Nat} {e e' T : TypeId} {vl v : Value} {xs xs' : List Value} {cs : Array Value} (h : w.ownsRow base e size vl n xs) (hf : Fr gS v w w') (hB : Blk w gS T cs) (h' : w.ownsRow base' e' size' v n' xs') (h1 : T ≠ e) (h2 : e ≠ e') : w'.ownsRow base e size vl n xs :=
  own_heap h fun g hg => hf.block g (h.lt g hg).2 (fun e => blk_ne hB h h1 (by rw [← e]; exact hg)) (fun e => by
    rcases own_far h h' h2 with h3 | h3
    · rw [h3] at hg; cases hg
    · exact h3 (by rw [hg, e]))
theorem slice_left {w : World} {base n c i : Nat} {A : Option Addr} {l : List Nat} (h : w.ownsRow base 3 1 (.slice A n c) n (nums l)) (hi : i ≤ n) :
    ∃ A1 c1, (∀ w, (Instr.sliceAt 44 (.slice A n c) none (some (.int .i64 i)) none).run Tryz.prog w = .ok (.slice A1 i c1) w) ∧ ∀ w', w'.ownsRow base 3 1 (.slice A n c) n (nums l) → SrcI w' A1 i (nums (l.take i)) := by
  rcases h.2 with ⟨h1, h0⟩ | ⟨g, cap, cur, hv, hb, hh, hc, _⟩
  · injection h1 with h1 h2 h3
    subst h1; subst h2; subst h3
    obtain rfl : i = 0 := by omega
    exact ⟨none, 0, fun w => by go_simp, fun w' _ => .inr ⟨rfl, rfl⟩⟩
  · injection hv with hv1 hv2 hv3
    subst hv1; subst hv3
    refine ⟨some ⟨g, 0, none⟩, c, fun w => (by have h1 : i ≤ c := (by omega); go_simp), fun w' h' => ?_⟩
    rcases own_src h' rfl with ⟨b, off, e, hcell⟩ | ⟨e, _⟩
    · refine .inl ⟨b, off, e, fun j u hj => hcell j u ?_⟩
      have hjl : j < i := by
        rcases Nat.lt_or_ge j i with h1 | h1
        · exact h1
        · rw [List.getElem?_eq_none (by rw [nums_len, List.length_take]; omega)] at hj; cases hj
      have e2 : nums (l.take i) = (nums l).take i := by simp [nums, List.map_take]
      rw [e2, List.getElem?_take_of_lt hjl] at hj
      exact hj
    · cases e
theorem slice_right {w : World} {base n c i : Nat} {A : Option Addr} {l : List Nat} (h : w.ownsRow base 3 1 (.slice A n c) n (nums l)) (hi : i ≤ n) :
    ∃ A1 c1, (∀ w, (Instr.sliceAt 44 (.slice A n c) (some (.int .i64 i)) none none).run Tryz.prog w = .ok (.slice A1 (n - i) c1) w) ∧ ∀ w', w'.ownsRow base 3 1 (.slice A n c) n (nums l) → SrcI w' A1 (n - i) (nums (l.drop i)) := by
  have hln : l.length = n := by have := h.1; rw [nums_len] at this; omega
  rcases h.2 with ⟨h1, h0⟩ | ⟨g, cap, cur, hv, hb, hh, hc, _⟩
  · injection h1 with h1 h2 h3
    subst h1; subst h2; subst h3
    obtain rfl : i = 0 := by omega
    exact ⟨none, 0, fun w => by go_simp, fun w' _ => .inr ⟨rfl, rfl⟩⟩
  · injection hv with hv1 hv2 hv3
    subst hv1; subst hv3
    refine ⟨if c = i then some ⟨g, 0, none⟩ else some ⟨g, i, none⟩, c - i, fun w => by go_simp, fun w' h' => ?_⟩
    rcases own_src h' rfl with ⟨b, off, e, hcell⟩ | ⟨e, _⟩
    · injection e with e
      injection e with e1 e2
      subst e1; subst e2
      by_cases hin : i = n
      · subst hin
        have hd : l.drop i = [] := List.drop_eq_nil_of_le (by omega)
        rw [hd]
        split
        · exact .inl ⟨g, 0, rfl, fun j u hj => by simp [nums] at hj⟩
        · exact .inl ⟨g, i, rfl, fun j u hj => by simp [nums] at hj⟩
      · rw [if_neg (by omega)]
        refine .inl ⟨g, i, rfl, fun j u hj => ?_⟩
        have e2 : nums (l.drop i) = (nums l).drop i := by simp [nums, List.map_drop]
        rw [e2, List.getElem?_drop] at hj
        have := hcell _ u hj
        rwa [Nat.zero_add] at this
    · cases e
/-- A stacker that has told the steps xs. -/
structure TSt (L : LayV) (B gS : Nat) (v : Value) (xs : List (Nat × Nat)) (w : World) : Prop where
  rst : RSt L B gS v w
  own : w.ownsRow B 94 2 v xs.length (steps xs)
  hg : B ≤ gS
theorem TSt.below {L : LayV} {B gS : Nat} {v : Value} {xs : List (Nat × Nat)} {w w' : World} (h : TSt L B gS v xs w) (hb : Below w.heap.size w w') : TSt L B gS v xs w' := ⟨h.rst.below hb, own_below h.own hb, h.hg⟩
theorem TSt.drew {L : LayV} {B gS : Nat} {v : Value} {xs : List (Nat × Nat)} {w : World} (h : TSt L B gS v xs w) : TSt L B gS v xs w.drew := h.below (below_drewN (Below.refl _ _) 1)
theorem TSt.under {L : LayV} {B gS : Nat} {v : Value} {xs : List (Nat × Nat)} {w w' : World} (h : TSt L B gS v xs w) (hf : Fr gS v w w') : Below B w w' := hf.under h.rst.hB h.hg (fun k hk => (h.own.lt k hk).1)
theorem TSt.pushed {L : LayV} {B gS : Nat} {v v1 : Value} {xs : List (Nat × Nat)} {p : Nat × Nat} {w w0 w1 : World} (h : TSt L B gS v xs w) (hb : Below w.heap.size w w0) (o1 : w1.ownsRow B 94 2 v1 (xs.length + 1) (steps xs ++ steps [p])) (hg1 : w0.grownBy w1 v.ownBlock)
    (hat : v1.ownBlock = v.ownBlock ∨ v1.ownBlock = some w0.heap.size) : TSt L B gS v1 (xs ++ [p]) (w1.setCell ⟨gS, 5, none⟩ v1) ∧ Fr gS v w (w1.setCell ⟨gS, 5, none⟩ v1) ∧ OwnRel v v1 w := by
  have h0 := h.below hb
  have hne := blk_ne h0.rst.blk h0.own (show (112 : TypeId) ≠ 94 by decide)
  have hb1 : Blk w1 gS 112 (stC L v) := blk_grown h0.rst.blk hg1 hne
  have hne1 := blk_ne hb1 o1 (show (112 : TypeId) ≠ 94 by decide)
  have hrel : OwnRel v v1 w := by
    rcases hat with hat | hat
    · exact .inl hat
    · exact .inr ⟨_, hat, hb.size⟩
  have hF : Fr gS v w (w1.setCell ⟨gS, 5, none⟩ v1) := ((Fr.below hb).trans (.inl rfl) (Fr.grown hg1)).trans hrel (Fr.set 5 v1)
  have hbB := h.under hF
  refine ⟨⟨⟨h.rst.lay.below hbB (Nat.le_refl _), hb1.stored 5 v1, Nat.le_trans h.rst.hB hF.size⟩, ?_, h.hg⟩, hF, hrel⟩
  have := own_setFar (b := gS) (j := 5) (u := v1) o1 hne1
  rw [steps_append, List.length_append]
  exact this
theorem TSt.ended {L : LayV} {B gS g n c a b f : Nat} {l r : List (Nat × Nat)} {w : World} (h : TSt L B gS (.slice (some ⟨g, 0, none⟩) n c) (l ++ (f, a) :: r) w) : TSt L B gS (.slice (some ⟨g, 0, none⟩) n c) (l ++ (f, b) :: r) (w.setCell ⟨g, l.length * 2 + 1, none⟩ (.int .i64 (b : Nat))) ∧ Fr gS (.slice (some ⟨g, 0, none⟩) n c) w (w.setCell ⟨g, l.length * 2 + 1, none⟩ (.int .i64 (b : Nat))) := by
  have hne := blk_ne h.rst.blk h.own (show (112 : TypeId) ≠ 94 by decide)
  have hF : Fr gS (.slice (some ⟨g, 0, none⟩) n c) w (w.setCell ⟨g, l.length * 2 + 1, none⟩ (.int .i64 (b : Nat))) := Fr.setOwn rfl
  have hbB := h.under hF
  have hn : n = (l ++ (f, a) :: r).length := by
    rcases h.own.2 with ⟨h1, _⟩ | ⟨_, _, _, hv, _⟩
    · cases h1
    · injection hv
  refine ⟨⟨⟨h.rst.lay.below hbB (Nat.le_refl _), h.rst.blk.far (fun e => hne (by rw [e]; rfl)) _, Nat.le_trans h.rst.hB hF.size⟩, ?_, h.hg⟩, hF⟩
  have h1 := h.own
  rw [← hn] at h1
  have h2 := own_set (j := l.length * 2 + 1) (u := .int .i64 (b : Nat)) h1
  rw [steps_end] at h2
  have e : (l ++ (f, b) :: r).length = n := by rw [hn]; simp
  rw [e]; exact h2
theorem blk_neq {w wx : World} {cs : Array Value} {t : TypeId} (h : w.alloc (.cells cs t) = wx) : Blk wx w.heap.size t cs := by rw [← h]; exact Blk.new _ _ _
theorem own_aeq {w wx : World} {o : Obj} {base size n : Nat} {e : TypeId} {v : Value} {xs : List Value} (h : w.alloc o = wx) (h' : w.ownsRow base e size v n xs) : wx.ownsRow base e size v n xs := by rw [← h]; exact h'.alloc _
theorem below_aeq {W w wx : World} {o : Obj} (h : w.alloc o = wx) (h' : Below W.heap.size W w) : Below W.heap.size W wx := by rw [← h]; exact below_alloc h' _
theorem size_aeq {w wx : World} {o : Obj} (h : w.alloc o = wx) : w.heap.size ≤ wx.heap.size := by rw [← h, alloc_size]; omega
theorem own_drw {w : World} {base size n : Nat} {e : TypeId} {v : Value} {xs : List Value} (h : w.ownsRow base e size v n xs) : w.drew.ownsRow base e size v n xs := h
theorem below_drw {B : Nat} {W w : World} (h : Below B W w) : Below B W w.drew := ⟨h.os, h.tape, h.output, h.size, h.block⟩
theorem OwnRel.mono {v v1 : Value} {w w1 : World} (h : OwnRel v v1 w1) (hs : w.heap.size ≤ w1.heap.size) : OwnRel v v1 w := by
  rcases h with h | ⟨g, h, hg⟩
  · exact .inl h
  · exact .inr ⟨g, h, Nat.le_trans hs hg⟩
namespace LayV
def ownF (L : LayV) (f : Nat) : List Nat := if L.flatF f then [] else ownL L.nf L.par L.flatF L.rankF L.phaseF f
/-- What a fragment owns in the first p phases. -/
def ownTo (L : LayV) (f p : Nat) : List Nat := (List.range p).flatMap (fun p => rankedP L.par L.flatF L.rankF L.phaseF f (p : Nat) L.nf)
end LayV
theorem ownTo_succ (L : LayV) (f p : Nat) : L.ownTo f (p + 1) = L.ownTo f p ++ rankedP L.par L.flatF L.rankF L.phaseF f (p : Nat) L.nf := by simp [LayV.ownTo, List.range_succ]
def sumC (c : Nat → Nat) (l : List Nat) : Nat := (l.map c).sum
theorem sumC_append (c : Nat → Nat) (l l' : List Nat) : sumC c (l ++ l') = sumC c l + sumC c l' := by simp [sumC]
theorem sumC_take (c : Nat → Nat) : ∀ (l : List Nat) (j : Nat), j < l.length → sumC c (l.take j) + c (l.getD j 0) ≤ sumC c l
  | [], j, h => by simp at h
  | a :: l, 0, _ => by simp [sumC]
  | a :: l, j + 1, h => by
    have := sumC_take c l j (by simpa using h)
    simp [sumC] at this ⊢
    omega
theorem ownTo_mono (L : LayV) (c : Nat → Nat) (f p : Nat) : ∀ q, p ≤ q → sumC c (L.ownTo f p) ≤ sumC c (L.ownTo f q)
  | 0, h => by obtain rfl : p = 0 := by omega
               exact Nat.le_refl _
  | q + 1, h => by
    by_cases e : p = q + 1
    · subst e; exact Nat.le_refl _
    · have := ownTo_mono L c f p q (by omega)
      rw [ownTo_succ, sumC_append]
      omega
theorem tells_sum (own : Nat → List Nat) (u : Nat) (l : List Nat) (a : Nat) : (tells (tellN own u) l a).length = sumC (cntT own u) l := tells_len _ _ (fun k a => tellN_len own u k a) l a
theorem own_phase (L : LayV) : ∀ k, 0 ≤ L.phaseF k ∧ L.phaseF k < 5 := fun k => by
  unfold LayV.phaseF phK
  split
  · split <;> omega
  · split
    · omega
    · split <;> omega
def TellPost (L : LayV) (B gS : Nat) (v : Value) (xs : List (Nat × Nat)) (u f : Nat) (w : World) (e : Ending) (w' : World) : Prop :=
  e = .returned (.tuple #[]) ∧ ∃ v', TSt L B gS v' (xs ++ tellN L.ownF u f xs.length) w' ∧ Fr gS v w w' ∧ OwnRel v v' w
def TellSays (L : LayV) (B gS u : Nat) : Prop := ∀ (f : Nat) (v : Value) (xs : List (Nat × Nat)) (w : World), TSt L B gS v xs w → f < L.nf → L.flatF f = false → L.nf ≤ f + u → xs.length + (tellN L.ownF u f xs.length).length ≤ 2097152 →
  Calls Tryz.prog 55 #[.pointer (some ⟨gS, 0, none⟩), .int .i64 (f : Nat)] w (TellPost L B gS v xs u f w)
set_option maxRecDepth 1000000 in
set_option maxHeartbeats 20000000 in
theorem rtell_step (L : LayV) (B gS u : Nat) (ih : TellSays L B gS u) : TellSays L B gS (u + 1) := by
  intro f v xs w hT hf hff hn hlen
  obtain ⟨i0, hia, hza0, hza1, hza2⟩ := info_parts info_nums
  obtain ⟨i1, hib, hzb0, hzb1, hzb2⟩ := info_parts info_step
  obtain ⟨A0, c0, rfl⟩ := own_open hT.own
  have IH := Lib.hid ih
  have HFF := Lib.hid hff
  have hp : ∀ k, 0 < k → k < L.nf → L.par k < k := fun k h0 hk => (par_lt hT.rst.lay h0 hk).1
  have HP := Lib.hid hp
  have HT := Lib.hid hT
  have hof : L.ownF f = L.ownTo f 5 := by unfold LayV.ownF; rw [hff]; rfl
  have HTOT : Hid (tellN L.ownF (u + 1) f xs.length = (f, xs.length + 1 + (tells (tellN L.ownF u) (L.ownTo f 5) (xs.length + 1)).length) :: tells (tellN L.ownF u) (L.ownTo f 5) (xs.length + 1)) := by show _ = _; rw [tellN, hof]
  have HLEN : Hid (xs.length + 1 + sumC (cntT L.ownF u) (L.ownTo f 5) ≤ 2097152) := by
    have h1 := hlen
    rw [HTOT.out, List.length_cons, tells_sum] at h1
    show _ ≤ _; omega
  have hnf := hT.rst.lay.nf0
  have hxl : xs.length ≤ 2097151 := by have := HLEN.out; omega
  have s5 : w.cell? ⟨gS, 5, none⟩ = some (.slice A0 xs.length c0) := hT.rst.blk.cell 5
  have hgw : gS < w.heap.size := hT.rst.blk.lt
  have HLT := Lib.hid hn
  have hwa := (Blk.new w 94 #[.int .i64 (f : Nat), .int .i64 ((0 : Nat) : Int)])
  have HWA := Lib.hid hwa
  clear hT ih hff hp hof hlen hn hwa
  go_enter Tryz.func55, Tryz.ntmps55
  go_upto_region 2 with (at_builtin; refine wpList_append_any rfl _ _ 60 rfl B 94 i1 (.agg #[.int .i64 0, .int .i64 0]) 2 16 Tryz.underlying60 hib hzb0 hzb1 hzb2 rfl (by decide) (.slice A0 xs.length c0) xs.length (steps xs) rfl (HT.out.own.alloc _) (some ⟨w.heap.size, 0, none⟩) 1 1 (steps [(f, 0)]) rfl (by simp [steps, stepF]) (.inl ⟨_, 0, rfl, blk_two' HWA.out⟩) (steps_one _) (by unfold maxLen; omega) (by omega) (by rw [alloc_size]; exact Nat.le_succ_of_le HT.out.rst.hB) ?_; intro A1 c1 w1 o1 hg1 hat1; have HPU := Lib.hid (HT.out.pushed (below_alloc (Below.refl _ w) (.cells #[.int .i64 (f : Nat), .int .i64 ((0 : Nat) : Int)] 94)) o1 hg1 hat1); have hb1 := blk_grown (HT.out.rst.blk.alloc (.cells #[.int .i64 (f : Nat), .int .i64 ((0 : Nat) : Int)] 94)) hg1 (blk_ne (HT.out.rst.blk.alloc (.cells #[.int .i64 (f : Nat), .int .i64 ((0 : Nat) : Int)] 94)) (HT.out.own.alloc (.cells #[.int .i64 (f : Nat), .int .i64 ((0 : Nat) : Int)] 94)) (by decide)); have t5 : w1.cell? ⟨gS, 5, none⟩ = some (.slice A0 xs.length c0) := hb1.cell 5; have z5 : w1.frozen? ⟨gS, 5, none⟩ = false := hb1.free 5; clear hb1 o1 hg1 hat1)
  generalize World.setCell w1 _ _ = W1 at HPU ⊢
  clear t5 z5 s5 hgw HWA
  have mixed : Tryz.prog.follows .mixedOrders = true := by kernel_rfl
  go_wp2_with fail
  go_loopw [27] (fun s wr => ∃ (p : Nat) (v' : Value) (ys : List (Nat × Nat)), p ≤ 5 ∧ s = .int .i64 p ∧ TSt L B gS v' ys wr ∧ Fr gS (.slice A0 xs.length c0) w wr ∧ OwnRel (.slice A0 xs.length c0) v' w ∧ Hid (ys = xs ++ (f, 0) :: tells (tellN L.ownF u) (L.ownTo f p) (xs.length + 1))) (fun s _ => 5 - (intOf s).toNat)
  case atStart => exact ⟨0, _, _, by omega, rfl, HPU.out.1, HPU.out.2.1, HPU.out.2.2, by show _ = _; simp [LayV.ownTo, tells]⟩
  case round =>
    clear HPU
    obtain ⟨p, v', ys, hp5, rfl, hT, hF, hO, HYS⟩ := hrel
    obtain ⟨wv, rfl⟩ : ∃ x, x = wr := ⟨_, rfl⟩
    obtain ⟨AO, cO, rfl⟩ := own_open hT.own
    have HD := Lib.hid hT
    have HF := Lib.hid hF
    have HO := Lib.hid hO
    have s1 : wv.cell? ⟨gS, 1, none⟩ = some (.slice L.Af L.nf L.cf) := hT.rst.c1
    clear hT hF hO
    by_cases hplt : p < 5
    · have PP := Lib.hid (show p ≤ 5 ∧ p < 5 from ⟨hp5, hplt⟩)
      have q5 : decide ((p : Int) < 5) = true := decide_eq_true (by omega)
      go_wp2_with fail
      go_loopw [6, 36] (fun s6 s36 w2 => ∃ (m n2 : Nat) (A2 : Option Addr) (c2 : Nat) (l : List Nat), m ≤ L.nf ∧ s36 = .int .i64 m ∧ s6 = .slice A2 n2 c2 ∧ w2.ownsRow wv.heap.size 3 1 (.slice A2 n2 c2) n2 (nums l) ∧ Below wv.heap.size wv w2 ∧ Hid (l = rankedP L.par L.flatF L.rankF L.phaseF f (p : Nat) m)) (fun _ s36 _ => L.nf - (intOf s36).toNat)
      case atStart => exact ⟨0, 0, none, 0, [], Nat.zero_le _, rfl, rfl, World.ownsRow_nil _ _ _ _, Below.refl _ _, rfl⟩
      case round =>
        clear s1
        obtain ⟨m, n2, A2, c2, l, hm, rfl, rfl, hown, hbel, HLR⟩ := hrel
        obtain ⟨wq, rfl⟩ : ∃ x, x = wr := ⟨_, rfl⟩
        have hln : l.length = n2 := by have := hown.1; rw [nums_len] at this; omega
        have hn2 : n2 ≤ m := by rw [← hln, HLR.out]; exact ranked_len f (p : Nat) m
        have HLN := Lib.hid hln
        have HLO := Lib.hid hown
        have HBL := Lib.hid hbel
        clear hown hbel hln
        by_cases hlt : m < L.nf
        · have MM := Lib.hid (show m ≤ L.nf ∧ m < L.nf from ⟨hm, hlt⟩)
          have qm : decide (m < L.nf) = true := decide_eq_true hlt
          have qm' : decide ((m : Int) < (L.nf : Int)) = true := decide_eq_true (by omega)
          by_cases h0 : m = 0
          · have q0 : decide ((0 : Int) < (m : Int)) = false := decide_eq_false (by omega)
            have q0' : decide (0 < m) = false := decide_eq_false (by omega)
            have HN : Hid (l = rankedP L.par L.flatF L.rankF L.phaseF f (p : Nat) (m + 1)) := by show _ = _; rw [rankedP_step, if_neg (by omega)]; exact HLR.out
            clear h0
            go_wp2_with fail
            go_roundw
            case rel => exact ⟨m + 1, n2, A2, c2, l, by have := MM.out; omega, by go_num, rfl, HLO.out, HBL.out, HN.out⟩
            case measure => have := MM.out; simp [intOf]; omega
          have q0 : decide ((0 : Int) < (m : Int)) = true := decide_eq_true (by omega)
          have q0' : decide (0 < m) = true := decide_eq_true (by omega)
          have how := fun w (h : RSt L B gS (.slice AO ys.length cO) w) => rowner_calls L B gS m _ w h hlt (by omega)
          have hbw := Below.refl wq.heap.size wq
          by_cases ho : ownerP L.par L.flatF m = f
          · rw [ho] at how
            have HOW := Lib.hid how
            have HOF := Lib.hid ho
            have hph := fun w (h : RSt L B gS (.slice AO ys.length cO) w) => rphase_calls L B gS m _ w h hlt
            clear how ho
            by_cases hpe : L.phaseF m = (p : Int)
            · rw [hpe] at hph
              have HPH := Lib.hid hph
              have HPF := Lib.hid hpe
              clear hph hpe
              have hrk := fun k (hk : k < L.nf) w (h : RSt L B gS (.slice AO ys.length cO) w) => rrank_calls L B gS k _ w h hk
              have HRK := Lib.hid hrk
              clear hrk
              go_wp2_with (first | (go_at_call 86; refine (HOW.out _ (HD.out.rst.below (below_then HBL.out hbw))).mono ?_; rintro e wz ⟨rfl, hbz⟩; have hbw := below_then hbw hbz) | (go_at_call 87; refine (HPH.out _ (HD.out.rst.below (below_then HBL.out hbw))).mono ?_; rintro e wz ⟨rfl, hbz⟩; have hbw := below_then hbw hbz))
              go_loopw [8] (fun s8 w3 => ∃ i : Nat, i ≤ n2 ∧ s8 = .int .i64 i ∧ Below wq.heap.size wq w3 ∧ Hid (∀ j, j < i → L.rankF (l.getD j 0) ≤ L.rankF m)) (fun s8 _ => n2 - (intOf s8).toNat)
              case atStart => exact ⟨0, Nat.zero_le _, rfl, hbw, fun j hj => absurd hj (by omega)⟩
              case round =>
                clear hbw
                obtain ⟨i, hi, rfl, hbw, HLE⟩ := hrel
                by_cases hil : i < n2
                · obtain ⟨g2, cap2, e2, hg2a, hg2b⟩ := own_some HLO.out (by omega)
                  injection e2 with e2 _ e3
                  subst e2; subst e3
                  have hcl : wr.cell? ⟨g2, i, none⟩ = some (.int .i64 (l.getD i 0 : Nat)) := own_cell (own_below HLO.out hbw) (nums_at l (by rw [HLN.out]; exact hil))
                  have hkm : l.getD i 0 < m := by
                    have h1 : l.getD i 0 ∈ l := by
                      have h2 : i < l.length := by rw [HLN.out]; exact hil
                      simp [List.getD, h2]
                    have h3 : l.getD i 0 ∈ rankedP L.par L.flatF L.rankF L.phaseF f (p : Nat) m := by rw [← HLR.out]; exact h1
                    exact ((mem_ranked _ _ _ _).1 h3).1
                  obtain ⟨k', hk'⟩ : ∃ x, x = l.getD i 0 := ⟨_, rfl⟩
                  rw [← hk'] at hcl hkm
                  have HK' := Lib.hid hk'
                  have hra := HRK.out k' (by omega)
                  have hrb := HRK.out m hlt
                  obtain ⟨ra, hrae⟩ : ∃ x, x = L.rankF k' := ⟨_, rfl⟩
                  obtain ⟨rb, hrbe⟩ : ∃ x, x = L.rankF m := ⟨_, rfl⟩
                  rw [← hrae] at hra
                  rw [← hrbe] at hrb
                  have HRA := Lib.hid hra
                  have HRB := Lib.hid hrb
                  have HRAE := Lib.hid hrae
                  have HRBE := Lib.hid hrbe
                  have II := Lib.hid (show i ≤ n2 ∧ i < n2 from ⟨hi, hil⟩)
                  have hg3 : g2 < wr.heap.size := Nat.lt_of_lt_of_le hg2b hbw.size
                  clear hk' hra hrb hrae hrbe
                  by_cases hr : ra ≤ rb
                  · have qr : decide (ra ≤ rb) = true := decide_eq_true hr
                    have HLE2 : Hid (∀ j, j < i + 1 → L.rankF (l.getD j 0) ≤ L.rankF m) := fun j hj => by
                      by_cases e : j = i
                      · subst e; rw [← HK'.out, ← HRAE.out, ← HRBE.out]; exact hr
                      · exact HLE.out j (by omega)
                    clear hr
                    go_wp2_with (first | (go_at_call 88; (with_reducible refine (HRA.out _ (HD.out.rst.below (below_then HBL.out hbw))).mono ?_); rintro e wz ⟨rfl, hbz⟩; have hbw := below_then hbw hbz) | (go_at_call 88; (with_reducible refine (HRB.out _ (HD.out.rst.below (below_then HBL.out hbw))).mono ?_); rintro e wz ⟨rfl, hbz⟩; have hbw := below_then hbw hbz))
                    go_roundw
                    case rel => exact ⟨i + 1, by have := II.out; omega, by go_num, hbw, HLE2.out⟩
                    case measure => have := II.out; simp [intOf]; omega
                  · have qr : decide (ra ≤ rb) = false := decide_eq_false hr
                    have HGT : Hid (i < n2 → L.rankF m < L.rankF (l.getD i 0)) := fun _ => by rw [← HK'.out, ← HRAE.out, ← HRBE.out]; omega
                    clear hr
                    go_wp2_with (first | (go_at_call 88; (with_reducible refine (HRA.out _ (HD.out.rst.below (below_then HBL.out hbw))).mono ?_); rintro e wz ⟨rfl, hbz⟩; have hbw := below_then hbw hbz) | (go_at_call 88; (with_reducible refine (HRB.out _ (HD.out.rst.below (below_then HBL.out hbw))).mono ?_); rintro e wz ⟨rfl, hbz⟩; have hbw := below_then hbw hbz))
                    have HNL : Hid (l.take i ++ [m] ++ l.drop i = rankedP L.par L.flatF L.rankF L.phaseF f (p : Nat) (m + 1)) := by
                      show _ = _
                      rw [rankedP_step, if_pos ⟨by omega, HOF.out, HPF.out⟩, ← HLR.out, insR_at L.rankF l i (by rw [HLN.out]; exact hi) HLE.out (by rw [HLN.out]; exact HGT.out)]
                      simp
                    obtain ⟨A1, c1', hs1, hsl⟩ := slice_left HLO.out hi
                    obtain ⟨A6, c6, hs2, hsr⟩ := slice_right HLO.out hi
                    have HS1 := Lib.hid hs1
                    have HS2 := Lib.hid hs2
                    have HSL := Lib.hid hsl
                    have HSR := Lib.hid hsr
                    have HLD : Hid ((nums (l.drop i)).length = (n2 - i) * 1) := by show _ = _; rw [nums_len, List.length_drop, HLN.out]; omega
                    have HCP := Lib.hid (fun (w : World) (h : SrcI w A1 i (nums (l.take i))) => rcopy_calls A1 i c1' (l.take i) w (by rw [List.length_take, HLN.out]; omega) h (by omega))
                    have HLO := Lib.hid (own_drw (own_below HLO.out hbw))
                    have HBL := Lib.hid (below_drw (below_then HBL.out hbw))
                    have mixed : Tryz.prog.follows .mixedOrders = true := by kernel_rfl
                    have hS0 : True := trivial
                    clear hs1 hs2 hsl hsr hbw HLE HGT HD HF HO HLR HPH HOW
                    refine wp_region_noPanic ?_
                    refine region_M (S := fun w' => True) (T := []) (by kernel_rfl) ?_
                    generalize World.drew _ = wd at HLO HBL ⊢
                    refine anyM_free (i := 0) (oi := { dst := some 73, op := _, type := _, pos := _, after := _, guard := _ }) (v := ?_) rfl (by kernel_rfl) (fun _ _ _ h => h) (Or.inl ⟨by kernel_rfl, ?_⟩) (fun _ => hS0) ?_
                    rotate_left 1
                    · (intro w hSw; (try dsimp only at hSw); go_simp; try with_reducible rfl)
                    try simp only [Act.put, Array.toArray_toList, List.setIfInBounds_toArray, List.set_cons_zero, List.set_cons_succ]
                    refine anyM_free (i := 1) (oi := { dst := some 74, op := _, type := _, pos := _, after := _, guard := _ }) (v := ?_) rfl (by kernel_rfl) (fun _ _ _ h => h) (Or.inl ⟨by kernel_rfl, ?_⟩) (fun _ => hS0) ?_
                    rotate_left 1
                    · (intro w hSw; (try dsimp only at hSw); go_simp; try with_reducible rfl)
                    try simp only [Act.put, Array.toArray_toList, List.setIfInBounds_toArray, List.set_cons_zero, List.set_cons_succ]
                    refine anyM_take (i := 2) (oi := { dst := some 75, op := _, type := _, pos := _, after := _, guard := _ }) (v := _) rfl (by kernel_rfl) (fun _ _ _ h => h) (yields_slice (by kernel_rfl) _ _ _ _ _ rfl _ HS1.out) hS0 ?_
                    try simp only [Act.put, Array.toArray_toList, List.setIfInBounds_toArray, List.set_cons_zero, List.set_cons_succ]
                    refine anyM_free (i := 4) (oi := { dst := some 77, op := _, type := _, pos := _, after := _, guard := _ }) (v := ?_) rfl (by kernel_rfl) (fun _ _ _ h => h) (Or.inl ⟨by kernel_rfl, ?_⟩) (fun _ => hS0) ?_
                    rotate_left 1
                    · (intro w hSw; (try dsimp only at hSw); go_simp; try with_reducible rfl)
                    try simp only [Act.put, Array.toArray_toList, List.setIfInBounds_toArray, List.set_cons_zero, List.set_cons_succ]
                    refine anyM_free (i := 7) (oi := { dst := some 80, op := _, type := _, pos := _, after := _, guard := _ }) (v := ?_) rfl (by kernel_rfl) (fun _ _ _ h => h) (Or.inl ⟨by kernel_rfl, ?_⟩) (fun _ => hS0) ?_
                    rotate_left 1
                    · (intro w hSw; (try dsimp only at hSw); go_simp; try with_reducible rfl)
                    try simp only [Act.put, Array.toArray_toList, List.setIfInBounds_toArray, List.set_cons_zero, List.set_cons_succ]
                    refine anyM_free (i := 8) (oi := { dst := some 81, op := _, type := _, pos := _, after := _, guard := _ }) (v := ?_) rfl (by kernel_rfl) (fun _ _ _ h => h) (Or.inl ⟨by kernel_rfl, ?_⟩) (fun _ => hS0) ?_
                    rotate_left 1
                    · (intro w hSw; (try dsimp only at hSw); go_simp; try with_reducible rfl)
                    try simp only [Act.put, Array.toArray_toList, List.setIfInBounds_toArray, List.set_cons_zero, List.set_cons_succ]
                    refine anyM_take (i := 9) (oi := { dst := some 82, op := _, type := _, pos := _, after := _, guard := _ }) (v := _) rfl (by kernel_rfl) (fun _ _ _ h => h) (yields_slice (by kernel_rfl) _ _ _ _ _ rfl _ HS2.out) hS0 ?_
                    try simp only [Act.put, Array.toArray_toList, List.setIfInBounds_toArray, List.set_cons_zero, List.set_cons_succ]
                    refine anyM_two (i := 3) (j := 5) (by kernel_rfl) rfl rfl (fun K hK => ?_) (fun K hK => ?_)
                    · skip
                      go_simp
                      refine (HCP.out _ (HSL.out _ HLO.out)).mono ?_
                      rintro e w5 ⟨v5, rfl, hv5, hb5⟩
                      obtain ⟨A5, c5, rfl⟩ := own_open hv5
                      have HV5 := Lib.hid hv5
                      have HLO5 := Lib.hid (own_below HLO.out hb5)
                      have HBL5 := Lib.hid (below_then HBL.out hb5)
                      have HS5 := Lib.hid hb5.size
                      clear hv5 hb5
                      refine hK.out _ _ (fun _ => hS0) ?_
                      clear hK K
                      try simp only [Act.put, Array.toArray_toList, List.setIfInBounds_toArray, List.set_cons_zero, List.set_cons_succ]
                      refine anyM_one (i := 5) (by kernel_rfl) rfl (fun K hK => ?_)
                      go_simp
                      generalize hwx : World.alloc w5 _ = wx
                      have BX := Lib.hid (blk_neq hwx)
                      have HV5 := Lib.hid (own_aeq hwx HV5.out)
                      have HLO5 := Lib.hid (own_aeq hwx HLO5.out)
                      have HBL5 := Lib.hid (below_aeq hwx HBL5.out)
                      have HS5 := Lib.hid (Nat.le_trans HS5.out (size_aeq hwx))
                      clear hwx
                      refine hK.out _ _ (fun _ => hS0) ?_
                      clear hK K
                      try simp only [Act.put, Array.toArray_toList, List.setIfInBounds_toArray, List.set_cons_zero, List.set_cons_succ]
                      refine anyM_one (i := 6) (by kernel_rfl) rfl (fun K hK => ?_)
                      refine step_append_any (by rfl) _ _ 44 (by rfl) (wd.heap.size) 3 i0 (.int .i64 0) 1 8 Tryz.underlying44 hia hza0 hza1 hza2 rfl (by decide) (.slice A5 i c5) i (nums (l.take i)) (by rfl) HV5.out (some ⟨w5.heap.size, 0, none⟩) 1 1 (nums [m]) (by rfl) (by simp [nums]) (.inl ⟨_, 0, rfl, blk_one BX.out⟩) (nums_one _) (by unfold maxLen; omega) (by omega) HS5.out ?_
                      intro A7 c7 w7 o7 hg7 hat7
                      rw [nums_append] at o7
                      have HV7 := Lib.hid o7
                      have HLO7 := Lib.hid (own_heap HLO5.out (fun g hg => hg7.block g (HLO5.out.lt g hg).2 (fun e => own_apart HLO.out HV5.out g hg e.symm)))
                      have HBL7 := Lib.hid (below_grownB HBL5.out HV5.out HBL.out.size hg7)
                      have HS7 := Lib.hid (Nat.le_trans HS5.out hg7.size)
                      clear o7 hg7 hat7
                      refine hK.out _ _ (fun _ => hS0) ?_
                      clear hK K
                      try simp only [Act.put, Array.toArray_toList, List.setIfInBounds_toArray, List.set_cons_zero, List.set_cons_succ]
                      refine anyM_one (i := 10) (by kernel_rfl) rfl (fun K hK => ?_)
                      refine step_append_any (by rfl) _ _ 44 (by rfl) (wd.heap.size) 3 i0 (.int .i64 0) 1 8 Tryz.underlying44 hia hza0 hza1 hza2 rfl (by decide) (.slice A7 (i + 1) c7) (i + 1) (nums (l.take i ++ [m])) (by rfl) HV7.out A6 (n2 - i) c6 (nums (l.drop i)) (by rfl) HLD.out (HSR.out _ HLO7.out) (nums_one _) (by unfold maxLen; omega) (by omega) HS7.out ?_
                      intro A8 c8 w8 o8 hg8 hat8
                      rw [nums_append] at o8
                      have HV8 := Lib.hid (own_low (base' := wv.heap.size) o8 HBL.out.size)
                      have HBL8 := Lib.hid (below_grownB HBL7.out HV7.out HBL.out.size hg8)
                      clear o8 hg8 hat8
                      refine hK.out _ _ (fun _ => hS0) ?_
                      clear hK K
                      try simp only [Act.put, Array.toArray_toList, List.setIfInBounds_toArray, List.set_cons_zero, List.set_cons_succ]
                      refine anyM_free (i := 11) (oi := { dst := some 6, op := _, type := _, pos := _, after := _, guard := _ }) (v := ?_) rfl (by kernel_rfl) (fun _ _ _ h => h) (Or.inl ⟨by kernel_rfl, ?_⟩) (fun _ => hS0) ?_
                      rotate_left 1
                      · (intro w hSw; (try dsimp only at hSw); go_simp; try with_reducible rfl)
                      try simp only [Act.put, Array.toArray_toList, List.setIfInBounds_toArray, List.set_cons_zero, List.set_cons_succ]
                      refine anyM_done (by kernel_rfl) ?_ _
                      refine NoPanic.normal ?_
                      go_wp2_with fail
                      go_roundw
                      case rel => exact ⟨m + 1, i + 1 + (n2 - i), A8, c8, l.take i ++ [m] ++ l.drop i, by have := MM.out; omega, by go_num, rfl, HV8.out, HBL8.out, HNL.out⟩
                      case measure => have := MM.out; simp [intOf]; omega
                    · skip
                      go_simp
                      generalize hwx : World.alloc wd _ = wx
                      have BX := Lib.hid (blk_neq hwx)
                      have HLX := Lib.hid (own_aeq hwx HLO.out)
                      have HBX := Lib.hid (below_aeq hwx HBL.out)
                      have HWX := Lib.hid (size_aeq hwx)
                      clear hwx
                      refine hK.out _ _ (fun _ => hS0) ?_
                      clear hK K
                      try simp only [Act.put, Array.toArray_toList, List.setIfInBounds_toArray, List.set_cons_zero, List.set_cons_succ]
                      refine anyM_one (i := 3) (by kernel_rfl) rfl (fun K hK => ?_)
                      go_simp
                      refine (HCP.out _ (HSL.out _ HLX.out)).mono ?_
                      rintro e w5 ⟨v5, rfl, hv5, hb5⟩
                      obtain ⟨A5, c5, rfl⟩ := own_open hv5
                      have HV5 := Lib.hid hv5
                      have HLO5 := Lib.hid (own_below HLX.out hb5)
                      have HBL5 := Lib.hid (below_then HBX.out hb5)
                      have HS5 := Lib.hid hb5.size
                      have BX := Lib.hid (BX.out.below hb5 BX.out.lt)
                      clear hv5 hb5
                      refine hK.out _ _ (fun _ => hS0) ?_
                      clear hK K
                      try simp only [Act.put, Array.toArray_toList, List.setIfInBounds_toArray, List.set_cons_zero, List.set_cons_succ]
                      refine anyM_one (i := 6) (by kernel_rfl) rfl (fun K hK => ?_)
                      refine step_append_any (by rfl) _ _ 44 (by rfl) (wx.heap.size) 3 i0 (.int .i64 0) 1 8 Tryz.underlying44 hia hza0 hza1 hza2 rfl (by decide) (.slice A5 i c5) i (nums (l.take i)) (by rfl) HV5.out (some ⟨wd.heap.size, 0, none⟩) 1 1 (nums [m]) (by rfl) (by simp [nums]) (.inl ⟨_, 0, rfl, blk_one BX.out⟩) (nums_one _) (by unfold maxLen; omega) (by omega) HS5.out ?_
                      intro A7 c7 w7 o7 hg7 hat7
                      rw [nums_append] at o7
                      have HV7 := Lib.hid o7
                      have HLO7 := Lib.hid (own_heap HLO5.out (fun g hg => hg7.block g (HLO5.out.lt g hg).2 (fun e => own_apart HLX.out HV5.out g hg e.symm)))
                      have HBL7 := Lib.hid (below_grownB HBL5.out HV5.out HBX.out.size hg7)
                      have HS7 := Lib.hid (Nat.le_trans HS5.out hg7.size)
                      clear o7 hg7 hat7
                      refine hK.out _ _ (fun _ => hS0) ?_
                      clear hK K
                      try simp only [Act.put, Array.toArray_toList, List.setIfInBounds_toArray, List.set_cons_zero, List.set_cons_succ]
                      refine anyM_one (i := 10) (by kernel_rfl) rfl (fun K hK => ?_)
                      refine step_append_any (by rfl) _ _ 44 (by rfl) (wx.heap.size) 3 i0 (.int .i64 0) 1 8 Tryz.underlying44 hia hza0 hza1 hza2 rfl (by decide) (.slice A7 (i + 1) c7) (i + 1) (nums (l.take i ++ [m])) (by rfl) HV7.out A6 (n2 - i) c6 (nums (l.drop i)) (by rfl) HLD.out (HSR.out _ HLO7.out) (nums_one _) (by unfold maxLen; omega) (by omega) HS7.out ?_
                      intro A8 c8 w8 o8 hg8 hat8
                      rw [nums_append] at o8
                      have HV8 := Lib.hid (own_low (base' := wv.heap.size) o8 HBX.out.size)
                      have HBL8 := Lib.hid (below_grownB HBL7.out HV7.out HBX.out.size hg8)
                      clear o8 hg8 hat8
                      refine hK.out _ _ (fun _ => hS0) ?_
                      clear hK K
                      try simp only [Act.put, Array.toArray_toList, List.setIfInBounds_toArray, List.set_cons_zero, List.set_cons_succ]
                      refine anyM_free (i := 11) (oi := { dst := some 6, op := _, type := _, pos := _, after := _, guard := _ }) (v := ?_) rfl (by kernel_rfl) (fun _ _ _ h => h) (Or.inl ⟨by kernel_rfl, ?_⟩) (fun _ => hS0) ?_
                      rotate_left 1
                      · (intro w hSw; (try dsimp only at hSw); go_simp; try with_reducible rfl)
                      try simp only [Act.put, Array.toArray_toList, List.setIfInBounds_toArray, List.set_cons_zero, List.set_cons_succ]
                      refine anyM_done (by kernel_rfl) ?_ _
                      refine NoPanic.normal ?_
                      go_wp2_with fail
                      go_roundw
                      case rel => exact ⟨m + 1, i + 1 + (n2 - i), A8, c8, l.take i ++ [m] ++ l.drop i, by have := MM.out; omega, by go_num, rfl, HV8.out, HBL8.out, HNL.out⟩
                      case measure => have := MM.out; simp [intOf]; omega
                · have HGT : Hid (i < n2 → L.rankF m < L.rankF (l.getD i 0)) := fun h => absurd h hil
                  have qi : decide (i < n2) = false := decide_eq_false hil
                  have qi' : decide ((i : Int) < (n2 : Int)) = false := decide_eq_false (by omega)
                  go_wp2_with fail
                  have HNL : Hid (l.take i ++ [m] ++ l.drop i = rankedP L.par L.flatF L.rankF L.phaseF f (p : Nat) (m + 1)) := by
                    show _ = _
                    rw [rankedP_step, if_pos ⟨by omega, HOF.out, HPF.out⟩, ← HLR.out, insR_at L.rankF l i (by rw [HLN.out]; exact hi) HLE.out (by rw [HLN.out]; exact HGT.out)]
                    simp
                  obtain ⟨A1, c1', hs1, hsl⟩ := slice_left HLO.out hi
                  obtain ⟨A6, c6, hs2, hsr⟩ := slice_right HLO.out hi
                  have HS1 := Lib.hid hs1
                  have HS2 := Lib.hid hs2
                  have HSL := Lib.hid hsl
                  have HSR := Lib.hid hsr
                  have HLD : Hid ((nums (l.drop i)).length = (n2 - i) * 1) := by show _ = _; rw [nums_len, List.length_drop, HLN.out]; omega
                  have HCP := Lib.hid (fun (w : World) (h : SrcI w A1 i (nums (l.take i))) => rcopy_calls A1 i c1' (l.take i) w (by rw [List.length_take, HLN.out]; omega) h (by omega))
                  have HLO := Lib.hid (own_drw (own_below HLO.out hbw))
                  have HBL := Lib.hid (below_drw (below_then HBL.out hbw))
                  have mixed : Tryz.prog.follows .mixedOrders = true := by kernel_rfl
                  have hS0 : True := trivial
                  clear hs1 hs2 hsl hsr hbw HLE HGT HD HF HO HLR HPH HOW
                  refine wp_region_noPanic ?_
                  refine region_M (S := fun w' => True) (T := []) (by kernel_rfl) ?_
                  generalize World.drew _ = wd at HLO HBL ⊢
                  refine anyM_free (i := 0) (oi := { dst := some 73, op := _, type := _, pos := _, after := _, guard := _ }) (v := ?_) rfl (by kernel_rfl) (fun _ _ _ h => h) (Or.inl ⟨by kernel_rfl, ?_⟩) (fun _ => hS0) ?_
                  rotate_left 1
                  · (intro w hSw; (try dsimp only at hSw); go_simp; try with_reducible rfl)
                  try simp only [Act.put, Array.toArray_toList, List.setIfInBounds_toArray, List.set_cons_zero, List.set_cons_succ]
                  refine anyM_free (i := 1) (oi := { dst := some 74, op := _, type := _, pos := _, after := _, guard := _ }) (v := ?_) rfl (by kernel_rfl) (fun _ _ _ h => h) (Or.inl ⟨by kernel_rfl, ?_⟩) (fun _ => hS0) ?_
                  rotate_left 1
                  · (intro w hSw; (try dsimp only at hSw); go_simp; try with_reducible rfl)
                  try simp only [Act.put, Array.toArray_toList, List.setIfInBounds_toArray, List.set_cons_zero, List.set_cons_succ]
                  refine anyM_take (i := 2) (oi := { dst := some 75, op := _, type := _, pos := _, after := _, guard := _ }) (v := _) rfl (by kernel_rfl) (fun _ _ _ h => h) (yields_slice (by kernel_rfl) _ _ _ _ _ rfl _ HS1.out) hS0 ?_
                  try simp only [Act.put, Array.toArray_toList, List.setIfInBounds_toArray, List.set_cons_zero, List.set_cons_succ]
                  refine anyM_free (i := 4) (oi := { dst := some 77, op := _, type := _, pos := _, after := _, guard := _ }) (v := ?_) rfl (by kernel_rfl) (fun _ _ _ h => h) (Or.inl ⟨by kernel_rfl, ?_⟩) (fun _ => hS0) ?_
                  rotate_left 1
                  · (intro w hSw; (try dsimp only at hSw); go_simp; try with_reducible rfl)
                  try simp only [Act.put, Array.toArray_toList, List.setIfInBounds_toArray, List.set_cons_zero, List.set_cons_succ]
                  refine anyM_free (i := 7) (oi := { dst := some 80, op := _, type := _, pos := _, after := _, guard := _ }) (v := ?_) rfl (by kernel_rfl) (fun _ _ _ h => h) (Or.inl ⟨by kernel_rfl, ?_⟩) (fun _ => hS0) ?_
                  rotate_left 1
                  · (intro w hSw; (try dsimp only at hSw); go_simp; try with_reducible rfl)
                  try simp only [Act.put, Array.toArray_toList, List.setIfInBounds_toArray, List.set_cons_zero, List.set_cons_succ]
                  refine anyM_free (i := 8) (oi := { dst := some 81, op := _, type := _, pos := _, after := _, guard := _ }) (v := ?_) rfl (by kernel_rfl) (fun _ _ _ h => h) (Or.inl ⟨by kernel_rfl, ?_⟩) (fun _ => hS0) ?_
                  rotate_left 1
                  · (intro w hSw; (try dsimp only at hSw); go_simp; try with_reducible rfl)
                  try simp only [Act.put, Array.toArray_toList, List.setIfInBounds_toArray, List.set_cons_zero, List.set_cons_succ]
                  refine anyM_take (i := 9) (oi := { dst := some 82, op := _, type := _, pos := _, after := _, guard := _ }) (v := _) rfl (by kernel_rfl) (fun _ _ _ h => h) (yields_slice (by kernel_rfl) _ _ _ _ _ rfl _ HS2.out) hS0 ?_
                  try simp only [Act.put, Array.toArray_toList, List.setIfInBounds_toArray, List.set_cons_zero, List.set_cons_succ]
                  refine anyM_two (i := 3) (j := 5) (by kernel_rfl) rfl rfl (fun K hK => ?_) (fun K hK => ?_)
                  · skip
                    go_simp
                    refine (HCP.out _ (HSL.out _ HLO.out)).mono ?_
                    rintro e w5 ⟨v5, rfl, hv5, hb5⟩
                    obtain ⟨A5, c5, rfl⟩ := own_open hv5
                    have HV5 := Lib.hid hv5
                    have HLO5 := Lib.hid (own_below HLO.out hb5)
                    have HBL5 := Lib.hid (below_then HBL.out hb5)
                    have HS5 := Lib.hid hb5.size
                    clear hv5 hb5
                    refine hK.out _ _ (fun _ => hS0) ?_
                    clear hK K
                    try simp only [Act.put, Array.toArray_toList, List.setIfInBounds_toArray, List.set_cons_zero, List.set_cons_succ]
                    refine anyM_one (i := 5) (by kernel_rfl) rfl (fun K hK => ?_)
                    go_simp
                    generalize hwx : World.alloc w5 _ = wx
                    have BX := Lib.hid (blk_neq hwx)
                    have HV5 := Lib.hid (own_aeq hwx HV5.out)
                    have HLO5 := Lib.hid (own_aeq hwx HLO5.out)
                    have HBL5 := Lib.hid (below_aeq hwx HBL5.out)
                    have HS5 := Lib.hid (Nat.le_trans HS5.out (size_aeq hwx))
                    clear hwx
                    refine hK.out _ _ (fun _ => hS0) ?_
                    clear hK K
                    try simp only [Act.put, Array.toArray_toList, List.setIfInBounds_toArray, List.set_cons_zero, List.set_cons_succ]
                    refine anyM_one (i := 6) (by kernel_rfl) rfl (fun K hK => ?_)
                    refine step_append_any (by rfl) _ _ 44 (by rfl) (wd.heap.size) 3 i0 (.int .i64 0) 1 8 Tryz.underlying44 hia hza0 hza1 hza2 rfl (by decide) (.slice A5 i c5) i (nums (l.take i)) (by rfl) HV5.out (some ⟨w5.heap.size, 0, none⟩) 1 1 (nums [m]) (by rfl) (by simp [nums]) (.inl ⟨_, 0, rfl, blk_one BX.out⟩) (nums_one _) (by unfold maxLen; omega) (by omega) HS5.out ?_
                    intro A7 c7 w7 o7 hg7 hat7
                    rw [nums_append] at o7
                    have HV7 := Lib.hid o7
                    have HLO7 := Lib.hid (own_heap HLO5.out (fun g hg => hg7.block g (HLO5.out.lt g hg).2 (fun e => own_apart HLO.out HV5.out g hg e.symm)))
                    have HBL7 := Lib.hid (below_grownB HBL5.out HV5.out HBL.out.size hg7)
                    have HS7 := Lib.hid (Nat.le_trans HS5.out hg7.size)
                    clear o7 hg7 hat7
                    refine hK.out _ _ (fun _ => hS0) ?_
                    clear hK K
                    try simp only [Act.put, Array.toArray_toList, List.setIfInBounds_toArray, List.set_cons_zero, List.set_cons_succ]
                    refine anyM_one (i := 10) (by kernel_rfl) rfl (fun K hK => ?_)
                    refine step_append_any (by rfl) _ _ 44 (by rfl) (wd.heap.size) 3 i0 (.int .i64 0) 1 8 Tryz.underlying44 hia hza0 hza1 hza2 rfl (by decide) (.slice A7 (i + 1) c7) (i + 1) (nums (l.take i ++ [m])) (by rfl) HV7.out A6 (n2 - i) c6 (nums (l.drop i)) (by rfl) HLD.out (HSR.out _ HLO7.out) (nums_one _) (by unfold maxLen; omega) (by omega) HS7.out ?_
                    intro A8 c8 w8 o8 hg8 hat8
                    rw [nums_append] at o8
                    have HV8 := Lib.hid (own_low (base' := wv.heap.size) o8 HBL.out.size)
                    have HBL8 := Lib.hid (below_grownB HBL7.out HV7.out HBL.out.size hg8)
                    clear o8 hg8 hat8
                    refine hK.out _ _ (fun _ => hS0) ?_
                    clear hK K
                    try simp only [Act.put, Array.toArray_toList, List.setIfInBounds_toArray, List.set_cons_zero, List.set_cons_succ]
                    refine anyM_free (i := 11) (oi := { dst := some 6, op := _, type := _, pos := _, after := _, guard := _ }) (v := ?_) rfl (by kernel_rfl) (fun _ _ _ h => h) (Or.inl ⟨by kernel_rfl, ?_⟩) (fun _ => hS0) ?_
                    rotate_left 1
                    · (intro w hSw; (try dsimp only at hSw); go_simp; try with_reducible rfl)
                    try simp only [Act.put, Array.toArray_toList, List.setIfInBounds_toArray, List.set_cons_zero, List.set_cons_succ]
                    refine anyM_done (by kernel_rfl) ?_ _
                    refine NoPanic.normal ?_
                    go_wp2_with fail
                    go_roundw
                    case rel => exact ⟨m + 1, i + 1 + (n2 - i), A8, c8, l.take i ++ [m] ++ l.drop i, by have := MM.out; omega, by go_num, rfl, HV8.out, HBL8.out, HNL.out⟩
                    case measure => have := MM.out; simp [intOf]; omega
                  · skip
                    go_simp
                    generalize hwx : World.alloc wd _ = wx
                    have BX := Lib.hid (blk_neq hwx)
                    have HLX := Lib.hid (own_aeq hwx HLO.out)
                    have HBX := Lib.hid (below_aeq hwx HBL.out)
                    have HWX := Lib.hid (size_aeq hwx)
                    clear hwx
                    refine hK.out _ _ (fun _ => hS0) ?_
                    clear hK K
                    try simp only [Act.put, Array.toArray_toList, List.setIfInBounds_toArray, List.set_cons_zero, List.set_cons_succ]
                    refine anyM_one (i := 3) (by kernel_rfl) rfl (fun K hK => ?_)
                    go_simp
                    refine (HCP.out _ (HSL.out _ HLX.out)).mono ?_
                    rintro e w5 ⟨v5, rfl, hv5, hb5⟩
                    obtain ⟨A5, c5, rfl⟩ := own_open hv5
                    have HV5 := Lib.hid hv5
                    have HLO5 := Lib.hid (own_below HLX.out hb5)
                    have HBL5 := Lib.hid (below_then HBX.out hb5)
                    have HS5 := Lib.hid hb5.size
                    have BX := Lib.hid (BX.out.below hb5 BX.out.lt)
                    clear hv5 hb5
                    refine hK.out _ _ (fun _ => hS0) ?_
                    clear hK K
                    try simp only [Act.put, Array.toArray_toList, List.setIfInBounds_toArray, List.set_cons_zero, List.set_cons_succ]
                    refine anyM_one (i := 6) (by kernel_rfl) rfl (fun K hK => ?_)
                    refine step_append_any (by rfl) _ _ 44 (by rfl) (wx.heap.size) 3 i0 (.int .i64 0) 1 8 Tryz.underlying44 hia hza0 hza1 hza2 rfl (by decide) (.slice A5 i c5) i (nums (l.take i)) (by rfl) HV5.out (some ⟨wd.heap.size, 0, none⟩) 1 1 (nums [m]) (by rfl) (by simp [nums]) (.inl ⟨_, 0, rfl, blk_one BX.out⟩) (nums_one _) (by unfold maxLen; omega) (by omega) HS5.out ?_
                    intro A7 c7 w7 o7 hg7 hat7
                    rw [nums_append] at o7
                    have HV7 := Lib.hid o7
                    have HLO7 := Lib.hid (own_heap HLO5.out (fun g hg => hg7.block g (HLO5.out.lt g hg).2 (fun e => own_apart HLX.out HV5.out g hg e.symm)))
                    have HBL7 := Lib.hid (below_grownB HBL5.out HV5.out HBX.out.size hg7)
                    have HS7 := Lib.hid (Nat.le_trans HS5.out hg7.size)
                    clear o7 hg7 hat7
                    refine hK.out _ _ (fun _ => hS0) ?_
                    clear hK K
                    try simp only [Act.put, Array.toArray_toList, List.setIfInBounds_toArray, List.set_cons_zero, List.set_cons_succ]
                    refine anyM_one (i := 10) (by kernel_rfl) rfl (fun K hK => ?_)
                    refine step_append_any (by rfl) _ _ 44 (by rfl) (wx.heap.size) 3 i0 (.int .i64 0) 1 8 Tryz.underlying44 hia hza0 hza1 hza2 rfl (by decide) (.slice A7 (i + 1) c7) (i + 1) (nums (l.take i ++ [m])) (by rfl) HV7.out A6 (n2 - i) c6 (nums (l.drop i)) (by rfl) HLD.out (HSR.out _ HLO7.out) (nums_one _) (by unfold maxLen; omega) (by omega) HS7.out ?_
                    intro A8 c8 w8 o8 hg8 hat8
                    rw [nums_append] at o8
                    have HV8 := Lib.hid (own_low (base' := wv.heap.size) o8 HBX.out.size)
                    have HBL8 := Lib.hid (below_grownB HBL7.out HV7.out HBX.out.size hg8)
                    clear o8 hg8 hat8
                    refine hK.out _ _ (fun _ => hS0) ?_
                    clear hK K
                    try simp only [Act.put, Array.toArray_toList, List.setIfInBounds_toArray, List.set_cons_zero, List.set_cons_succ]
                    refine anyM_free (i := 11) (oi := { dst := some 6, op := _, type := _, pos := _, after := _, guard := _ }) (v := ?_) rfl (by kernel_rfl) (fun _ _ _ h => h) (Or.inl ⟨by kernel_rfl, ?_⟩) (fun _ => hS0) ?_
                    rotate_left 1
                    · (intro w hSw; (try dsimp only at hSw); go_simp; try with_reducible rfl)
                    try simp only [Act.put, Array.toArray_toList, List.setIfInBounds_toArray, List.set_cons_zero, List.set_cons_succ]
                    refine anyM_done (by kernel_rfl) ?_ _
                    refine NoPanic.normal ?_
                    go_wp2_with fail
                    go_roundw
                    case rel => exact ⟨m + 1, i + 1 + (n2 - i), A8, c8, l.take i ++ [m] ++ l.drop i, by have := MM.out; omega, by go_num, rfl, HV8.out, HBL8.out, HNL.out⟩
                    case measure => have := MM.out; simp [intOf]; omega
            · obtain ⟨ph, hphe⟩ : ∃ x, x = L.phaseF m := ⟨_, rfl⟩
              have HN : Hid (l = rankedP L.par L.flatF L.rankF L.phaseF f (p : Nat) (m + 1)) := by show _ = _; rw [rankedP_step, if_neg (fun h => hpe h.2.2)]; exact HLR.out
              rw [← hphe] at hph hpe
              have HPH := Lib.hid hph
              have q1 : (ph == (p : Int)) = false := by simpa using hpe
              clear hph hpe hphe
              go_wp2_with (first | (go_at_call 86; refine (HOW.out _ (HD.out.rst.below (below_then HBL.out hbw))).mono ?_; rintro e wz ⟨rfl, hbz⟩; have hbw := below_then hbw hbz) | (go_at_call 87; refine (HPH.out _ (HD.out.rst.below (below_then HBL.out hbw))).mono ?_; rintro e wz ⟨rfl, hbz⟩; have hbw := below_then hbw hbz))
              go_roundw
              case rel => exact ⟨m + 1, n2, A2, c2, l, by have := MM.out; omega, by go_num, rfl, own_below HLO.out hbw, below_then HBL.out hbw, HN.out⟩
              case measure => have := MM.out; simp [intOf]; omega
          · have HN : Hid (l = rankedP L.par L.flatF L.rankF L.phaseF f (p : Nat) (m + 1)) := by show _ = _; rw [rankedP_step, if_neg (fun h => ho h.2.1)]; exact HLR.out
            obtain ⟨T, hTe⟩ : ∃ x, x = ownerP L.par L.flatF m := ⟨_, rfl⟩
            rw [← hTe] at how ho
            have HOW := Lib.hid how
            have q1 : ((T : Int) == (f : Int)) = false := by simp; omega
            have q1' : (T == f) = false := by simpa using ho
            clear how ho hTe
            go_wp2_with (go_at_call 86; refine (HOW.out _ (HD.out.rst.below (below_then HBL.out hbw))).mono ?_; rintro e wz ⟨rfl, hbz⟩; have hbw := below_then hbw hbz)
            go_roundw
            case rel => exact ⟨m + 1, n2, A2, c2, l, by have := MM.out; omega, by go_num, rfl, own_below HLO.out hbw, below_then HBL.out hbw, HN.out⟩
            case measure => have := MM.out; simp [intOf]; omega
        · obtain rfl : m = L.nf := by omega
          have HMEM : Hid (∀ x, x ∈ l → x < L.nf ∧ 0 < x ∧ ownerP L.par L.flatF x = f) := fun x hx => by
            have h3 : x ∈ rankedP L.par L.flatF L.rankF L.phaseF f (p : Nat) L.nf := by rw [← HLR.out]; exact hx
            have h4 := (mem_ranked _ _ _ _).1 h3
            exact ⟨h4.1, h4.2.1, h4.2.2.1⟩
          have HYL : Hid (ys.length = xs.length + 1 + sumC (cntT L.ownF u) (L.ownTo f p)) := by
            show _ = _
            rw [HYS.out, List.length_append, List.length_cons, tells_sum]; omega
          have HSUM : Hid (xs.length + 1 + sumC (cntT L.ownF u) (L.ownTo f p) + sumC (cntT L.ownF u) l ≤ 2097152) := by
            have h1 := ownTo_mono L (cntT L.ownF u) f (p + 1) 5 (by have := PP.out; omega)
            rw [ownTo_succ, sumC_append, ← HLR.out] at h1
            have := HLEN.out
            show _ ≤ _; omega
          have HDQ := Lib.hid (HD.out.below HBL.out)
          have qm : decide (L.nf < L.nf) = false := decide_eq_false (by omega)
          clear hlt hm
          go_wp2_with fail
          go_loopw [87] (fun s w4 => ∃ (j : Nat) (v4 : Value) (zs : List (Nat × Nat)), j ≤ n2 ∧ s = .int .i64 j ∧ TSt L B gS v4 zs w4 ∧ Fr gS (.slice AO ys.length cO) wq w4 ∧ OwnRel (.slice AO ys.length cO) v4 wq ∧ w4.ownsRow wv.heap.size 3 1 (.slice A2 n2 c2) n2 (nums l) ∧ Hid (zs = ys ++ tells (tellN L.ownF u) (l.take j) ys.length)) (fun s _ => n2 - (intOf s).toNat)
          case atStart => exact ⟨0, _, ys, Nat.zero_le _, rfl, HDQ.out, Fr.refl, OwnRel.refl, HLO.out, by show _ = _; simp [tells]⟩
          case round =>
            clear HDQ HLO
            obtain ⟨j, v4, zs, hj, rfl, hT4, hF4, hO4, hL4, HZS⟩ := hrel
            obtain ⟨wj, rfl⟩ : ∃ x, x = wr := ⟨_, rfl⟩
            obtain ⟨A4, c4, rfl⟩ := own_open hT4.own
            have HD4 := Lib.hid hT4
            have HF4 := Lib.hid hF4
            have HO4 := Lib.hid hO4
            have HLW := Lib.hid hL4
            have hbw := Below.refl wj.heap.size wj
            clear hT4 hF4 hO4
            by_cases hjl : j < n2
            · obtain ⟨g2, cap2, e2, hg2a, hg2b⟩ := own_some hL4 (by omega)
              injection e2 with e2 _ e3
              subst e2; subst e3
              have hjl' : j < l.length := by rw [HLN.out]; exact hjl
              have hcl : wj.cell? ⟨g2, j, none⟩ = some (.int .i64 (l.getD j 0 : Nat)) := own_cell hL4 (nums_at l hjl')
              have hmk := HMEM.out (l.getD j 0) (by simp [List.getD, hjl'])
              have hsn := take_snoc l 0 j hjl'
              have hst := sumC_take (cntT L.ownF u) l j hjl'
              obtain ⟨k, hk⟩ : ∃ x, x = l.getD j 0 := ⟨_, rfl⟩
              rw [← hk] at hcl hmk hsn hst
              obtain ⟨hkn, hk0, hko⟩ := hmk
              have hfk : f < k := by rw [← hko]; exact owner_lt HP.out hk0 hkn
              have hzl : zs.length = ys.length + sumC (cntT L.ownF u) (l.take j) := by rw [HZS.out, List.length_append, tells_sum]
              have hlk : zs.length + (tellN L.ownF u k zs.length).length ≤ 2097152 := by
                rw [tellN_len]; have := HYL.out; have := HSUM.out; omega
              have HNEXT : Hid (zs ++ tellN L.ownF u k zs.length = ys ++ tells (tellN L.ownF u) (l.take (j + 1)) ys.length) := by
                show _ = _
                rw [hsn, tells_append, ← List.append_assoc, ← HZS.out, tells_sum, ← hzl]
                simp [tells]
              have hu1 : 1 ≤ u := by have := HLT.out; omega
              have hz1 : zs.length ≤ 2097151 := by
                have h1 : 1 ≤ (tellN L.ownF u k zs.length).length := by
                  obtain ⟨u', rfl⟩ : ∃ u', u = u' + 1 := ⟨u - 1, by omega⟩
                  rw [tellN]; simp
                omega
              have HTK : Hid (L.flatF k = true → zs ++ tellN L.ownF u k zs.length = zs ++ [(k, zs.length + 1)]) := fun hfl => by
                obtain ⟨u', rfl⟩ : ∃ u', u = u' + 1 := ⟨u - 1, by omega⟩
                have : L.ownF k = [] := by unfold LayV.ownF; rw [hfl]; rfl
                rw [tellN, this]; simp [tells]
              have HTE : Hid (L.flatF k = false → ∀ w', TSt L B gS (.slice A4 zs.length c4) zs w' → Calls Tryz.prog 55 #[.pointer (some ⟨gS, 0, none⟩), .int .i64 (k : Nat)] w' (TellPost L B gS (.slice A4 zs.length c4) zs u k w')) := fun hfl w' h => IH.out k _ zs w' h hkn hfl (by have := HLT.out; omega) hlk
              have hla := fun w (h : RSt L B gS (.slice A4 zs.length c4) w) => rlayer_calls L B gS k _ w h hkn
              have hpo := fun w (h : RSt L B gS (.slice A4 zs.length c4) w) => rpocket_calls L B gS k _ w h hkn
              have HFL : Hid (L.flatF k = (!L.layerF k && !L.pocketF k)) := rfl
              obtain ⟨la, hlae⟩ : ∃ x, x = L.layerF k := ⟨_, rfl⟩
              obtain ⟨po, hpoe⟩ : ∃ x, x = L.pocketF k := ⟨_, rfl⟩
              rw [← hlae] at hla HFL
              rw [← hpoe] at hpo HFL
              have JJ := Lib.hid (show j ≤ n2 ∧ j < n2 from ⟨hj, hjl⟩)
              have qj : decide (j < n2) = true := decide_eq_true hjl
              have qj' : decide ((j : Int) < (n2 : Int)) = true := decide_eq_true (by omega)
              clear hlae hpoe hzl hlk hsn hst hk hko hL4 hjl' hu1 hj
              cases la
              · have HLA := Lib.hid hla
                clear hla
                cases po
                · have HPO := Lib.hid hpo
                  have HTK := Lib.hid (HTK.out (by rw [HFL.out]; rfl))
                  clear hpo HTE
                  go_wp2_with (first | (go_at_call 90; refine (HLA.out _ (HD4.out.rst.below hbw)).mono ?_; rintro e wz ⟨rfl, hbz⟩; have hbw := below_then hbw hbz) | (go_at_call 91; refine (HPO.out _ (HD4.out.rst.below hbw)).mono ?_; rintro e wz ⟨rfl, hbz⟩; have hbw := below_then hbw hbz))
                  have HD := Lib.hid (HD4.out.below (below_drw hbw))
                  have HF4 := Lib.hid (HF4.out.trans HO4.out (Fr.below (below_drw hbw)))
                  have HLW := Lib.hid (own_drw (own_below HLW.out hbw))
                  have hS0 : (fun w' : World => w'.cell? ⟨gS, 5, none⟩ = some (.slice A4 zs.length c4)) (World.drew _) := HD.out.rst.blk.cell 5
                  have r1 : IntKind.i64.wrap ((zs.length : Int) + 1) = (zs.length : Int) + 1 := by rw [IntKind.wrap_i64]; omega
                  clear HD4 hbw hcl HFL HLA HPO
                  refine wp_region_noPanic ?_
                  refine region_M (S := fun w' => w'.cell? ⟨gS, 5, none⟩ = some (.slice A4 zs.length c4)) (T := [17]) (by kernel_rfl) ?_
                  generalize World.drew _ = wd at HD HF4 HLW hS0 ⊢
                  refine anyM_free (i := 0) (oi := { dst := some 102, op := _, type := _, pos := _, after := _, guard := _ }) (v := ?_) rfl (by kernel_rfl) (fun _ _ _ h => h) (Or.inl ⟨by kernel_rfl, ?_⟩) (fun _ => hS0) ?_
                  rotate_left 1
                  · (intro w hSw; (try dsimp only at hSw); go_simp; try with_reducible rfl)
                  try simp only [Act.put, Array.toArray_toList, List.setIfInBounds_toArray, List.set_cons_zero, List.set_cons_succ]
                  refine anyM_free (i := 1) (oi := { dst := some 103, op := _, type := _, pos := _, after := _, guard := _ }) (v := ?_) rfl (by kernel_rfl) (fun _ _ _ h => h) (Or.inl ⟨by kernel_rfl, ?_⟩) (fun _ => hS0) ?_
                  rotate_left 1
                  · (intro w hSw; (try dsimp only at hSw); go_simp; try with_reducible rfl)
                  try simp only [Act.put, Array.toArray_toList, List.setIfInBounds_toArray, List.set_cons_zero, List.set_cons_succ]
                  refine anyM_free (i := 2) (oi := { dst := some 104, op := _, type := _, pos := _, after := _, guard := _ }) (v := ?_) rfl (by kernel_rfl) (fun _ _ _ h => h) (Or.inl ⟨by kernel_rfl, ?_⟩) (fun _ => hS0) ?_
                  rotate_left 1
                  · (intro w hSw; (try dsimp only at hSw); go_simp; try with_reducible rfl)
                  try simp only [Act.put, Array.toArray_toList, List.setIfInBounds_toArray, List.set_cons_zero, List.set_cons_succ]
                  refine anyM_free (i := 3) (oi := { dst := some 105, op := _, type := _, pos := _, after := _, guard := _ }) (v := ?_) rfl (by kernel_rfl) (fun _ _ _ h => h) (Or.inl ⟨by kernel_rfl, ?_⟩) (fun _ => hS0) ?_
                  rotate_left 1
                  · (intro w hSw; (try dsimp only at hSw); go_simp; try with_reducible rfl)
                  try simp only [Act.put, Array.toArray_toList, List.setIfInBounds_toArray, List.set_cons_zero, List.set_cons_succ]
                  refine anyM_take (i := 4) (oi := { dst := some 106, op := _, type := _, pos := _, after := _, guard := _ }) (v := ?_) rfl (by kernel_rfl) (fun _ _ _ h => h) (Or.inl ⟨by kernel_rfl, ?_⟩) hS0 ?_
                  rotate_left 1
                  · (intro w hSw; (try dsimp only at hSw); go_simp; try with_reducible rfl)
                  try simp only [Act.put, Array.toArray_toList, List.setIfInBounds_toArray, List.set_cons_zero, List.set_cons_succ]
                  refine anyM_free (i := 5) (oi := { dst := some 107, op := _, type := _, pos := _, after := _, guard := _ }) (v := ?_) rfl (by kernel_rfl) (fun _ _ _ h => h) (Or.inl ⟨by kernel_rfl, ?_⟩) (fun _ => hS0) ?_
                  rotate_left 1
                  · (intro w hSw; (try dsimp only at hSw); go_simp; try with_reducible rfl)
                  try simp only [Act.put, Array.toArray_toList, List.setIfInBounds_toArray, List.set_cons_zero, List.set_cons_succ]
                  refine anyM_free (i := 6) (oi := { dst := some 108, op := _, type := _, pos := _, after := _, guard := _ }) (v := ?_) rfl (by kernel_rfl) (fun _ _ _ h => h) (Or.inl ⟨by kernel_rfl, ?_⟩) (fun _ => hS0) ?_
                  rotate_left 1
                  · (intro w hSw; (try dsimp only at hSw); go_simp; try with_reducible rfl)
                  try simp only [Act.put, Array.toArray_toList, List.setIfInBounds_toArray, List.set_cons_zero, List.set_cons_succ]
                  refine anyM_free (i := 7) (oi := { dst := some 109, op := _, type := _, pos := _, after := _, guard := _ }) (v := ?_) rfl (by kernel_rfl) (fun _ _ _ h => h) (Or.inl ⟨by kernel_rfl, ?_⟩) (fun _ => hS0) ?_
                  rotate_left 1
                  · (intro w hSw; (try dsimp only at hSw); go_simp; try with_reducible rfl)
                  try simp only [Act.put, Array.toArray_toList, List.setIfInBounds_toArray, List.set_cons_zero, List.set_cons_succ]
                  refine anyM_free (i := 8) (oi := { dst := some 110, op := _, type := _, pos := _, after := _, guard := _ }) (v := ?_) rfl (by kernel_rfl) (fun _ _ _ h => h) (Or.inl ⟨by kernel_rfl, ?_⟩) (fun _ => hS0) ?_
                  rotate_left 1
                  · (intro w hSw; (try dsimp only at hSw); go_simp; try with_reducible rfl)
                  try simp only [Act.put, Array.toArray_toList, List.setIfInBounds_toArray, List.set_cons_zero, List.set_cons_succ]
                  refine anyM_take (i := 9) (oi := { dst := some 111, op := _, type := _, pos := _, after := _, guard := _ }) (v := ?_) rfl (by kernel_rfl) (fun _ _ _ h => h) (Or.inl ⟨by kernel_rfl, ?_⟩) hS0 ?_
                  rotate_left 1
                  · (intro w hSw; (try dsimp only at hSw); go_simp; try with_reducible rfl)
                  try simp only [Act.put, Array.toArray_toList, List.setIfInBounds_toArray, List.set_cons_zero, List.set_cons_succ]
                  refine anyM_free (i := 10) (oi := { dst := some 112, op := _, type := _, pos := _, after := _, guard := _ }) (v := ?_) rfl (by kernel_rfl) (fun _ _ _ h => h) (Or.inl ⟨by kernel_rfl, ?_⟩) (fun _ => hS0) ?_
                  rotate_left 1
                  · (intro w hSw; (try dsimp only at hSw); go_simp; try with_reducible rfl)
                  try simp only [Act.put, Array.toArray_toList, List.setIfInBounds_toArray, List.set_cons_zero, List.set_cons_succ]
                  refine anyM_free (i := 11) (oi := { dst := some 113, op := _, type := _, pos := _, after := _, guard := _ }) (v := ?_) rfl (by kernel_rfl) (fun _ _ _ h => h) (Or.inl ⟨by kernel_rfl, ?_⟩) (fun _ => hS0) ?_
                  rotate_left 1
                  · (intro w hSw; (try dsimp only at hSw); go_simp; try with_reducible rfl)
                  try simp only [Act.put, Array.toArray_toList, List.setIfInBounds_toArray, List.set_cons_zero, List.set_cons_succ]
                  refine anyM_free (i := 12) (oi := { dst := some 114, op := _, type := _, pos := _, after := _, guard := _ }) (v := ?_) rfl (by kernel_rfl) (fun _ _ _ h => h) (Or.inl ⟨by kernel_rfl, ?_⟩) (fun _ => hS0) ?_
                  rotate_left 1
                  · (intro w hSw; (try dsimp only at hSw); go_simp; try with_reducible rfl)
                  try simp only [Act.put, Array.toArray_toList, List.setIfInBounds_toArray, List.set_cons_zero, List.set_cons_succ]
                  refine anyM_one (i := 13) (by kernel_rfl) rfl (fun K hK => ?_)
                  go_simp
                  generalize hwx : World.alloc wd _ = wx
                  have BX := Lib.hid (blk_neq hwx)
                  have HBX := Lib.hid (below_aeq hwx (Below.refl _ _))
                  have HTX := Lib.hid (HD.out.below HBX.out)
                  have hS0 : (fun w' : World => w'.cell? ⟨gS, 5, none⟩ = some (.slice A4 zs.length c4)) wx := HTX.out.rst.blk.cell 5
                  clear hwx
                  refine hK.out _ _ (fun _ => hS0) ?_
                  clear hK K
                  try simp only [Act.put, Array.toArray_toList, List.setIfInBounds_toArray, List.set_cons_zero, List.set_cons_succ]
                  refine anyM_one (i := 14) (by kernel_rfl) rfl (fun K hK => ?_)
                  refine step_append_any (by rfl) _ _ 60 (by rfl) (B) 94 i1 (.agg #[.int .i64 0, .int .i64 0]) 2 16 Tryz.underlying60 hib hzb0 hzb1 hzb2 rfl (by decide) (.slice A4 zs.length c4) zs.length (steps zs) (by rfl) HTX.out.own (some ⟨wd.heap.size, 0, none⟩) 1 1 (steps [(k, zs.length + 1)]) (by rfl) (by simp [steps, stepF]) (.inl ⟨_, 0, rfl, blk_two' BX.out⟩) (steps_one _) (by unfold maxLen; omega) (by omega) HTX.out.rst.hB ?_
                  intro A8 c8 w8 o8 hg8 hat8
                  have HP := Lib.hid (HD.out.pushed HBX.out o8 hg8 hat8)
                  have hne8 := blk_ne HTX.out.rst.blk HTX.out.own (by decide)
                  have hb9 := blk_grown HTX.out.rst.blk hg8 hne8
                  have hS0 : (fun w' : World => w'.cell? ⟨gS, 5, none⟩ = some (.slice A4 zs.length c4)) w8 := hb9.cell 5
                  have z5 : w8.frozen? ⟨gS, 5, none⟩ = false := hb9.free 5
                  clear o8 hg8 hat8 hne8 hb9
                  refine hK.out _ _ (fun _ => hS0) ?_
                  clear hK K
                  try simp only [Act.put, Array.toArray_toList, List.setIfInBounds_toArray, List.set_cons_zero, List.set_cons_succ]
                  refine anyM_free (i := 15) (oi := { dst := some 117, op := _, type := _, pos := _, after := _, guard := _ }) (v := ?_) rfl (by kernel_rfl) (fun _ _ _ h => h) (Or.inl ⟨by kernel_rfl, ?_⟩) (fun _ => hS0) ?_
                  rotate_left 1
                  · (intro w hSw; (try dsimp only at hSw); go_simp; try with_reducible rfl)
                  try simp only [Act.put, Array.toArray_toList, List.setIfInBounds_toArray, List.set_cons_zero, List.set_cons_succ]
                  refine anyM_free (i := 16) (oi := { dst := some 118, op := _, type := _, pos := _, after := _, guard := _ }) (v := ?_) rfl (by kernel_rfl) (fun _ _ _ h => h) (Or.inl ⟨by kernel_rfl, ?_⟩) (fun _ => hS0) ?_
                  rotate_left 1
                  · (intro w hSw; (try dsimp only at hSw); go_simp; try with_reducible rfl)
                  try simp only [Act.put, Array.toArray_toList, List.setIfInBounds_toArray, List.set_cons_zero, List.set_cons_succ]
                  refine anyM_one (i := 17) (by kernel_rfl) rfl (fun K hK => ?_)
                  go_simp
                  refine hK.out _ _ (fun h => late_no h (by kernel_rfl)) ?_
                  clear hK K
                  try simp only [Act.put, Array.toArray_toList, List.setIfInBounds_toArray, List.set_cons_zero, List.set_cons_succ]
                  refine anyM_done (by kernel_rfl) ?_ _
                  refine NoPanic.normal ?_
                  clear hS0 z5
                  go_wp2_with fail
                  go_roundw
                  case rel => exact ⟨j + 1, _, zs ++ tellN L.ownF u k zs.length, by have := JJ.out; omega, by go_num, by rw [HTK.out]; exact HP.out.1, HF4.out.trans HO4.out HP.out.2.1, HO4.out.trans HF4.out.size HP.out.2.2, own_fr HLW.out HP.out.2.1 HD.out.rst.blk HD.out.own (by decide) (by decide), HNEXT.out⟩
                  case measure => have := JJ.out; simp [intOf]; omega
                · have HPO := Lib.hid hpo
                  have HTE := Lib.hid (HTE.out (by rw [HFL.out]; rfl))
                  clear hpo HTK
                  go_wp2_with (first | (go_at_call 90; refine (HLA.out _ (HD4.out.rst.below hbw)).mono ?_; rintro e wz ⟨rfl, hbz⟩; have hbw := below_then hbw hbz) | (go_at_call 91; refine (HPO.out _ (HD4.out.rst.below hbw)).mono ?_; rintro e wz ⟨rfl, hbz⟩; have hbw := below_then hbw hbz) | (go_at_call 55; refine (HTE.out _ (HD4.out.below hbw)).mono ?_; rintro e w5 hpost; obtain ⟨rfl, v5, hT5, hF5, hO5⟩ := hpost; have HT5 := Lib.hid hT5; have HF5 := Lib.hid hF5; have HO5 := Lib.hid hO5; clear hT5 hF5 hO5))
                  go_roundw
                  case rel => exact ⟨j + 1, v5, zs ++ tellN L.ownF u k zs.length, by have := JJ.out; omega, by go_num, HT5.out, HF4.out.trans HO4.out ((Fr.below hbw).trans (.inl rfl) HF5.out), HO4.out.trans HF4.out.size (HO5.out.mono hbw.size), own_fr (own_below HLW.out hbw) HF5.out (HD4.out.below hbw).rst.blk (HD4.out.below hbw).own (by decide) (by decide), HNEXT.out⟩
                  case measure => have := JJ.out; simp [intOf]; omega
              · have HLA := Lib.hid hla
                have HTE := Lib.hid (HTE.out (by rw [HFL.out]; rfl))
                clear hla hpo HTK
                go_wp2_with (first | (go_at_call 90; refine (HLA.out _ (HD4.out.rst.below hbw)).mono ?_; rintro e wz ⟨rfl, hbz⟩; have hbw := below_then hbw hbz) | (go_at_call 55; refine (HTE.out _ (HD4.out.below hbw)).mono ?_; rintro e w5 hpost; obtain ⟨rfl, v5, hT5, hF5, hO5⟩ := hpost; have HT5 := Lib.hid hT5; have HF5 := Lib.hid hF5; have HO5 := Lib.hid hO5; clear hT5 hF5 hO5))
                go_roundw
                case rel => exact ⟨j + 1, v5, zs ++ tellN L.ownF u k zs.length, by have := JJ.out; omega, by go_num, HT5.out, HF4.out.trans HO4.out ((Fr.below hbw).trans (.inl rfl) HF5.out), HO4.out.trans HF4.out.size (HO5.out.mono hbw.size), own_fr (own_below HLW.out hbw) HF5.out (HD4.out.below hbw).rst.blk (HD4.out.below hbw).own (by decide) (by decide), HNEXT.out⟩
                case measure => have := JJ.out; simp [intOf]; omega
            · obtain rfl : j = n2 := by omega
              have HFIN : Hid (zs = xs ++ (f, 0) :: tells (tellN L.ownF u) (L.ownTo f (p + 1)) (xs.length + 1)) := by
                show _ = _
                have h1 : l.take j = l := List.take_of_length_le (by rw [HLN.out]; exact Nat.le_refl _)
                have h2 := HYL.out
                rw [HZS.out, h1, h2, HYS.out, ownTo_succ, tells_append, tells_sum, ← HLR.out]
                simp
              have qj : decide (j < j) = false := decide_eq_false (by omega)
              clear hL4 hbw hjl hj
              go_wp2_with fail
              go_roundw
              case rel => exact ⟨p + 1, _, zs, by have := PP.out; omega, by go_num, HD4.out, HF.out.trans HO.out ((Fr.below HBL.out).trans (.inl rfl) HF4.out), HO.out.trans HF.out.size (HO4.out.mono HBL.out.size), HFIN.out⟩
              case measure => have := PP.out; simp [intOf]; omega
    · have q5 : decide ((p : Int) < 5) = false := decide_eq_false (by omega)
      obtain ⟨r, hr⟩ : ∃ r, r = tells (tellN L.ownF u) (L.ownTo f 5) (xs.length + 1) := ⟨_, rfl⟩
      have HYR : Hid (ys = xs ++ (f, 0) :: r) := by show _ = _; rw [HYS.out, hr, show p = 5 by omega]
      have HYL : Hid (ys.length = xs.length + 1 + r.length) := by show _ = _; rw [HYR.out]; simp; omega
      obtain ⟨gO, capO, e2, hga, hgb⟩ := own_some HD.out.own (by rw [HYL.out]; omega)
      injection e2 with e2 _ e3
      subst e2; subst e3
      have HEND : Hid (TellPost L B gS (.slice A0 xs.length c0) xs (u + 1) f w (.returned (.tuple #[])) ((World.drew wv).setCell ⟨gO, xs.length * 2 + 1, none⟩ (.int .i64 (ys.length : Nat)))) := by
        have h1 : TSt L B gS (.slice (some ⟨gO, 0, none⟩) ys.length cO) (xs ++ (f, 0) :: r) wv.drew := by rw [← HYR.out]; exact HD.out.drew
        have h2 := h1.ended (b := ys.length)
        refine ⟨rfl, _, ?_, HF.out.trans HO.out ((Fr.below (below_drw (Below.refl _ _))).trans (.inl rfl) h2.2), HO.out⟩
        have e : xs ++ tellN L.ownF (u + 1) f xs.length = xs ++ (f, ys.length) :: r := by rw [HTOT.out, ← hr, HYL.out]
        rw [e]; exact h2.1
      have y0 : wv.cell? ⟨gO, xs.length * 2 + 1, none⟩ = some (.int .i64 ((0 : Nat) : Int)) := own_cell HD.out.own (by
        rw [HYR.out, steps_append, List.getElem?_append_right (by rw [steps_len]; omega), steps_len]
        have e : xs.length * 2 + 1 - xs.length * 2 = 1 := by omega
        rw [e]; simp [steps, stepF])
      have yf : wv.frozen? ⟨gO, xs.length * 2 + 1, none⟩ = false := own_free HD.out.own
      have s5 : wv.cell? ⟨gS, 5, none⟩ = some (.slice (some ⟨gO, 0, none⟩) ys.length cO) := HD.out.rst.blk.cell 5
      have hS0 : (fun w' : World => w'.cell? ⟨gS, 5, none⟩ = some (.slice (some ⟨gO, 0, none⟩) ys.length cO)) (World.drew wv) := s5
      have hxy : xs.length < ys.length := by rw [HYL.out]; omega
      clear s1 hp5 hplt hga hgb s5 hr
      go_wp2_with fail
      refine wp_region_noPanic ?_
      refine region_M (S := fun w' => w'.cell? ⟨gS, 5, none⟩ = some (.slice (some ⟨gO, 0, none⟩) ys.length cO)) (T := [12]) (by kernel_rfl) ?_
      refine anyM_free (i := 0) (oi := { dst := some 121, op := _, type := _, pos := _, after := _, guard := _ }) (v := ?_) rfl (by kernel_rfl) (fun _ _ _ h => h) (Or.inl ⟨by kernel_rfl, ?_⟩) (fun _ => hS0) ?_
      rotate_left 1
      · (intro w hSw; (try dsimp only at hSw); go_simp; try with_reducible rfl)
      try simp only [Act.put, Array.toArray_toList, List.setIfInBounds_toArray, List.set_cons_zero, List.set_cons_succ]
      refine anyM_free (i := 1) (oi := { dst := some 122, op := _, type := _, pos := _, after := _, guard := _ }) (v := ?_) rfl (by kernel_rfl) (fun _ _ _ h => h) (Or.inl ⟨by kernel_rfl, ?_⟩) (fun _ => hS0) ?_
      rotate_left 1
      · (intro w hSw; (try dsimp only at hSw); go_simp; try with_reducible rfl)
      try simp only [Act.put, Array.toArray_toList, List.setIfInBounds_toArray, List.set_cons_zero, List.set_cons_succ]
      refine anyM_free (i := 2) (oi := { dst := some 123, op := _, type := _, pos := _, after := _, guard := _ }) (v := ?_) rfl (by kernel_rfl) (fun _ _ _ h => h) (Or.inl ⟨by kernel_rfl, ?_⟩) (fun _ => hS0) ?_
      rotate_left 1
      · (intro w hSw; (try dsimp only at hSw); go_simp; try with_reducible rfl)
      try simp only [Act.put, Array.toArray_toList, List.setIfInBounds_toArray, List.set_cons_zero, List.set_cons_succ]
      refine anyM_take (i := 3) (oi := { dst := some 124, op := _, type := _, pos := _, after := _, guard := _ }) (v := ?_) rfl (by kernel_rfl) (fun _ _ _ h => h) (Or.inl ⟨by kernel_rfl, ?_⟩) hS0 ?_
      rotate_left 1
      · (intro w hSw; (try dsimp only at hSw); go_simp; try with_reducible rfl)
      try simp only [Act.put, Array.toArray_toList, List.setIfInBounds_toArray, List.set_cons_zero, List.set_cons_succ]
      refine anyM_free (i := 4) (oi := { dst := some 125, op := _, type := _, pos := _, after := _, guard := _ }) (v := ?_) rfl (by kernel_rfl) (fun _ _ _ h => h) (Or.inl ⟨by kernel_rfl, ?_⟩) (fun _ => hS0) ?_
      rotate_left 1
      · (intro w hSw; (try dsimp only at hSw); go_simp; try with_reducible rfl)
      try simp only [Act.put, Array.toArray_toList, List.setIfInBounds_toArray, List.set_cons_zero, List.set_cons_succ]
      refine anyM_free (i := 5) (oi := { dst := some 126, op := _, type := _, pos := _, after := _, guard := _ }) (v := ?_) rfl (by kernel_rfl) (fun _ _ _ h => h) (Or.inl ⟨by kernel_rfl, ?_⟩) (fun _ => hS0) ?_
      rotate_left 1
      · (intro w hSw; (try dsimp only at hSw); go_simp; try with_reducible rfl)
      try simp only [Act.put, Array.toArray_toList, List.setIfInBounds_toArray, List.set_cons_zero, List.set_cons_succ]
      refine anyM_free (i := 6) (oi := { dst := some 127, op := _, type := _, pos := _, after := _, guard := _ }) (v := ?_) rfl (by kernel_rfl) (fun _ _ _ h => h) (Or.inl ⟨by kernel_rfl, ?_⟩) (fun _ => hS0) ?_
      rotate_left 1
      · (intro w hSw; (try dsimp only at hSw); go_simp; try with_reducible rfl)
      try simp only [Act.put, Array.toArray_toList, List.setIfInBounds_toArray, List.set_cons_zero, List.set_cons_succ]
      refine anyM_free (i := 7) (oi := { dst := some 128, op := _, type := _, pos := _, after := _, guard := _ }) (v := ?_) rfl (by kernel_rfl) (fun _ _ _ h => h) (Or.inl ⟨by kernel_rfl, ?_⟩) (fun _ => hS0) ?_
      rotate_left 1
      · (intro w hSw; (try dsimp only at hSw); go_simp; try with_reducible rfl)
      try simp only [Act.put, Array.toArray_toList, List.setIfInBounds_toArray, List.set_cons_zero, List.set_cons_succ]
      refine anyM_take (i := 8) (oi := { dst := some 129, op := _, type := _, pos := _, after := _, guard := _ }) (v := ?_) rfl (by kernel_rfl) (fun _ _ _ h => h) (Or.inl ⟨by kernel_rfl, ?_⟩) hS0 ?_
      rotate_left 1
      · (intro w hSw; (try dsimp only at hSw); go_simp; try with_reducible rfl)
      try simp only [Act.put, Array.toArray_toList, List.setIfInBounds_toArray, List.set_cons_zero, List.set_cons_succ]
      refine anyM_free (i := 9) (oi := { dst := some 130, op := _, type := _, pos := _, after := _, guard := _ }) (v := ?_) rfl (by kernel_rfl) (fun _ _ _ h => h) (Or.inl ⟨by kernel_rfl, ?_⟩) (fun _ => hS0) ?_
      rotate_left 1
      · (intro w hSw; (try dsimp only at hSw); go_simp; try with_reducible rfl)
      try simp only [Act.put, Array.toArray_toList, List.setIfInBounds_toArray, List.set_cons_zero, List.set_cons_succ]
      refine anyM_free (i := 10) (oi := { dst := some 131, op := _, type := _, pos := _, after := _, guard := _ }) (v := ?_) rfl (by kernel_rfl) (fun _ _ _ h => h) (Or.inl ⟨by kernel_rfl, ?_⟩) (fun _ => hS0) ?_
      rotate_left 1
      · (intro w hSw; (try dsimp only at hSw); go_simp; try with_reducible rfl)
      try simp only [Act.put, Array.toArray_toList, List.setIfInBounds_toArray, List.set_cons_zero, List.set_cons_succ]
      refine anyM_free (i := 11) (oi := { dst := some 132, op := _, type := _, pos := _, after := _, guard := _ }) (v := ?_) rfl (by kernel_rfl) (fun _ _ _ h => h) (Or.inl ⟨by kernel_rfl, ?_⟩) (fun _ => hS0) ?_
      rotate_left 1
      · (intro w hSw; (try dsimp only at hSw); go_simp; try with_reducible rfl)
      try simp only [Act.put, Array.toArray_toList, List.setIfInBounds_toArray, List.set_cons_zero, List.set_cons_succ]
      refine anyM_one (i := 12) (by kernel_rfl) rfl (fun K hK => ?_)
      go_simp
      refine hK.out _ _ (fun h => late_no h (by kernel_rfl)) ?_
      clear hK K
      try simp only [Act.put, Array.toArray_toList, List.setIfInBounds_toArray, List.set_cons_zero, List.set_cons_succ]
      refine anyM_done (by kernel_rfl) ?_ _
      refine NoPanic.normal ?_
      clear hS0
      go_wp2_with fail
      (try simp only [Exit.inBlock, Exit.then]); refine bodyPost_ret (results_none rfl _ _ _) rfl ?_
      exact HEND.out
end Go.Proofs.YtkmmlcnoeeaekaaGreatDoor
