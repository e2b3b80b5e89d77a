/- Contract of flex's Spread. -/
import Derived.Test.YtpinfaoeggipmaaSpreadA
import Derived.Deep.QuietTactic
import Derived.BigQuiet
namespace Go.Proofs.Ytpinfaoeggipmaa
open Go.RowKit
set_option linter.unusedVariables false
set_option linter.unusedSimpArgs false
attribute [local go_sem high] run_min2 run_max2

theorem own_ne {w : World} {base size n g : Nat} {e : TypeId} {v : Value} {xs : List Value} (h : w.ownsRow base e size v n xs) (hg : g < base) : v.ownBlock ≠ some g := fun e => by have := (h.lt g e).1; omega
theorem ones_callsI (f : Int) (m gp : Nat) (mI : Int) (w : World) (hI : mI = (m : Int)) (hm : m ≤ 1000) (hp : Blk w gp 3 #[.int .i64 f]) :
    Calls Try.prog 84 #[.int .i64 mI, .pointer (some ⟨gp, 0, none⟩)] w fun e w' => ∃ g, e = .returned (.slice (some ⟨g, 0, none⟩) m m) ∧ w'.ownsRow w.heap.size 3 1 (.slice (some ⟨g, 0, none⟩) m m) m (ints (share f (onesL m))) ∧ Below w.heap.size w w' := by
  subst hI
  exact ones_calls f m gp w hm hp
theorem step_make_full {P : Program} {ops : Array Oper} {o : Oper} {a : Act} {w : World} {K : Act → World → Prop} {Q : Exit → Act → World → Prop} {E : Prop} (hgd : o.guard = none) (l c : Operand) (t : TypeId) (ho : o.op = Op.makeSlice t l c)
    (base : Nat) (e : TypeId) (i : TypeInfo) (z : Value) (size : Nat) (h1 : P.underlying t = some (.slice e)) (h2 : P.info? e = some i) (h3 : i.zero = some z) (h4 : i.size = size)
    (kl kc : IntKind) (L C : Int) (n : Nat) (hl : a.eval l = .int kl L) (hc : a.eval c = .int kc C) (hL : L = (n : Int)) (hC : C = (n : Int)) (b2 : i.bytes * n ≤ 281474976710656) (b3 : n ≤ maxLen) (b4 : base ≤ w.heap.size)
    (h : ∀ w', w'.ownsRow base e size (.slice (some ⟨w.heap.size, 0, none⟩) n n) n (madeCells z.cells (n * size)).toList → w.grownBy w' none → K (a.put o.dst (.slice (some ⟨w.heap.size, 0, none⟩) n n)) w') :
    if Region.wanted o (yielded ops a.tmps) = true then Oper.wp P o a w K Q else E := by
  have hw : Region.wanted o (yielded ops a.tmps) = true := by simp [Region.wanted, hgd]
  rw [if_pos hw]
  obtain ⟨w', hrun, r1, r2⟩ := run_make_full (P := P) w base t e i z size h1 h2 h3 h4 kl kc n b2 b3 b4
  subst hL
  subst hC
  unfold Oper.wp
  simp [execOp, ho, hl, hc, hrun, Result.andThen]
  exact h _ r1 r2
theorem zeros_ints (n : Nat) : (madeCells (Value.int IntKind.i64 0).cells (n * 1)).toList = ints (List.replicate n 0) := by
  show (madeCells #[Value.int IntKind.i64 0] (n * 1)).toList = _
  rw [toList_madeCells_one]
  simp [ints]
theorem cell_ints {w : World} {g : Nat} {zs : List Int} (h : Blk w g 3 (ints zs).toArray) : ∀ j v, (ints zs)[j]? = some v → w.cell? ((⟨g, 0, none⟩ : Addr).add j) = some v := by
  intro j v hj
  have e2 : (⟨g, 0, none⟩ : Addr).add j = ⟨g, j, none⟩ := by simp [Addr.add]; try omega
  rw [e2, h.cell j, List.getElem?_toArray]
  exact hj
theorem splice_share (N : Nat) (f : Int) (h : 1 ≤ N) : splice (ints (List.replicate N 0)) 1 (ints (share f (onesL (N - 1)))) = ints (0 :: share f (onesL (N - 1))) := by
  obtain ⟨q, rfl⟩ : ∃ q, N = q + 1 := ⟨N - 1, by omega⟩
  have hl : (ints (share f (onesL (q + 1 - 1)))).length = q := by simp [ints, share_length, ones_len]
  unfold splice
  rw [hl]
  have e1 : (ints (List.replicate (q + 1) 0)).take 1 = [.int .i64 0] := by simp [ints, List.replicate_succ]
  have e2 : (ints (List.replicate (q + 1) 0)).drop (1 + q) = [] := List.drop_eq_nil_of_le (by simp [ints]; omega)
  rw [e1, e2, List.append_nil]
  rfl
set_option maxRecDepth 100000 in
set_option maxHeartbeats 4000000 in
theorem spread_bad (mode free nn : Int) (w : World) (hbad : nn < 1 ∨ 500 < nn) :
    Calls Try.prog 56 #[.int .i64 mode, .int .i64 free, .int .i64 nn] w fun e w' => ∃ v, e = .returned v ∧ w'.ownsRow w.heap.size 3 1 v 0 (ints []) ∧ Below w.heap.size w w' := by
  obtain ⟨i0, hi, hz0, hz1, hz2⟩ := info_parts info_int
  have hp0 := Blk.new w 3 #[.int .i64 free]
  have hbel0 := below_alloc (Below.refl _ w) (.cells #[.int .i64 free] 3)
  obtain ⟨f, hf⟩ : ∃ f, f = cut free := ⟨_, rfl⟩
  have HC := Lib.hid (fun w => cut_calls free w)
  rw [← hf] at HC
  have HF := Lib.hid hf
  clear hf
  rcases (show nn < 0 ∨ (¬ nn < 0 ∧ 500 < nn) ∨ nn = 0 by omega) with hb | ⟨hb1, hb⟩ | rfl
  · skip
    go_enter Try.func56, Try.ntmps56
    go_upto_region 5 with (first | (at_make; refine wpList_make_full _ rfl (.tmp 17) (.tmp 17) 22 rfl (w.heap.size + 1) 3 i0 (.int .i64 0) 1 Try.underlying22 hi hz0 hz1 .i64 .i64 _ _ 0 rfl rfl rfl rfl (by rw [hz2]; omega) (by unfold maxLen; omega) (by simp) ?_; intro w2 hown hg; have hmd := below_made (Below.refl _ _) hg; have hp2 := hp0.below hmd (Blk.lt hp0); have hbel2 := below_then hbel0 hmd; have p0 : w2.cell? ⟨w.heap.size, 0, none⟩ = some (.int .i64 free) := hp2.cell 0; have z0 := hp2.free 0; rw [zeros_ints] at hown) | (go_at_call 19; refine (HC.out _).mono ?_; rintro e w' ⟨rfl, rfl⟩))
    have hp3 := hp2.stored 0 (.int .i64 f)
    have ho3 := own_setFar hown (b := w.heap.size) (j := 0) (u := .int .i64 f) (by simp [Value.ownBlock])
    have hbel3 := below_set hbel2 (b := w.heap.size) (off := 0) (Nat.le_refl _) (.int .i64 f)
    have hgW : (w.alloc (.cells #[.int .i64 free] 3)).heap.size = w.heap.size + 1 := alloc_size _ _
    rw [hgW] at ho3
    have hglt : w.heap.size + 1 < (w2.setCell ⟨w.heap.size, 0, none⟩ (.int .i64 f)).heap.size := (ho3.lt _ rfl).2
    generalize w2.setCell ⟨w.heap.size, 0, none⟩ (.int .i64 f) = wx at hp3 ho3 hbel3 hglt ⊢
    have p1 : wx.cell? ⟨w.heap.size, 0, none⟩ = some (.int .i64 f) := hp3.cell 0
    have HP := Lib.hid (show Blk wx w.heap.size 3 #[.int .i64 f] from hp3)
    have HO := Lib.hid ho3
    have HB := Lib.hid hbel3
    have HG := Lib.hid hglt
    have yW := (own_whole ho3).free 0
    clear hp0 hbel0 hown hg hmd hp2 hbel2 p0 z0 hp3 ho3 hbel3 hgW hglt
    by_cases hf0 : f ≤ 0
    · by_cases m4 : mode = 4
      · subst m4
        go_wp2_with fail
        go_ret
        exact ⟨_, rfl, own_low HO.out (by omega), HB.out⟩
      · by_cases m5 : mode = 5
        · subst m5
          go_wp2_with fail
          go_ret
          exact ⟨_, rfl, own_low HO.out (by omega), HB.out⟩
        · go_wp2_with fail
          go_ret
          exact ⟨_, rfl, own_low HO.out (by omega), HB.out⟩
    · go_wp2_with fail
      go_ret
      exact ⟨_, rfl, own_low HO.out (by omega), HB.out⟩
  · skip
    go_enter Try.func56, Try.ntmps56
    go_upto_region 5 with (first | (at_make; refine wpList_make_full _ rfl (.tmp 17) (.tmp 17) 22 rfl (w.heap.size + 1) 3 i0 (.int .i64 0) 1 Try.underlying22 hi hz0 hz1 .i64 .i64 _ _ 0 rfl rfl rfl rfl (by rw [hz2]; omega) (by unfold maxLen; omega) (by simp) ?_; intro w2 hown hg; have hmd := below_made (Below.refl _ _) hg; have hp2 := hp0.below hmd (Blk.lt hp0); have hbel2 := below_then hbel0 hmd; have p0 : w2.cell? ⟨w.heap.size, 0, none⟩ = some (.int .i64 free) := hp2.cell 0; have z0 := hp2.free 0; rw [zeros_ints] at hown) | (go_at_call 19; refine (HC.out _).mono ?_; rintro e w' ⟨rfl, rfl⟩))
    have hp3 := hp2.stored 0 (.int .i64 f)
    have ho3 := own_setFar hown (b := w.heap.size) (j := 0) (u := .int .i64 f) (by simp [Value.ownBlock])
    have hbel3 := below_set hbel2 (b := w.heap.size) (off := 0) (Nat.le_refl _) (.int .i64 f)
    have hgW : (w.alloc (.cells #[.int .i64 free] 3)).heap.size = w.heap.size + 1 := alloc_size _ _
    rw [hgW] at ho3
    have hglt : w.heap.size + 1 < (w2.setCell ⟨w.heap.size, 0, none⟩ (.int .i64 f)).heap.size := (ho3.lt _ rfl).2
    generalize w2.setCell ⟨w.heap.size, 0, none⟩ (.int .i64 f) = wx at hp3 ho3 hbel3 hglt ⊢
    have p1 : wx.cell? ⟨w.heap.size, 0, none⟩ = some (.int .i64 f) := hp3.cell 0
    have HP := Lib.hid (show Blk wx w.heap.size 3 #[.int .i64 f] from hp3)
    have HO := Lib.hid ho3
    have HB := Lib.hid hbel3
    have HG := Lib.hid hglt
    have yW := (own_whole ho3).free 0
    clear hp0 hbel0 hown hg hmd hp2 hbel2 p0 z0 hp3 ho3 hbel3 hgW hglt
    by_cases hf0 : f ≤ 0
    · by_cases m4 : mode = 4
      · subst m4
        go_wp2_with fail
        go_ret
        exact ⟨_, rfl, own_low HO.out (by omega), HB.out⟩
      · by_cases m5 : mode = 5
        · subst m5
          go_wp2_with fail
          go_ret
          exact ⟨_, rfl, own_low HO.out (by omega), HB.out⟩
        · go_wp2_with fail
          go_ret
          exact ⟨_, rfl, own_low HO.out (by omega), HB.out⟩
    · go_wp2_with fail
      go_ret
      exact ⟨_, rfl, own_low HO.out (by omega), HB.out⟩
  · skip
    go_enter Try.func56, Try.ntmps56
    go_upto_region 5 with (first | (at_make; refine wpList_make_full _ rfl (.tmp 17) (.tmp 17) 22 rfl (w.heap.size + 1) 3 i0 (.int .i64 0) 1 Try.underlying22 hi hz0 hz1 .i64 .i64 _ _ 0 rfl rfl rfl rfl (by rw [hz2]; omega) (by unfold maxLen; omega) (by simp) ?_; intro w2 hown hg; have hmd := below_made (Below.refl _ _) hg; have hp2 := hp0.below hmd (Blk.lt hp0); have hbel2 := below_then hbel0 hmd; have p0 : w2.cell? ⟨w.heap.size, 0, none⟩ = some (.int .i64 free) := hp2.cell 0; have z0 := hp2.free 0; rw [zeros_ints] at hown) | (go_at_call 19; refine (HC.out _).mono ?_; rintro e w' ⟨rfl, rfl⟩))
    have hp3 := hp2.stored 0 (.int .i64 f)
    have ho3 := own_setFar hown (b := w.heap.size) (j := 0) (u := .int .i64 f) (by simp [Value.ownBlock])
    have hbel3 := below_set hbel2 (b := w.heap.size) (off := 0) (Nat.le_refl _) (.int .i64 f)
    have hgW : (w.alloc (.cells #[.int .i64 free] 3)).heap.size = w.heap.size + 1 := alloc_size _ _
    rw [hgW] at ho3
    have hglt : w.heap.size + 1 < (w2.setCell ⟨w.heap.size, 0, none⟩ (.int .i64 f)).heap.size := (ho3.lt _ rfl).2
    generalize w2.setCell ⟨w.heap.size, 0, none⟩ (.int .i64 f) = wx at hp3 ho3 hbel3 hglt ⊢
    have p1 : wx.cell? ⟨w.heap.size, 0, none⟩ = some (.int .i64 f) := hp3.cell 0
    have HP := Lib.hid (show Blk wx w.heap.size 3 #[.int .i64 f] from hp3)
    have HO := Lib.hid ho3
    have HB := Lib.hid hbel3
    have HG := Lib.hid hglt
    have yW := (own_whole ho3).free 0
    clear hp0 hbel0 hown hg hmd hp2 hbel2 p0 z0 hp3 ho3 hbel3 hgW hglt
    by_cases hf0 : f ≤ 0
    · by_cases m4 : mode = 4
      · subst m4
        go_wp2_with fail
        go_ret
        exact ⟨_, rfl, own_low HO.out (by omega), HB.out⟩
      · by_cases m5 : mode = 5
        · subst m5
          go_wp2_with fail
          go_ret
          exact ⟨_, rfl, own_low HO.out (by omega), HB.out⟩
        · go_wp2_with fail
          go_ret
          exact ⟨_, rfl, own_low HO.out (by omega), HB.out⟩
    · go_wp2_with fail
      go_ret
      exact ⟨_, rfl, own_low HO.out (by omega), HB.out⟩
set_option maxRecDepth 100000 in
set_option maxHeartbeats 8000000 in
theorem spread_good (mode free : Int) (N : Nat) (w : World) (n1 : 1 ≤ N) (n2 : N ≤ 500) :
    Calls Try.prog 56 #[.int .i64 mode, .int .i64 free, .int .i64 N] w fun e w' => ∃ v, e = .returned v ∧ w'.ownsRow w.heap.size 3 1 v (spreadF mode free N).length (ints (spreadF mode free N)) ∧ Below w.heap.size w w' := by
  obtain ⟨i0, hi, hz0, hz1, hz2⟩ := info_parts info_int
  have n3 : ¬ (N : Int) < 0 := by omega
  have n4 : ¬ (500 : Int) < (N : Int) := by omega
  have n5 : ¬ ((N : Int) = 0) := by omega
  have n6 : ((N : Int) == 0) = false := by simpa using n5
  have hp0 := Blk.new w 3 #[.int .i64 free]
  have hbel0 := below_alloc (Below.refl _ w) (.cells #[.int .i64 free] 3)
  obtain ⟨f, hf⟩ : ∃ f, f = cut free := ⟨_, rfl⟩
  have HC := Lib.hid (fun w => cut_calls free w)
  rw [← hf] at HC
  have HF := Lib.hid hf
  clear hf
  go_enter Try.func56, Try.ntmps56
  go_upto_region 5 with (first | (at_make; refine wpList_make_full _ rfl (.tmp 17) (.tmp 17) 22 rfl (w.heap.size + 1) 3 i0 (.int .i64 0) 1 Try.underlying22 hi hz0 hz1 .i64 .i64 _ _ N rfl rfl rfl rfl (by rw [hz2]; omega) (by unfold maxLen; omega) (by simp) ?_; intro w2 hown hg; have hmd := below_made (Below.refl _ _) hg; have hp2 := hp0.below hmd (Blk.lt hp0); have hbel2 := below_then hbel0 hmd; have p0 : w2.cell? ⟨w.heap.size, 0, none⟩ = some (.int .i64 free) := hp2.cell 0; have z0 := hp2.free 0; rw [zeros_ints] at hown) | (go_at_call 19; refine (HC.out _).mono ?_; rintro e w' ⟨rfl, rfl⟩))
  have hp3 := hp2.stored 0 (.int .i64 f)
  have ho3 := own_setFar hown (b := w.heap.size) (j := 0) (u := .int .i64 f) (by simp [Value.ownBlock])
  have hbel3 := below_set hbel2 (b := w.heap.size) (off := 0) (Nat.le_refl _) (.int .i64 f)
  have hgW : (w.alloc (.cells #[.int .i64 free] 3)).heap.size = w.heap.size + 1 := alloc_size _ _
  rw [hgW] at ho3
  have hglt : w.heap.size + 1 < (w2.setCell ⟨w.heap.size, 0, none⟩ (.int .i64 f)).heap.size := (ho3.lt _ rfl).2
  generalize w2.setCell ⟨w.heap.size, 0, none⟩ (.int .i64 f) = wx at hp3 ho3 hbel3 hglt ⊢
  have p1 : wx.cell? ⟨w.heap.size, 0, none⟩ = some (.int .i64 f) := hp3.cell 0
  have HP := Lib.hid (show Blk wx w.heap.size 3 #[.int .i64 f] from hp3)
  have HO := Lib.hid ho3
  have HB := Lib.hid hbel3
  have HG := Lib.hid hglt
  have yW := (own_whole ho3).free 0
  have uW : wx.cell? ⟨w.heap.size + 1, 0, none⟩ = some (.int .i64 0) := own_cell ho3 (by rw [ints, List.map_replicate, List.getElem?_replicate_of_lt (by omega)])
  clear hp0 hbel0 hown hg hmd hp2 hbel2 p0 z0 hp3 ho3 hbel3 hgW hglt
  by_cases hf0 : f ≤ 0
  · by_cases m4 : mode = 4
    · subst m4
      go_wp2_with fail
      go_ret
      exact ⟨_, rfl, by rw [sp_none n1 n2 (by decide) (by decide) (by rw [← HF.out]; omega) (by decide), List.length_replicate]; exact own_low HO.out (by omega), HB.out⟩
    · by_cases m5 : mode = 5
      · subst m5
        have E := sp_two (mode := 5) n1 n2 (Or.inr ⟨rfl, by rw [← HF.out]; exact hf0⟩)
        rw [← HF.out] at E
        have HE := Lib.hid E
        clear E
        go_wp2_with (go_at_call 21; refine (part_calls _ _ _ _).mono ?_; rintro e w' ⟨rfl, rfl⟩)
        go_ret
        exact ⟨_, rfl, by rw [HE.out, firstL_len, ← first_ints]; exact own_low (own_set HO.out) (by omega), below_set HB.out (b := w.heap.size + 1) (off := 0) (Nat.le_succ _) _⟩
      · by_cases m1 : mode = 1
        · subst m1
          have E := sp_one (free := free) n1 n2
          rw [← HF.out] at E
          have HE := Lib.hid E
          clear E
          go_wp2_with fail
          go_ret
          exact ⟨_, rfl, by rw [HE.out, firstL_len, ← first_ints]; exact own_low (own_set HO.out) (by omega), below_set HB.out (b := w.heap.size + 1) (off := 0) (Nat.le_succ _) _⟩
        · by_cases m2 : mode = 2
          · subst m2
            have E := sp_two (mode := 2) (free := free) n1 n2 (Or.inl rfl)
            rw [← HF.out] at E
            have HE := Lib.hid E
            clear E
            go_wp2_with (go_at_call 21; refine (part_calls _ _ _ _).mono ?_; rintro e w' ⟨rfl, rfl⟩)
            go_ret
            exact ⟨_, rfl, by rw [HE.out, firstL_len, ← first_ints]; exact own_low (own_set HO.out) (by omega), below_set HB.out (b := w.heap.size + 1) (off := 0) (Nat.le_succ _) _⟩
          · have HN := Lib.hid (sp_none (free := free) n1 n2 m1 m2 (fun h => m4 h.1) m5)
            go_wp2_with fail
            go_ret
            exact ⟨_, rfl, by rw [HN.out, List.length_replicate]; exact own_low HO.out (by omega), HB.out⟩
  · by_cases m1 : mode = 1
    · subst m1
      have E := sp_one (free := free) n1 n2
      rw [← HF.out] at E
      have HE := Lib.hid E
      clear E
      go_wp2_with fail
      go_ret
      exact ⟨_, rfl, by rw [HE.out, firstL_len, ← first_ints]; exact own_low (own_set HO.out) (by omega), below_set HB.out (b := w.heap.size + 1) (off := 0) (Nat.le_succ _) _⟩
    · by_cases m2 : mode = 2
      · subst m2
        have E := sp_two (mode := 2) (free := free) n1 n2 (Or.inl rfl)
        rw [← HF.out] at E
        have HE := Lib.hid E
        clear E
        go_wp2_with (go_at_call 21; refine (part_calls _ _ _ _).mono ?_; rintro e w' ⟨rfl, rfl⟩)
        go_ret
        exact ⟨_, rfl, by rw [HE.out, firstL_len, ← first_ints]; exact own_low (own_set HO.out) (by omega), below_set HB.out (b := w.heap.size + 1) (off := 0) (Nat.le_succ _) _⟩
      · by_cases m4 : mode = 4
        · subst m4
          have e1N : (1 : Int) ≤ (N : Int) := by omega
          have eN1 : IntKind.i64.wrap ((N : Int) - 1) = (N : Int) - 1 := IntWalk.i64_in _ (by omega)
          have HPD := Lib.hid HP.out.drew
          have hS0 := True.intro
          have HFE := Lib.hid (show 0 < cut free by rw [← HF.out]; omega)
          go_wp2_with fail
          refine wp_region_noPanic ?_
          refine region_M (S := fun w' => True) (T := []) (by kernel_rfl) ?_
          refine anyM_free (i := 0) (oi := { dst := some 48, op := _, type := _, pos := _, after := _, guard := _ }) (v := ?_) rfl (by kernel_rfl) (fun _ _ _ h => h) (Or.inl ⟨by kernel_rfl, ?_⟩) (fun _ => hS0) ?_
          rotate_left 1
          · (intro w hSw; (try dsimp only at hSw); go_simp; try with_reducible rfl)
          try simp only [Act.put, Array.toArray_toList, List.setIfInBounds_toArray, List.set_cons_zero, List.set_cons_succ]
          refine anyM_free (i := 1) (oi := { dst := some 49, op := _, type := _, pos := _, after := _, guard := _ }) (v := ?_) rfl (by kernel_rfl) (fun _ _ _ h => h) (Or.inl ⟨by kernel_rfl, ?_⟩) (fun _ => hS0) ?_
          rotate_left 1
          · (intro w hSw; (try dsimp only at hSw); go_simp; try with_reducible rfl)
          try simp only [Act.put, Array.toArray_toList, List.setIfInBounds_toArray, List.set_cons_zero, List.set_cons_succ]
          refine anyM_free (i := 2) (oi := { dst := some 50, op := _, type := _, pos := _, after := _, guard := _ }) (v := ?_) rfl (by kernel_rfl) (fun _ _ _ h => h) (Or.inl ⟨by kernel_rfl, ?_⟩) (fun _ => hS0) ?_
          rotate_left 1
          · (intro w hSw; (try dsimp only at hSw); go_simp; try with_reducible rfl)
          try simp only [Act.put, Array.toArray_toList, List.setIfInBounds_toArray, List.set_cons_zero, List.set_cons_succ]
          refine anyM_free (i := 3) (oi := { dst := some 51, op := _, type := _, pos := _, after := _, guard := _ }) (v := ?_) rfl (by kernel_rfl) (fun _ _ _ h => h) (Or.inl ⟨by kernel_rfl, ?_⟩) (fun _ => hS0) ?_
          rotate_left 1
          · (intro w hSw; (try dsimp only at hSw); go_simp; try with_reducible rfl)
          try simp only [Act.put, Array.toArray_toList, List.setIfInBounds_toArray, List.set_cons_zero, List.set_cons_succ]
          refine anyM_free (i := 4) (oi := { dst := some 52, op := _, type := _, pos := _, after := _, guard := _ }) (v := ?_) rfl (by kernel_rfl) (fun _ _ _ h => h) (Or.inl ⟨by kernel_rfl, ?_⟩) (fun _ => hS0) ?_
          rotate_left 1
          · (intro w hSw; (try dsimp only at hSw); go_simp; try with_reducible rfl)
          try simp only [Act.put, Array.toArray_toList, List.setIfInBounds_toArray, List.set_cons_zero, List.set_cons_succ]
          refine anyM_one (i := 5) (by kernel_rfl) rfl (fun K hK => ?_)
          go_simp
          refine (ones_callsI f (N - 1) w.heap.size _ _ (by omega) (by omega) (HPD.out)).mono ?_
          rintro e w4 ⟨g4, rfl, ho4, hb4⟩
          have HK4 := Lib.hid ((own_whole HO.out).drew.below hb4 (HG.out))
          have HB4 := Lib.hid (below_then HB.out.drew hb4)
          have HS4 := Lib.hid (own_whole ho4)
          clear ho4 hb4
          refine hK.out _ _ (fun _ => hS0) ?_
          clear hK K
          try simp only [Act.put, Array.toArray_toList, List.setIfInBounds_toArray, List.set_cons_zero, List.set_cons_succ]
          refine anyM_one (i := 6) (by kernel_rfl) rfl (fun K hK => ?_)
          refine step_copy_splice rfl (.tmp 49) (.tmp 53) 22 22 rfl 3 Try.underlying22 (by kernel_rfl) (if N = 1 then some ⟨w.heap.size + 1, 0, none⟩ else some ⟨w.heap.size + 1, 1, none⟩) (some ⟨g4, 0, none⟩) (N - 1) (N - 1) (N - 1) (N - 1) rfl rfl (w.heap.size + 1) 1 (ints (List.replicate N 0)) 3 HK4.out (ints (share f (onesL (N - 1)))) (by simp [ints, share_length, ones_len]) (fun h => ⟨if_neg (by simp [ints, share_length, ones_len] at h; omega), _, rfl, cell_ints HS4.out⟩) (by simp [ints, share_length, ones_len]; omega) (by intro v hv; obtain ⟨z, _, rfl⟩ := List.mem_map.mp hv; rfl) w.heap.size w HB4.out (Nat.le_succ _) ?_
          intro w5 HG5 hB5
          generalize (if N = 1 then (some ⟨w.heap.size + 1, 0, none⟩ : Option Addr) else some ⟨w.heap.size + 1, 1, none⟩) = dpv
          refine hK.out _ _ (fun _ => hS0) ?_
          clear hK K
          try simp only [Act.put, Array.toArray_toList, List.setIfInBounds_toArray, List.set_cons_zero, List.set_cons_succ]
          refine anyM_done (by kernel_rfl) ?_ _
          refine NoPanic.normal ?_
          rw [splice_share N f n1] at HG5
          have HG6 := HG5
          go_wp2_with fail
          go_ret
          have E := sp_four n1 n2 HFE.out
          have El : (0 :: share (cut free) (onesL (N - 1))).length = N := by simp [share_length, ones_len]; omega
          exact ⟨_, rfl, by rw [E, El, ← HF.out]; exact own_of (by simp [ints, share_length, ones_len]; omega) (Nat.le_succ _) (by unfold maxLen; omega) HG5.out, hB5⟩
        · by_cases m5 : mode = 5
          · subst m5
            obtain ⟨D, hD⟩ : ∃ D : Nat, D = 2 * N := ⟨_, rfl⟩
            obtain ⟨M, hM⟩ : ∃ M : Nat, M = 2 * N - 1 := ⟨_, rfl⟩
            have eD : 2 * (N : Int) = (D : Int) := by omega
            have eM : (D : Int) - 1 = (M : Int) := by omega
            have eMD : M ≤ D := by omega
            have eD1 : D ≤ 1000 := by omega
            obtain ⟨sh, hsh⟩ : ∃ sh, sh = share f (onesL D) := ⟨_, rfl⟩
            have hshl : sh.length = D := by rw [hsh, share_length, ones_len]
            obtain ⟨sf, hsf⟩ : ∃ sf : Nat → Int, sf = fun i => sh.getD i 0 := ⟨_, rfl⟩
            have hsb : ∀ i, -562949953421312000 ≤ sf i ∧ sf i ≤ 562949953421312000 := fun i => by rw [hsf, hsh]; exact share_getD _ _ i
            have HON := Lib.hid (fun w' hp => ones_callsI f D w.heap.size D w' rfl eD1 hp)
            have HEND : Hid (spreadF 5 free N = accL sf N M) := by
              show _ = _
              rw [sp_five n1 n2 (by rw [← HF.out]; omega), hM, accL_all sf N (by omega), hsf, hsh, hD, HF.out]
            rw [← hsh] at HON
            have HAT := Lib.hid (show ∀ k, k < D → (ints sh)[k]? = some (.int .i64 (sf k)) from fun k hk => by rw [hsf]; simp [ints, List.getD, hshl, hk])
            have NM := Lib.hid (show M = 2 * N - 1 ∧ D = 2 * N from ⟨hM, hD⟩)
            clear hM hD hsh hsf hshl
            go_wp2_with (go_at_call 84; refine (HON.out _ HP.out).mono ?_; rintro e w4 ⟨g4, rfl, ho4, hb4⟩)
            have HO4 := Lib.hid (own_below HO.out hb4)
            have HS4 := Lib.hid ho4
            have HB4 := Lib.hid (below_then HB.out hb4)
            have HG4 := Lib.hid (ho4.lt _ rfl).1
            have HSB := Lib.hid hsb
            clear ho4 hb4 p1 yW eD eM hsb
            go_loopw [67] (fun i wr => ∃ k : Nat, k ≤ M ∧ i = .int .i64 k ∧ wr.ownsRow (w.heap.size + 1) 3 1 (.slice (some ⟨w.heap.size + 1, 0, none⟩) N N) N (ints (accL sf N k)) ∧ wr.ownsRow wx.heap.size 3 1 (.slice (some ⟨g4, 0, none⟩) D D) D (ints sh) ∧ Below w.heap.size w wr) (fun i _ => M - (intOf i).toNat)
            case atStart => exact ⟨0, Nat.zero_le _, rfl, by rw [accL_zero]; exact HO4.out, HS4.out, HB4.out⟩
            case round =>
              obtain ⟨k, hk, rfl, hown, hsown, hbel⟩ := hrel
              by_cases hlt : k < M
              · have u4 : wr.cell? ⟨g4, k, none⟩ = some (.int .i64 (sf k)) := own_cell hsown (HAT.out k (by omega))
                obtain ⟨q, hq⟩ : ∃ q, q = (k + 1) / 2 := ⟨_, rfl⟩
                have q1 : q < N := by have := NM.out; omega
                have eq1 : ((k : Int) + 1) / 2 = (q : Int) := by omega
                have uW : wr.cell? ⟨w.heap.size + 1, q, none⟩ = some (.int .i64 (accS sf k q)) := own_cell hown (accL_at sf N k q q1)
                have yW : wr.frozen? ⟨w.heap.size + 1, q, none⟩ = false := own_free hown
                have hb1 := HSB.out k
                have hac : -1125899906842624000 ≤ accS sf k q ∧ accS sf k q ≤ 1125899906842624000 := by
                  have h1 := HSB.out (2 * q)
                  have h2 := HSB.out (2 * q - 1)
                  unfold accS; (repeat' split) <;> omega
                obtain ⟨h3, h4⟩ := hac
                obtain ⟨h5, h6⟩ := hb1
                have hstep := accL_step sf N k (by rw [← hq]; exact q1)
                rw [← hq] at hstep
                have HSET := Lib.hid (show (wr.setCell ⟨w.heap.size + 1, q, none⟩ (.int .i64 (accS sf k q + sf k))).ownsRow (w.heap.size + 1) 3 1 (.slice (some ⟨w.heap.size + 1, 0, none⟩) N N) N (ints (accL sf N (k + 1))) from by rw [← hstep]; exact own_set hown)
                have HSF := Lib.hid (own_setFar (b := w.heap.size + 1) (j := q) (u := .int .i64 (accS sf k q + sf k)) hsown (own_ne hsown HG.out))
                have HBS := Lib.hid (below_set hbel (b := w.heap.size + 1) (off := q) (Nat.le_succ _) (.int .i64 (accS sf k q + sf k)))
                have KK := Lib.hid (show k < M from hlt)
                obtain ⟨ac, hac⟩ : ∃ x, x = accS sf k q := ⟨_, rfl⟩
                obtain ⟨sk, hsk⟩ : ∃ x, x = sf k := ⟨_, rfl⟩
                rw [← hac, ← hsk] at HSET HSF HBS
                rw [← hac] at uW h3 h4
                rw [← hsk] at u4 h5 h6
                clear hq hstep hown hsown hbel hac hsk
                go_wp2_with fail
                go_roundw
                case rel => exact ⟨k + 1, KK.out, by go_num, HSET.out, HSF.out, HBS.out⟩
                case measure => have := KK.out; simp [intOf]; omega
              · obtain rfl : k = M := by omega
                have HE := Lib.hid hown
                clear hown hsown
                go_wp2_with fail
                go_ret
                exact ⟨_, rfl, by rw [HEND.out, accL_len]; exact own_low HE.out (by omega), hbel⟩
          · have HN := Lib.hid (sp_none (free := free) n1 n2 m1 m2 (fun h => m4 h.1) m5)
            go_wp2_with fail
            go_ret
            exact ⟨_, rfl, by rw [HN.out, List.length_replicate]; exact own_low HO.out (by omega), HB.out⟩
theorem spread_calls (mode free nn : Int) (w : World) :
    Calls Try.prog 56 #[.int .i64 mode, .int .i64 free, .int .i64 nn] w fun e w' => ∃ v, e = .returned v ∧ w'.ownsRow w.heap.size 3 1 v (spreadF mode free nn).length (ints (spreadF mode free nn)) ∧ Below w.heap.size w w' := by
  by_cases hbad : nn < 1 ∨ 500 < nn
  · rw [sp_bad hbad]
    exact spread_bad mode free nn w hbad
  · obtain ⟨N, rfl⟩ : ∃ N : Nat, nn = (N : Int) := ⟨nn.toNat, by omega⟩
    exact spread_good mode free N w (by omega) (by omega)
end Go.Proofs.Ytpinfaoeggipmaa
