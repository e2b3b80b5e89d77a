/- Contract of raster.Flat. -/
import Derived.Test.YtkppignoomnmdaaFlatA
import Derived.Test.YtkppignoomnmdaaOwn
import Derived.Deep.RegionLaw
import Derived.Deep.AppendLies
namespace Go.Proofs.Ytkppignoomnmdaa
open Go.RowKit
set_option linter.unusedVariables false
set_option linter.unusedSimpArgs false
attribute [local go_sem high] run_min2 run_max2

theorem info_draw : (Try.prog.info? 59).map (fun i => (i.zero, i.size, i.bytes)) = some (some (.agg (drawF DrawV.zero).toArray), 14, 120) := by kernel_rfl
theorem info_state : (Try.prog.info? 96).map (fun i => (i.zero, i.size, i.bytes)) = some (some (.agg (stF StV.zero).toArray), 5, 40) := by kernel_rfl
theorem drawF_one (c : DrawV) : ∀ u ∈ drawF c, u.oneCell' = true := by
  intro u hu
  simp [drawF] at hu
  rcases hu with rfl | rfl | rfl | rfl | rfl | rfl | rfl | rfl | rfl | rfl | rfl | rfl | rfl | rfl <;> rfl
theorem stF_one (c : StV) : ∀ u ∈ stF c, u.oneCell' = true := by
  intro u hu
  simp [stF] at hu
  rcases hu with rfl | rfl | rfl | rfl | rfl <;> rfl
theorem meetSt_n (s : StV) (a b c d : Int) : (meetSt s a b c d).n = s.n := by unfold meetSt; split <;> rfl
theorem own_cap {w : World} {base : Nat} {e : TypeId} {size n : Nat} {g cap : Nat} {xs : List Value} (h : w.ownsRow base e size (.slice (some ⟨g, 0, none⟩) n cap) n xs) : n ≤ cap ∧ cap ≤ maxLen := by
  rcases h.2 with ⟨h1, _⟩ | ⟨g', cap', cur, hv, h1, h2, h3, h4, _⟩
  · cases h1
  · injection hv with hv1 hv2 hv3
    subst hv3
    exact ⟨h3, h4⟩
theorem sts_take : ∀ (l : List StV) (m : Nat), (sts l).take (m * 5) = sts (l.take m)
  | [], m => by simp [sts]
  | s :: l, 0 => by simp [sts]
  | s :: l, m + 1 => by
    have h := sts_take l m
    show ((stF s) ++ sts l).take ((m + 1) * 5) = stF s ++ sts (l.take m)
    rw [List.take_append, show (stF s).length = 5 from rfl, show (m + 1) * 5 - 5 = m * 5 from by omega, List.take_of_length_le (by show 5 ≤ _; omega), h]
theorem sts_at (l : List StV) (i j : Nat) (u : Value) (hi : i < l.length) (h : (stF (l.getD i StV.zero))[j]? = some u) : (sts l)[i * 5 + j]? = some u := by
  have hj : j < 5 := by
    rcases Nat.lt_or_ge j 5 with h' | h'
    · exact h'
    · rw [List.getElem?_eq_none (by show 5 ≤ j; omega)] at h; cases h
  have e : l = l.take i ++ (l.getD i StV.zero :: l.drop (i + 1)) := by
    rw [← drop_at l StV.zero i hi, List.take_append_drop]
  have hl : (sts (l.take i)).length = i * 5 := by
    have : ∀ l : List StV, (sts l).length = l.length * 5 := by
      intro l; induction l with
      | nil => rfl
      | cons s l ih => show (stF s ++ sts l).length = _; rw [List.length_append, ih]; simp [stF]; omega
    rw [this, List.length_take]; omega
  have e2 : sts l = sts (l.take i) ++ (stF (l.getD i StV.zero) ++ sts (l.drop (i + 1))) := by
    conv => lhs; rw [e]
    simp [sts]
  rw [e2, List.getElem?_append_right (by omega), hl, show i * 5 + j - i * 5 = j from by omega, List.getElem?_append_left (by show j < 5; omega)]
  exact h
/-- The state of the loop behind k commands. -/
def FlatRel (n : Nat) (l : List CmdV) (T : List DrawV × Int) (w : World) (v4 v5 i : Value) (wr : World) : Prop :=
  ∃ (k : Nat) (o : List CmdV) (out : List DrawV) (g cap : Nat), k ≤ n ∧ i = .int .i64 k ∧ o.length ≤ k ∧ out.length ≤ k ∧ flatGo (l.drop k) o out = T ∧ v4 = .slice (some ⟨g, 0, none⟩) (o.length + 1) cap ∧
    wr.ownsRow w.heap.size 96 5 (.slice (some ⟨g, 0, none⟩) (o.length + 1) cap) (o.length + 1) (sts (around o)) ∧ wr.ownsRow w.heap.size 59 14 v5 out.length (draws out) ∧ Below w.heap.size w wr
/-- What a Flat answers. -/
def FlatPost (T : List DrawV × Int) (w : World) (e : Ending) (w' : World) : Prop := ∃ v, e = .returned (.tuple #[v, .int .i64 T.2]) ∧ w'.ownsRow w.heap.size 59 14 v T.1.length (draws T.1) ∧ Below w.heap.size w w'
set_option maxRecDepth 100000 in
set_option maxHeartbeats 4000000 in
theorem flat_calls (A : Option Addr) (n c B : Nat) (l : List CmdV) (w : World) (hn : l.length = n) (h : Holds w B A (cmds l)) (hm : n ≤ 100) (hB : B ≤ w.heap.size) :
    Calls Try.prog 31 #[.slice A n c] w (FlatPost (flatGo l [] []) w) := by
  obtain ⟨i0, hi, hz0, hz1, hz2⟩ := info_parts info_draw
  obtain ⟨j0, hj, hy0, hy1, hy2⟩ := info_parts info_state
  obtain ⟨T, hT⟩ : ∃ T, T = flatGo l [] [] := ⟨_, rfl⟩
  rw [← hT]
  have HT := Lib.hid hT
  have H := Lib.hid h
  have HN := Lib.hid hn
  clear h hn hT
  go_enter Try.func31, Try.ntmps31
  go_wp2_with (go_at_call 65; refine (rall_calls _).mono ?_; rintro e w1 ⟨rfl, hb1⟩)
  have hz1' := hb1.size
  go_loopw [4, 5, 14] (fun v4 v5 i wr => FlatRel n l T w v4 v5 i wr) (fun _ _ i _ => n - (intOf i).toNat)
  case atStart =>
    refine ⟨0, [], [], w1.heap.size, 1, Nat.zero_le _, rfl, Nat.le_refl _, Nat.le_refl _, HT.out.symm, rfl, ?_, World.ownsRow_nil _ _ _ _, below_alloc hb1 _⟩
    exact World.ownsRow_lit _ #[.int .i64 (-16777216), .int .i64 (-16777216), .int .i64 33554432, .int .i64 33554432, .int .i64 1000] 1 hz1' (by unfold maxLen; omega) rfl
  case round =>
    obtain ⟨k, o, out, g, cap, hk, rfl, ho, hout, hT, rfl, hst, hown, hbel⟩ := hrel
    have hw := hbel.size
    have hgw : g < wr.heap.size := (hst.lt g rfl).2
    by_cases hlt : k < n
    · obtain ⟨b, off, rfl, hb, hc⟩ := (H.out.below hbel hB).flat (f := cmdF) 9 (fun _ => rfl) (by omega) CmdV.zero (by rw [HN.out]; exact hlt)
      rw [drop_at l CmdV.zero k (by rw [HN.out]; exact hlt)] at hT
      obtain ⟨⟨d, node, x, y, cw, ch, color, cn, text⟩, hx⟩ : ∃ x, x = l.getD k CmdV.zero := ⟨_, rfl⟩
      rw [← hx] at hc hT
      have c0 := hc 0 _ rfl
      have c1 := hc 1 _ rfl
      have c2 := hc 2 _ rfl
      have c3 := hc 3 _ rfl
      have c4 := hc 4 _ rfl
      have c5 := hc 5 _ rfl
      have c6 := hc 6 _ rfl
      have c7 := hc 7 _ rfl
      have c8 := hc 8 _ rfl
      simp only [Nat.add_zero] at c0
      have hok := fold_ok o
      have hfs := around_last o
      obtain ⟨m, hm'⟩ : ∃ m, m = o.length := ⟨_, rfl⟩
      have hsc : ∀ j u, (stF (foldSt o))[j]? = some u → (wr.alloc (.cells #[.int .i64 d, .int .i64 node, .int .i64 x, .int .i64 y, .int .i64 cw, .int .i64 ch, .int .i64 color, .int .i64 cn, .string text] 48)).cell? ⟨g, m * 5 + j, none⟩ = some u := fun j u hu => by
        have h1 : (sts (around o))[o.length * 5 + j]? = some u := sts_at _ _ _ _ (by rw [around_len]; omega) (by rw [hfs]; exact hu)
        have h2 := (hst.alloc (.cells #[.int .i64 d, .int .i64 node, .int .i64 x, .int .i64 y, .int .i64 cw, .int .i64 ch, .int .i64 color, .int .i64 cn, .string text] 48)).cells (g := g) rfl _ _ h1
        have e : (⟨g, 0, none⟩ : Addr).add (o.length * 5 + j) = ⟨g, m * 5 + j, none⟩ := by rw [hm']; unfold Addr.add; split <;> simp_all
        rw [← e]; exact h2
      obtain ⟨⟨sx, sy, sw, sh, sn⟩, hs⟩ : ∃ s, s = foldSt o := ⟨_, rfl⟩
      rw [← hs] at hsc hok
      rw [← hm'] at hst ho ⊢
      have hm1 : m ≤ 100 := by omega
      have s0 := hsc 0 _ rfl
      have s1 := hsc 1 _ rfl
      have s2 := hsc 2 _ rfl
      have s3 := hsc 3 _ rfl
      have s4 := hsc 4 _ rfl
      simp only [Nat.add_zero] at s0
      have HST := Lib.hid hst
      have HO := Lib.hid hown
      have HS := Lib.hid hs
      have HM := Lib.hid hm'
      have HTT := Lib.hid hT
      have HOK := Lib.hid hok
      have KK := Lib.hid (show k ≤ n ∧ k < n ∧ m ≤ k from ⟨hk, hlt, ho⟩)
      have b7 := (Blk.new wr 48 #[.int .i64 d, .int .i64 node, .int .i64 x, .int .i64 y, .int .i64 cw, .int .i64 ch, .int .i64 color, .int .i64 cn, .string text]).alloc (.cells #[.int .i64 sx, .int .i64 sy, .int .i64 sw, .int .i64 sh, .int .i64 sn] 96)
      have b8 := Blk.new (wr.alloc (.cells #[.int .i64 d, .int .i64 node, .int .i64 x, .int .i64 y, .int .i64 cw, .int .i64 ch, .int .i64 color, .int .i64 cn, .string text] 48)) 96 #[.int .i64 sx, .int .i64 sy, .int .i64 sw, .int .i64 sh, .int .i64 sn]
      simp only [alloc_size] at b8
      have B7 := Lib.hid b7
      have B8 := Lib.hid b8
      have hbel2 := below_alloc (below_alloc hbel (.cells #[.int .i64 d, .int .i64 node, .int .i64 x, .int .i64 y, .int .i64 cw, .int .i64 ch, .int .i64 color, .int .i64 cn, .string text] 48)) (.cells #[.int .i64 sx, .int .i64 sy, .int .i64 sw, .int .i64 sh, .int .i64 sn] 96)
      have own2 := (hown.alloc (.cells #[.int .i64 d, .int .i64 node, .int .i64 x, .int .i64 y, .int .i64 cw, .int .i64 ch, .int .i64 color, .int .i64 cn, .string text] 48)).alloc (.cells #[.int .i64 sx, .int .i64 sy, .int .i64 sw, .int .i64 sh, .int .i64 sn] 96)
      have st2 := (hst.alloc (.cells #[.int .i64 d, .int .i64 node, .int .i64 x, .int .i64 y, .int .i64 cw, .int .i64 ch, .int .i64 color, .int .i64 cn, .string text] 48)).alloc (.cells #[.int .i64 sx, .int .i64 sy, .int .i64 sw, .int .i64 sh, .int .i64 sn] 96)
      have HB2 := Lib.hid hbel2
      have HO2 := Lib.hid own2
      have HST2 := Lib.hid st2
      clear hc hx hst hown hs hm' hT hok b7 b8 hbel2 own2 st2 hfs hsc hz1'
      obtain ⟨A5, c5', rfl⟩ := own_open HO.out
      by_cases e1 : d = 1
      · subst e1
        go_wp2_with (at_builtin; refine wpList_append_own _ rfl _ _ 52 rfl w.heap.size 59 i0 _ 14 120 Try.underlying52 hi hz0 hz1 hz2 rfl (by decide) _ _ _ rfl (HO2.out.alloc _) ⟨wr.heap.size + 1 + 1, 0, none⟩ 1 1 (drawF ⟨⟨1, node, x, y, cw, ch, color, cn, text⟩, ⟨sx, sy, sw, sh, sn⟩⟩) rfl rfl (cells_at _ _ _ _ (by simp)) (drawF_one _) (by unfold maxLen; omega) (by omega) (by simp; omega) ?_; intro v' w9 hown9 hg9 _)
        have hb9 := below_grownO (below_alloc HB2.out _) HO2.out hg9
        have hst9 := (HST2.out.alloc _).kept hg9 (own_far HST2.out HO2.out (by decide))
        have HB9 := Lib.hid hb9
        have HST9 := Lib.hid hst9
        have HO9 := Lib.hid hown9
        clear hb9 hst9 hown9 hg9
        go_roundw
        case rel => exact ⟨k + 1, o, out ++ [⟨⟨1, node, x, y, cw, ch, color, cn, text⟩, ⟨sx, sy, sw, sh, sn⟩⟩], g, cap, by have := KK.out; omega, by go_num, by have := KK.out; have := HM.out; omega, by rw [List.length_append]; simp; omega, by rw [← HTT.out, flatGo_draw (Or.inl rfl), ← HS.out], by rw [← HM.out], by rw [← HM.out]; exact HST9.out, by rw [draws_snoc, List.length_append]; exact HO9.out, HB9.out⟩
        case measure => have := KK.out; simp [intOf]; omega
      by_cases e2 : d = 2
      · subst e2
        go_wp2_with (at_builtin; refine wpList_append_own _ rfl _ _ 52 rfl w.heap.size 59 i0 _ 14 120 Try.underlying52 hi hz0 hz1 hz2 rfl (by decide) _ _ _ rfl (HO2.out.alloc _) ⟨wr.heap.size + 1 + 1, 0, none⟩ 1 1 (drawF ⟨⟨2, node, x, y, cw, ch, color, cn, text⟩, ⟨sx, sy, sw, sh, sn⟩⟩) rfl rfl (cells_at _ _ _ _ (by simp)) (drawF_one _) (by unfold maxLen; omega) (by omega) (by simp; omega) ?_; intro v' w9 hown9 hg9 _)
        have hb9 := below_grownO (below_alloc HB2.out _) HO2.out hg9
        have hst9 := (HST2.out.alloc _).kept hg9 (own_far HST2.out HO2.out (by decide))
        have HB9 := Lib.hid hb9
        have HST9 := Lib.hid hst9
        have HO9 := Lib.hid hown9
        clear hb9 hst9 hown9 hg9
        go_roundw
        case rel => exact ⟨k + 1, o, out ++ [⟨⟨2, node, x, y, cw, ch, color, cn, text⟩, ⟨sx, sy, sw, sh, sn⟩⟩], g, cap, by have := KK.out; omega, by go_num, by have := KK.out; have := HM.out; omega, by rw [List.length_append]; simp; omega, by rw [← HTT.out, flatGo_draw (Or.inr rfl), ← HS.out], by rw [← HM.out], by rw [← HM.out]; exact HST9.out, by rw [draws_snoc, List.length_append]; exact HO9.out, HB9.out⟩
        case measure => have := KK.out; simp [intOf]; omega
      have e1' : (d == 1) = false := by simpa using e1
      have e2' : (d == 2) = false := by simpa using e2
      by_cases e3 : d = 3
      · subst e3
        obtain ⟨⟨mx, my, mw, mh, mn⟩, hM⟩ : ∃ M, M = meetSt ⟨sx, sy, sw, sh, sn⟩ (cut x) (cut y) (cut cw) (cut ch) := ⟨_, rfl⟩
        have hmt := fun w => meet_calls ⟨sx, sy, sw, sh, sn⟩ (cut x) (cut y) (cut cw) (cut ch) w HOK.out (cut_lo _) (cut_hi _) (cut_lo _) (cut_hi _) (cut_lo _) (cut_hi _) (cut_lo _) (cut_hi _)
        rw [← hM] at hmt
        have HMT := Lib.hid hmt
        have HRC := Lib.hid (fun w => rect_calls ⟨3, node, x, y, cw, ch, color, cn, text⟩ w)
        have HSTEP : Hid (stepSt (foldSt o) ⟨3, node, x, y, cw, ch, color, cn, text⟩ = ⟨mx, my, mw, mh, sn⟩) := by
          have h1 := meetSt_n ⟨sx, sy, sw, sh, sn⟩ (cut x) (cut y) (cut cw) (cut ch)
          rw [← hM] at h1
          show _ = _
          rw [← HS.out]
          unfold stepSt
          rw [if_pos rfl]
          show meetSt _ _ _ _ _ = _
          rw [← hM, show mn = sn from h1]
        clear hM hmt
        go_wp2_with fail
        have b7 := B7.out
        have b8 := B8.out
        have st2 := HST2.out
        have ow2 := HO2.out
        have bl2 := HB2.out
        generalize hw2 : World.alloc (World.alloc wr _) _ = w2 at b7 b8 st2 ow2 bl2 ⊢
        have hz2 := b8.lt
        have KEEP : ∀ w' : World, Blk w' wr.heap.size 48 #[.int .i64 3, .int .i64 node, .int .i64 x, .int .i64 y, .int .i64 cw, .int .i64 ch, .int .i64 color, .int .i64 cn, .string text] → Blk w' (wr.heap.size + 1) 96 #[.int .i64 sx, .int .i64 sy, .int .i64 sw, .int .i64 sh, .int .i64 sn] → w'.cell? ⟨wr.heap.size, 0, none⟩ = some (.int .i64 3) ∧ w'.cell? ⟨wr.heap.size, 1, none⟩ = some (.int .i64 node) ∧ w'.cell? ⟨wr.heap.size, 2, none⟩ = some (.int .i64 x) ∧ w'.cell? ⟨wr.heap.size, 3, none⟩ = some (.int .i64 y) ∧ w'.cell? ⟨wr.heap.size, 4, none⟩ = some (.int .i64 cw) ∧ w'.cell? ⟨wr.heap.size, 5, none⟩ = some (.int .i64 ch) ∧ w'.cell? ⟨wr.heap.size, 6, none⟩ = some (.int .i64 color) ∧ w'.cell? ⟨wr.heap.size, 7, none⟩ = some (.int .i64 cn) ∧ w'.cell? ⟨wr.heap.size, 8, none⟩ = some (.string text) ∧ w'.cell? ⟨wr.heap.size + 1, 0, none⟩ = some (.int .i64 sx) ∧ w'.cell? ⟨wr.heap.size + 1, 1, none⟩ = some (.int .i64 sy) ∧ w'.cell? ⟨wr.heap.size + 1, 2, none⟩ = some (.int .i64 sw) ∧ w'.cell? ⟨wr.heap.size + 1, 3, none⟩ = some (.int .i64 sh) ∧ w'.cell? ⟨wr.heap.size + 1, 4, none⟩ = some (.int .i64 sn) := fun w' h1 h2 => ⟨h1.cell 0, h1.cell 1, h1.cell 2, h1.cell 3, h1.cell 4, h1.cell 5, h1.cell 6, h1.cell 7, h1.cell 8, h2.cell 0, h2.cell 1, h2.cell 2, h2.cell 3, h2.cell 4⟩
        have KEEP' := Lib.hid KEEP
        have b7 := b7.drew
        have b8 := b8.drew
        have st2 : w2.drew.ownsRow _ _ _ _ _ _ := st2
        have ow2 : w2.drew.ownsRow _ _ _ _ _ _ := ow2
        have bl2 := bl2.drew
        have hS0 : (fun w' : World => w'.cell? ⟨wr.heap.size, 0, none⟩ = some (.int .i64 3) ∧ w'.cell? ⟨wr.heap.size, 1, none⟩ = some (.int .i64 node) ∧ w'.cell? ⟨wr.heap.size, 2, none⟩ = some (.int .i64 x) ∧ w'.cell? ⟨wr.heap.size, 3, none⟩ = some (.int .i64 y) ∧ w'.cell? ⟨wr.heap.size, 4, none⟩ = some (.int .i64 cw) ∧ w'.cell? ⟨wr.heap.size, 5, none⟩ = some (.int .i64 ch) ∧ w'.cell? ⟨wr.heap.size, 6, none⟩ = some (.int .i64 color) ∧ w'.cell? ⟨wr.heap.size, 7, none⟩ = some (.int .i64 cn) ∧ w'.cell? ⟨wr.heap.size, 8, none⟩ = some (.string text) ∧ w'.cell? ⟨wr.heap.size + 1, 0, none⟩ = some (.int .i64 sx) ∧ w'.cell? ⟨wr.heap.size + 1, 1, none⟩ = some (.int .i64 sy) ∧ w'.cell? ⟨wr.heap.size + 1, 2, none⟩ = some (.int .i64 sw) ∧ w'.cell? ⟨wr.heap.size + 1, 3, none⟩ = some (.int .i64 sh) ∧ w'.cell? ⟨wr.heap.size + 1, 4, none⟩ = some (.int .i64 sn)) w2.drew := KEEP'.out _ b7 b8
        clear hw2 KEEP
        refine wp_region_noPanic ?_
        refine region_M (S := fun w' => w'.cell? ⟨wr.heap.size, 0, none⟩ = some (.int .i64 3) ∧ w'.cell? ⟨wr.heap.size, 1, none⟩ = some (.int .i64 node) ∧ w'.cell? ⟨wr.heap.size, 2, none⟩ = some (.int .i64 x) ∧ w'.cell? ⟨wr.heap.size, 3, none⟩ = some (.int .i64 y) ∧ w'.cell? ⟨wr.heap.size, 4, none⟩ = some (.int .i64 cw) ∧ w'.cell? ⟨wr.heap.size, 5, none⟩ = some (.int .i64 ch) ∧ w'.cell? ⟨wr.heap.size, 6, none⟩ = some (.int .i64 color) ∧ w'.cell? ⟨wr.heap.size, 7, none⟩ = some (.int .i64 cn) ∧ w'.cell? ⟨wr.heap.size, 8, none⟩ = some (.string text) ∧ w'.cell? ⟨wr.heap.size + 1, 0, none⟩ = some (.int .i64 sx) ∧ w'.cell? ⟨wr.heap.size + 1, 1, none⟩ = some (.int .i64 sy) ∧ w'.cell? ⟨wr.heap.size + 1, 2, none⟩ = some (.int .i64 sw) ∧ w'.cell? ⟨wr.heap.size + 1, 3, none⟩ = some (.int .i64 sh) ∧ w'.cell? ⟨wr.heap.size + 1, 4, none⟩ = some (.int .i64 sn)) (T := []) (by kernel_rfl) ?_
        refine anyM_free (i := 0) (oi := { dst := some 40, op := _, type := _, pos := _, after := _, guard := _ }) (v := ?_) rfl (by kernel_rfl) (fun _ _ _ h => h) (Or.inl ⟨by kernel_rfl, ?_⟩) (fun _ => hS0) ?_
        rotate_left 1
        · (intro w hSw; (try dsimp only at hSw); go_simp; try with_reducible rfl)
        try simp only [Act.put, Array.toArray_toList, List.setIfInBounds_toArray, List.set_cons_zero, List.set_cons_succ]
        refine anyM_free (i := 1) (oi := { dst := some 41, op := _, type := _, pos := _, after := _, guard := _ }) (v := ?_) rfl (by kernel_rfl) (fun _ _ _ h => h) (Or.inl ⟨by kernel_rfl, ?_⟩) (fun _ => hS0) ?_
        rotate_left 1
        · (intro w hSw; (try dsimp only at hSw); go_simp; try with_reducible rfl)
        try simp only [Act.put, Array.toArray_toList, List.setIfInBounds_toArray, List.set_cons_zero, List.set_cons_succ]
        refine anyM_take (i := 2) (oi := { dst := some 42, op := _, type := _, pos := _, after := _, guard := _ }) (v := ?_) rfl (by kernel_rfl) (fun _ _ _ h => h) (Or.inl ⟨by kernel_rfl, ?_⟩) hS0 ?_
        rotate_left 1
        · (intro w hSw; (try dsimp only at hSw); go_simp; try with_reducible rfl)
        try simp only [Act.put, Array.toArray_toList, List.setIfInBounds_toArray, List.set_cons_zero, List.set_cons_succ]
        refine anyM_take (i := 3) (oi := { dst := some 43, op := _, type := _, pos := _, after := _, guard := _ }) (v := ?_) rfl (by kernel_rfl) (fun _ _ _ h => h) (Or.inl ⟨by kernel_rfl, ?_⟩) hS0 ?_
        rotate_left 1
        · (intro w hSw; (try dsimp only at hSw); go_simp; try with_reducible rfl)
        try simp only [Act.put, Array.toArray_toList, List.setIfInBounds_toArray, List.set_cons_zero, List.set_cons_succ]
        refine anyM_free (i := 6) (oi := { dst := some 46, op := _, type := _, pos := _, after := _, guard := _ }) (v := ?_) rfl (by kernel_rfl) (fun _ _ _ h => h) (Or.inl ⟨by kernel_rfl, ?_⟩) (fun _ => hS0) ?_
        rotate_left 1
        · (intro w hSw; (try dsimp only at hSw); go_simp; try with_reducible rfl)
        try simp only [Act.put, Array.toArray_toList, List.setIfInBounds_toArray, List.set_cons_zero, List.set_cons_succ]
        refine anyM_take (i := 7) (oi := { dst := some 47, op := _, type := _, pos := _, after := _, guard := _ }) (v := ?_) rfl (by kernel_rfl) (fun _ _ _ h => h) (Or.inl ⟨by kernel_rfl, ?_⟩) hS0 ?_
        rotate_left 1
        · (intro w hSw; (try dsimp only at hSw); go_simp; try with_reducible rfl)
        try simp only [Act.put, Array.toArray_toList, List.setIfInBounds_toArray, List.set_cons_zero, List.set_cons_succ]
        refine anyM_one (i := 4) (by kernel_rfl) rfl (fun K hK => ?_)
        go_simp
        refine (HRC.out _).mono ?_
        rintro e w3 ⟨rfl, hb3⟩
        have b7 := b7.below hb3 b7.lt
        have b8 := b8.below hb3 b8.lt
        have st2 := own_below st2 hb3
        have ow2 := own_below ow2 hb3
        have bl2 := below_then bl2 hb3
        have hz := hb3.size
        have hS0 : (fun w' : World => w'.cell? ⟨wr.heap.size, 0, none⟩ = some (.int .i64 3) ∧ w'.cell? ⟨wr.heap.size, 1, none⟩ = some (.int .i64 node) ∧ w'.cell? ⟨wr.heap.size, 2, none⟩ = some (.int .i64 x) ∧ w'.cell? ⟨wr.heap.size, 3, none⟩ = some (.int .i64 y) ∧ w'.cell? ⟨wr.heap.size, 4, none⟩ = some (.int .i64 cw) ∧ w'.cell? ⟨wr.heap.size, 5, none⟩ = some (.int .i64 ch) ∧ w'.cell? ⟨wr.heap.size, 6, none⟩ = some (.int .i64 color) ∧ w'.cell? ⟨wr.heap.size, 7, none⟩ = some (.int .i64 cn) ∧ w'.cell? ⟨wr.heap.size, 8, none⟩ = some (.string text) ∧ w'.cell? ⟨wr.heap.size + 1, 0, none⟩ = some (.int .i64 sx) ∧ w'.cell? ⟨wr.heap.size + 1, 1, none⟩ = some (.int .i64 sy) ∧ w'.cell? ⟨wr.heap.size + 1, 2, none⟩ = some (.int .i64 sw) ∧ w'.cell? ⟨wr.heap.size + 1, 3, none⟩ = some (.int .i64 sh) ∧ w'.cell? ⟨wr.heap.size + 1, 4, none⟩ = some (.int .i64 sn)) w3 := KEEP'.out _ b7 b8
        refine hK.out _ _ (fun _ => hS0) ?_
        clear hK K
        try simp only [Act.put, Array.toArray_toList, List.setIfInBounds_toArray, List.set_cons_zero, List.set_cons_succ]
        refine anyM_one (i := 5) (by kernel_rfl) rfl (fun K hK => ?_)
        go_simp
        refine (HMT.out _).mono ?_
        rintro e w4 ⟨rfl, hb4⟩
        have b7 := b7.below hb4 b7.lt
        have b8 := b8.below hb4 b8.lt
        have st2 := own_below st2 hb4
        have ow2 := own_below ow2 hb4
        have bl2 := below_then bl2 hb4
        have hz := hb4.size
        have hS0 : (fun w' : World => w'.cell? ⟨wr.heap.size, 0, none⟩ = some (.int .i64 3) ∧ w'.cell? ⟨wr.heap.size, 1, none⟩ = some (.int .i64 node) ∧ w'.cell? ⟨wr.heap.size, 2, none⟩ = some (.int .i64 x) ∧ w'.cell? ⟨wr.heap.size, 3, none⟩ = some (.int .i64 y) ∧ w'.cell? ⟨wr.heap.size, 4, none⟩ = some (.int .i64 cw) ∧ w'.cell? ⟨wr.heap.size, 5, none⟩ = some (.int .i64 ch) ∧ w'.cell? ⟨wr.heap.size, 6, none⟩ = some (.int .i64 color) ∧ w'.cell? ⟨wr.heap.size, 7, none⟩ = some (.int .i64 cn) ∧ w'.cell? ⟨wr.heap.size, 8, none⟩ = some (.string text) ∧ w'.cell? ⟨wr.heap.size + 1, 0, none⟩ = some (.int .i64 sx) ∧ w'.cell? ⟨wr.heap.size + 1, 1, none⟩ = some (.int .i64 sy) ∧ w'.cell? ⟨wr.heap.size + 1, 2, none⟩ = some (.int .i64 sw) ∧ w'.cell? ⟨wr.heap.size + 1, 3, none⟩ = some (.int .i64 sh) ∧ w'.cell? ⟨wr.heap.size + 1, 4, none⟩ = some (.int .i64 sn)) w4 := KEEP'.out _ b7 b8
        refine hK.out _ _ (fun _ => hS0) ?_
        clear hK K
        try simp only [Act.put, Array.toArray_toList, List.setIfInBounds_toArray, List.set_cons_zero, List.set_cons_succ]
        refine anyM_free (i := 8) (oi := { dst := some 48, op := _, type := _, pos := _, after := _, guard := _ }) (v := ?_) rfl (by kernel_rfl) (fun _ _ _ h => h) (Or.inl ⟨by kernel_rfl, ?_⟩) (fun _ => hS0) ?_
        rotate_left 1
        · (intro w hSw; (try dsimp only at hSw); go_simp; try with_reducible rfl)
        try simp only [Act.put, Array.toArray_toList, List.setIfInBounds_toArray, List.set_cons_zero, List.set_cons_succ]
        refine anyM_one (i := 9) (by kernel_rfl) rfl (fun K hK => ?_)
        go_simp
        have hcl := cells_at w4 (stF ⟨mx, my, mw, mh, sn⟩) 96 w4.heap.size rfl
        have b7 := b7.alloc (.cells #[.int .i64 mx, .int .i64 my, .int .i64 mw, .int .i64 mh, .int .i64 sn] 96)
        have b8 := b8.alloc (.cells #[.int .i64 mx, .int .i64 my, .int .i64 mw, .int .i64 mh, .int .i64 sn] 96)
        have st2 := st2.alloc (.cells #[.int .i64 mx, .int .i64 my, .int .i64 mw, .int .i64 mh, .int .i64 sn] 96)
        have ow2 := ow2.alloc (.cells #[.int .i64 mx, .int .i64 my, .int .i64 mw, .int .i64 mh, .int .i64 sn] 96)
        have bl2 := below_alloc bl2 (.cells #[.int .i64 mx, .int .i64 my, .int .i64 mw, .int .i64 mh, .int .i64 sn] 96)
        have hS0 : (fun w' : World => w'.cell? ⟨wr.heap.size, 0, none⟩ = some (.int .i64 3) ∧ w'.cell? ⟨wr.heap.size, 1, none⟩ = some (.int .i64 node) ∧ w'.cell? ⟨wr.heap.size, 2, none⟩ = some (.int .i64 x) ∧ w'.cell? ⟨wr.heap.size, 3, none⟩ = some (.int .i64 y) ∧ w'.cell? ⟨wr.heap.size, 4, none⟩ = some (.int .i64 cw) ∧ w'.cell? ⟨wr.heap.size, 5, none⟩ = some (.int .i64 ch) ∧ w'.cell? ⟨wr.heap.size, 6, none⟩ = some (.int .i64 color) ∧ w'.cell? ⟨wr.heap.size, 7, none⟩ = some (.int .i64 cn) ∧ w'.cell? ⟨wr.heap.size, 8, none⟩ = some (.string text) ∧ w'.cell? ⟨wr.heap.size + 1, 0, none⟩ = some (.int .i64 sx) ∧ w'.cell? ⟨wr.heap.size + 1, 1, none⟩ = some (.int .i64 sy) ∧ w'.cell? ⟨wr.heap.size + 1, 2, none⟩ = some (.int .i64 sw) ∧ w'.cell? ⟨wr.heap.size + 1, 3, none⟩ = some (.int .i64 sh) ∧ w'.cell? ⟨wr.heap.size + 1, 4, none⟩ = some (.int .i64 sn)) (w4.alloc (.cells #[.int .i64 mx, .int .i64 my, .int .i64 mw, .int .i64 mh, .int .i64 sn] 96)) := KEEP'.out _ b7 b8
        refine hK.out _ _ (fun _ => hS0) ?_
        clear hK K
        try simp only [Act.put, Array.toArray_toList, List.setIfInBounds_toArray, List.set_cons_zero, List.set_cons_succ]
        refine anyM_one (i := 10) (by kernel_rfl) rfl (fun K hK => ?_)
        refine step_append_lies _ (by rfl) _ _ _ (by rfl) w.heap.size 96 j0 _ 5 40 Try.underlying97 hj hy0 hy1 hy2 rfl (by decide) _ _ _ (by rfl) st2 ⟨w4.heap.size, 0, none⟩ 1 1 (stF ⟨mx, my, mw, mh, sn⟩) (by rfl) (by rfl) hcl (stF_one _) (by omega) (by unfold maxLen; omega) (by omega) (by exact bl2.size) (w4.heap.size + 1) (by simp) ?_
        intro gg cap1 w5 hst9 hgrow hat hlt5
        have b7 := blk_grown b7 hgrow (blk_ne b7 st2 (by decide))
        have b8 := blk_grown b8 hgrow (by simp [Value.ownBlock]; omega)
        have hbl := below_grownO bl2 st2 hgrow
        have ow2 := ow2.kept hgrow (own_far ow2 st2 (by decide))
        have hS0 : (fun w' : World => w'.cell? ⟨wr.heap.size, 0, none⟩ = some (.int .i64 3) ∧ w'.cell? ⟨wr.heap.size, 1, none⟩ = some (.int .i64 node) ∧ w'.cell? ⟨wr.heap.size, 2, none⟩ = some (.int .i64 x) ∧ w'.cell? ⟨wr.heap.size, 3, none⟩ = some (.int .i64 y) ∧ w'.cell? ⟨wr.heap.size, 4, none⟩ = some (.int .i64 cw) ∧ w'.cell? ⟨wr.heap.size, 5, none⟩ = some (.int .i64 ch) ∧ w'.cell? ⟨wr.heap.size, 6, none⟩ = some (.int .i64 color) ∧ w'.cell? ⟨wr.heap.size, 7, none⟩ = some (.int .i64 cn) ∧ w'.cell? ⟨wr.heap.size, 8, none⟩ = some (.string text) ∧ w'.cell? ⟨wr.heap.size + 1, 0, none⟩ = some (.int .i64 sx) ∧ w'.cell? ⟨wr.heap.size + 1, 1, none⟩ = some (.int .i64 sy) ∧ w'.cell? ⟨wr.heap.size + 1, 2, none⟩ = some (.int .i64 sw) ∧ w'.cell? ⟨wr.heap.size + 1, 3, none⟩ = some (.int .i64 sh) ∧ w'.cell? ⟨wr.heap.size + 1, 4, none⟩ = some (.int .i64 sn)) w5 := KEEP'.out _ b7 b8
        clear hat hgrow st2 bl2
        have bl2 := hbl
        clear hbl
        refine hK.out _ _ (fun _ => hS0) ?_
        clear hK K
        try simp only [Act.put, Array.toArray_toList, List.setIfInBounds_toArray, List.set_cons_zero, List.set_cons_succ]
        refine anyM_free (i := 11) (oi := { dst := some 4, op := _, type := _, pos := _, after := _, guard := _ }) (v := ?_) rfl (by kernel_rfl) (fun _ _ _ h => h) (Or.inl ⟨by kernel_rfl, ?_⟩) (fun _ => hS0) ?_
        rotate_left 1
        · (intro w hSw; (try dsimp only at hSw); go_simp; try with_reducible rfl)
        try simp only [Act.put, Array.toArray_toList, List.setIfInBounds_toArray, List.set_cons_zero, List.set_cons_succ]
        refine anyM_done (by kernel_rfl) ?_ _
        refine NoPanic.normal ?_
        have HB9 := Lib.hid bl2
        have HST9 := Lib.hid hst9
        have HO9 := Lib.hid ow2
        clear bl2 ow2 hst9 b7 b8 hS0
        go_wp2_with fail
        go_roundw
        case rel => exact ⟨k + 1, o ++ [⟨3, node, x, y, cw, ch, color, cn, text⟩], out, gg, cap1, by have := KK.out; omega, by go_num, by have := KK.out; have := HM.out; rw [List.length_append]; simp; omega, by have := KK.out; omega, by rw [← HTT.out, flatGo_open (Or.inl rfl)], by rw [List.length_append, ← HM.out]; rfl, by rw [List.length_append, ← HM.out, around_snoc, sts_snoc, HSTEP.out]; exact HST9.out, HO9.out, HB9.out⟩
        case measure => have := KK.out; simp [intOf]; omega
      have e3' : (d == 3) = false := by simpa using e3
      by_cases e4 : d = 4
      · subst e4
        have hdm := dim_mul sn cn HOK.out.n0 HOK.out.n1
        obtain ⟨p, hp⟩ : ∃ p, p = sn * min (max cn 0) 1000 := ⟨_, rfl⟩
        rw [← hp] at hdm
        obtain ⟨q, hq⟩ : ∃ q, q = p / 1000 := ⟨_, rfl⟩
        have m1 : IntKind.i64.wrap (sn * min (max cn 0) 1000) = p := by rw [← hp]; exact IntWalk.i64_in _ (by omega)
        have m3 : p.tdiv 1000 = q := by rw [hq]; exact Int.tdiv_eq_ediv_of_nonneg hdm.1
        have m2 : IntKind.i64.wrap q = q := IntWalk.i64_in _ (by omega)
        have m4 : p / 1000 = q := hq.symm
        have HSTEP : Hid (stepSt (foldSt o) ⟨4, node, x, y, cw, ch, color, cn, text⟩ = ⟨sx, sy, sw, sh, q⟩) := by
          show _ = _
          rw [← HS.out, hq, hp]
          rfl
        clear hp hq
        go_wp2_with fail
        have b7 := B7.out
        have b8 := B8.out
        have st2 := HST2.out
        have ow2 := HO2.out
        have bl2 := HB2.out
        generalize hw2 : World.alloc (World.alloc wr _) _ = w2 at b7 b8 st2 ow2 bl2 ⊢
        have hz2 := b8.lt
        have KEEP : ∀ w' : World, Blk w' wr.heap.size 48 #[.int .i64 4, .int .i64 node, .int .i64 x, .int .i64 y, .int .i64 cw, .int .i64 ch, .int .i64 color, .int .i64 cn, .string text] → Blk w' (wr.heap.size + 1) 96 #[.int .i64 sx, .int .i64 sy, .int .i64 sw, .int .i64 sh, .int .i64 sn] → w'.cell? ⟨wr.heap.size, 0, none⟩ = some (.int .i64 4) ∧ w'.cell? ⟨wr.heap.size, 1, none⟩ = some (.int .i64 node) ∧ w'.cell? ⟨wr.heap.size, 2, none⟩ = some (.int .i64 x) ∧ w'.cell? ⟨wr.heap.size, 3, none⟩ = some (.int .i64 y) ∧ w'.cell? ⟨wr.heap.size, 4, none⟩ = some (.int .i64 cw) ∧ w'.cell? ⟨wr.heap.size, 5, none⟩ = some (.int .i64 ch) ∧ w'.cell? ⟨wr.heap.size, 6, none⟩ = some (.int .i64 color) ∧ w'.cell? ⟨wr.heap.size, 7, none⟩ = some (.int .i64 cn) ∧ w'.cell? ⟨wr.heap.size, 8, none⟩ = some (.string text) ∧ w'.cell? ⟨wr.heap.size + 1, 0, none⟩ = some (.int .i64 sx) ∧ w'.cell? ⟨wr.heap.size + 1, 1, none⟩ = some (.int .i64 sy) ∧ w'.cell? ⟨wr.heap.size + 1, 2, none⟩ = some (.int .i64 sw) ∧ w'.cell? ⟨wr.heap.size + 1, 3, none⟩ = some (.int .i64 sh) ∧ w'.cell? ⟨wr.heap.size + 1, 4, none⟩ = some (.int .i64 sn) := fun w' h1 h2 => ⟨h1.cell 0, h1.cell 1, h1.cell 2, h1.cell 3, h1.cell 4, h1.cell 5, h1.cell 6, h1.cell 7, h1.cell 8, h2.cell 0, h2.cell 1, h2.cell 2, h2.cell 3, h2.cell 4⟩
        have KEEP' := Lib.hid KEEP
        have b7 := b7.drew
        have b8 := b8.drew
        have st2 : w2.drew.ownsRow _ _ _ _ _ _ := st2
        have ow2 : w2.drew.ownsRow _ _ _ _ _ _ := ow2
        have bl2 := bl2.drew
        have hS0 : (fun w' : World => w'.cell? ⟨wr.heap.size, 0, none⟩ = some (.int .i64 4) ∧ w'.cell? ⟨wr.heap.size, 1, none⟩ = some (.int .i64 node) ∧ w'.cell? ⟨wr.heap.size, 2, none⟩ = some (.int .i64 x) ∧ w'.cell? ⟨wr.heap.size, 3, none⟩ = some (.int .i64 y) ∧ w'.cell? ⟨wr.heap.size, 4, none⟩ = some (.int .i64 cw) ∧ w'.cell? ⟨wr.heap.size, 5, none⟩ = some (.int .i64 ch) ∧ w'.cell? ⟨wr.heap.size, 6, none⟩ = some (.int .i64 color) ∧ w'.cell? ⟨wr.heap.size, 7, none⟩ = some (.int .i64 cn) ∧ w'.cell? ⟨wr.heap.size, 8, none⟩ = some (.string text) ∧ w'.cell? ⟨wr.heap.size + 1, 0, none⟩ = some (.int .i64 sx) ∧ w'.cell? ⟨wr.heap.size + 1, 1, none⟩ = some (.int .i64 sy) ∧ w'.cell? ⟨wr.heap.size + 1, 2, none⟩ = some (.int .i64 sw) ∧ w'.cell? ⟨wr.heap.size + 1, 3, none⟩ = some (.int .i64 sh) ∧ w'.cell? ⟨wr.heap.size + 1, 4, none⟩ = some (.int .i64 sn)) w2.drew := KEEP'.out _ b7 b8
        clear hw2 KEEP
        refine wp_region_noPanic ?_
        refine region_M (S := fun w' => w'.cell? ⟨wr.heap.size, 0, none⟩ = some (.int .i64 4) ∧ w'.cell? ⟨wr.heap.size, 1, none⟩ = some (.int .i64 node) ∧ w'.cell? ⟨wr.heap.size, 2, none⟩ = some (.int .i64 x) ∧ w'.cell? ⟨wr.heap.size, 3, none⟩ = some (.int .i64 y) ∧ w'.cell? ⟨wr.heap.size, 4, none⟩ = some (.int .i64 cw) ∧ w'.cell? ⟨wr.heap.size, 5, none⟩ = some (.int .i64 ch) ∧ w'.cell? ⟨wr.heap.size, 6, none⟩ = some (.int .i64 color) ∧ w'.cell? ⟨wr.heap.size, 7, none⟩ = some (.int .i64 cn) ∧ w'.cell? ⟨wr.heap.size, 8, none⟩ = some (.string text) ∧ w'.cell? ⟨wr.heap.size + 1, 0, none⟩ = some (.int .i64 sx) ∧ w'.cell? ⟨wr.heap.size + 1, 1, none⟩ = some (.int .i64 sy) ∧ w'.cell? ⟨wr.heap.size + 1, 2, none⟩ = some (.int .i64 sw) ∧ w'.cell? ⟨wr.heap.size + 1, 3, none⟩ = some (.int .i64 sh) ∧ w'.cell? ⟨wr.heap.size + 1, 4, none⟩ = some (.int .i64 sn)) (T := []) (by kernel_rfl) ?_
        refine anyM_free (i := 0) (oi := { dst := some 53, op := _, type := _, pos := _, after := _, guard := _ }) (v := ?_) rfl (by kernel_rfl) (fun _ _ _ h => h) (Or.inl ⟨by kernel_rfl, ?_⟩) (fun _ => hS0) ?_
        rotate_left 1
        · (intro w hSw; (try dsimp only at hSw); go_simp; try with_reducible rfl)
        try simp only [Act.put, Array.toArray_toList, List.setIfInBounds_toArray, List.set_cons_zero, List.set_cons_succ]
        refine anyM_free (i := 1) (oi := { dst := some 54, op := _, type := _, pos := _, after := _, guard := _ }) (v := ?_) rfl (by kernel_rfl) (fun _ _ _ h => h) (Or.inl ⟨by kernel_rfl, ?_⟩) (fun _ => hS0) ?_
        rotate_left 1
        · (intro w hSw; (try dsimp only at hSw); go_simp; try with_reducible rfl)
        try simp only [Act.put, Array.toArray_toList, List.setIfInBounds_toArray, List.set_cons_zero, List.set_cons_succ]
        refine anyM_take (i := 2) (oi := { dst := some 55, op := _, type := _, pos := _, after := _, guard := _ }) (v := ?_) rfl (by kernel_rfl) (fun _ _ _ h => h) (Or.inl ⟨by kernel_rfl, ?_⟩) hS0 ?_
        rotate_left 1
        · (intro w hSw; (try dsimp only at hSw); go_simp; try with_reducible rfl)
        try simp only [Act.put, Array.toArray_toList, List.setIfInBounds_toArray, List.set_cons_zero, List.set_cons_succ]
        refine anyM_free (i := 3) (oi := { dst := some 56, op := _, type := _, pos := _, after := _, guard := _ }) (v := ?_) rfl (by kernel_rfl) (fun _ _ _ h => h) (Or.inl ⟨by kernel_rfl, ?_⟩) (fun _ => hS0) ?_
        rotate_left 1
        · (intro w hSw; (try dsimp only at hSw); go_simp; try with_reducible rfl)
        try simp only [Act.put, Array.toArray_toList, List.setIfInBounds_toArray, List.set_cons_zero, List.set_cons_succ]
        refine anyM_take (i := 4) (oi := { dst := some 57, op := _, type := _, pos := _, after := _, guard := _ }) (v := ?_) rfl (by kernel_rfl) (fun _ _ _ h => h) (Or.inl ⟨by kernel_rfl, ?_⟩) hS0 ?_
        rotate_left 1
        · (intro w hSw; (try dsimp only at hSw); go_simp; try with_reducible rfl)
        try simp only [Act.put, Array.toArray_toList, List.setIfInBounds_toArray, List.set_cons_zero, List.set_cons_succ]
        refine anyM_free (i := 5) (oi := { dst := some 58, op := _, type := _, pos := _, after := _, guard := _ }) (v := ?_) rfl (by kernel_rfl) (fun _ _ _ h => h) (Or.inl ⟨by kernel_rfl, ?_⟩) (fun _ => hS0) ?_
        rotate_left 1
        · (intro w hSw; (try dsimp only at hSw); go_simp; try with_reducible rfl)
        try simp only [Act.put, Array.toArray_toList, List.setIfInBounds_toArray, List.set_cons_zero, List.set_cons_succ]
        refine anyM_take (i := 6) (oi := { dst := some 59, op := _, type := _, pos := _, after := _, guard := _ }) (v := ?_) rfl (by kernel_rfl) (fun _ _ _ h => h) (Or.inl ⟨by kernel_rfl, ?_⟩) hS0 ?_
        rotate_left 1
        · (intro w hSw; (try dsimp only at hSw); go_simp; try with_reducible rfl)
        try simp only [Act.put, Array.toArray_toList, List.setIfInBounds_toArray, List.set_cons_zero, List.set_cons_succ]
        refine anyM_one (i := 7) (by kernel_rfl) rfl (fun K hK => ?_)
        go_simp
        refine (rpart_any _ _).mono ?_
        rintro e w4' ⟨rfl, rfl⟩
        refine hK.out _ _ (fun _ => hS0) ?_
        clear hK K
        try simp only [Act.put, Array.toArray_toList, List.setIfInBounds_toArray, List.set_cons_zero, List.set_cons_succ]
        refine anyM_free (i := 8) (oi := { dst := some 61, op := _, type := _, pos := _, after := _, guard := _ }) (v := ?_) rfl (by kernel_rfl) (fun _ _ _ h => h) (Or.inl ⟨by kernel_rfl, ?_⟩) (fun _ => hS0) ?_
        rotate_left 1
        · (intro w hSw; (try dsimp only at hSw); go_simp; try with_reducible rfl)
        try simp only [Act.put, Array.toArray_toList, List.setIfInBounds_toArray, List.set_cons_zero, List.set_cons_succ]
        refine anyM_free (i := 9) (oi := { dst := some 62, op := _, type := _, pos := _, after := _, guard := _ }) (v := ?_) rfl (by kernel_rfl) (fun _ _ _ h => h) (Or.inl ⟨by kernel_rfl, ?_⟩) (fun _ => hS0) ?_
        rotate_left 1
        · (intro w hSw; (try dsimp only at hSw); go_simp; try with_reducible rfl)
        try simp only [Act.put, Array.toArray_toList, List.setIfInBounds_toArray, List.set_cons_zero, List.set_cons_succ]
        refine anyM_free (i := 10) (oi := { dst := some 63, op := _, type := _, pos := _, after := _, guard := _ }) (v := ?_) rfl (by kernel_rfl) (fun _ _ _ h => h) (Or.inl ⟨by kernel_rfl, ?_⟩) (fun _ => hS0) ?_
        rotate_left 1
        · (intro w hSw; (try dsimp only at hSw); go_simp; try with_reducible rfl)
        try simp only [Act.put, Array.toArray_toList, List.setIfInBounds_toArray, List.set_cons_zero, List.set_cons_succ]
        refine anyM_one (i := 11) (by kernel_rfl) rfl (fun K hK => ?_)
        go_simp
        have hcl := cells_at w2.drew (stF ⟨sx, sy, sw, sh, q⟩) 96 w2.drew.heap.size rfl
        have b7 := b7.alloc (.cells #[.int .i64 sx, .int .i64 sy, .int .i64 sw, .int .i64 sh, .int .i64 q] 96)
        have b8 := b8.alloc (.cells #[.int .i64 sx, .int .i64 sy, .int .i64 sw, .int .i64 sh, .int .i64 q] 96)
        have st2 := st2.alloc (.cells #[.int .i64 sx, .int .i64 sy, .int .i64 sw, .int .i64 sh, .int .i64 q] 96)
        have ow2 := ow2.alloc (.cells #[.int .i64 sx, .int .i64 sy, .int .i64 sw, .int .i64 sh, .int .i64 q] 96)
        have bl2 := below_alloc bl2 (.cells #[.int .i64 sx, .int .i64 sy, .int .i64 sw, .int .i64 sh, .int .i64 q] 96)
        have hS0 : (fun w' : World => w'.cell? ⟨wr.heap.size, 0, none⟩ = some (.int .i64 4) ∧ w'.cell? ⟨wr.heap.size, 1, none⟩ = some (.int .i64 node) ∧ w'.cell? ⟨wr.heap.size, 2, none⟩ = some (.int .i64 x) ∧ w'.cell? ⟨wr.heap.size, 3, none⟩ = some (.int .i64 y) ∧ w'.cell? ⟨wr.heap.size, 4, none⟩ = some (.int .i64 cw) ∧ w'.cell? ⟨wr.heap.size, 5, none⟩ = some (.int .i64 ch) ∧ w'.cell? ⟨wr.heap.size, 6, none⟩ = some (.int .i64 color) ∧ w'.cell? ⟨wr.heap.size, 7, none⟩ = some (.int .i64 cn) ∧ w'.cell? ⟨wr.heap.size, 8, none⟩ = some (.string text) ∧ w'.cell? ⟨wr.heap.size + 1, 0, none⟩ = some (.int .i64 sx) ∧ w'.cell? ⟨wr.heap.size + 1, 1, none⟩ = some (.int .i64 sy) ∧ w'.cell? ⟨wr.heap.size + 1, 2, none⟩ = some (.int .i64 sw) ∧ w'.cell? ⟨wr.heap.size + 1, 3, none⟩ = some (.int .i64 sh) ∧ w'.cell? ⟨wr.heap.size + 1, 4, none⟩ = some (.int .i64 sn)) (w2.drew.alloc (.cells #[.int .i64 sx, .int .i64 sy, .int .i64 sw, .int .i64 sh, .int .i64 q] 96)) := KEEP'.out _ b7 b8
        refine hK.out _ _ (fun _ => hS0) ?_
        clear hK K
        try simp only [Act.put, Array.toArray_toList, List.setIfInBounds_toArray, List.set_cons_zero, List.set_cons_succ]
        refine anyM_one (i := 12) (by kernel_rfl) rfl (fun K hK => ?_)
        refine step_append_lies _ (by rfl) _ _ _ (by rfl) w.heap.size 96 j0 _ 5 40 Try.underlying97 hj hy0 hy1 hy2 rfl (by decide) _ _ _ (by rfl) st2 ⟨w2.drew.heap.size, 0, none⟩ 1 1 (stF ⟨sx, sy, sw, sh, q⟩) (by rfl) (by rfl) hcl (stF_one _) (by omega) (by unfold maxLen; omega) (by omega) (by exact bl2.size) (w2.drew.heap.size + 1) (by simp) ?_
        intro gg cap1 w5 hst9 hgrow hat hlt5
        have b7 := blk_grown b7 hgrow (blk_ne b7 st2 (by decide))
        have b8 := blk_grown b8 hgrow (by simp [Value.ownBlock]; omega)
        have hbl := below_grownO bl2 st2 hgrow
        have ow2 := ow2.kept hgrow (own_far ow2 st2 (by decide))
        have hS0 : (fun w' : World => w'.cell? ⟨wr.heap.size, 0, none⟩ = some (.int .i64 4) ∧ w'.cell? ⟨wr.heap.size, 1, none⟩ = some (.int .i64 node) ∧ w'.cell? ⟨wr.heap.size, 2, none⟩ = some (.int .i64 x) ∧ w'.cell? ⟨wr.heap.size, 3, none⟩ = some (.int .i64 y) ∧ w'.cell? ⟨wr.heap.size, 4, none⟩ = some (.int .i64 cw) ∧ w'.cell? ⟨wr.heap.size, 5, none⟩ = some (.int .i64 ch) ∧ w'.cell? ⟨wr.heap.size, 6, none⟩ = some (.int .i64 color) ∧ w'.cell? ⟨wr.heap.size, 7, none⟩ = some (.int .i64 cn) ∧ w'.cell? ⟨wr.heap.size, 8, none⟩ = some (.string text) ∧ w'.cell? ⟨wr.heap.size + 1, 0, none⟩ = some (.int .i64 sx) ∧ w'.cell? ⟨wr.heap.size + 1, 1, none⟩ = some (.int .i64 sy) ∧ w'.cell? ⟨wr.heap.size + 1, 2, none⟩ = some (.int .i64 sw) ∧ w'.cell? ⟨wr.heap.size + 1, 3, none⟩ = some (.int .i64 sh) ∧ w'.cell? ⟨wr.heap.size + 1, 4, none⟩ = some (.int .i64 sn)) w5 := KEEP'.out _ b7 b8
        clear hat hgrow st2 bl2
        have bl2 := hbl
        clear hbl
        refine hK.out _ _ (fun _ => hS0) ?_
        clear hK K
        try simp only [Act.put, Array.toArray_toList, List.setIfInBounds_toArray, List.set_cons_zero, List.set_cons_succ]
        refine anyM_free (i := 13) (oi := { dst := some 4, op := _, type := _, pos := _, after := _, guard := _ }) (v := ?_) rfl (by kernel_rfl) (fun _ _ _ h => h) (Or.inl ⟨by kernel_rfl, ?_⟩) (fun _ => hS0) ?_
        rotate_left 1
        · (intro w hSw; (try dsimp only at hSw); go_simp; try with_reducible rfl)
        try simp only [Act.put, Array.toArray_toList, List.setIfInBounds_toArray, List.set_cons_zero, List.set_cons_succ]
        refine anyM_done (by kernel_rfl) ?_ _
        refine NoPanic.normal ?_
        have HB9 := Lib.hid bl2
        have HST9 := Lib.hid hst9
        have HO9 := Lib.hid ow2
        clear bl2 ow2 hst9 b7 b8 hS0 m1 m2 m3 m4
        go_wp2_with fail
        go_roundw
        case rel => exact ⟨k + 1, o ++ [⟨4, node, x, y, cw, ch, color, cn, text⟩], out, gg, cap1, by have := KK.out; omega, by go_num, by have := KK.out; have := HM.out; rw [List.length_append]; simp; omega, by have := KK.out; omega, by rw [← HTT.out, flatGo_open (Or.inr rfl)], by rw [List.length_append, ← HM.out]; rfl, by rw [List.length_append, ← HM.out, around_snoc, sts_snoc, HSTEP.out]; exact HST9.out, HO9.out, HB9.out⟩
        case measure => have := KK.out; simp [intOf]; omega
      have e4' : (d == 4) = false := by simpa using e4
      by_cases e5 : d = 5
      · subst e5
        by_cases hm0 : m = 0
        · subst hm0
          have HF := Lib.hid (show T = ([], 3) from by rw [← HTT.out, flatGo_end0 rfl HM.out.symm])
          rw [HF.out]
          go_wp2_with fail
          go_ret2
          exact ⟨_, rfl, World.ownsRow_nil _ _ _ _, HB2.out⟩
        · have hm2 : (((m : Int) + 1) == 1) = false := by simp; omega
          have hm3 : (0 : Int) ≤ (m : Int) := by omega
          have hcap := own_cap HST.out
          go_wp2_with fail
          have hst9 := own_cut (m := m) HST2.out (by omega)
          rw [sts_take] at hst9
          have HST9 := Lib.hid hst9
          clear hst9
          go_roundw
          case rel => exact ⟨k + 1, o.dropLast, out, g, cap, by have := KK.out; omega, by go_num, by have := KK.out; have := HM.out; rw [List.length_dropLast]; omega, by have := KK.out; omega, by rw [← HTT.out, flatGo_end rfl (by have := HM.out; omega)], by have := HM.out; rw [List.length_dropLast, show o.length - 1 + 1 = m from by omega], by have := HM.out; rw [List.length_dropLast, show o.length - 1 + 1 = m from by omega, around_drop o (by omega), ← this]; exact HST9.out, HO2.out, HB2.out⟩
          case measure => have := KK.out; simp [intOf]; omega
      · have e5' : (d == 5) = false := by simpa using e5
        have HF := Lib.hid (show T = ([], 7) from by rw [← HTT.out, flatGo_kind e1 e2 e3 e4 e5])
        rw [HF.out]
        go_wp2_with fail
        go_ret2
        exact ⟨_, rfl, World.ownsRow_nil _ _ _ _, HB2.out⟩
    · obtain rfl : k = n := by omega
      rw [List.drop_of_length_le (by rw [HN.out]; omega)] at hT
      have HO := Lib.hid hown
      have HB := Lib.hid hbel
      by_cases ho0 : o.length = 0
      · have HF := Lib.hid (show T = (out, 0) from by rw [← hT, flatGo_nil ho0])
        have hg1 : decide (1 < o.length + 1) = false := by simp [ho0]
        rw [ho0]
        clear hT hst hown hbel ho0
        go_wp2_with fail
        go_ret2
        rw [HF.out]
        exact ⟨_, rfl, HO.out, HB.out⟩
      · have HF := Lib.hid (show T = ([], 3) from by rw [← hT, flatGo_left ho0])
        obtain ⟨m, hm'⟩ : ∃ m, m = o.length := ⟨_, rfl⟩
        rw [← hm'] at ho0 ho ⊢
        have hg1 : (1 : Int) < (m : Int) + 1 := by omega
        clear hT hst hown hbel hm'
        go_wp2_with fail
        go_ret2
        rw [HF.out]
        exact ⟨_, rfl, World.ownsRow_nil _ _ _ _, HB.out⟩
end Go.Proofs.Ytkppignoomnmdaa
