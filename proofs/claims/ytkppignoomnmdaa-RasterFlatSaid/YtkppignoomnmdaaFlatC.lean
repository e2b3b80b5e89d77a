/- Contract of the reference's Flat. -/
import Derived.Test.YtkppignoomnmdaaFlatB
namespace Go.Proofs.Ytkppignoomnmdaa
open Go.RowKit
set_option linter.unusedVariables false
set_option linter.unusedSimpArgs false
attribute [local go_sem high] run_min2 run_max2

theorem cmds_len (l : List CmdV) : (cmds l).length = l.length * 9 := by
  induction l with
  | nil => rfl
  | cons s l ih => show (cmdF s ++ cmds l).length = _; rw [List.length_append, ih]; simp [cmdF]; omega
theorem own_not {w : World} {base b : Nat} {e : TypeId} {size n : Nat} {v : Value} {xs : List Value} (h : w.ownsRow base e size v n xs) (hb : b < base) : v.ownBlock ≠ some b := fun hh => by
  have := (h.lt b hh).1
  omega
theorem blk_cells {w : World} {g : Nat} {t : TypeId} {cs : List Value} (h : Blk w g t cs.toArray) : ∀ j u, cs[j]? = some u → w.cell? ((⟨g, 0, none⟩ : Addr).add j) = some u := by
  intro j u hj
  have e : (⟨g, 0, none⟩ : Addr).add j = ⟨g, j, none⟩ := by unfold Addr.add; split <;> simp_all
  rw [e, h.cell]
  simpa using hj
theorem cmds_one (l : List CmdV) : ∀ u ∈ cmds l, u.oneCell' = true := by
  intro u hu
  obtain ⟨c, _, hc⟩ := List.mem_flatMap.1 hu
  exact cmdF_one c u hc
set_option maxRecDepth 100000 in
set_option maxHeartbeats 1000000 in
theorem rcopy_calls (base n : Nat) (v : Value) (l : List CmdV) (w : World) (hn : l.length = n) (h : w.ownsRow base 48 9 v n (cmds l)) (hm : n ≤ 100) :
    Calls Try.prog 70 #[v] w fun e w' => ∃ v', e = .returned v' ∧ w'.ownsRow w.heap.size 48 9 v' n (cmds l) ∧ Below w.heap.size w w' := by
  obtain ⟨i0, hi, hz0, hz1, hz2⟩ := info_parts info_cmd
  rcases h.2 with ⟨rfl, rfl⟩ | ⟨g, cap, cur, rfl, hb, hh, h3, h4, h5, h6⟩
  · have hl : l = [] := by cases l <;> simp_all
    subst hl
    go_enter Try.func70, Try.ntmps70
    go_wp2_with fail
    go_ret
    exact ⟨_, rfl, World.ownsRow_nil _ _ _ _, Below.refl _ _⟩
  · have hcells := h.cells (g := g) rfl
    have HC := Lib.hid hcells
    have HL := Lib.hid (show (cmds l).length = n * 9 from by rw [cmds_len, hn])
    clear h hh h3 h4 h5 h6 hcells hn
    go_enter Try.func70, Try.ntmps70
    go_wp2_with (at_builtin; refine wpList_append_own _ rfl _ _ 49 rfl w.heap.size 48 i0 _ 9 80 Try.underlying49 hi hz0 hz1 hz2 rfl (by decide) (.slice none 0 0) 0 [] rfl (World.ownsRow_nil _ _ _ _) ⟨g, 0, none⟩ n _ (cmds l) rfl HL.out HC.out (cmds_one _) (by unfold maxLen; omega) (by omega) (Nat.le_refl _) ?_; intro v' w9 hown9 hg9 _)
    have hbel := (Below.refl w.heap.size w).grown hg9 (Nat.le_refl _) (fun k hk => by cases hk)
    have HO := Lib.hid (show w9.ownsRow w.heap.size 48 9 v' n (cmds l) from by simpa using hown9)
    clear hown9 hg9
    go_wp2_with fail
    go_ret
    exact ⟨_, rfl, HO.out, hbel⟩
theorem cmds_take : ∀ (l : List CmdV) (m : Nat), (cmds l).take (m * 9) = cmds (l.take m)
  | [], m => by simp [cmds]
  | s :: l, 0 => by simp [cmds]
  | s :: l, m + 1 => by
    have h := cmds_take l m
    show ((cmdF s) ++ cmds l).take ((m + 1) * 9) = cmdF s ++ cmds (l.take m)
    rw [List.take_append, show (cmdF s).length = 9 from rfl, show (m + 1) * 9 - 9 = m * 9 from by omega, List.take_of_length_le (by show 9 ≤ _; omega), h]
/-- The state of the loop behind k commands. -/
def RFlatRel (n : Nat) (l : List CmdV) (T : List DrawV × Int) (w : World) (v4 v5 i : Value) (wr : World) : Prop :=
  ∃ (k : Nat) (o : List CmdV) (out : List DrawV), k ≤ n ∧ i = .int .i64 k ∧ o.length ≤ k ∧ out.length ≤ k ∧ flatGo (l.drop k) o out = T ∧
    wr.ownsRow w.heap.size 48 9 v4 o.length (cmds o) ∧ wr.ownsRow w.heap.size 59 14 v5 out.length (draws out) ∧ Below w.heap.size w wr
/-- The state of the inner loop behind j of what is open. -/
def RInRel (m : Nat) (o : List CmdV) (d node x y cw ch color cn : Int) (text : ByteArray) (wr : World) (g : Nat) (i : Value) (w2 : World) : Prop :=
  ∃ (j : Nat) (s : StV), j ≤ m ∧ i = .int .i64 j ∧ s = foldSt (o.take j) ∧ Blk w2 g 59 #[.int .i64 d, .int .i64 node, .int .i64 x, .int .i64 y, .int .i64 cw, .int .i64 ch, .int .i64 color, .int .i64 cn, .string text, .int .i64 s.x, .int .i64 s.y, .int .i64 s.w, .int .i64 s.h, .int .i64 s.n] ∧ Below wr.heap.size wr w2
set_option maxRecDepth 100000 in
set_option maxHeartbeats 4000000 in
theorem rflat_calls (A : Option Addr) (n c B : Nat) (l : List CmdV) (w : World) (hn : l.length = n) (h : Holds w B A (cmds l)) (hm : n ≤ 100) (hB : B ≤ w.heap.size) :
    Calls Try.prog 32 #[.slice A n c] w (FlatPost (flatGo l [] []) w) := by
  obtain ⟨i0, hi, hz0, hz1, hz2⟩ := info_parts info_draw
  obtain ⟨j0, hj, hy0, hy1, hy2⟩ := info_parts info_cmd
  obtain ⟨T, hT⟩ : ∃ T, T = flatGo l [] [] := ⟨_, rfl⟩
  rw [← hT]
  have HT := Lib.hid hT
  have H := Lib.hid h
  have HN := Lib.hid hn
  clear h hn hT
  go_enter Try.func32, Try.ntmps32
  go_wp2_with fail
  go_loopw [4, 5, 13] (fun v4 v5 i wr => RFlatRel n l T w v4 v5 i wr) (fun _ _ i _ => n - (intOf i).toNat)
  case atStart => exact ⟨0, [], [], Nat.zero_le _, rfl, Nat.le_refl _, Nat.le_refl _, HT.out.symm, World.ownsRow_nil _ _ _ _, World.ownsRow_nil _ _ _ _, Below.refl _ _⟩
  case round =>
    obtain ⟨k, o, out, hk, rfl, ho, hout, hT, hop, hown, hbel⟩ := hrel
    have hw := hbel.size
    by_cases hlt : k < n
    · obtain ⟨b, off, rfl, hb, hc⟩ := (H.out.below hbel hB).flat (f := cmdF) 9 (fun _ => rfl) (by omega) CmdV.zero (by rw [HN.out]; exact hlt)
      rw [drop_at l CmdV.zero k (by rw [HN.out]; exact hlt)] at hT
      obtain ⟨⟨d, node, x, y, cw, ch, color, cn, text⟩, hx⟩ : ∃ x, x = l.getD k CmdV.zero := ⟨_, rfl⟩
      rw [← hx] at hc hT
      have c0 := hc 0 _ rfl
      have c1 := hc 1 _ rfl
      have c2 := hc 2 _ rfl
      have c3 := hc 3 _ rfl
      have c4 := hc 4 _ rfl
      have c5 := hc 5 _ rfl
      have c6 := hc 6 _ rfl
      have c7 := hc 7 _ rfl
      have c8 := hc 8 _ rfl
      simp only [Nat.add_zero] at c0
      obtain ⟨m, hm'⟩ : ∃ m, m = o.length := ⟨_, rfl⟩
      rw [← hm'] at hop ho
      have hm1 : m ≤ 100 := by omega
      obtain ⟨A4, c4', rfl⟩ := own_open hop
      obtain ⟨A5, c5', rfl⟩ := own_open hown
      have HOP := Lib.hid hop
      have HO := Lib.hid hown
      have HM := Lib.hid hm'
      have HTT := Lib.hid hT
      have KK := Lib.hid (show k ≤ n ∧ k < n ∧ m ≤ k from ⟨hk, hlt, ho⟩)
      have b7 := Blk.new wr 48 #[.int .i64 d, .int .i64 node, .int .i64 x, .int .i64 y, .int .i64 cw, .int .i64 ch, .int .i64 color, .int .i64 cn, .string text]
      have B7 := Lib.hid b7
      have HB2 := Lib.hid (below_alloc hbel (.cells #[.int .i64 d, .int .i64 node, .int .i64 x, .int .i64 y, .int .i64 cw, .int .i64 ch, .int .i64 color, .int .i64 cn, .string text] 48))
      have HO2 := Lib.hid (hown.alloc (.cells #[.int .i64 d, .int .i64 node, .int .i64 x, .int .i64 y, .int .i64 cw, .int .i64 ch, .int .i64 color, .int .i64 cn, .string text] 48))
      have HOP2 := Lib.hid (hop.alloc (.cells #[.int .i64 d, .int .i64 node, .int .i64 x, .int .i64 y, .int .i64 cw, .int .i64 ch, .int .i64 color, .int .i64 cn, .string text] 48))
      clear hc hx hop hown hm' hT b7
      by_cases e1 : d = 1
      · subst e1
        obtain ⟨wo, rfl⟩ : ∃ wo : World, wo = wr := ⟨_, rfl⟩
        go_wp2_with fail
        go_loopw [27] (fun i wr => RInRel m o 1 node x y cw ch color cn text wo (wo.heap.size + 1) i wr) (fun i _ => m - (intOf i).toNat)
        case atStart =>
          have hD := Blk.new (wo.alloc (.cells #[.int .i64 1, .int .i64 node, .int .i64 x, .int .i64 y, .int .i64 cw, .int .i64 ch, .int .i64 color, .int .i64 cn, .string text] 48)) 59 #[.int .i64 1, .int .i64 node, .int .i64 x, .int .i64 y, .int .i64 cw, .int .i64 ch, .int .i64 color, .int .i64 cn, .string text, .int .i64 (-16777216), .int .i64 (-16777216), .int .i64 33554432, .int .i64 33554432, .int .i64 1000]
          simp only [alloc_size] at hD
          exact ⟨0, wholeSt, Nat.zero_le _, rfl, rfl, hD, below_alloc (below_alloc (Below.refl _ wo) _) _⟩
        case round =>
          obtain ⟨j, s, hj', rfl, hs, hD, hb2⟩ := hrel
          have hw2 := hb2.size
          have hok := fold_ok (o.take j)
          rw [← hs] at hok
          obtain ⟨sx, sy, sw, sh, sn⟩ := s
          simp only at hD
          have HSS := Lib.hid hs
          clear hs
          by_cases hjm : j < m
          · obtain ⟨b', off', rfl, hb', hc'⟩ := ((Holds.of_own HOP.out).below hb2 (Nat.le_refl _)).flat (f := cmdF) 9 (fun _ => rfl) (by omega) CmdV.zero (by rw [← HM.out]; exact hjm)
            have hsn := take_snoc o CmdV.zero j (by rw [← HM.out]; exact hjm)
            obtain ⟨⟨d2, node2, x2, y2, cw2, ch2, color2, cn2, text2⟩, hx2⟩ : ∃ x, x = o.getD j CmdV.zero := ⟨_, rfl⟩
            rw [← hx2] at hc' hsn
            have q0 := hc' 0 _ rfl
            have q1 := hc' 1 _ rfl
            have q2 := hc' 2 _ rfl
            have q3 := hc' 3 _ rfl
            have q4 := hc' 4 _ rfl
            have q5 := hc' 5 _ rfl
            have q6 := hc' 6 _ rfl
            have q7 := hc' 7 _ rfl
            have q8 := hc' 8 _ rfl
            simp only [Nat.add_zero] at q0
            have HSN := Lib.hid hsn
            have HOK := Lib.hid hok
            have JJ := Lib.hid (show j ≤ m ∧ j < m from ⟨hj', hjm⟩)
            have hX := Blk.new wr 48 #[.int .i64 d2, .int .i64 node2, .int .i64 x2, .int .i64 y2, .int .i64 cw2, .int .i64 ch2, .int .i64 color2, .int .i64 cn2, .string text2]
            have hD := hD.alloc (.cells #[.int .i64 d2, .int .i64 node2, .int .i64 x2, .int .i64 y2, .int .i64 cw2, .int .i64 ch2, .int .i64 color2, .int .i64 cn2, .string text2] 48)
            have hb3 := below_alloc hb2 (.cells #[.int .i64 d2, .int .i64 node2, .int .i64 x2, .int .i64 y2, .int .i64 cw2, .int .i64 ch2, .int .i64 color2, .int .i64 cn2, .string text2] 48)
            clear hc' hx2 hsn hok c0 c1 c2 c3 c4 c5 c6 c7 c8
            have t0 : (wr.alloc (.cells #[.int .i64 d2, .int .i64 node2, .int .i64 x2, .int .i64 y2, .int .i64 cw2, .int .i64 ch2, .int .i64 color2, .int .i64 cn2, .string text2] 48)).cell? ⟨wr.heap.size, 0, none⟩ = some (.int .i64 d2) := hX.cell 0
            by_cases g3 : d2 = 3
            · subst g3
              obtain ⟨⟨mx, my, mw, mh, mn⟩, hM⟩ : ∃ M, M = meetSt ⟨sx, sy, sw, sh, sn⟩ (cut x2) (cut y2) (cut cw2) (cut ch2) := ⟨_, rfl⟩
              have hmt := fun w => rmeets_calls ⟨sx, sy, sw, sh, sn⟩ (cut x2) (cut y2) (cut cw2) (cut ch2) w HOK.out (cut_lo _) (cut_hi _) (cut_lo _) (cut_hi _) (cut_lo _) (cut_hi _) (cut_lo _) (cut_hi _)
              rw [← hM] at hmt
              have HMT := Lib.hid hmt
              have HSTEP : Hid (stepSt ⟨sx, sy, sw, sh, sn⟩ ⟨3, node2, x2, y2, cw2, ch2, color2, cn2, text2⟩ = ⟨mx, my, mw, mh, sn⟩) := by
                have h1 := meetSt_n ⟨sx, sy, sw, sh, sn⟩ (cut x2) (cut y2) (cut cw2) (cut ch2)
                rw [← hM] at h1
                show _ = _
                unfold stepSt
                rw [if_pos rfl]
                show meetSt _ _ _ _ _ = _
                rw [← hM, show mn = sn from h1]
              clear hM hmt
              go_wp2_with fail
              generalize hw3 : World.alloc wr _ = w3 at hX hD hb3 t0 ⊢
              have KEEP : ∀ w' : World, Blk w' (wo.heap.size + 1) 59 #[.int .i64 1, .int .i64 node, .int .i64 x, .int .i64 y, .int .i64 cw, .int .i64 ch, .int .i64 color, .int .i64 cn, .string text, .int .i64 sx, .int .i64 sy, .int .i64 sw, .int .i64 sh, .int .i64 sn] → Blk w' wr.heap.size 48 #[.int .i64 3, .int .i64 node2, .int .i64 x2, .int .i64 y2, .int .i64 cw2, .int .i64 ch2, .int .i64 color2, .int .i64 cn2, .string text2] → w'.cell? ⟨wo.heap.size + 1, 9, none⟩ = some (.int .i64 sx) ∧ w'.cell? ⟨wo.heap.size + 1, 10, none⟩ = some (.int .i64 sy) ∧ w'.cell? ⟨wo.heap.size + 1, 11, none⟩ = some (.int .i64 sw) ∧ w'.cell? ⟨wo.heap.size + 1, 12, none⟩ = some (.int .i64 sh) ∧ w'.cell? ⟨wr.heap.size, 0, none⟩ = some (.int .i64 3) ∧ w'.cell? ⟨wr.heap.size, 1, none⟩ = some (.int .i64 node2) ∧ w'.cell? ⟨wr.heap.size, 2, none⟩ = some (.int .i64 x2) ∧ w'.cell? ⟨wr.heap.size, 3, none⟩ = some (.int .i64 y2) ∧ w'.cell? ⟨wr.heap.size, 4, none⟩ = some (.int .i64 cw2) ∧ w'.cell? ⟨wr.heap.size, 5, none⟩ = some (.int .i64 ch2) ∧ w'.cell? ⟨wr.heap.size, 6, none⟩ = some (.int .i64 color2) ∧ w'.cell? ⟨wr.heap.size, 7, none⟩ = some (.int .i64 cn2) ∧ w'.cell? ⟨wr.heap.size, 8, none⟩ = some (.string text2) := fun w' h1 h2 => ⟨h1.cell 9, h1.cell 10, h1.cell 11, h1.cell 12, h2.cell 0, h2.cell 1, h2.cell 2, h2.cell 3, h2.cell 4, h2.cell 5, h2.cell 6, h2.cell 7, h2.cell 8⟩
              have KEEP' := Lib.hid KEEP
              have hX := hX.drew
              have hD := hD.drew
              have hb3 := hb3.drew
              have hS0 : (fun w' : World => w'.cell? ⟨wo.heap.size + 1, 9, none⟩ = some (.int .i64 sx) ∧ w'.cell? ⟨wo.heap.size + 1, 10, none⟩ = some (.int .i64 sy) ∧ w'.cell? ⟨wo.heap.size + 1, 11, none⟩ = some (.int .i64 sw) ∧ w'.cell? ⟨wo.heap.size + 1, 12, none⟩ = some (.int .i64 sh) ∧ w'.cell? ⟨wr.heap.size, 0, none⟩ = some (.int .i64 3) ∧ w'.cell? ⟨wr.heap.size, 1, none⟩ = some (.int .i64 node2) ∧ w'.cell? ⟨wr.heap.size, 2, none⟩ = some (.int .i64 x2) ∧ w'.cell? ⟨wr.heap.size, 3, none⟩ = some (.int .i64 y2) ∧ w'.cell? ⟨wr.heap.size, 4, none⟩ = some (.int .i64 cw2) ∧ w'.cell? ⟨wr.heap.size, 5, none⟩ = some (.int .i64 ch2) ∧ w'.cell? ⟨wr.heap.size, 6, none⟩ = some (.int .i64 color2) ∧ w'.cell? ⟨wr.heap.size, 7, none⟩ = some (.int .i64 cn2) ∧ w'.cell? ⟨wr.heap.size, 8, none⟩ = some (.string text2)) w3.drew := KEEP'.out _ hD hX
              clear hw3 KEEP t0 q0 q1 q2 q3 q4 q5 q6 q7 q8
              refine wp_region_noPanic ?_
              refine region_M (S := fun w' => w'.cell? ⟨wo.heap.size + 1, 9, none⟩ = some (.int .i64 sx) ∧ w'.cell? ⟨wo.heap.size + 1, 10, none⟩ = some (.int .i64 sy) ∧ w'.cell? ⟨wo.heap.size + 1, 11, none⟩ = some (.int .i64 sw) ∧ w'.cell? ⟨wo.heap.size + 1, 12, none⟩ = some (.int .i64 sh) ∧ w'.cell? ⟨wr.heap.size, 0, none⟩ = some (.int .i64 3) ∧ w'.cell? ⟨wr.heap.size, 1, none⟩ = some (.int .i64 node2) ∧ w'.cell? ⟨wr.heap.size, 2, none⟩ = some (.int .i64 x2) ∧ w'.cell? ⟨wr.heap.size, 3, none⟩ = some (.int .i64 y2) ∧ w'.cell? ⟨wr.heap.size, 4, none⟩ = some (.int .i64 cw2) ∧ w'.cell? ⟨wr.heap.size, 5, none⟩ = some (.int .i64 ch2) ∧ w'.cell? ⟨wr.heap.size, 6, none⟩ = some (.int .i64 color2) ∧ w'.cell? ⟨wr.heap.size, 7, none⟩ = some (.int .i64 cn2) ∧ w'.cell? ⟨wr.heap.size, 8, none⟩ = some (.string text2)) (T := [17]) (by kernel_rfl) ?_
              refine anyM_free (i := 0) (oi := { dst := some 34, op := _, type := _, pos := _, after := _, guard := _ }) (v := ?_) rfl (by kernel_rfl) (fun _ _ _ h => h) (Or.inl ⟨by kernel_rfl, ?_⟩) (fun _ => hS0) ?_
              rotate_left 1
              · (intro w hSw; (try dsimp only at hSw); go_simp; try with_reducible rfl)
              try simp only [Act.put, Array.toArray_toList, List.setIfInBounds_toArray, List.set_cons_zero, List.set_cons_succ]
              refine anyM_take (i := 1) (oi := { dst := some 35, op := _, type := _, pos := _, after := _, guard := _ }) (v := ?_) rfl (by kernel_rfl) (fun _ _ _ h => h) (Or.inl ⟨by kernel_rfl, ?_⟩) hS0 ?_
              rotate_left 1
              · (intro w hSw; (try dsimp only at hSw); go_simp; try with_reducible rfl)
              try simp only [Act.put, Array.toArray_toList, List.setIfInBounds_toArray, List.set_cons_zero, List.set_cons_succ]
              refine anyM_free (i := 2) (oi := { dst := some 36, op := _, type := _, pos := _, after := _, guard := _ }) (v := ?_) rfl (by kernel_rfl) (fun _ _ _ h => h) (Or.inl ⟨by kernel_rfl, ?_⟩) (fun _ => hS0) ?_
              rotate_left 1
              · (intro w hSw; (try dsimp only at hSw); go_simp; try with_reducible rfl)
              try simp only [Act.put, Array.toArray_toList, List.setIfInBounds_toArray, List.set_cons_zero, List.set_cons_succ]
              refine anyM_take (i := 3) (oi := { dst := some 37, op := _, type := _, pos := _, after := _, guard := _ }) (v := ?_) rfl (by kernel_rfl) (fun _ _ _ h => h) (Or.inl ⟨by kernel_rfl, ?_⟩) hS0 ?_
              rotate_left 1
              · (intro w hSw; (try dsimp only at hSw); go_simp; try with_reducible rfl)
              try simp only [Act.put, Array.toArray_toList, List.setIfInBounds_toArray, List.set_cons_zero, List.set_cons_succ]
              refine anyM_free (i := 5) (oi := { dst := some 39, op := _, type := _, pos := _, after := _, guard := _ }) (v := ?_) rfl (by kernel_rfl) (fun _ _ _ h => h) (Or.inl ⟨by kernel_rfl, ?_⟩) (fun _ => hS0) ?_
              rotate_left 1
              · (intro w hSw; (try dsimp only at hSw); go_simp; try with_reducible rfl)
              try simp only [Act.put, Array.toArray_toList, List.setIfInBounds_toArray, List.set_cons_zero, List.set_cons_succ]
              refine anyM_take (i := 6) (oi := { dst := some 40, op := _, type := _, pos := _, after := _, guard := _ }) (v := ?_) rfl (by kernel_rfl) (fun _ _ _ h => h) (Or.inl ⟨by kernel_rfl, ?_⟩) hS0 ?_
              rotate_left 1
              · (intro w hSw; (try dsimp only at hSw); go_simp; try with_reducible rfl)
              try simp only [Act.put, Array.toArray_toList, List.setIfInBounds_toArray, List.set_cons_zero, List.set_cons_succ]
              refine anyM_free (i := 8) (oi := { dst := some 42, op := _, type := _, pos := _, after := _, guard := _ }) (v := ?_) rfl (by kernel_rfl) (fun _ _ _ h => h) (Or.inl ⟨by kernel_rfl, ?_⟩) (fun _ => hS0) ?_
              rotate_left 1
              · (intro w hSw; (try dsimp only at hSw); go_simp; try with_reducible rfl)
              try simp only [Act.put, Array.toArray_toList, List.setIfInBounds_toArray, List.set_cons_zero, List.set_cons_succ]
              refine anyM_take (i := 9) (oi := { dst := some 43, op := _, type := _, pos := _, after := _, guard := _ }) (v := ?_) rfl (by kernel_rfl) (fun _ _ _ h => h) (Or.inl ⟨by kernel_rfl, ?_⟩) hS0 ?_
              rotate_left 1
              · (intro w hSw; (try dsimp only at hSw); go_simp; try with_reducible rfl)
              try simp only [Act.put, Array.toArray_toList, List.setIfInBounds_toArray, List.set_cons_zero, List.set_cons_succ]
              refine anyM_free (i := 11) (oi := { dst := some 45, op := _, type := _, pos := _, after := _, guard := _ }) (v := ?_) rfl (by kernel_rfl) (fun _ _ _ h => h) (Or.inl ⟨by kernel_rfl, ?_⟩) (fun _ => hS0) ?_
              rotate_left 1
              · (intro w hSw; (try dsimp only at hSw); go_simp; try with_reducible rfl)
              try simp only [Act.put, Array.toArray_toList, List.setIfInBounds_toArray, List.set_cons_zero, List.set_cons_succ]
              refine anyM_take (i := 12) (oi := { dst := some 46, op := _, type := _, pos := _, after := _, guard := _ }) (v := ?_) rfl (by kernel_rfl) (fun _ _ _ h => h) (Or.inl ⟨by kernel_rfl, ?_⟩) hS0 ?_
              rotate_left 1
              · (intro w hSw; (try dsimp only at hSw); go_simp; try with_reducible rfl)
              try simp only [Act.put, Array.toArray_toList, List.setIfInBounds_toArray, List.set_cons_zero, List.set_cons_succ]
              refine anyM_one (i := 4) (by kernel_rfl) rfl (fun K hK => ?_)
              go_simp
              refine (rcut_calls _ _).mono ?_
              rintro e w' ⟨rfl, rfl⟩
              refine hK.out _ _ (fun _ => hS0) ?_
              clear hK K
              try simp only [Act.put, Array.toArray_toList, List.setIfInBounds_toArray, List.set_cons_zero, List.set_cons_succ]
              refine anyM_one (i := 7) (by kernel_rfl) rfl (fun K hK => ?_)
              go_simp
              refine (rcut_calls _ _).mono ?_
              rintro e w' ⟨rfl, rfl⟩
              refine hK.out _ _ (fun _ => hS0) ?_
              clear hK K
              try simp only [Act.put, Array.toArray_toList, List.setIfInBounds_toArray, List.set_cons_zero, List.set_cons_succ]
              refine anyM_one (i := 10) (by kernel_rfl) rfl (fun K hK => ?_)
              go_simp
              refine (rcut_calls _ _).mono ?_
              rintro e w' ⟨rfl, rfl⟩
              refine hK.out _ _ (fun _ => hS0) ?_
              clear hK K
              try simp only [Act.put, Array.toArray_toList, List.setIfInBounds_toArray, List.set_cons_zero, List.set_cons_succ]
              refine anyM_one (i := 13) (by kernel_rfl) rfl (fun K hK => ?_)
              go_simp
              refine (rcut_calls _ _).mono ?_
              rintro e w' ⟨rfl, rfl⟩
              refine hK.out _ _ (fun _ => hS0) ?_
              clear hK K
              try simp only [Act.put, Array.toArray_toList, List.setIfInBounds_toArray, List.set_cons_zero, List.set_cons_succ]
              refine anyM_free (i := 14) (oi := { dst := some 48, op := _, type := _, pos := _, after := _, guard := _ }) (v := ?_) rfl (by kernel_rfl) (fun _ _ _ h => h) (Or.inl ⟨by kernel_rfl, ?_⟩) (fun _ => hS0) ?_
              rotate_left 1
              · (intro w hSw; (try dsimp only at hSw); go_simp; try with_reducible rfl)
              try simp only [Act.put, Array.toArray_toList, List.setIfInBounds_toArray, List.set_cons_zero, List.set_cons_succ]
              refine anyM_one (i := 15) (by kernel_rfl) rfl (fun K hK => ?_)
              go_simp
              refine (HMT.out _).mono ?_
              rintro e w4 ⟨rfl, hb4⟩
              have hD := hD.below hb4 hD.lt
              have hX := hX.below hb4 hX.lt
              have hb3 := below_then hb3 hb4
              have hS0 : (fun w' : World => w'.cell? ⟨wo.heap.size + 1, 9, none⟩ = some (.int .i64 sx) ∧ w'.cell? ⟨wo.heap.size + 1, 10, none⟩ = some (.int .i64 sy) ∧ w'.cell? ⟨wo.heap.size + 1, 11, none⟩ = some (.int .i64 sw) ∧ w'.cell? ⟨wo.heap.size + 1, 12, none⟩ = some (.int .i64 sh) ∧ w'.cell? ⟨wr.heap.size, 0, none⟩ = some (.int .i64 3) ∧ w'.cell? ⟨wr.heap.size, 1, none⟩ = some (.int .i64 node2) ∧ w'.cell? ⟨wr.heap.size, 2, none⟩ = some (.int .i64 x2) ∧ w'.cell? ⟨wr.heap.size, 3, none⟩ = some (.int .i64 y2) ∧ w'.cell? ⟨wr.heap.size, 4, none⟩ = some (.int .i64 cw2) ∧ w'.cell? ⟨wr.heap.size, 5, none⟩ = some (.int .i64 ch2) ∧ w'.cell? ⟨wr.heap.size, 6, none⟩ = some (.int .i64 color2) ∧ w'.cell? ⟨wr.heap.size, 7, none⟩ = some (.int .i64 cn2) ∧ w'.cell? ⟨wr.heap.size, 8, none⟩ = some (.string text2)) w4 := KEEP'.out _ hD hX
              have f9 := hD.free 9
              have f10 := hD.free 10
              have f11 := hD.free 11
              have f12 := hD.free 12
              refine hK.out _ _ (fun _ => hS0) ?_
              clear hK K
              try simp only [Act.put, Array.toArray_toList, List.setIfInBounds_toArray, List.set_cons_zero, List.set_cons_succ]
              refine anyM_free (i := 16) (oi := { dst := some 50, op := _, type := _, pos := _, after := _, guard := _ }) (v := ?_) rfl (by kernel_rfl) (fun _ _ _ h => h) (Or.inl ⟨by kernel_rfl, ?_⟩) (fun _ => hS0) ?_
              rotate_left 1
              · (intro w hSw; (try dsimp only at hSw); go_simp; try with_reducible rfl)
              try simp only [Act.put, Array.toArray_toList, List.setIfInBounds_toArray, List.set_cons_zero, List.set_cons_succ]
              refine anyM_one (i := 17) (by kernel_rfl) rfl (fun K hK => ?_)
              go_simp
              refine hK.out _ _ (fun h => late_no h (by kernel_rfl)) ?_
              clear hK K
              try simp only [Act.put, Array.toArray_toList, List.setIfInBounds_toArray, List.set_cons_zero, List.set_cons_succ]
              refine anyM_done (by kernel_rfl) ?_ _
              refine NoPanic.normal ?_
              have HD9 := Lib.hid ((((hD.stored 9 (.int .i64 mx)).stored 10 (.int .i64 my)).stored 11 (.int .i64 mw)).stored 12 (.int .i64 mh))
              have HB9 := Lib.hid (below_set (below_set (below_set (below_set hb3 (b := wo.heap.size + 1) (off := 9) (by omega) (.int .i64 mx)) (b := wo.heap.size + 1) (off := 10) (by omega) (.int .i64 my)) (b := wo.heap.size + 1) (off := 11) (by omega) (.int .i64 mw)) (b := wo.heap.size + 1) (off := 12) (by omega) (.int .i64 mh))
              clear hD hX hb3 hS0 f9 f10 f11 f12
              go_wp2_with fail
              go_roundw
              case rel => exact ⟨j + 1, ⟨mx, my, mw, mh, sn⟩, by have := JJ.out; omega, by go_num, by rw [HSN.out, fold_snoc, ← HSS.out, HSTEP.out], HD9.out, HB9.out⟩
              case measure => have := JJ.out; simp [intOf]; omega
            · have g3' : (d2 == 3) = false := by simpa using g3
              have hdm := dim_mul sn cn2 HOK.out.n0 HOK.out.n1
              obtain ⟨p, hp⟩ : ∃ p, p = sn * min (max cn2 0) 1000 := ⟨_, rfl⟩
              rw [← hp] at hdm
              obtain ⟨q, hq⟩ : ∃ q, q = p / 1000 := ⟨_, rfl⟩
              have m1 : IntKind.i64.wrap (sn * min (max cn2 0) 1000) = p := by rw [← hp]; exact IntWalk.i64_in _ (by omega)
              have m1' : wrap64 (sn * min (max cn2 0) 1000) = p := by rw [← hp]; exact IntWalk.wrap64_in _ (by omega)
              have m3 : p.tdiv 1000 = q := by rw [hq]; exact Int.tdiv_eq_ediv_of_nonneg hdm.1
              have m2 : IntKind.i64.wrap q = q := IntWalk.i64_in _ (by omega)
              have m2' : wrap64 q = q := IntWalk.wrap64_in _ (by omega)
              have m4 : p / 1000 = q := hq.symm
              have HSTEP : Hid (stepSt ⟨sx, sy, sw, sh, sn⟩ ⟨d2, node2, x2, y2, cw2, ch2, color2, cn2, text2⟩ = ⟨sx, sy, sw, sh, q⟩) := by
                show _ = _
                unfold stepSt
                rw [if_neg g3, hq, hp]
                rfl
              have t7 : (wr.alloc (.cells #[.int .i64 d2, .int .i64 node2, .int .i64 x2, .int .i64 y2, .int .i64 cw2, .int .i64 ch2, .int .i64 color2, .int .i64 cn2, .string text2] 48)).cell? ⟨wr.heap.size, 7, none⟩ = some (.int .i64 cn2) := hX.cell 7
              have t13 : (wr.alloc (.cells #[.int .i64 d2, .int .i64 node2, .int .i64 x2, .int .i64 y2, .int .i64 cw2, .int .i64 ch2, .int .i64 color2, .int .i64 cn2, .string text2] 48)).cell? ⟨wo.heap.size + 1, 13, none⟩ = some (.int .i64 sn) := hD.cell 13
              have f13 := hD.free 13
              clear hp hq
              go_wp2_with fail
              have HD9 := Lib.hid (hD.stored 13 (.int .i64 q))
              have HB9 := Lib.hid (below_set hb3 (b := wo.heap.size + 1) (off := 13) (by omega) (.int .i64 q))
              clear hD hX hb3 t0 t7 t13 f13 m1 m2 m3 m4 m1' m2'
              go_roundw
              case rel => exact ⟨j + 1, ⟨sx, sy, sw, sh, q⟩, by have := JJ.out; omega, by go_num, by rw [HSN.out, fold_snoc, ← HSS.out, HSTEP.out], HD9.out, HB9.out⟩
              case measure => have := JJ.out; simp [intOf]; omega
          · obtain rfl : j = m := by omega
            have HF : Hid (foldSt o = ⟨sx, sy, sw, sh, sn⟩) := by
              show _ = _
              rw [HSS.out, List.take_of_length_le (by rw [← HM.out]; exact Nat.le_refl _)]
            have r0 : wr.cell? ⟨wo.heap.size + 1, 0, none⟩ = some (.int .i64 1) := hD.cell 0
            have r1 : wr.cell? ⟨wo.heap.size + 1, 1, none⟩ = some (.int .i64 node) := hD.cell 1
            have r2 : wr.cell? ⟨wo.heap.size + 1, 2, none⟩ = some (.int .i64 x) := hD.cell 2
            have r3 : wr.cell? ⟨wo.heap.size + 1, 3, none⟩ = some (.int .i64 y) := hD.cell 3
            have r4 : wr.cell? ⟨wo.heap.size + 1, 4, none⟩ = some (.int .i64 cw) := hD.cell 4
            have r5 : wr.cell? ⟨wo.heap.size + 1, 5, none⟩ = some (.int .i64 ch) := hD.cell 5
            have r6 : wr.cell? ⟨wo.heap.size + 1, 6, none⟩ = some (.int .i64 color) := hD.cell 6
            have r7 : wr.cell? ⟨wo.heap.size + 1, 7, none⟩ = some (.int .i64 cn) := hD.cell 7
            have r8 : wr.cell? ⟨wo.heap.size + 1, 8, none⟩ = some (.string text) := hD.cell 8
            have r9 : wr.cell? ⟨wo.heap.size + 1, 9, none⟩ = some (.int .i64 sx) := hD.cell 9
            have r10 : wr.cell? ⟨wo.heap.size + 1, 10, none⟩ = some (.int .i64 sy) := hD.cell 10
            have r11 : wr.cell? ⟨wo.heap.size + 1, 11, none⟩ = some (.int .i64 sw) := hD.cell 11
            have r12 : wr.cell? ⟨wo.heap.size + 1, 12, none⟩ = some (.int .i64 sh) := hD.cell 12
            have r13 : wr.cell? ⟨wo.heap.size + 1, 13, none⟩ = some (.int .i64 sn) := hD.cell 13
            have ow2 := own_below HO.out hb2
            have op2 := own_below HOP.out hb2
            have bl2 := below_then hbel hb2
            have hsz2 := bl2.size
            clear hD hok
            go_wp2_with (at_builtin; refine wpList_append_own _ rfl _ _ 52 rfl w.heap.size 59 i0 _ 14 120 Try.underlying52 hi hz0 hz1 hz2 rfl (by decide) _ _ _ rfl (ow2.alloc _) ⟨wr.heap.size, 0, none⟩ 1 1 (drawF ⟨⟨1, node, x, y, cw, ch, color, cn, text⟩, ⟨sx, sy, sw, sh, sn⟩⟩) rfl rfl (cells_at _ _ _ _ rfl) (drawF_one _) (by unfold maxLen; omega) (by omega) (by simp; omega) ?_; intro v' w9 hown9 hg9 _)
            have hb9 := below_grownO (below_alloc bl2 _) ow2 hg9
            have hst9 := (op2.alloc _).kept hg9 (own_far op2 ow2 (by decide))
            have HB9 := Lib.hid hb9
            have HST9 := Lib.hid hst9
            have HO9 := Lib.hid hown9
            clear hb9 hst9 hown9 hg9
            go_roundw
            case rel => exact ⟨k + 1, o, out ++ [⟨⟨1, node, x, y, cw, ch, color, cn, text⟩, ⟨sx, sy, sw, sh, sn⟩⟩], by have := KK.out; omega, by go_num, by have := KK.out; have := HM.out; omega, by rw [List.length_append]; simp; omega, by rw [← HTT.out, flatGo_draw (Or.inl rfl), HF.out], by rw [← HM.out]; exact HST9.out, by rw [draws_snoc, List.length_append]; exact HO9.out, HB9.out⟩
            case measure => have := KK.out; simp [intOf]; omega
      by_cases e2 : d = 2
      · subst e2
        obtain ⟨wo, rfl⟩ : ∃ wo : World, wo = wr := ⟨_, rfl⟩
        go_wp2_with fail
        go_loopw [27] (fun i wr => RInRel m o 2 node x y cw ch color cn text wo (wo.heap.size + 1) i wr) (fun i _ => m - (intOf i).toNat)
        case atStart =>
          have hD := Blk.new (wo.alloc (.cells #[.int .i64 2, .int .i64 node, .int .i64 x, .int .i64 y, .int .i64 cw, .int .i64 ch, .int .i64 color, .int .i64 cn, .string text] 48)) 59 #[.int .i64 2, .int .i64 node, .int .i64 x, .int .i64 y, .int .i64 cw, .int .i64 ch, .int .i64 color, .int .i64 cn, .string text, .int .i64 (-16777216), .int .i64 (-16777216), .int .i64 33554432, .int .i64 33554432, .int .i64 1000]
          simp only [alloc_size] at hD
          exact ⟨0, wholeSt, Nat.zero_le _, rfl, rfl, hD, below_alloc (below_alloc (Below.refl _ wo) _) _⟩
        case round =>
          obtain ⟨j, s, hj', rfl, hs, hD, hb2⟩ := hrel
          have hw2 := hb2.size
          have hok := fold_ok (o.take j)
          rw [← hs] at hok
          obtain ⟨sx, sy, sw, sh, sn⟩ := s
          simp only at hD
          have HSS := Lib.hid hs
          clear hs
          by_cases hjm : j < m
          · obtain ⟨b', off', rfl, hb', hc'⟩ := ((Holds.of_own HOP.out).below hb2 (Nat.le_refl _)).flat (f := cmdF) 9 (fun _ => rfl) (by omega) CmdV.zero (by rw [← HM.out]; exact hjm)
            have hsn := take_snoc o CmdV.zero j (by rw [← HM.out]; exact hjm)
            obtain ⟨⟨d2, node2, x2, y2, cw2, ch2, color2, cn2, text2⟩, hx2⟩ : ∃ x, x = o.getD j CmdV.zero := ⟨_, rfl⟩
            rw [← hx2] at hc' hsn
            have q0 := hc' 0 _ rfl
            have q1 := hc' 1 _ rfl
            have q2 := hc' 2 _ rfl
            have q3 := hc' 3 _ rfl
            have q4 := hc' 4 _ rfl
            have q5 := hc' 5 _ rfl
            have q6 := hc' 6 _ rfl
            have q7 := hc' 7 _ rfl
            have q8 := hc' 8 _ rfl
            simp only [Nat.add_zero] at q0
            have HSN := Lib.hid hsn
            have HOK := Lib.hid hok
            have JJ := Lib.hid (show j ≤ m ∧ j < m from ⟨hj', hjm⟩)
            have hX := Blk.new wr 48 #[.int .i64 d2, .int .i64 node2, .int .i64 x2, .int .i64 y2, .int .i64 cw2, .int .i64 ch2, .int .i64 color2, .int .i64 cn2, .string text2]
            have hD := hD.alloc (.cells #[.int .i64 d2, .int .i64 node2, .int .i64 x2, .int .i64 y2, .int .i64 cw2, .int .i64 ch2, .int .i64 color2, .int .i64 cn2, .string text2] 48)
            have hb3 := below_alloc hb2 (.cells #[.int .i64 d2, .int .i64 node2, .int .i64 x2, .int .i64 y2, .int .i64 cw2, .int .i64 ch2, .int .i64 color2, .int .i64 cn2, .string text2] 48)
            clear hc' hx2 hsn hok c0 c1 c2 c3 c4 c5 c6 c7 c8
            have t0 : (wr.alloc (.cells #[.int .i64 d2, .int .i64 node2, .int .i64 x2, .int .i64 y2, .int .i64 cw2, .int .i64 ch2, .int .i64 color2, .int .i64 cn2, .string text2] 48)).cell? ⟨wr.heap.size, 0, none⟩ = some (.int .i64 d2) := hX.cell 0
            by_cases g3 : d2 = 3
            · subst g3
              obtain ⟨⟨mx, my, mw, mh, mn⟩, hM⟩ : ∃ M, M = meetSt ⟨sx, sy, sw, sh, sn⟩ (cut x2) (cut y2) (cut cw2) (cut ch2) := ⟨_, rfl⟩
              have hmt := fun w => rmeets_calls ⟨sx, sy, sw, sh, sn⟩ (cut x2) (cut y2) (cut cw2) (cut ch2) w HOK.out (cut_lo _) (cut_hi _) (cut_lo _) (cut_hi _) (cut_lo _) (cut_hi _) (cut_lo _) (cut_hi _)
              rw [← hM] at hmt
              have HMT := Lib.hid hmt
              have HSTEP : Hid (stepSt ⟨sx, sy, sw, sh, sn⟩ ⟨3, node2, x2, y2, cw2, ch2, color2, cn2, text2⟩ = ⟨mx, my, mw, mh, sn⟩) := by
                have h1 := meetSt_n ⟨sx, sy, sw, sh, sn⟩ (cut x2) (cut y2) (cut cw2) (cut ch2)
                rw [← hM] at h1
                show _ = _
                unfold stepSt
                rw [if_pos rfl]
                show meetSt _ _ _ _ _ = _
                rw [← hM, show mn = sn from h1]
              clear hM hmt
              go_wp2_with fail
              generalize hw3 : World.alloc wr _ = w3 at hX hD hb3 t0 ⊢
              have KEEP : ∀ w' : World, Blk w' (wo.heap.size + 1) 59 #[.int .i64 2, .int .i64 node, .int .i64 x, .int .i64 y, .int .i64 cw, .int .i64 ch, .int .i64 color, .int .i64 cn, .string text, .int .i64 sx, .int .i64 sy, .int .i64 sw, .int .i64 sh, .int .i64 sn] → Blk w' wr.heap.size 48 #[.int .i64 3, .int .i64 node2, .int .i64 x2, .int .i64 y2, .int .i64 cw2, .int .i64 ch2, .int .i64 color2, .int .i64 cn2, .string text2] → w'.cell? ⟨wo.heap.size + 1, 9, none⟩ = some (.int .i64 sx) ∧ w'.cell? ⟨wo.heap.size + 1, 10, none⟩ = some (.int .i64 sy) ∧ w'.cell? ⟨wo.heap.size + 1, 11, none⟩ = some (.int .i64 sw) ∧ w'.cell? ⟨wo.heap.size + 1, 12, none⟩ = some (.int .i64 sh) ∧ w'.cell? ⟨wr.heap.size, 0, none⟩ = some (.int .i64 3) ∧ w'.cell? ⟨wr.heap.size, 1, none⟩ = some (.int .i64 node2) ∧ w'.cell? ⟨wr.heap.size, 2, none⟩ = some (.int .i64 x2) ∧ w'.cell? ⟨wr.heap.size, 3, none⟩ = some (.int .i64 y2) ∧ w'.cell? ⟨wr.heap.size, 4, none⟩ = some (.int .i64 cw2) ∧ w'.cell? ⟨wr.heap.size, 5, none⟩ = some (.int .i64 ch2) ∧ w'.cell? ⟨wr.heap.size, 6, none⟩ = some (.int .i64 color2) ∧ w'.cell? ⟨wr.heap.size, 7, none⟩ = some (.int .i64 cn2) ∧ w'.cell? ⟨wr.heap.size, 8, none⟩ = some (.string text2) := fun w' h1 h2 => ⟨h1.cell 9, h1.cell 10, h1.cell 11, h1.cell 12, h2.cell 0, h2.cell 1, h2.cell 2, h2.cell 3, h2.cell 4, h2.cell 5, h2.cell 6, h2.cell 7, h2.cell 8⟩
              have KEEP' := Lib.hid KEEP
              have hX := hX.drew
              have hD := hD.drew
              have hb3 := hb3.drew
              have hS0 : (fun w' : World => w'.cell? ⟨wo.heap.size + 1, 9, none⟩ = some (.int .i64 sx) ∧ w'.cell? ⟨wo.heap.size + 1, 10, none⟩ = some (.int .i64 sy) ∧ w'.cell? ⟨wo.heap.size + 1, 11, none⟩ = some (.int .i64 sw) ∧ w'.cell? ⟨wo.heap.size + 1, 12, none⟩ = some (.int .i64 sh) ∧ w'.cell? ⟨wr.heap.size, 0, none⟩ = some (.int .i64 3) ∧ w'.cell? ⟨wr.heap.size, 1, none⟩ = some (.int .i64 node2) ∧ w'.cell? ⟨wr.heap.size, 2, none⟩ = some (.int .i64 x2) ∧ w'.cell? ⟨wr.heap.size, 3, none⟩ = some (.int .i64 y2) ∧ w'.cell? ⟨wr.heap.size, 4, none⟩ = some (.int .i64 cw2) ∧ w'.cell? ⟨wr.heap.size, 5, none⟩ = some (.int .i64 ch2) ∧ w'.cell? ⟨wr.heap.size, 6, none⟩ = some (.int .i64 color2) ∧ w'.cell? ⟨wr.heap.size, 7, none⟩ = some (.int .i64 cn2) ∧ w'.cell? ⟨wr.heap.size, 8, none⟩ = some (.string text2)) w3.drew := KEEP'.out _ hD hX
              clear hw3 KEEP t0 q0 q1 q2 q3 q4 q5 q6 q7 q8
              refine wp_region_noPanic ?_
              refine region_M (S := fun w' => w'.cell? ⟨wo.heap.size + 1, 9, none⟩ = some (.int .i64 sx) ∧ w'.cell? ⟨wo.heap.size + 1, 10, none⟩ = some (.int .i64 sy) ∧ w'.cell? ⟨wo.heap.size + 1, 11, none⟩ = some (.int .i64 sw) ∧ w'.cell? ⟨wo.heap.size + 1, 12, none⟩ = some (.int .i64 sh) ∧ w'.cell? ⟨wr.heap.size, 0, none⟩ = some (.int .i64 3) ∧ w'.cell? ⟨wr.heap.size, 1, none⟩ = some (.int .i64 node2) ∧ w'.cell? ⟨wr.heap.size, 2, none⟩ = some (.int .i64 x2) ∧ w'.cell? ⟨wr.heap.size, 3, none⟩ = some (.int .i64 y2) ∧ w'.cell? ⟨wr.heap.size, 4, none⟩ = some (.int .i64 cw2) ∧ w'.cell? ⟨wr.heap.size, 5, none⟩ = some (.int .i64 ch2) ∧ w'.cell? ⟨wr.heap.size, 6, none⟩ = some (.int .i64 color2) ∧ w'.cell? ⟨wr.heap.size, 7, none⟩ = some (.int .i64 cn2) ∧ w'.cell? ⟨wr.heap.size, 8, none⟩ = some (.string text2)) (T := [17]) (by kernel_rfl) ?_
              refine anyM_free (i := 0) (oi := { dst := some 34, op := _, type := _, pos := _, after := _, guard := _ }) (v := ?_) rfl (by kernel_rfl) (fun _ _ _ h => h) (Or.inl ⟨by kernel_rfl, ?_⟩) (fun _ => hS0) ?_
              rotate_left 1
              · (intro w hSw; (try dsimp only at hSw); go_simp; try with_reducible rfl)
              try simp only [Act.put, Array.toArray_toList, List.setIfInBounds_toArray, List.set_cons_zero, List.set_cons_succ]
              refine anyM_take (i := 1) (oi := { dst := some 35, op := _, type := _, pos := _, after := _, guard := _ }) (v := ?_) rfl (by kernel_rfl) (fun _ _ _ h => h) (Or.inl ⟨by kernel_rfl, ?_⟩) hS0 ?_
              rotate_left 1
              · (intro w hSw; (try dsimp only at hSw); go_simp; try with_reducible rfl)
              try simp only [Act.put, Array.toArray_toList, List.setIfInBounds_toArray, List.set_cons_zero, List.set_cons_succ]
              refine anyM_free (i := 2) (oi := { dst := some 36, op := _, type := _, pos := _, after := _, guard := _ }) (v := ?_) rfl (by kernel_rfl) (fun _ _ _ h => h) (Or.inl ⟨by kernel_rfl, ?_⟩) (fun _ => hS0) ?_
              rotate_left 1
              · (intro w hSw; (try dsimp only at hSw); go_simp; try with_reducible rfl)
              try simp only [Act.put, Array.toArray_toList, List.setIfInBounds_toArray, List.set_cons_zero, List.set_cons_succ]
              refine anyM_take (i := 3) (oi := { dst := some 37, op := _, type := _, pos := _, after := _, guard := _ }) (v := ?_) rfl (by kernel_rfl) (fun _ _ _ h => h) (Or.inl ⟨by kernel_rfl, ?_⟩) hS0 ?_
              rotate_left 1
              · (intro w hSw; (try dsimp only at hSw); go_simp; try with_reducible rfl)
              try simp only [Act.put, Array.toArray_toList, List.setIfInBounds_toArray, List.set_cons_zero, List.set_cons_succ]
              refine anyM_free (i := 5) (oi := { dst := some 39, op := _, type := _, pos := _, after := _, guard := _ }) (v := ?_) rfl (by kernel_rfl) (fun _ _ _ h => h) (Or.inl ⟨by kernel_rfl, ?_⟩) (fun _ => hS0) ?_
              rotate_left 1
              · (intro w hSw; (try dsimp only at hSw); go_simp; try with_reducible rfl)
              try simp only [Act.put, Array.toArray_toList, List.setIfInBounds_toArray, List.set_cons_zero, List.set_cons_succ]
              refine anyM_take (i := 6) (oi := { dst := some 40, op := _, type := _, pos := _, after := _, guard := _ }) (v := ?_) rfl (by kernel_rfl) (fun _ _ _ h => h) (Or.inl ⟨by kernel_rfl, ?_⟩) hS0 ?_
              rotate_left 1
              · (intro w hSw; (try dsimp only at hSw); go_simp; try with_reducible rfl)
              try simp only [Act.put, Array.toArray_toList, List.setIfInBounds_toArray, List.set_cons_zero, List.set_cons_succ]
              refine anyM_free (i := 8) (oi := { dst := some 42, op := _, type := _, pos := _, after := _, guard := _ }) (v := ?_) rfl (by kernel_rfl) (fun _ _ _ h => h) (Or.inl ⟨by kernel_rfl, ?_⟩) (fun _ => hS0) ?_
              rotate_left 1
              · (intro w hSw; (try dsimp only at hSw); go_simp; try with_reducible rfl)
              try simp only [Act.put, Array.toArray_toList, List.setIfInBounds_toArray, List.set_cons_zero, List.set_cons_succ]
              refine anyM_take (i := 9) (oi := { dst := some 43, op := _, type := _, pos := _, after := _, guard := _ }) (v := ?_) rfl (by kernel_rfl) (fun _ _ _ h => h) (Or.inl ⟨by kernel_rfl, ?_⟩) hS0 ?_
              rotate_left 1
              · (intro w hSw; (try dsimp only at hSw); go_simp; try with_reducible rfl)
              try simp only [Act.put, Array.toArray_toList, List.setIfInBounds_toArray, List.set_cons_zero, List.set_cons_succ]
              refine anyM_free (i := 11) (oi := { dst := some 45, op := _, type := _, pos := _, after := _, guard := _ }) (v := ?_) rfl (by kernel_rfl) (fun _ _ _ h => h) (Or.inl ⟨by kernel_rfl, ?_⟩) (fun _ => hS0) ?_
              rotate_left 1
              · (intro w hSw; (try dsimp only at hSw); go_simp; try with_reducible rfl)
              try simp only [Act.put, Array.toArray_toList, List.setIfInBounds_toArray, List.set_cons_zero, List.set_cons_succ]
              refine anyM_take (i := 12) (oi := { dst := some 46, op := _, type := _, pos := _, after := _, guard := _ }) (v := ?_) rfl (by kernel_rfl) (fun _ _ _ h => h) (Or.inl ⟨by kernel_rfl, ?_⟩) hS0 ?_
              rotate_left 1
              · (intro w hSw; (try dsimp only at hSw); go_simp; try with_reducible rfl)
              try simp only [Act.put, Array.toArray_toList, List.setIfInBounds_toArray, List.set_cons_zero, List.set_cons_succ]
              refine anyM_one (i := 4) (by kernel_rfl) rfl (fun K hK => ?_)
              go_simp
              refine (rcut_calls _ _).mono ?_
              rintro e w' ⟨rfl, rfl⟩
              refine hK.out _ _ (fun _ => hS0) ?_
              clear hK K
              try simp only [Act.put, Array.toArray_toList, List.setIfInBounds_toArray, List.set_cons_zero, List.set_cons_succ]
              refine anyM_one (i := 7) (by kernel_rfl) rfl (fun K hK => ?_)
              go_simp
              refine (rcut_calls _ _).mono ?_
              rintro e w' ⟨rfl, rfl⟩
              refine hK.out _ _ (fun _ => hS0) ?_
              clear hK K
              try simp only [Act.put, Array.toArray_toList, List.setIfInBounds_toArray, List.set_cons_zero, List.set_cons_succ]
              refine anyM_one (i := 10) (by kernel_rfl) rfl (fun K hK => ?_)
              go_simp
              refine (rcut_calls _ _).mono ?_
              rintro e w' ⟨rfl, rfl⟩
              refine hK.out _ _ (fun _ => hS0) ?_
              clear hK K
              try simp only [Act.put, Array.toArray_toList, List.setIfInBounds_toArray, List.set_cons_zero, List.set_cons_succ]
              refine anyM_one (i := 13) (by kernel_rfl) rfl (fun K hK => ?_)
              go_simp
              refine (rcut_calls _ _).mono ?_
              rintro e w' ⟨rfl, rfl⟩
              refine hK.out _ _ (fun _ => hS0) ?_
              clear hK K
              try simp only [Act.put, Array.toArray_toList, List.setIfInBounds_toArray, List.set_cons_zero, List.set_cons_succ]
              refine anyM_free (i := 14) (oi := { dst := some 48, op := _, type := _, pos := _, after := _, guard := _ }) (v := ?_) rfl (by kernel_rfl) (fun _ _ _ h => h) (Or.inl ⟨by kernel_rfl, ?_⟩) (fun _ => hS0) ?_
              rotate_left 1
              · (intro w hSw; (try dsimp only at hSw); go_simp; try with_reducible rfl)
              try simp only [Act.put, Array.toArray_toList, List.setIfInBounds_toArray, List.set_cons_zero, List.set_cons_succ]
              refine anyM_one (i := 15) (by kernel_rfl) rfl (fun K hK => ?_)
              go_simp
              refine (HMT.out _).mono ?_
              rintro e w4 ⟨rfl, hb4⟩
              have hD := hD.below hb4 hD.lt
              have hX := hX.below hb4 hX.lt
              have hb3 := below_then hb3 hb4
              have hS0 : (fun w' : World => w'.cell? ⟨wo.heap.size + 1, 9, none⟩ = some (.int .i64 sx) ∧ w'.cell? ⟨wo.heap.size + 1, 10, none⟩ = some (.int .i64 sy) ∧ w'.cell? ⟨wo.heap.size + 1, 11, none⟩ = some (.int .i64 sw) ∧ w'.cell? ⟨wo.heap.size + 1, 12, none⟩ = some (.int .i64 sh) ∧ w'.cell? ⟨wr.heap.size, 0, none⟩ = some (.int .i64 3) ∧ w'.cell? ⟨wr.heap.size, 1, none⟩ = some (.int .i64 node2) ∧ w'.cell? ⟨wr.heap.size, 2, none⟩ = some (.int .i64 x2) ∧ w'.cell? ⟨wr.heap.size, 3, none⟩ = some (.int .i64 y2) ∧ w'.cell? ⟨wr.heap.size, 4, none⟩ = some (.int .i64 cw2) ∧ w'.cell? ⟨wr.heap.size, 5, none⟩ = some (.int .i64 ch2) ∧ w'.cell? ⟨wr.heap.size, 6, none⟩ = some (.int .i64 color2) ∧ w'.cell? ⟨wr.heap.size, 7, none⟩ = some (.int .i64 cn2) ∧ w'.cell? ⟨wr.heap.size, 8, none⟩ = some (.string text2)) w4 := KEEP'.out _ hD hX
              have f9 := hD.free 9
              have f10 := hD.free 10
              have f11 := hD.free 11
              have f12 := hD.free 12
              refine hK.out _ _ (fun _ => hS0) ?_
              clear hK K
              try simp only [Act.put, Array.toArray_toList, List.setIfInBounds_toArray, List.set_cons_zero, List.set_cons_succ]
              refine anyM_free (i := 16) (oi := { dst := some 50, op := _, type := _, pos := _, after := _, guard := _ }) (v := ?_) rfl (by kernel_rfl) (fun _ _ _ h => h) (Or.inl ⟨by kernel_rfl, ?_⟩) (fun _ => hS0) ?_
              rotate_left 1
              · (intro w hSw; (try dsimp only at hSw); go_simp; try with_reducible rfl)
              try simp only [Act.put, Array.toArray_toList, List.setIfInBounds_toArray, List.set_cons_zero, List.set_cons_succ]
              refine anyM_one (i := 17) (by kernel_rfl) rfl (fun K hK => ?_)
              go_simp
              refine hK.out _ _ (fun h => late_no h (by kernel_rfl)) ?_
              clear hK K
              try simp only [Act.put, Array.toArray_toList, List.setIfInBounds_toArray, List.set_cons_zero, List.set_cons_succ]
              refine anyM_done (by kernel_rfl) ?_ _
              refine NoPanic.normal ?_
              have HD9 := Lib.hid ((((hD.stored 9 (.int .i64 mx)).stored 10 (.int .i64 my)).stored 11 (.int .i64 mw)).stored 12 (.int .i64 mh))
              have HB9 := Lib.hid (below_set (below_set (below_set (below_set hb3 (b := wo.heap.size + 1) (off := 9) (by omega) (.int .i64 mx)) (b := wo.heap.size + 1) (off := 10) (by omega) (.int .i64 my)) (b := wo.heap.size + 1) (off := 11) (by omega) (.int .i64 mw)) (b := wo.heap.size + 1) (off := 12) (by omega) (.int .i64 mh))
              clear hD hX hb3 hS0 f9 f10 f11 f12
              go_wp2_with fail
              go_roundw
              case rel => exact ⟨j + 1, ⟨mx, my, mw, mh, sn⟩, by have := JJ.out; omega, by go_num, by rw [HSN.out, fold_snoc, ← HSS.out, HSTEP.out], HD9.out, HB9.out⟩
              case measure => have := JJ.out; simp [intOf]; omega
            · have g3' : (d2 == 3) = false := by simpa using g3
              have hdm := dim_mul sn cn2 HOK.out.n0 HOK.out.n1
              obtain ⟨p, hp⟩ : ∃ p, p = sn * min (max cn2 0) 1000 := ⟨_, rfl⟩
              rw [← hp] at hdm
              obtain ⟨q, hq⟩ : ∃ q, q = p / 1000 := ⟨_, rfl⟩
              have m1 : IntKind.i64.wrap (sn * min (max cn2 0) 1000) = p := by rw [← hp]; exact IntWalk.i64_in _ (by omega)
              have m1' : wrap64 (sn * min (max cn2 0) 1000) = p := by rw [← hp]; exact IntWalk.wrap64_in _ (by omega)
              have m3 : p.tdiv 1000 = q := by rw [hq]; exact Int.tdiv_eq_ediv_of_nonneg hdm.1
              have m2 : IntKind.i64.wrap q = q := IntWalk.i64_in _ (by omega)
              have m2' : wrap64 q = q := IntWalk.wrap64_in _ (by omega)
              have m4 : p / 1000 = q := hq.symm
              have HSTEP : Hid (stepSt ⟨sx, sy, sw, sh, sn⟩ ⟨d2, node2, x2, y2, cw2, ch2, color2, cn2, text2⟩ = ⟨sx, sy, sw, sh, q⟩) := by
                show _ = _
                unfold stepSt
                rw [if_neg g3, hq, hp]
                rfl
              have t7 : (wr.alloc (.cells #[.int .i64 d2, .int .i64 node2, .int .i64 x2, .int .i64 y2, .int .i64 cw2, .int .i64 ch2, .int .i64 color2, .int .i64 cn2, .string text2] 48)).cell? ⟨wr.heap.size, 7, none⟩ = some (.int .i64 cn2) := hX.cell 7
              have t13 : (wr.alloc (.cells #[.int .i64 d2, .int .i64 node2, .int .i64 x2, .int .i64 y2, .int .i64 cw2, .int .i64 ch2, .int .i64 color2, .int .i64 cn2, .string text2] 48)).cell? ⟨wo.heap.size + 1, 13, none⟩ = some (.int .i64 sn) := hD.cell 13
              have f13 := hD.free 13
              clear hp hq
              go_wp2_with fail
              have HD9 := Lib.hid (hD.stored 13 (.int .i64 q))
              have HB9 := Lib.hid (below_set hb3 (b := wo.heap.size + 1) (off := 13) (by omega) (.int .i64 q))
              clear hD hX hb3 t0 t7 t13 f13 m1 m2 m3 m4 m1' m2'
              go_roundw
              case rel => exact ⟨j + 1, ⟨sx, sy, sw, sh, q⟩, by have := JJ.out; omega, by go_num, by rw [HSN.out, fold_snoc, ← HSS.out, HSTEP.out], HD9.out, HB9.out⟩
              case measure => have := JJ.out; simp [intOf]; omega
          · obtain rfl : j = m := by omega
            have HF : Hid (foldSt o = ⟨sx, sy, sw, sh, sn⟩) := by
              show _ = _
              rw [HSS.out, List.take_of_length_le (by rw [← HM.out]; exact Nat.le_refl _)]
            have r0 : wr.cell? ⟨wo.heap.size + 1, 0, none⟩ = some (.int .i64 2) := hD.cell 0
            have r1 : wr.cell? ⟨wo.heap.size + 1, 1, none⟩ = some (.int .i64 node) := hD.cell 1
            have r2 : wr.cell? ⟨wo.heap.size + 1, 2, none⟩ = some (.int .i64 x) := hD.cell 2
            have r3 : wr.cell? ⟨wo.heap.size + 1, 3, none⟩ = some (.int .i64 y) := hD.cell 3
            have r4 : wr.cell? ⟨wo.heap.size + 1, 4, none⟩ = some (.int .i64 cw) := hD.cell 4
            have r5 : wr.cell? ⟨wo.heap.size + 1, 5, none⟩ = some (.int .i64 ch) := hD.cell 5
            have r6 : wr.cell? ⟨wo.heap.size + 1, 6, none⟩ = some (.int .i64 color) := hD.cell 6
            have r7 : wr.cell? ⟨wo.heap.size + 1, 7, none⟩ = some (.int .i64 cn) := hD.cell 7
            have r8 : wr.cell? ⟨wo.heap.size + 1, 8, none⟩ = some (.string text) := hD.cell 8
            have r9 : wr.cell? ⟨wo.heap.size + 1, 9, none⟩ = some (.int .i64 sx) := hD.cell 9
            have r10 : wr.cell? ⟨wo.heap.size + 1, 10, none⟩ = some (.int .i64 sy) := hD.cell 10
            have r11 : wr.cell? ⟨wo.heap.size + 1, 11, none⟩ = some (.int .i64 sw) := hD.cell 11
            have r12 : wr.cell? ⟨wo.heap.size + 1, 12, none⟩ = some (.int .i64 sh) := hD.cell 12
            have r13 : wr.cell? ⟨wo.heap.size + 1, 13, none⟩ = some (.int .i64 sn) := hD.cell 13
            have ow2 := own_below HO.out hb2
            have op2 := own_below HOP.out hb2
            have bl2 := below_then hbel hb2
            have hsz2 := bl2.size
            clear hD hok
            go_wp2_with (at_builtin; refine wpList_append_own _ rfl _ _ 52 rfl w.heap.size 59 i0 _ 14 120 Try.underlying52 hi hz0 hz1 hz2 rfl (by decide) _ _ _ rfl (ow2.alloc _) ⟨wr.heap.size, 0, none⟩ 1 1 (drawF ⟨⟨2, node, x, y, cw, ch, color, cn, text⟩, ⟨sx, sy, sw, sh, sn⟩⟩) rfl rfl (cells_at _ _ _ _ rfl) (drawF_one _) (by unfold maxLen; omega) (by omega) (by simp; omega) ?_; intro v' w9 hown9 hg9 _)
            have hb9 := below_grownO (below_alloc bl2 _) ow2 hg9
            have hst9 := (op2.alloc _).kept hg9 (own_far op2 ow2 (by decide))
            have HB9 := Lib.hid hb9
            have HST9 := Lib.hid hst9
            have HO9 := Lib.hid hown9
            clear hb9 hst9 hown9 hg9
            go_roundw
            case rel => exact ⟨k + 1, o, out ++ [⟨⟨2, node, x, y, cw, ch, color, cn, text⟩, ⟨sx, sy, sw, sh, sn⟩⟩], by have := KK.out; omega, by go_num, by have := KK.out; have := HM.out; omega, by rw [List.length_append]; simp; omega, by rw [← HTT.out, flatGo_draw (Or.inr rfl), HF.out], by rw [← HM.out]; exact HST9.out, by rw [draws_snoc, List.length_append]; exact HO9.out, HB9.out⟩
            case measure => have := KK.out; simp [intOf]; omega
      have e1' : (d == 1) = false := by simpa using e1
      have e2' : (d == 2) = false := by simpa using e2
      by_cases e3 : d = 3
      · subst e3
        have HCP := Lib.hid (fun v wz h => rcopy_calls w.heap.size m v o wz HM.out.symm h hm1)
        go_wp2_with fail
        have b7 := B7.out
        have op2 := HOP2.out
        have ow2 := HO2.out
        have bl2 := HB2.out
        generalize hw2 : World.alloc wr _ = w2 at b7 op2 ow2 bl2 ⊢
        have hz2 := b7.lt
        have KEEP : ∀ w' : World, Blk w' wr.heap.size 48 #[.int .i64 3, .int .i64 node, .int .i64 x, .int .i64 y, .int .i64 cw, .int .i64 ch, .int .i64 color, .int .i64 cn, .string text] → w'.cell? ⟨wr.heap.size, 0, none⟩ = some (.int .i64 3) ∧ w'.cell? ⟨wr.heap.size, 1, none⟩ = some (.int .i64 node) ∧ w'.cell? ⟨wr.heap.size, 2, none⟩ = some (.int .i64 x) ∧ w'.cell? ⟨wr.heap.size, 3, none⟩ = some (.int .i64 y) ∧ w'.cell? ⟨wr.heap.size, 4, none⟩ = some (.int .i64 cw) ∧ w'.cell? ⟨wr.heap.size, 5, none⟩ = some (.int .i64 ch) ∧ w'.cell? ⟨wr.heap.size, 6, none⟩ = some (.int .i64 color) ∧ w'.cell? ⟨wr.heap.size, 7, none⟩ = some (.int .i64 cn) ∧ w'.cell? ⟨wr.heap.size, 8, none⟩ = some (.string text) := fun w' h1 => ⟨h1.cell 0, h1.cell 1, h1.cell 2, h1.cell 3, h1.cell 4, h1.cell 5, h1.cell 6, h1.cell 7, h1.cell 8⟩
        have KEEP' := Lib.hid KEEP
        have b7 := b7.drew
        have op2 : w2.drew.ownsRow _ _ _ _ _ _ := op2
        have ow2 : w2.drew.ownsRow _ _ _ _ _ _ := ow2
        have bl2 := bl2.drew
        have bl2' := bl2
        have hS0 : (fun w' : World => w'.cell? ⟨wr.heap.size, 0, none⟩ = some (.int .i64 3) ∧ w'.cell? ⟨wr.heap.size, 1, none⟩ = some (.int .i64 node) ∧ w'.cell? ⟨wr.heap.size, 2, none⟩ = some (.int .i64 x) ∧ w'.cell? ⟨wr.heap.size, 3, none⟩ = some (.int .i64 y) ∧ w'.cell? ⟨wr.heap.size, 4, none⟩ = some (.int .i64 cw) ∧ w'.cell? ⟨wr.heap.size, 5, none⟩ = some (.int .i64 ch) ∧ w'.cell? ⟨wr.heap.size, 6, none⟩ = some (.int .i64 color) ∧ w'.cell? ⟨wr.heap.size, 7, none⟩ = some (.int .i64 cn) ∧ w'.cell? ⟨wr.heap.size, 8, none⟩ = some (.string text)) w2.drew := KEEP'.out _ b7
        clear hw2 KEEP
        refine wp_region_noPanic ?_
        refine region_M (S := fun w' => w'.cell? ⟨wr.heap.size, 0, none⟩ = some (.int .i64 3) ∧ w'.cell? ⟨wr.heap.size, 1, none⟩ = some (.int .i64 node) ∧ w'.cell? ⟨wr.heap.size, 2, none⟩ = some (.int .i64 x) ∧ w'.cell? ⟨wr.heap.size, 3, none⟩ = some (.int .i64 y) ∧ w'.cell? ⟨wr.heap.size, 4, none⟩ = some (.int .i64 cw) ∧ w'.cell? ⟨wr.heap.size, 5, none⟩ = some (.int .i64 ch) ∧ w'.cell? ⟨wr.heap.size, 6, none⟩ = some (.int .i64 color) ∧ w'.cell? ⟨wr.heap.size, 7, none⟩ = some (.int .i64 cn) ∧ w'.cell? ⟨wr.heap.size, 8, none⟩ = some (.string text)) (T := []) (by kernel_rfl) ?_
        refine anyM_free (i := 0) (oi := { dst := some 68, op := _, type := _, pos := _, after := _, guard := _ }) (v := ?_) rfl (by kernel_rfl) (fun _ _ _ h => h) (Or.inl ⟨by kernel_rfl, ?_⟩) (fun _ => hS0) ?_
        rotate_left 1
        · (intro w hSw; (try dsimp only at hSw); go_simp; try with_reducible rfl)
        try simp only [Act.put, Array.toArray_toList, List.setIfInBounds_toArray, List.set_cons_zero, List.set_cons_succ]
        refine anyM_take (i := 2) (oi := { dst := some 70, op := _, type := _, pos := _, after := _, guard := _ }) (v := ?_) rfl (by kernel_rfl) (fun _ _ _ h => h) (Or.inl ⟨by kernel_rfl, ?_⟩) hS0 ?_
        rotate_left 1
        · (intro w hSw; (try dsimp only at hSw); go_simp; try with_reducible rfl)
        try simp only [Act.put, Array.toArray_toList, List.setIfInBounds_toArray, List.set_cons_zero, List.set_cons_succ]
        refine anyM_two (i := 1) (j := 3) (by kernel_rfl) rfl rfl (fun K hK => ?_) (fun K hK => ?_)
        · skip
          go_simp
          refine (HCP.out _ _ op2).mono ?_
          rintro e w3 ⟨v3, rfl, hv3, hb3⟩
          obtain ⟨A3, c3', rfl⟩ := own_open hv3
          have hb7 := own_not (b := wr.heap.size) hv3 b7.lt
          have b7 := b7.below hb3 b7.lt
          have ow2 := own_below ow2 hb3
          have hv3 := own_base (base' := w.heap.size) hv3 bl2.size
          have bl2 := below_then bl2 hb3
          have hS0 : (fun w' : World => w'.cell? ⟨wr.heap.size, 0, none⟩ = some (.int .i64 3) ∧ w'.cell? ⟨wr.heap.size, 1, none⟩ = some (.int .i64 node) ∧ w'.cell? ⟨wr.heap.size, 2, none⟩ = some (.int .i64 x) ∧ w'.cell? ⟨wr.heap.size, 3, none⟩ = some (.int .i64 y) ∧ w'.cell? ⟨wr.heap.size, 4, none⟩ = some (.int .i64 cw) ∧ w'.cell? ⟨wr.heap.size, 5, none⟩ = some (.int .i64 ch) ∧ w'.cell? ⟨wr.heap.size, 6, none⟩ = some (.int .i64 color) ∧ w'.cell? ⟨wr.heap.size, 7, none⟩ = some (.int .i64 cn) ∧ w'.cell? ⟨wr.heap.size, 8, none⟩ = some (.string text)) w3 := KEEP'.out _ b7
          refine hK.out _ _ (fun _ => hS0) ?_
          clear hK K
          try simp only [Act.put, Array.toArray_toList, List.setIfInBounds_toArray, List.set_cons_zero, List.set_cons_succ]
          refine anyM_one (i := 3) (by kernel_rfl) rfl (fun K hK => ?_)
          go_simp
          have bx := Blk.new w3 48 #[.int .i64 3, .int .i64 node, .int .i64 x, .int .i64 y, .int .i64 cw, .int .i64 ch, .int .i64 color, .int .i64 cn, .string text]
          have b7 := b7.alloc (.cells #[.int .i64 3, .int .i64 node, .int .i64 x, .int .i64 y, .int .i64 cw, .int .i64 ch, .int .i64 color, .int .i64 cn, .string text] 48)
          have hv3 := hv3.alloc (.cells #[.int .i64 3, .int .i64 node, .int .i64 x, .int .i64 y, .int .i64 cw, .int .i64 ch, .int .i64 color, .int .i64 cn, .string text] 48)
          have ow2 := ow2.alloc (.cells #[.int .i64 3, .int .i64 node, .int .i64 x, .int .i64 y, .int .i64 cw, .int .i64 ch, .int .i64 color, .int .i64 cn, .string text] 48)
          have bl2 := below_alloc bl2 (.cells #[.int .i64 3, .int .i64 node, .int .i64 x, .int .i64 y, .int .i64 cw, .int .i64 ch, .int .i64 color, .int .i64 cn, .string text] 48)
          have hS0 : (fun w' : World => w'.cell? ⟨wr.heap.size, 0, none⟩ = some (.int .i64 3) ∧ w'.cell? ⟨wr.heap.size, 1, none⟩ = some (.int .i64 node) ∧ w'.cell? ⟨wr.heap.size, 2, none⟩ = some (.int .i64 x) ∧ w'.cell? ⟨wr.heap.size, 3, none⟩ = some (.int .i64 y) ∧ w'.cell? ⟨wr.heap.size, 4, none⟩ = some (.int .i64 cw) ∧ w'.cell? ⟨wr.heap.size, 5, none⟩ = some (.int .i64 ch) ∧ w'.cell? ⟨wr.heap.size, 6, none⟩ = some (.int .i64 color) ∧ w'.cell? ⟨wr.heap.size, 7, none⟩ = some (.int .i64 cn) ∧ w'.cell? ⟨wr.heap.size, 8, none⟩ = some (.string text)) (w3.alloc (.cells #[.int .i64 3, .int .i64 node, .int .i64 x, .int .i64 y, .int .i64 cw, .int .i64 ch, .int .i64 color, .int .i64 cn, .string text] 48)) := KEEP'.out _ b7
          refine hK.out _ _ (fun _ => hS0) ?_
          clear hK K
          try simp only [Act.put, Array.toArray_toList, List.setIfInBounds_toArray, List.set_cons_zero, List.set_cons_succ]
          refine anyM_one (i := 4) (by kernel_rfl) rfl (fun K hK => ?_)
          refine step_append_lies _ (by rfl) _ _ _ (by rfl) w.heap.size 48 j0 _ 9 80 Try.underlying49 hj hy0 hy1 hy2 rfl (by decide) _ _ _ (by rfl) hv3 ⟨w3.heap.size, 0, none⟩ 1 1 (cmdF ⟨3, node, x, y, cw, ch, color, cn, text⟩) (by rfl) (by rfl) (blk_cells bx) (cmdF_one _) (by omega) (by unfold maxLen; omega) (by omega) bl2.size _ rfl ?_
          intro gg cap1 w5 hst9 hgrow hat hlt5
          have b7 := blk_grown b7 hgrow hb7
          have hbl := below_grownO bl2 hv3 hgrow
          have ow2 := ow2.kept hgrow (own_far ow2 hv3 (by decide))
          have hS0 : (fun w' : World => w'.cell? ⟨wr.heap.size, 0, none⟩ = some (.int .i64 3) ∧ w'.cell? ⟨wr.heap.size, 1, none⟩ = some (.int .i64 node) ∧ w'.cell? ⟨wr.heap.size, 2, none⟩ = some (.int .i64 x) ∧ w'.cell? ⟨wr.heap.size, 3, none⟩ = some (.int .i64 y) ∧ w'.cell? ⟨wr.heap.size, 4, none⟩ = some (.int .i64 cw) ∧ w'.cell? ⟨wr.heap.size, 5, none⟩ = some (.int .i64 ch) ∧ w'.cell? ⟨wr.heap.size, 6, none⟩ = some (.int .i64 color) ∧ w'.cell? ⟨wr.heap.size, 7, none⟩ = some (.int .i64 cn) ∧ w'.cell? ⟨wr.heap.size, 8, none⟩ = some (.string text)) w5 := KEEP'.out _ b7
          clear hat hgrow hv3 bl2
          have bl2 := hbl
          clear hbl
          refine hK.out _ _ (fun _ => hS0) ?_
          clear hK K
          try simp only [Act.put, Array.toArray_toList, List.setIfInBounds_toArray, List.set_cons_zero, List.set_cons_succ]
          refine anyM_free (i := 5) (oi := { dst := some 4, op := _, type := _, pos := _, after := _, guard := _ }) (v := ?_) rfl (by kernel_rfl) (fun _ _ _ h => h) (Or.inl ⟨by kernel_rfl, ?_⟩) (fun _ => hS0) ?_
          rotate_left 1
          · (intro w hSw; (try dsimp only at hSw); go_simp; try with_reducible rfl)
          try simp only [Act.put, Array.toArray_toList, List.setIfInBounds_toArray, List.set_cons_zero, List.set_cons_succ]
          refine anyM_done (by kernel_rfl) ?_ _
          refine NoPanic.normal ?_
          have HB9 := Lib.hid bl2
          have HST9 := Lib.hid hst9
          have HO9 := Lib.hid ow2
          clear bl2 ow2 hst9 b7 bx hS0
          go_wp2_with fail
          go_roundw
          case rel => exact ⟨k + 1, o ++ [⟨3, node, x, y, cw, ch, color, cn, text⟩], out, by have := KK.out; omega, by go_num, by have := KK.out; have := HM.out; rw [List.length_append]; simp; omega, by have := KK.out; omega, by rw [← HTT.out, flatGo_open (Or.inl rfl)], by rw [List.length_append, ← HM.out, cmds_snoc]; exact HST9.out, HO9.out, HB9.out⟩
          case measure => have := KK.out; simp [intOf]; omega
        · skip
          go_simp
          have bx := Blk.new w2.drew 48 #[.int .i64 3, .int .i64 node, .int .i64 x, .int .i64 y, .int .i64 cw, .int .i64 ch, .int .i64 color, .int .i64 cn, .string text]
          have b7 := b7.alloc (.cells #[.int .i64 3, .int .i64 node, .int .i64 x, .int .i64 y, .int .i64 cw, .int .i64 ch, .int .i64 color, .int .i64 cn, .string text] 48)
          have op2 := op2.alloc (.cells #[.int .i64 3, .int .i64 node, .int .i64 x, .int .i64 y, .int .i64 cw, .int .i64 ch, .int .i64 color, .int .i64 cn, .string text] 48)
          have ow2 := ow2.alloc (.cells #[.int .i64 3, .int .i64 node, .int .i64 x, .int .i64 y, .int .i64 cw, .int .i64 ch, .int .i64 color, .int .i64 cn, .string text] 48)
          have bl2 := below_alloc bl2 (.cells #[.int .i64 3, .int .i64 node, .int .i64 x, .int .i64 y, .int .i64 cw, .int .i64 ch, .int .i64 color, .int .i64 cn, .string text] 48)
          have hS0 : (fun w' : World => w'.cell? ⟨wr.heap.size, 0, none⟩ = some (.int .i64 3) ∧ w'.cell? ⟨wr.heap.size, 1, none⟩ = some (.int .i64 node) ∧ w'.cell? ⟨wr.heap.size, 2, none⟩ = some (.int .i64 x) ∧ w'.cell? ⟨wr.heap.size, 3, none⟩ = some (.int .i64 y) ∧ w'.cell? ⟨wr.heap.size, 4, none⟩ = some (.int .i64 cw) ∧ w'.cell? ⟨wr.heap.size, 5, none⟩ = some (.int .i64 ch) ∧ w'.cell? ⟨wr.heap.size, 6, none⟩ = some (.int .i64 color) ∧ w'.cell? ⟨wr.heap.size, 7, none⟩ = some (.int .i64 cn) ∧ w'.cell? ⟨wr.heap.size, 8, none⟩ = some (.string text)) (w2.drew.alloc (.cells #[.int .i64 3, .int .i64 node, .int .i64 x, .int .i64 y, .int .i64 cw, .int .i64 ch, .int .i64 color, .int .i64 cn, .string text] 48)) := KEEP'.out _ b7
          refine hK.out _ _ (fun _ => hS0) ?_
          clear hK K
          try simp only [Act.put, Array.toArray_toList, List.setIfInBounds_toArray, List.set_cons_zero, List.set_cons_succ]
          refine anyM_one (i := 1) (by kernel_rfl) rfl (fun K hK => ?_)
          go_simp
          refine (HCP.out _ _ op2).mono ?_
          rintro e w3 ⟨v3, rfl, hv3, hb3⟩
          obtain ⟨A3, c3', rfl⟩ := own_open hv3
          have hb7 := own_not (b := wr.heap.size) hv3 b7.lt
          have b7 := b7.below hb3 b7.lt
          have bx := bx.below hb3 bx.lt
          have ow2 := own_below ow2 hb3
          have hv3 := own_base (base' := w.heap.size) hv3 bl2.size
          have bl2 := below_then bl2 hb3
          have hS0 : (fun w' : World => w'.cell? ⟨wr.heap.size, 0, none⟩ = some (.int .i64 3) ∧ w'.cell? ⟨wr.heap.size, 1, none⟩ = some (.int .i64 node) ∧ w'.cell? ⟨wr.heap.size, 2, none⟩ = some (.int .i64 x) ∧ w'.cell? ⟨wr.heap.size, 3, none⟩ = some (.int .i64 y) ∧ w'.cell? ⟨wr.heap.size, 4, none⟩ = some (.int .i64 cw) ∧ w'.cell? ⟨wr.heap.size, 5, none⟩ = some (.int .i64 ch) ∧ w'.cell? ⟨wr.heap.size, 6, none⟩ = some (.int .i64 color) ∧ w'.cell? ⟨wr.heap.size, 7, none⟩ = some (.int .i64 cn) ∧ w'.cell? ⟨wr.heap.size, 8, none⟩ = some (.string text)) w3 := KEEP'.out _ b7
          refine hK.out _ _ (fun _ => hS0) ?_
          clear hK K
          try simp only [Act.put, Array.toArray_toList, List.setIfInBounds_toArray, List.set_cons_zero, List.set_cons_succ]
          refine anyM_one (i := 4) (by kernel_rfl) rfl (fun K hK => ?_)
          refine step_append_lies _ (by rfl) _ _ _ (by rfl) w.heap.size 48 j0 _ 9 80 Try.underlying49 hj hy0 hy1 hy2 rfl (by decide) _ _ _ (by rfl) hv3 ⟨w2.heap.size, 0, none⟩ 1 1 (cmdF ⟨3, node, x, y, cw, ch, color, cn, text⟩) (by rfl) (by rfl) (blk_cells bx) (cmdF_one _) (by omega) (by unfold maxLen; omega) (by omega) bl2.size _ rfl ?_
          intro gg cap1 w5 hst9 hgrow hat hlt5
          have b7 := blk_grown b7 hgrow hb7
          have hbl := below_grownO bl2 hv3 hgrow
          have ow2 := ow2.kept hgrow (own_far ow2 hv3 (by decide))
          have hS0 : (fun w' : World => w'.cell? ⟨wr.heap.size, 0, none⟩ = some (.int .i64 3) ∧ w'.cell? ⟨wr.heap.size, 1, none⟩ = some (.int .i64 node) ∧ w'.cell? ⟨wr.heap.size, 2, none⟩ = some (.int .i64 x) ∧ w'.cell? ⟨wr.heap.size, 3, none⟩ = some (.int .i64 y) ∧ w'.cell? ⟨wr.heap.size, 4, none⟩ = some (.int .i64 cw) ∧ w'.cell? ⟨wr.heap.size, 5, none⟩ = some (.int .i64 ch) ∧ w'.cell? ⟨wr.heap.size, 6, none⟩ = some (.int .i64 color) ∧ w'.cell? ⟨wr.heap.size, 7, none⟩ = some (.int .i64 cn) ∧ w'.cell? ⟨wr.heap.size, 8, none⟩ = some (.string text)) w5 := KEEP'.out _ b7
          clear hat hgrow hv3 bl2
          have bl2 := hbl
          clear hbl
          refine hK.out _ _ (fun _ => hS0) ?_
          clear hK K
          try simp only [Act.put, Array.toArray_toList, List.setIfInBounds_toArray, List.set_cons_zero, List.set_cons_succ]
          refine anyM_free (i := 5) (oi := { dst := some 4, op := _, type := _, pos := _, after := _, guard := _ }) (v := ?_) rfl (by kernel_rfl) (fun _ _ _ h => h) (Or.inl ⟨by kernel_rfl, ?_⟩) (fun _ => hS0) ?_
          rotate_left 1
          · (intro w hSw; (try dsimp only at hSw); go_simp; try with_reducible rfl)
          try simp only [Act.put, Array.toArray_toList, List.setIfInBounds_toArray, List.set_cons_zero, List.set_cons_succ]
          refine anyM_done (by kernel_rfl) ?_ _
          refine NoPanic.normal ?_
          have HB9 := Lib.hid bl2
          have HST9 := Lib.hid hst9
          have HO9 := Lib.hid ow2
          clear bl2 ow2 hst9 b7 bx hS0
          go_wp2_with fail
          go_roundw
          case rel => exact ⟨k + 1, o ++ [⟨3, node, x, y, cw, ch, color, cn, text⟩], out, by have := KK.out; omega, by go_num, by have := KK.out; have := HM.out; rw [List.length_append]; simp; omega, by have := KK.out; omega, by rw [← HTT.out, flatGo_open (Or.inl rfl)], by rw [List.length_append, ← HM.out, cmds_snoc]; exact HST9.out, HO9.out, HB9.out⟩
          case measure => have := KK.out; simp [intOf]; omega
      have e3' : (d == 3) = false := by simpa using e3
      by_cases e4 : d = 4
      · subst e4
        have HCP := Lib.hid (fun v wz h => rcopy_calls w.heap.size m v o wz HM.out.symm h hm1)
        go_wp2_with fail
        have b7 := B7.out
        have op2 := HOP2.out
        have ow2 := HO2.out
        have bl2 := HB2.out
        generalize hw2 : World.alloc wr _ = w2 at b7 op2 ow2 bl2 ⊢
        have hz2 := b7.lt
        have KEEP : ∀ w' : World, Blk w' wr.heap.size 48 #[.int .i64 4, .int .i64 node, .int .i64 x, .int .i64 y, .int .i64 cw, .int .i64 ch, .int .i64 color, .int .i64 cn, .string text] → w'.cell? ⟨wr.heap.size, 0, none⟩ = some (.int .i64 4) ∧ w'.cell? ⟨wr.heap.size, 1, none⟩ = some (.int .i64 node) ∧ w'.cell? ⟨wr.heap.size, 2, none⟩ = some (.int .i64 x) ∧ w'.cell? ⟨wr.heap.size, 3, none⟩ = some (.int .i64 y) ∧ w'.cell? ⟨wr.heap.size, 4, none⟩ = some (.int .i64 cw) ∧ w'.cell? ⟨wr.heap.size, 5, none⟩ = some (.int .i64 ch) ∧ w'.cell? ⟨wr.heap.size, 6, none⟩ = some (.int .i64 color) ∧ w'.cell? ⟨wr.heap.size, 7, none⟩ = some (.int .i64 cn) ∧ w'.cell? ⟨wr.heap.size, 8, none⟩ = some (.string text) := fun w' h1 => ⟨h1.cell 0, h1.cell 1, h1.cell 2, h1.cell 3, h1.cell 4, h1.cell 5, h1.cell 6, h1.cell 7, h1.cell 8⟩
        have KEEP' := Lib.hid KEEP
        have b7 := b7.drew
        have op2 : w2.drew.ownsRow _ _ _ _ _ _ := op2
        have ow2 : w2.drew.ownsRow _ _ _ _ _ _ := ow2
        have bl2 := bl2.drew
        have bl2' := bl2
        have hS0 : (fun w' : World => w'.cell? ⟨wr.heap.size, 0, none⟩ = some (.int .i64 4) ∧ w'.cell? ⟨wr.heap.size, 1, none⟩ = some (.int .i64 node) ∧ w'.cell? ⟨wr.heap.size, 2, none⟩ = some (.int .i64 x) ∧ w'.cell? ⟨wr.heap.size, 3, none⟩ = some (.int .i64 y) ∧ w'.cell? ⟨wr.heap.size, 4, none⟩ = some (.int .i64 cw) ∧ w'.cell? ⟨wr.heap.size, 5, none⟩ = some (.int .i64 ch) ∧ w'.cell? ⟨wr.heap.size, 6, none⟩ = some (.int .i64 color) ∧ w'.cell? ⟨wr.heap.size, 7, none⟩ = some (.int .i64 cn) ∧ w'.cell? ⟨wr.heap.size, 8, none⟩ = some (.string text)) w2.drew := KEEP'.out _ b7
        clear hw2 KEEP
        refine wp_region_noPanic ?_
        refine region_M (S := fun w' => w'.cell? ⟨wr.heap.size, 0, none⟩ = some (.int .i64 4) ∧ w'.cell? ⟨wr.heap.size, 1, none⟩ = some (.int .i64 node) ∧ w'.cell? ⟨wr.heap.size, 2, none⟩ = some (.int .i64 x) ∧ w'.cell? ⟨wr.heap.size, 3, none⟩ = some (.int .i64 y) ∧ w'.cell? ⟨wr.heap.size, 4, none⟩ = some (.int .i64 cw) ∧ w'.cell? ⟨wr.heap.size, 5, none⟩ = some (.int .i64 ch) ∧ w'.cell? ⟨wr.heap.size, 6, none⟩ = some (.int .i64 color) ∧ w'.cell? ⟨wr.heap.size, 7, none⟩ = some (.int .i64 cn) ∧ w'.cell? ⟨wr.heap.size, 8, none⟩ = some (.string text)) (T := []) (by kernel_rfl) ?_
        refine anyM_free (i := 0) (oi := { dst := some 68, op := _, type := _, pos := _, after := _, guard := _ }) (v := ?_) rfl (by kernel_rfl) (fun _ _ _ h => h) (Or.inl ⟨by kernel_rfl, ?_⟩) (fun _ => hS0) ?_
        rotate_left 1
        · (intro w hSw; (try dsimp only at hSw); go_simp; try with_reducible rfl)
        try simp only [Act.put, Array.toArray_toList, List.setIfInBounds_toArray, List.set_cons_zero, List.set_cons_succ]
        refine anyM_take (i := 2) (oi := { dst := some 70, op := _, type := _, pos := _, after := _, guard := _ }) (v := ?_) rfl (by kernel_rfl) (fun _ _ _ h => h) (Or.inl ⟨by kernel_rfl, ?_⟩) hS0 ?_
        rotate_left 1
        · (intro w hSw; (try dsimp only at hSw); go_simp; try with_reducible rfl)
        try simp only [Act.put, Array.toArray_toList, List.setIfInBounds_toArray, List.set_cons_zero, List.set_cons_succ]
        refine anyM_two (i := 1) (j := 3) (by kernel_rfl) rfl rfl (fun K hK => ?_) (fun K hK => ?_)
        · skip
          go_simp
          refine (HCP.out _ _ op2).mono ?_
          rintro e w3 ⟨v3, rfl, hv3, hb3⟩
          obtain ⟨A3, c3', rfl⟩ := own_open hv3
          have hb7 := own_not (b := wr.heap.size) hv3 b7.lt
          have b7 := b7.below hb3 b7.lt
          have ow2 := own_below ow2 hb3
          have hv3 := own_base (base' := w.heap.size) hv3 bl2.size
          have bl2 := below_then bl2 hb3
          have hS0 : (fun w' : World => w'.cell? ⟨wr.heap.size, 0, none⟩ = some (.int .i64 4) ∧ w'.cell? ⟨wr.heap.size, 1, none⟩ = some (.int .i64 node) ∧ w'.cell? ⟨wr.heap.size, 2, none⟩ = some (.int .i64 x) ∧ w'.cell? ⟨wr.heap.size, 3, none⟩ = some (.int .i64 y) ∧ w'.cell? ⟨wr.heap.size, 4, none⟩ = some (.int .i64 cw) ∧ w'.cell? ⟨wr.heap.size, 5, none⟩ = some (.int .i64 ch) ∧ w'.cell? ⟨wr.heap.size, 6, none⟩ = some (.int .i64 color) ∧ w'.cell? ⟨wr.heap.size, 7, none⟩ = some (.int .i64 cn) ∧ w'.cell? ⟨wr.heap.size, 8, none⟩ = some (.string text)) w3 := KEEP'.out _ b7
          refine hK.out _ _ (fun _ => hS0) ?_
          clear hK K
          try simp only [Act.put, Array.toArray_toList, List.setIfInBounds_toArray, List.set_cons_zero, List.set_cons_succ]
          refine anyM_one (i := 3) (by kernel_rfl) rfl (fun K hK => ?_)
          go_simp
          have bx := Blk.new w3 48 #[.int .i64 4, .int .i64 node, .int .i64 x, .int .i64 y, .int .i64 cw, .int .i64 ch, .int .i64 color, .int .i64 cn, .string text]
          have b7 := b7.alloc (.cells #[.int .i64 4, .int .i64 node, .int .i64 x, .int .i64 y, .int .i64 cw, .int .i64 ch, .int .i64 color, .int .i64 cn, .string text] 48)
          have hv3 := hv3.alloc (.cells #[.int .i64 4, .int .i64 node, .int .i64 x, .int .i64 y, .int .i64 cw, .int .i64 ch, .int .i64 color, .int .i64 cn, .string text] 48)
          have ow2 := ow2.alloc (.cells #[.int .i64 4, .int .i64 node, .int .i64 x, .int .i64 y, .int .i64 cw, .int .i64 ch, .int .i64 color, .int .i64 cn, .string text] 48)
          have bl2 := below_alloc bl2 (.cells #[.int .i64 4, .int .i64 node, .int .i64 x, .int .i64 y, .int .i64 cw, .int .i64 ch, .int .i64 color, .int .i64 cn, .string text] 48)
          have hS0 : (fun w' : World => w'.cell? ⟨wr.heap.size, 0, none⟩ = some (.int .i64 4) ∧ w'.cell? ⟨wr.heap.size, 1, none⟩ = some (.int .i64 node) ∧ w'.cell? ⟨wr.heap.size, 2, none⟩ = some (.int .i64 x) ∧ w'.cell? ⟨wr.heap.size, 3, none⟩ = some (.int .i64 y) ∧ w'.cell? ⟨wr.heap.size, 4, none⟩ = some (.int .i64 cw) ∧ w'.cell? ⟨wr.heap.size, 5, none⟩ = some (.int .i64 ch) ∧ w'.cell? ⟨wr.heap.size, 6, none⟩ = some (.int .i64 color) ∧ w'.cell? ⟨wr.heap.size, 7, none⟩ = some (.int .i64 cn) ∧ w'.cell? ⟨wr.heap.size, 8, none⟩ = some (.string text)) (w3.alloc (.cells #[.int .i64 4, .int .i64 node, .int .i64 x, .int .i64 y, .int .i64 cw, .int .i64 ch, .int .i64 color, .int .i64 cn, .string text] 48)) := KEEP'.out _ b7
          refine hK.out _ _ (fun _ => hS0) ?_
          clear hK K
          try simp only [Act.put, Array.toArray_toList, List.setIfInBounds_toArray, List.set_cons_zero, List.set_cons_succ]
          refine anyM_one (i := 4) (by kernel_rfl) rfl (fun K hK => ?_)
          refine step_append_lies _ (by rfl) _ _ _ (by rfl) w.heap.size 48 j0 _ 9 80 Try.underlying49 hj hy0 hy1 hy2 rfl (by decide) _ _ _ (by rfl) hv3 ⟨w3.heap.size, 0, none⟩ 1 1 (cmdF ⟨4, node, x, y, cw, ch, color, cn, text⟩) (by rfl) (by rfl) (blk_cells bx) (cmdF_one _) (by omega) (by unfold maxLen; omega) (by omega) bl2.size _ rfl ?_
          intro gg cap1 w5 hst9 hgrow hat hlt5
          have b7 := blk_grown b7 hgrow hb7
          have hbl := below_grownO bl2 hv3 hgrow
          have ow2 := ow2.kept hgrow (own_far ow2 hv3 (by decide))
          have hS0 : (fun w' : World => w'.cell? ⟨wr.heap.size, 0, none⟩ = some (.int .i64 4) ∧ w'.cell? ⟨wr.heap.size, 1, none⟩ = some (.int .i64 node) ∧ w'.cell? ⟨wr.heap.size, 2, none⟩ = some (.int .i64 x) ∧ w'.cell? ⟨wr.heap.size, 3, none⟩ = some (.int .i64 y) ∧ w'.cell? ⟨wr.heap.size, 4, none⟩ = some (.int .i64 cw) ∧ w'.cell? ⟨wr.heap.size, 5, none⟩ = some (.int .i64 ch) ∧ w'.cell? ⟨wr.heap.size, 6, none⟩ = some (.int .i64 color) ∧ w'.cell? ⟨wr.heap.size, 7, none⟩ = some (.int .i64 cn) ∧ w'.cell? ⟨wr.heap.size, 8, none⟩ = some (.string text)) w5 := KEEP'.out _ b7
          clear hat hgrow hv3 bl2
          have bl2 := hbl
          clear hbl
          refine hK.out _ _ (fun _ => hS0) ?_
          clear hK K
          try simp only [Act.put, Array.toArray_toList, List.setIfInBounds_toArray, List.set_cons_zero, List.set_cons_succ]
          refine anyM_free (i := 5) (oi := { dst := some 4, op := _, type := _, pos := _, after := _, guard := _ }) (v := ?_) rfl (by kernel_rfl) (fun _ _ _ h => h) (Or.inl ⟨by kernel_rfl, ?_⟩) (fun _ => hS0) ?_
          rotate_left 1
          · (intro w hSw; (try dsimp only at hSw); go_simp; try with_reducible rfl)
          try simp only [Act.put, Array.toArray_toList, List.setIfInBounds_toArray, List.set_cons_zero, List.set_cons_succ]
          refine anyM_done (by kernel_rfl) ?_ _
          refine NoPanic.normal ?_
          have HB9 := Lib.hid bl2
          have HST9 := Lib.hid hst9
          have HO9 := Lib.hid ow2
          clear bl2 ow2 hst9 b7 bx hS0
          go_wp2_with fail
          go_roundw
          case rel => exact ⟨k + 1, o ++ [⟨4, node, x, y, cw, ch, color, cn, text⟩], out, by have := KK.out; omega, by go_num, by have := KK.out; have := HM.out; rw [List.length_append]; simp; omega, by have := KK.out; omega, by rw [← HTT.out, flatGo_open (Or.inr rfl)], by rw [List.length_append, ← HM.out, cmds_snoc]; exact HST9.out, HO9.out, HB9.out⟩
          case measure => have := KK.out; simp [intOf]; omega
        · skip
          go_simp
          have bx := Blk.new w2.drew 48 #[.int .i64 4, .int .i64 node, .int .i64 x, .int .i64 y, .int .i64 cw, .int .i64 ch, .int .i64 color, .int .i64 cn, .string text]
          have b7 := b7.alloc (.cells #[.int .i64 4, .int .i64 node, .int .i64 x, .int .i64 y, .int .i64 cw, .int .i64 ch, .int .i64 color, .int .i64 cn, .string text] 48)
          have op2 := op2.alloc (.cells #[.int .i64 4, .int .i64 node, .int .i64 x, .int .i64 y, .int .i64 cw, .int .i64 ch, .int .i64 color, .int .i64 cn, .string text] 48)
          have ow2 := ow2.alloc (.cells #[.int .i64 4, .int .i64 node, .int .i64 x, .int .i64 y, .int .i64 cw, .int .i64 ch, .int .i64 color, .int .i64 cn, .string text] 48)
          have bl2 := below_alloc bl2 (.cells #[.int .i64 4, .int .i64 node, .int .i64 x, .int .i64 y, .int .i64 cw, .int .i64 ch, .int .i64 color, .int .i64 cn, .string text] 48)
          have hS0 : (fun w' : World => w'.cell? ⟨wr.heap.size, 0, none⟩ = some (.int .i64 4) ∧ w'.cell? ⟨wr.heap.size, 1, none⟩ = some (.int .i64 node) ∧ w'.cell? ⟨wr.heap.size, 2, none⟩ = some (.int .i64 x) ∧ w'.cell? ⟨wr.heap.size, 3, none⟩ = some (.int .i64 y) ∧ w'.cell? ⟨wr.heap.size, 4, none⟩ = some (.int .i64 cw) ∧ w'.cell? ⟨wr.heap.size, 5, none⟩ = some (.int .i64 ch) ∧ w'.cell? ⟨wr.heap.size, 6, none⟩ = some (.int .i64 color) ∧ w'.cell? ⟨wr.heap.size, 7, none⟩ = some (.int .i64 cn) ∧ w'.cell? ⟨wr.heap.size, 8, none⟩ = some (.string text)) (w2.drew.alloc (.cells #[.int .i64 4, .int .i64 node, .int .i64 x, .int .i64 y, .int .i64 cw, .int .i64 ch, .int .i64 color, .int .i64 cn, .string text] 48)) := KEEP'.out _ b7
          refine hK.out _ _ (fun _ => hS0) ?_
          clear hK K
          try simp only [Act.put, Array.toArray_toList, List.setIfInBounds_toArray, List.set_cons_zero, List.set_cons_succ]
          refine anyM_one (i := 1) (by kernel_rfl) rfl (fun K hK => ?_)
          go_simp
          refine (HCP.out _ _ op2).mono ?_
          rintro e w3 ⟨v3, rfl, hv3, hb3⟩
          obtain ⟨A3, c3', rfl⟩ := own_open hv3
          have hb7 := own_not (b := wr.heap.size) hv3 b7.lt
          have b7 := b7.below hb3 b7.lt
          have bx := bx.below hb3 bx.lt
          have ow2 := own_below ow2 hb3
          have hv3 := own_base (base' := w.heap.size) hv3 bl2.size
          have bl2 := below_then bl2 hb3
          have hS0 : (fun w' : World => w'.cell? ⟨wr.heap.size, 0, none⟩ = some (.int .i64 4) ∧ w'.cell? ⟨wr.heap.size, 1, none⟩ = some (.int .i64 node) ∧ w'.cell? ⟨wr.heap.size, 2, none⟩ = some (.int .i64 x) ∧ w'.cell? ⟨wr.heap.size, 3, none⟩ = some (.int .i64 y) ∧ w'.cell? ⟨wr.heap.size, 4, none⟩ = some (.int .i64 cw) ∧ w'.cell? ⟨wr.heap.size, 5, none⟩ = some (.int .i64 ch) ∧ w'.cell? ⟨wr.heap.size, 6, none⟩ = some (.int .i64 color) ∧ w'.cell? ⟨wr.heap.size, 7, none⟩ = some (.int .i64 cn) ∧ w'.cell? ⟨wr.heap.size, 8, none⟩ = some (.string text)) w3 := KEEP'.out _ b7
          refine hK.out _ _ (fun _ => hS0) ?_
          clear hK K
          try simp only [Act.put, Array.toArray_toList, List.setIfInBounds_toArray, List.set_cons_zero, List.set_cons_succ]
          refine anyM_one (i := 4) (by kernel_rfl) rfl (fun K hK => ?_)
          refine step_append_lies _ (by rfl) _ _ _ (by rfl) w.heap.size 48 j0 _ 9 80 Try.underlying49 hj hy0 hy1 hy2 rfl (by decide) _ _ _ (by rfl) hv3 ⟨w2.heap.size, 0, none⟩ 1 1 (cmdF ⟨4, node, x, y, cw, ch, color, cn, text⟩) (by rfl) (by rfl) (blk_cells bx) (cmdF_one _) (by omega) (by unfold maxLen; omega) (by omega) bl2.size _ rfl ?_
          intro gg cap1 w5 hst9 hgrow hat hlt5
          have b7 := blk_grown b7 hgrow hb7
          have hbl := below_grownO bl2 hv3 hgrow
          have ow2 := ow2.kept hgrow (own_far ow2 hv3 (by decide))
          have hS0 : (fun w' : World => w'.cell? ⟨wr.heap.size, 0, none⟩ = some (.int .i64 4) ∧ w'.cell? ⟨wr.heap.size, 1, none⟩ = some (.int .i64 node) ∧ w'.cell? ⟨wr.heap.size, 2, none⟩ = some (.int .i64 x) ∧ w'.cell? ⟨wr.heap.size, 3, none⟩ = some (.int .i64 y) ∧ w'.cell? ⟨wr.heap.size, 4, none⟩ = some (.int .i64 cw) ∧ w'.cell? ⟨wr.heap.size, 5, none⟩ = some (.int .i64 ch) ∧ w'.cell? ⟨wr.heap.size, 6, none⟩ = some (.int .i64 color) ∧ w'.cell? ⟨wr.heap.size, 7, none⟩ = some (.int .i64 cn) ∧ w'.cell? ⟨wr.heap.size, 8, none⟩ = some (.string text)) w5 := KEEP'.out _ b7
          clear hat hgrow hv3 bl2
          have bl2 := hbl
          clear hbl
          refine hK.out _ _ (fun _ => hS0) ?_
          clear hK K
          try simp only [Act.put, Array.toArray_toList, List.setIfInBounds_toArray, List.set_cons_zero, List.set_cons_succ]
          refine anyM_free (i := 5) (oi := { dst := some 4, op := _, type := _, pos := _, after := _, guard := _ }) (v := ?_) rfl (by kernel_rfl) (fun _ _ _ h => h) (Or.inl ⟨by kernel_rfl, ?_⟩) (fun _ => hS0) ?_
          rotate_left 1
          · (intro w hSw; (try dsimp only at hSw); go_simp; try with_reducible rfl)
          try simp only [Act.put, Array.toArray_toList, List.setIfInBounds_toArray, List.set_cons_zero, List.set_cons_succ]
          refine anyM_done (by kernel_rfl) ?_ _
          refine NoPanic.normal ?_
          have HB9 := Lib.hid bl2
          have HST9 := Lib.hid hst9
          have HO9 := Lib.hid ow2
          clear bl2 ow2 hst9 b7 bx hS0
          go_wp2_with fail
          go_roundw
          case rel => exact ⟨k + 1, o ++ [⟨4, node, x, y, cw, ch, color, cn, text⟩], out, by have := KK.out; omega, by go_num, by have := KK.out; have := HM.out; rw [List.length_append]; simp; omega, by have := KK.out; omega, by rw [← HTT.out, flatGo_open (Or.inr rfl)], by rw [List.length_append, ← HM.out, cmds_snoc]; exact HST9.out, HO9.out, HB9.out⟩
          case measure => have := KK.out; simp [intOf]; omega
      have e4' : (d == 4) = false := by simpa using e4
      by_cases e5 : d = 5
      · subst e5
        by_cases hm0 : m = 0
        · subst hm0
          have HF := Lib.hid (show T = ([], 3) from by rw [← HTT.out, flatGo_end0 rfl HM.out.symm])
          rw [HF.out]
          go_wp2_with fail
          go_ret2
          exact ⟨_, rfl, World.ownsRow_nil _ _ _ _, HB2.out⟩
        · have hm2 : ((m : Int) == 0) = false := by simp; omega
          have hm3 : (0 : Int) ≤ (m : Int) - 1 := by omega
          have hm4 : IntKind.i64.wrap ((m : Int) - 1) = (m : Int) - 1 := IntWalk.i64_in _ (by omega)
          have hm5 : ((m : Int) - 1).toNat = m - 1 := by omega
          obtain ⟨g, cap, hv, hg1, hg2⟩ := own_some HOP.out (by omega)
          injection hv with hv1 hv2 hv3
          subst hv1; subst hv3
          have hcap := own_cap HOP.out
          have hm6 : m - 1 ≤ c4' := by omega
          go_wp2_with fail
          have hst9 := own_cut (m := m - 1) HOP2.out (by omega)
          rw [cmds_take] at hst9
          have HST9 := Lib.hid hst9
          clear hst9
          go_roundw
          case rel => exact ⟨k + 1, o.dropLast, out, by have := KK.out; omega, by go_num, by have := KK.out; have := HM.out; rw [List.length_dropLast]; omega, by have := KK.out; omega, by rw [← HTT.out, flatGo_end rfl (by have := HM.out; omega)], by have := HM.out; rw [List.length_dropLast, List.dropLast_eq_take, ← this]; exact HST9.out, HO2.out, HB2.out⟩
          case measure => have := KK.out; simp [intOf]; omega
      · have e5' : (d == 5) = false := by simpa using e5
        have HF := Lib.hid (show T = ([], 7) from by rw [← HTT.out, flatGo_kind e1 e2 e3 e4 e5])
        rw [HF.out]
        go_wp2_with fail
        go_ret2
        exact ⟨_, rfl, World.ownsRow_nil _ _ _ _, HB2.out⟩
    · obtain rfl : k = n := by omega
      rw [List.drop_of_length_le (by rw [HN.out]; omega)] at hT
      have HO := Lib.hid hown
      have HB := Lib.hid hbel
      obtain ⟨A4, c4', rfl⟩ := own_open hop
      by_cases ho0 : o.length = 0
      · have HF := Lib.hid (show T = (out, 0) from by rw [← hT, flatGo_nil ho0])
        rw [ho0]
        clear hT hop hown hbel ho0
        go_wp2_with fail
        go_ret2
        rw [HF.out]
        exact ⟨_, rfl, HO.out, HB.out⟩
      · have HF := Lib.hid (show T = ([], 3) from by rw [← hT, flatGo_left ho0])
        obtain ⟨m, hm'⟩ : ∃ m, m = o.length := ⟨_, rfl⟩
        rw [← hm'] at ho0 ho ⊢
        have hg1 : (0 : Int) < (m : Int) := by omega
        clear hT hop hown hbel hm'
        go_wp2_with fail
        go_ret2
        rw [HF.out]
        exact ⟨_, rfl, World.ownsRow_nil _ _ _ _, HB.out⟩
end Go.Proofs.Ytkppignoomnmdaa
