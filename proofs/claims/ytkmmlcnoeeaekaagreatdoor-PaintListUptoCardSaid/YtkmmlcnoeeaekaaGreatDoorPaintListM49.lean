/- Several texts in one: HitJ. -/
import Derived.Test.YtkmmlcnoeeaekaaGreatDoorPaintListM37
import Derived.Test.YtkmmlcnoeeaekaaGreatDoorPaintListM10
/- Contracts: the reference's Copy of frags; the law's clamped. -/
namespace Go.Proofs.YtkmmlcnoeeaekaaGreatDoor
open Go.RowKit
set_option linter.unusedVariables false
set_option linter.unusedSimpArgs false

theorem info_fragH : (Tryz.prog.info? 88).map (fun i => (i.zero, i.size, i.bytes)) = some (some (.agg #[.int .i64 0, .int .i64 0, .int .i64 0, .int .i64 0, .int .i64 0, .int .i64 0, .int .i64 0, .string ⟨#[]⟩]), 8, 72) := by kernel_rfl
theorem fragF_one (f : FragV) : ∀ u ∈ fragF f, u.oneCell' = true := fun u hu => by
  simp [fragF, fragC] at hu
  rcases hu with rfl | rfl | rfl | rfl | rfl | rfl | rfl | rfl <;> rfl
theorem flat_len8 : ∀ l : List FragV, (l.flatMap fragF).length = l.length * 8
  | [] => rfl
  | x :: l => by rw [List.flatMap_cons, List.length_append, flat_len8 l, List.length_cons]; show 8 + _ = _; omega
theorem wp_append_runs {P : Program} {w : World} {o : Oper} {a : Act} {K : Act → World → Prop} {Q : Exit → Act → World → Prop} (s x : Operand) (t : TypeId)
    (ho : o.op = .call { callee := .builtin .append, args := #[s, x], argTypes := #[t, t] })
    (u v r : Value) (hs : a.eval s = u) (hx : a.eval x = v) (hr : (Builtin.append_ #[t, t] o.type #[u, v]).run P w = .ok r w)
    (h : K (a.put o.dst r) w) : o.wp P a w K Q := by
  unfold Oper.wp execOp
  simp only [ho, resolve, invoke, builtin, Sem.run_bind, Sem.run_pure, Result.andThen_ok, List.map_toArray, List.map_cons, List.map_nil, hs, hx, hr]
  exact h
theorem wpList_append_runs {P : Program} {w : World} {ops : Array Oper} {rest : List Oper} {o : Oper} {a : Act} {Q : Exit → Act → World → Prop} (hgd : o.guard = none) (s x : Operand) (t : TypeId)
    (ho : o.op = .call { callee := .builtin .append, args := #[s, x], argTypes := #[t, t] })
    (u v r : Value) (hs : a.eval s = u) (hx : a.eval x = v) (hr : (Builtin.append_ #[t, t] o.type #[u, v]).run P w = .ok r w)
    (h : wpList P ops Q rest (a.put o.dst r) w) : wpList P ops Q (o :: rest) a w :=
  wpList_plain hgd fun _ hK => wp_append_runs s x t ho u v r hs hx hr (hK _ _ h)
set_option maxRecDepth 100000 in
set_option maxHeartbeats 2000000 in
theorem rcopyF_calls (A : Option Addr) (n c : Nat) (fs : List FragV) (w : World) (hn : fs.length = n) (h : Frags w w.heap.size A fs) (hm : n ≤ 1048576) :
    Calls Tryz.prog 37 #[.slice A n c] w fun e w' => ∃ A' c', e = .returned (.slice A' n c') ∧ w'.ownsRow w.heap.size 88 8 (.slice A' n c') n (fs.flatMap fragF) ∧ Below w.heap.size w w' := by
  obtain ⟨iF, hiF, hzF0, hzF1, hzF2⟩ := info_partsK info_fragH
  by_cases h0 : n = 0
  · subst h0
    have e : fs = [] := List.eq_nil_of_length_eq_zero hn
    subst e
    clear h
    have hap : ∀ ww, (Builtin.append_ #[40, 40] 40 #[.slice none 0 0, .slice A 0 c]).run Tryz.prog ww = .ok (.slice none 0 0) ww := fun ww => by
      cases A with
      | none => exact run_append_nothing ww 40 40 40 88 iF Tryz.underlying40 hiF none 0 0 (Nat.le_refl _) _ (Src.ofNil ww Tryz.underlying40 c)
      | some a => exact run_append_nothing ww 40 40 40 88 iF Tryz.underlying40 hiF none 0 0 (Nat.le_refl _) _ (Src.ofSlice ww Tryz.underlying40 a 0 c [] (by simp) (fun j u hj => by simp at hj) (fun u hu => by cases hu))
    go_enter Tryz.func37, Tryz.ntmps37
    go_wp2_with (at_builtin; refine wpList_append_runs rfl _ _ 40 rfl (.slice none 0 0) (.slice A 0 c) (.slice none 0 0) rfl rfl (hap _) ?_)
    go_ret
    exact ⟨none, 0, rfl, World.ownsRow_nil _ _ _ _, Below.refl _ _⟩
  · obtain ⟨b, off, hA, hb, hc⟩ := h (by rw [flat_len8]; omega)
    subst hA
    have HS : Hid (SrcI w (some ⟨b, off, none⟩) n (fs.flatMap fragF)) := .inl ⟨b, off, rfl, fun j u hj => by
      have hjl : j < (fs.flatMap fragF).length := by
        rcases Nat.lt_or_ge j (fs.flatMap fragF).length with h7 | h7
        · exact h7
        · rw [List.getElem?_eq_none h7] at hj; cases hj
      rw [hc j hjl, List.getD_eq_getElem?_getD, hj]; rfl⟩
    have hl : (fs.flatMap fragF).length = n * 8 := by rw [flat_len8, hn]
    have hone : ∀ u ∈ fs.flatMap fragF, u.oneCell' = true := fun u hu => by
      obtain ⟨f, _, hf⟩ := List.mem_flatMap.1 hu
      exact fragF_one f u hf
    clear hc h hn
    generalize fs.flatMap fragF = xs at HS hl hone ⊢
    go_enter Tryz.func37, Tryz.ntmps37
    go_wp2_with (at_builtin; refine wpList_append_any rfl _ _ 40 rfl w.heap.size 88 iF (.agg #[.int .i64 0, .int .i64 0, .int .i64 0, .int .i64 0, .int .i64 0, .int .i64 0, .int .i64 0, .string ⟨#[]⟩]) 8 72 Tryz.underlying40 hiF hzF0 hzF1 hzF2 rfl (by decide) (.slice none 0 0) 0 [] rfl (World.ownsRow_nil _ _ _ _) (some ⟨b, off, none⟩) n c xs rfl hl HS.out hone (by unfold maxLen; omega) (by omega) (Nat.le_refl _) ?_; intro A9 c9 w10 ho9 hg9 hat9; have HO9 := Lib.hid ho9; have HB9 := Lib.hid (Below.grown (Below.refl w.heap.size w) hg9 (Nat.le_refl _) (fun k hk => by cases hk)); clear ho9 hg9 hat9)
    go_ret
    exact ⟨A9, c9, rfl, by simpa using HO9.out, HB9.out⟩
def clampF (f : FragV) : FragV := { f with x := cut f.x, y := cut f.y, w := cut f.w, h := cut f.h }
theorem clampF_ok (f : FragV) : FragB (clampF f) := by
  have h1 := cut_lo f.x
  have h2 := cut_hi f.x
  have h3 := cut_lo f.y
  have h4 := cut_hi f.y
  have h5 := cut_lo f.w
  have h6 := cut_hi f.w
  have h7 := cut_lo f.h
  have h8 := cut_hi f.h
  exact ⟨h1, h2, h3, h4, h5, h6, h7, h8⟩
/-- Some of the frags clamped. -/
def clampRow (fs : List FragV) (k i : Nat) : List Value := if i < k then fragF (clampF (fr fs i)) else fragF (fr fs i)
theorem clampRow_len (fs : List FragV) (k i : Nat) : (clampRow fs k i).length = 8 := by unfold clampRow; split <;> rfl
theorem clamp_start (fs : List FragV) : fs.flatMap fragF = rows fs.length (clampRow fs 0) := by
  rw [flat_rows fs fragF FragV.zero]
  exact rows_congr fun i hi => by unfold clampRow; rw [if_neg (by omega)]; rfl
theorem clamp_end (fs : List FragV) : rows fs.length (clampRow fs fs.length) = (fs.map clampF).flatMap fragF := by
  rw [flat_rows (fs.map clampF) fragF FragV.zero, List.length_map]
  exact rows_congr fun i hi => by
    unfold clampRow
    rw [if_pos hi]
    congr 1
    unfold fr
    rw [List.getD_eq_getElem?_getD, List.getD_eq_getElem?_getD, List.getElem?_map, List.getElem?_eq_getElem hi]
    rfl
theorem len_set8 {F : Nat → List Value} {k j : Nat} {u : Value} (h : ∀ i, (F i).length = 8) : ∀ i, (if i = k then (F i).set j u else F i).length = 8 := fun i => by split <;> simp [h]
theorem clamp_step (fs : List FragV) {k : Nat} (hk : k < fs.length) : (((((rows fs.length (clampRow fs k)).set (k * 8 + 3) (.int .i64 (cut (fr fs k).x))).set (k * 8 + 4) (.int .i64 (cut (fr fs k).y))).set (k * 8 + 5) (.int .i64 (cut (fr fs k).w))).set (k * 8 + 6) (.int .i64 (cut (fr fs k).h))) = rows fs.length (clampRow fs (k + 1)) := by
  have l0 := clampRow_len fs k
  rw [rows_set (by decide) l0 hk (by decide)]
  have l1 := len_set8 (k := k) (j := 3) (u := .int .i64 (cut (fr fs k).x)) l0
  rw [rows_set (by decide) l1 hk (by decide)]
  have l2 := len_set8 (k := k) (j := 4) (u := .int .i64 (cut (fr fs k).y)) l1
  rw [rows_set (by decide) l2 hk (by decide)]
  have l3 := len_set8 (k := k) (j := 5) (u := .int .i64 (cut (fr fs k).w)) l2
  rw [rows_set (by decide) l3 hk (by decide)]
  refine rows_congr fun i hi => ?_
  by_cases e : i = k
  · subst e
    simp only [↓reduceIte]
    unfold clampRow
    rw [if_neg (by omega), if_pos (by omega)]
    rfl
  · simp only [if_neg e]
    unfold clampRow
    by_cases h : i < k
    · rw [if_pos h, if_pos (by omega)]
    · rw [if_neg h, if_neg (by omega)]
set_option maxRecDepth 100000 in
set_option maxHeartbeats 8000000 in
theorem clamped_calls (A : Option Addr) (n c : Nat) (fs : List FragV) (w : World) (hn : fs.length = n) (h : Frags w w.heap.size A fs) (hm : n ≤ 1048576) :
    Calls Tryz.prog 14 #[.slice A n c] w fun e w' => ∃ A' c', e = .returned (.slice A' n c') ∧ w'.ownsRow w.heap.size 88 8 (.slice A' n c') n ((fs.map clampF).flatMap fragF) ∧ Below w.heap.size w w' := by
  have mixed : Tryz.prog.follows .mixedOrders = true := by kernel_rfl
  have HCP := Lib.hid (rcopyF_calls A n c fs w hn h hm)
  subst hn
  rw [clamp_start] at HCP
  clear h
  go_enter Tryz.func14, Tryz.ntmps14
  go_wp2_with (go_at_call 37; refine HCP.out.mono ?_; rintro e w1 ⟨A', c', rfl, ho, hb⟩; have HO1 := Lib.hid ho; have HB1 := Lib.hid hb; clear ho hb)
  go_loopw [10] (fun i wr => ∃ k : Nat, k ≤ fs.length ∧ i = .int .i64 k ∧ Hid (wr.ownsRow w.heap.size 88 8 (.slice A' fs.length c') fs.length (rows fs.length (clampRow fs k))) ∧ Hid (Below w.heap.size w wr)) (fun i _ => fs.length - (intOf i).toNat)
  case atStart => exact ⟨0, Nat.zero_le _, rfl, HO1.out, HB1.out⟩
  case round =>
    clear HO1 HB1
    obtain ⟨k, hk, rfl, HO, HBE⟩ := hrel
    by_cases hlt : k < fs.length
    · obtain ⟨g, cap, hgv, hgb, hgl⟩ := own_some HO.out (by omega)
      injection hgv with hgv1 hgv2 hgv3
      subst hgv1
      obtain ⟨f, hf⟩ : ∃ f, f = fr fs k := ⟨_, rfl⟩
      have HROW : Hid (∀ j u, j < 8 → (fragF f)[j]? = some u → wr.cell? ⟨g, k * 8 + j, none⟩ = some u) := fun j u hj hu => (row_at HO.out).1 (k * 8 + j) u (by
        rw [rows_at (fun i => clampRow_len fs k i) hlt hj]
        unfold clampRow
        rw [if_neg (by omega), ← hf]
        exact hu)
      have c0 : wr.cell? ⟨g, k * 8, none⟩ = some (.int .i64 f.box) := HROW.out 0 _ (by omega) rfl
      have c1 : wr.cell? ⟨g, k * 8 + 1, none⟩ = some (.int .i64 f.node) := HROW.out 1 _ (by omega) rfl
      have c2 : wr.cell? ⟨g, k * 8 + 2, none⟩ = some (.int .i64 f.par) := HROW.out 2 _ (by omega) rfl
      have c3 : wr.cell? ⟨g, k * 8 + 3, none⟩ = some (.int .i64 f.x) := HROW.out 3 _ (by omega) rfl
      have c4 : wr.cell? ⟨g, k * 8 + 4, none⟩ = some (.int .i64 f.y) := HROW.out 4 _ (by omega) rfl
      have c5 : wr.cell? ⟨g, k * 8 + 5, none⟩ = some (.int .i64 f.w) := HROW.out 5 _ (by omega) rfl
      have c6 : wr.cell? ⟨g, k * 8 + 6, none⟩ = some (.int .i64 f.h) := HROW.out 6 _ (by omega) rfl
      have c7 : wr.cell? ⟨g, k * 8 + 7, none⟩ = some (.string f.text) := HROW.out 7 _ (by omega) rfl
      have HST : Hid (((((rows fs.length (clampRow fs k)).set (k * 8 + 3) (.int .i64 (cut f.x))).set (k * 8 + 4) (.int .i64 (cut f.y))).set (k * 8 + 5) (.int .i64 (cut f.w))).set (k * 8 + 6) (.int .i64 (cut f.h)) = rows fs.length (clampRow fs (k + 1))) := by
        show _ = _
        rw [hf]
        exact clamp_step fs hlt
      have hba := below_alloc (Below.refl wr.heap.size wr) (.cells #[.int .i64 f.box, .int .i64 f.node, .int .i64 f.par, .int .i64 f.x, .int .i64 f.y, .int .i64 f.w, .int .i64 f.h, .string f.text] 88)
      have HO := Lib.hid (own_below HO.out hba)
      have HBE := Lib.hid (below_then HBE.out hba)
      have HGF := Lib.hid (Blk.new wr 88 #[.int .i64 f.box, .int .i64 f.node, .int .i64 f.par, .int .i64 f.x, .int .i64 f.y, .int .i64 f.w, .int .i64 f.h, .string f.text])
      have HGN : Hid (wr.heap.size ≠ g) := by show _ ≠ _; omega
      have HGB := Lib.hid hgb
      have HCU := Lib.hid (fun z ww => rcut_calls z ww)
      clear hf HROW hba hgv2 hgv3
      go_upto_region 5 with fail
      have HGF := Lib.hid (show Blk (World.drew (World.alloc wr _)) _ _ _ from HGF.out)
      have HO := Lib.hid (show World.ownsRow (World.drew (World.alloc wr _)) _ _ _ _ _ _ from HO.out)
      have HBE := Lib.hid (show Below w.heap.size w (World.drew (World.alloc wr _)) from below_drewN HBE.out 1)
      clear c0 c1 c2 c3 c4 c5 c6 c7
      generalize World.alloc wr _ = w2 at HGF HO HBE ⊢
      generalize wr.heap.size = gf at HGF HGN ⊢
      have hS0 : (fun w' : World => w'.cell? ⟨gf, 3, none⟩ = some (.int .i64 f.x) ∧ w'.cell? ⟨gf, 4, none⟩ = some (.int .i64 f.y) ∧ w'.cell? ⟨gf, 5, none⟩ = some (.int .i64 f.w) ∧ w'.cell? ⟨gf, 6, none⟩ = some (.int .i64 f.h)) (World.drew w2) := ⟨HGF.out.cell 3, HGF.out.cell 4, HGF.out.cell 5, HGF.out.cell 6⟩
      refine wp_region_noPanic ?_
      refine region_M (S := fun w' => w'.cell? ⟨gf, 3, none⟩ = some (.int .i64 f.x) ∧ w'.cell? ⟨gf, 4, none⟩ = some (.int .i64 f.y) ∧ w'.cell? ⟨gf, 5, none⟩ = some (.int .i64 f.w) ∧ w'.cell? ⟨gf, 6, none⟩ = some (.int .i64 f.h)) (T := []) (by kernel_rfl) ?_
      generalize World.drew w2 = w3 at HGF HO HBE hS0 ⊢
      refine anyM_free (i := 0) (oi := { dst := some 15, op := _, type := _, pos := _, after := _, guard := _ }) (v := ?_) rfl (by kernel_rfl) (fun _ _ _ h => h) (Or.inl ⟨by kernel_rfl, ?_⟩) (fun _ => hS0) ?_
      rotate_left 1
      · (intro w hSw; (try dsimp only at hSw); go_simp; try with_reducible rfl)
      try simp only [Act.put, Array.toArray_toList, List.setIfInBounds_toArray, List.set_cons_zero, List.set_cons_succ]
      refine anyM_free (i := 1) (oi := { dst := some 16, op := _, type := _, pos := _, after := _, guard := _ }) (v := ?_) rfl (by kernel_rfl) (fun _ _ _ h => h) (Or.inl ⟨by kernel_rfl, ?_⟩) (fun _ => hS0) ?_
      rotate_left 1
      · (intro w hSw; (try dsimp only at hSw); go_simp; try with_reducible rfl)
      try simp only [Act.put, Array.toArray_toList, List.setIfInBounds_toArray, List.set_cons_zero, List.set_cons_succ]
      refine anyM_free (i := 2) (oi := { dst := some 17, op := _, type := _, pos := _, after := _, guard := _ }) (v := ?_) rfl (by kernel_rfl) (fun _ _ _ h => h) (Or.inl ⟨by kernel_rfl, ?_⟩) (fun _ => hS0) ?_
      rotate_left 1
      · (intro w hSw; (try dsimp only at hSw); go_simp; try with_reducible rfl)
      try simp only [Act.put, Array.toArray_toList, List.setIfInBounds_toArray, List.set_cons_zero, List.set_cons_succ]
      refine anyM_free (i := 3) (oi := { dst := some 18, op := _, type := _, pos := _, after := _, guard := _ }) (v := ?_) rfl (by kernel_rfl) (fun _ _ _ h => h) (Or.inl ⟨by kernel_rfl, ?_⟩) (fun _ => hS0) ?_
      rotate_left 1
      · (intro w hSw; (try dsimp only at hSw); go_simp; try with_reducible rfl)
      try simp only [Act.put, Array.toArray_toList, List.setIfInBounds_toArray, List.set_cons_zero, List.set_cons_succ]
      refine anyM_free (i := 4) (oi := { dst := some 19, op := _, type := _, pos := _, after := _, guard := _ }) (v := ?_) rfl (by kernel_rfl) (fun _ _ _ h => h) (Or.inl ⟨by kernel_rfl, ?_⟩) (fun _ => hS0) ?_
      rotate_left 1
      · (intro w hSw; (try dsimp only at hSw); go_simp; try with_reducible rfl)
      try simp only [Act.put, Array.toArray_toList, List.setIfInBounds_toArray, List.set_cons_zero, List.set_cons_succ]
      refine anyM_free (i := 5) (oi := { dst := some 20, op := _, type := _, pos := _, after := _, guard := _ }) (v := ?_) rfl (by kernel_rfl) (fun _ _ _ h => h) (Or.inl ⟨by kernel_rfl, ?_⟩) (fun _ => hS0) ?_
      rotate_left 1
      · (intro w hSw; (try dsimp only at hSw); go_simp; try with_reducible rfl)
      try simp only [Act.put, Array.toArray_toList, List.setIfInBounds_toArray, List.set_cons_zero, List.set_cons_succ]
      refine anyM_free (i := 6) (oi := { dst := some 21, op := _, type := _, pos := _, after := _, guard := _ }) (v := ?_) rfl (by kernel_rfl) (fun _ _ _ h => h) (Or.inl ⟨by kernel_rfl, ?_⟩) (fun _ => hS0) ?_
      rotate_left 1
      · (intro w hSw; (try dsimp only at hSw); go_simp; try with_reducible rfl)
      try simp only [Act.put, Array.toArray_toList, List.setIfInBounds_toArray, List.set_cons_zero, List.set_cons_succ]
      refine anyM_free (i := 7) (oi := { dst := some 22, op := _, type := _, pos := _, after := _, guard := _ }) (v := ?_) rfl (by kernel_rfl) (fun _ _ _ h => h) (Or.inl ⟨by kernel_rfl, ?_⟩) (fun _ => hS0) ?_
      rotate_left 1
      · (intro w hSw; (try dsimp only at hSw); go_simp; try with_reducible rfl)
      try simp only [Act.put, Array.toArray_toList, List.setIfInBounds_toArray, List.set_cons_zero, List.set_cons_succ]
      refine anyM_free (i := 8) (oi := { dst := some 23, op := _, type := _, pos := _, after := _, guard := _ }) (v := ?_) rfl (by kernel_rfl) (fun _ _ _ h => h) (Or.inl ⟨by kernel_rfl, ?_⟩) (fun _ => hS0) ?_
      rotate_left 1
      · (intro w hSw; (try dsimp only at hSw); go_simp; try with_reducible rfl)
      try simp only [Act.put, Array.toArray_toList, List.setIfInBounds_toArray, List.set_cons_zero, List.set_cons_succ]
      refine anyM_take (i := 9) (oi := { dst := some 24, op := _, type := _, pos := _, after := _, guard := _ }) (v := ?_) rfl (by kernel_rfl) (fun _ _ _ h => h) (Or.inl ⟨by kernel_rfl, ?_⟩) hS0 ?_
      rotate_left 1
      · (intro w hSw; (try dsimp only at hSw); go_simp; try with_reducible rfl)
      try simp only [Act.put, Array.toArray_toList, List.setIfInBounds_toArray, List.set_cons_zero, List.set_cons_succ]
      refine anyM_free (i := 11) (oi := { dst := some 26, op := _, type := _, pos := _, after := _, guard := _ }) (v := ?_) rfl (by kernel_rfl) (fun _ _ _ h => h) (Or.inl ⟨by kernel_rfl, ?_⟩) (fun _ => hS0) ?_
      rotate_left 1
      · (intro w hSw; (try dsimp only at hSw); go_simp; try with_reducible rfl)
      try simp only [Act.put, Array.toArray_toList, List.setIfInBounds_toArray, List.set_cons_zero, List.set_cons_succ]
      refine anyM_take (i := 12) (oi := { dst := some 27, op := _, type := _, pos := _, after := _, guard := _ }) (v := ?_) rfl (by kernel_rfl) (fun _ _ _ h => h) (Or.inl ⟨by kernel_rfl, ?_⟩) hS0 ?_
      rotate_left 1
      · (intro w hSw; (try dsimp only at hSw); go_simp; try with_reducible rfl)
      try simp only [Act.put, Array.toArray_toList, List.setIfInBounds_toArray, List.set_cons_zero, List.set_cons_succ]
      refine anyM_free (i := 14) (oi := { dst := some 29, op := _, type := _, pos := _, after := _, guard := _ }) (v := ?_) rfl (by kernel_rfl) (fun _ _ _ h => h) (Or.inl ⟨by kernel_rfl, ?_⟩) (fun _ => hS0) ?_
      rotate_left 1
      · (intro w hSw; (try dsimp only at hSw); go_simp; try with_reducible rfl)
      try simp only [Act.put, Array.toArray_toList, List.setIfInBounds_toArray, List.set_cons_zero, List.set_cons_succ]
      refine anyM_take (i := 15) (oi := { dst := some 30, op := _, type := _, pos := _, after := _, guard := _ }) (v := ?_) rfl (by kernel_rfl) (fun _ _ _ h => h) (Or.inl ⟨by kernel_rfl, ?_⟩) hS0 ?_
      rotate_left 1
      · (intro w hSw; (try dsimp only at hSw); go_simp; try with_reducible rfl)
      try simp only [Act.put, Array.toArray_toList, List.setIfInBounds_toArray, List.set_cons_zero, List.set_cons_succ]
      refine anyM_free (i := 17) (oi := { dst := some 32, op := _, type := _, pos := _, after := _, guard := _ }) (v := ?_) rfl (by kernel_rfl) (fun _ _ _ h => h) (Or.inl ⟨by kernel_rfl, ?_⟩) (fun _ => hS0) ?_
      rotate_left 1
      · (intro w hSw; (try dsimp only at hSw); go_simp; try with_reducible rfl)
      try simp only [Act.put, Array.toArray_toList, List.setIfInBounds_toArray, List.set_cons_zero, List.set_cons_succ]
      refine anyM_take (i := 18) (oi := { dst := some 33, op := _, type := _, pos := _, after := _, guard := _ }) (v := ?_) rfl (by kernel_rfl) (fun _ _ _ h => h) (Or.inl ⟨by kernel_rfl, ?_⟩) hS0 ?_
      rotate_left 1
      · (intro w hSw; (try dsimp only at hSw); go_simp; try with_reducible rfl)
      try simp only [Act.put, Array.toArray_toList, List.setIfInBounds_toArray, List.set_cons_zero, List.set_cons_succ]
      refine anyM_one (i := 10) (by kernel_rfl) rfl (fun K hK => ?_)
      go_simp
      refine (HCU.out _ _).mono ?_
      rintro e wz ⟨rfl, rfl⟩
      refine hK.out _ _ (fun _ => hS0) ?_
      clear hK K
      try simp only [Act.put, Array.toArray_toList, List.setIfInBounds_toArray, List.set_cons_zero, List.set_cons_succ]
      refine anyM_one (i := 13) (by kernel_rfl) rfl (fun K hK => ?_)
      go_simp
      refine (HCU.out _ _).mono ?_
      rintro e wz ⟨rfl, rfl⟩
      refine hK.out _ _ (fun _ => hS0) ?_
      clear hK K
      try simp only [Act.put, Array.toArray_toList, List.setIfInBounds_toArray, List.set_cons_zero, List.set_cons_succ]
      refine anyM_one (i := 16) (by kernel_rfl) rfl (fun K hK => ?_)
      go_simp
      refine (HCU.out _ _).mono ?_
      rintro e wz ⟨rfl, rfl⟩
      refine hK.out _ _ (fun _ => hS0) ?_
      clear hK K
      try simp only [Act.put, Array.toArray_toList, List.setIfInBounds_toArray, List.set_cons_zero, List.set_cons_succ]
      refine anyM_one (i := 19) (by kernel_rfl) rfl (fun K hK => ?_)
      go_simp
      refine (HCU.out _ _).mono ?_
      rintro e wz ⟨rfl, rfl⟩
      refine hK.out _ _ (fun _ => hS0) ?_
      clear hK K
      try simp only [Act.put, Array.toArray_toList, List.setIfInBounds_toArray, List.set_cons_zero, List.set_cons_succ]
      refine anyM_free (i := 20) (oi := { dst := some 35, op := _, type := _, pos := _, after := _, guard := _ }) (v := ?_) rfl (by kernel_rfl) (fun _ _ _ h => h) (Or.inl ⟨by kernel_rfl, ?_⟩) (fun _ => hS0) ?_
      rotate_left 1
      · (intro w hSw; (try dsimp only at hSw); go_simp; try with_reducible rfl)
      try simp only [Act.put, Array.toArray_toList, List.setIfInBounds_toArray, List.set_cons_zero, List.set_cons_succ]
      refine anyM_free (i := 21) (oi := { dst := some 36, op := _, type := _, pos := _, after := _, guard := _ }) (v := ?_) rfl (by kernel_rfl) (fun _ _ _ h => h) (Or.inl ⟨by kernel_rfl, ?_⟩) (fun _ => hS0) ?_
      rotate_left 1
      · (intro w hSw; (try dsimp only at hSw); go_simp; try with_reducible rfl)
      try simp only [Act.put, Array.toArray_toList, List.setIfInBounds_toArray, List.set_cons_zero, List.set_cons_succ]
      refine anyM_one (i := 22) (by kernel_rfl) rfl (fun K hK => ?_)
      skip
      obtain ⟨oc, hoc⟩ : ∃ oc, w3.cell? ⟨g, k * 8 + 3, none⟩ = some oc := ⟨_, (row_at HO.out).1 (k * 8 + 3) _ (List.getElem?_eq_getElem (by (try simp only [List.length_set]); rw [rows_len (fun i => clampRow_len fs k i)]; omega))⟩
      have hfz : w3.frozen? ⟨g, k * 8 + 3, none⟩ = false := own_blkF HO.out _
      go_simp
      clear hoc hfz
      have HO := Lib.hid (own_set (j := k * 8 + 3) (u := .int .i64 (cut f.x)) HO.out)
      have HBE := Lib.hid (Below.setCell (p := ⟨g, k * 8 + 3, none⟩) HBE.out HGB.out (.int .i64 (cut f.x)))
      have HGF := Lib.hid (HGF.out.far HGN.out (i := k * 8 + 3) (.int .i64 (cut f.x)))
      generalize World.setCell w3 _ _ = w4 at HO HBE HGF ⊢
      have hS0 : (fun w' : World => w'.cell? ⟨gf, 3, none⟩ = some (.int .i64 f.x) ∧ w'.cell? ⟨gf, 4, none⟩ = some (.int .i64 f.y) ∧ w'.cell? ⟨gf, 5, none⟩ = some (.int .i64 f.w) ∧ w'.cell? ⟨gf, 6, none⟩ = some (.int .i64 f.h)) w4 := ⟨HGF.out.cell 3, HGF.out.cell 4, HGF.out.cell 5, HGF.out.cell 6⟩
      refine hK.out _ _ (fun _ => hS0) ?_
      clear hK K
      try simp only [Act.put, Array.toArray_toList, List.setIfInBounds_toArray, List.set_cons_zero, List.set_cons_succ]
      refine anyM_free (i := 23) (oi := { dst := some 37, op := _, type := _, pos := _, after := _, guard := _ }) (v := ?_) rfl (by kernel_rfl) (fun _ _ _ h => h) (Or.inl ⟨by kernel_rfl, ?_⟩) (fun _ => hS0) ?_
      rotate_left 1
      · (intro w hSw; (try dsimp only at hSw); go_simp; try with_reducible rfl)
      try simp only [Act.put, Array.toArray_toList, List.setIfInBounds_toArray, List.set_cons_zero, List.set_cons_succ]
      refine anyM_free (i := 24) (oi := { dst := some 38, op := _, type := _, pos := _, after := _, guard := _ }) (v := ?_) rfl (by kernel_rfl) (fun _ _ _ h => h) (Or.inl ⟨by kernel_rfl, ?_⟩) (fun _ => hS0) ?_
      rotate_left 1
      · (intro w hSw; (try dsimp only at hSw); go_simp; try with_reducible rfl)
      try simp only [Act.put, Array.toArray_toList, List.setIfInBounds_toArray, List.set_cons_zero, List.set_cons_succ]
      refine anyM_one (i := 25) (by kernel_rfl) rfl (fun K hK => ?_)
      skip
      obtain ⟨oc, hoc⟩ : ∃ oc, w4.cell? ⟨g, k * 8 + 4, none⟩ = some oc := ⟨_, (row_at HO.out).1 (k * 8 + 4) _ (List.getElem?_eq_getElem (by (try simp only [List.length_set]); rw [rows_len (fun i => clampRow_len fs k i)]; omega))⟩
      have hfz : w4.frozen? ⟨g, k * 8 + 4, none⟩ = false := own_blkF HO.out _
      go_simp
      clear hoc hfz
      have HO := Lib.hid (own_set (j := k * 8 + 4) (u := .int .i64 (cut f.y)) HO.out)
      have HBE := Lib.hid (Below.setCell (p := ⟨g, k * 8 + 4, none⟩) HBE.out HGB.out (.int .i64 (cut f.y)))
      have HGF := Lib.hid (HGF.out.far HGN.out (i := k * 8 + 4) (.int .i64 (cut f.y)))
      generalize World.setCell w4 _ _ = w5 at HO HBE HGF ⊢
      have hS0 : (fun w' : World => w'.cell? ⟨gf, 3, none⟩ = some (.int .i64 f.x) ∧ w'.cell? ⟨gf, 4, none⟩ = some (.int .i64 f.y) ∧ w'.cell? ⟨gf, 5, none⟩ = some (.int .i64 f.w) ∧ w'.cell? ⟨gf, 6, none⟩ = some (.int .i64 f.h)) w5 := ⟨HGF.out.cell 3, HGF.out.cell 4, HGF.out.cell 5, HGF.out.cell 6⟩
      refine hK.out _ _ (fun _ => hS0) ?_
      clear hK K
      try simp only [Act.put, Array.toArray_toList, List.setIfInBounds_toArray, List.set_cons_zero, List.set_cons_succ]
      refine anyM_free (i := 26) (oi := { dst := some 39, op := _, type := _, pos := _, after := _, guard := _ }) (v := ?_) rfl (by kernel_rfl) (fun _ _ _ h => h) (Or.inl ⟨by kernel_rfl, ?_⟩) (fun _ => hS0) ?_
      rotate_left 1
      · (intro w hSw; (try dsimp only at hSw); go_simp; try with_reducible rfl)
      try simp only [Act.put, Array.toArray_toList, List.setIfInBounds_toArray, List.set_cons_zero, List.set_cons_succ]
      refine anyM_free (i := 27) (oi := { dst := some 40, op := _, type := _, pos := _, after := _, guard := _ }) (v := ?_) rfl (by kernel_rfl) (fun _ _ _ h => h) (Or.inl ⟨by kernel_rfl, ?_⟩) (fun _ => hS0) ?_
      rotate_left 1
      · (intro w hSw; (try dsimp only at hSw); go_simp; try with_reducible rfl)
      try simp only [Act.put, Array.toArray_toList, List.setIfInBounds_toArray, List.set_cons_zero, List.set_cons_succ]
      refine anyM_one (i := 28) (by kernel_rfl) rfl (fun K hK => ?_)
      skip
      obtain ⟨oc, hoc⟩ : ∃ oc, w5.cell? ⟨g, k * 8 + 5, none⟩ = some oc := ⟨_, (row_at HO.out).1 (k * 8 + 5) _ (List.getElem?_eq_getElem (by (try simp only [List.length_set]); rw [rows_len (fun i => clampRow_len fs k i)]; omega))⟩
      have hfz : w5.frozen? ⟨g, k * 8 + 5, none⟩ = false := own_blkF HO.out _
      go_simp
      clear hoc hfz
      have HO := Lib.hid (own_set (j := k * 8 + 5) (u := .int .i64 (cut f.w)) HO.out)
      have HBE := Lib.hid (Below.setCell (p := ⟨g, k * 8 + 5, none⟩) HBE.out HGB.out (.int .i64 (cut f.w)))
      have HGF := Lib.hid (HGF.out.far HGN.out (i := k * 8 + 5) (.int .i64 (cut f.w)))
      generalize World.setCell w5 _ _ = w6 at HO HBE HGF ⊢
      have hS0 : (fun w' : World => w'.cell? ⟨gf, 3, none⟩ = some (.int .i64 f.x) ∧ w'.cell? ⟨gf, 4, none⟩ = some (.int .i64 f.y) ∧ w'.cell? ⟨gf, 5, none⟩ = some (.int .i64 f.w) ∧ w'.cell? ⟨gf, 6, none⟩ = some (.int .i64 f.h)) w6 := ⟨HGF.out.cell 3, HGF.out.cell 4, HGF.out.cell 5, HGF.out.cell 6⟩
      refine hK.out _ _ (fun _ => hS0) ?_
      clear hK K
      try simp only [Act.put, Array.toArray_toList, List.setIfInBounds_toArray, List.set_cons_zero, List.set_cons_succ]
      refine anyM_free (i := 29) (oi := { dst := some 41, op := _, type := _, pos := _, after := _, guard := _ }) (v := ?_) rfl (by kernel_rfl) (fun _ _ _ h => h) (Or.inl ⟨by kernel_rfl, ?_⟩) (fun _ => hS0) ?_
      rotate_left 1
      · (intro w hSw; (try dsimp only at hSw); go_simp; try with_reducible rfl)
      try simp only [Act.put, Array.toArray_toList, List.setIfInBounds_toArray, List.set_cons_zero, List.set_cons_succ]
      refine anyM_free (i := 30) (oi := { dst := some 42, op := _, type := _, pos := _, after := _, guard := _ }) (v := ?_) rfl (by kernel_rfl) (fun _ _ _ h => h) (Or.inl ⟨by kernel_rfl, ?_⟩) (fun _ => hS0) ?_
      rotate_left 1
      · (intro w hSw; (try dsimp only at hSw); go_simp; try with_reducible rfl)
      try simp only [Act.put, Array.toArray_toList, List.setIfInBounds_toArray, List.set_cons_zero, List.set_cons_succ]
      refine anyM_one (i := 31) (by kernel_rfl) rfl (fun K hK => ?_)
      skip
      obtain ⟨oc, hoc⟩ : ∃ oc, w6.cell? ⟨g, k * 8 + 6, none⟩ = some oc := ⟨_, (row_at HO.out).1 (k * 8 + 6) _ (List.getElem?_eq_getElem (by (try simp only [List.length_set]); rw [rows_len (fun i => clampRow_len fs k i)]; omega))⟩
      have hfz : w6.frozen? ⟨g, k * 8 + 6, none⟩ = false := own_blkF HO.out _
      go_simp
      clear hoc hfz
      have HO := Lib.hid (own_set (j := k * 8 + 6) (u := .int .i64 (cut f.h)) HO.out)
      have HBE := Lib.hid (Below.setCell (p := ⟨g, k * 8 + 6, none⟩) HBE.out HGB.out (.int .i64 (cut f.h)))
      have HGF := Lib.hid (HGF.out.far HGN.out (i := k * 8 + 6) (.int .i64 (cut f.h)))
      generalize World.setCell w6 _ _ = w7 at HO HBE HGF ⊢
      have hS0 : (fun w' : World => w'.cell? ⟨gf, 3, none⟩ = some (.int .i64 f.x) ∧ w'.cell? ⟨gf, 4, none⟩ = some (.int .i64 f.y) ∧ w'.cell? ⟨gf, 5, none⟩ = some (.int .i64 f.w) ∧ w'.cell? ⟨gf, 6, none⟩ = some (.int .i64 f.h)) w7 := ⟨HGF.out.cell 3, HGF.out.cell 4, HGF.out.cell 5, HGF.out.cell 6⟩
      refine hK.out _ _ (fun _ => hS0) ?_
      clear hK K
      try simp only [Act.put, Array.toArray_toList, List.setIfInBounds_toArray, List.set_cons_zero, List.set_cons_succ]
      refine anyM_done (by kernel_rfl) ?_ _
      refine NoPanic.normal ?_
      clear hS0
      go_wp2_with fail
      go_round
      case rel => exact ⟨k + 1, by omega, by go_num, by rw [← HST.out]; exact HO.out, HBE.out⟩
      case measure => simp [intOf]; omega
    · have e : k = fs.length := by omega
      subst e
      rw [clamp_end] at HO
      go_wp2_with fail
      go_ret
      exact ⟨A', c', rfl, HO.out, HBE.out⟩
end Go.Proofs.YtkmmlcnoeeaekaaGreatDoor
