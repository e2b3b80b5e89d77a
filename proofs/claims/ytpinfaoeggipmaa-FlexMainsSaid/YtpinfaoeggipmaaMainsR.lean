/- The reference's Mains: the region in which its three lists and their variables are made, in whatever order. -/
import Derived.Test.YtpinfaoeggipmaaRegionI
import Derived.Test.YtpinfaoeggipmaaSpreadB
import Derived.Test.YtpinfaoeggipmaaFlexE
namespace Go.Proofs.Ytpinfaoeggipmaa
open Go.RowKit
set_option linter.unusedVariables false
set_option linter.unusedSimpArgs false

def tm (a : Act) (j : Nat) : Value := a.tmps.getD j undef
theorem tm_same {a : Act} {d : Nat} {v : Value} (h : d < a.tmps.size) : tm (a.put (some d) v) d = v := by simp [tm, Act.put, h]
theorem tm_other {a : Act} {d j : Nat} {v : Value} (h : d ≠ j) : tm (a.put (some d) v) j = tm a j := by simp [tm, Act.put, Array.getElem?_setIfInBounds_ne h]
theorem put_size (a : Act) (d : Nat) (v : Value) : (a.put (some d) v).tmps.size = a.tmps.size := by simp [Act.put]
theorem put_defers (a : Act) (d : Nat) (v : Value) : (a.put (some d) v).defers = a.defers := rfl
theorem old_L {L : Array Bool} {i j : Nat} (h : (L.setIfInBounds i true).getD j false = true) (hne : i ≠ j) : L.getD j false = true := by rwa [getD_set_ne false hne] at h
theorem tmps_of : ∀ (D : List Nat) (x y : Array Value), x.size = y.size → (∀ j, ¬ j ∈ D → x.getD j undef = y.getD j undef) → x = D.foldl (fun z d => z.setIfInBounds d (x.getD d undef)) y
  | [], x, y, hs, h => by
    apply Array.ext hs
    intro i h1 h2
    have := h i (by simp)
    simpa [h1, h2] using this
  | d :: D, x, y, hs, h => by
    rw [List.foldl_cons]
    refine tmps_of D x _ (by simp [hs]) (fun j hj => ?_)
    by_cases e : d = j
    · subst e
      by_cases hlt : d < y.size
      · simp [hlt]
      · have : ¬ d < x.size := by omega
        simp [hlt, this]
    · have h2 := h j (by simp [hj]; exact fun h => e h.symm)
      rw [h2]
      simp [Array.getElem?_setIfInBounds_ne e]
theorem info_flex : (Try.prog.info? 95).map (fun i => (i.zero, i.size, i.bytes)) = some (some (.agg (flexF FlexV.zero).toArray), 6, 48) := by kernel_rfl
theorem info_bool : (Try.prog.info? 4).map (fun i => (i.zero, i.size, i.bytes)) = some (some (.bool false), 1, 1) := by kernel_rfl

theorem blk_apart {w : World} {g g' : Nat} {t t' : TypeId} {cs cs' : Array Value} (h : Blk w g t cs) (h' : Blk w g' t' cs') (hne : t ≠ t') : g ≠ g' := by
  rintro rfl
  have e := h.symm.trans h'
  injection e with e
  injection e with e1 e2
  exact hne e2
/-- What holds behind the operations L of the region. -/
structure InvM (w0 : World) (a0 : Act) (n : Nat) (L : Array Bool) (a : Act) (w : World) : Prop where
  sz : L.size = 12
  df : a.defers = a0.defers
  ts : a.tmps.size = a0.tmps.size
  fr : ∀ j, ¬ j ∈ [41, 42, 43, 44, 45, 46, 8, 9, 10] → tm a j = tm a0 j
  hb : Below w0.heap.size w0 w
  m0 : L.getD 0 false = true → tm a 41 = .int .i64 n
  m2 : L.getD 2 false = true → tm a 43 = .int .i64 n
  m4 : L.getD 4 false = true → tm a 45 = .int .i64 n
  k1 : L.getD 1 false = true → ∃ g, tm a 42 = .slice (some ⟨g, 0, none⟩) n n ∧ w.ownsRow w0.heap.size 95 6 (.slice (some ⟨g, 0, none⟩) n n) n (rows n (fun _ => flexF FlexV.zero))
  k3 : L.getD 3 false = true → ∃ g, tm a 44 = .slice (some ⟨g, 0, none⟩) n n ∧ w.ownsRow w0.heap.size 3 1 (.slice (some ⟨g, 0, none⟩) n n) n (ints (List.replicate n 0))
  k5 : L.getD 5 false = true → ∃ g, tm a 46 = .slice (some ⟨g, 0, none⟩) n n ∧ w.ownsRow w0.heap.size 4 1 (.slice (some ⟨g, 0, none⟩) n n) n (List.replicate n (.bool false))
  v6 : L.getD 6 false = true → ∃ p v, tm a 8 = .pointer (some ⟨p, 0, none⟩) ∧ w0.heap.size ≤ p ∧ Blk w p 74 #[v] ∧ (L.getD 9 false = true → L.getD 1 false = true ∧ v = tm a 42)
  v7 : L.getD 7 false = true → ∃ p v, tm a 9 = .pointer (some ⟨p, 0, none⟩) ∧ w0.heap.size ≤ p ∧ Blk w p 22 #[v] ∧ (L.getD 10 false = true → L.getD 3 false = true ∧ v = tm a 44)
  v8 : L.getD 8 false = true → ∃ p v, tm a 10 = .pointer (some ⟨p, 0, none⟩) ∧ w0.heap.size ≤ p ∧ Blk w p 108 #[v] ∧ (L.getD 11 false = true → L.getD 5 false = true ∧ v = tm a 46)
  q6 : L.getD 9 false = true → L.getD 6 false = true
  q7 : L.getD 10 false = true → L.getD 7 false = true
  q8 : L.getD 11 false = true → L.getD 8 false = true
theorem inv_0 {w0 w w' : World} {a0 a : Act} {n : Nat} {L : Array Bool} {u : Value} (hS : InvM w0 a0 n L a w) (h297 : a0.tmps.size = 297) (hun : L.getD 0 false = false) (hbw : Below w.heap.size w w') (hnew : u = .int .i64 n) : InvM w0 a0 n (L.setIfInBounds 0 true) (a.put (some 41) u) w' := by
  have hd : 41 < a.tmps.size := by rw [hS.ts, h297]; decide
  exact {
    sz := (by rw [Array.size_setIfInBounds]; exact hS.sz),
    df := (hS.df),
    ts := ((put_size _ _ _).trans hS.ts),
    fr := (fun j hj => (tm_other (fun e => hj (by subst e; decide))).trans (hS.fr j hj)),
    hb := (below_then hS.hb hbw),
    m0 := (fun h => (tm_same hd).trans hnew),
    m2 := (fun h => (tm_other (by decide)).trans (hS.m2 (old_L h (by decide)))),
    m4 := (fun h => (tm_other (by decide)).trans (hS.m4 (old_L h (by decide)))),
    k1 := (fun h => by obtain ⟨g, e, ho⟩ := hS.k1 (old_L h (by decide)); exact ⟨g, (tm_other (by decide)).trans e, own_below ho hbw⟩),
    k3 := (fun h => by obtain ⟨g, e, ho⟩ := hS.k3 (old_L h (by decide)); exact ⟨g, (tm_other (by decide)).trans e, own_below ho hbw⟩),
    k5 := (fun h => by obtain ⟨g, e, ho⟩ := hS.k5 (old_L h (by decide)); exact ⟨g, (tm_other (by decide)).trans e, own_below ho hbw⟩),
    v6 := (fun h => by obtain ⟨p, v, e, hp, hB, hc⟩ := hS.v6 (old_L h (by decide)); exact ⟨p, v, (tm_other (by decide)).trans e, hp, hB.below hbw hB.lt, fun h9 => ⟨getD_set_true (hc (old_L h9 (by decide))).1, (hc (old_L h9 (by decide))).2.trans (tm_other (by decide)).symm⟩⟩),
    v7 := (fun h => by obtain ⟨p, v, e, hp, hB, hc⟩ := hS.v7 (old_L h (by decide)); exact ⟨p, v, (tm_other (by decide)).trans e, hp, hB.below hbw hB.lt, fun h9 => ⟨getD_set_true (hc (old_L h9 (by decide))).1, (hc (old_L h9 (by decide))).2.trans (tm_other (by decide)).symm⟩⟩),
    v8 := (fun h => by obtain ⟨p, v, e, hp, hB, hc⟩ := hS.v8 (old_L h (by decide)); exact ⟨p, v, (tm_other (by decide)).trans e, hp, hB.below hbw hB.lt, fun h9 => ⟨getD_set_true (hc (old_L h9 (by decide))).1, (hc (old_L h9 (by decide))).2.trans (tm_other (by decide)).symm⟩⟩),
    q6 := (fun h => getD_set_true (hS.q6 (old_L h (by decide)))),
    q7 := (fun h => getD_set_true (hS.q7 (old_L h (by decide)))),
    q8 := (fun h => getD_set_true (hS.q8 (old_L h (by decide)))) }
theorem inv_2 {w0 w w' : World} {a0 a : Act} {n : Nat} {L : Array Bool} {u : Value} (hS : InvM w0 a0 n L a w) (h297 : a0.tmps.size = 297) (hun : L.getD 2 false = false) (hbw : Below w.heap.size w w') (hnew : u = .int .i64 n) : InvM w0 a0 n (L.setIfInBounds 2 true) (a.put (some 43) u) w' := by
  have hd : 43 < a.tmps.size := by rw [hS.ts, h297]; decide
  exact {
    sz := (by rw [Array.size_setIfInBounds]; exact hS.sz),
    df := (hS.df),
    ts := ((put_size _ _ _).trans hS.ts),
    fr := (fun j hj => (tm_other (fun e => hj (by subst e; decide))).trans (hS.fr j hj)),
    hb := (below_then hS.hb hbw),
    m0 := (fun h => (tm_other (by decide)).trans (hS.m0 (old_L h (by decide)))),
    m2 := (fun h => (tm_same hd).trans hnew),
    m4 := (fun h => (tm_other (by decide)).trans (hS.m4 (old_L h (by decide)))),
    k1 := (fun h => by obtain ⟨g, e, ho⟩ := hS.k1 (old_L h (by decide)); exact ⟨g, (tm_other (by decide)).trans e, own_below ho hbw⟩),
    k3 := (fun h => by obtain ⟨g, e, ho⟩ := hS.k3 (old_L h (by decide)); exact ⟨g, (tm_other (by decide)).trans e, own_below ho hbw⟩),
    k5 := (fun h => by obtain ⟨g, e, ho⟩ := hS.k5 (old_L h (by decide)); exact ⟨g, (tm_other (by decide)).trans e, own_below ho hbw⟩),
    v6 := (fun h => by obtain ⟨p, v, e, hp, hB, hc⟩ := hS.v6 (old_L h (by decide)); exact ⟨p, v, (tm_other (by decide)).trans e, hp, hB.below hbw hB.lt, fun h9 => ⟨getD_set_true (hc (old_L h9 (by decide))).1, (hc (old_L h9 (by decide))).2.trans (tm_other (by decide)).symm⟩⟩),
    v7 := (fun h => by obtain ⟨p, v, e, hp, hB, hc⟩ := hS.v7 (old_L h (by decide)); exact ⟨p, v, (tm_other (by decide)).trans e, hp, hB.below hbw hB.lt, fun h9 => ⟨getD_set_true (hc (old_L h9 (by decide))).1, (hc (old_L h9 (by decide))).2.trans (tm_other (by decide)).symm⟩⟩),
    v8 := (fun h => by obtain ⟨p, v, e, hp, hB, hc⟩ := hS.v8 (old_L h (by decide)); exact ⟨p, v, (tm_other (by decide)).trans e, hp, hB.below hbw hB.lt, fun h9 => ⟨getD_set_true (hc (old_L h9 (by decide))).1, (hc (old_L h9 (by decide))).2.trans (tm_other (by decide)).symm⟩⟩),
    q6 := (fun h => getD_set_true (hS.q6 (old_L h (by decide)))),
    q7 := (fun h => getD_set_true (hS.q7 (old_L h (by decide)))),
    q8 := (fun h => getD_set_true (hS.q8 (old_L h (by decide)))) }
theorem inv_4 {w0 w w' : World} {a0 a : Act} {n : Nat} {L : Array Bool} {u : Value} (hS : InvM w0 a0 n L a w) (h297 : a0.tmps.size = 297) (hun : L.getD 4 false = false) (hbw : Below w.heap.size w w') (hnew : u = .int .i64 n) : InvM w0 a0 n (L.setIfInBounds 4 true) (a.put (some 45) u) w' := by
  have hd : 45 < a.tmps.size := by rw [hS.ts, h297]; decide
  exact {
    sz := (by rw [Array.size_setIfInBounds]; exact hS.sz),
    df := (hS.df),
    ts := ((put_size _ _ _).trans hS.ts),
    fr := (fun j hj => (tm_other (fun e => hj (by subst e; decide))).trans (hS.fr j hj)),
    hb := (below_then hS.hb hbw),
    m0 := (fun h => (tm_other (by decide)).trans (hS.m0 (old_L h (by decide)))),
    m2 := (fun h => (tm_other (by decide)).trans (hS.m2 (old_L h (by decide)))),
    m4 := (fun h => (tm_same hd).trans hnew),
    k1 := (fun h => by obtain ⟨g, e, ho⟩ := hS.k1 (old_L h (by decide)); exact ⟨g, (tm_other (by decide)).trans e, own_below ho hbw⟩),
    k3 := (fun h => by obtain ⟨g, e, ho⟩ := hS.k3 (old_L h (by decide)); exact ⟨g, (tm_other (by decide)).trans e, own_below ho hbw⟩),
    k5 := (fun h => by obtain ⟨g, e, ho⟩ := hS.k5 (old_L h (by decide)); exact ⟨g, (tm_other (by decide)).trans e, own_below ho hbw⟩),
    v6 := (fun h => by obtain ⟨p, v, e, hp, hB, hc⟩ := hS.v6 (old_L h (by decide)); exact ⟨p, v, (tm_other (by decide)).trans e, hp, hB.below hbw hB.lt, fun h9 => ⟨getD_set_true (hc (old_L h9 (by decide))).1, (hc (old_L h9 (by decide))).2.trans (tm_other (by decide)).symm⟩⟩),
    v7 := (fun h => by obtain ⟨p, v, e, hp, hB, hc⟩ := hS.v7 (old_L h (by decide)); exact ⟨p, v, (tm_other (by decide)).trans e, hp, hB.below hbw hB.lt, fun h9 => ⟨getD_set_true (hc (old_L h9 (by decide))).1, (hc (old_L h9 (by decide))).2.trans (tm_other (by decide)).symm⟩⟩),
    v8 := (fun h => by obtain ⟨p, v, e, hp, hB, hc⟩ := hS.v8 (old_L h (by decide)); exact ⟨p, v, (tm_other (by decide)).trans e, hp, hB.below hbw hB.lt, fun h9 => ⟨getD_set_true (hc (old_L h9 (by decide))).1, (hc (old_L h9 (by decide))).2.trans (tm_other (by decide)).symm⟩⟩),
    q6 := (fun h => getD_set_true (hS.q6 (old_L h (by decide)))),
    q7 := (fun h => getD_set_true (hS.q7 (old_L h (by decide)))),
    q8 := (fun h => getD_set_true (hS.q8 (old_L h (by decide)))) }
theorem inv_1 {w0 w w' : World} {a0 a : Act} {n : Nat} {L : Array Bool} {u : Value} (hS : InvM w0 a0 n L a w) (h297 : a0.tmps.size = 297) (hun : L.getD 1 false = false) (hbw : Below w.heap.size w w') (hnew : ∃ g, u = .slice (some ⟨g, 0, none⟩) n n ∧ w'.ownsRow w0.heap.size 95 6 (.slice (some ⟨g, 0, none⟩) n n) n (rows n (fun _ => flexF FlexV.zero))) : InvM w0 a0 n (L.setIfInBounds 1 true) (a.put (some 42) u) w' := by
  have hd : 42 < a.tmps.size := by rw [hS.ts, h297]; decide
  exact {
    sz := (by rw [Array.size_setIfInBounds]; exact hS.sz),
    df := (hS.df),
    ts := ((put_size _ _ _).trans hS.ts),
    fr := (fun j hj => (tm_other (fun e => hj (by subst e; decide))).trans (hS.fr j hj)),
    hb := (below_then hS.hb hbw),
    m0 := (fun h => (tm_other (by decide)).trans (hS.m0 (old_L h (by decide)))),
    m2 := (fun h => (tm_other (by decide)).trans (hS.m2 (old_L h (by decide)))),
    m4 := (fun h => (tm_other (by decide)).trans (hS.m4 (old_L h (by decide)))),
    k1 := (fun _ => by obtain ⟨g, e, ho⟩ := hnew; exact ⟨g, (tm_same hd).trans e, ho⟩),
    k3 := (fun h => by obtain ⟨g, e, ho⟩ := hS.k3 (old_L h (by decide)); exact ⟨g, (tm_other (by decide)).trans e, own_below ho hbw⟩),
    k5 := (fun h => by obtain ⟨g, e, ho⟩ := hS.k5 (old_L h (by decide)); exact ⟨g, (tm_other (by decide)).trans e, own_below ho hbw⟩),
    v6 := (fun h => by obtain ⟨p, v, e, hp, hB, hc⟩ := hS.v6 (old_L h (by decide)); exact ⟨p, v, (tm_other (by decide)).trans e, hp, hB.below hbw hB.lt, fun h9 => by have h1 := (hc (old_L h9 (by decide))).1; rw [hun] at h1; cases h1⟩),
    v7 := (fun h => by obtain ⟨p, v, e, hp, hB, hc⟩ := hS.v7 (old_L h (by decide)); exact ⟨p, v, (tm_other (by decide)).trans e, hp, hB.below hbw hB.lt, fun h9 => ⟨getD_set_true (hc (old_L h9 (by decide))).1, (hc (old_L h9 (by decide))).2.trans (tm_other (by decide)).symm⟩⟩),
    v8 := (fun h => by obtain ⟨p, v, e, hp, hB, hc⟩ := hS.v8 (old_L h (by decide)); exact ⟨p, v, (tm_other (by decide)).trans e, hp, hB.below hbw hB.lt, fun h9 => ⟨getD_set_true (hc (old_L h9 (by decide))).1, (hc (old_L h9 (by decide))).2.trans (tm_other (by decide)).symm⟩⟩),
    q6 := (fun h => getD_set_true (hS.q6 (old_L h (by decide)))),
    q7 := (fun h => getD_set_true (hS.q7 (old_L h (by decide)))),
    q8 := (fun h => getD_set_true (hS.q8 (old_L h (by decide)))) }
theorem inv_3 {w0 w w' : World} {a0 a : Act} {n : Nat} {L : Array Bool} {u : Value} (hS : InvM w0 a0 n L a w) (h297 : a0.tmps.size = 297) (hun : L.getD 3 false = false) (hbw : Below w.heap.size w w') (hnew : ∃ g, u = .slice (some ⟨g, 0, none⟩) n n ∧ w'.ownsRow w0.heap.size 3 1 (.slice (some ⟨g, 0, none⟩) n n) n (ints (List.replicate n 0))) : InvM w0 a0 n (L.setIfInBounds 3 true) (a.put (some 44) u) w' := by
  have hd : 44 < a.tmps.size := by rw [hS.ts, h297]; decide
  exact {
    sz := (by rw [Array.size_setIfInBounds]; exact hS.sz),
    df := (hS.df),
    ts := ((put_size _ _ _).trans hS.ts),
    fr := (fun j hj => (tm_other (fun e => hj (by subst e; decide))).trans (hS.fr j hj)),
    hb := (below_then hS.hb hbw),
    m0 := (fun h => (tm_other (by decide)).trans (hS.m0 (old_L h (by decide)))),
    m2 := (fun h => (tm_other (by decide)).trans (hS.m2 (old_L h (by decide)))),
    m4 := (fun h => (tm_other (by decide)).trans (hS.m4 (old_L h (by decide)))),
    k1 := (fun h => by obtain ⟨g, e, ho⟩ := hS.k1 (old_L h (by decide)); exact ⟨g, (tm_other (by decide)).trans e, own_below ho hbw⟩),
    k3 := (fun _ => by obtain ⟨g, e, ho⟩ := hnew; exact ⟨g, (tm_same hd).trans e, ho⟩),
    k5 := (fun h => by obtain ⟨g, e, ho⟩ := hS.k5 (old_L h (by decide)); exact ⟨g, (tm_other (by decide)).trans e, own_below ho hbw⟩),
    v6 := (fun h => by obtain ⟨p, v, e, hp, hB, hc⟩ := hS.v6 (old_L h (by decide)); exact ⟨p, v, (tm_other (by decide)).trans e, hp, hB.below hbw hB.lt, fun h9 => ⟨getD_set_true (hc (old_L h9 (by decide))).1, (hc (old_L h9 (by decide))).2.trans (tm_other (by decide)).symm⟩⟩),
    v7 := (fun h => by obtain ⟨p, v, e, hp, hB, hc⟩ := hS.v7 (old_L h (by decide)); exact ⟨p, v, (tm_other (by decide)).trans e, hp, hB.below hbw hB.lt, fun h9 => by have h1 := (hc (old_L h9 (by decide))).1; rw [hun] at h1; cases h1⟩),
    v8 := (fun h => by obtain ⟨p, v, e, hp, hB, hc⟩ := hS.v8 (old_L h (by decide)); exact ⟨p, v, (tm_other (by decide)).trans e, hp, hB.below hbw hB.lt, fun h9 => ⟨getD_set_true (hc (old_L h9 (by decide))).1, (hc (old_L h9 (by decide))).2.trans (tm_other (by decide)).symm⟩⟩),
    q6 := (fun h => getD_set_true (hS.q6 (old_L h (by decide)))),
    q7 := (fun h => getD_set_true (hS.q7 (old_L h (by decide)))),
    q8 := (fun h => getD_set_true (hS.q8 (old_L h (by decide)))) }
theorem inv_5 {w0 w w' : World} {a0 a : Act} {n : Nat} {L : Array Bool} {u : Value} (hS : InvM w0 a0 n L a w) (h297 : a0.tmps.size = 297) (hun : L.getD 5 false = false) (hbw : Below w.heap.size w w') (hnew : ∃ g, u = .slice (some ⟨g, 0, none⟩) n n ∧ w'.ownsRow w0.heap.size 4 1 (.slice (some ⟨g, 0, none⟩) n n) n (List.replicate n (.bool false))) : InvM w0 a0 n (L.setIfInBounds 5 true) (a.put (some 46) u) w' := by
  have hd : 46 < a.tmps.size := by rw [hS.ts, h297]; decide
  exact {
    sz := (by rw [Array.size_setIfInBounds]; exact hS.sz),
    df := (hS.df),
    ts := ((put_size _ _ _).trans hS.ts),
    fr := (fun j hj => (tm_other (fun e => hj (by subst e; decide))).trans (hS.fr j hj)),
    hb := (below_then hS.hb hbw),
    m0 := (fun h => (tm_other (by decide)).trans (hS.m0 (old_L h (by decide)))),
    m2 := (fun h => (tm_other (by decide)).trans (hS.m2 (old_L h (by decide)))),
    m4 := (fun h => (tm_other (by decide)).trans (hS.m4 (old_L h (by decide)))),
    k1 := (fun h => by obtain ⟨g, e, ho⟩ := hS.k1 (old_L h (by decide)); exact ⟨g, (tm_other (by decide)).trans e, own_below ho hbw⟩),
    k3 := (fun h => by obtain ⟨g, e, ho⟩ := hS.k3 (old_L h (by decide)); exact ⟨g, (tm_other (by decide)).trans e, own_below ho hbw⟩),
    k5 := (fun _ => by obtain ⟨g, e, ho⟩ := hnew; exact ⟨g, (tm_same hd).trans e, ho⟩),
    v6 := (fun h => by obtain ⟨p, v, e, hp, hB, hc⟩ := hS.v6 (old_L h (by decide)); exact ⟨p, v, (tm_other (by decide)).trans e, hp, hB.below hbw hB.lt, fun h9 => ⟨getD_set_true (hc (old_L h9 (by decide))).1, (hc (old_L h9 (by decide))).2.trans (tm_other (by decide)).symm⟩⟩),
    v7 := (fun h => by obtain ⟨p, v, e, hp, hB, hc⟩ := hS.v7 (old_L h (by decide)); exact ⟨p, v, (tm_other (by decide)).trans e, hp, hB.below hbw hB.lt, fun h9 => ⟨getD_set_true (hc (old_L h9 (by decide))).1, (hc (old_L h9 (by decide))).2.trans (tm_other (by decide)).symm⟩⟩),
    v8 := (fun h => by obtain ⟨p, v, e, hp, hB, hc⟩ := hS.v8 (old_L h (by decide)); exact ⟨p, v, (tm_other (by decide)).trans e, hp, hB.below hbw hB.lt, fun h9 => by have h1 := (hc (old_L h9 (by decide))).1; rw [hun] at h1; cases h1⟩),
    q6 := (fun h => getD_set_true (hS.q6 (old_L h (by decide)))),
    q7 := (fun h => getD_set_true (hS.q7 (old_L h (by decide)))),
    q8 := (fun h => getD_set_true (hS.q8 (old_L h (by decide)))) }
theorem inv_6 {w0 w w' : World} {a0 a : Act} {n : Nat} {L : Array Bool} {u : Value} (hS : InvM w0 a0 n L a w) (h297 : a0.tmps.size = 297) (hun : L.getD 6 false = false) (hbw : Below w.heap.size w w') (hnew : ∃ p v, u = .pointer (some ⟨p, 0, none⟩) ∧ w0.heap.size ≤ p ∧ Blk w' p 74 #[v]) : InvM w0 a0 n (L.setIfInBounds 6 true) (a.put (some 8) u) w' := by
  have hd : 8 < a.tmps.size := by rw [hS.ts, h297]; decide
  have hwait : L.getD 9 false = false := by
    cases h : L.getD 9 false with
    | false => rfl
    | true => have h1 := hS.q6 h; rw [hun] at h1; cases h1
  exact {
    sz := (by rw [Array.size_setIfInBounds]; exact hS.sz),
    df := (hS.df),
    ts := ((put_size _ _ _).trans hS.ts),
    fr := (fun j hj => (tm_other (fun e => hj (by subst e; decide))).trans (hS.fr j hj)),
    hb := (below_then hS.hb hbw),
    m0 := (fun h => (tm_other (by decide)).trans (hS.m0 (old_L h (by decide)))),
    m2 := (fun h => (tm_other (by decide)).trans (hS.m2 (old_L h (by decide)))),
    m4 := (fun h => (tm_other (by decide)).trans (hS.m4 (old_L h (by decide)))),
    k1 := (fun h => by obtain ⟨g, e, ho⟩ := hS.k1 (old_L h (by decide)); exact ⟨g, (tm_other (by decide)).trans e, own_below ho hbw⟩),
    k3 := (fun h => by obtain ⟨g, e, ho⟩ := hS.k3 (old_L h (by decide)); exact ⟨g, (tm_other (by decide)).trans e, own_below ho hbw⟩),
    k5 := (fun h => by obtain ⟨g, e, ho⟩ := hS.k5 (old_L h (by decide)); exact ⟨g, (tm_other (by decide)).trans e, own_below ho hbw⟩),
    v6 := (fun _ => by obtain ⟨p, v, e, hp, hB⟩ := hnew; exact ⟨p, v, (tm_same hd).trans e, hp, hB, fun h => by have h := old_L h (by decide); rw [hwait] at h; cases h⟩),
    v7 := (fun h => by obtain ⟨p, v, e, hp, hB, hc⟩ := hS.v7 (old_L h (by decide)); exact ⟨p, v, (tm_other (by decide)).trans e, hp, hB.below hbw hB.lt, fun h9 => ⟨getD_set_true (hc (old_L h9 (by decide))).1, (hc (old_L h9 (by decide))).2.trans (tm_other (by decide)).symm⟩⟩),
    v8 := (fun h => by obtain ⟨p, v, e, hp, hB, hc⟩ := hS.v8 (old_L h (by decide)); exact ⟨p, v, (tm_other (by decide)).trans e, hp, hB.below hbw hB.lt, fun h9 => ⟨getD_set_true (hc (old_L h9 (by decide))).1, (hc (old_L h9 (by decide))).2.trans (tm_other (by decide)).symm⟩⟩),
    q6 := (fun h => getD_set_true (hS.q6 (old_L h (by decide)))),
    q7 := (fun h => getD_set_true (hS.q7 (old_L h (by decide)))),
    q8 := (fun h => getD_set_true (hS.q8 (old_L h (by decide)))) }
theorem inv_7 {w0 w w' : World} {a0 a : Act} {n : Nat} {L : Array Bool} {u : Value} (hS : InvM w0 a0 n L a w) (h297 : a0.tmps.size = 297) (hun : L.getD 7 false = false) (hbw : Below w.heap.size w w') (hnew : ∃ p v, u = .pointer (some ⟨p, 0, none⟩) ∧ w0.heap.size ≤ p ∧ Blk w' p 22 #[v]) : InvM w0 a0 n (L.setIfInBounds 7 true) (a.put (some 9) u) w' := by
  have hd : 9 < a.tmps.size := by rw [hS.ts, h297]; decide
  have hwait : L.getD 10 false = false := by
    cases h : L.getD 10 false with
    | false => rfl
    | true => have h1 := hS.q7 h; rw [hun] at h1; cases h1
  exact {
    sz := (by rw [Array.size_setIfInBounds]; exact hS.sz),
    df := (hS.df),
    ts := ((put_size _ _ _).trans hS.ts),
    fr := (fun j hj => (tm_other (fun e => hj (by subst e; decide))).trans (hS.fr j hj)),
    hb := (below_then hS.hb hbw),
    m0 := (fun h => (tm_other (by decide)).trans (hS.m0 (old_L h (by decide)))),
    m2 := (fun h => (tm_other (by decide)).trans (hS.m2 (old_L h (by decide)))),
    m4 := (fun h => (tm_other (by decide)).trans (hS.m4 (old_L h (by decide)))),
    k1 := (fun h => by obtain ⟨g, e, ho⟩ := hS.k1 (old_L h (by decide)); exact ⟨g, (tm_other (by decide)).trans e, own_below ho hbw⟩),
    k3 := (fun h => by obtain ⟨g, e, ho⟩ := hS.k3 (old_L h (by decide)); exact ⟨g, (tm_other (by decide)).trans e, own_below ho hbw⟩),
    k5 := (fun h => by obtain ⟨g, e, ho⟩ := hS.k5 (old_L h (by decide)); exact ⟨g, (tm_other (by decide)).trans e, own_below ho hbw⟩),
    v6 := (fun h => by obtain ⟨p, v, e, hp, hB, hc⟩ := hS.v6 (old_L h (by decide)); exact ⟨p, v, (tm_other (by decide)).trans e, hp, hB.below hbw hB.lt, fun h9 => ⟨getD_set_true (hc (old_L h9 (by decide))).1, (hc (old_L h9 (by decide))).2.trans (tm_other (by decide)).symm⟩⟩),
    v7 := (fun _ => by obtain ⟨p, v, e, hp, hB⟩ := hnew; exact ⟨p, v, (tm_same hd).trans e, hp, hB, fun h => by have h := old_L h (by decide); rw [hwait] at h; cases h⟩),
    v8 := (fun h => by obtain ⟨p, v, e, hp, hB, hc⟩ := hS.v8 (old_L h (by decide)); exact ⟨p, v, (tm_other (by decide)).trans e, hp, hB.below hbw hB.lt, fun h9 => ⟨getD_set_true (hc (old_L h9 (by decide))).1, (hc (old_L h9 (by decide))).2.trans (tm_other (by decide)).symm⟩⟩),
    q6 := (fun h => getD_set_true (hS.q6 (old_L h (by decide)))),
    q7 := (fun h => getD_set_true (hS.q7 (old_L h (by decide)))),
    q8 := (fun h => getD_set_true (hS.q8 (old_L h (by decide)))) }
theorem inv_8 {w0 w w' : World} {a0 a : Act} {n : Nat} {L : Array Bool} {u : Value} (hS : InvM w0 a0 n L a w) (h297 : a0.tmps.size = 297) (hun : L.getD 8 false = false) (hbw : Below w.heap.size w w') (hnew : ∃ p v, u = .pointer (some ⟨p, 0, none⟩) ∧ w0.heap.size ≤ p ∧ Blk w' p 108 #[v]) : InvM w0 a0 n (L.setIfInBounds 8 true) (a.put (some 10) u) w' := by
  have hd : 10 < a.tmps.size := by rw [hS.ts, h297]; decide
  have hwait : L.getD 11 false = false := by
    cases h : L.getD 11 false with
    | false => rfl
    | true => have h1 := hS.q8 h; rw [hun] at h1; cases h1
  exact {
    sz := (by rw [Array.size_setIfInBounds]; exact hS.sz),
    df := (hS.df),
    ts := ((put_size _ _ _).trans hS.ts),
    fr := (fun j hj => (tm_other (fun e => hj (by subst e; decide))).trans (hS.fr j hj)),
    hb := (below_then hS.hb hbw),
    m0 := (fun h => (tm_other (by decide)).trans (hS.m0 (old_L h (by decide)))),
    m2 := (fun h => (tm_other (by decide)).trans (hS.m2 (old_L h (by decide)))),
    m4 := (fun h => (tm_other (by decide)).trans (hS.m4 (old_L h (by decide)))),
    k1 := (fun h => by obtain ⟨g, e, ho⟩ := hS.k1 (old_L h (by decide)); exact ⟨g, (tm_other (by decide)).trans e, own_below ho hbw⟩),
    k3 := (fun h => by obtain ⟨g, e, ho⟩ := hS.k3 (old_L h (by decide)); exact ⟨g, (tm_other (by decide)).trans e, own_below ho hbw⟩),
    k5 := (fun h => by obtain ⟨g, e, ho⟩ := hS.k5 (old_L h (by decide)); exact ⟨g, (tm_other (by decide)).trans e, own_below ho hbw⟩),
    v6 := (fun h => by obtain ⟨p, v, e, hp, hB, hc⟩ := hS.v6 (old_L h (by decide)); exact ⟨p, v, (tm_other (by decide)).trans e, hp, hB.below hbw hB.lt, fun h9 => ⟨getD_set_true (hc (old_L h9 (by decide))).1, (hc (old_L h9 (by decide))).2.trans (tm_other (by decide)).symm⟩⟩),
    v7 := (fun h => by obtain ⟨p, v, e, hp, hB, hc⟩ := hS.v7 (old_L h (by decide)); exact ⟨p, v, (tm_other (by decide)).trans e, hp, hB.below hbw hB.lt, fun h9 => ⟨getD_set_true (hc (old_L h9 (by decide))).1, (hc (old_L h9 (by decide))).2.trans (tm_other (by decide)).symm⟩⟩),
    v8 := (fun _ => by obtain ⟨p, v, e, hp, hB⟩ := hnew; exact ⟨p, v, (tm_same hd).trans e, hp, hB, fun h => by have h := old_L h (by decide); rw [hwait] at h; cases h⟩),
    q6 := (fun h => getD_set_true (hS.q6 (old_L h (by decide)))),
    q7 := (fun h => getD_set_true (hS.q7 (old_L h (by decide)))),
    q8 := (fun h => getD_set_true (hS.q8 (old_L h (by decide)))) }
theorem inv_9 {w0 w : World} {a0 a : Act} {n p : Nat} {v : Value} {L : Array Bool} (hS : InvM w0 a0 n L a w) (h6 : L.getD 6 false = true) (hmk : L.getD 1 false = true) (e : tm a 8 = .pointer (some ⟨p, 0, none⟩)) (hp : w0.heap.size ≤ p) (hB : Blk w p 74 #[v]) : InvM w0 a0 n (L.setIfInBounds 9 true) a (w.setCell ⟨p, 0, none⟩ (tm a 42)) :=
  {
    sz := (by rw [Array.size_setIfInBounds]; exact hS.sz),
    df := (hS.df),
    ts := (hS.ts),
    fr := (hS.fr),
    hb := (below_set hS.hb hp _),
    m0 := (fun h => hS.m0 (old_L h (by decide))),
    m2 := (fun h => hS.m2 (old_L h (by decide))),
    m4 := (fun h => hS.m4 (old_L h (by decide))),
    k1 := (fun h => by obtain ⟨g, e, ho⟩ := hS.k1 (old_L h (by decide)); exact ⟨g, e, own_setFar ho (blk_ne hB ho (by decide))⟩),
    k3 := (fun h => by obtain ⟨g, e, ho⟩ := hS.k3 (old_L h (by decide)); exact ⟨g, e, own_setFar ho (blk_ne hB ho (by decide))⟩),
    k5 := (fun h => by obtain ⟨g, e, ho⟩ := hS.k5 (old_L h (by decide)); exact ⟨g, e, own_setFar ho (blk_ne hB ho (by decide))⟩),
    v6 := (fun _ => ⟨p, tm a 42, e, hp, hB.stored 0 _, fun _ => ⟨by rw [getD_set_ne false (by decide)]; exact hmk, rfl⟩⟩),
    v7 := (fun h => by obtain ⟨p2, v2, e2, hp2, hB2, hc2⟩ := hS.v7 (old_L h (by decide)); exact ⟨p2, v2, e2, hp2, hB2.far (blk_apart hB2 hB (by decide)) _, fun h9 => ⟨getD_set_true (hc2 (old_L h9 (by decide))).1, (hc2 (old_L h9 (by decide))).2⟩⟩),
    v8 := (fun h => by obtain ⟨p2, v2, e2, hp2, hB2, hc2⟩ := hS.v8 (old_L h (by decide)); exact ⟨p2, v2, e2, hp2, hB2.far (blk_apart hB2 hB (by decide)) _, fun h9 => ⟨getD_set_true (hc2 (old_L h9 (by decide))).1, (hc2 (old_L h9 (by decide))).2⟩⟩),
    q6 := (fun _ => getD_set_true h6),
    q7 := (fun h => getD_set_true (hS.q7 (old_L h (by decide)))),
    q8 := (fun h => getD_set_true (hS.q8 (old_L h (by decide)))) }
theorem inv_10 {w0 w : World} {a0 a : Act} {n p : Nat} {v : Value} {L : Array Bool} (hS : InvM w0 a0 n L a w) (h6 : L.getD 7 false = true) (hmk : L.getD 3 false = true) (e : tm a 9 = .pointer (some ⟨p, 0, none⟩)) (hp : w0.heap.size ≤ p) (hB : Blk w p 22 #[v]) : InvM w0 a0 n (L.setIfInBounds 10 true) a (w.setCell ⟨p, 0, none⟩ (tm a 44)) :=
  {
    sz := (by rw [Array.size_setIfInBounds]; exact hS.sz),
    df := (hS.df),
    ts := (hS.ts),
    fr := (hS.fr),
    hb := (below_set hS.hb hp _),
    m0 := (fun h => hS.m0 (old_L h (by decide))),
    m2 := (fun h => hS.m2 (old_L h (by decide))),
    m4 := (fun h => hS.m4 (old_L h (by decide))),
    k1 := (fun h => by obtain ⟨g, e, ho⟩ := hS.k1 (old_L h (by decide)); exact ⟨g, e, own_setFar ho (blk_ne hB ho (by decide))⟩),
    k3 := (fun h => by obtain ⟨g, e, ho⟩ := hS.k3 (old_L h (by decide)); exact ⟨g, e, own_setFar ho (blk_ne hB ho (by decide))⟩),
    k5 := (fun h => by obtain ⟨g, e, ho⟩ := hS.k5 (old_L h (by decide)); exact ⟨g, e, own_setFar ho (blk_ne hB ho (by decide))⟩),
    v6 := (fun h => by obtain ⟨p2, v2, e2, hp2, hB2, hc2⟩ := hS.v6 (old_L h (by decide)); exact ⟨p2, v2, e2, hp2, hB2.far (blk_apart hB2 hB (by decide)) _, fun h9 => ⟨getD_set_true (hc2 (old_L h9 (by decide))).1, (hc2 (old_L h9 (by decide))).2⟩⟩),
    v7 := (fun _ => ⟨p, tm a 44, e, hp, hB.stored 0 _, fun _ => ⟨by rw [getD_set_ne false (by decide)]; exact hmk, rfl⟩⟩),
    v8 := (fun h => by obtain ⟨p2, v2, e2, hp2, hB2, hc2⟩ := hS.v8 (old_L h (by decide)); exact ⟨p2, v2, e2, hp2, hB2.far (blk_apart hB2 hB (by decide)) _, fun h9 => ⟨getD_set_true (hc2 (old_L h9 (by decide))).1, (hc2 (old_L h9 (by decide))).2⟩⟩),
    q6 := (fun h => getD_set_true (hS.q6 (old_L h (by decide)))),
    q7 := (fun _ => getD_set_true h6),
    q8 := (fun h => getD_set_true (hS.q8 (old_L h (by decide)))) }
theorem inv_11 {w0 w : World} {a0 a : Act} {n p : Nat} {v : Value} {L : Array Bool} (hS : InvM w0 a0 n L a w) (h6 : L.getD 8 false = true) (hmk : L.getD 5 false = true) (e : tm a 10 = .pointer (some ⟨p, 0, none⟩)) (hp : w0.heap.size ≤ p) (hB : Blk w p 108 #[v]) : InvM w0 a0 n (L.setIfInBounds 11 true) a (w.setCell ⟨p, 0, none⟩ (tm a 46)) :=
  {
    sz := (by rw [Array.size_setIfInBounds]; exact hS.sz),
    df := (hS.df),
    ts := (hS.ts),
    fr := (hS.fr),
    hb := (below_set hS.hb hp _),
    m0 := (fun h => hS.m0 (old_L h (by decide))),
    m2 := (fun h => hS.m2 (old_L h (by decide))),
    m4 := (fun h => hS.m4 (old_L h (by decide))),
    k1 := (fun h => by obtain ⟨g, e, ho⟩ := hS.k1 (old_L h (by decide)); exact ⟨g, e, own_setFar ho (blk_ne hB ho (by decide))⟩),
    k3 := (fun h => by obtain ⟨g, e, ho⟩ := hS.k3 (old_L h (by decide)); exact ⟨g, e, own_setFar ho (blk_ne hB ho (by decide))⟩),
    k5 := (fun h => by obtain ⟨g, e, ho⟩ := hS.k5 (old_L h (by decide)); exact ⟨g, e, own_setFar ho (blk_ne hB ho (by decide))⟩),
    v6 := (fun h => by obtain ⟨p2, v2, e2, hp2, hB2, hc2⟩ := hS.v6 (old_L h (by decide)); exact ⟨p2, v2, e2, hp2, hB2.far (blk_apart hB2 hB (by decide)) _, fun h9 => ⟨getD_set_true (hc2 (old_L h9 (by decide))).1, (hc2 (old_L h9 (by decide))).2⟩⟩),
    v7 := (fun h => by obtain ⟨p2, v2, e2, hp2, hB2, hc2⟩ := hS.v7 (old_L h (by decide)); exact ⟨p2, v2, e2, hp2, hB2.far (blk_apart hB2 hB (by decide)) _, fun h9 => ⟨getD_set_true (hc2 (old_L h9 (by decide))).1, (hc2 (old_L h9 (by decide))).2⟩⟩),
    v8 := (fun _ => ⟨p, tm a 46, e, hp, hB.stored 0 _, fun _ => ⟨by rw [getD_set_ne false (by decide)]; exact hmk, rfl⟩⟩),
    q6 := (fun h => getD_set_true (hS.q6 (old_L h (by decide)))),
    q7 := (fun h => getD_set_true (hS.q7 (old_L h (by decide)))),
    q8 := (fun _ => getD_set_true h6) }
theorem inv_zero {w : World} {a : Act} {n : Nat} : InvM w a n (Array.replicate 12 false) a w.drew := {
    sz := Array.size_replicate,
    df := rfl,
    ts := rfl,
    fr := (fun _ _ => rfl),
    hb := (Below.refl _ w).drew,
    m0 := (fun h => absurd h (by decide)),
    m2 := (fun h => absurd h (by decide)),
    m4 := (fun h => absurd h (by decide)),
    k1 := (fun h => absurd h (by decide)),
    k3 := (fun h => absurd h (by decide)),
    k5 := (fun h => absurd h (by decide)),
    v6 := (fun h => absurd h (by decide)),
    v7 := (fun h => absurd h (by decide)),
    v8 := (fun h => absurd h (by decide)),
    q6 := (fun h => absurd h (by decide)),
    q7 := (fun h => absurd h (by decide)),
    q8 := (fun h => absurd h (by decide)) }
end Go.Proofs.Ytpinfaoeggipmaa
