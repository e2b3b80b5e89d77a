/- Several texts in one: StkO. -/
import Derived.Test.YtkmmlcnoeeaekaaGreatDoorPaintListM34
/- The order while it is made: marks, and the kids of each fragment. -/
namespace Go.Proofs.YtkmmlcnoeeaekaaGreatDoor
open Go.RowKit
set_option linter.unusedVariables false
set_option linter.unusedSimpArgs false

theorem info_mark : (Tryz.prog.info? 138).map (fun i => (i.zero, i.size, i.bytes)) = some (some (.agg #[.int .i64 0, .int .i64 0, .int .i64 0]), 3, 24) := by kernel_rfl
theorem info_kids : (Tryz.prog.info? 44).map (fun i => (i.zero, i.size, i.bytes)) = some (some (.slice none 0 0), 1, 24) := by kernel_rfl
/-- Blocks of a type are as they were. -/
def KeepT (e : TypeId) (w w' : World) : Prop := ∀ (g : Nat) (cs : Array Value), w.heap[g]? = some (Obj.cells cs e (0, 0)) → w'.heap[g]? = w.heap[g]?
section
variable {w w' w'' : World} {e : TypeId}
theorem KeepT.trans (h : KeepT e w w') (h' : KeepT e w' w'') : KeepT e w w'' := fun g cs hg => (h' g cs ((h g cs hg).trans hg)).trans (h g cs hg)
theorem KeepT.below (h : Below w.heap.size w w') : KeepT e w w' := fun g cs hg => h.block g (by
  rcases Nat.lt_or_ge g w.heap.size with h1 | h1
  · exact h1
  · rw [Array.getElem?_eq_none h1] at hg; cases hg)
theorem KeepT.set {g j : Nat} {t : TypeId} {cs : Array Value} {u : Value} (h : Blk w g t cs) (hne : t ≠ e) : KeepT e w (w.setCell ⟨g, j, none⟩ u) := fun g' cs' hg' => Below.heap_setCell w ⟨g, j, none⟩ u g' (fun e1 => by
  have e1 : g' = g := e1
  subst e1
  unfold Blk at h
  rw [h] at hg'
  injection hg' with h1
  injection h1 with h2 h3 h4
  exact hne h3)
theorem KeepT.grown {base size n : Nat} {e' : TypeId} {v : Value} {xs : List Value} (h : w.ownsRow base e' size v n xs) (hg : w.grownBy w' v.ownBlock) (hne : e' ≠ e) : KeepT e w w' := fun g cs hg' => hg.block g (by
  rcases Nat.lt_or_ge g w.heap.size with h1 | h1
  · exact h1
  · rw [Array.getElem?_eq_none h1] at hg'; cases hg') (fun e1 => by
  rcases h.2 with ⟨h1, _⟩ | ⟨g2, cap, cur, h1, _, h3, _⟩
  · rw [h1] at e1; cases e1
  · rw [h1] at e1
    injection e1 with e1
    subst e1
    rw [hg'] at h3
    injection h3 with h3
    injection h3 with h4 h5
    exact hne h5.symm)
theorem KeepT.setOwn {g cap j : Nat} {base size n : Nat} {e' : TypeId} {xs : List Value} {u : Value} (h : w.ownsRow base e' size (.slice (some ⟨g, 0, none⟩) n cap) n xs) (hne : e' ≠ e) : KeepT e w (w.setCell ⟨g, j, none⟩ u) := fun g' cs' hg' => Below.heap_setCell w ⟨g, j, none⟩ u g' (fun e1 => by
  have e1 : g' = g := e1
  subst e1
  rcases h.2 with ⟨h1, _⟩ | ⟨g2, cap, cur, h1, _, h3, _⟩
  · cases h1
  · injection h1 with h1
    injection h1 with h1
    injection h1 with h1
    subst h1
    rw [hg'] at h3
    injection h3 with h3
    injection h3 with h4 h5
    exact hne h5.symm)
theorem KeepT.own {base size n : Nat} {v : Value} {xs : List Value} (hk : KeepT e w w') (h : w.ownsRow base e size v n xs) : w'.ownsRow base e size v n xs := by
  refine ⟨h.1, ?_⟩
  rcases h.2 with h' | ⟨g, cap, cur, hv, h1, h2, h3⟩
  · exact .inl h'
  · exact .inr ⟨g, cap, cur, hv, h1, (hk g cur h2).trans h2, h3⟩
theorem KeepT.blk {g : Nat} {cs : Array Value} (hk : KeepT e w w') (h : Blk w g e cs) : Blk w' g e cs := (hk g cs h).trans h
end
def markR (L : LayV) (k : Nat) : List Value := [.int .i64 (isK (L.kd k) (L.st k)), .int .i64 (L.rankF k), .int .i64 (L.phaseF k)]
theorem markR_len (L : LayV) (k : Nat) : (markR L k).length = 3 := rfl
def kidsTo (L : LayV) (i k : Nat) : List Nat := (List.range i).filter (fun j => decide (0 < j) && L.par j == k)
theorem kidsTo_succ (L : LayV) (i k : Nat) : kidsTo L (i + 1) k = kidsTo L i k ++ if 0 < i ∧ L.par i = k then [i] else [] := by
  unfold kidsTo
  rw [List.range_succ, List.filter_append]
  congr 1
  by_cases h : 0 < i ∧ L.par i = k
  · rw [if_pos h]; simp [h.1, h.2]
  · rw [if_neg h]
    rw [List.filter_cons_of_neg (by simp; intro h1 h2; exact h ⟨h1, h2⟩)]
    rfl
theorem kidsTo_le (L : LayV) (i k : Nat) : (kidsTo L i k).length ≤ i := by
  unfold kidsTo
  have := List.length_filter_le (fun j => decide (0 < j) && L.par j == k) (List.range i)
  simpa using this
structure KidsL (L : LayV) (base : Nat) (KL : List Value) (i : Nat) (w : World) : Prop where
  len : KL.length = L.nf
  own : ∀ k, k < L.nf → ∃ A c, KL[k]? = some (.slice A (kidsTo L i k).length c) ∧ w.ownsRow base 3 1 (.slice A (kidsTo L i k).length c) (kidsTo L i k).length (nums (kidsTo L i k))
  ap : ∀ (k k' : Nat) (a b : Value), k ≠ k' → KL[k]? = some a → KL[k']? = some b → Ap a b
theorem KidsL.keep {L : LayV} {base i : Nat} {KL : List Value} {w w' : World} (h : KidsL L base KL i w) (hk : KeepT 3 w w') : KidsL L base KL i w' :=
  ⟨h.len, fun k hk' => by obtain ⟨A, c, h1, h2⟩ := h.own k hk'; exact ⟨A, c, h1, hk.own h2⟩, h.ap⟩
theorem KidsL.push {L : LayV} {base i n p : Nat} {KL : List Value} {vp v1 : Value} {w w1 : World} (h : KidsL L base KL i w) (h0 : 0 < i) (hp : p < L.nf) (hpi : L.par i = p) (hvp : KL[p]? = some vp) (hn : n = (kidsTo L i p).length) (o1 : w1.ownsRow base 3 1 v1 (n + 1) (nums (kidsTo L i p ++ [i]))) (hg : w.grownBy w1 vp.ownBlock)
    (hat : v1.ownBlock = vp.ownBlock ∨ v1.ownBlock = some w.heap.size) (hv : ∃ A c, v1 = .slice A (n + 1) c) : KidsL L base (KL.set p v1) (i + 1) w1 := by
  have hlp : p < KL.length := by rw [h.len]; exact hp
  refine ⟨by rw [List.length_set]; exact h.len, fun k hk => ?_, ?_⟩
  · by_cases e : k = p
    · subst e
      obtain ⟨A, c, rfl⟩ := hv
      have e2 : kidsTo L (i + 1) k = kidsTo L i k ++ [i] := by rw [kidsTo_succ, if_pos ⟨h0, hpi⟩]
      have e3 : (kidsTo L (i + 1) k).length = n + 1 := by rw [e2, hn]; simp
      refine ⟨A, c, by rw [List.getElem?_set_self hlp, e3], ?_⟩
      rw [e3, e2]; exact o1
    · have e2 : kidsTo L (i + 1) k = kidsTo L i k := by rw [kidsTo_succ, if_neg (fun h' => e (by rw [← h'.2, hpi]))]; simp
      obtain ⟨A, c, h1, h2⟩ := h.own k hk
      refine ⟨A, c, by rw [List.getElem?_set_ne (fun h' => e h'.symm), e2]; exact h1, ?_⟩
      rw [e2]
      exact own_grownFar h2 (h.ap p k _ _ (fun h' => e h'.symm) hvp h1) hg
  · have key : ∀ k b, k ≠ p → KL[k]? = some b → Ap v1 b := fun k b hk hb g h1 h2 => by
      have hkl : k < L.nf := by
        rw [← h.len]
        rcases Nat.lt_or_ge k KL.length with h3 | h3
        · exact h3
        · rw [List.getElem?_eq_none h3] at hb; cases hb
      obtain ⟨A, c, h3, h4⟩ := h.own k hkl
      rw [hb] at h3
      injection h3 with h3
      subst h3
      rcases hat with h5 | h5
      · exact h.ap p k _ _ (fun e => hk e.symm) hvp hb g (by rw [← h5]; exact h1) h2
      · rw [h5] at h1
        injection h1 with h1
        have := (h4.lt g h2).2
        omega
    intro k k' a b hne ha hb
    by_cases e : k = p
    · subst e
      rw [List.getElem?_set_self hlp] at ha
      injection ha with ha
      subst ha
      rw [List.getElem?_set_ne hne] at hb
      exact key k' b (fun e => hne e.symm) hb
    · rw [List.getElem?_set_ne (fun h' => e h'.symm)] at ha
      by_cases e' : k' = p
      · subst e'
        rw [List.getElem?_set_self hlp] at hb
        injection hb with hb
        subst hb
        exact (key k a e ha).symm
      · rw [List.getElem?_set_ne (fun h' => e' h'.symm)] at hb
        exact h.ap k k' a b hne ha hb
/-- The order behind m marks and i kids. -/
structure OSt (L : LayV) (W : World) (gO gK m i : Nat) (vM : Value) (KL : List Value) (w : World) : Prop where
  bel : Below W.heap.size W w
  blk : Blk w gO 136 #[vM, .slice (some ⟨gK, 0, none⟩) L.nf L.nf, .slice none 0 0]
  mks : w.ownsRow W.heap.size 138 3 vM m (rows m (markR L))
  ka : w.ownsRow W.heap.size 44 1 (.slice (some ⟨gK, 0, none⟩) L.nf L.nf) L.nf KL
  ki : KidsL L W.heap.size KL i w
  go : W.heap.size ≤ gO
section
variable {L : LayV} {W w w' w0 w1 : World} {gO gK m i : Nat} {vM v1 : Value} {KL : List Value}
theorem OSt.below (h : OSt L W gO gK m i vM KL w) (hb : Below w.heap.size w w') : OSt L W gO gK m i vM KL w' :=
  ⟨below_then h.bel hb, h.blk.below hb h.blk.lt, own_below h.mks hb, own_below h.ka hb, h.ki.keep (KeepT.below hb), h.go⟩
theorem OSt.drew (h : OSt L W gO gK m i vM KL w) : OSt L W gO gK m i vM KL w.drew := h.below (below_drewN (Below.refl _ _) 1)
theorem OSt.pushM (h : OSt L W gO gK m i vM KL w) (o1 : w1.ownsRow W.heap.size 138 3 v1 (m + 1) (rows m (markR L) ++ markR L m)) (hg : w.grownBy w1 vM.ownBlock) : OSt L W gO gK (m + 1) i v1 KL (w1.setCell ⟨gO, 0, none⟩ v1) := by
  have hb1 : Blk w1 gO 136 #[vM, .slice (some ⟨gK, 0, none⟩) L.nf L.nf, .slice none 0 0] := KeepT.blk (KeepT.grown h.mks hg (by decide)) h.blk
  have hne1 := blk_ne hb1 o1 (show (136 : TypeId) ≠ 138 by decide)
  have hbl1 := below_grownB h.bel h.mks (Nat.le_refl _) hg
  refine ⟨below_set hbl1 h.go _, hb1.stored 0 v1, ?_, ?_, ?_, h.go⟩
  · rw [rows_succ]; exact own_setFar o1 hne1
  · exact KeepT.own ((KeepT.grown h.mks hg (by decide)).trans (KeepT.set hb1 (by decide))) h.ka
  · exact h.ki.keep ((KeepT.grown h.mks hg (by decide)).trans (KeepT.set hb1 (by decide)))
theorem OSt.pushK {n p : Nat} {vp : Value} (h : OSt L W gO gK m i vM KL w) (h0 : 0 < i) (hp : p < L.nf) (hpi : L.par i = p) (hvp : KL[p]? = some vp) (hn : n = (kidsTo L i p).length) (hown : w.ownsRow W.heap.size 3 1 vp n (nums (kidsTo L i p))) (o1 : w1.ownsRow W.heap.size 3 1 v1 (n + 1) (nums (kidsTo L i p ++ [i]))) (hg : w.grownBy w1 vp.ownBlock)
    (hat : v1.ownBlock = vp.ownBlock ∨ v1.ownBlock = some w.heap.size) (hv : ∃ A c, v1 = .slice A (n + 1) c) : OSt L W gO gK m (i + 1) vM (KL.set p v1) (w1.setCell ⟨gK, p, none⟩ v1) := by
  have hka : w1.ownsRow W.heap.size 44 1 (.slice (some ⟨gK, 0, none⟩) L.nf L.nf) L.nf KL := KeepT.own (KeepT.grown hown hg (by decide)) h.ka
  have hkg : W.heap.size ≤ gK := (h.ka.lt gK rfl).1
  refine ⟨below_set (below_grownB h.bel hown (Nat.le_refl _) hg) hkg _, ?_, ?_, own_set hka, ?_, h.go⟩
  · exact KeepT.blk ((KeepT.grown hown hg (by decide)).trans (KeepT.setOwn hka (by decide))) h.blk
  · exact KeepT.own ((KeepT.grown hown hg (by decide)).trans (KeepT.setOwn hka (by decide))) h.mks
  · exact (h.ki.push h0 hp hpi hvp hn o1 hg hat hv).keep (KeepT.setOwn hka (by decide))
theorem OSt.skipK (h : OSt L W gO gK m 0 vM KL w) : OSt L W gO gK m 1 vM KL w := by
  have e : ∀ k, kidsTo L 1 k = kidsTo L 0 k := fun k => by rw [kidsTo_succ, if_neg (by omega)]; simp
  refine ⟨h.bel, h.blk, h.mks, h.ka, ⟨h.ki.len, fun k hk => ?_, h.ki.ap⟩, h.go⟩
  rw [e]; exact h.ki.own k hk
/-- Behind the last mark: the first is no less than a pocket. -/
theorem OSt.done {gM cM : Nat} (h : OSt L W gO gK L.nf L.nf (.slice (some ⟨gM, 0, none⟩) L.nf cM) KL w) (h0 : 0 < L.nf) (hp : ∀ k, 0 < k → k < L.nf → L.par k < k) (hnf : L.nf ≤ 1048576) :
    KSt L w.heap.size gO gM cM gK L.nf (.slice none 0 0) (w.setCell ⟨gM, 0, none⟩ (.int .i64 (L.isF 0))) := by
  have hmk := own_set (j := 0) (u := .int .i64 (L.isF 0)) h.mks
  have hgm := (h.mks.lt gM rfl)
  have hgk := (h.ka.lt gK rfl)
  have hneO := blk_ne h.blk h.mks (show (136 : TypeId) ≠ 138 by decide)
  have hneK := blk_ne h.blk h.ka (show (136 : TypeId) ≠ 44 by decide)
  have hmo : gM ≠ gO := fun e => hneO (by rw [e]; rfl)
  have hko : gK ≠ gO := fun e => hneK (by rw [e]; rfl)
  have hka' : (w.setCell ⟨gM, 0, none⟩ (.int .i64 (L.isF 0))).ownsRow W.heap.size 44 1 (.slice (some ⟨gK, 0, none⟩) L.nf L.nf) L.nf KL := KeepT.own (KeepT.setOwn h.mks (by decide)) h.ka
  have hki' : KidsL L W.heap.size KL L.nf (w.setCell ⟨gM, 0, none⟩ (.int .i64 (L.isF 0))) := h.ki.keep (KeepT.setOwn h.mks (by decide))
  refine ⟨KeepT.blk (KeepT.setOwn h.mks (by decide)) h.blk, fun k hk => ?_, fun k hk => ?_, hgm.2, hgk.2, h.blk.lt, hmo, hko, by simp, hp, hnf⟩
  · have hc : ∀ j, j < 3 → (w.setCell ⟨gM, 0, none⟩ (.int .i64 (L.isF 0))).cell? ⟨gM, k * 3 + j, none⟩ = some (if k * 3 + j = 0 then .int .i64 (L.isF 0) else (markR L k).getD j undef) := fun j hj => by
      refine own_cell hmk ?_
      have h1 := rows_at (fun i => markR_len L i) hk hj
      rw [List.getElem?_set]
      by_cases e : 0 = k * 3 + j
      · rw [if_pos e, if_pos (by rw [rows_len (fun i => markR_len L i)]; omega), if_pos e.symm]
      · rw [if_neg e, h1, if_neg (fun e' => e e'.symm)]
        have h2 : j < (markR L k).length := by rw [markR_len]; exact hj
        simp [List.getD, h2]
    have c0 := hc 0 (by omega)
    have c1 := hc 1 (by omega)
    have c2 := hc 2 (by omega)
    rw [if_neg (by omega)] at c1 c2
    refine ⟨?_, c1, c2⟩
    rw [Nat.add_zero] at c0
    rw [c0]
    by_cases e : k = 0
    · subst e; rw [if_pos (by omega)]
    · rw [if_neg (by omega)]
      unfold LayV.isF
      rw [if_neg e]; rfl
  · obtain ⟨A, c, h1, h2⟩ := hki'.own k hk
    have e : kidsTo L L.nf k = L.kidsF k := rfl
    rw [e] at h1 h2
    refine ⟨A, c, own_cell hka' h1, ?_⟩
    rcases h2.2 with ⟨h3, h4⟩ | ⟨b, cap, cur, h3, h4, h5, _⟩
    · injection h3 with h3
      exact .inl ⟨h3, h4⟩
    · injection h3 with h3
      subst h3
      refine .inr ⟨b, 0, rfl, ?_, ?_, ?_⟩
      · rcases Nat.lt_or_ge b (w.setCell ⟨gM, 0, none⟩ (.int .i64 (L.isF 0))).heap.size with h6 | h6
        · simpa using h6
        · rw [Array.getElem?_eq_none h6] at h5; cases h5
      · intro e1
        subst e1
        have h6 : Blk (w.setCell ⟨gM, 0, none⟩ (.int .i64 (L.isF 0))) b 136 _ := KeepT.blk (KeepT.setOwn h.mks (by decide)) h.blk
        unfold Blk at h6
        rw [h6] at h5
        injection h5 with h5
        injection h5 with h7 h8
        exact absurd h8 (by decide)
      · intro j u hj
        rw [Nat.zero_add]
        exact own_cell h2 hj
end
end Go.Proofs.YtkmmlcnoeeaekaaGreatDoor
