/- Several texts in one: BxT, BxG. -/
import Derived.Test.YtkmmlcnoeeaekaaGreatDoorBoxesMakeM23
/- Trees in memory: a slice of trees holds its trees; what is done elsewhere leaves them; a list of trees that the call builds. -/
namespace Go.Proofs.YtkmmlcnoeeaekaaGreatDoor
open Go.RowKit
set_option linter.unusedVariables false
set_option linter.unusedSimpArgs false

/-- A tree's cells, its kids at A. -/
def treeC (t : TreeV) (A : Option Addr) (n c : Nat) : List Value := [.int .i64 t.kind, .int .i64 t.node, .int .i64 0, .slice none 0 0, .string t.text, .slice A n c]
theorem treeC_len (t : TreeV) (A : Option Addr) (n c : Nat) : (treeC t A n c).length = 6 := rfl
theorem treeC_one (t : TreeV) (A : Option Addr) (n c : Nat) : ∀ u ∈ treeC t A n c, u.oneCell' = true := fun u hu => by
  simp [treeC] at hu
  rcases hu with rfl | rfl | rfl | rfl | rfl | rfl <;> rfl
mutual
/-- A tree's kids lie at A, n of them, in blocks of Q. -/
def TAt (w : World) (Q : Nat → Prop) : TreeV → Option Addr → Nat → Prop
  | .mk _ _ _ ks, A, n => ks.length = n ∧ (n = 0 ∨ ∃ b off, A = some ⟨b, off, none⟩ ∧ Q b ∧ TsAt w Q ks b off)
/-- Trees lie one behind the other from cell off of block b on. -/
def TsAt (w : World) (Q : Nat → Prop) : List TreeV → Nat → Nat → Prop
  | [], _, _ => True
  | t :: ts, b, off => (∃ A n c, (∀ j u, (treeC t A n c)[j]? = some u → w.cell? ⟨b, off + j, none⟩ = some u) ∧ TAt w Q t A n) ∧ TsAt w Q ts b (off + 6)
end
/-- The slice at A holds the trees ts. -/
def KidsAt (w : World) (Q : Nat → Prop) (ts : List TreeV) (A : Option Addr) (n : Nat) : Prop := ts.length = n ∧ (n = 0 ∨ ∃ b off, A = some ⟨b, off, none⟩ ∧ Q b ∧ TsAt w Q ts b off)
theorem tAt_kids {w : World} {Q : Nat → Prop} {t : TreeV} {A : Option Addr} {n : Nat} : TAt w Q t A n ↔ KidsAt w Q t.kids A n := by
  cases t with
  | mk k nd tx ks => rw [TAt]; rfl
theorem cell_same {w w' : World} {b off : Nat} (h : w'.heap[b]? = w.heap[b]?) : w'.cell? ⟨b, off, none⟩ = w.cell? ⟨b, off, none⟩ := World.cell?_of_block (w := w) h
mutual
theorem TAt.mono {w w' : World} {Q Q' : Nat → Prop} (hq : ∀ b, Q b → Q' b ∧ w'.heap[b]? = w.heap[b]?) : ∀ {t : TreeV} {A : Option Addr} {n : Nat}, TAt w Q t A n → TAt w' Q' t A n
  | .mk k nd tx ks, A, n, h => by
    rw [TAt] at h ⊢
    refine ⟨h.1, ?_⟩
    rcases h.2 with h0 | ⟨b, off, e, hb, hts⟩
    · exact .inl h0
    · exact .inr ⟨b, off, e, (hq b hb).1, TsAt.mono hq hb hts⟩
theorem TsAt.mono {w w' : World} {Q Q' : Nat → Prop} (hq : ∀ b, Q b → Q' b ∧ w'.heap[b]? = w.heap[b]?) : ∀ {ts : List TreeV} {b off : Nat}, Q b → TsAt w Q ts b off → TsAt w' Q' ts b off
  | [], _, _, _, _ => by rw [TsAt]; trivial
  | t :: ts, b, off, hb, h => by
    rw [TsAt] at h ⊢
    obtain ⟨⟨A, n, c, hc, ht⟩, hr⟩ := h
    exact ⟨⟨A, n, c, fun j u hu => (cell_same (hq b hb).2).trans (hc j u hu), TAt.mono hq ht⟩, TsAt.mono hq hb hr⟩
end
theorem KidsAt.mono {w w' : World} {Q Q' : Nat → Prop} (hq : ∀ b, Q b → Q' b ∧ w'.heap[b]? = w.heap[b]?) {ts : List TreeV} {A : Option Addr} {n : Nat} (h : KidsAt w Q ts A n) : KidsAt w' Q' ts A n := by
  refine ⟨h.1, ?_⟩
  rcases h.2 with h0 | ⟨b, off, e, hb, hts⟩
  · exact .inl h0
  · exact .inr ⟨b, off, e, (hq b hb).1, TsAt.mono hq hb hts⟩
theorem TsAt.drop {w : World} {Q : Nat → Prop} : ∀ {ts : List TreeV} {b off : Nat} (k : Nat), TsAt w Q ts b off → TsAt w Q (ts.drop k) b (off + 6 * k)
  | ts, b, off, 0, h => h
  | [], b, off, k + 1, h => by rw [List.drop_nil, TsAt]; trivial
  | t :: ts, b, off, k + 1, h => by
    rw [TsAt] at h
    have := TsAt.drop k h.2
    rw [List.drop_succ_cons, show off + 6 * (k + 1) = off + 6 + 6 * k from by omega]
    exact this
theorem TsAt.take {w : World} {Q : Nat → Prop} : ∀ {ts : List TreeV} {b off : Nat} (k : Nat), TsAt w Q ts b off → TsAt w Q (ts.take k) b off
  | ts, b, off, 0, h => by rw [List.take_zero, TsAt]; trivial
  | [], b, off, k + 1, h => by rw [List.take_nil, TsAt]; trivial
  | t :: ts, b, off, k + 1, h => by
    rw [TsAt] at h
    rw [List.take_succ_cons, TsAt]
    exact ⟨h.1, TsAt.take k h.2⟩
theorem TsAt.head {w : World} {Q : Nat → Prop} {t : TreeV} {ts : List TreeV} {b off : Nat} (h : TsAt w Q (t :: ts) b off) : ∃ A n c, (∀ j u, (treeC t A n c)[j]? = some u → w.cell? ⟨b, off + j, none⟩ = some u) ∧ KidsAt w Q t.kids A n := by
  rw [TsAt] at h
  obtain ⟨⟨A, n, c, hc, ht⟩, _⟩ := h
  exact ⟨A, n, c, hc, tAt_kids.1 ht⟩
theorem TsAt.at_ {w : World} {Q : Nat → Prop} {ts : List TreeV} {b off : Nat} (h : TsAt w Q ts b off) {i : Nat} (hi : i < ts.length) : ∃ A n c, (∀ j u, (treeC ts[i] A n c)[j]? = some u → w.cell? ⟨b, off + 6 * i + j, none⟩ = some u) ∧ KidsAt w Q ts[i].kids A n := by
  have h1 := h.drop i
  rw [List.drop_eq_getElem_cons hi] at h1
  exact h1.head
/-- A tree with where its kids lie. -/
abbrev RowT := TreeV × Option Addr × Nat × Nat
def rowC (r : RowT) : List Value := treeC r.1 r.2.1 r.2.2.1 r.2.2.2
theorem rowC_len (r : RowT) : (rowC r).length = 6 := rfl
/-- A list of trees that the call builds: the row is its own; the kids lie elsewhere, in blocks of Q. -/
structure OwnT (w : World) (base : Nat) (Q : Nat → Prop) (v : Value) (n : Nat) (rs : List RowT) : Prop where
  len : rs.length = n
  own : w.ownsRow base 75 6 v n (rs.flatMap rowC)
  kids : ∀ r ∈ rs, KidsAt w Q r.1.kids r.2.1 r.2.2.1
  low : ∀ b, Q b → b < w.heap.size
  far : ∀ b, Q b → v.ownBlock ≠ some b
theorem ownT_nil (w : World) (base : Nat) : OwnT w base (fun _ => False) (.slice none 0 0) 0 [] := ⟨rfl, World.ownsRow_nil _ _ _ _, fun r hr => (by cases hr), fun _ h => h.elim, fun _ h => h.elim⟩
theorem OwnT.below {w w' : World} {base n : Nat} {Q : Nat → Prop} {v : Value} {rs : List RowT} (h : OwnT w base Q v n rs) (hb : Below w.heap.size w w') : OwnT w' base Q v n rs :=
  ⟨h.len, own_below h.own hb, fun r hr => (h.kids r hr).mono fun b hq => ⟨hq, hb.block b (h.low b hq)⟩, fun b hq => Nat.lt_of_lt_of_le (h.low b hq) hb.size, h.far⟩
theorem OwnT.weaken {w : World} {base n : Nat} {Q Q' : Nat → Prop} {v : Value} {rs : List RowT} (h : OwnT w base Q v n rs) (hq : ∀ b, Q b → Q' b) (h1 : ∀ b, Q' b → b < w.heap.size) (h2 : ∀ b, Q' b → v.ownBlock ≠ some b) : OwnT w base Q' v n rs :=
  ⟨h.len, h.own, fun r hr => (h.kids r hr).mono fun b hb => ⟨hq b hb, rfl⟩, h1, h2⟩
/-- Trees appended. -/
theorem OwnT.app {w w' : World} {base n m : Nat} {Q : Nat → Prop} {v : Value} {rs ls : List RowT} {A9 : Option Addr} {c9 : Nat} (h : OwnT w base Q v n rs) (hm : ls.length = m) (hk : ∀ r ∈ ls, KidsAt w Q r.1.kids r.2.1 r.2.2.1)
    (ho : w'.ownsRow base 75 6 (.slice A9 (n + m) c9) (n + m) (rs.flatMap rowC ++ ls.flatMap rowC)) (hg : w.grownBy w' v.ownBlock) (hat : (Value.slice A9 (n + m) c9).ownBlock = v.ownBlock ∨ (Value.slice A9 (n + m) c9).ownBlock = some w.heap.size) : OwnT w' base Q (.slice A9 (n + m) c9) (n + m) (rs ++ ls) := by
  have hq : ∀ b, Q b → Q b ∧ w'.heap[b]? = w.heap[b]? := fun b hb => ⟨hb, hg.block b (h.low b hb) (fun e => h.far b hb e.symm)⟩
  refine ⟨by rw [List.length_append, h.len, hm], by rw [List.flatMap_append]; exact ho, fun r hr => ?_, fun b hb => Nat.lt_of_lt_of_le (h.low b hb) hg.size, fun b hb e => ?_⟩
  · rcases List.mem_append.1 hr with hr | hr
    · exact (h.kids r hr).mono hq
    · exact (hk r hr).mono hq
  · rcases hat with h1 | h1
    · exact h.far b hb (h1.symm.trans e)
    · rw [h1] at e
      have e2 : w.heap.size = b := by injection e
      have := h.low b hb
      omega
/-- What was built lies as a slice of trees. -/
theorem tsAt_rows {w : World} {Q : Nat → Prop} {b : Nat} : ∀ (rs : List RowT) (off : Nat), (∀ j u, (rs.flatMap rowC)[j]? = some u → w.cell? ⟨b, off + j, none⟩ = some u) → (∀ r ∈ rs, KidsAt w Q r.1.kids r.2.1 r.2.2.1) → TsAt w Q (rs.map (·.1)) b off
  | [], off, _, _ => by rw [List.map_nil, TsAt]; trivial
  | r :: rs, off, hc, hk => by
    rw [List.map_cons, TsAt]
    refine ⟨⟨r.2.1, r.2.2.1, r.2.2.2, fun j u hu => ?_, tAt_kids.2 (hk r (by simp))⟩, tsAt_rows rs (off + 6) (fun j u hu => ?_) (fun q hq => hk q (by simp [hq]))⟩
    · have hj : j < 6 := by
        rcases Nat.lt_or_ge j 6 with h1 | h1
        · exact h1
        · rw [List.getElem?_eq_none (by rw [treeC_len]; exact h1)] at hu; cases hu
      exact hc j u (by rw [List.flatMap_cons, List.getElem?_append_left (by rw [rowC_len]; exact hj)]; exact hu)
    · have := hc (6 + j) u (by rw [List.flatMap_cons, List.getElem?_append_right (by rw [rowC_len]; omega), rowC_len, show 6 + j - 6 = j from by omega]; exact hu)
      rw [← Nat.add_assoc] at this
      exact this
theorem OwnT.slice {w : World} {base n c : Nat} {Q : Nat → Prop} {A : Option Addr} {rs : List RowT} (h : OwnT w base Q (.slice A n c) n rs) : KidsAt w (fun b => Q b ∨ (Value.slice A n c).ownBlock = some b) (rs.map (·.1)) A n := by
  refine ⟨by rw [List.length_map]; exact h.len, ?_⟩
  rcases h.own.2 with ⟨h1, h0⟩ | ⟨g, cap, cur, hv, hb, hh, _⟩
  · exact .inl h0
  · have hA : A = some ⟨g, 0, none⟩ := by injection hv
    subst hA
    refine .inr ⟨g, 0, rfl, .inr rfl, tsAt_rows rs 0 (fun j u hu => ?_) (fun r hr => (h.kids r hr).mono fun b hb => ⟨.inl hb, rfl⟩)⟩
    rw [Nat.zero_add]
    exact (row_at h.own).1 j u hu
end Go.Proofs.YtkmmlcnoeeaekaaGreatDoor
/- Contract of maker.boxes, what box says by hypothesis. -/
namespace Go.Proofs.YtkmmlcnoeeaekaaGreatDoor
open Go.RowKit
set_option linter.unusedVariables false
set_option linter.unusedSimpArgs false

/-- Blocks from lo on, but for a slice's own. -/
def FreshQ (lo : Nat) (w : World) (v : Value) (b : Nat) : Prop := lo ≤ b ∧ b < w.heap.size ∧ v.ownBlock ≠ some b
/-- Blocks made between two worlds. -/
def MadeQ (w w' : World) (b : Nat) : Prop := w.heap.size ≤ b ∧ b < w'.heap.size
def OwnF (w : World) (lo : Nat) (v : Value) (n : Nat) (rs : List RowT) : Prop := OwnT w lo (FreshQ lo w v) v n rs
theorem ownF_nil (w : World) (lo : Nat) : OwnF w lo (.slice none 0 0) 0 [] :=
  (ownT_nil w lo).weaken (fun _ h => h.elim) (fun b h => h.2.1) (fun b h => h.2.2)
theorem OwnF.below {w w' : World} {lo n : Nat} {v : Value} {rs : List RowT} (h : OwnF w lo v n rs) (hb : Below w.heap.size w w') : OwnF w' lo v n rs := by
  have h1 := OwnT.below h hb
  exact h1.weaken (fun b hq => ⟨hq.1, Nat.lt_of_lt_of_le hq.2.1 hb.size, hq.2.2⟩) (fun b hq => hq.2.1) (fun b hq => hq.2.2)
/-- Trees appended whose kids a call has made since. -/
theorem OwnF.app {w0 w w' : World} {lo n m : Nat} {v : Value} {rs ls : List RowT} {A9 : Option Addr} {c9 : Nat} (h : OwnF w0 lo v n rs) (hb : Below w0.heap.size w0 w) (hlo : lo ≤ w0.heap.size) (hm : ls.length = m) (hk : ∀ r ∈ ls, KidsAt w (MadeQ w0 w) r.1.kids r.2.1 r.2.2.1)
    (ho : w'.ownsRow lo 75 6 (.slice A9 (n + m) c9) (n + m) (rs.flatMap rowC ++ ls.flatMap rowC)) (hg : w.grownBy w' v.ownBlock) (hat : (Value.slice A9 (n + m) c9).ownBlock = v.ownBlock ∨ (Value.slice A9 (n + m) c9).ownBlock = some w.heap.size) : OwnF w' lo (.slice A9 (n + m) c9) (n + m) (rs ++ ls) := by
  have h1 := OwnF.below h hb
  have hnew : ∀ b, MadeQ w0 w b → FreshQ lo w v b := fun b hq => ⟨Nat.le_trans hlo hq.1, hq.2, fun e => by
    have := (OwnT.own h).lt b e
    have h2 := hq.1
    omega⟩
  have h2 := OwnT.app h1 hm (fun r hr => (hk r hr).mono fun b hq => ⟨hnew b hq, rfl⟩) ho hg hat
  exact h2.weaken (fun b hq => ⟨hq.1, Nat.lt_of_lt_of_le hq.2.1 hg.size, h2.far b hq⟩) (fun b hq => hq.2.1) (fun b hq => hq.2.2)
theorem OwnF.slice {w : World} {n c : Nat} {w0 : World} {A : Option Addr} {rs : List RowT} (h : OwnF w w0.heap.size (.slice A n c) n rs) : KidsAt w (MadeQ w0 w) (rs.map (·.1)) A n := by
  refine (OwnT.slice h).mono fun b hq => ⟨?_, rfl⟩
  rcases hq with hq | hq
  · exact ⟨hq.1, hq.2.1⟩
  · exact (OwnT.own h).lt b hq
theorem info_treeB : (Tryz.prog.info? 75).map (fun i => (i.zero, i.size, i.bytes)) = some (some (.agg (treeC (.mk 0 0 noS []) none 0 0).toArray), 6, 88) := by kernel_rfl
theorem own_leT {w : World} {base n c size : Nat} {e : TypeId} {A : Option Addr} {xs : List Value} (h : w.ownsRow base e size (.slice A n c) n xs) : n ≤ c := by
  rcases h.2 with ⟨h1, h0⟩ | ⟨g, cap, cur, hv, hb, hh, h1, _⟩
  · omega
  · injection hv with _ _ h3
    omega
/-- What box says of a node. -/
def BoxSays (X : DocB) (I : BxV) (n : Nat) (w : World) : Prop := Calls Tryz.prog 65 #[mkA I, .int .i64 (n : Nat)] w fun e w' => ∃ A m c, e = .returned (.agg (treeC (X.box n) A m c).toArray) ∧ KidsAt w' (MadeQ w w') (X.box n).kids A m ∧ Below w.heap.size w w'
set_option maxRecDepth 100000 in
set_option maxHeartbeats 8000000 in
theorem boxesB_calls (X : DocB) (I : BxV) (l : List Nat) (Al : Option Addr) (nl cl : Nat) (w : World) (h : I.ok w w.heap.size) (hl : l.length = nl) (hL : Holds w w.heap.size Al (nums l)) (hm : nl ≤ 200)
    (IH : ∀ k ∈ l, ∀ w' : World, I.ok w' w'.heap.size → BoxSays X I k w') :
    Calls Tryz.prog 30 #[mkA I, .slice Al nl cl] w fun e w' => ∃ A c, e = .returned (.slice A nl c) ∧ nl ≤ c ∧ KidsAt w' (MadeQ w w') (l.map X.box) A nl ∧ Below w.heap.size w w' := by
  obtain ⟨iT, hiT, hzT0, hzT1, hzT2⟩ := info_partsK info_treeB
  have hba := below_alloc (Below.refl w.heap.size w) (.cells #[.slice I.A I.n I.c, .slice I.Al I.nl I.cl] 69)
  have HM := Lib.hid (Blk.new w 69 #[.slice I.A I.n I.c, .slice I.Al I.nl I.cl])
  have HW := Lib.hid hba
  have HOK := Lib.hid ((h.below hba (Nat.le_refl _)).more hba.size)
  have HLL := Lib.hid (Holds.more (hL.below hba (Nat.le_refl _)) hba.size)
  have HIH := Lib.hid IH
  have HL := Lib.hid hl
  clear h hba IH hl hL
  unfold BoxSays at HIH
  unfold mkA at HIH ⊢
  go_enter Tryz.func30, Tryz.ntmps30
  go_upto_region 1 with fail
  generalize World.alloc w _ = w1 at HM HW HOK HLL ⊢
  go_wp2_with fail
  go_loopw [5, 10] (fun vo i wr => ∃ (j : Nat) (A2 : Option Addr) (c2 : Nat) (rs : List RowT), j ≤ nl ∧ i = .int .i64 (j : Nat) ∧ vo = .slice A2 j c2 ∧ Hid (OwnF wr w1.heap.size (.slice A2 j c2) j rs) ∧ Hid (Below w1.heap.size w1 wr) ∧ Hid (rs.map (·.1) = (l.take j).map X.box)) (fun _ i _ => nl - (intOf i).toNat)
  case atStart => exact ⟨0, none, 0, [], Nat.zero_le _, rfl, rfl, ownF_nil _ _, Below.refl _ _, by show _ = _; simp⟩
  case round =>
    obtain ⟨j, A2, c2, rs, hj, rfl, rfl, HO, HB, HR⟩ := hrel
    by_cases hlt : j < nl
    · obtain ⟨b, off, hA, hb, hc⟩ := (HLL.out.below HB.out (Nat.le_refl _)) (by rw [nums_len, HL.out]; omega)
      subst hA
      obtain ⟨k, hk⟩ : ∃ k, k = l.getD j 0 := ⟨_, rfl⟩
      have hjl : j < l.length := by rw [HL.out]; exact hlt
      have hkm : k ∈ l := by rw [hk, List.getD_eq_getElem?_getD, List.getElem?_eq_getElem hjl]; exact List.getElem_mem hjl
      have k0 : wr.cell? ⟨b, off + j, none⟩ = some (.int .i64 (k : Nat)) := by
        have h1 := hc j (by rw [nums_len]; exact hjl)
        rw [h1, List.getD_eq_getElem?_getD, nums_at l hjl, ← hk]
        rfl
      have m0 : wr.cell? ⟨w.heap.size, 0, none⟩ = some (.slice I.A I.n I.c) := (HM.out.below HB.out HM.out.lt).cell 0
      have m1 : wr.cell? ⟨w.heap.size, 1, none⟩ = some (.slice I.Al I.nl I.cl) := (HM.out.below HB.out HM.out.lt).cell 1
      have HSN : Hid ((l.take (j + 1)).map X.box = (l.take j).map X.box ++ [X.box k]) := by
        show _ = _
        rw [List.take_succ_eq_append_getElem hjl, List.map_append, hk, List.getD_eq_getElem?_getD, List.getElem?_eq_getElem hjl]
        rfl
      have HBX := Lib.hid (HIH.out k hkm wr ((HOK.out.below HB.out (Nat.le_refl _)).more HB.out.size))
      clear hc hk hkm hb
      obtain ⟨tk, htk⟩ : ∃ tk, tk = X.box k := ⟨_, rfl⟩
      rw [← htk] at HBX HSN
      clear htk
      unfold treeC at HBX
      go_wp2_with (first | (go_at_call 65; refine HBX.out.mono ?_; rintro e w2 ⟨A7, m7, c7, rfl, hkd, hb2⟩; have HK7 := Lib.hid hkd; have HB7 := Lib.hid hb2; have HOA := Lib.hid (own_below (OwnT.own HO.out) (below_then hb2 (below_alloc (Below.refl w2.heap.size w2) (.cells #[.int .i64 tk.kind, .int .i64 tk.node, .int .i64 0, .slice none 0 0, .string tk.text, .slice A7 m7 c7] 75)))); have HBA := Lib.hid (below_then HB.out (below_then hb2 (below_alloc (Below.refl w2.heap.size w2) (.cells #[.int .i64 tk.kind, .int .i64 tk.node, .int .i64 0, .slice none 0 0, .string tk.text, .slice A7 m7 c7] 75)))); have HNB := Lib.hid (Blk.new w2 75 #[.int .i64 tk.kind, .int .i64 tk.node, .int .i64 0, .slice none 0 0, .string tk.text, .slice A7 m7 c7]); clear hkd hb2) | (at_builtin; refine wpList_append_any rfl _ _ 73 rfl w1.heap.size 75 iT (.agg (treeC (.mk 0 0 noS []) none 0 0).toArray) 6 88 Tryz.underlying73 hiT hzT0 hzT1 hzT2 rfl (by decide) (.slice A2 j c2) j (rs.flatMap rowC) rfl HOA.out (some ⟨w2.heap.size, 0, none⟩) 1 1 (rowC (tk, A7, m7, c7)) rfl rfl (.inl ⟨w2.heap.size, 0, rfl, fun j u hj => by rw [Nat.zero_add, HNB.out.cell j]; simpa [rowC, treeC] using hj⟩) (treeC_one _ _ _ _) (by unfold maxLen; omega) (by omega) HBA.out.size ?_; intro A9 c9 w9 ho9 hg9 hat9; have HO9 := Lib.hid (OwnF.app (ls := [(tk, A7, m7, c7)]) HO.out (below_then HB7.out (below_alloc (Below.refl w2.heap.size w2) (.cells #[.int .i64 tk.kind, .int .i64 tk.node, .int .i64 0, .slice none 0 0, .string tk.text, .slice A7 m7 c7] 75))) HB.out.size rfl (fun r hr => by simp at hr; subst hr; exact HK7.out.mono fun b hq => ⟨⟨hq.1, by have := hq.2; simp; omega⟩, (below_alloc (Below.refl w2.heap.size w2) _).block b hq.2⟩) (by simpa using ho9) hg9 hat9); have HB9 := Lib.hid (HBA.out.grown hg9 HBA.out.size (fun q hq => (HOA.out.lt q hq).1)); clear ho9 hg9 hat9))
      go_round
      case rel => exact ⟨j + 1, A9, c9, _, by omega, by go_num, rfl, HO9.out, HB9.out, by show _ = _; rw [List.map_append, HR.out, HSN.out]; rfl⟩
      case measure => simp [intOf]; omega
    · obtain rfl : j = nl := by omega
      have HE : Hid (rs.map (·.1) = l.map X.box) := by show _ = _; rw [HR.out, ← HL.out, List.take_length]
      go_wp2_with fail
      go_ret
      refine ⟨A2, c2, rfl, own_leT (OwnT.own HO.out), ?_, below_then HW.out HB.out⟩
      rw [← HE.out]
      refine (OwnF.slice HO.out).mono fun b hq => ⟨⟨Nat.le_trans HW.out.size hq.1, hq.2⟩, rfl⟩
end Go.Proofs.YtkmmlcnoeeaekaaGreatDoor
