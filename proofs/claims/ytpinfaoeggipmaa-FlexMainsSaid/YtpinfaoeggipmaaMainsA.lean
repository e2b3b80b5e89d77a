/- The reference's Mains: its three lists in memory; contracts of its closures. -/
import Derived.Test.YtpinfaoeggipmaaMainsR
import Derived.Deep.QuietTactic
import Derived.BigQuiet
namespace Go.Proofs.Ytpinfaoeggipmaa
open Go.RowKit
set_option linter.unusedVariables false
set_option linter.unusedSimpArgs false
attribute [local go_sem high] run_min2 run_max2

def frowR (X : Nat → FlexV) (i : Nat) : List Value := flexF (X i)
theorem frowR_len (X : Nat → FlexV) (i : Nat) : (frowR X i).length = 6 := rfl
def isL (n : Nat) (st : Nat → FxSt) : List Int := (List.range n).map (fun i => (st i).is)
def seL (n : Nat) (st : Nat → FxSt) : List Value := (List.range n).map (fun i => Value.bool (st i).settled)
theorem range_set {α β : Type} (n k : Nat) (f : Nat → α) (g : α → β) (u : α) : ((List.range n).map (fun i => g (f i))).set k (g u) = (List.range n).map (fun i => g (if i = k then u else f i)) := by
  apply List.ext_getElem
  · simp
  · intro i h1 h2
    simp only [List.getElem_set, List.getElem_map, List.getElem_range]
    by_cases e : k = i
    · subst e; rw [if_pos rfl, if_pos rfl]
    · rw [if_neg e, if_neg (fun h => e h.symm)]
theorem isL_set (n k : Nat) (st : Nat → FxSt) (v : Int) : (ints (isL n st)).set k (.int .i64 v) = ints (isL n (fun i => if i = k then ⟨(st i).settled, v⟩ else st i)) := by
  have h := range_set n k (fun i => (st i).is) (Value.int .i64) v
  unfold ints isL
  rw [List.map_map, List.map_map]
  refine Eq.trans (Eq.trans ?_ h) ?_
  · rfl
  · apply List.map_congr_left
    intro i _
    by_cases e : i = k
    · simp [e]
    · simp [e]
theorem seL_set (n k : Nat) (st : Nat → FxSt) (v : Bool) : (seL n st).set k (.bool v) = seL n (fun i => if i = k then ⟨v, (st i).is⟩ else st i) := by
  have h := range_set n k (fun i => (st i).settled) Value.bool v
  unfold seL
  refine h.trans ?_
  apply List.map_congr_left
  intro i _
  by_cases e : i = k
  · simp [e]
  · simp [e]
theorem isL_at (n k : Nat) (st : Nat → FxSt) (hk : k < n) : (ints (isL n st))[k]? = some (.int .i64 (st k).is) := by simp [ints, isL, hk]
theorem seL_at (n k : Nat) (st : Nat → FxSt) (hk : k < n) : (seL n st)[k]? = some (.bool (st k).settled) := by simp [seL, hk]
theorem isL_congr {n : Nat} {st st' : Nat → FxSt} (h : ∀ i, i < n → st i = st' i) : isL n st = isL n st' := by
  unfold isL; apply List.map_congr_left; intro i hi; rw [h i (by simpa using hi)]
theorem seL_congr {n : Nat} {st st' : Nat → FxSt} (h : ∀ i, i < n → st i = st' i) : seL n st = seL n st' := by
  unfold seL; apply List.map_congr_left; intro i hi; rw [h i (by simpa using hi)]
/-- Where the three lists lie: the variables, the blocks; below T all. -/
structure Pl where
  pI : Nat
  pS : Nat
  pB : Nat
  gI : Nat
  gS : Nat
  gB : Nat
structure MAt (w : World) (g0 T : Nat) (a : Pl) (n : Nat) (X : Nat → FlexV) (st : Nat → FxSt) : Prop where
  bI : Blk w a.pI 74 #[.slice (some ⟨a.gI, 0, none⟩) n n]
  bS : Blk w a.pS 22 #[.slice (some ⟨a.gS, 0, none⟩) n n]
  bB : Blk w a.pB 108 #[.slice (some ⟨a.gB, 0, none⟩) n n]
  oI : w.ownsRow g0 95 6 (.slice (some ⟨a.gI, 0, none⟩) n n) n (rows n (frowR X))
  oS : w.ownsRow g0 3 1 (.slice (some ⟨a.gS, 0, none⟩) n n) n (ints (isL n st))
  oB : w.ownsRow g0 4 1 (.slice (some ⟨a.gB, 0, none⟩) n n) n (seL n st)
  hT : a.pI < T ∧ a.pS < T ∧ a.pB < T ∧ a.gI < T ∧ a.gS < T ∧ a.gB < T
  hg : g0 ≤ a.gI ∧ g0 ≤ a.gS ∧ g0 ≤ a.gB
section
variable {w w' : World} {g0 T n : Nat} {a : Pl} {X : Nat → FlexV} {st : Nat → FxSt}
theorem MAt.below (h : MAt w g0 T a n X st) (hb : Below w.heap.size w w') : MAt w' g0 T a n X st :=
  ⟨h.bI.below hb h.bI.lt, h.bS.below hb h.bS.lt, h.bB.below hb h.bB.lt, own_below h.oI hb, own_below h.oS hb, own_below h.oB hb, h.hT, h.hg⟩
theorem MAt.alloc (h : MAt w g0 T a n X st) (o : Obj) : MAt (w.alloc o) g0 T a n X st :=
  ⟨h.bI.alloc o, h.bS.alloc o, h.bB.alloc o, h.oI.alloc o, h.oS.alloc o, h.oB.alloc o, h.hT, h.hg⟩
theorem MAt.drew (h : MAt w g0 T a n X st) : MAt w.drew g0 T a n X st := ⟨h.bI, h.bS, h.bB, h.oI, h.oS, h.oB, h.hT, h.hg⟩
theorem MAt.drewN (h : MAt w g0 T a n X st) (m : Nat) : MAt (w.drewN m) g0 T a n X st := ⟨h.bI, h.bS, h.bB, h.oI, h.oS, h.oB, h.hT, h.hg⟩
theorem MAt.congr {st' : Nat → FxSt} (h : MAt w g0 T a n X st) (hs : ∀ i, i < n → st i = st' i) : MAt w g0 T a n X st' :=
  ⟨h.bI, h.bS, h.bB, h.oI, by rw [← isL_congr hs]; exact h.oS, by rw [← seL_congr hs]; exact h.oB, h.hT, h.hg⟩
theorem MAt.congrX {X' : Nat → FlexV} (h : MAt w g0 T a n X st) (hs : ∀ i, i < n → X i = X' i) : MAt w g0 T a n X' st :=
  ⟨h.bI, h.bS, h.bB, own_congr h.oI (fun i hi => by unfold frowR; rw [hs i hi]), h.oS, h.oB, h.hT, h.hg⟩
theorem MAt.far (h : MAt w g0 T a n X st) {b j : Nat} {u : Value} (hb : T ≤ b) : MAt (w.setCell ⟨b, j, none⟩ u) g0 T a n X st := by
  have hT := h.hT
  exact ⟨h.bI.far (by omega) _, h.bS.far (by omega) _, h.bB.far (by omega) _, own_setFar h.oI (by simp [Value.ownBlock]; omega), own_setFar h.oS (by simp [Value.ownBlock]; omega), own_setFar h.oB (by simp [Value.ownBlock]; omega), h.hT, h.hg⟩
theorem own_apart {e e' : TypeId} {size size' g g' : Nat} {xs xs' : List Value} (h : w.ownsRow g0 e size (.slice (some ⟨g, 0, none⟩) n n) n xs) (h' : w.ownsRow g0 e' size' (.slice (some ⟨g', 0, none⟩) n n) n xs') (hne : e ≠ e') : (Value.slice (some ⟨g, 0, none⟩) n n).ownBlock ≠ some g' := by
  rcases own_far h h' hne with h1 | h1
  · simp [Value.ownBlock] at h1
  · exact h1
theorem MAt.setIs (h : MAt w g0 T a n X st) (k : Nat) (v : Int) : MAt (w.setCell ⟨a.gS, k, none⟩ (.int .i64 v)) g0 T a n X (fun i => if i = k then ⟨(st i).settled, v⟩ else st i) :=
  ⟨h.bI.far (fun e => blk_ne h.bI h.oS (by decide) (by rw [e]; rfl)) _, h.bS.far (fun e => blk_ne h.bS h.oS (by decide) (by rw [e]; rfl)) _, h.bB.far (fun e => blk_ne h.bB h.oS (by decide) (by rw [e]; rfl)) _,
    own_setFar h.oI (own_apart h.oI h.oS (by decide)), by rw [← isL_set]; exact own_set h.oS,
    by have e : seL n (fun i => if i = k then (⟨(st i).settled, v⟩ : FxSt) else st i) = seL n st := (by unfold seL; apply List.map_congr_left; intro i _; by_cases e : i = k <;> simp [e])
       rw [e]; exact own_setFar h.oB (own_apart h.oB h.oS (by decide)), h.hT, h.hg⟩
theorem MAt.setSe (h : MAt w g0 T a n X st) (k : Nat) (v : Bool) : MAt (w.setCell ⟨a.gB, k, none⟩ (.bool v)) g0 T a n X (fun i => if i = k then ⟨v, (st i).is⟩ else st i) :=
  ⟨h.bI.far (fun e => blk_ne h.bI h.oB (by decide) (by rw [e]; rfl)) _, h.bS.far (fun e => blk_ne h.bS h.oB (by decide) (by rw [e]; rfl)) _, h.bB.far (fun e => blk_ne h.bB h.oB (by decide) (by rw [e]; rfl)) _,
    own_setFar h.oI (own_apart h.oI h.oB (by decide)),
    by have e : isL n (fun i => if i = k then (⟨v, (st i).is⟩ : FxSt) else st i) = isL n st := (by unfold isL; apply List.map_congr_left; intro i _; by_cases e : i = k <;> simp [e])
       rw [e]; exact own_setFar h.oS (own_apart h.oS h.oB (by decide)), by rw [← seL_set]; exact own_set h.oB, h.hT, h.hg⟩
theorem blk_farCells {g : Nat} {t : TypeId} {cs : Array Value} {b : Nat} (hb : g ≠ b) : ∀ (vs : List Value) (o : Nat) (w : World), Blk w g t cs → Blk (w.setCells b o vs) g t cs
  | [], _, _, h => h
  | v :: vs, o, w, h => blk_farCells hb vs (o + 1) _ (h.far hb v)
theorem MAt.setI (h : MAt w g0 T a n X st) {k : Nat} (hk : k < n) (x : FlexV) : MAt (w.setCells a.gI (k * 6) (flexF x)) g0 T a n (fun i => if i = k then x else X i) st :=
  ⟨blk_farCells (fun e => blk_ne h.bI h.oI (by decide) (by rw [e]; rfl)) _ _ _ h.bI, blk_farCells (fun e => blk_ne h.bS h.oI (by decide) (by rw [e]; rfl)) _ _ _ h.bS, blk_farCells (fun e => blk_ne h.bB h.oI (by decide) (by rw [e]; rfl)) _ _ _ h.bB,
    own_congr (own_rowSet (by omega) (frowR_len X) h.oI hk (vs := flexF x) rfl) (fun i hi => by unfold frowR; by_cases e : i = k <;> simp [e]),
    own_farCells (own_apart h.oS h.oI (by decide)) _ _ _ h.oS, own_farCells (own_apart h.oB h.oI (by decide)) _ _ _ h.oB, h.hT, h.hg⟩
theorem MAt.at (h : MAt w g0 T a n X st) {k : Nat} (hk : k < n) : ∀ j u, (flexF (X k))[j]? = some u → w.cell? ⟨a.gI, k * 6 + j, none⟩ = some u := fun j u hu => own_rowAt (frowR_len X) h.oI hk hu
theorem MAt.isAt (h : MAt w g0 T a n X st) {k : Nat} (hk : k < n) : w.cell? ⟨a.gS, k, none⟩ = some (.int .i64 (st k).is) := own_cell h.oS (isL_at n k st hk)
theorem MAt.seAt (h : MAt w g0 T a n X st) {k : Nat} (hk : k < n) : w.cell? ⟨a.gB, k, none⟩ = some (.bool (st k).settled) := own_cell h.oB (seL_at n k st hk)
theorem MAt.farS (h : MAt w g0 T a n X st) {g : Nat} {t : TypeId} {cs : Array Value} (hB : Blk w g t cs) (hg : T ≤ g) (j : Nat) (u : Value) : Blk (w.setCell ⟨a.gS, j, none⟩ u) g t cs := hB.far (by have := h.hT; omega) u
theorem MAt.farB (h : MAt w g0 T a n X st) {g : Nat} {t : TypeId} {cs : Array Value} (hB : Blk w g t cs) (hg : T ≤ g) (j : Nat) (u : Value) : Blk (w.setCell ⟨a.gB, j, none⟩ u) g t cs := hB.far (by have := h.hT; omega) u
theorem MAt.farI (h : MAt w g0 T a n X st) {g : Nat} {t : TypeId} {cs : Array Value} (hB : Blk w g t cs) (hg : T ≤ g) (o : Nat) (vs : List Value) : Blk (w.setCells a.gI o vs) g t cs := blk_farCells (by have := h.hT; omega) vs o w hB
end
theorem rfactor_calls (b lo hi g s e : Int) (gw : Bool) (pG : Nat) (w : World) (h : Blk w pG 4 #[.bool gw]) : Calls Try.prog 82 #[.agg #[.int .i64 b, .int .i64 lo, .int .i64 hi, .int .i64 g, .int .i64 s, .int .i64 e], .pointer (some ⟨pG, 0, none⟩)] w fun e' w' => e' = .returned (.int .i64 (if gw then g else s)) ∧ Below w.heap.size w w' := by
  have hbel := below_alloc (Below.refl _ w) (.cells #[.int .i64 b, .int .i64 lo, .int .i64 hi, .int .i64 g, .int .i64 s, .int .i64 e] 95)
  have c2 : (w.alloc (.cells #[.int .i64 b, .int .i64 lo, .int .i64 hi, .int .i64 g, .int .i64 s, .int .i64 e] 95)).cell? ⟨pG, 0, none⟩ = some (.bool gw) := (h.alloc _).cell 0
  clear h
  cases gw
  · go_enter Try.func82, Try.ntmps82
    go_wp2_with fail
    go_ret
    exact ⟨rfl, hbel⟩
  · go_enter Try.func82, Try.ntmps82
    go_wp2_with fail
    go_ret
    exact ⟨rfl, hbel⟩
theorem curs_bd (n m : Nat) (X : Nat → FlexV) (st : Nat → FxSt) (hx : ∀ i, FxOk (X i)) (hs : StOk st) (hm : m ≤ 1000) : -16777216000 ≤ sumTo (fun i => curF (X i) (st i)) m ∧ sumTo (fun i => curF (X i) (st i)) m ≤ 16777216000 := by
  have := sumTo_bd (fun i => curF (X i) (st i)) 16777216 (by omega) m (fun i _ => cur_bd _ _ (hx i) (hs i))
  have e : (16777216 : Int) * m ≤ 16777216 * 1000 := Int.mul_le_mul_of_nonneg_left (by omega) (by omega)
  omega
set_option maxRecDepth 100000 in
set_option maxHeartbeats 4000000 in
theorem rfree_calls (g0 T : Nat) (a : Pl) (n pL : Nat) (left : Int) (X : Nat → FlexV) (st : Nat → FxSt) (w : World) (h : MAt w g0 T a n X st) (hL : Blk w pL 3 #[.int .i64 left]) (hx : ∀ i, FxOk (X i)) (hs : StOk st) (hn : n ≤ 1000) (hl : -68719476736000 ≤ left ∧ left ≤ 68719476736000) :
    Calls Try.prog 83 #[.pointer (some ⟨pL, 0, none⟩), .pointer (some ⟨a.pI, 0, none⟩), .pointer (some ⟨a.pB, 0, none⟩), .pointer (some ⟨a.pS, 0, none⟩)] w fun e w' => e = .returned (.int .i64 (left - sumTo (fun i => curF (X i) (st i)) n)) ∧ Below w.heap.size w w' := by
  obtain ⟨pI, pS, pB, gI, gS, gB⟩ := a
  have q0 : w.cell? ⟨pL, 0, none⟩ = some (.int .i64 left) := hL.cell 0
  have q1 : w.cell? ⟨pI, 0, none⟩ = some (.slice (some ⟨gI, 0, none⟩) n n) := h.bI.cell 0
  have H := Lib.hid h
  have HS := Lib.hid hs
  have HX := Lib.hid hx
  obtain ⟨l0, l1⟩ := hl
  clear h hs hx hL
  go_enter Try.func83, Try.ntmps83
  go_wp2_with fail
  clear q0 q1
  go_loopw [5, 11] (fun v i wr => ∃ k : Nat, k ≤ n ∧ i = .int .i64 k ∧ v = .int .i64 (left - sumTo (fun i => curF (X i) (st i)) k) ∧ Below w.heap.size w wr) (fun _ i _ => n - (intOf i).toNat)
  case atStart => exact ⟨0, Nat.zero_le _, rfl, by simp [sumTo], Below.refl _ _⟩
  case round =>
    obtain ⟨k, hk, rfl, rfl, hbel⟩ := hrel
    by_cases hlt : k < n
    · have hR := H.out.below hbel
      have hat := hR.at hlt
      have hck := cur_bd (X k) (st k) (HX.out k) (HS.out k)
      have hf := curs_bd n k X st HX.out HS.out (by omega)
      have HSTEP := Lib.hid (show sumTo (fun i => curF (X i) (st i)) (k + 1) = sumTo (fun i => curF (X i) (st i)) k + curF (X k) (st k) from rfl)
      obtain ⟨p, hp⟩ : ∃ p, p = sumTo (fun i => curF (X i) (st i)) k := ⟨_, rfl⟩
      rw [← hp] at hf HSTEP ⊢
      have u0 : (wr.alloc (.cells #[.int .i64 (X k).b, .int .i64 (X k).lo, .int .i64 (X k).hi, .int .i64 (X k).g, .int .i64 (X k).s, .int .i64 (X k).e] 95)).cell? ⟨pB, 0, none⟩ = some (.slice (some ⟨gB, 0, none⟩) n n) := (hR.bB.alloc _).cell 0
      have u1 : (wr.alloc (.cells #[.int .i64 (X k).b, .int .i64 (X k).lo, .int .i64 (X k).hi, .int .i64 (X k).g, .int .i64 (X k).s, .int .i64 (X k).e] 95)).cell? ⟨pS, 0, none⟩ = some (.slice (some ⟨gS, 0, none⟩) n n) := (hR.bS.alloc _).cell 0
      have u2 : (wr.alloc (.cells #[.int .i64 (X k).b, .int .i64 (X k).lo, .int .i64 (X k).hi, .int .i64 (X k).g, .int .i64 (X k).s, .int .i64 (X k).e] 95)).cell? ⟨gB, k, none⟩ = some (.bool (st k).settled) := (hR.alloc _).seAt hlt
      have u3 : (wr.alloc (.cells #[.int .i64 (X k).b, .int .i64 (X k).lo, .int .i64 (X k).hi, .int .i64 (X k).g, .int .i64 (X k).s, .int .i64 (X k).e] 95)).cell? ⟨gS, k, none⟩ = some (.int .i64 (st k).is) := (hR.alloc _).isAt hlt
      obtain ⟨⟨b, lo, hi, g, s, e⟩, hxe⟩ : ∃ x, x = X k := ⟨_, rfl⟩
      obtain ⟨⟨sd, is⟩, hse⟩ : ∃ x, x = st k := ⟨_, rfl⟩
      rw [← hxe] at hat u0 u1 u2 u3
      rw [← hse] at u2 u3
      rw [← hxe, ← hse] at hck HSTEP
      have t0 : wr.cell? ⟨gI, k * 6, none⟩ = some (.int .i64 b) := hat 0 _ rfl
      have t1 : wr.cell? ⟨gI, k * 6 + 1, none⟩ = some (.int .i64 lo) := hat 1 _ rfl
      have t2 : wr.cell? ⟨gI, k * 6 + 2, none⟩ = some (.int .i64 hi) := hat 2 _ rfl
      have t3 : wr.cell? ⟨gI, k * 6 + 3, none⟩ = some (.int .i64 g) := hat 3 _ rfl
      have t4 : wr.cell? ⟨gI, k * 6 + 4, none⟩ = some (.int .i64 s) := hat 4 _ rfl
      have t5 : wr.cell? ⟨gI, k * 6 + 5, none⟩ = some (.int .i64 e) := hat 5 _ rfl
      obtain ⟨f0, f1⟩ := hf
      have KK := Lib.hid (show k ≤ n ∧ k < n from ⟨hk, hlt⟩)
      have HB2 := Lib.hid (below_alloc hbel (.cells #[.int .i64 b, .int .i64 lo, .int .i64 hi, .int .i64 g, .int .i64 s, .int .i64 e] 95))
      simp only at u0 u1 u2 u3
      clear hat hp hxe hse hR hbel
      cases sd
      · have HQ := Lib.hid (show left - sumTo (fun i => curF (X i) (st i)) (k + 1) = left - p - b from by rw [HSTEP.out]; show left - (p + b) = _; omega)
        have hcb : -16777216 ≤ b ∧ b ≤ 16777216 := hck
        obtain ⟨b0, b1⟩ := hcb
        clear hck
        go_wp2_with fail
        go_roundw
        case rel => exact ⟨k + 1, by have := KK.out; omega, by go_num, by rw [HQ.out], HB2.out⟩
        case measure => have := KK.out; simp [intOf]; omega
      · have HQ := Lib.hid (show left - sumTo (fun i => curF (X i) (st i)) (k + 1) = left - p - is from by rw [HSTEP.out]; show left - (p + is) = _; omega)
        have hcb : -16777216 ≤ is ∧ is ≤ 16777216 := hck
        obtain ⟨b0, b1⟩ := hcb
        clear hck
        go_wp2_with fail
        go_roundw
        case rel => exact ⟨k + 1, by have := KK.out; omega, by go_num, by rw [HQ.out], HB2.out⟩
        case measure => have := KK.out; simp [intOf]; omega
    · obtain rfl : k = n := by omega
      go_wp2_with fail
      go_ret
      exact ⟨rfl, hbel⟩
end Go.Proofs.Ytpinfaoeggipmaa
