/- Contract of the reference's Mains. -/
import Derived.Test.YtpinfaoeggipmaaMainsA
import Derived.Test.YtpinfaoeggipmaaRShare
import Derived.Deep.Cut
import Derived.Deep.CutRange
namespace Go.Proofs.Ytpinfaoeggipmaa
open Go.RowKit
set_option linter.unusedVariables false
set_option linter.unusedSimpArgs false
attribute [local go_sem high] run_min2 run_max2

def stZ (i : Nat) : FxSt := FxSt.zero
theorem isL_zero (n : Nat) : isL n stZ = List.replicate n 0 := by
  apply List.ext_getElem
  · simp [isL]
  · intro i h1 h2; simp [isL, stZ, FxSt.zero]
theorem seL_zero (n : Nat) : seL n stZ = List.replicate n (.bool false) := by
  apply List.ext_getElem
  · simp [seL]
  · intro i h1 h2; simp [seL, stZ, FxSt.zero]
/-- The first k of them. -/
def cutK (xs : Nat → FlexV) (k i : Nat) : FlexV := if i < k then xs i else FlexV.zero
theorem cutK_step (xs : Nat → FlexV) (k i : Nat) : (if i = k then xs k else cutK xs k i) = cutK xs (k + 1) i := by
  unfold cutK
  by_cases e : i = k
  · subst e; rw [if_pos rfl, if_pos (by omega)]
  · rw [if_neg e]
    by_cases e2 : i < k
    · rw [if_pos e2, if_pos (by omega)]
    · rw [if_neg e2, if_neg (by omega)]
def edgeS (xs : Nat → FlexV) (k : Nat) : Int := sumTo (fun i => (xs i).e) k
def longS (xs : Nat → FlexV) (k : Nat) : Int := sumTo (fun i => long (xs i)) k
theorem edge_bd (xs : Nat → FlexV) (hx : ∀ i, FxOk (xs i)) (k : Nat) (hk : k ≤ 1000) : -16777216000 ≤ edgeS xs k ∧ edgeS xs k ≤ 16777216000 := by
  have := sumTo_bd (fun i => (xs i).e) 16777216 (by omega) k (fun i _ => ⟨(hx i).e0, (hx i).e1⟩)
  have e : (16777216 : Int) * k ≤ 16777216 * 1000 := Int.mul_le_mul_of_nonneg_left (by omega) (by omega)
  unfold edgeS; omega
theorem longs_bd (xs : Nat → FlexV) (k : Nat) (hk : k ≤ 1000) : -16777216000 ≤ longS xs k ∧ longS xs k ≤ 16777216000 := by
  have := sumTo_bd (fun i => long (xs i)) 16777216 (by omega) k (fun i _ => long_bd _)
  have e : (16777216 : Int) * k ≤ 16777216 * 1000 := Int.mul_le_mul_of_nonneg_left (by omega) (by omega)
  unfold longS; omega
theorem sumTo_add (f g : Nat → Int) (n : Nat) : sumTo (fun i => f i + g i) n = sumTo f n + sumTo g n := by
  induction n with
  | zero => rfl
  | succ n ih => simp only [sumTo]; rw [ih]; omega
theorem free_split (room : Int) (n : Nat) (of : Nat → Int) (xs : Nat → FlexV) : freeF room n of xs = room - edgeS xs n - sumTo of n := by
  unfold freeF edgeS; rw [sumTo_add of (fun i => (xs i).e) n]; omega
/-- How many are not settled, read off the list. -/
def cntB (w : World) (g : Nat) : Nat → Nat
  | 0 => 0
  | k + 1 => cntB w g k + (match w.cell? ⟨g, k, none⟩ with | some (.bool true) => 0 | _ => 1)
theorem cntB_eq {w : World} {g0 T n : Nat} {pI pS pB gI gS gB : Nat} {X : Nat → FlexV} {st : Nat → FxSt} (h : MAt w g0 T ⟨pI, pS, pB, gI, gS, gB⟩ n X st) : ∀ m, m ≤ n → cntB w gB m = cntF m st
  | 0, _ => rfl
  | m + 1, hm => by
    have h1 : w.cell? ⟨gB, m, none⟩ = some (.bool (st m).settled) := h.seAt (show m < n by omega)
    simp only [cntB, cntF]
    rw [cntB_eq h m (by omega), h1]
    cases (st m).settled <;> rfl
theorem own_neT {w : World} {T n g gY : Nat} {a : Pl} {base size m c : Nat} {e : TypeId} {xs : List Value} (hT : a.pI < T ∧ a.pS < T ∧ a.pB < T ∧ a.gI < T ∧ a.gS < T ∧ a.gB < T) (h : w.ownsRow base e size (.slice (some ⟨gY, 0, none⟩) m c) n xs) (hg : T < gY) : (Value.slice (some ⟨gY, 0, none⟩) m c).ownBlock ≠ some a.gS := by
  simp [Value.ownBlock]; omega
theorem own_neT' {T m c g4 : Nat} {a : Pl} (hT : a.pI < T ∧ a.pS < T ∧ a.pB < T ∧ a.gI < T ∧ a.gS < T ∧ a.gB < T) (hg : T < g4) : (Value.slice (some ⟨g4, 0, none⟩) m c).ownBlock ≠ some a.gS := by
  simp [Value.ownBlock]; omega
theorem MAt.low {w w' : World} {g0 T n B : Nat} {a : Pl} {X : Nat → FlexV} {st : Nat → FxSt} (h : MAt w g0 T a n X st) (hb : Below B w w') (hB : T ≤ B) : MAt w' g0 T a n X st := by
  obtain ⟨h1, h2, h3, h4, h5, h6⟩ := h.hT
  exact ⟨h.bI.below hb (by omega), h.bS.below hb (by omega), h.bB.below hb (by omega), own_heap h.oI (fun g hg => by have : a.gI = g := by simpa [Value.ownBlock] using hg
                                                                                                                     subst this; exact hb.block _ (by omega)),
    own_heap h.oS (fun g hg => by have : a.gS = g := by simpa [Value.ownBlock] using hg
                                  subst this; exact hb.block _ (by omega)),
    own_heap h.oB (fun g hg => by have : a.gB = g := by simpa [Value.ownBlock] using hg
                                  subst this; exact hb.block _ (by omega)), h.hT, h.hg⟩
section
variable {P : Program} {ops : Array Oper} {Q : Exit → Act → World → Prop} {md : Region.Mode} {S : World → Prop} {T : List Nat}
theorem aF (i d : Nat) {op : Op} {ty : TypeId} {ps : String} {af : Array Edge} {gd : Option (Nat × Bool)} (v : Value) {fuel : Nat} {listed : Array Bool} {a : Act} {w : World} (hi : ops[i]? = some ⟨some d, op, ty, ps, af, gd⟩)
    (hy : ∀ w, (fun _ => True) w → (execOp a.eval ⟨some d, op, ty, ps, af, gd⟩).run P w = .ok (.value v) w) (hS : S w) (h : anyM P md ops Q S T fuel (listed.setIfInBounds i true) (a.put (some d) v) w)
    (hb : (Region.noSelect ops && Region.free md ops listed i && (Region.ready md ops listed).contains i && !T.contains i) = true := by kernel_rfl) (hQ : ∀ c a w, Q (.panic c) (a.put (some d) v) w → Q (.panic c) a w := by exact fun _ _ _ h => h) (hw : Region.wanted ⟨some d, op, ty, ps, af, gd⟩ (yielded ops a.tmps) = true := by kernel_rfl) : anyM P md ops Q S T (fuel + 1) listed a w :=
  anyM_free hi hb hQ (.inl ⟨hw, hy⟩) (fun _ => hS) h
theorem aT (i d : Nat) {op : Op} {ty : TypeId} {ps : String} {af : Array Edge} {gd : Option (Nat × Bool)} (v : Value) {fuel : Nat} {listed : Array Bool} {a : Act} {w : World} (hi : ops[i]? = some ⟨some d, op, ty, ps, af, gd⟩)
    (hy : ∀ w, S w → (execOp a.eval ⟨some d, op, ty, ps, af, gd⟩).run P w = .ok (.value v) w) (hS : S w) (h : anyM P md ops Q S T fuel (listed.setIfInBounds i true) (a.put (some d) v) w)
    (hb : (Region.noSelect ops && Region.free md ops listed i && (Region.ready md ops listed).contains i && lateB md ops T i && !lateL T listed && !T.contains i) = true := by kernel_rfl) (hQ : ∀ c a w, Q (.panic c) (a.put (some d) v) w → Q (.panic c) a w := by exact fun _ _ _ h => h) (hw : Region.wanted ⟨some d, op, ty, ps, af, gd⟩ (yielded ops a.tmps) = true := by kernel_rfl) : anyM P md ops Q S T (fuel + 1) listed a w :=
  anyM_take hi hb hQ (.inl ⟨hw, hy⟩) hS h
theorem aN (i d : Nat) {op : Op} {ty : TypeId} {ps : String} {af : Array Edge} {gd : Option (Nat × Bool)} {fuel : Nat} {listed : Array Bool} {a : Act} {w : World} (hi : ops[i]? = some ⟨some d, op, ty, ps, af, gd⟩)
    (hS : S w) (h : anyM P md ops Q S T fuel (listed.setIfInBounds i true) (a.put (some d) undef) w)
    (hb : (Region.noSelect ops && Region.free md ops listed i && (Region.ready md ops listed).contains i && !T.contains i) = true := by kernel_rfl) (hQ : ∀ c a w, Q (.panic c) (a.put (some d) undef) w → Q (.panic c) a w := by exact fun _ _ _ h => h) (hw : Region.wanted ⟨some d, op, ty, ps, af, gd⟩ (yielded ops a.tmps) = false := by kernel_rfl) : anyM P md ops Q S T (fuel + 1) listed a w :=
  anyM_free hi hb hQ (.inr ⟨hw, rfl⟩) (fun _ => hS) h
end
set_option maxRecDepth 100000 in
set_option maxHeartbeats 60000000 in
theorem rmains_calls (room gap : Int) (A : Option Addr) (n c B : Nat) (l : List FlexV) (w : World) (hn : l.length = n) (h : Holds w B A (l.flatMap flexF)) (hB : B ≤ w.heap.size) (hm : n ≤ 1000) :
    Calls Try.prog 53 #[.int .i64 room, .int .i64 gap, .slice A n c] w fun e w' => ∃ v, e = .returned v ∧ w'.ownsRow w.heap.size 3 1 v n (ints (mainsF room gap l)) ∧ Below w.heap.size w w' := by
  obtain ⟨i0, hi0, hz0, hz1, hz2⟩ := info_parts info_int
  obtain ⟨iF, hiF, hzF0, hzF1, hzF2⟩ := info_parts info_flex
  obtain ⟨iB, hiB, hzB0, hzB1, hzB2⟩ := info_parts info_bool
  have hc1 := cut_lo room
  have hc2 := cut_hi room
  have hc3 := cut_hi gap
  have hleft := left_bd room gap n hm
  have hP0 : 0 ≤ max 0 (cut gap) * max 0 ((n : Int) - 1) := Int.mul_nonneg (by omega) (by omega)
  have hP1 : max 0 (cut gap) * max 0 ((n : Int) - 1) ≤ 16777216 * 1000 :=
    Int.le_trans (Int.mul_le_mul_of_nonneg_right (by omega) (by omega)) (Int.mul_le_mul_of_nonneg_left (by omega) (by omega))
  obtain ⟨P, hP⟩ : ∃ P, P = max 0 (cut gap) * max 0 ((n : Int) - 1) := ⟨_, rfl⟩
  rw [← hP] at hP0 hP1
  have m1 : IntKind.i64.wrap (max 0 (cut gap) * max 0 ((n : Int) - 1)) = P := by rw [← hP]; exact IntWalk.i64_in _ (by omega)
  have m2 : wrap64 (max 0 (cut gap) * max 0 ((n : Int) - 1)) = P := by rw [← hP]; exact IntWalk.wrap64_in _ (by omega)
  have HLEFT := Lib.hid (show leftF room gap n = cut room - P from by unfold leftF; rw [hP])
  have HMAIN : Hid (mainsF room gap l = (List.range n).map (fun i => max 0 (endF room gap n (cutsF l) i).is)) := by show _ = _; unfold mainsF; rw [hn]
  have HOK := Lib.hid (cuts_ok l)
  have HFL : Hid (∀ k, fxb (l.getD k FlexV.zero) = cutsF l k) := fun _ => rfl
  obtain ⟨xs, hxs⟩ : ∃ xs, xs = cutsF l := ⟨_, rfl⟩
  rw [← hxs] at HMAIN HOK HFL
  have HN := Lib.hid hn
  have H := Lib.hid h
  clear hP h hn hxs
  go_enter Try.func53, Try.ntmps53
  go_wp2_with fail
  refine wp_region_noPanic ?_
  refine region_I (by kernel_rfl) (fun L a w' => InvM w _ n L a w') inv_zero ?_ ?_
  · as_aux_lemma =>
      intro L a w' i hi hS
      obtain ⟨hun, o, ho, hall⟩ := mem_ready.1 hi
      have hun := un_of hun
      have h7 : a.tmps.getD 7 undef = .int .i64 n := (hS.fr 7 (by decide)).trans rfl
      have hlt := (Array.getElem?_eq_some_iff.1 ho).1
      have hlt : i < 12 := hlt
      rcases (show i = 0 ∨ i = 1 ∨ i = 2 ∨ i = 3 ∨ i = 4 ∨ i = 5 ∨ i = 6 ∨ i = 7 ∨ i = 8 ∨ i = 9 ∨ i = 10 ∨ i = 11 by omega) with rfl | rfl | rfl | rfl | rfl | rfl | rfl | rfl | rfl | rfl | rfl | rfl
      · cases ho
        refine wpOp_step (i := 0) rfl fun K hK' => ?_
        have hK := Lib.hid hK'
        clear hK'
        rw [if_pos (by rfl)]
        have hq := inv_0 hS rfl hun (Below.refl _ _) (u := .int .i64 n) rfl
        unfold Oper.wp
        have e7 : a.eval (.tmp 7) = .int .i64 n := h7
        simp [execOp, e7, Result.andThen]
        exact hK.out _ _ hq
      · cases ho
        have e41 : a.eval (.tmp 41) = .int .i64 n := hS.m0 (hall { on := 0, ground := .data } (by simp) rfl)
        refine wpOp_step (i := 1) rfl fun K hK' => ?_
        have hK := Lib.hid hK'
        clear hK'
        refine step_make_full rfl (.tmp 41) (.tmp 41) 74 rfl w.heap.size 95 iF _ 6 Try.underlying74 hiF hzF0 hzF1 .i64 .i64 _ _ n e41 e41 rfl rfl (by rw [hzF2]; omega) (by unfold maxLen; omega) hS.hb.size ?_
        intro w2 hown hg
        exact hK.out _ _ (inv_1 hS rfl hun (below_made (Below.refl _ w') hg) ⟨_, rfl, by rw [rows_made (L := 6) (by omega) (Value.agg (flexF FlexV.zero).toArray).cells rfl n] at hown; exact hown⟩)
      · cases ho
        refine wpOp_step (i := 2) rfl fun K hK' => ?_
        have hK := Lib.hid hK'
        clear hK'
        rw [if_pos (by rfl)]
        have hq := inv_2 hS rfl hun (Below.refl _ _) (u := .int .i64 n) rfl
        unfold Oper.wp
        have e7 : a.eval (.tmp 7) = .int .i64 n := h7
        simp [execOp, e7, Result.andThen]
        exact hK.out _ _ hq
      · cases ho
        have e43 : a.eval (.tmp 43) = .int .i64 n := hS.m2 (hall { on := 2, ground := .data } (by simp) rfl)
        refine wpOp_step (i := 3) rfl fun K hK' => ?_
        have hK := Lib.hid hK'
        clear hK'
        refine step_make_full rfl (.tmp 43) (.tmp 43) 22 rfl w.heap.size 3 i0 (.int .i64 0) 1 Try.underlying22 hi0 hz0 hz1 .i64 .i64 _ _ n e43 e43 rfl rfl (by rw [hz2]; omega) (by unfold maxLen; omega) hS.hb.size ?_
        intro w2 hown hg
        exact hK.out _ _ (inv_3 hS rfl hun (below_made (Below.refl _ w') hg) ⟨_, rfl, by rw [zeros_ints] at hown; exact hown⟩)
      · cases ho
        refine wpOp_step (i := 4) rfl fun K hK' => ?_
        have hK := Lib.hid hK'
        clear hK'
        rw [if_pos (by rfl)]
        have hq := inv_4 hS rfl hun (Below.refl _ _) (u := .int .i64 n) rfl
        unfold Oper.wp
        have e7 : a.eval (.tmp 7) = .int .i64 n := h7
        simp [execOp, e7, Result.andThen]
        exact hK.out _ _ hq
      · cases ho
        have e45 : a.eval (.tmp 45) = .int .i64 n := hS.m4 (hall { on := 4, ground := .data } (by simp) rfl)
        refine wpOp_step (i := 5) rfl fun K hK' => ?_
        have hK := Lib.hid hK'
        clear hK'
        refine step_make_full rfl (.tmp 45) (.tmp 45) 108 rfl w.heap.size 4 iB (.bool false) 1 Try.underlying108 hiB hzB0 hzB1 .i64 .i64 _ _ n e45 e45 rfl rfl (by rw [hzB2]; omega) (by unfold maxLen; omega) hS.hb.size ?_
        intro w2 hown hg
        exact hK.out _ _ (inv_5 hS rfl hun (below_made (Below.refl _ w') hg) ⟨_, rfl, by rw [show (madeCells (Value.bool false).cells (n * 1)).toList = List.replicate n (.bool false) from (by show (madeCells #[Value.bool false] (n * 1)).toList = _; rw [toList_madeCells_one]; simp)] at hown; exact hown⟩)
      · cases ho
        refine wpOp_step (i := 6) rfl fun K hK' => ?_
        have hK := Lib.hid hK'
        clear hK'
        rw [if_pos (by rfl)]
        have hq := inv_6 hS rfl hun (below_alloc (Below.refl _ w') (.cells #[.slice none 0 0] 74)) ⟨_, _, rfl, hS.hb.size, Blk.new w' 74 #[.slice none 0 0]⟩
        go_simp
        exact hK.out _ _ hq
      · cases ho
        refine wpOp_step (i := 7) rfl fun K hK' => ?_
        have hK := Lib.hid hK'
        clear hK'
        rw [if_pos (by rfl)]
        have hq := inv_7 hS rfl hun (below_alloc (Below.refl _ w') (.cells #[.slice none 0 0] 22)) ⟨_, _, rfl, hS.hb.size, Blk.new w' 22 #[.slice none 0 0]⟩
        go_simp
        exact hK.out _ _ hq
      · cases ho
        refine wpOp_step (i := 8) rfl fun K hK' => ?_
        have hK := Lib.hid hK'
        clear hK'
        rw [if_pos (by rfl)]
        have hq := inv_8 hS rfl hun (below_alloc (Below.refl _ w') (.cells #[.slice none 0 0] 108)) ⟨_, _, rfl, hS.hb.size, Blk.new w' 108 #[.slice none 0 0]⟩
        go_simp
        exact hK.out _ _ hq
      · cases ho
        have h6 := hall { on := 6, ground := .data } (by simp) rfl
        have h1 := hall { on := 1, ground := .data } (by simp) rfl
        obtain ⟨p, v, ep, hp, hB, _⟩ := hS.v6 h6
        obtain ⟨g, eg, _⟩ := hS.k1 h1
        have hq := inv_9 hS h6 h1 ep hp hB
        rw [eg] at hq
        refine wpOp_step (i := 9) rfl fun K hK' => ?_
        have hK := Lib.hid hK'
        clear hK'
        rw [if_pos (by rfl)]
        have ep : a.tmps.getD 8 undef = .pointer (some ⟨p, 0, none⟩) := ep
        have eg : a.tmps.getD 42 undef = .slice (some ⟨g, 0, none⟩) n n := eg
        have c0 : w'.cell? ⟨p, 0, none⟩ = some v := hB.cell 0
        have z0 : w'.frozen? ⟨p, 0, none⟩ = false := hB.free 0
        go_simp
        exact hK.out _ _ hq
      · cases ho
        have h6 := hall { on := 7, ground := .data } (by simp) rfl
        have h1 := hall { on := 3, ground := .data } (by simp) rfl
        obtain ⟨p, v, ep, hp, hB, _⟩ := hS.v7 h6
        obtain ⟨g, eg, _⟩ := hS.k3 h1
        have hq := inv_10 hS h6 h1 ep hp hB
        rw [eg] at hq
        refine wpOp_step (i := 10) rfl fun K hK' => ?_
        have hK := Lib.hid hK'
        clear hK'
        rw [if_pos (by rfl)]
        have ep : a.tmps.getD 9 undef = .pointer (some ⟨p, 0, none⟩) := ep
        have eg : a.tmps.getD 44 undef = .slice (some ⟨g, 0, none⟩) n n := eg
        have c0 : w'.cell? ⟨p, 0, none⟩ = some v := hB.cell 0
        have z0 : w'.frozen? ⟨p, 0, none⟩ = false := hB.free 0
        go_simp
        exact hK.out _ _ hq
      · cases ho
        have h6 := hall { on := 8, ground := .data } (by simp) rfl
        have h1 := hall { on := 5, ground := .data } (by simp) rfl
        obtain ⟨p, v, ep, hp, hB, _⟩ := hS.v8 h6
        obtain ⟨g, eg, _⟩ := hS.k5 h1
        have hq := inv_11 hS h6 h1 ep hp hB
        rw [eg] at hq
        refine wpOp_step (i := 11) rfl fun K hK' => ?_
        have hK := Lib.hid hK'
        clear hK'
        rw [if_pos (by rfl)]
        have ep : a.tmps.getD 10 undef = .pointer (some ⟨p, 0, none⟩) := ep
        have eg : a.tmps.getD 46 undef = .slice (some ⟨g, 0, none⟩) n n := eg
        have c0 : w'.cell? ⟨p, 0, none⟩ = some v := hB.cell 0
        have z0 : w'.frozen? ⟨p, 0, none⟩ = false := hB.free 0
        go_simp
        exact hK.out _ _ hq
  · intro L a w1 hr hS
    have hall := all_listed (order_ok (by kernel_rfl)) hS.sz hr
    obtain ⟨gI, eI, oI⟩ := hS.k1 (hall 1 (by decide))
    obtain ⟨gS, eS, oS⟩ := hS.k3 (hall 3 (by decide))
    obtain ⟨gB, eB, oB⟩ := hS.k5 (hall 5 (by decide))
    obtain ⟨pI, vI, fI, lI, bI, cI⟩ := hS.v6 (hall 6 (by decide))
    obtain ⟨pS, vS, fS, lS, bS, cS⟩ := hS.v7 (hall 7 (by decide))
    obtain ⟨pB, vB, fB, lB, bB, cB⟩ := hS.v8 (hall 8 (by decide))
    have cI := (cI (hall 9 (by decide))).2.trans eI
    have cS := (cS (hall 10 (by decide))).2.trans eS
    have cB := (cB (hall 11 (by decide))).2.trans eB
    subst cI
    subst cS
    subst cB
    have hM : MAt w1 w.heap.size w1.heap.size ⟨pI, pS, pB, gI, gS, gB⟩ n (cutK xs 0) stZ :=
      ⟨bI, bS, bB, own_congr oI (fun i hi => rfl), by rw [isL_zero]; exact oS, by rw [seL_zero]; exact oB, ⟨bI.lt, bS.lt, bB.lt, (oI.lt _ rfl).2, (oS.lt _ rfl).2, (oB.lt _ rfl).2⟩, ⟨(oI.lt _ rfl).1, (oS.lt _ rfl).1, (oB.lt _ rfl).1⟩⟩
    have hT := tmps_of [41, 42, 43, 44, 45, 46, 8, 9, 10] _ _ hS.ts hS.fr
    have e41 := hS.m0 (hall 0 (by decide))
    have e43 := hS.m2 (hall 2 (by decide))
    have e45 := hS.m4 (hall 4 (by decide))
    have hdf := hS.df
    have hbel := hS.hb
    obtain ⟨tmps, defers⟩ := a
    unfold tm at e41 e43 e45 eI eS eB fI fS fB
    simp only at hT hdf e41 e43 e45 eI eS eB fI fS fB
    simp only [List.foldl_cons, List.foldl_nil, e41, e43, e45, eI, eS, eB, fI, fS, fB] at hT
    subst hdf
    rw [hT]
    refine NoPanic.normal ?_
    try simp only [Act.put, Array.toArray_toList, List.setIfInBounds_toArray, List.set_cons_zero, List.set_cons_succ]
    have HM := Lib.hid hM
    have HBL := Lib.hid hbel
    have HPL := Lib.hid (show w.heap.size ≤ pI ∧ w.heap.size ≤ pS ∧ w.heap.size ≤ pB from ⟨lI, lS, lB⟩)
    have hwT := hbel.size
    clear hall eI oI eS oS eB oB fI lI bI fS lS bS fB lB bB hT e41 e43 e45 hM hS hr hbel cI cS cB
    obtain ⟨T, hT⟩ : ∃ x, x = w1.heap.size := ⟨_, rfl⟩
    have hL0 := Blk.new w1 3 #[.int .i64 (cut room - P)]
    have hM0 := HM.out.alloc (.cells #[.int .i64 (cut room - P)] 3)
    have hb0 := below_alloc HBL.out (.cells #[.int .i64 (cut room - P)] 3)
    go_upto_region 5 with (first | (go_at_call 20; refine (rcut_calls _ _).mono ?_; rintro e w' ⟨rfl, rfl⟩) | (go_at_call 71; refine (rszp_calls _ _).mono ?_; rintro e w' ⟨rfl, rfl⟩))
    rw [← hT] at hL0 hM0 hwT
    rw [← hT]
    generalize World.alloc w1 _ = w2 at hL0 hM0 hb0 ⊢
    obtain ⟨L, hL⟩ : ∃ x, x = cut room - P := ⟨_, rfl⟩
    rw [← hL] at HLEFT hL0
    have hLb : -17179869184000 ≤ L ∧ L ≤ 17179869184000 := by omega
    have HLB := Lib.hid hLb
    have HM2 := Lib.hid hM0
    have HL2 := Lib.hid hL0
    have HB2 := Lib.hid hb0
    have HWT := Lib.hid hwT
    clear hL0 hM0 hb0 HM HBL hT m1 m2 hP0 hP1 hc1 hc2 hc3 hleft hwT hLb hL
    have HGI := Lib.hid (show w.heap.size ≤ gI from HM2.out.hg.1)
    have HGS := Lib.hid (show w.heap.size ≤ gS from HM2.out.hg.2.1)
    have HGB := Lib.hid (show w.heap.size ≤ gB from HM2.out.hg.2.2)
    go_wp2_with fail
    go_loopw [12, 58] (fun v i wr => ∃ k : Nat, k ≤ n ∧ i = .int .i64 k ∧ v = .int .i64 (longS xs k) ∧ MAt wr w.heap.size T ⟨pI, pS, pB, gI, gS, gB⟩ n (cutK xs k) stZ ∧ Blk wr T 3 #[.int .i64 (L - edgeS xs k)] ∧ Below w.heap.size w wr) (fun _ i _ => n - (intOf i).toNat)
    case atStart => exact ⟨0, Nat.zero_le _, rfl, rfl, HM2.out, by rw [show L - edgeS xs 0 = L from Int.sub_zero L]; exact HL2.out, HB2.out⟩
    case round =>
      obtain ⟨k, hk, rfl, rfl, hM, hL, hbel⟩ := hrel
      have hw := hbel.size
      by_cases hlt : k < n
      · focus
          obtain ⟨b', off, rfl, hb, hc⟩ := flexs_flat l wr B A (H.out.below hbel hB) (k := k) (by rw [HN.out]; exact hlt)
          have HRF0 := Lib.hid (fun w => rflexible_calls (l.getD k FlexV.zero) w)
          rw [HFL.out k] at HRF0
          have HLG0 := Lib.hid (fun w => rlong_calls (xs k) w)
          have hxk := HOK.out k
          have hlk := long_bd (xs k)
          have heb := edge_bd xs HOK.out k (by omega)
          have hlb := longs_bd xs k (by omega)
          have HES := Lib.hid (show edgeS xs (k + 1) = edgeS xs k + (xs k).e from rfl)
          have HLS := Lib.hid (show longS xs (k + 1) = longS xs k + long (xs k) from rfl)
          have HCK : Hid (∀ x i, x = xs k → (if i = k then x else cutK xs k i) = cutK xs (k + 1) i) := fun x i hx => by rw [hx]; exact cutK_step xs k i
          obtain ⟨⟨b, lo, hi, g, s, e⟩, hy⟩ : ∃ y, y = xs k := ⟨_, rfl⟩
          obtain ⟨⟨xb, xlo, xhi, xg, xs0, xe⟩, hx⟩ : ∃ x, x = l.getD k FlexV.zero := ⟨_, rfl⟩
          obtain ⟨lg, hlg⟩ : ∃ y, y = long (xs k) := ⟨_, rfl⟩
          obtain ⟨es, hes⟩ : ∃ y, y = edgeS xs k := ⟨_, rfl⟩
          obtain ⟨ls, hls⟩ : ∃ y, y = longS xs k := ⟨_, rfl⟩
          rw [← hx] at hc HRF0
          rw [← hlg, ← hls] at HLS
          rw [← hlg] at HLG0 hlk
          rw [← hy] at HRF0 HLG0 hxk HES
          rw [← hes] at heb HES hL
          rw [← hls] at hlb ⊢
          have HY : Hid (∀ i, (if i = k then (⟨b, lo, hi, g, s, e⟩ : FlexV) else cutK xs k i) = cutK xs (k + 1) i) := fun i => HCK.out _ i hy
          have HRF := Lib.hid (fun w => HRF0.out w)
          have HLG := Lib.hid (fun w => HLG0.out w)
          have c0 := hc 0 _ rfl
          have c1 := hc 1 _ rfl
          have c2 := hc 2 _ rfl
          have c3 := hc 3 _ rfl
          have c4 := hc 4 _ rfl
          have c5 := hc 5 _ rfl
          simp only [Nat.add_zero] at c0
          obtain ⟨_, _, _, _, _, _, _, _, _, _, e0, e1⟩ := hxk
          simp only at e0 e1
          obtain ⟨lk0, lk1⟩ := hlk
          obtain ⟨es0, es1⟩ := heb
          obtain ⟨ls0, ls1⟩ := hlb
          have KK := Lib.hid (show k ≤ n ∧ k < n from ⟨hk, hlt⟩)
          have hlb2 := HLB.out
          obtain ⟨L0, L1⟩ := hlb2
          obtain ⟨p, hp⟩ : ∃ p, p = L - es := ⟨_, rfl⟩
          rw [← hp] at hL
          have p0 : -68719476736000 ≤ p ∧ p ≤ 68719476736000 := by omega
          obtain ⟨p0, p1⟩ := p0
          have mW : IntKind.i64.wrap (p - e) = p - e := IntWalk.i64_in _ (by omega)
          have HP1 := Lib.hid (show L - edgeS xs (k + 1) = p - e from by rw [HES.out, hp]; show L - (es + e) = L - es - e; omega)
          have HMA := Lib.hid (hM.alloc (.cells #[.int .i64 xb, .int .i64 xlo, .int .i64 xhi, .int .i64 xg, .int .i64 xs0, .int .i64 xe] 95))
          have HLA := Lib.hid (hL.alloc (.cells #[.int .i64 xb, .int .i64 xlo, .int .i64 xhi, .int .i64 xg, .int .i64 xs0, .int .i64 xe] 95))
          have HXA := Lib.hid (Blk.new wr 95 #[.int .i64 xb, .int .i64 xlo, .int .i64 xhi, .int .i64 xg, .int .i64 xs0, .int .i64 xe])
          have HBA := Lib.hid (below_alloc hbel (.cells #[.int .i64 xb, .int .i64 xlo, .int .i64 xhi, .int .i64 xg, .int .i64 xs0, .int .i64 xe] 95))
          clear hc hx hy hlg hes hls hM hL hbel hp HRF0 HLG0 HCK HES hb
          go_wp2_with fail
          have hM := HMA.out.drew
          have hL := HLA.out.drew
          have hX := HXA.out.drew
          have hbel := HBA.out.drew
          have hS0 : (fun w' : World => w'.cell? ⟨pI, 0, none⟩ = some (.slice (some ⟨gI, 0, none⟩) n n) ∧ w'.cell? ⟨wr.heap.size, 0, none⟩ = some (.int .i64 xb) ∧ w'.cell? ⟨wr.heap.size, 1, none⟩ = some (.int .i64 xlo) ∧ w'.cell? ⟨wr.heap.size, 2, none⟩ = some (.int .i64 xhi) ∧ w'.cell? ⟨wr.heap.size, 3, none⟩ = some (.int .i64 xg) ∧ w'.cell? ⟨wr.heap.size, 4, none⟩ = some (.int .i64 xs0) ∧ w'.cell? ⟨wr.heap.size, 5, none⟩ = some (.int .i64 xe)) (wr.alloc (.cells #[.int .i64 xb, .int .i64 xlo, .int .i64 xhi, .int .i64 xg, .int .i64 xs0, .int .i64 xe] 95)).drew := ⟨hM.bI.cell 0, hX.cell 0, hX.cell 1, hX.cell 2, hX.cell 3, hX.cell 4, hX.cell 5⟩
          refine wp_region_noPanic ?_
          refine region_M (S := fun w' => w'.cell? ⟨pI, 0, none⟩ = some (.slice (some ⟨gI, 0, none⟩) n n) ∧ w'.cell? ⟨wr.heap.size, 0, none⟩ = some (.int .i64 xb) ∧ w'.cell? ⟨wr.heap.size, 1, none⟩ = some (.int .i64 xlo) ∧ w'.cell? ⟨wr.heap.size, 2, none⟩ = some (.int .i64 xhi) ∧ w'.cell? ⟨wr.heap.size, 3, none⟩ = some (.int .i64 xg) ∧ w'.cell? ⟨wr.heap.size, 4, none⟩ = some (.int .i64 xs0) ∧ w'.cell? ⟨wr.heap.size, 5, none⟩ = some (.int .i64 xe)) (T := [5]) (by kernel_rfl) ?_
          refine aT 0 63 ?_ rfl ?_ hS0 ?_
          rotate_left 1
          · (intro w hSw; (try dsimp only at hSw); go_simp; try with_reducible rfl)
          try simp only [Act.put, Array.toArray_toList, List.setIfInBounds_toArray, List.set_cons_zero, List.set_cons_succ]
          refine aF 1 64 ?_ rfl ?_ hS0 ?_
          rotate_left 1
          · (intro w hSw; (try dsimp only at hSw); go_simp; try with_reducible rfl)
          try simp only [Act.put, Array.toArray_toList, List.setIfInBounds_toArray, List.set_cons_zero, List.set_cons_succ]
          refine aT 2 65 ?_ rfl ?_ hS0 ?_
          rotate_left 1
          · (intro w hSw; (try dsimp only at hSw); go_simp; try with_reducible rfl)
          try simp only [Act.put, Array.toArray_toList, List.setIfInBounds_toArray, List.set_cons_zero, List.set_cons_succ]
          refine anyM_one (i := 3) (by kernel_rfl) rfl (fun K hK => ?_)
          go_simp
          refine (HRF.out _).mono ?_
          rintro e5 w4 ⟨rfl, hb4⟩
          have hX4 := hX.below hb4 hX.lt
          have hM4 := hM.below hb4
          have hL4 := hL.below hb4 hL.lt
          have hbel4 := below_then hbel hb4
          have hS0 : (fun w' : World => w'.cell? ⟨pI, 0, none⟩ = some (.slice (some ⟨gI, 0, none⟩) n n) ∧ w'.cell? ⟨wr.heap.size, 0, none⟩ = some (.int .i64 xb) ∧ w'.cell? ⟨wr.heap.size, 1, none⟩ = some (.int .i64 xlo) ∧ w'.cell? ⟨wr.heap.size, 2, none⟩ = some (.int .i64 xhi) ∧ w'.cell? ⟨wr.heap.size, 3, none⟩ = some (.int .i64 xg) ∧ w'.cell? ⟨wr.heap.size, 4, none⟩ = some (.int .i64 xs0) ∧ w'.cell? ⟨wr.heap.size, 5, none⟩ = some (.int .i64 xe)) w4 := ⟨hM4.bI.cell 0, hX4.cell 0, hX4.cell 1, hX4.cell 2, hX4.cell 3, hX4.cell 4, hX4.cell 5⟩
          refine hK.out _ _ (fun _ => hS0) ?_
          clear hK K
          try simp only [Act.put, Array.toArray_toList, List.setIfInBounds_toArray, List.set_cons_zero, List.set_cons_succ]
          refine aF 4 67 ?_ rfl ?_ hS0 ?_
          rotate_left 1
          · (intro w hSw; (try dsimp only at hSw); go_simp; try with_reducible rfl)
          try simp only [Act.put, Array.toArray_toList, List.setIfInBounds_toArray, List.set_cons_zero, List.set_cons_succ]
          refine anyM_one (i := 5) (by kernel_rfl) rfl (fun K hK => ?_)
          rw [if_pos (by kernel_rfl)]
          refine wp_store_mid _ _ _ rfl gI (k * 6) #[.int .i64 b, .int .i64 lo, .int .i64 hi, .int .i64 g, .int .i64 s, .int .i64 e] rfl rfl (own_there hM4.oI (by rw [rows_len (frowR_len _)]; show k * 6 + 6 ≤ n * 6; have := KK.out; omega)) (by kernel_rfl) (by simp [Value.oneCell']) ?_
          refine hK.out _ _ (fun h => late_no h (by kernel_rfl)) ?_
          clear hK K
          try simp only [Act.put, Array.toArray_toList, List.setIfInBounds_toArray, List.set_cons_zero, List.set_cons_succ]
          refine anyM_done (by kernel_rfl) ?_ _
          refine NoPanic.normal ?_
          have hM5 : MAt (w4.setCells gI (k * 6) [.int .i64 b, .int .i64 lo, .int .i64 hi, .int .i64 g, .int .i64 s, .int .i64 e]) w.heap.size T ⟨pI, pS, pB, gI, gS, gB⟩ n (cutK xs (k + 1)) stZ := (hM4.setI KK.out.2 ⟨b, lo, hi, g, s, e⟩).congrX (fun i hi => HY.out i)
          have hL5 := hM4.farI hL4 (Nat.le_refl T) (k * 6) [.int .i64 b, .int .i64 lo, .int .i64 hi, .int .i64 g, .int .i64 s, .int .i64 e]
          have hbel5 := below_setCells (b := gI) HGI.out [.int .i64 b, .int .i64 lo, .int .i64 hi, .int .i64 g, .int .i64 s, .int .i64 e] (k * 6) _ hbel4
          generalize hwz : World.setCells w4 gI (k * 6) [.int .i64 b, .int .i64 lo, .int .i64 hi, .int .i64 g, .int .i64 s, .int .i64 e] = wz at hM5 hL5 hbel5 ⊢
          clear hwz hM hL hX hbel hX4 hM4 hL4 hbel4 hS0 HMA HLA HXA HBA
          go_wp2_with fail
          have hM6 := hM5.drew
          have hL6 := hL5.drew
          have hbel6 := hbel5.drew
          have yL := hL6.free 0
          have hat6 := hM6.at KK.out.2
          rw [← HY.out k, if_pos rfl] at hat6
          have t5 : wz.drew.cell? ⟨gI, k * 6 + 5, none⟩ = some (.int .i64 e) := hat6 5 _ rfl
          have hS0 : (fun w' : World => w'.cell? ⟨T, 0, none⟩ = some (.int .i64 p) ∧ w'.cell? ⟨pI, 0, none⟩ = some (.slice (some ⟨gI, 0, none⟩) n n) ∧ w'.cell? ⟨gI, k * 6 + 5, none⟩ = some (.int .i64 e)) wz.drew := ⟨hL6.cell 0, hM6.bI.cell 0, t5⟩
          clear t5 hat6
          refine wp_region_noPanic ?_
          refine region_M (S := fun w' => w'.cell? ⟨T, 0, none⟩ = some (.int .i64 p) ∧ w'.cell? ⟨pI, 0, none⟩ = some (.slice (some ⟨gI, 0, none⟩) n n) ∧ w'.cell? ⟨gI, k * 6 + 5, none⟩ = some (.int .i64 e)) (T := [7]) (by kernel_rfl) ?_
          refine aT 0 68 ?_ rfl ?_ hS0 ?_
          rotate_left 1
          · (intro w hSw; (try dsimp only at hSw); go_simp; try with_reducible rfl)
          try simp only [Act.put, Array.toArray_toList, List.setIfInBounds_toArray, List.set_cons_zero, List.set_cons_succ]
          refine aT 1 69 ?_ rfl ?_ hS0 ?_
          rotate_left 1
          · (intro w hSw; (try dsimp only at hSw); go_simp; try with_reducible rfl)
          try simp only [Act.put, Array.toArray_toList, List.setIfInBounds_toArray, List.set_cons_zero, List.set_cons_succ]
          refine aF 2 70 ?_ rfl ?_ hS0 ?_
          rotate_left 1
          · (intro w hSw; (try dsimp only at hSw); go_simp; try with_reducible rfl)
          try simp only [Act.put, Array.toArray_toList, List.setIfInBounds_toArray, List.set_cons_zero, List.set_cons_succ]
          refine aF 3 71 ?_ rfl ?_ hS0 ?_
          rotate_left 1
          · (intro w hSw; (try dsimp only at hSw); go_simp; try with_reducible rfl)
          try simp only [Act.put, Array.toArray_toList, List.setIfInBounds_toArray, List.set_cons_zero, List.set_cons_succ]
          refine aF 4 72 ?_ rfl ?_ hS0 ?_
          rotate_left 1
          · (intro w hSw; (try dsimp only at hSw); go_simp; try with_reducible rfl)
          try simp only [Act.put, Array.toArray_toList, List.setIfInBounds_toArray, List.set_cons_zero, List.set_cons_succ]
          refine aT 5 73 ?_ rfl ?_ hS0 ?_
          rotate_left 1
          · (intro w hSw; (try dsimp only at hSw); go_simp; try with_reducible rfl)
          try simp only [Act.put, Array.toArray_toList, List.setIfInBounds_toArray, List.set_cons_zero, List.set_cons_succ]
          refine aF 6 74 ?_ rfl ?_ hS0 ?_
          rotate_left 1
          · (intro w hSw; (try dsimp only at hSw); go_simp; try with_reducible rfl)
          try simp only [Act.put, Array.toArray_toList, List.setIfInBounds_toArray, List.set_cons_zero, List.set_cons_succ]
          refine anyM_one (i := 7) (by kernel_rfl) rfl (fun K hK => ?_)
          go_simp
          refine hK.out _ _ (fun h => late_no h (by kernel_rfl)) ?_
          clear hK K
          try simp only [Act.put, Array.toArray_toList, List.setIfInBounds_toArray, List.set_cons_zero, List.set_cons_succ]
          refine anyM_done (by kernel_rfl) ?_ _
          refine NoPanic.normal ?_
          have hM7 := (hM5.far (b := T) (j := 0) (u := .int .i64 (p - e)) (Nat.le_refl T)).drew
          have hL7 := (hL5.stored 0 (.int .i64 (p - e))).drew
          have hbel7 := (below_set hbel5 (b := T) (off := 0) HWT.out (.int .i64 (p - e))).drew
          generalize hwy : World.drew (World.setCell wz ⟨T, 0, none⟩ (.int .i64 (p - e))) = wy at hM7 hL7 hbel7 ⊢
          have q1 : wy.cell? ⟨pI, 0, none⟩ = some (.slice (some ⟨gI, 0, none⟩) n n) := hM7.bI.cell 0
          have hat := hM7.at KK.out.2
          rw [← HY.out k, if_pos rfl] at hat
          have t0 : wy.cell? ⟨gI, k * 6, none⟩ = some (.int .i64 b) := hat 0 _ rfl
          have t1 : wy.cell? ⟨gI, k * 6 + 1, none⟩ = some (.int .i64 lo) := hat 1 _ rfl
          have t2 : wy.cell? ⟨gI, k * 6 + 2, none⟩ = some (.int .i64 hi) := hat 2 _ rfl
          have t3 : wy.cell? ⟨gI, k * 6 + 3, none⟩ = some (.int .i64 g) := hat 3 _ rfl
          have t4 : wy.cell? ⟨gI, k * 6 + 4, none⟩ = some (.int .i64 s) := hat 4 _ rfl
          have t5 : wy.cell? ⟨gI, k * 6 + 5, none⟩ = some (.int .i64 e) := hat 5 _ rfl
          have HM7 := Lib.hid hM7
          have HL7 := Lib.hid (show Blk wy T 3 #[.int .i64 (p - e)] from hL7)
          have HB7 := Lib.hid hbel7
          clear hat hM5 hL5 hbel5 hM6 hL6 hbel6 hS0 yL hM7 hL7 hbel7 hwy
          go_wp2_with (go_at_call 81; refine (HLG.out _).mono ?_; rintro e5 w5 ⟨rfl, hb5⟩)
          have hM8 := HM7.out.below hb5
          have hL8 := HL7.out.below hb5 HL7.out.lt
          have hb8 := below_then HB7.out hb5
          clear hb5 t0 t1 t2 t3 t4 t5 q1
          go_roundw
          case rel => exact ⟨k + 1, by have := KK.out; omega, by go_num, by rw [HLS.out], hM8, by rw [HP1.out]; exact hL8, hb8⟩
          case measure => have := KK.out; simp [intOf]; omega
      · obtain rfl : n = k := by omega
        have hedge := edge_bd xs HOK.out n hm
        have hlongs := longs_bd xs n hm
        have hlb2 := HLB.out
        obtain ⟨L0, L1⟩ := hlb2
        have HSPL := Lib.hid (free_split L n (fun i => long (xs i)) xs)
        have HSPC := Lib.hid (fun (st : Nat → FxSt) => free_split L n (fun i => curF (xs i) (st i)) xs)
        have hS00 : sumTo (fun i => long (xs i)) n = longS xs n := rfl
        rw [hS00] at HSPL
        obtain ⟨S0, hS0'⟩ : ∃ x, x = longS xs n := ⟨_, rfl⟩
        obtain ⟨E0, hE0⟩ : ∃ x, x = L - edgeS xs n := ⟨_, rfl⟩
        rw [← hE0] at hL HSPL
        have HSPE : Hid (∀ st : Nat → FxSt, nowF L n xs st = E0 - sumTo (fun i => curF (xs i) (st i)) n) := fun st => by unfold nowF; rw [HSPC.out, ← hE0]
        rw [← hS0'] at HSPL hlongs ⊢
        have hEb : -68719476736000 ≤ E0 ∧ E0 ≤ 68719476736000 := by omega
        have HEB := Lib.hid hEb
        obtain ⟨hE1, hE2⟩ := hEb
        obtain ⟨hS1, hS2⟩ := hlongs
        obtain ⟨D, hD⟩ : ∃ x, x = E0 - S0 := ⟨_, rfl⟩
        rw [← hD] at HSPL
        have mD : IntKind.i64.wrap (E0 - S0) = D := by rw [hD]; exact IntWalk.i64_in _ (by omega)
        obtain ⟨G, hG⟩ : ∃ x, x = decide (0 < D) := ⟨_, rfl⟩
        have hG' : decide (0 < D) = G := hG.symm
        have HG0 : Hid (growsF room gap n xs = G) := by show _ = _; unfold growsF; rw [HLEFT.out, HSPL.out, hG]
        have u1 : wr.cell? ⟨T, 0, none⟩ = some (.int .i64 E0) := hL.cell 0
        have u2 : (wr.alloc (.cells #[.bool G] 4)).cell? ⟨pI, 0, none⟩ = some (.slice (some ⟨gI, 0, none⟩) n n) := (hM.bI.alloc _).cell 0
        have hMz : MAt wr w.heap.size T ⟨pI, pS, pB, gI, gS, gB⟩ n xs (bornK G xs 0) := (hM.congrX (fun i hi => if_pos hi)).congr (fun i hi => by unfold bornK stZ; rw [if_neg (by omega)]; rfl)
        have HM2' := Lib.hid (hMz.alloc (.cells #[.bool G] 4))
        have HL2' := Lib.hid (hL.alloc (.cells #[.bool G] 4))
        have HG2' := Lib.hid (Blk.new wr 4 #[.bool G])
        have HB2' := Lib.hid (below_alloc hbel (.cells #[.bool G] 4))
        have HPG := Lib.hid (show T ≤ wr.heap.size from Nat.le_of_lt hL.lt)
        have HPG2 := Lib.hid (show T < wr.heap.size from hL.lt)
        clear hS0' hE0 hD hG hM hL hbel hMz hS00 hedge HM2 HL2 HB2 HSPC
        go_wp2_with fail
        clear u1 u2 mD hG'
        obtain ⟨pG, hpG⟩ : ∃ x, x = wr.heap.size := ⟨_, rfl⟩
        rw [← hpG] at HG2' HPG HPG2
        rw [← hpG]
        clear hpG
        go_loopw [90] (fun i wr => ∃ q : Nat, q ≤ n ∧ i = .int .i64 q ∧ MAt wr w.heap.size T ⟨pI, pS, pB, gI, gS, gB⟩ n xs (bornK G xs q) ∧ Blk wr T 3 #[.int .i64 E0] ∧ Blk wr pG 4 #[.bool G] ∧ Below w.heap.size w wr) (fun i _ => n - (intOf i).toNat)
        case atStart => exact ⟨0, Nat.zero_le _, rfl, HM2'.out, HL2'.out, HG2'.out, HB2'.out⟩
        case round =>
          obtain ⟨q, hq, rfl, hM, hL, hG, hbel⟩ := hrel
          have hw := hbel.size
          by_cases hlt : q < n
          · as_aux_lemma =>
              have hat := hM.at hlt
              have hlk := long_bd (xs q)
              have HBORN : Hid (bornF G (xs q) = if facF G (xs q) = 0 ∨ (G = true ∧ long (xs q) < (xs q).b) ∨ (G = false ∧ (xs q).b < long (xs q)) then ⟨true, long (xs q)⟩ else ⟨false, 0⟩) := rfl
              have HLG0 := Lib.hid (fun w => rlong_calls (xs q) w)
              obtain ⟨lg, hlg⟩ : ∃ y, y = long (xs q) := ⟨_, rfl⟩
              obtain ⟨⟨b, lo, hi, g, s, e⟩, hy⟩ : ∃ y, y = xs q := ⟨_, rfl⟩
              rw [← hlg] at HLG0 HBORN hlk
              rw [← hy] at hat HLG0 HBORN
              have HY := Lib.hid hy
              have HLG := Lib.hid (fun w => HLG0.out w)
              have HFA := Lib.hid (fun w h => rfactor_calls b lo hi g s e G pG w h)
              have t0 : wr.cell? ⟨gI, q * 6, none⟩ = some (.int .i64 b) := hat 0 _ rfl
              have t1 : wr.cell? ⟨gI, q * 6 + 1, none⟩ = some (.int .i64 lo) := hat 1 _ rfl
              have t2 : wr.cell? ⟨gI, q * 6 + 2, none⟩ = some (.int .i64 hi) := hat 2 _ rfl
              have t3 : wr.cell? ⟨gI, q * 6 + 3, none⟩ = some (.int .i64 g) := hat 3 _ rfl
              have t4 : wr.cell? ⟨gI, q * 6 + 4, none⟩ = some (.int .i64 s) := hat 4 _ rfl
              have t5 : wr.cell? ⟨gI, q * 6 + 5, none⟩ = some (.int .i64 e) := hat 5 _ rfl
              have QQ := Lib.hid (show q ≤ n ∧ q < n from ⟨hq, hlt⟩)
              have HMA := Lib.hid (hM.alloc (.cells #[.int .i64 b, .int .i64 lo, .int .i64 hi, .int .i64 g, .int .i64 s, .int .i64 e] 95))
              have HLA := Lib.hid (hL.alloc (.cells #[.int .i64 b, .int .i64 lo, .int .i64 hi, .int .i64 g, .int .i64 s, .int .i64 e] 95))
              have HGA := Lib.hid (hG.alloc (.cells #[.int .i64 b, .int .i64 lo, .int .i64 hi, .int .i64 g, .int .i64 s, .int .i64 e] 95))
              have HXA := Lib.hid (Blk.new wr 95 #[.int .i64 b, .int .i64 lo, .int .i64 hi, .int .i64 g, .int .i64 s, .int .i64 e])
              have HTW := Lib.hid (show T < wr.heap.size from hL.lt)
              have HBA := Lib.hid (below_alloc hbel (.cells #[.int .i64 b, .int .i64 lo, .int .i64 hi, .int .i64 g, .int .i64 s, .int .i64 e] 95))
              obtain ⟨fq, hfq⟩ : ∃ y, y = facF G (⟨b, lo, hi, g, s, e⟩ : FlexV) := ⟨_, rfl⟩
              rw [← hfq] at HBORN
              rw [show (if G then g else s) = fq from hfq.symm] at HFA
              clear hat hlg hy hM hL hG hbel HLG0 hfq hlk
              have HBE := Lib.hid (show bornF G (xs q) = bornF G ⟨b, lo, hi, g, s, e⟩ by rw [HY.out])
              by_cases e0 : fq = 0
              · as_aux_lemma =>
                  subst e0
                  have HBO := Lib.hid (show bornF G (xs q) = ⟨true, lg⟩ by rw [HBE.out, HBORN.out, if_pos (Or.inl rfl)])
                  go_wp2_with fail
                  have hM := HMA.out.drew
                  have hL := HLA.out.drew
                  have hG := HGA.out.drew
                  have hX := HXA.out.drew
                  have hbel := HBA.out.drew
                  have hS0 : (fun w' : World => w'.cell? ⟨pG, 0, none⟩ = some (.bool G) ∧ w'.cell? ⟨wr.heap.size, 0, none⟩ = some (.int .i64 b) ∧ w'.cell? ⟨wr.heap.size, 1, none⟩ = some (.int .i64 lo) ∧ w'.cell? ⟨wr.heap.size, 2, none⟩ = some (.int .i64 hi) ∧ w'.cell? ⟨wr.heap.size, 3, none⟩ = some (.int .i64 g) ∧ w'.cell? ⟨wr.heap.size, 4, none⟩ = some (.int .i64 s) ∧ w'.cell? ⟨wr.heap.size, 5, none⟩ = some (.int .i64 e)) (wr.alloc (.cells #[.int .i64 b, .int .i64 lo, .int .i64 hi, .int .i64 g, .int .i64 s, .int .i64 e] 95)).drew := ⟨hG.cell 0, hX.cell 0, hX.cell 1, hX.cell 2, hX.cell 3, hX.cell 4, hX.cell 5⟩
                  refine wp_region_noPanic ?_
                  refine region_M (S := fun w' => w'.cell? ⟨pG, 0, none⟩ = some (.bool G) ∧ w'.cell? ⟨wr.heap.size, 0, none⟩ = some (.int .i64 b) ∧ w'.cell? ⟨wr.heap.size, 1, none⟩ = some (.int .i64 lo) ∧ w'.cell? ⟨wr.heap.size, 2, none⟩ = some (.int .i64 hi) ∧ w'.cell? ⟨wr.heap.size, 3, none⟩ = some (.int .i64 g) ∧ w'.cell? ⟨wr.heap.size, 4, none⟩ = some (.int .i64 s) ∧ w'.cell? ⟨wr.heap.size, 5, none⟩ = some (.int .i64 e)) (T := []) (by kernel_rfl) ?_
                  refine aF 0 95 ?_ rfl ?_ hS0 ?_
                  rotate_left 1
                  · (intro w hSw; (try dsimp only at hSw); go_simp; try with_reducible rfl)
                  try simp only [Act.put, Array.toArray_toList, List.setIfInBounds_toArray, List.set_cons_zero, List.set_cons_succ]
                  refine aT 1 96 ?_ rfl ?_ hS0 ?_
                  rotate_left 1
                  · (intro w hSw; (try dsimp only at hSw); go_simp; try with_reducible rfl)
                  try simp only [Act.put, Array.toArray_toList, List.setIfInBounds_toArray, List.set_cons_zero, List.set_cons_succ]
                  refine anyM_one (i := 2) (by kernel_rfl) rfl (fun K hK => ?_)
                  go_simp
                  refine (HFA.out _ hG).mono ?_
                  rintro e5 w4 ⟨rfl, hb4⟩
                  have hX := hX.below hb4 hX.lt
                  have hM := hM.below hb4
                  have hL := hL.below hb4 hL.lt
                  have hG := hG.below hb4 hG.lt
                  have hbel := below_then hbel hb4
                  have hS0 : (fun w' : World => w'.cell? ⟨pG, 0, none⟩ = some (.bool G) ∧ w'.cell? ⟨wr.heap.size, 0, none⟩ = some (.int .i64 b) ∧ w'.cell? ⟨wr.heap.size, 1, none⟩ = some (.int .i64 lo) ∧ w'.cell? ⟨wr.heap.size, 2, none⟩ = some (.int .i64 hi) ∧ w'.cell? ⟨wr.heap.size, 3, none⟩ = some (.int .i64 g) ∧ w'.cell? ⟨wr.heap.size, 4, none⟩ = some (.int .i64 s) ∧ w'.cell? ⟨wr.heap.size, 5, none⟩ = some (.int .i64 e)) w4 := ⟨hG.cell 0, hX.cell 0, hX.cell 1, hX.cell 2, hX.cell 3, hX.cell 4, hX.cell 5⟩
                  refine hK.out _ _ (fun _ => hS0) ?_
                  clear hK K
                  try simp only [Act.put, Array.toArray_toList, List.setIfInBounds_toArray, List.set_cons_zero, List.set_cons_succ]
                  refine aF 3 98 ?_ rfl ?_ hS0 ?_
                  rotate_left 1
                  · (intro w hSw; (try dsimp only at hSw); go_simp; try with_reducible rfl)
                  try simp only [Act.put, Array.toArray_toList, List.setIfInBounds_toArray, List.set_cons_zero, List.set_cons_succ]
                  refine aF 4 99 ?_ rfl ?_ hS0 ?_
                  rotate_left 1
                  · (intro w hSw; (try dsimp only at hSw); go_simp; try with_reducible rfl)
                  try simp only [Act.put, Array.toArray_toList, List.setIfInBounds_toArray, List.set_cons_zero, List.set_cons_succ]
                  refine aN 5 100 rfl hS0 ?_
                  try simp only [Act.put, Array.toArray_toList, List.setIfInBounds_toArray, List.set_cons_zero, List.set_cons_succ]
                  refine aN 6 101 rfl hS0 ?_
                  try simp only [Act.put, Array.toArray_toList, List.setIfInBounds_toArray, List.set_cons_zero, List.set_cons_succ]
                  refine aN 7 102 rfl hS0 ?_
                  try simp only [Act.put, Array.toArray_toList, List.setIfInBounds_toArray, List.set_cons_zero, List.set_cons_succ]
                  refine aN 8 103 rfl hS0 ?_
                  try simp only [Act.put, Array.toArray_toList, List.setIfInBounds_toArray, List.set_cons_zero, List.set_cons_succ]
                  refine aN 9 104 rfl hS0 ?_
                  try simp only [Act.put, Array.toArray_toList, List.setIfInBounds_toArray, List.set_cons_zero, List.set_cons_succ]
                  refine aN 10 105 rfl hS0 ?_
                  try simp only [Act.put, Array.toArray_toList, List.setIfInBounds_toArray, List.set_cons_zero, List.set_cons_succ]
                  refine aN 11 106 rfl hS0 ?_
                  try simp only [Act.put, Array.toArray_toList, List.setIfInBounds_toArray, List.set_cons_zero, List.set_cons_succ]
                  refine aN 12 107 rfl hS0 ?_
                  try simp only [Act.put, Array.toArray_toList, List.setIfInBounds_toArray, List.set_cons_zero, List.set_cons_succ]
                  refine aF 13 108 ?_ rfl ?_ hS0 ?_
                  rotate_left 1
                  · (intro w hSw; (try dsimp only at hSw); go_simp; try with_reducible rfl)
                  try simp only [Act.put, Array.toArray_toList, List.setIfInBounds_toArray, List.set_cons_zero, List.set_cons_succ]
                  refine aF 14 109 ?_ rfl ?_ hS0 ?_
                  rotate_left 1
                  · (intro w hSw; (try dsimp only at hSw); go_simp; try with_reducible rfl)
                  try simp only [Act.put, Array.toArray_toList, List.setIfInBounds_toArray, List.set_cons_zero, List.set_cons_succ]
                  refine aN 15 110 rfl hS0 ?_
                  try simp only [Act.put, Array.toArray_toList, List.setIfInBounds_toArray, List.set_cons_zero, List.set_cons_succ]
                  refine aN 16 111 rfl hS0 ?_
                  try simp only [Act.put, Array.toArray_toList, List.setIfInBounds_toArray, List.set_cons_zero, List.set_cons_succ]
                  refine aN 17 112 rfl hS0 ?_
                  try simp only [Act.put, Array.toArray_toList, List.setIfInBounds_toArray, List.set_cons_zero, List.set_cons_succ]
                  refine aN 18 113 rfl hS0 ?_
                  try simp only [Act.put, Array.toArray_toList, List.setIfInBounds_toArray, List.set_cons_zero, List.set_cons_succ]
                  refine aN 19 114 rfl hS0 ?_
                  try simp only [Act.put, Array.toArray_toList, List.setIfInBounds_toArray, List.set_cons_zero, List.set_cons_succ]
                  refine aN 20 115 rfl hS0 ?_
                  try simp only [Act.put, Array.toArray_toList, List.setIfInBounds_toArray, List.set_cons_zero, List.set_cons_succ]
                  refine aN 21 116 rfl hS0 ?_
                  try simp only [Act.put, Array.toArray_toList, List.setIfInBounds_toArray, List.set_cons_zero, List.set_cons_succ]
                  refine aN 22 117 rfl hS0 ?_
                  try simp only [Act.put, Array.toArray_toList, List.setIfInBounds_toArray, List.set_cons_zero, List.set_cons_succ]
                  refine aN 23 118 rfl hS0 ?_
                  try simp only [Act.put, Array.toArray_toList, List.setIfInBounds_toArray, List.set_cons_zero, List.set_cons_succ]
                  refine aF 24 119 ?_ rfl ?_ hS0 ?_
                  rotate_left 1
                  · (intro w hSw; (try dsimp only at hSw); go_simp; try with_reducible rfl)
                  try simp only [Act.put, Array.toArray_toList, List.setIfInBounds_toArray, List.set_cons_zero, List.set_cons_succ]
                  refine anyM_done (by kernel_rfl) ?_ _
                  refine NoPanic.normal ?_
                  go_wp2_with fail
                  have hM := hM.drew
                  have hL := hL.drew
                  have hG := hG.drew
                  have hX := hX.drew
                  have hbel := hbel.drew
                  have hS0 : (fun w' : World => w'.cell? ⟨pB, 0, none⟩ = some (.slice (some ⟨gB, 0, none⟩) n n) ∧ w'.cell? ⟨pS, 0, none⟩ = some (.slice (some ⟨gS, 0, none⟩) n n) ∧ w'.cell? ⟨wr.heap.size, 0, none⟩ = some (.int .i64 b) ∧ w'.cell? ⟨wr.heap.size, 1, none⟩ = some (.int .i64 lo) ∧ w'.cell? ⟨wr.heap.size, 2, none⟩ = some (.int .i64 hi) ∧ w'.cell? ⟨wr.heap.size, 3, none⟩ = some (.int .i64 g) ∧ w'.cell? ⟨wr.heap.size, 4, none⟩ = some (.int .i64 s) ∧ w'.cell? ⟨wr.heap.size, 5, none⟩ = some (.int .i64 e)) _ := ⟨hM.bB.cell 0, hM.bS.cell 0, hX.cell 0, hX.cell 1, hX.cell 2, hX.cell 3, hX.cell 4, hX.cell 5⟩
                  refine wp_region_noPanic ?_
                  refine region_M (S := fun w' => w'.cell? ⟨pB, 0, none⟩ = some (.slice (some ⟨gB, 0, none⟩) n n) ∧ w'.cell? ⟨pS, 0, none⟩ = some (.slice (some ⟨gS, 0, none⟩) n n) ∧ w'.cell? ⟨wr.heap.size, 0, none⟩ = some (.int .i64 b) ∧ w'.cell? ⟨wr.heap.size, 1, none⟩ = some (.int .i64 lo) ∧ w'.cell? ⟨wr.heap.size, 2, none⟩ = some (.int .i64 hi) ∧ w'.cell? ⟨wr.heap.size, 3, none⟩ = some (.int .i64 g) ∧ w'.cell? ⟨wr.heap.size, 4, none⟩ = some (.int .i64 s) ∧ w'.cell? ⟨wr.heap.size, 5, none⟩ = some (.int .i64 e)) (T := [9]) (by kernel_rfl) ?_
                  refine aT 0 120 ?_ rfl ?_ hS0 ?_
                  rotate_left 1
                  · (intro w hSw; (try dsimp only at hSw); go_simp; try with_reducible rfl)
                  try simp only [Act.put, Array.toArray_toList, List.setIfInBounds_toArray, List.set_cons_zero, List.set_cons_succ]
                  refine aF 1 121 ?_ rfl ?_ hS0 ?_
                  rotate_left 1
                  · (intro w hSw; (try dsimp only at hSw); go_simp; try with_reducible rfl)
                  try simp only [Act.put, Array.toArray_toList, List.setIfInBounds_toArray, List.set_cons_zero, List.set_cons_succ]
                  refine aT 2 122 ?_ rfl ?_ hS0 ?_
                  rotate_left 1
                  · (intro w hSw; (try dsimp only at hSw); go_simp; try with_reducible rfl)
                  try simp only [Act.put, Array.toArray_toList, List.setIfInBounds_toArray, List.set_cons_zero, List.set_cons_succ]
                  refine aF 3 123 ?_ rfl ?_ hS0 ?_
                  rotate_left 1
                  · (intro w hSw; (try dsimp only at hSw); go_simp; try with_reducible rfl)
                  try simp only [Act.put, Array.toArray_toList, List.setIfInBounds_toArray, List.set_cons_zero, List.set_cons_succ]
                  refine aT 4 124 ?_ rfl ?_ hS0 ?_
                  rotate_left 1
                  · (intro w hSw; (try dsimp only at hSw); go_simp; try with_reducible rfl)
                  try simp only [Act.put, Array.toArray_toList, List.setIfInBounds_toArray, List.set_cons_zero, List.set_cons_succ]
                  refine anyM_one (i := 5) (by kernel_rfl) rfl (fun K hK => ?_)
                  go_simp
                  refine (HLG.out _).mono ?_
                  rintro e5 w5 ⟨rfl, hb5⟩
                  have hX := hX.below hb5 hX.lt
                  have hM := hM.below hb5
                  have hL := hL.below hb5 hL.lt
                  have hG := hG.below hb5 hG.lt
                  have hbel := below_then hbel hb5
                  have kB : w5.cell? ⟨gB, q, none⟩ = some (.bool false) := (hM.seAt QQ.out.2).trans (by unfold bornK; rw [if_neg (by omega)])
                  have zB : w5.frozen? ⟨gB, q, none⟩ = false := own_free hM.oB
                  have hS0 : (fun w' : World => w'.cell? ⟨pB, 0, none⟩ = some (.slice (some ⟨gB, 0, none⟩) n n) ∧ w'.cell? ⟨pS, 0, none⟩ = some (.slice (some ⟨gS, 0, none⟩) n n) ∧ w'.cell? ⟨wr.heap.size, 0, none⟩ = some (.int .i64 b) ∧ w'.cell? ⟨wr.heap.size, 1, none⟩ = some (.int .i64 lo) ∧ w'.cell? ⟨wr.heap.size, 2, none⟩ = some (.int .i64 hi) ∧ w'.cell? ⟨wr.heap.size, 3, none⟩ = some (.int .i64 g) ∧ w'.cell? ⟨wr.heap.size, 4, none⟩ = some (.int .i64 s) ∧ w'.cell? ⟨wr.heap.size, 5, none⟩ = some (.int .i64 e)) w5 := ⟨hM.bB.cell 0, hM.bS.cell 0, hX.cell 0, hX.cell 1, hX.cell 2, hX.cell 3, hX.cell 4, hX.cell 5⟩
                  refine hK.out _ _ (fun _ => hS0) ?_
                  clear hK K
                  try simp only [Act.put, Array.toArray_toList, List.setIfInBounds_toArray, List.set_cons_zero, List.set_cons_succ]
                  refine aF 6 126 ?_ rfl ?_ hS0 ?_
                  rotate_left 1
                  · (intro w hSw; (try dsimp only at hSw); go_simp; try with_reducible rfl)
                  try simp only [Act.put, Array.toArray_toList, List.setIfInBounds_toArray, List.set_cons_zero, List.set_cons_succ]
                  refine anyM_one (i := 7) (by kernel_rfl) rfl (fun K hK => ?_)
                  go_simp
                  have hM9 := hM.setSe q true
                  have kS : (w5.setCell ⟨gB, q, none⟩ (.bool true)).cell? ⟨gS, q, none⟩ = some (.int .i64 0) := (hM9.isAt QQ.out.2).trans (by unfold bornK; simp)
                  have zS : (w5.setCell ⟨gB, q, none⟩ (.bool true)).frozen? ⟨gS, q, none⟩ = false := own_free hM9.oS
                  have hX := hX.far (b := gB) (i := q) (by have h1 := hM.hT.2.2.2.2.2; have h2 := HTW.out; have h1 : gB < T := h1; omega) (.bool true)
                  have hS0 : (fun w' : World => w'.cell? ⟨pB, 0, none⟩ = some (.slice (some ⟨gB, 0, none⟩) n n) ∧ w'.cell? ⟨pS, 0, none⟩ = some (.slice (some ⟨gS, 0, none⟩) n n) ∧ w'.cell? ⟨wr.heap.size, 0, none⟩ = some (.int .i64 b) ∧ w'.cell? ⟨wr.heap.size, 1, none⟩ = some (.int .i64 lo) ∧ w'.cell? ⟨wr.heap.size, 2, none⟩ = some (.int .i64 hi) ∧ w'.cell? ⟨wr.heap.size, 3, none⟩ = some (.int .i64 g) ∧ w'.cell? ⟨wr.heap.size, 4, none⟩ = some (.int .i64 s) ∧ w'.cell? ⟨wr.heap.size, 5, none⟩ = some (.int .i64 e)) (w5.setCell ⟨gB, q, none⟩ (.bool true)) := ⟨hM9.bB.cell 0, hM9.bS.cell 0, hX.cell 0, hX.cell 1, hX.cell 2, hX.cell 3, hX.cell 4, hX.cell 5⟩
                  refine hK.out _ _ (fun _ => hS0) ?_
                  clear hK K
                  try simp only [Act.put, Array.toArray_toList, List.setIfInBounds_toArray, List.set_cons_zero, List.set_cons_succ]
                  refine aF 8 127 ?_ rfl ?_ hS0 ?_
                  rotate_left 1
                  · (intro w hSw; (try dsimp only at hSw); go_simp; try with_reducible rfl)
                  try simp only [Act.put, Array.toArray_toList, List.setIfInBounds_toArray, List.set_cons_zero, List.set_cons_succ]
                  refine anyM_one (i := 9) (by kernel_rfl) rfl (fun K hK => ?_)
                  go_simp
                  refine hK.out _ _ (fun h => late_no h (by kernel_rfl)) ?_
                  clear hK K
                  try simp only [Act.put, Array.toArray_toList, List.setIfInBounds_toArray, List.set_cons_zero, List.set_cons_succ]
                  refine anyM_done (by kernel_rfl) ?_ _
                  refine NoPanic.normal ?_
                  have hM10 : MAt ((w5.setCell ⟨gB, q, none⟩ (.bool true)).setCell ⟨gS, q, none⟩ (.int .i64 lg)) w.heap.size T ⟨pI, pS, pB, gI, gS, gB⟩ n xs (bornK G xs (q + 1)) := ((hM9.setIs q lg).congr (fun i hi => bornK_step G xs q i lg HBO.out))
                  have hL10 : Blk ((w5.setCell ⟨gB, q, none⟩ (.bool true)).setCell ⟨gS, q, none⟩ (.int .i64 lg)) T 3 #[.int .i64 E0] := (hM9.farS (hM.farB hL (Nat.le_refl T) q (.bool true)) (Nat.le_refl T) q (.int .i64 lg))
                  have hG10 : Blk ((w5.setCell ⟨gB, q, none⟩ (.bool true)).setCell ⟨gS, q, none⟩ (.int .i64 lg)) pG 4 #[.bool G] := (hM9.farS (hM.farB hG HPG.out q (.bool true)) HPG.out q (.int .i64 lg))
                  have hb10 : Below w.heap.size w ((w5.setCell ⟨gB, q, none⟩ (.bool true)).setCell ⟨gS, q, none⟩ (.int .i64 lg)) := (below_set (below_set hbel (b := gB) (off := q) HGB.out (.bool true)) (b := gS) (off := q) HGS.out (.int .i64 lg))
                  have HM10 := Lib.hid hM10
                  have HL10 := Lib.hid hL10
                  have HG10 := Lib.hid hG10
                  have HB10 := Lib.hid hb10
                  clear hM9 hM hL hG hX hbel hS0 kB zB kS zS hM10 hL10 hG10 hb10
                  go_wp2_with fail
                  go_roundw
                  case rel => exact ⟨q + 1, by have := QQ.out; omega, by go_num, HM10.out, HL10.out, HG10.out, HB10.out⟩
                  case measure => have := QQ.out; simp [intOf]; omega
              · have e1 : (fq == 0) = false := by simpa using e0
                have HE0 := Lib.hid e0
                cases G
                · by_cases hbl : b < lg
                  · as_aux_lemma =>
                      have HBO := Lib.hid (show bornF false (xs q) = ⟨true, lg⟩ by rw [HBE.out, HBORN.out, if_pos (Or.inr (Or.inr ⟨rfl, hbl⟩))])
                      have hbl1 : decide (b < lg) = true := by simpa using hbl
                      go_wp2_with fail
                      have hM := HMA.out.drew
                      have hL := HLA.out.drew
                      have hG := HGA.out.drew
                      have hX := HXA.out.drew
                      have hbel := HBA.out.drew
                      have hS0 : (fun w' : World => w'.cell? ⟨pG, 0, none⟩ = some (.bool false) ∧ w'.cell? ⟨wr.heap.size, 0, none⟩ = some (.int .i64 b) ∧ w'.cell? ⟨wr.heap.size, 1, none⟩ = some (.int .i64 lo) ∧ w'.cell? ⟨wr.heap.size, 2, none⟩ = some (.int .i64 hi) ∧ w'.cell? ⟨wr.heap.size, 3, none⟩ = some (.int .i64 g) ∧ w'.cell? ⟨wr.heap.size, 4, none⟩ = some (.int .i64 s) ∧ w'.cell? ⟨wr.heap.size, 5, none⟩ = some (.int .i64 e)) (wr.alloc (.cells #[.int .i64 b, .int .i64 lo, .int .i64 hi, .int .i64 g, .int .i64 s, .int .i64 e] 95)).drew := ⟨hG.cell 0, hX.cell 0, hX.cell 1, hX.cell 2, hX.cell 3, hX.cell 4, hX.cell 5⟩
                      refine wp_region_noPanic ?_
                      refine region_M (S := fun w' => w'.cell? ⟨pG, 0, none⟩ = some (.bool false) ∧ w'.cell? ⟨wr.heap.size, 0, none⟩ = some (.int .i64 b) ∧ w'.cell? ⟨wr.heap.size, 1, none⟩ = some (.int .i64 lo) ∧ w'.cell? ⟨wr.heap.size, 2, none⟩ = some (.int .i64 hi) ∧ w'.cell? ⟨wr.heap.size, 3, none⟩ = some (.int .i64 g) ∧ w'.cell? ⟨wr.heap.size, 4, none⟩ = some (.int .i64 s) ∧ w'.cell? ⟨wr.heap.size, 5, none⟩ = some (.int .i64 e)) (T := []) (by kernel_rfl) ?_
                      refine aF 0 95 ?_ rfl ?_ hS0 ?_
                      rotate_left 1
                      · (intro w hSw; (try dsimp only at hSw); go_simp; try with_reducible rfl)
                      try simp only [Act.put, Array.toArray_toList, List.setIfInBounds_toArray, List.set_cons_zero, List.set_cons_succ]
                      refine aT 1 96 ?_ rfl ?_ hS0 ?_
                      rotate_left 1
                      · (intro w hSw; (try dsimp only at hSw); go_simp; try with_reducible rfl)
                      try simp only [Act.put, Array.toArray_toList, List.setIfInBounds_toArray, List.set_cons_zero, List.set_cons_succ]
                      refine anyM_one (i := 2) (by kernel_rfl) rfl (fun K hK => ?_)
                      go_simp
                      refine (HFA.out _ hG).mono ?_
                      rintro e5 w4 ⟨rfl, hb4⟩
                      have hX := hX.below hb4 hX.lt
                      have hM := hM.below hb4
                      have hL := hL.below hb4 hL.lt
                      have hG := hG.below hb4 hG.lt
                      have hbel := below_then hbel hb4
                      have hS0 : (fun w' : World => w'.cell? ⟨pG, 0, none⟩ = some (.bool false) ∧ w'.cell? ⟨wr.heap.size, 0, none⟩ = some (.int .i64 b) ∧ w'.cell? ⟨wr.heap.size, 1, none⟩ = some (.int .i64 lo) ∧ w'.cell? ⟨wr.heap.size, 2, none⟩ = some (.int .i64 hi) ∧ w'.cell? ⟨wr.heap.size, 3, none⟩ = some (.int .i64 g) ∧ w'.cell? ⟨wr.heap.size, 4, none⟩ = some (.int .i64 s) ∧ w'.cell? ⟨wr.heap.size, 5, none⟩ = some (.int .i64 e)) w4 := ⟨hG.cell 0, hX.cell 0, hX.cell 1, hX.cell 2, hX.cell 3, hX.cell 4, hX.cell 5⟩
                      refine hK.out _ _ (fun _ => hS0) ?_
                      clear hK K
                      try simp only [Act.put, Array.toArray_toList, List.setIfInBounds_toArray, List.set_cons_zero, List.set_cons_succ]
                      refine aF 3 98 ?_ rfl ?_ hS0 ?_
                      rotate_left 1
                      · (intro w hSw; (try dsimp only at hSw); go_simp; try with_reducible rfl)
                      try simp only [Act.put, Array.toArray_toList, List.setIfInBounds_toArray, List.set_cons_zero, List.set_cons_succ]
                      refine aF 4 99 ?_ rfl ?_ hS0 ?_
                      rotate_left 1
                      · (intro w hSw; (try dsimp only at hSw); go_simp; try with_reducible rfl)
                      try simp only [Act.put, Array.toArray_toList, List.setIfInBounds_toArray, List.set_cons_zero, List.set_cons_succ]
                      refine aT 5 100 ?_ rfl ?_ hS0 ?_
                      rotate_left 1
                      · (intro w hSw; (try dsimp only at hSw); go_simp; try with_reducible rfl)
                      try simp only [Act.put, Array.toArray_toList, List.setIfInBounds_toArray, List.set_cons_zero, List.set_cons_succ]
                      refine aF 6 101 ?_ rfl ?_ hS0 ?_
                      rotate_left 1
                      · (intro w hSw; (try dsimp only at hSw); go_simp; try with_reducible rfl)
                      try simp only [Act.put, Array.toArray_toList, List.setIfInBounds_toArray, List.set_cons_zero, List.set_cons_succ]
                      refine aN 7 102 rfl hS0 ?_
                      try simp only [Act.put, Array.toArray_toList, List.setIfInBounds_toArray, List.set_cons_zero, List.set_cons_succ]
                      refine aN 8 103 rfl hS0 ?_
                      try simp only [Act.put, Array.toArray_toList, List.setIfInBounds_toArray, List.set_cons_zero, List.set_cons_succ]
                      refine aN 9 104 rfl hS0 ?_
                      try simp only [Act.put, Array.toArray_toList, List.setIfInBounds_toArray, List.set_cons_zero, List.set_cons_succ]
                      refine aN 10 105 rfl hS0 ?_
                      try simp only [Act.put, Array.toArray_toList, List.setIfInBounds_toArray, List.set_cons_zero, List.set_cons_succ]
                      refine aN 11 106 rfl hS0 ?_
                      try simp only [Act.put, Array.toArray_toList, List.setIfInBounds_toArray, List.set_cons_zero, List.set_cons_succ]
                      refine aF 12 107 ?_ rfl ?_ hS0 ?_
                      rotate_left 1
                      · (intro w hSw; (try dsimp only at hSw); go_simp; try with_reducible rfl)
                      try simp only [Act.put, Array.toArray_toList, List.setIfInBounds_toArray, List.set_cons_zero, List.set_cons_succ]
                      refine aF 13 108 ?_ rfl ?_ hS0 ?_
                      rotate_left 1
                      · (intro w hSw; (try dsimp only at hSw); go_simp; try with_reducible rfl)
                      try simp only [Act.put, Array.toArray_toList, List.setIfInBounds_toArray, List.set_cons_zero, List.set_cons_succ]
                      refine aF 14 109 ?_ rfl ?_ hS0 ?_
                      rotate_left 1
                      · (intro w hSw; (try dsimp only at hSw); go_simp; try with_reducible rfl)
                      try simp only [Act.put, Array.toArray_toList, List.setIfInBounds_toArray, List.set_cons_zero, List.set_cons_succ]
                      refine aT 15 110 ?_ rfl ?_ hS0 ?_
                      rotate_left 1
                      · (intro w hSw; (try dsimp only at hSw); go_simp; try with_reducible rfl)
                      try simp only [Act.put, Array.toArray_toList, List.setIfInBounds_toArray, List.set_cons_zero, List.set_cons_succ]
                      refine aF 16 111 ?_ rfl ?_ hS0 ?_
                      rotate_left 1
                      · (intro w hSw; (try dsimp only at hSw); go_simp; try with_reducible rfl)
                      try simp only [Act.put, Array.toArray_toList, List.setIfInBounds_toArray, List.set_cons_zero, List.set_cons_succ]
                      refine aF 17 112 ?_ rfl ?_ hS0 ?_
                      rotate_left 1
                      · (intro w hSw; (try dsimp only at hSw); go_simp; try with_reducible rfl)
                      try simp only [Act.put, Array.toArray_toList, List.setIfInBounds_toArray, List.set_cons_zero, List.set_cons_succ]
                      refine aF 18 113 ?_ rfl ?_ hS0 ?_
                      rotate_left 1
                      · (intro w hSw; (try dsimp only at hSw); go_simp; try with_reducible rfl)
                      try simp only [Act.put, Array.toArray_toList, List.setIfInBounds_toArray, List.set_cons_zero, List.set_cons_succ]
                      refine aT 19 114 ?_ rfl ?_ hS0 ?_
                      rotate_left 1
                      · (intro w hSw; (try dsimp only at hSw); go_simp; try with_reducible rfl)
                      try simp only [Act.put, Array.toArray_toList, List.setIfInBounds_toArray, List.set_cons_zero, List.set_cons_succ]
                      refine aT 20 115 ?_ rfl ?_ hS0 ?_
                      rotate_left 1
                      · (intro w hSw; (try dsimp only at hSw); go_simp; try with_reducible rfl)
                      try simp only [Act.put, Array.toArray_toList, List.setIfInBounds_toArray, List.set_cons_zero, List.set_cons_succ]
                      refine anyM_one (i := 21) (by kernel_rfl) rfl (fun K hK => ?_)
                      go_simp
                      refine (HLG.out _).mono ?_
                      rintro e5 w4 ⟨rfl, hb4⟩
                      have hX := hX.below hb4 hX.lt
                      have hM := hM.below hb4
                      have hL := hL.below hb4 hL.lt
                      have hG := hG.below hb4 hG.lt
                      have hbel := below_then hbel hb4
                      have hS0 : (fun w' : World => w'.cell? ⟨pG, 0, none⟩ = some (.bool false) ∧ w'.cell? ⟨wr.heap.size, 0, none⟩ = some (.int .i64 b) ∧ w'.cell? ⟨wr.heap.size, 1, none⟩ = some (.int .i64 lo) ∧ w'.cell? ⟨wr.heap.size, 2, none⟩ = some (.int .i64 hi) ∧ w'.cell? ⟨wr.heap.size, 3, none⟩ = some (.int .i64 g) ∧ w'.cell? ⟨wr.heap.size, 4, none⟩ = some (.int .i64 s) ∧ w'.cell? ⟨wr.heap.size, 5, none⟩ = some (.int .i64 e)) w4 := ⟨hG.cell 0, hX.cell 0, hX.cell 1, hX.cell 2, hX.cell 3, hX.cell 4, hX.cell 5⟩
                      refine hK.out _ _ (fun _ => hS0) ?_
                      clear hK K
                      try simp only [Act.put, Array.toArray_toList, List.setIfInBounds_toArray, List.set_cons_zero, List.set_cons_succ]
                      refine aF 22 117 ?_ rfl ?_ hS0 ?_
                      rotate_left 1
                      · (intro w hSw; (try dsimp only at hSw); go_simp; try with_reducible rfl)
                      try simp only [Act.put, Array.toArray_toList, List.setIfInBounds_toArray, List.set_cons_zero, List.set_cons_succ]
                      refine aF 23 118 ?_ rfl ?_ hS0 ?_
                      rotate_left 1
                      · (intro w hSw; (try dsimp only at hSw); go_simp; try with_reducible rfl)
                      try simp only [Act.put, Array.toArray_toList, List.setIfInBounds_toArray, List.set_cons_zero, List.set_cons_succ]
                      refine aF 24 119 ?_ rfl ?_ hS0 ?_
                      rotate_left 1
                      · (intro w hSw; (try dsimp only at hSw); go_simp; try with_reducible rfl)
                      try simp only [Act.put, Array.toArray_toList, List.setIfInBounds_toArray, List.set_cons_zero, List.set_cons_succ]
                      refine anyM_done (by kernel_rfl) ?_ _
                      refine NoPanic.normal ?_
                      go_wp2_with fail
                      have hM := hM.drew
                      have hL := hL.drew
                      have hG := hG.drew
                      have hX := hX.drew
                      have hbel := hbel.drew
                      have hS0 : (fun w' : World => w'.cell? ⟨pB, 0, none⟩ = some (.slice (some ⟨gB, 0, none⟩) n n) ∧ w'.cell? ⟨pS, 0, none⟩ = some (.slice (some ⟨gS, 0, none⟩) n n) ∧ w'.cell? ⟨wr.heap.size, 0, none⟩ = some (.int .i64 b) ∧ w'.cell? ⟨wr.heap.size, 1, none⟩ = some (.int .i64 lo) ∧ w'.cell? ⟨wr.heap.size, 2, none⟩ = some (.int .i64 hi) ∧ w'.cell? ⟨wr.heap.size, 3, none⟩ = some (.int .i64 g) ∧ w'.cell? ⟨wr.heap.size, 4, none⟩ = some (.int .i64 s) ∧ w'.cell? ⟨wr.heap.size, 5, none⟩ = some (.int .i64 e)) _ := ⟨hM.bB.cell 0, hM.bS.cell 0, hX.cell 0, hX.cell 1, hX.cell 2, hX.cell 3, hX.cell 4, hX.cell 5⟩
                      refine wp_region_noPanic ?_
                      refine region_M (S := fun w' => w'.cell? ⟨pB, 0, none⟩ = some (.slice (some ⟨gB, 0, none⟩) n n) ∧ w'.cell? ⟨pS, 0, none⟩ = some (.slice (some ⟨gS, 0, none⟩) n n) ∧ w'.cell? ⟨wr.heap.size, 0, none⟩ = some (.int .i64 b) ∧ w'.cell? ⟨wr.heap.size, 1, none⟩ = some (.int .i64 lo) ∧ w'.cell? ⟨wr.heap.size, 2, none⟩ = some (.int .i64 hi) ∧ w'.cell? ⟨wr.heap.size, 3, none⟩ = some (.int .i64 g) ∧ w'.cell? ⟨wr.heap.size, 4, none⟩ = some (.int .i64 s) ∧ w'.cell? ⟨wr.heap.size, 5, none⟩ = some (.int .i64 e)) (T := [9]) (by kernel_rfl) ?_
                      refine aT 0 120 ?_ rfl ?_ hS0 ?_
                      rotate_left 1
                      · (intro w hSw; (try dsimp only at hSw); go_simp; try with_reducible rfl)
                      try simp only [Act.put, Array.toArray_toList, List.setIfInBounds_toArray, List.set_cons_zero, List.set_cons_succ]
                      refine aF 1 121 ?_ rfl ?_ hS0 ?_
                      rotate_left 1
                      · (intro w hSw; (try dsimp only at hSw); go_simp; try with_reducible rfl)
                      try simp only [Act.put, Array.toArray_toList, List.setIfInBounds_toArray, List.set_cons_zero, List.set_cons_succ]
                      refine aT 2 122 ?_ rfl ?_ hS0 ?_
                      rotate_left 1
                      · (intro w hSw; (try dsimp only at hSw); go_simp; try with_reducible rfl)
                      try simp only [Act.put, Array.toArray_toList, List.setIfInBounds_toArray, List.set_cons_zero, List.set_cons_succ]
                      refine aF 3 123 ?_ rfl ?_ hS0 ?_
                      rotate_left 1
                      · (intro w hSw; (try dsimp only at hSw); go_simp; try with_reducible rfl)
                      try simp only [Act.put, Array.toArray_toList, List.setIfInBounds_toArray, List.set_cons_zero, List.set_cons_succ]
                      refine aT 4 124 ?_ rfl ?_ hS0 ?_
                      rotate_left 1
                      · (intro w hSw; (try dsimp only at hSw); go_simp; try with_reducible rfl)
                      try simp only [Act.put, Array.toArray_toList, List.setIfInBounds_toArray, List.set_cons_zero, List.set_cons_succ]
                      refine anyM_one (i := 5) (by kernel_rfl) rfl (fun K hK => ?_)
                      go_simp
                      refine (HLG.out _).mono ?_
                      rintro e5 w5 ⟨rfl, hb5⟩
                      have hX := hX.below hb5 hX.lt
                      have hM := hM.below hb5
                      have hL := hL.below hb5 hL.lt
                      have hG := hG.below hb5 hG.lt
                      have hbel := below_then hbel hb5
                      have kB : w5.cell? ⟨gB, q, none⟩ = some (.bool false) := (hM.seAt QQ.out.2).trans (by unfold bornK; rw [if_neg (by omega)])
                      have zB : w5.frozen? ⟨gB, q, none⟩ = false := own_free hM.oB
                      have hS0 : (fun w' : World => w'.cell? ⟨pB, 0, none⟩ = some (.slice (some ⟨gB, 0, none⟩) n n) ∧ w'.cell? ⟨pS, 0, none⟩ = some (.slice (some ⟨gS, 0, none⟩) n n) ∧ w'.cell? ⟨wr.heap.size, 0, none⟩ = some (.int .i64 b) ∧ w'.cell? ⟨wr.heap.size, 1, none⟩ = some (.int .i64 lo) ∧ w'.cell? ⟨wr.heap.size, 2, none⟩ = some (.int .i64 hi) ∧ w'.cell? ⟨wr.heap.size, 3, none⟩ = some (.int .i64 g) ∧ w'.cell? ⟨wr.heap.size, 4, none⟩ = some (.int .i64 s) ∧ w'.cell? ⟨wr.heap.size, 5, none⟩ = some (.int .i64 e)) w5 := ⟨hM.bB.cell 0, hM.bS.cell 0, hX.cell 0, hX.cell 1, hX.cell 2, hX.cell 3, hX.cell 4, hX.cell 5⟩
                      refine hK.out _ _ (fun _ => hS0) ?_
                      clear hK K
                      try simp only [Act.put, Array.toArray_toList, List.setIfInBounds_toArray, List.set_cons_zero, List.set_cons_succ]
                      refine aF 6 126 ?_ rfl ?_ hS0 ?_
                      rotate_left 1
                      · (intro w hSw; (try dsimp only at hSw); go_simp; try with_reducible rfl)
                      try simp only [Act.put, Array.toArray_toList, List.setIfInBounds_toArray, List.set_cons_zero, List.set_cons_succ]
                      refine anyM_one (i := 7) (by kernel_rfl) rfl (fun K hK => ?_)
                      go_simp
                      have hM9 := hM.setSe q true
                      have kS : (w5.setCell ⟨gB, q, none⟩ (.bool true)).cell? ⟨gS, q, none⟩ = some (.int .i64 0) := (hM9.isAt QQ.out.2).trans (by unfold bornK; simp)
                      have zS : (w5.setCell ⟨gB, q, none⟩ (.bool true)).frozen? ⟨gS, q, none⟩ = false := own_free hM9.oS
                      have hX := hX.far (b := gB) (i := q) (by have h1 := hM.hT.2.2.2.2.2; have h2 := HTW.out; have h1 : gB < T := h1; omega) (.bool true)
                      have hS0 : (fun w' : World => w'.cell? ⟨pB, 0, none⟩ = some (.slice (some ⟨gB, 0, none⟩) n n) ∧ w'.cell? ⟨pS, 0, none⟩ = some (.slice (some ⟨gS, 0, none⟩) n n) ∧ w'.cell? ⟨wr.heap.size, 0, none⟩ = some (.int .i64 b) ∧ w'.cell? ⟨wr.heap.size, 1, none⟩ = some (.int .i64 lo) ∧ w'.cell? ⟨wr.heap.size, 2, none⟩ = some (.int .i64 hi) ∧ w'.cell? ⟨wr.heap.size, 3, none⟩ = some (.int .i64 g) ∧ w'.cell? ⟨wr.heap.size, 4, none⟩ = some (.int .i64 s) ∧ w'.cell? ⟨wr.heap.size, 5, none⟩ = some (.int .i64 e)) (w5.setCell ⟨gB, q, none⟩ (.bool true)) := ⟨hM9.bB.cell 0, hM9.bS.cell 0, hX.cell 0, hX.cell 1, hX.cell 2, hX.cell 3, hX.cell 4, hX.cell 5⟩
                      refine hK.out _ _ (fun _ => hS0) ?_
                      clear hK K
                      try simp only [Act.put, Array.toArray_toList, List.setIfInBounds_toArray, List.set_cons_zero, List.set_cons_succ]
                      refine aF 8 127 ?_ rfl ?_ hS0 ?_
                      rotate_left 1
                      · (intro w hSw; (try dsimp only at hSw); go_simp; try with_reducible rfl)
                      try simp only [Act.put, Array.toArray_toList, List.setIfInBounds_toArray, List.set_cons_zero, List.set_cons_succ]
                      refine anyM_one (i := 9) (by kernel_rfl) rfl (fun K hK => ?_)
                      go_simp
                      refine hK.out _ _ (fun h => late_no h (by kernel_rfl)) ?_
                      clear hK K
                      try simp only [Act.put, Array.toArray_toList, List.setIfInBounds_toArray, List.set_cons_zero, List.set_cons_succ]
                      refine anyM_done (by kernel_rfl) ?_ _
                      refine NoPanic.normal ?_
                      have hM10 : MAt ((w5.setCell ⟨gB, q, none⟩ (.bool true)).setCell ⟨gS, q, none⟩ (.int .i64 lg)) w.heap.size T ⟨pI, pS, pB, gI, gS, gB⟩ n xs (bornK false xs (q + 1)) := ((hM9.setIs q lg).congr (fun i hi => bornK_step false xs q i lg HBO.out))
                      have hL10 : Blk ((w5.setCell ⟨gB, q, none⟩ (.bool true)).setCell ⟨gS, q, none⟩ (.int .i64 lg)) T 3 #[.int .i64 E0] := (hM9.farS (hM.farB hL (Nat.le_refl T) q (.bool true)) (Nat.le_refl T) q (.int .i64 lg))
                      have hG10 : Blk ((w5.setCell ⟨gB, q, none⟩ (.bool true)).setCell ⟨gS, q, none⟩ (.int .i64 lg)) pG 4 #[.bool false] := (hM9.farS (hM.farB hG HPG.out q (.bool true)) HPG.out q (.int .i64 lg))
                      have hb10 : Below w.heap.size w ((w5.setCell ⟨gB, q, none⟩ (.bool true)).setCell ⟨gS, q, none⟩ (.int .i64 lg)) := (below_set (below_set hbel (b := gB) (off := q) HGB.out (.bool true)) (b := gS) (off := q) HGS.out (.int .i64 lg))
                      have HM10 := Lib.hid hM10
                      have HL10 := Lib.hid hL10
                      have HG10 := Lib.hid hG10
                      have HB10 := Lib.hid hb10
                      clear hM9 hM hL hG hX hbel hS0 kB zB kS zS hM10 hL10 hG10 hb10
                      go_wp2_with fail
                      go_roundw
                      case rel => exact ⟨q + 1, by have := QQ.out; omega, by go_num, HM10.out, HL10.out, HG10.out, HB10.out⟩
                      case measure => have := QQ.out; simp [intOf]; omega
                  · as_aux_lemma =>
                      have HBO := Lib.hid (bornK_keep false xs q (show bornF false (xs q) = ⟨false, 0⟩ by rw [HBE.out, HBORN.out, if_neg (by rintro (h | ⟨h, _⟩ | ⟨_, h⟩); exact HE0.out h; cases h; exact hbl h)]))
                      have hbl1 : decide (b < lg) = false := by simpa using hbl
                      go_wp2_with fail
                      have hM := HMA.out.drew
                      have hL := HLA.out.drew
                      have hG := HGA.out.drew
                      have hX := HXA.out.drew
                      have hbel := HBA.out.drew
                      have hS0 : (fun w' : World => w'.cell? ⟨pG, 0, none⟩ = some (.bool false) ∧ w'.cell? ⟨wr.heap.size, 0, none⟩ = some (.int .i64 b) ∧ w'.cell? ⟨wr.heap.size, 1, none⟩ = some (.int .i64 lo) ∧ w'.cell? ⟨wr.heap.size, 2, none⟩ = some (.int .i64 hi) ∧ w'.cell? ⟨wr.heap.size, 3, none⟩ = some (.int .i64 g) ∧ w'.cell? ⟨wr.heap.size, 4, none⟩ = some (.int .i64 s) ∧ w'.cell? ⟨wr.heap.size, 5, none⟩ = some (.int .i64 e)) (wr.alloc (.cells #[.int .i64 b, .int .i64 lo, .int .i64 hi, .int .i64 g, .int .i64 s, .int .i64 e] 95)).drew := ⟨hG.cell 0, hX.cell 0, hX.cell 1, hX.cell 2, hX.cell 3, hX.cell 4, hX.cell 5⟩
                      refine wp_region_noPanic ?_
                      refine region_M (S := fun w' => w'.cell? ⟨pG, 0, none⟩ = some (.bool false) ∧ w'.cell? ⟨wr.heap.size, 0, none⟩ = some (.int .i64 b) ∧ w'.cell? ⟨wr.heap.size, 1, none⟩ = some (.int .i64 lo) ∧ w'.cell? ⟨wr.heap.size, 2, none⟩ = some (.int .i64 hi) ∧ w'.cell? ⟨wr.heap.size, 3, none⟩ = some (.int .i64 g) ∧ w'.cell? ⟨wr.heap.size, 4, none⟩ = some (.int .i64 s) ∧ w'.cell? ⟨wr.heap.size, 5, none⟩ = some (.int .i64 e)) (T := []) (by kernel_rfl) ?_
                      refine aF 0 95 ?_ rfl ?_ hS0 ?_
                      rotate_left 1
                      · (intro w hSw; (try dsimp only at hSw); go_simp; try with_reducible rfl)
                      try simp only [Act.put, Array.toArray_toList, List.setIfInBounds_toArray, List.set_cons_zero, List.set_cons_succ]
                      refine aT 1 96 ?_ rfl ?_ hS0 ?_
                      rotate_left 1
                      · (intro w hSw; (try dsimp only at hSw); go_simp; try with_reducible rfl)
                      try simp only [Act.put, Array.toArray_toList, List.setIfInBounds_toArray, List.set_cons_zero, List.set_cons_succ]
                      refine anyM_one (i := 2) (by kernel_rfl) rfl (fun K hK => ?_)
                      go_simp
                      refine (HFA.out _ hG).mono ?_
                      rintro e5 w4 ⟨rfl, hb4⟩
                      have hX := hX.below hb4 hX.lt
                      have hM := hM.below hb4
                      have hL := hL.below hb4 hL.lt
                      have hG := hG.below hb4 hG.lt
                      have hbel := below_then hbel hb4
                      have hS0 : (fun w' : World => w'.cell? ⟨pG, 0, none⟩ = some (.bool false) ∧ w'.cell? ⟨wr.heap.size, 0, none⟩ = some (.int .i64 b) ∧ w'.cell? ⟨wr.heap.size, 1, none⟩ = some (.int .i64 lo) ∧ w'.cell? ⟨wr.heap.size, 2, none⟩ = some (.int .i64 hi) ∧ w'.cell? ⟨wr.heap.size, 3, none⟩ = some (.int .i64 g) ∧ w'.cell? ⟨wr.heap.size, 4, none⟩ = some (.int .i64 s) ∧ w'.cell? ⟨wr.heap.size, 5, none⟩ = some (.int .i64 e)) w4 := ⟨hG.cell 0, hX.cell 0, hX.cell 1, hX.cell 2, hX.cell 3, hX.cell 4, hX.cell 5⟩
                      refine hK.out _ _ (fun _ => hS0) ?_
                      clear hK K
                      try simp only [Act.put, Array.toArray_toList, List.setIfInBounds_toArray, List.set_cons_zero, List.set_cons_succ]
                      refine aF 3 98 ?_ rfl ?_ hS0 ?_
                      rotate_left 1
                      · (intro w hSw; (try dsimp only at hSw); go_simp; try with_reducible rfl)
                      try simp only [Act.put, Array.toArray_toList, List.setIfInBounds_toArray, List.set_cons_zero, List.set_cons_succ]
                      refine aF 4 99 ?_ rfl ?_ hS0 ?_
                      rotate_left 1
                      · (intro w hSw; (try dsimp only at hSw); go_simp; try with_reducible rfl)
                      try simp only [Act.put, Array.toArray_toList, List.setIfInBounds_toArray, List.set_cons_zero, List.set_cons_succ]
                      refine aT 5 100 ?_ rfl ?_ hS0 ?_
                      rotate_left 1
                      · (intro w hSw; (try dsimp only at hSw); go_simp; try with_reducible rfl)
                      try simp only [Act.put, Array.toArray_toList, List.setIfInBounds_toArray, List.set_cons_zero, List.set_cons_succ]
                      refine aF 6 101 ?_ rfl ?_ hS0 ?_
                      rotate_left 1
                      · (intro w hSw; (try dsimp only at hSw); go_simp; try with_reducible rfl)
                      try simp only [Act.put, Array.toArray_toList, List.setIfInBounds_toArray, List.set_cons_zero, List.set_cons_succ]
                      refine aN 7 102 rfl hS0 ?_
                      try simp only [Act.put, Array.toArray_toList, List.setIfInBounds_toArray, List.set_cons_zero, List.set_cons_succ]
                      refine aN 8 103 rfl hS0 ?_
                      try simp only [Act.put, Array.toArray_toList, List.setIfInBounds_toArray, List.set_cons_zero, List.set_cons_succ]
                      refine aN 9 104 rfl hS0 ?_
                      try simp only [Act.put, Array.toArray_toList, List.setIfInBounds_toArray, List.set_cons_zero, List.set_cons_succ]
                      refine aN 10 105 rfl hS0 ?_
                      try simp only [Act.put, Array.toArray_toList, List.setIfInBounds_toArray, List.set_cons_zero, List.set_cons_succ]
                      refine aN 11 106 rfl hS0 ?_
                      try simp only [Act.put, Array.toArray_toList, List.setIfInBounds_toArray, List.set_cons_zero, List.set_cons_succ]
                      refine aF 12 107 ?_ rfl ?_ hS0 ?_
                      rotate_left 1
                      · (intro w hSw; (try dsimp only at hSw); go_simp; try with_reducible rfl)
                      try simp only [Act.put, Array.toArray_toList, List.setIfInBounds_toArray, List.set_cons_zero, List.set_cons_succ]
                      refine aF 13 108 ?_ rfl ?_ hS0 ?_
                      rotate_left 1
                      · (intro w hSw; (try dsimp only at hSw); go_simp; try with_reducible rfl)
                      try simp only [Act.put, Array.toArray_toList, List.setIfInBounds_toArray, List.set_cons_zero, List.set_cons_succ]
                      refine aF 14 109 ?_ rfl ?_ hS0 ?_
                      rotate_left 1
                      · (intro w hSw; (try dsimp only at hSw); go_simp; try with_reducible rfl)
                      try simp only [Act.put, Array.toArray_toList, List.setIfInBounds_toArray, List.set_cons_zero, List.set_cons_succ]
                      refine aT 15 110 ?_ rfl ?_ hS0 ?_
                      rotate_left 1
                      · (intro w hSw; (try dsimp only at hSw); go_simp; try with_reducible rfl)
                      try simp only [Act.put, Array.toArray_toList, List.setIfInBounds_toArray, List.set_cons_zero, List.set_cons_succ]
                      refine aF 16 111 ?_ rfl ?_ hS0 ?_
                      rotate_left 1
                      · (intro w hSw; (try dsimp only at hSw); go_simp; try with_reducible rfl)
                      try simp only [Act.put, Array.toArray_toList, List.setIfInBounds_toArray, List.set_cons_zero, List.set_cons_succ]
                      refine aF 17 112 ?_ rfl ?_ hS0 ?_
                      rotate_left 1
                      · (intro w hSw; (try dsimp only at hSw); go_simp; try with_reducible rfl)
                      try simp only [Act.put, Array.toArray_toList, List.setIfInBounds_toArray, List.set_cons_zero, List.set_cons_succ]
                      refine aF 18 113 ?_ rfl ?_ hS0 ?_
                      rotate_left 1
                      · (intro w hSw; (try dsimp only at hSw); go_simp; try with_reducible rfl)
                      try simp only [Act.put, Array.toArray_toList, List.setIfInBounds_toArray, List.set_cons_zero, List.set_cons_succ]
                      refine aT 19 114 ?_ rfl ?_ hS0 ?_
                      rotate_left 1
                      · (intro w hSw; (try dsimp only at hSw); go_simp; try with_reducible rfl)
                      try simp only [Act.put, Array.toArray_toList, List.setIfInBounds_toArray, List.set_cons_zero, List.set_cons_succ]
                      refine aT 20 115 ?_ rfl ?_ hS0 ?_
                      rotate_left 1
                      · (intro w hSw; (try dsimp only at hSw); go_simp; try with_reducible rfl)
                      try simp only [Act.put, Array.toArray_toList, List.setIfInBounds_toArray, List.set_cons_zero, List.set_cons_succ]
                      refine anyM_one (i := 21) (by kernel_rfl) rfl (fun K hK => ?_)
                      go_simp
                      refine (HLG.out _).mono ?_
                      rintro e5 w4 ⟨rfl, hb4⟩
                      have hX := hX.below hb4 hX.lt
                      have hM := hM.below hb4
                      have hL := hL.below hb4 hL.lt
                      have hG := hG.below hb4 hG.lt
                      have hbel := below_then hbel hb4
                      have hS0 : (fun w' : World => w'.cell? ⟨pG, 0, none⟩ = some (.bool false) ∧ w'.cell? ⟨wr.heap.size, 0, none⟩ = some (.int .i64 b) ∧ w'.cell? ⟨wr.heap.size, 1, none⟩ = some (.int .i64 lo) ∧ w'.cell? ⟨wr.heap.size, 2, none⟩ = some (.int .i64 hi) ∧ w'.cell? ⟨wr.heap.size, 3, none⟩ = some (.int .i64 g) ∧ w'.cell? ⟨wr.heap.size, 4, none⟩ = some (.int .i64 s) ∧ w'.cell? ⟨wr.heap.size, 5, none⟩ = some (.int .i64 e)) w4 := ⟨hG.cell 0, hX.cell 0, hX.cell 1, hX.cell 2, hX.cell 3, hX.cell 4, hX.cell 5⟩
                      refine hK.out _ _ (fun _ => hS0) ?_
                      clear hK K
                      try simp only [Act.put, Array.toArray_toList, List.setIfInBounds_toArray, List.set_cons_zero, List.set_cons_succ]
                      refine aF 22 117 ?_ rfl ?_ hS0 ?_
                      rotate_left 1
                      · (intro w hSw; (try dsimp only at hSw); go_simp; try with_reducible rfl)
                      try simp only [Act.put, Array.toArray_toList, List.setIfInBounds_toArray, List.set_cons_zero, List.set_cons_succ]
                      refine aF 23 118 ?_ rfl ?_ hS0 ?_
                      rotate_left 1
                      · (intro w hSw; (try dsimp only at hSw); go_simp; try with_reducible rfl)
                      try simp only [Act.put, Array.toArray_toList, List.setIfInBounds_toArray, List.set_cons_zero, List.set_cons_succ]
                      refine aF 24 119 ?_ rfl ?_ hS0 ?_
                      rotate_left 1
                      · (intro w hSw; (try dsimp only at hSw); go_simp; try with_reducible rfl)
                      try simp only [Act.put, Array.toArray_toList, List.setIfInBounds_toArray, List.set_cons_zero, List.set_cons_succ]
                      refine anyM_done (by kernel_rfl) ?_ _
                      refine NoPanic.normal ?_
                      go_wp2_with fail
                      have HM10 := Lib.hid hM
                      have HL10 := Lib.hid hL
                      have HG10 := Lib.hid hG
                      have HB10 := Lib.hid hbel
                      clear hM hL hG hX hbel hS0
                      go_roundw
                      case rel => exact ⟨q + 1, by have := QQ.out; omega, by go_num, by rw [HBO.out]; exact HM10.out, HL10.out, HG10.out, HB10.out⟩
                      case measure => have := QQ.out; simp [intOf]; omega
                · by_cases hbl : lg < b
                  · as_aux_lemma =>
                      have HBO := Lib.hid (show bornF true (xs q) = ⟨true, lg⟩ by rw [HBE.out, HBORN.out, if_pos (Or.inr (Or.inl ⟨rfl, hbl⟩))])
                      have hbl1 : decide (lg < b) = true := by simpa using hbl
                      go_wp2_with fail
                      have hM := HMA.out.drew
                      have hL := HLA.out.drew
                      have hG := HGA.out.drew
                      have hX := HXA.out.drew
                      have hbel := HBA.out.drew
                      have hS0 : (fun w' : World => w'.cell? ⟨pG, 0, none⟩ = some (.bool true) ∧ w'.cell? ⟨wr.heap.size, 0, none⟩ = some (.int .i64 b) ∧ w'.cell? ⟨wr.heap.size, 1, none⟩ = some (.int .i64 lo) ∧ w'.cell? ⟨wr.heap.size, 2, none⟩ = some (.int .i64 hi) ∧ w'.cell? ⟨wr.heap.size, 3, none⟩ = some (.int .i64 g) ∧ w'.cell? ⟨wr.heap.size, 4, none⟩ = some (.int .i64 s) ∧ w'.cell? ⟨wr.heap.size, 5, none⟩ = some (.int .i64 e)) (wr.alloc (.cells #[.int .i64 b, .int .i64 lo, .int .i64 hi, .int .i64 g, .int .i64 s, .int .i64 e] 95)).drew := ⟨hG.cell 0, hX.cell 0, hX.cell 1, hX.cell 2, hX.cell 3, hX.cell 4, hX.cell 5⟩
                      refine wp_region_noPanic ?_
                      refine region_M (S := fun w' => w'.cell? ⟨pG, 0, none⟩ = some (.bool true) ∧ w'.cell? ⟨wr.heap.size, 0, none⟩ = some (.int .i64 b) ∧ w'.cell? ⟨wr.heap.size, 1, none⟩ = some (.int .i64 lo) ∧ w'.cell? ⟨wr.heap.size, 2, none⟩ = some (.int .i64 hi) ∧ w'.cell? ⟨wr.heap.size, 3, none⟩ = some (.int .i64 g) ∧ w'.cell? ⟨wr.heap.size, 4, none⟩ = some (.int .i64 s) ∧ w'.cell? ⟨wr.heap.size, 5, none⟩ = some (.int .i64 e)) (T := []) (by kernel_rfl) ?_
                      refine aF 0 95 ?_ rfl ?_ hS0 ?_
                      rotate_left 1
                      · (intro w hSw; (try dsimp only at hSw); go_simp; try with_reducible rfl)
                      try simp only [Act.put, Array.toArray_toList, List.setIfInBounds_toArray, List.set_cons_zero, List.set_cons_succ]
                      refine aT 1 96 ?_ rfl ?_ hS0 ?_
                      rotate_left 1
                      · (intro w hSw; (try dsimp only at hSw); go_simp; try with_reducible rfl)
                      try simp only [Act.put, Array.toArray_toList, List.setIfInBounds_toArray, List.set_cons_zero, List.set_cons_succ]
                      refine anyM_one (i := 2) (by kernel_rfl) rfl (fun K hK => ?_)
                      go_simp
                      refine (HFA.out _ hG).mono ?_
                      rintro e5 w4 ⟨rfl, hb4⟩
                      have hX := hX.below hb4 hX.lt
                      have hM := hM.below hb4
                      have hL := hL.below hb4 hL.lt
                      have hG := hG.below hb4 hG.lt
                      have hbel := below_then hbel hb4
                      have hS0 : (fun w' : World => w'.cell? ⟨pG, 0, none⟩ = some (.bool true) ∧ w'.cell? ⟨wr.heap.size, 0, none⟩ = some (.int .i64 b) ∧ w'.cell? ⟨wr.heap.size, 1, none⟩ = some (.int .i64 lo) ∧ w'.cell? ⟨wr.heap.size, 2, none⟩ = some (.int .i64 hi) ∧ w'.cell? ⟨wr.heap.size, 3, none⟩ = some (.int .i64 g) ∧ w'.cell? ⟨wr.heap.size, 4, none⟩ = some (.int .i64 s) ∧ w'.cell? ⟨wr.heap.size, 5, none⟩ = some (.int .i64 e)) w4 := ⟨hG.cell 0, hX.cell 0, hX.cell 1, hX.cell 2, hX.cell 3, hX.cell 4, hX.cell 5⟩
                      refine hK.out _ _ (fun _ => hS0) ?_
                      clear hK K
                      try simp only [Act.put, Array.toArray_toList, List.setIfInBounds_toArray, List.set_cons_zero, List.set_cons_succ]
                      refine aF 3 98 ?_ rfl ?_ hS0 ?_
                      rotate_left 1
                      · (intro w hSw; (try dsimp only at hSw); go_simp; try with_reducible rfl)
                      try simp only [Act.put, Array.toArray_toList, List.setIfInBounds_toArray, List.set_cons_zero, List.set_cons_succ]
                      refine aF 4 99 ?_ rfl ?_ hS0 ?_
                      rotate_left 1
                      · (intro w hSw; (try dsimp only at hSw); go_simp; try with_reducible rfl)
                      try simp only [Act.put, Array.toArray_toList, List.setIfInBounds_toArray, List.set_cons_zero, List.set_cons_succ]
                      refine aT 5 100 ?_ rfl ?_ hS0 ?_
                      rotate_left 1
                      · (intro w hSw; (try dsimp only at hSw); go_simp; try with_reducible rfl)
                      try simp only [Act.put, Array.toArray_toList, List.setIfInBounds_toArray, List.set_cons_zero, List.set_cons_succ]
                      refine aF 6 101 ?_ rfl ?_ hS0 ?_
                      rotate_left 1
                      · (intro w hSw; (try dsimp only at hSw); go_simp; try with_reducible rfl)
                      try simp only [Act.put, Array.toArray_toList, List.setIfInBounds_toArray, List.set_cons_zero, List.set_cons_succ]
                      refine aF 7 102 ?_ rfl ?_ hS0 ?_
                      rotate_left 1
                      · (intro w hSw; (try dsimp only at hSw); go_simp; try with_reducible rfl)
                      try simp only [Act.put, Array.toArray_toList, List.setIfInBounds_toArray, List.set_cons_zero, List.set_cons_succ]
                      refine aT 8 103 ?_ rfl ?_ hS0 ?_
                      rotate_left 1
                      · (intro w hSw; (try dsimp only at hSw); go_simp; try with_reducible rfl)
                      try simp only [Act.put, Array.toArray_toList, List.setIfInBounds_toArray, List.set_cons_zero, List.set_cons_succ]
                      refine aT 9 104 ?_ rfl ?_ hS0 ?_
                      rotate_left 1
                      · (intro w hSw; (try dsimp only at hSw); go_simp; try with_reducible rfl)
                      try simp only [Act.put, Array.toArray_toList, List.setIfInBounds_toArray, List.set_cons_zero, List.set_cons_succ]
                      refine anyM_one (i := 10) (by kernel_rfl) rfl (fun K hK => ?_)
                      go_simp
                      refine (HLG.out _).mono ?_
                      rintro e5 w4 ⟨rfl, hb4⟩
                      have hX := hX.below hb4 hX.lt
                      have hM := hM.below hb4
                      have hL := hL.below hb4 hL.lt
                      have hG := hG.below hb4 hG.lt
                      have hbel := below_then hbel hb4
                      have hS0 : (fun w' : World => w'.cell? ⟨pG, 0, none⟩ = some (.bool true) ∧ w'.cell? ⟨wr.heap.size, 0, none⟩ = some (.int .i64 b) ∧ w'.cell? ⟨wr.heap.size, 1, none⟩ = some (.int .i64 lo) ∧ w'.cell? ⟨wr.heap.size, 2, none⟩ = some (.int .i64 hi) ∧ w'.cell? ⟨wr.heap.size, 3, none⟩ = some (.int .i64 g) ∧ w'.cell? ⟨wr.heap.size, 4, none⟩ = some (.int .i64 s) ∧ w'.cell? ⟨wr.heap.size, 5, none⟩ = some (.int .i64 e)) w4 := ⟨hG.cell 0, hX.cell 0, hX.cell 1, hX.cell 2, hX.cell 3, hX.cell 4, hX.cell 5⟩
                      refine hK.out _ _ (fun _ => hS0) ?_
                      clear hK K
                      try simp only [Act.put, Array.toArray_toList, List.setIfInBounds_toArray, List.set_cons_zero, List.set_cons_succ]
                      refine aF 11 106 ?_ rfl ?_ hS0 ?_
                      rotate_left 1
                      · (intro w hSw; (try dsimp only at hSw); go_simp; try with_reducible rfl)
                      try simp only [Act.put, Array.toArray_toList, List.setIfInBounds_toArray, List.set_cons_zero, List.set_cons_succ]
                      refine aF 12 107 ?_ rfl ?_ hS0 ?_
                      rotate_left 1
                      · (intro w hSw; (try dsimp only at hSw); go_simp; try with_reducible rfl)
                      try simp only [Act.put, Array.toArray_toList, List.setIfInBounds_toArray, List.set_cons_zero, List.set_cons_succ]
                      refine aF 13 108 ?_ rfl ?_ hS0 ?_
                      rotate_left 1
                      · (intro w hSw; (try dsimp only at hSw); go_simp; try with_reducible rfl)
                      try simp only [Act.put, Array.toArray_toList, List.setIfInBounds_toArray, List.set_cons_zero, List.set_cons_succ]
                      refine aF 14 109 ?_ rfl ?_ hS0 ?_
                      rotate_left 1
                      · (intro w hSw; (try dsimp only at hSw); go_simp; try with_reducible rfl)
                      try simp only [Act.put, Array.toArray_toList, List.setIfInBounds_toArray, List.set_cons_zero, List.set_cons_succ]
                      refine aN 15 110 rfl hS0 ?_
                      try simp only [Act.put, Array.toArray_toList, List.setIfInBounds_toArray, List.set_cons_zero, List.set_cons_succ]
                      refine aN 16 111 rfl hS0 ?_
                      try simp only [Act.put, Array.toArray_toList, List.setIfInBounds_toArray, List.set_cons_zero, List.set_cons_succ]
                      refine aN 17 112 rfl hS0 ?_
                      try simp only [Act.put, Array.toArray_toList, List.setIfInBounds_toArray, List.set_cons_zero, List.set_cons_succ]
                      refine aN 18 113 rfl hS0 ?_
                      try simp only [Act.put, Array.toArray_toList, List.setIfInBounds_toArray, List.set_cons_zero, List.set_cons_succ]
                      refine aN 19 114 rfl hS0 ?_
                      try simp only [Act.put, Array.toArray_toList, List.setIfInBounds_toArray, List.set_cons_zero, List.set_cons_succ]
                      refine aN 20 115 rfl hS0 ?_
                      try simp only [Act.put, Array.toArray_toList, List.setIfInBounds_toArray, List.set_cons_zero, List.set_cons_succ]
                      refine aN 21 116 rfl hS0 ?_
                      try simp only [Act.put, Array.toArray_toList, List.setIfInBounds_toArray, List.set_cons_zero, List.set_cons_succ]
                      refine aN 22 117 rfl hS0 ?_
                      try simp only [Act.put, Array.toArray_toList, List.setIfInBounds_toArray, List.set_cons_zero, List.set_cons_succ]
                      refine aN 23 118 rfl hS0 ?_
                      try simp only [Act.put, Array.toArray_toList, List.setIfInBounds_toArray, List.set_cons_zero, List.set_cons_succ]
                      refine aF 24 119 ?_ rfl ?_ hS0 ?_
                      rotate_left 1
                      · (intro w hSw; (try dsimp only at hSw); go_simp; try with_reducible rfl)
                      try simp only [Act.put, Array.toArray_toList, List.setIfInBounds_toArray, List.set_cons_zero, List.set_cons_succ]
                      refine anyM_done (by kernel_rfl) ?_ _
                      refine NoPanic.normal ?_
                      go_wp2_with fail
                      have hM := hM.drew
                      have hL := hL.drew
                      have hG := hG.drew
                      have hX := hX.drew
                      have hbel := hbel.drew
                      have hS0 : (fun w' : World => w'.cell? ⟨pB, 0, none⟩ = some (.slice (some ⟨gB, 0, none⟩) n n) ∧ w'.cell? ⟨pS, 0, none⟩ = some (.slice (some ⟨gS, 0, none⟩) n n) ∧ w'.cell? ⟨wr.heap.size, 0, none⟩ = some (.int .i64 b) ∧ w'.cell? ⟨wr.heap.size, 1, none⟩ = some (.int .i64 lo) ∧ w'.cell? ⟨wr.heap.size, 2, none⟩ = some (.int .i64 hi) ∧ w'.cell? ⟨wr.heap.size, 3, none⟩ = some (.int .i64 g) ∧ w'.cell? ⟨wr.heap.size, 4, none⟩ = some (.int .i64 s) ∧ w'.cell? ⟨wr.heap.size, 5, none⟩ = some (.int .i64 e)) _ := ⟨hM.bB.cell 0, hM.bS.cell 0, hX.cell 0, hX.cell 1, hX.cell 2, hX.cell 3, hX.cell 4, hX.cell 5⟩
                      refine wp_region_noPanic ?_
                      refine region_M (S := fun w' => w'.cell? ⟨pB, 0, none⟩ = some (.slice (some ⟨gB, 0, none⟩) n n) ∧ w'.cell? ⟨pS, 0, none⟩ = some (.slice (some ⟨gS, 0, none⟩) n n) ∧ w'.cell? ⟨wr.heap.size, 0, none⟩ = some (.int .i64 b) ∧ w'.cell? ⟨wr.heap.size, 1, none⟩ = some (.int .i64 lo) ∧ w'.cell? ⟨wr.heap.size, 2, none⟩ = some (.int .i64 hi) ∧ w'.cell? ⟨wr.heap.size, 3, none⟩ = some (.int .i64 g) ∧ w'.cell? ⟨wr.heap.size, 4, none⟩ = some (.int .i64 s) ∧ w'.cell? ⟨wr.heap.size, 5, none⟩ = some (.int .i64 e)) (T := [9]) (by kernel_rfl) ?_
                      refine aT 0 120 ?_ rfl ?_ hS0 ?_
                      rotate_left 1
                      · (intro w hSw; (try dsimp only at hSw); go_simp; try with_reducible rfl)
                      try simp only [Act.put, Array.toArray_toList, List.setIfInBounds_toArray, List.set_cons_zero, List.set_cons_succ]
                      refine aF 1 121 ?_ rfl ?_ hS0 ?_
                      rotate_left 1
                      · (intro w hSw; (try dsimp only at hSw); go_simp; try with_reducible rfl)
                      try simp only [Act.put, Array.toArray_toList, List.setIfInBounds_toArray, List.set_cons_zero, List.set_cons_succ]
                      refine aT 2 122 ?_ rfl ?_ hS0 ?_
                      rotate_left 1
                      · (intro w hSw; (try dsimp only at hSw); go_simp; try with_reducible rfl)
                      try simp only [Act.put, Array.toArray_toList, List.setIfInBounds_toArray, List.set_cons_zero, List.set_cons_succ]
                      refine aF 3 123 ?_ rfl ?_ hS0 ?_
                      rotate_left 1
                      · (intro w hSw; (try dsimp only at hSw); go_simp; try with_reducible rfl)
                      try simp only [Act.put, Array.toArray_toList, List.setIfInBounds_toArray, List.set_cons_zero, List.set_cons_succ]
                      refine aT 4 124 ?_ rfl ?_ hS0 ?_
                      rotate_left 1
                      · (intro w hSw; (try dsimp only at hSw); go_simp; try with_reducible rfl)
                      try simp only [Act.put, Array.toArray_toList, List.setIfInBounds_toArray, List.set_cons_zero, List.set_cons_succ]
                      refine anyM_one (i := 5) (by kernel_rfl) rfl (fun K hK => ?_)
                      go_simp
                      refine (HLG.out _).mono ?_
                      rintro e5 w5 ⟨rfl, hb5⟩
                      have hX := hX.below hb5 hX.lt
                      have hM := hM.below hb5
                      have hL := hL.below hb5 hL.lt
                      have hG := hG.below hb5 hG.lt
                      have hbel := below_then hbel hb5
                      have kB : w5.cell? ⟨gB, q, none⟩ = some (.bool false) := (hM.seAt QQ.out.2).trans (by unfold bornK; rw [if_neg (by omega)])
                      have zB : w5.frozen? ⟨gB, q, none⟩ = false := own_free hM.oB
                      have hS0 : (fun w' : World => w'.cell? ⟨pB, 0, none⟩ = some (.slice (some ⟨gB, 0, none⟩) n n) ∧ w'.cell? ⟨pS, 0, none⟩ = some (.slice (some ⟨gS, 0, none⟩) n n) ∧ w'.cell? ⟨wr.heap.size, 0, none⟩ = some (.int .i64 b) ∧ w'.cell? ⟨wr.heap.size, 1, none⟩ = some (.int .i64 lo) ∧ w'.cell? ⟨wr.heap.size, 2, none⟩ = some (.int .i64 hi) ∧ w'.cell? ⟨wr.heap.size, 3, none⟩ = some (.int .i64 g) ∧ w'.cell? ⟨wr.heap.size, 4, none⟩ = some (.int .i64 s) ∧ w'.cell? ⟨wr.heap.size, 5, none⟩ = some (.int .i64 e)) w5 := ⟨hM.bB.cell 0, hM.bS.cell 0, hX.cell 0, hX.cell 1, hX.cell 2, hX.cell 3, hX.cell 4, hX.cell 5⟩
                      refine hK.out _ _ (fun _ => hS0) ?_
                      clear hK K
                      try simp only [Act.put, Array.toArray_toList, List.setIfInBounds_toArray, List.set_cons_zero, List.set_cons_succ]
                      refine aF 6 126 ?_ rfl ?_ hS0 ?_
                      rotate_left 1
                      · (intro w hSw; (try dsimp only at hSw); go_simp; try with_reducible rfl)
                      try simp only [Act.put, Array.toArray_toList, List.setIfInBounds_toArray, List.set_cons_zero, List.set_cons_succ]
                      refine anyM_one (i := 7) (by kernel_rfl) rfl (fun K hK => ?_)
                      go_simp
                      have hM9 := hM.setSe q true
                      have kS : (w5.setCell ⟨gB, q, none⟩ (.bool true)).cell? ⟨gS, q, none⟩ = some (.int .i64 0) := (hM9.isAt QQ.out.2).trans (by unfold bornK; simp)
                      have zS : (w5.setCell ⟨gB, q, none⟩ (.bool true)).frozen? ⟨gS, q, none⟩ = false := own_free hM9.oS
                      have hX := hX.far (b := gB) (i := q) (by have h1 := hM.hT.2.2.2.2.2; have h2 := HTW.out; have h1 : gB < T := h1; omega) (.bool true)
                      have hS0 : (fun w' : World => w'.cell? ⟨pB, 0, none⟩ = some (.slice (some ⟨gB, 0, none⟩) n n) ∧ w'.cell? ⟨pS, 0, none⟩ = some (.slice (some ⟨gS, 0, none⟩) n n) ∧ w'.cell? ⟨wr.heap.size, 0, none⟩ = some (.int .i64 b) ∧ w'.cell? ⟨wr.heap.size, 1, none⟩ = some (.int .i64 lo) ∧ w'.cell? ⟨wr.heap.size, 2, none⟩ = some (.int .i64 hi) ∧ w'.cell? ⟨wr.heap.size, 3, none⟩ = some (.int .i64 g) ∧ w'.cell? ⟨wr.heap.size, 4, none⟩ = some (.int .i64 s) ∧ w'.cell? ⟨wr.heap.size, 5, none⟩ = some (.int .i64 e)) (w5.setCell ⟨gB, q, none⟩ (.bool true)) := ⟨hM9.bB.cell 0, hM9.bS.cell 0, hX.cell 0, hX.cell 1, hX.cell 2, hX.cell 3, hX.cell 4, hX.cell 5⟩
                      refine hK.out _ _ (fun _ => hS0) ?_
                      clear hK K
                      try simp only [Act.put, Array.toArray_toList, List.setIfInBounds_toArray, List.set_cons_zero, List.set_cons_succ]
                      refine aF 8 127 ?_ rfl ?_ hS0 ?_
                      rotate_left 1
                      · (intro w hSw; (try dsimp only at hSw); go_simp; try with_reducible rfl)
                      try simp only [Act.put, Array.toArray_toList, List.setIfInBounds_toArray, List.set_cons_zero, List.set_cons_succ]
                      refine anyM_one (i := 9) (by kernel_rfl) rfl (fun K hK => ?_)
                      go_simp
                      refine hK.out _ _ (fun h => late_no h (by kernel_rfl)) ?_
                      clear hK K
                      try simp only [Act.put, Array.toArray_toList, List.setIfInBounds_toArray, List.set_cons_zero, List.set_cons_succ]
                      refine anyM_done (by kernel_rfl) ?_ _
                      refine NoPanic.normal ?_
                      have hM10 : MAt ((w5.setCell ⟨gB, q, none⟩ (.bool true)).setCell ⟨gS, q, none⟩ (.int .i64 lg)) w.heap.size T ⟨pI, pS, pB, gI, gS, gB⟩ n xs (bornK true xs (q + 1)) := ((hM9.setIs q lg).congr (fun i hi => bornK_step true xs q i lg HBO.out))
                      have hL10 : Blk ((w5.setCell ⟨gB, q, none⟩ (.bool true)).setCell ⟨gS, q, none⟩ (.int .i64 lg)) T 3 #[.int .i64 E0] := (hM9.farS (hM.farB hL (Nat.le_refl T) q (.bool true)) (Nat.le_refl T) q (.int .i64 lg))
                      have hG10 : Blk ((w5.setCell ⟨gB, q, none⟩ (.bool true)).setCell ⟨gS, q, none⟩ (.int .i64 lg)) pG 4 #[.bool true] := (hM9.farS (hM.farB hG HPG.out q (.bool true)) HPG.out q (.int .i64 lg))
                      have hb10 : Below w.heap.size w ((w5.setCell ⟨gB, q, none⟩ (.bool true)).setCell ⟨gS, q, none⟩ (.int .i64 lg)) := (below_set (below_set hbel (b := gB) (off := q) HGB.out (.bool true)) (b := gS) (off := q) HGS.out (.int .i64 lg))
                      have HM10 := Lib.hid hM10
                      have HL10 := Lib.hid hL10
                      have HG10 := Lib.hid hG10
                      have HB10 := Lib.hid hb10
                      clear hM9 hM hL hG hX hbel hS0 kB zB kS zS hM10 hL10 hG10 hb10
                      go_wp2_with fail
                      go_roundw
                      case rel => exact ⟨q + 1, by have := QQ.out; omega, by go_num, HM10.out, HL10.out, HG10.out, HB10.out⟩
                      case measure => have := QQ.out; simp [intOf]; omega
                  · as_aux_lemma =>
                      have HBO := Lib.hid (bornK_keep true xs q (show bornF true (xs q) = ⟨false, 0⟩ by rw [HBE.out, HBORN.out, if_neg (by rintro (h | ⟨_, h⟩ | ⟨h, _⟩); exact HE0.out h; exact hbl h; cases h)]))
                      have hbl1 : decide (lg < b) = false := by simpa using hbl
                      go_wp2_with fail
                      have hM := HMA.out.drew
                      have hL := HLA.out.drew
                      have hG := HGA.out.drew
                      have hX := HXA.out.drew
                      have hbel := HBA.out.drew
                      have hS0 : (fun w' : World => w'.cell? ⟨pG, 0, none⟩ = some (.bool true) ∧ w'.cell? ⟨wr.heap.size, 0, none⟩ = some (.int .i64 b) ∧ w'.cell? ⟨wr.heap.size, 1, none⟩ = some (.int .i64 lo) ∧ w'.cell? ⟨wr.heap.size, 2, none⟩ = some (.int .i64 hi) ∧ w'.cell? ⟨wr.heap.size, 3, none⟩ = some (.int .i64 g) ∧ w'.cell? ⟨wr.heap.size, 4, none⟩ = some (.int .i64 s) ∧ w'.cell? ⟨wr.heap.size, 5, none⟩ = some (.int .i64 e)) (wr.alloc (.cells #[.int .i64 b, .int .i64 lo, .int .i64 hi, .int .i64 g, .int .i64 s, .int .i64 e] 95)).drew := ⟨hG.cell 0, hX.cell 0, hX.cell 1, hX.cell 2, hX.cell 3, hX.cell 4, hX.cell 5⟩
                      refine wp_region_noPanic ?_
                      refine region_M (S := fun w' => w'.cell? ⟨pG, 0, none⟩ = some (.bool true) ∧ w'.cell? ⟨wr.heap.size, 0, none⟩ = some (.int .i64 b) ∧ w'.cell? ⟨wr.heap.size, 1, none⟩ = some (.int .i64 lo) ∧ w'.cell? ⟨wr.heap.size, 2, none⟩ = some (.int .i64 hi) ∧ w'.cell? ⟨wr.heap.size, 3, none⟩ = some (.int .i64 g) ∧ w'.cell? ⟨wr.heap.size, 4, none⟩ = some (.int .i64 s) ∧ w'.cell? ⟨wr.heap.size, 5, none⟩ = some (.int .i64 e)) (T := []) (by kernel_rfl) ?_
                      refine aF 0 95 ?_ rfl ?_ hS0 ?_
                      rotate_left 1
                      · (intro w hSw; (try dsimp only at hSw); go_simp; try with_reducible rfl)
                      try simp only [Act.put, Array.toArray_toList, List.setIfInBounds_toArray, List.set_cons_zero, List.set_cons_succ]
                      refine aT 1 96 ?_ rfl ?_ hS0 ?_
                      rotate_left 1
                      · (intro w hSw; (try dsimp only at hSw); go_simp; try with_reducible rfl)
                      try simp only [Act.put, Array.toArray_toList, List.setIfInBounds_toArray, List.set_cons_zero, List.set_cons_succ]
                      refine anyM_one (i := 2) (by kernel_rfl) rfl (fun K hK => ?_)
                      go_simp
                      refine (HFA.out _ hG).mono ?_
                      rintro e5 w4 ⟨rfl, hb4⟩
                      have hX := hX.below hb4 hX.lt
                      have hM := hM.below hb4
                      have hL := hL.below hb4 hL.lt
                      have hG := hG.below hb4 hG.lt
                      have hbel := below_then hbel hb4
                      have hS0 : (fun w' : World => w'.cell? ⟨pG, 0, none⟩ = some (.bool true) ∧ w'.cell? ⟨wr.heap.size, 0, none⟩ = some (.int .i64 b) ∧ w'.cell? ⟨wr.heap.size, 1, none⟩ = some (.int .i64 lo) ∧ w'.cell? ⟨wr.heap.size, 2, none⟩ = some (.int .i64 hi) ∧ w'.cell? ⟨wr.heap.size, 3, none⟩ = some (.int .i64 g) ∧ w'.cell? ⟨wr.heap.size, 4, none⟩ = some (.int .i64 s) ∧ w'.cell? ⟨wr.heap.size, 5, none⟩ = some (.int .i64 e)) w4 := ⟨hG.cell 0, hX.cell 0, hX.cell 1, hX.cell 2, hX.cell 3, hX.cell 4, hX.cell 5⟩
                      refine hK.out _ _ (fun _ => hS0) ?_
                      clear hK K
                      try simp only [Act.put, Array.toArray_toList, List.setIfInBounds_toArray, List.set_cons_zero, List.set_cons_succ]
                      refine aF 3 98 ?_ rfl ?_ hS0 ?_
                      rotate_left 1
                      · (intro w hSw; (try dsimp only at hSw); go_simp; try with_reducible rfl)
                      try simp only [Act.put, Array.toArray_toList, List.setIfInBounds_toArray, List.set_cons_zero, List.set_cons_succ]
                      refine aF 4 99 ?_ rfl ?_ hS0 ?_
                      rotate_left 1
                      · (intro w hSw; (try dsimp only at hSw); go_simp; try with_reducible rfl)
                      try simp only [Act.put, Array.toArray_toList, List.setIfInBounds_toArray, List.set_cons_zero, List.set_cons_succ]
                      refine aT 5 100 ?_ rfl ?_ hS0 ?_
                      rotate_left 1
                      · (intro w hSw; (try dsimp only at hSw); go_simp; try with_reducible rfl)
                      try simp only [Act.put, Array.toArray_toList, List.setIfInBounds_toArray, List.set_cons_zero, List.set_cons_succ]
                      refine aF 6 101 ?_ rfl ?_ hS0 ?_
                      rotate_left 1
                      · (intro w hSw; (try dsimp only at hSw); go_simp; try with_reducible rfl)
                      try simp only [Act.put, Array.toArray_toList, List.setIfInBounds_toArray, List.set_cons_zero, List.set_cons_succ]
                      refine aF 7 102 ?_ rfl ?_ hS0 ?_
                      rotate_left 1
                      · (intro w hSw; (try dsimp only at hSw); go_simp; try with_reducible rfl)
                      try simp only [Act.put, Array.toArray_toList, List.setIfInBounds_toArray, List.set_cons_zero, List.set_cons_succ]
                      refine aT 8 103 ?_ rfl ?_ hS0 ?_
                      rotate_left 1
                      · (intro w hSw; (try dsimp only at hSw); go_simp; try with_reducible rfl)
                      try simp only [Act.put, Array.toArray_toList, List.setIfInBounds_toArray, List.set_cons_zero, List.set_cons_succ]
                      refine aT 9 104 ?_ rfl ?_ hS0 ?_
                      rotate_left 1
                      · (intro w hSw; (try dsimp only at hSw); go_simp; try with_reducible rfl)
                      try simp only [Act.put, Array.toArray_toList, List.setIfInBounds_toArray, List.set_cons_zero, List.set_cons_succ]
                      refine anyM_one (i := 10) (by kernel_rfl) rfl (fun K hK => ?_)
                      go_simp
                      refine (HLG.out _).mono ?_
                      rintro e5 w4 ⟨rfl, hb4⟩
                      have hX := hX.below hb4 hX.lt
                      have hM := hM.below hb4
                      have hL := hL.below hb4 hL.lt
                      have hG := hG.below hb4 hG.lt
                      have hbel := below_then hbel hb4
                      have hS0 : (fun w' : World => w'.cell? ⟨pG, 0, none⟩ = some (.bool true) ∧ w'.cell? ⟨wr.heap.size, 0, none⟩ = some (.int .i64 b) ∧ w'.cell? ⟨wr.heap.size, 1, none⟩ = some (.int .i64 lo) ∧ w'.cell? ⟨wr.heap.size, 2, none⟩ = some (.int .i64 hi) ∧ w'.cell? ⟨wr.heap.size, 3, none⟩ = some (.int .i64 g) ∧ w'.cell? ⟨wr.heap.size, 4, none⟩ = some (.int .i64 s) ∧ w'.cell? ⟨wr.heap.size, 5, none⟩ = some (.int .i64 e)) w4 := ⟨hG.cell 0, hX.cell 0, hX.cell 1, hX.cell 2, hX.cell 3, hX.cell 4, hX.cell 5⟩
                      refine hK.out _ _ (fun _ => hS0) ?_
                      clear hK K
                      try simp only [Act.put, Array.toArray_toList, List.setIfInBounds_toArray, List.set_cons_zero, List.set_cons_succ]
                      refine aF 11 106 ?_ rfl ?_ hS0 ?_
                      rotate_left 1
                      · (intro w hSw; (try dsimp only at hSw); go_simp; try with_reducible rfl)
                      try simp only [Act.put, Array.toArray_toList, List.setIfInBounds_toArray, List.set_cons_zero, List.set_cons_succ]
                      refine aF 12 107 ?_ rfl ?_ hS0 ?_
                      rotate_left 1
                      · (intro w hSw; (try dsimp only at hSw); go_simp; try with_reducible rfl)
                      try simp only [Act.put, Array.toArray_toList, List.setIfInBounds_toArray, List.set_cons_zero, List.set_cons_succ]
                      refine aF 13 108 ?_ rfl ?_ hS0 ?_
                      rotate_left 1
                      · (intro w hSw; (try dsimp only at hSw); go_simp; try with_reducible rfl)
                      try simp only [Act.put, Array.toArray_toList, List.setIfInBounds_toArray, List.set_cons_zero, List.set_cons_succ]
                      refine aF 14 109 ?_ rfl ?_ hS0 ?_
                      rotate_left 1
                      · (intro w hSw; (try dsimp only at hSw); go_simp; try with_reducible rfl)
                      try simp only [Act.put, Array.toArray_toList, List.setIfInBounds_toArray, List.set_cons_zero, List.set_cons_succ]
                      refine aT 15 110 ?_ rfl ?_ hS0 ?_
                      rotate_left 1
                      · (intro w hSw; (try dsimp only at hSw); go_simp; try with_reducible rfl)
                      try simp only [Act.put, Array.toArray_toList, List.setIfInBounds_toArray, List.set_cons_zero, List.set_cons_succ]
                      refine aF 16 111 ?_ rfl ?_ hS0 ?_
                      rotate_left 1
                      · (intro w hSw; (try dsimp only at hSw); go_simp; try with_reducible rfl)
                      try simp only [Act.put, Array.toArray_toList, List.setIfInBounds_toArray, List.set_cons_zero, List.set_cons_succ]
                      refine aF 17 112 ?_ rfl ?_ hS0 ?_
                      rotate_left 1
                      · (intro w hSw; (try dsimp only at hSw); go_simp; try with_reducible rfl)
                      try simp only [Act.put, Array.toArray_toList, List.setIfInBounds_toArray, List.set_cons_zero, List.set_cons_succ]
                      refine aN 18 113 rfl hS0 ?_
                      try simp only [Act.put, Array.toArray_toList, List.setIfInBounds_toArray, List.set_cons_zero, List.set_cons_succ]
                      refine aN 19 114 rfl hS0 ?_
                      try simp only [Act.put, Array.toArray_toList, List.setIfInBounds_toArray, List.set_cons_zero, List.set_cons_succ]
                      refine aN 20 115 rfl hS0 ?_
                      try simp only [Act.put, Array.toArray_toList, List.setIfInBounds_toArray, List.set_cons_zero, List.set_cons_succ]
                      refine aN 21 116 rfl hS0 ?_
                      try simp only [Act.put, Array.toArray_toList, List.setIfInBounds_toArray, List.set_cons_zero, List.set_cons_succ]
                      refine aN 22 117 rfl hS0 ?_
                      try simp only [Act.put, Array.toArray_toList, List.setIfInBounds_toArray, List.set_cons_zero, List.set_cons_succ]
                      refine aF 23 118 ?_ rfl ?_ hS0 ?_
                      rotate_left 1
                      · (intro w hSw; (try dsimp only at hSw); go_simp; try with_reducible rfl)
                      try simp only [Act.put, Array.toArray_toList, List.setIfInBounds_toArray, List.set_cons_zero, List.set_cons_succ]
                      refine aF 24 119 ?_ rfl ?_ hS0 ?_
                      rotate_left 1
                      · (intro w hSw; (try dsimp only at hSw); go_simp; try with_reducible rfl)
                      try simp only [Act.put, Array.toArray_toList, List.setIfInBounds_toArray, List.set_cons_zero, List.set_cons_succ]
                      refine anyM_done (by kernel_rfl) ?_ _
                      refine NoPanic.normal ?_
                      go_wp2_with fail
                      have HM10 := Lib.hid hM
                      have HL10 := Lib.hid hL
                      have HG10 := Lib.hid hG
                      have HB10 := Lib.hid hbel
                      clear hM hL hG hX hbel hS0
                      go_roundw
                      case rel => exact ⟨q + 1, by have := QQ.out; omega, by go_num, by rw [HBO.out]; exact HM10.out, HL10.out, HG10.out, HB10.out⟩
                      case measure => have := QQ.out; simp [intOf]; omega
          · obtain rfl : n = q := by omega
            have hM := hM.congr (st' := startF room gap n xs) (fun i hi => by unfold bornK startF; rw [if_pos hi, HG0.out])
            have HSOK := Lib.hid (show StOk (startF room gap n xs) from fun i => born_ok _ _)
            have HFREE : Hid (∀ (st : Nat → FxSt) (w' : World), MAt w' w.heap.size T ⟨pI, pS, pB, gI, gS, gB⟩ n xs st → Blk w' T 3 #[.int .i64 E0] → StOk st → Calls Try.prog 83 #[.pointer (some ⟨T, 0, none⟩), .pointer (some ⟨pI, 0, none⟩), .pointer (some ⟨pB, 0, none⟩), .pointer (some ⟨pS, 0, none⟩)] w' fun e w2 => e = .returned (.int .i64 (nowF L n xs st)) ∧ Below w'.heap.size w' w2) := fun st w' hM hL hok => by
              rw [HSPE.out st]
              exact rfree_calls w.heap.size T ⟨pI, pS, pB, gI, gS, gB⟩ n T E0 xs st w' hM hL HOK.out hok hm HEB.out
            obtain ⟨NOW, hNOW⟩ : ∃ x, x = nowF L n xs (startF room gap n xs) := ⟨_, rfl⟩
            have HEND : Hid (goF G L NOW n xs n (startF room gap n xs) = endF room gap n xs) := by show _ = _; unfold endF; rw [HG0.out, HLEFT.out, hNOW]
            have HF0 := Lib.hid (HFREE.out (startF room gap n xs) wr hM hL HSOK.out)
            rw [← hNOW] at HF0
            have HM4 := Lib.hid hM
            have HL4 := Lib.hid hL
            have HG4 := Lib.hid hG
            have HB4 := Lib.hid hbel
            clear hM hL hG hbel hNOW
            go_wp2_with (go_at_call 83; refine HF0.out.mono ?_; rintro e w4 ⟨rfl, hb4⟩)
            have HM5 := Lib.hid (HM4.out.below hb4)
            have HL5 := Lib.hid (HL4.out.below hb4 HL4.out.lt)
            have HG5 := Lib.hid (HG4.out.below hb4 HG4.out.lt)
            have HB5 := Lib.hid (below_then HB4.out hb4)
            clear hb4
            go_loopw [132] (fun _ wr => ∃ (m : Nat) (st : Nat → FxSt), MAt wr w.heap.size T ⟨pI, pS, pB, gI, gS, gB⟩ n xs st ∧ StOk st ∧ cntF n st ≤ m ∧ goF G L NOW n xs m st = endF room gap n xs ∧ Blk wr T 3 #[.int .i64 E0] ∧ Blk wr pG 4 #[.bool G] ∧ Below w.heap.size w wr) (fun _ wr => cntB wr gB n)
            case atStart => exact ⟨n, _, HM5.out, HSOK.out, cnt_bd _ _, HEND.out, HL5.out, HG5.out, HB5.out⟩
            case round =>
              obtain ⟨m, st, hM, hok, hcm, hgo, hL, hG, hbel⟩ := hrel
              have hcb := cntB_eq hM n (Nat.le_refl _)
              have hnb := free_bd L n (fun i => curF (xs i) (st i)) xs HOK.out (fun i => cur_bd _ _ (HOK.out i) (hok i)) hm HLB.out
              have hsb := facs_bd G n xs st HOK.out hm
              have HF1 := Lib.hid (HFREE.out st wr hM hL hok)
              obtain ⟨now, hnow⟩ : ∃ x, x = nowF L n xs st := ⟨_, rfl⟩
              have hnb : -68719476736000 ≤ now ∧ now ≤ 68719476736000 := by rw [hnow]; exact hnb
              rw [← hnow] at HF1
              have HNOW := Lib.hid hnow
              have HOKS := Lib.hid hok
              have HCM := Lib.hid hcm
              have HGO := Lib.hid hgo
              have HCB := Lib.hid hcb
              have HNB := Lib.hid hnb
              have HSB := Lib.hid hsb
              have HM6 := Lib.hid hM
              have HL6 := Lib.hid hL
              have HG6 := Lib.hid hG
              have HB6 := Lib.hid hbel
              clear hnow hok hcm hgo hcb hnb hsb hM hL hG hbel
              go_wp2_with (first | (go_at_call 83; refine HF1.out.mono ?_; rintro e w7 ⟨rfl, hb7⟩) | (at_make; refine wpList_make_full _ rfl (.tmp 134) (.tmp 134) 22 rfl w7.heap.size 3 i0 (.int .i64 0) 1 Try.underlying22 hi0 hz0 hz1 .i64 .i64 _ _ n rfl rfl rfl rfl (by rw [hz2]; omega) (by unfold maxLen; omega) (Nat.le_refl _) ?_; intro w8 hW hgW; have hb8 := below_made (Below.refl _ w7) hgW; have u8 : w8.cell? ⟨pI, 0, none⟩ = some (.slice (some ⟨gI, 0, none⟩) n n) := ((HM6.out.below hb7).below hb8).bI.cell 0))
              have hM8 := (HM6.out.below hb7).below hb8
              have hL8 := (HL6.out.below hb7 HL6.out.lt)
              have hL8 := hL8.below hb8 hL8.lt
              have hG8 := (HG6.out.below hb7 HG6.out.lt)
              have hG8 := hG8.below hb8 hG8.lt
              have hbel8 := below_then (below_then HB6.out hb7) hb8
              have hTW : T < w7.heap.size := Nat.lt_of_lt_of_le HL6.out.lt hb7.size
              have hPW : pG < w7.heap.size := Nat.lt_of_lt_of_le HG6.out.lt hb7.size
              obtain ⟨gW, hgW'⟩ : ∃ x, x = w7.heap.size := ⟨_, rfl⟩
              rw [made_zero n (fun i => wtF G (xs i) (st i)), ← hgW'] at hW
              rw [← hgW'] at hTW hPW
              rw [← hgW']
              have hWl := (hW.lt _ rfl).2
              have HW8 := Lib.hid hW
              have HM8 := Lib.hid hM8
              have HL8 := Lib.hid hL8
              have HG8 := Lib.hid hG8
              have HB8 := Lib.hid hbel8
              have HTW := Lib.hid hTW
              have HPW := Lib.hid hPW
              have HBW := Lib.hid (show w.heap.size ≤ gW by have := HWT.out; omega)
              clear hW hM8 hL8 hG8 hbel8 hb7 hb8 hgW u8 hgW' hTW hPW HM6 HL6 HG6 HB6 HF1 hWl
              go_loopw [22, 24, 138] (fun v o i wr => ∃ q : Nat, q ≤ n ∧ i = .int .i64 q ∧ v = .int .i64 (facs G q xs st) ∧ o = .bool (decide (¬ cntF q st = 0)) ∧ wr.ownsRow gW 3 1 (.slice (some ⟨gW, 0, none⟩) n n) n (ints (upK n (fun i => wtF G (xs i) (st i)) q)) ∧ Below gW w8 wr) (fun _ _ i _ => n - (intOf i).toNat)
              case atStart => exact ⟨0, Nat.zero_le _, rfl, rfl, rfl, HW8.out, Below.refl _ _⟩
              case round =>
                obtain ⟨q, hq, rfl, rfl, rfl, hown, hbw⟩ := hrel
                have hsz := hbw.size
                by_cases hlt : q < n
                · as_aux_lemma =>
                    skip
                    have hM := HM8.out.low hbw (Nat.le_of_lt HTW.out)
                    have hG := HG8.out.below hbw HPW.out
                    have hat := hM.at hlt
                    have hfk := facs_bd G q xs st HOK.out (by omega)
                    have hfc := fac_bd G (xs q) (HOK.out q)
                    have HSUC := Lib.hid (facs_succ G q xs st)
                    have HWT4 : Hid (wtF G (xs q) (st q) = if (st q).settled then 0 else if G then (xs q).g else part (xs q).s (max 0 (xs q).b) 64) := rfl
                    obtain ⟨wv, hwv⟩ : ∃ x, x = wtF G (xs q) (st q) := ⟨_, rfl⟩
                    rw [← hwv] at HWT4
                    have HWV := Lib.hid hwv
                    clear hwv
                    have HCN : Hid (cntF (q + 1) st = cntF q st + if (st q).settled then 0 else 1) := rfl
                    have HO9C : Hid (∀ w9 : World, w9.ownsRow gW 3 1 (.slice (some ⟨gW, 0, none⟩) n n) n (ints (upK n (fun i => wtF G (xs i) (st i)) q)) → w9.cell? ⟨gW, q, none⟩ = some (.int .i64 0)) := fun w9 h => (h.cellAt q (by omega)).trans (by rw [upK_at _ _ _ _ hlt, if_neg (by omega)])
                    have HKEEP := Lib.hid (upK_keep n (fun i => wtF G (xs i) (st i)) q)
                    have HUSET := Lib.hid (upK_set n (fun i => wtF G (xs i) (st i)) q hlt)
                    obtain ⟨p, hp⟩ : ∃ x, x = facs G q xs st := ⟨_, rfl⟩
                    rw [← hp] at hfk HSUC ⊢
                    have u0 : (wr.alloc (.cells #[.int .i64 (xs q).b, .int .i64 (xs q).lo, .int .i64 (xs q).hi, .int .i64 (xs q).g, .int .i64 (xs q).s, .int .i64 (xs q).e] 95)).cell? ⟨pB, 0, none⟩ = some (.slice (some ⟨gB, 0, none⟩) n n) := (hM.bB.alloc _).cell 0
                    have u2 : (wr.alloc (.cells #[.int .i64 (xs q).b, .int .i64 (xs q).lo, .int .i64 (xs q).hi, .int .i64 (xs q).g, .int .i64 (xs q).s, .int .i64 (xs q).e] 95)).cell? ⟨gB, q, none⟩ = some (.bool (st q).settled) := (hM.alloc _).seAt hlt
                    have u3 : (wr.alloc (.cells #[.int .i64 (xs q).b, .int .i64 (xs q).lo, .int .i64 (xs q).hi, .int .i64 (xs q).g, .int .i64 (xs q).s, .int .i64 (xs q).e] 95)).cell? ⟨gW, q, none⟩ = some (.int .i64 0) := ((hown.alloc (.cells #[.int .i64 (xs q).b, .int .i64 (xs q).lo, .int .i64 (xs q).hi, .int .i64 (xs q).g, .int .i64 (xs q).s, .int .i64 (xs q).e] 95)).cellAt q (by omega)).trans (by rw [upK_at _ _ _ _ hlt, if_neg (by omega)])
                    have hO := hown.alloc (.cells #[.int .i64 (xs q).b, .int .i64 (xs q).lo, .int .i64 (xs q).hi, .int .i64 (xs q).g, .int .i64 (xs q).s, .int .i64 (xs q).e] 95)
                    have hGA := hG.alloc (.cells #[.int .i64 (xs q).b, .int .i64 (xs q).lo, .int .i64 (xs q).hi, .int .i64 (xs q).g, .int .i64 (xs q).s, .int .i64 (xs q).e] 95)
                    have hXA := Blk.new wr 95 #[.int .i64 (xs q).b, .int .i64 (xs q).lo, .int .i64 (xs q).hi, .int .i64 (xs q).g, .int .i64 (xs q).s, .int .i64 (xs q).e]
                    have hBA := hbw.alloc (show gW ≤ wr.heap.size from Nat.le_trans (Nat.le_of_lt (HW8.out.lt _ rfl).2) hsz) (.cells #[.int .i64 (xs q).b, .int .i64 (xs q).lo, .int .i64 (xs q).hi, .int .i64 (xs q).g, .int .i64 (xs q).s, .int .i64 (xs q).e] 95)
                    obtain ⟨⟨b, lo, hi, g, s, e⟩, hxe⟩ : ∃ x, x = xs q := ⟨_, rfl⟩
                    obtain ⟨⟨sd, is⟩, hse⟩ : ∃ x, x = st q := ⟨_, rfl⟩
                    rw [← hxe] at hat u0 u2 u3 hO hGA hXA hBA hfc
                    rw [← hse] at u2
                    rw [← hxe, ← hse] at HSUC HWT4
                    rw [← hse] at HCN
                    simp only at u0 u2 u3 hO hGA hXA hBA HWT4 HCN
                    have t0 : wr.cell? ⟨gI, q * 6, none⟩ = some (.int .i64 b) := hat 0 _ rfl
                    have t1 : wr.cell? ⟨gI, q * 6 + 1, none⟩ = some (.int .i64 lo) := hat 1 _ rfl
                    have t2 : wr.cell? ⟨gI, q * 6 + 2, none⟩ = some (.int .i64 hi) := hat 2 _ rfl
                    have t3 : wr.cell? ⟨gI, q * 6 + 3, none⟩ = some (.int .i64 g) := hat 3 _ rfl
                    have t4 : wr.cell? ⟨gI, q * 6 + 4, none⟩ = some (.int .i64 s) := hat 4 _ rfl
                    have t5 : wr.cell? ⟨gI, q * 6 + 5, none⟩ = some (.int .i64 e) := hat 5 _ rfl
                    have HFA := Lib.hid (fun w h => rfactor_calls b lo hi g s e G pG w h)
                    have QQ := Lib.hid (show q ≤ n ∧ q < n from ⟨hq, hlt⟩)
                    have HO := Lib.hid hO
                    have HGA := Lib.hid hGA
                    have HXA := Lib.hid hXA
                    have HBA := Lib.hid hBA
                    have HWX := Lib.hid (show gW < wr.heap.size from Nat.lt_of_lt_of_le (HW8.out.lt _ rfl).2 hsz)
                    obtain ⟨c0, c1⟩ := hfc
                    obtain ⟨p0, p1⟩ := hfk
                    clear hat hxe hse hp hM hG hown hbw hO hGA hXA hBA
                    cases sd
                    · obtain ⟨fq, hfq⟩ : ∃ x, x = (if G then g else s) := ⟨_, rfl⟩
                      have hq0 : 0 ≤ fq ∧ fq ≤ 1000000 := by rw [hfq]; exact ⟨c0, c1⟩
                      obtain ⟨q0, q1⟩ := hq0
                      rw [← hfq] at HFA
                      have HQ := Lib.hid (show facs G (q + 1) xs st = p + fq from by rw [HSUC.out, hfq]; rfl)
                      have HCN1 := Lib.hid (show decide (¬ cntF (q + 1) st = 0) = true from by rw [HCN.out]; simp)
                      clear hfq c0 c1
                      cases G
                      · have HWT5 : Hid (wtF false (xs q) (st q) = part s (max 0 b) 64) := HWV.out.symm.trans HWT4.out
                        go_upto_region 33 with (go_at_call 82; refine (HFA.out _ HGA.out).mono ?_; rintro e9 w9 ⟨rfl, hb9⟩; have hO9 := own_below HO.out hb9; have hG9 := HGA.out.below hb9 HGA.out.lt; have hX9 := HXA.out.below hb9 HXA.out.lt; have hB9 := HBA.out.trans (hb9.mono (show gW ≤ _ from Nat.le_trans (Nat.le_of_lt HWX.out) (by rw [alloc_size]; omega))); have v3 : w9.cell? ⟨wr.heap.size, 3, none⟩ = some (.int .i64 g) := hX9.cell 3; have v9 : w9.cell? ⟨gW, q, none⟩ = some (.int .i64 0) := HO9C.out _ hO9; have y9 : w9.frozen? ⟨gW, q, none⟩ = false := own_free hO9; have g9 : (w9.setCell ⟨gW, q, none⟩ (.int .i64 g)).cell? ⟨pG, 0, none⟩ = some (.bool false) := (hG9.far (by have := HPW.out; omega) (.int .i64 g)).cell 0)
                        have hX2 := hX9.far (b := gW) (i := q) (by have := HWX.out; omega) (.int .i64 g)
                        have v0 : (w9.setCell ⟨gW, q, none⟩ (.int .i64 g)).cell? ⟨wr.heap.size, 0, none⟩ = some (.int .i64 b) := hX2.cell 0
                        have v4 : (w9.setCell ⟨gW, q, none⟩ (.int .i64 g)).cell? ⟨wr.heap.size, 4, none⟩ = some (.int .i64 s) := hX2.cell 4
                        have vW : (w9.setCell ⟨gW, q, none⟩ (.int .i64 g)).cell? ⟨gW, q, none⟩ = some (.int .i64 g) := own_cell (own_set hO9) (by rw [List.getElem?_set_self (by rw [hO9.1]; have := QQ.out; omega)])
                        have yW2 : (w9.setCell ⟨gW, q, none⟩ (.int .i64 g)).frozen? ⟨gW, q, none⟩ = false := own_free (own_set hO9)
                        have hO10 := own_set (j := q) (u := .int .i64 (part s (max 0 b) 64)) (own_set (j := q) (u := .int .i64 g) hO9)
                        rw [List.set_set, ← HWT5.out, HUSET.out, HWT5.out] at hO10
                        have hB10 := (hB9.setCell (p := ⟨gW, q, none⟩) (Nat.le_refl _) (.int .i64 g)).setCell (p := ⟨gW, q, none⟩) (Nat.le_refl _) (.int .i64 (part s (max 0 b) 64))
                        have HO10 := Lib.hid hO10
                        have HB10 := Lib.hid hB10
                        clear hO9 hG9 hX9 hB9 hX2 hO10 hB10 hb9
                        go_wp2_with (go_at_call 22; refine (rpart_calls _ _ _ _).mono ?_; rintro e w' ⟨rfl, rfl⟩)
                        go_roundw
                        case rel => exact ⟨q + 1, by have := QQ.out; omega, by go_num, by rw [HQ.out], by rw [HCN1.out], HO10.out, HB10.out⟩
                        case measure => have := QQ.out; simp [intOf]; omega
                      · have HWT5 : Hid (wtF true (xs q) (st q) = g) := HWV.out.symm.trans HWT4.out
                        go_wp2_with (go_at_call 82; refine (HFA.out _ HGA.out).mono ?_; rintro e9 w9 ⟨rfl, hb9⟩; have hO9 := own_below HO.out hb9; have hG9 := HGA.out.below hb9 HGA.out.lt; have hX9 := HXA.out.below hb9 HXA.out.lt; have hB9 := HBA.out.trans (hb9.mono (show gW ≤ _ from Nat.le_trans (Nat.le_of_lt HWX.out) (by rw [alloc_size]; omega))); have v3 : w9.cell? ⟨wr.heap.size, 3, none⟩ = some (.int .i64 g) := hX9.cell 3; have v9 : w9.cell? ⟨gW, q, none⟩ = some (.int .i64 0) := HO9C.out _ hO9; have y9 : w9.frozen? ⟨gW, q, none⟩ = false := own_free hO9; have g9 : (w9.setCell ⟨gW, q, none⟩ (.int .i64 g)).cell? ⟨pG, 0, none⟩ = some (.bool true) := (hG9.far (by have := HPW.out; omega) (.int .i64 g)).cell 0)
                        have hO10 := own_set (j := q) (u := .int .i64 g) hO9
                        rw [← HWT5.out, HUSET.out, HWT5.out] at hO10
                        have HO10 := Lib.hid hO10
                        have HB10 := Lib.hid (hB9.setCell (p := ⟨gW, q, none⟩) (Nat.le_refl _) (.int .i64 g))
                        clear hO9 hG9 hX9 hB9 hO10 hb9
                        go_roundw
                        case rel => exact ⟨q + 1, by have := QQ.out; omega, by go_num, by rw [HQ.out], by rw [HCN1.out], HO10.out, HB10.out⟩
                        case measure => have := QQ.out; simp [intOf]; omega
                    · have HQ := Lib.hid (show facs G (q + 1) xs st = p from by rw [HSUC.out]; show p + 0 = p; omega)
                      have HCN1 := Lib.hid (show cntF (q + 1) st = cntF q st from HCN.out)
                      have HKE := Lib.hid (HKEEP.out (HWV.out.symm.trans HWT4.out))
                      go_wp2_with fail
                      go_roundw
                      case rel => exact ⟨q + 1, by have := QQ.out; omega, by go_num, by rw [HQ.out], by rw [HCN1.out], by rw [HKE.out]; exact HO.out, HBA.out⟩
                      case measure => have := QQ.out; simp [intOf]; omega
                · obtain rfl : n = q := by omega
                  have hM := HM8.out.low hbw (Nat.le_of_lt HTW.out)
                  have hL := HL8.out.below hbw HTW.out
                  have hG := HG8.out.below hbw HPW.out
                  have hbel := HB8.out.trans (hbw.mono HBW.out)
                  by_cases hz : cntF n st = 0
                  · rw [show decide (¬ cntF n st = 0) = false from by simp [hz]]
                    have HENDS := Lib.hid ((goF_end G L NOW n xs m st hz).symm.trans HGO.out)
                    have HM9 := Lib.hid hM
                    have HB9 := Lib.hid hbel
                    have u9 : wr.cell? ⟨pS, 0, none⟩ = some (.slice (some ⟨gS, 0, none⟩) n n) := hM.bS.cell 0
                    clear hM hL hG hbel hown hbw
                    go_wp2_with fail
                    clear u9
                    obtain ⟨wo, rfl⟩ : ∃ wo : World, wo = wr := ⟨_, rfl⟩
                    go_loopw [36, 286] (fun v i wr => ∃ q : Nat, q ≤ n ∧ i = .int .i64 q ∧ wr.ownsRow wo.heap.size 3 1 v q (ints ((List.range q).map (fun i => max 0 (endF room gap n xs i).is))) ∧ Below wo.heap.size wo wr) (fun _ i _ => n - (intOf i).toNat)
                    case atStart => exact ⟨0, Nat.zero_le _, rfl, World.ownsRow_nil _ _ _ _, Below.refl _ _⟩
                    case round =>
                      obtain ⟨q, hq, rfl, hown, hbw⟩ := hrel
                      have hsz := hbw.size
                      by_cases hlt3 : q < n
                      · as_aux_lemma =>
                          have t0 := (HM9.out.below hbw).isAt hlt3
                          rw [HENDS.out] at t0
                          obtain ⟨is, his⟩ : ∃ x, x = (endF room gap n xs q).is := ⟨_, rfl⟩
                          rw [← his] at t0
                          have t0 : wr.cell? ⟨gS, q, none⟩ = some (.int .i64 is) := t0
                          have HSN : Hid (ints ((List.range (q + 1)).map (fun i => max 0 (endF room gap n xs i).is)) = ints ((List.range q).map (fun i => max 0 (endF room gap n xs i).is)) ++ [.int .i64 (max 0 is)]) := by
                            show _ = _
                            rw [List.range_succ, List.map_append, List.map_cons, List.map_nil, ← his]
                            simp [ints]
                          have QQ := Lib.hid (show q ≤ n ∧ q < n from ⟨hq, hlt3⟩)
                          obtain ⟨A9, c9, rfl⟩ := own_open hown
                          have HOA := Lib.hid hown
                          have HBA := Lib.hid hbw
                          clear his hown hbw
                          go_wp2_with (at_builtin; refine wpList_append_own _ rfl _ _ 22 rfl wo.heap.size 3 i0 (.int .i64 0) 1 8 Try.underlying22 hi0 hz0 hz1 hz2 rfl (by decide) _ _ _ rfl (HOA.out.alloc _) ⟨wr.heap.size, 0, none⟩ 1 1 [.int .i64 (max 0 is)] rfl rfl (cells_new _ _ _ _ (by simp)) (fun u hu => by simp at hu; subst hu; rfl) (by unfold maxLen; omega) (by omega) (by simp; omega) ?_; intro v' w9 hown9 hg9 _)
                          have HB10 := Lib.hid (below_grown HBA.out HOA.out hg9)
                          have HO9 := Lib.hid hown9
                          clear hown9 hg9
                          go_roundw
                          case rel => exact ⟨q + 1, by have := QQ.out; omega, by go_num, by rw [HSN.out]; exact HO9.out, HB10.out⟩
                          case measure => have := QQ.out; simp [intOf]; omega
                      · obtain rfl : n = q := by omega
                        have HOE := Lib.hid hown
                        have HBE := Lib.hid (HB9.out.trans (hbw.mono HB9.out.size))
                        have HLE := Lib.hid HB9.out.size
                        clear hown hbw
                        go_wp2_with fail
                        go_ret
                        exact ⟨_, rfl, by rw [HMAIN.out]; exact own_low HOE.out HLE.out, HBE.out⟩
                  · skip
                    rw [show decide (¬ cntF n st = 0) = true from by simp [hz]]
                    obtain ⟨m', rfl⟩ : ∃ m', m = m' + 1 := ⟨m - 1, by have := HCM.out; omega⟩
                    have hgo := HGO.out
                    rw [goF_step _ _ _ _ _ _ _ hz] at hgo
                    obtain ⟨iu, hik, hns⟩ := cnt_some n st hz
                    have hn0 : 0 < n := by omega
                    have HLESS := Lib.hid (turn_less G n xs st (roomF NOW now (facs G n xs st)) iu hik hns)
                    have HT1 : Hid (turn1 G L NOW n xs st = turnF G n xs st (roomF NOW now (facs G n xs st))) := by show _ = _; unfold turn1; rw [HNOW.out]
                    rw [HT1.out] at hgo
                    obtain ⟨sum, hsum⟩ : ∃ x, x = facs G n xs st := ⟨_, rfl⟩
                    have hsb := HSB.out
                    rw [← hsum] at hsb hgo HLESS ⊢
                    have hrb := room_bd NOW now sum HNB.out
                    have HRF : Hid (roomF NOW now sum = if sum < 1000 then nearF now (part NOW sum 1000) else now) := rfl
                    obtain ⟨f, hf⟩ : ∃ x, x = roomF NOW now sum := ⟨_, rfl⟩
                    rw [← hf] at hrb hgo HLESS HRF
                    obtain ⟨tn, htn⟩ : ∃ x, x = turnF G n xs st f := ⟨_, rfl⟩
                    rw [← htn] at hgo HLESS
                    have HTN := Lib.hid htn
                    have HOKT := Lib.hid (show StOk tn from by rw [htn]; exact turn_ok G n xs st f HOKS.out)
                    have HGO2 := Lib.hid hgo
                    obtain ⟨n0, n1⟩ := HNB.out
                    obtain ⟨s0, s1⟩ := hsb
                    obtain ⟨f0, f1⟩ := hrb
                    rw [upK_all] at hown
                    have HW := Lib.hid hown
                    have HM := Lib.hid hM
                    have HL := Lib.hid hL
                    have HG := Lib.hid hG
                    have HB := Lib.hid hbel
                    have hpl := part_lo NOW sum 1000
                    have hph := part_hi NOW sum 1000
                    have hnv : ∀ a b : Int, nearF a b = if max b (-b) < max a (-a) then b else a := fun _ _ => rfl
                    have HNV := Lib.hid hnv
                    clear hgo hik hns hsum hf htn hown hM hL hG hbel hbw hz hlt hnv
                    obtain ⟨wo, rfl⟩ : ∃ wo : World, wo = wr := ⟨_, rfl⟩
                    obtain ⟨p, hp⟩ : ∃ x, x = part NOW sum 1000 := ⟨_, rfl⟩
                    rw [← hp] at HRF hpl hph
                    have HPC := Lib.hid (fun w => rpart_calls NOW sum 1000 w)
                    rw [← hp] at HPC
                    clear hp
                    obtain ⟨cc, hcc⟩ : ∃ c : Bool, c = decide (sum < 1000 ∧ max p (-p) < max now (-now)) := ⟨_, rfl⟩
                    have HCT : Hid (cc = true → p = f) := by
                      intro h
                      have h : sum < 1000 ∧ max p (-p) < max now (-now) := by rw [hcc] at h; simpa using h
                      rw [HRF.out, if_pos h.1, HNV.out, if_pos h.2]
                    have HCF : Hid (cc = false → now = f) := by
                      intro h
                      have h : ¬ (sum < 1000 ∧ max p (-p) < max now (-now)) := by rw [hcc] at h; simpa using h
                      by_cases h1 : sum < 1000
                      · rw [HRF.out, if_pos h1, HNV.out, if_neg (fun h2 => h ⟨h1, h2⟩)]
                      · rw [HRF.out, if_neg h1]
                    have HCC := Lib.hid hcc
                    clear hcc
                    go_upto_region 37 with (go_at_call 22; refine (HPC.out _).mono ?_; rintro e w' ⟨rfl, rfl⟩)
                    go_cut [186] from 174 to 186 (fun v wx => v = .bool cc ∧ wx = wo)
                    case first =>
                      by_cases hlow : sum < 1000
                      · by_cases hnear : max p (-p) < max now (-now)
                        · have HC1 := Lib.hid (show cc = true by rw [HCC.out]; simp only [decide_eq_true_eq]; exact ⟨hlow, hnear⟩)
                          go_wp2_with fail
                          all_goals first | (exfalso; omega) | (go_meet; exact ⟨by rw [HC1.out], rfl⟩)
                        · have HC1 := Lib.hid (show cc = false by rw [HCC.out]; simp only [decide_eq_false_iff_not]; exact fun h => hnear h.2)
                          go_wp2_with fail
                          all_goals first | (exfalso; omega) | (go_meet; exact ⟨by rw [HC1.out], rfl⟩)
                      · have HC1 := Lib.hid (show cc = false by rw [HCC.out]; simp only [decide_eq_false_iff_not]; exact fun h => hlow h.1)
                        go_wp2_with fail
                        all_goals first | (exfalso; omega) | (go_meet; exact ⟨by rw [HC1.out], rfl⟩)
                    case rest =>
                      obtain ⟨rfl, hwx⟩ := hcut
                      obtain rfl := hwx.symm
                      go_upto_if 186 with fail
                      go_cut [21] from 187 to 187 (fun v wx => v = .int .i64 f ∧ wx = wo)
                      case first =>
                        cases cc
                        · have HX1 := Lib.hid (HCF.out rfl)
                          clear HCF HCT HCC
                          go_wp2_with fail
                          go_meet
                          exact ⟨by rw [HX1.out], rfl⟩
                        · have HX1 := Lib.hid (HCT.out rfl)
                          clear HCF HCT HCC
                          go_wp2_with fail
                          go_meet
                          exact ⟨by rw [HX1.out], rfl⟩
                      case rest =>
                        obtain ⟨rfl, hwx⟩ := hcut
                        obtain rfl := hwx.symm
                        clear hpl hph HCF HCT HCC
                        have uG : wo.cell? ⟨pG, 0, none⟩ = some (.bool G) := HG.out.cell 0
                        go_upto_if 189 with fail
                        obtain ⟨fs, hfs⟩ : ∃ x, x = (if G then f else -f) := ⟨_, rfl⟩
                        obtain ⟨sg, hsg⟩ : ∃ x : Int, x = (if G then 1 else -1) := ⟨_, rfl⟩
                        have HFS := Lib.hid hfs
                        have HSG := Lib.hid hsg
                        clear hfs hsg uG
                        go_cut [21, 28] from 190 to 191 (fun v s wx => v = .int .i64 fs ∧ s = .int .i64 sg ∧ wx = wo)
                        case first =>
                          cases G
                          · go_wp2_with fail
                            go_meet
                            exact ⟨by rw [HFS.out]; rfl, by rw [HSG.out]; rfl, rfl⟩
                          · go_wp2_with fail
                            go_meet
                            exact ⟨by rw [HFS.out]; rfl, by rw [HSG.out]; rfl, rfl⟩
                        case rest =>
                          obtain ⟨rfl, rfl, hwx⟩ := hcut
                          obtain rfl := hwx.symm
                          have HSH := Lib.hid (fun w' h => rshare_own (max 0 fs) (some ⟨gW, 0, none⟩) n n w'.heap.size (wtsF G n xs st) w' (wts_len G n xs st) h (Nat.le_refl _) (by omega))
                          have HPT : Hid (∀ j, (partsF G n xs st f).getD j 0 = sg * (share (max 0 fs) (wtsF G n xs st)).getD j 0) := by
                            show ∀ j, _
                            intro j
                            rw [HFS.out, HSG.out]
                            unfold partsF
                            cases G
                            · show (((share (max 0 (-f)) (wtsF false n xs st)).map (fun x => -x))[j]?).getD 0 = (-1) * ((share (max 0 (-f)) (wtsF false n xs st))[j]?).getD 0
                              rw [List.getElem?_map]
                              generalize (share (max 0 (-f)) (wtsF false n xs st))[j]? = q
                              cases q with
                              | none => simp
                              | some x => show -x = (-1) * x; omega
                            · show (share (max 0 f) (wtsF true n xs st)).getD j 0 = 1 * (share (max 0 f) (wtsF true n xs st)).getD j 0
                              omega
                          obtain ⟨P0, hP0⟩ : ∃ x, x = share (max 0 fs) (wtsF G n xs st) := ⟨_, rfl⟩
                          have hP0l : P0.length = n := by rw [hP0, share_length, wts_len]
                          rw [← hP0] at HSH HPT
                          have HPL0 := Lib.hid hP0l
                          clear hP0 hP0l
                          go_wp2_with (first | (go_at_call 29; refine (HSH.out _ (Holds.of_own HW.out)).mono ?_; rintro e w4 ⟨A4, c4, rfl, ho4, hb4⟩; obtain ⟨g4, c5, hv, _, _⟩ := own_some ho4 hn0; injection hv with hv1 hv2 hv3; subst hv1; clear hv2 hv3) | (at_make; refine wpList_make_full _ rfl (.tmp 196) (.tmp 196) 22 rfl w4.heap.size 3 i0 (.int .i64 0) 1 Try.underlying22 hi0 hz0 hz1 .i64 .i64 _ _ n rfl rfl rfl rfl (by rw [hz2]; omega) (by unfold maxLen; omega) (Nat.le_refl _) ?_; intro w5 hY hgY; have hb5 := below_made (Below.refl _ w4) hgY; have u5 : w5.cell? ⟨pI, 0, none⟩ = some (.slice (some ⟨gI, 0, none⟩) n n) := ((HM.out.below hb4).below hb5).bI.cell 0))
                          have hM5 := (HM.out.below hb4).below hb5
                          have hL5 := HL.out.below hb4 HL.out.lt
                          have hL5 := hL5.below hb5 hL5.lt
                          have hG5 := HG.out.below hb4 HG.out.lt
                          have hG5 := hG5.below hb5 hG5.lt
                          have hb6 := below_then (below_then HB.out hb4) hb5
                          have hg4 := ho4.lt _ rfl
                          have hP5 := own_below ho4 hb5
                          have hTo : T < wo.heap.size := HL.out.lt
                          have hPo : pG < wo.heap.size := HG.out.lt
                          obtain ⟨gY, hgY'⟩ : ∃ x, x = w4.heap.size := ⟨_, rfl⟩
                          rw [made_zero n (byF G n xs st f), ← hgY'] at hY
                          have HYg := Lib.hid (show g4 < gY ∧ T < g4 ∧ T < gY ∧ pG < gY ∧ pG < g4 ∧ w.heap.size ≤ gY from ⟨by rw [hgY']; exact hg4.2, Nat.lt_of_lt_of_le hTo hg4.1, by have := hb4.size; omega, by have := hb4.size; omega, Nat.lt_of_lt_of_le hPo hg4.1, by have := HWT.out; have := hb4.size; omega⟩)
                          rw [← hgY']
                          have HM5' := Lib.hid hM5
                          have HL5' := Lib.hid hL5
                          have HG5' := Lib.hid hG5
                          have HP5' := Lib.hid hP5
                          have HY5' := Lib.hid hY
                          have HB5' := Lib.hid hb6
                          clear hM5 hL5 hG5 hb6 hg4 hP5 hTo hPo hgY' hY ho4 hb4 hb5 hgY u5 HSH
                          go_loopw [31, 200] (fun v i wr => ∃ j : Nat, j ≤ n ∧ i = .int .i64 j ∧ v = .int .i64 (sumTo (byF G n xs st f) j) ∧ MAt wr w.heap.size T ⟨pI, pS, pB, gI, gS, gB⟩ n xs (isK st (isF G n xs st f) j) ∧ wr.ownsRow wo.heap.size 3 1 (.slice (some ⟨g4, 0, none⟩) n c4) n (ints P0) ∧ wr.ownsRow gY 3 1 (.slice (some ⟨gY, 0, none⟩) n n) n (ints (upK n (byF G n xs st f) j)) ∧ Blk wr T 3 #[.int .i64 E0] ∧ Blk wr pG 4 #[.bool G] ∧ Below w.heap.size w wr) (fun _ i _ => n - (intOf i).toNat)
                          case atStart => exact ⟨0, Nat.zero_le _, rfl, rfl, by rw [isK_zero]; exact HM5'.out, HP5'.out, HY5'.out, HL5'.out, HG5'.out, HB5'.out⟩
                          case round =>
                            obtain ⟨j, hj, rfl, rfl, hM, hP, hY, hL, hG, hbel⟩ := hrel
                            by_cases hlt2 : j < n
                            · as_aux_lemma =>
                                skip
                                have hat := hM.at hlt2
                                have hxk := HOK.out j
                                have hbyb := by_bd G n xs st f j (HOKS.out j)
                                have hsumb := bySum_bd G n j xs st f HOKS.out (by omega)
                                have hpb := parts_bd G n xs st f j
                                have HISF0 : Hid (isF G n xs st f j = if (st j).settled then (st j).is else between ((xs j).b + (partsF G n xs st f).getD j 0) (xs j).lo (xs j).hi) := rfl
                                have HBYF0 : Hid (byF G n xs st f j = if (st j).settled then 0 else isF G n xs st f j - cut ((xs j).b + (partsF G n xs st f).getD j 0)) := rfl
                                have HSUC : Hid (sumTo (byF G n xs st f) (j + 1) = sumTo (byF G n xs st f) j + byF G n xs st f j) := rfl
                                have HKI := Lib.hid (isK_keep st (isF G n xs st f) j)
                                have HSI := Lib.hid (fun i => isK_step st (isF G n xs st f) j i)
                                have HAI := Lib.hid (isK_at st (isF G n xs st f) j)
                                have HKY := Lib.hid (upK_keep n (byF G n xs st f) j)
                                have HSY := Lib.hid (upK_set n (byF G n xs st f) j hlt2)
                                obtain ⟨isv, hisv⟩ : ∃ x, x = isF G n xs st f j := ⟨_, rfl⟩
                                obtain ⟨byv, hbyv⟩ : ∃ x, x = byF G n xs st f j := ⟨_, rfl⟩
                                rw [← hisv] at HISF0 HBYF0
                                rw [← hbyv] at HBYF0 hbyb HSUC
                                have HIV := Lib.hid hisv
                                have HBV := Lib.hid hbyv
                                obtain ⟨sp, hsp⟩ : ∃ x, x = (partsF G n xs st f).getD j 0 := ⟨_, rfl⟩
                                obtain ⟨p, hp⟩ : ∃ x, x = P0.getD j 0 := ⟨_, rfl⟩
                                have hspe : sp = sg * p := by rw [hsp, HPT.out j, ← hp]
                                have tp0 : wr.cell? ⟨g4, j, none⟩ = some (.int .i64 p) := (hP.cellAt j (by omega)).trans (by rw [hp]; exact ints_get _ _ (by rw [HPL0.out]; exact hlt2))
                                rw [← hsp] at HISF0 HBYF0 hpb
                                obtain ⟨cs, hcs⟩ : ∃ x, x = sumTo (byF G n xs st f) j := ⟨_, rfl⟩
                                rw [← hcs] at hsumb HSUC ⊢
                                have u0 : (wr.alloc (.cells #[.int .i64 (xs j).b, .int .i64 (xs j).lo, .int .i64 (xs j).hi, .int .i64 (xs j).g, .int .i64 (xs j).s, .int .i64 (xs j).e] 95)).cell? ⟨pB, 0, none⟩ = some (.slice (some ⟨gB, 0, none⟩) n n) := (hM.bB.alloc _).cell 0
                                have u2 : (wr.alloc (.cells #[.int .i64 (xs j).b, .int .i64 (xs j).lo, .int .i64 (xs j).hi, .int .i64 (xs j).g, .int .i64 (xs j).s, .int .i64 (xs j).e] 95)).cell? ⟨gB, j, none⟩ = some (.bool (st j).settled) := ((hM.alloc _).seAt hlt2).trans (by rw [HAI.out])
                                have hMA := hM.alloc (.cells #[.int .i64 (xs j).b, .int .i64 (xs j).lo, .int .i64 (xs j).hi, .int .i64 (xs j).g, .int .i64 (xs j).s, .int .i64 (xs j).e] 95)
                                have hPA := hP.alloc (.cells #[.int .i64 (xs j).b, .int .i64 (xs j).lo, .int .i64 (xs j).hi, .int .i64 (xs j).g, .int .i64 (xs j).s, .int .i64 (xs j).e] 95)
                                have hYA := hY.alloc (.cells #[.int .i64 (xs j).b, .int .i64 (xs j).lo, .int .i64 (xs j).hi, .int .i64 (xs j).g, .int .i64 (xs j).s, .int .i64 (xs j).e] 95)
                                have hLA := hL.alloc (.cells #[.int .i64 (xs j).b, .int .i64 (xs j).lo, .int .i64 (xs j).hi, .int .i64 (xs j).g, .int .i64 (xs j).s, .int .i64 (xs j).e] 95)
                                have hGA := hG.alloc (.cells #[.int .i64 (xs j).b, .int .i64 (xs j).lo, .int .i64 (xs j).hi, .int .i64 (xs j).g, .int .i64 (xs j).s, .int .i64 (xs j).e] 95)
                                have hXA := Blk.new wr 95 #[.int .i64 (xs j).b, .int .i64 (xs j).lo, .int .i64 (xs j).hi, .int .i64 (xs j).g, .int .i64 (xs j).s, .int .i64 (xs j).e]
                                have hBA := below_alloc hbel (.cells #[.int .i64 (xs j).b, .int .i64 (xs j).lo, .int .i64 (xs j).hi, .int .i64 (xs j).g, .int .i64 (xs j).s, .int .i64 (xs j).e] 95)
                                have tp : (wr.alloc (.cells #[.int .i64 (xs j).b, .int .i64 (xs j).lo, .int .i64 (xs j).hi, .int .i64 (xs j).g, .int .i64 (xs j).s, .int .i64 (xs j).e] 95)).cell? ⟨g4, j, none⟩ = some (.int .i64 p) := (hPA.cellAt j (by omega)).trans ((hP.cellAt j (by omega)).symm.trans tp0)
                                obtain ⟨⟨b, lo, hi, g, s, e⟩, hxe⟩ : ∃ x, x = xs j := ⟨_, rfl⟩
                                obtain ⟨⟨sd, is⟩, hse⟩ : ∃ x, x = st j := ⟨_, rfl⟩
                                rw [← hxe] at hat u0 u2 hMA hPA hYA hLA hGA hXA hBA hxk tp HISF0 HBYF0
                                rw [← hse] at u2 HISF0 HBYF0
                                have HSE := Lib.hid hse
                                simp only at u0 u2 hMA hPA hYA hLA hGA hXA hBA tp HISF0 HBYF0
                                have t0 : wr.cell? ⟨gI, j * 6, none⟩ = some (.int .i64 b) := hat 0 _ rfl
                                have t1 : wr.cell? ⟨gI, j * 6 + 1, none⟩ = some (.int .i64 lo) := hat 1 _ rfl
                                have t2 : wr.cell? ⟨gI, j * 6 + 2, none⟩ = some (.int .i64 hi) := hat 2 _ rfl
                                have t3 : wr.cell? ⟨gI, j * 6 + 3, none⟩ = some (.int .i64 g) := hat 3 _ rfl
                                have t4 : wr.cell? ⟨gI, j * 6 + 4, none⟩ = some (.int .i64 s) := hat 4 _ rfl
                                have t5 : wr.cell? ⟨gI, j * 6 + 5, none⟩ = some (.int .i64 e) := hat 5 _ rfl
                                have JJ := Lib.hid (show j ≤ n ∧ j < n from ⟨hj, hlt2⟩)
                                have HMA := Lib.hid hMA
                                have HPA := Lib.hid hPA
                                have HYA := Lib.hid hYA
                                have HLA := Lib.hid hLA
                                have HGA := Lib.hid hGA
                                have HXA := Lib.hid hXA
                                have HBA := Lib.hid hBA
                                have HTX := Lib.hid (show T < wr.heap.size from hL.lt)
                                have HYX := Lib.hid (show gY < wr.heap.size from (hY.lt _ rfl).2)
                                obtain ⟨b0, b1, _⟩ := hxk
                                simp only at b0 b1
                                obtain ⟨p0, p1⟩ := hpb
                                obtain ⟨c0, c1⟩ := hsumb
                                obtain ⟨d0, d1⟩ := hbyb
                                have m1 : IntKind.i64.wrap (sg * p) = sp := by rw [← hspe]; exact IntWalk.i64_in _ (by omega)
                                have m1' : wrap64 (sg * p) = sp := by rw [← hspe]; exact IntWalk.wrap64_in _ (by omega)
                                have m2 : IntKind.i64.wrap (b + sp) = b + sp := IntWalk.i64_in _ (by omega)
                                clear hat hxe hse hisv hbyv hsp hp hspe hcs hM hP hY hL hG hbel hMA hPA hYA hLA hGA hXA hBA tp0 HAI
                                cases sd
                                · as_aux_lemma =>
                                    have HV : Hid (between (b + sp) lo hi = isv) := HISF0.out.symm
                                    have HBYV : Hid (byv = isv - cut (b + sp)) := HBYF0.out
                                    clear HISF0 HBYF0
                                    go_wp2_with fail
                                    have hX := HXA.out.drew
                                    have hS0 : (fun w' : World => w'.cell? ⟨wr.heap.size, 0, none⟩ = some (.int .i64 b) ∧ w'.cell? ⟨g4, j, none⟩ = some (.int .i64 p)) (wr.alloc (.cells #[.int .i64 b, .int .i64 lo, .int .i64 hi, .int .i64 g, .int .i64 s, .int .i64 e] 95)).drew := ⟨hX.cell 0, tp⟩
                                    refine wp_region_noPanic ?_
                                    refine region_M (S := fun w' => w'.cell? ⟨wr.heap.size, 0, none⟩ = some (.int .i64 b) ∧ w'.cell? ⟨g4, j, none⟩ = some (.int .i64 p)) (T := []) (by kernel_rfl) ?_
                                    refine aF 0 210 ?_ rfl ?_ hS0 ?_
                                    rotate_left 1
                                    · (intro w hSw; (try dsimp only at hSw); go_simp; try with_reducible rfl)
                                    try simp only [Act.put, Array.toArray_toList, List.setIfInBounds_toArray, List.set_cons_zero, List.set_cons_succ]
                                    refine aT 1 211 ?_ rfl ?_ hS0 ?_
                                    rotate_left 1
                                    · (intro w hSw; (try dsimp only at hSw); go_simp; try with_reducible rfl)
                                    try simp only [Act.put, Array.toArray_toList, List.setIfInBounds_toArray, List.set_cons_zero, List.set_cons_succ]
                                    refine aF 2 212 ?_ rfl ?_ hS0 ?_
                                    rotate_left 1
                                    · (intro w hSw; (try dsimp only at hSw); go_simp; try with_reducible rfl)
                                    try simp only [Act.put, Array.toArray_toList, List.setIfInBounds_toArray, List.set_cons_zero, List.set_cons_succ]
                                    refine aF 3 213 ?_ rfl ?_ hS0 ?_
                                    rotate_left 1
                                    · (intro w hSw; (try dsimp only at hSw); go_simp; try with_reducible rfl)
                                    try simp only [Act.put, Array.toArray_toList, List.setIfInBounds_toArray, List.set_cons_zero, List.set_cons_succ]
                                    refine aF 4 214 ?_ rfl ?_ hS0 ?_
                                    rotate_left 1
                                    · (intro w hSw; (try dsimp only at hSw); go_simp; try with_reducible rfl)
                                    try simp only [Act.put, Array.toArray_toList, List.setIfInBounds_toArray, List.set_cons_zero, List.set_cons_succ]
                                    refine aF 5 215 ?_ rfl ?_ hS0 ?_
                                    rotate_left 1
                                    · (intro w hSw; (try dsimp only at hSw); go_simp; try with_reducible rfl)
                                    try simp only [Act.put, Array.toArray_toList, List.setIfInBounds_toArray, List.set_cons_zero, List.set_cons_succ]
                                    refine aT 6 216 ?_ rfl ?_ hS0 ?_
                                    rotate_left 1
                                    · (intro w hSw; (try dsimp only at hSw); go_simp; try with_reducible rfl)
                                    try simp only [Act.put, Array.toArray_toList, List.setIfInBounds_toArray, List.set_cons_zero, List.set_cons_succ]
                                    refine aF 7 217 ?_ rfl ?_ hS0 ?_
                                    rotate_left 1
                                    · (intro w hSw; (try dsimp only at hSw); go_simp; try with_reducible rfl)
                                    try simp only [Act.put, Array.toArray_toList, List.setIfInBounds_toArray, List.set_cons_zero, List.set_cons_succ]
                                    refine aF 8 218 ?_ rfl ?_ hS0 ?_
                                    rotate_left 1
                                    · (intro w hSw; (try dsimp only at hSw); go_simp; try with_reducible rfl)
                                    try simp only [Act.put, Array.toArray_toList, List.setIfInBounds_toArray, List.set_cons_zero, List.set_cons_succ]
                                    refine aF 9 34 ?_ rfl ?_ hS0 ?_
                                    rotate_left 1
                                    · (intro w hSw; (try dsimp only at hSw); go_simp; try with_reducible rfl)
                                    try simp only [Act.put, Array.toArray_toList, List.setIfInBounds_toArray, List.set_cons_zero, List.set_cons_succ]
                                    refine anyM_done (by kernel_rfl) ?_ _
                                    refine NoPanic.normal ?_
                                    have hM := HMA.out.drew
                                    have hX := HXA.out.drew
                                    have hY := own_drew1 HYA.out
                                    have hP := own_drew1 HPA.out
                                    have hL := HLA.out.drew
                                    have hG := HGA.out.drew
                                    have hbel := HBA.out.drew
                                    go_wp2_with fail
                                    generalize hwz : World.drew (World.alloc wr _) = wz at hM hX hY hP hL hG hbel ⊢
                                    have yS : wz.drew.frozen? ⟨gS, j, none⟩ = false := own_free hM.oS
                                    have kS0 := hM.isAt JJ.out.2
                                    have kS : wz.drew.cell? ⟨gS, j, none⟩ = some (.int .i64 (isK st (isF G n xs st f) j j).is) := kS0
                                    have hS0 : (fun w' : World => w'.cell? ⟨pS, 0, none⟩ = some (.slice (some ⟨gS, 0, none⟩) n n) ∧ w'.cell? ⟨wr.heap.size, 1, none⟩ = some (.int .i64 lo) ∧ w'.cell? ⟨wr.heap.size, 2, none⟩ = some (.int .i64 hi)) wz.drew := ⟨hM.bS.cell 0, hX.cell 1, hX.cell 2⟩
                                    have ZM := Lib.hid hM
                                    have ZX := Lib.hid hX
                                    have ZY := Lib.hid hY
                                    have ZP := Lib.hid hP
                                    have ZL := Lib.hid hL
                                    have ZG := Lib.hid hG
                                    have ZB := Lib.hid hbel
                                    clear hwz tp m1 m1' m2 t0 t1 t2 t3 t4 t5 u0 u2 hM hX hY hP hL hG hbel kS0
                                    refine wp_region_noPanic ?_
                                    refine region_M (S := fun w' => w'.cell? ⟨pS, 0, none⟩ = some (.slice (some ⟨gS, 0, none⟩) n n) ∧ w'.cell? ⟨wr.heap.size, 1, none⟩ = some (.int .i64 lo) ∧ w'.cell? ⟨wr.heap.size, 2, none⟩ = some (.int .i64 hi)) (T := [9]) (by kernel_rfl) ?_
                                    refine aT 0 219 ?_ rfl ?_ hS0 ?_
                                    rotate_left 1
                                    · (intro w hSw; (try dsimp only at hSw); go_simp; try with_reducible rfl)
                                    try simp only [Act.put, Array.toArray_toList, List.setIfInBounds_toArray, List.set_cons_zero, List.set_cons_succ]
                                    refine aF 1 220 ?_ rfl ?_ hS0 ?_
                                    rotate_left 1
                                    · (intro w hSw; (try dsimp only at hSw); go_simp; try with_reducible rfl)
                                    try simp only [Act.put, Array.toArray_toList, List.setIfInBounds_toArray, List.set_cons_zero, List.set_cons_succ]
                                    refine aF 2 221 ?_ rfl ?_ hS0 ?_
                                    rotate_left 1
                                    · (intro w hSw; (try dsimp only at hSw); go_simp; try with_reducible rfl)
                                    try simp only [Act.put, Array.toArray_toList, List.setIfInBounds_toArray, List.set_cons_zero, List.set_cons_succ]
                                    refine aF 3 222 ?_ rfl ?_ hS0 ?_
                                    rotate_left 1
                                    · (intro w hSw; (try dsimp only at hSw); go_simp; try with_reducible rfl)
                                    try simp only [Act.put, Array.toArray_toList, List.setIfInBounds_toArray, List.set_cons_zero, List.set_cons_succ]
                                    refine aT 4 223 ?_ rfl ?_ hS0 ?_
                                    rotate_left 1
                                    · (intro w hSw; (try dsimp only at hSw); go_simp; try with_reducible rfl)
                                    try simp only [Act.put, Array.toArray_toList, List.setIfInBounds_toArray, List.set_cons_zero, List.set_cons_succ]
                                    refine aF 5 224 ?_ rfl ?_ hS0 ?_
                                    rotate_left 1
                                    · (intro w hSw; (try dsimp only at hSw); go_simp; try with_reducible rfl)
                                    try simp only [Act.put, Array.toArray_toList, List.setIfInBounds_toArray, List.set_cons_zero, List.set_cons_succ]
                                    refine aT 6 225 ?_ rfl ?_ hS0 ?_
                                    rotate_left 1
                                    · (intro w hSw; (try dsimp only at hSw); go_simp; try with_reducible rfl)
                                    try simp only [Act.put, Array.toArray_toList, List.setIfInBounds_toArray, List.set_cons_zero, List.set_cons_succ]
                                    refine anyM_one (i := 7) (by kernel_rfl) rfl (fun K hK => ?_)
                                    go_simp
                                    refine (rbetween_calls _ _ _ _).mono ?_
                                    rintro e' w' ⟨rfl, rfl⟩
                                    rw [HV.out]
                                    refine hK.out _ _ (fun _ => hS0) ?_
                                    clear hK K
                                    try simp only [Act.put, Array.toArray_toList, List.setIfInBounds_toArray, List.set_cons_zero, List.set_cons_succ]
                                    refine aF 8 227 ?_ rfl ?_ hS0 ?_
                                    rotate_left 1
                                    · (intro w hSw; (try dsimp only at hSw); go_simp; try with_reducible rfl)
                                    try simp only [Act.put, Array.toArray_toList, List.setIfInBounds_toArray, List.set_cons_zero, List.set_cons_succ]
                                    refine anyM_one (i := 9) (by kernel_rfl) rfl (fun K hK => ?_)
                                    go_simp
                                    refine hK.out _ _ (fun h => late_no h (by kernel_rfl)) ?_
                                    clear hK K
                                    try simp only [Act.put, Array.toArray_toList, List.setIfInBounds_toArray, List.set_cons_zero, List.set_cons_succ]
                                    refine anyM_done (by kernel_rfl) ?_ _
                                    refine NoPanic.normal ?_
                                    have hM := ZM.out
                                    have hY := ZY.out
                                    have hP := ZP.out
                                    have hL := ZL.out
                                    have hG := ZG.out
                                    have hbel := ZB.out
                                    have hM2 := ((hM.setIs j isv).congr (st' := isK st (isF G n xs st f) (j + 1)) (fun i hi => by rw [← HSI.out i, HIV.out])).drew
                                    have hgsT : gS < T := hM.hT.2.2.2.2.1
                                    have hneY : (Value.slice (some ⟨gY, 0, none⟩) n n).ownBlock ≠ some gS := by have := HYg.out; simp [Value.ownBlock]; omega
                                    have hneP : (Value.slice (some ⟨g4, 0, none⟩) n c4).ownBlock ≠ some gS := by have := HYg.out; simp [Value.ownBlock]; omega
                                    have hY2 := own_drew1 (own_setFar (b := gS) (j := j) (u := .int .i64 isv) hY hneY)
                                    have hP2 := own_drew1 (own_setFar (b := gS) (j := j) (u := .int .i64 isv) hP hneP)
                                    clear hneY hneP hgsT
                                    have hL2 := (hM.farS hL (Nat.le_refl T) j (.int .i64 isv)).drew
                                    have hG2 := (hM.farS hG HPG.out j (.int .i64 isv)).drew
                                    have hbel2 := (below_set hbel (b := gS) (off := j) HGS.out (.int .i64 isv)).drew
                                    have YM := Lib.hid hM2
                                    have YY := Lib.hid hY2
                                    have YP := Lib.hid hP2
                                    have YL := Lib.hid hL2
                                    have YG := Lib.hid hG2
                                    have YB := Lib.hid hbel2
                                    clear hS0 yS kS hM hY hP hL hG hbel ZM ZX ZY ZP ZL ZG ZB hM2 hY2 hP2 hL2 hG2 hbel2
                                    go_wp2_with fail
                                    have hM2 := YM.out
                                    have hY2 := YY.out
                                    have hP2 := YP.out
                                    have hL2 := YL.out
                                    have hG2 := YG.out
                                    have hbel2 := YB.out
                                    clear YM YY YP YL YG YB
                                    generalize hwy : World.drew (World.setCell wz _ _) = wy at hM2 hY2 hP2 hL2 hG2 hbel2 ⊢
                                    have kS : wy.drew.cell? ⟨gS, j, none⟩ = some (.int .i64 isv) := (hM2.isAt JJ.out.2).trans (by unfold isK; rw [if_pos (by omega), HIV.out])
                                    have kY : wy.drew.cell? ⟨gY, j, none⟩ = some (.int .i64 0) := (hY2.cellAt j (by omega)).trans (by rw [upK_at _ _ _ _ JJ.out.2, if_neg (by omega)])
                                    have yY : wy.drew.frozen? ⟨gY, j, none⟩ = false := own_free hY2
                                    have hS0 : (fun w' : World => w'.cell? ⟨pS, 0, none⟩ = some (.slice (some ⟨gS, 0, none⟩) n n) ∧ w'.cell? ⟨gS, j, none⟩ = some (.int .i64 isv)) wy.drew := ⟨hM2.bS.cell 0, kS⟩
                                    have m3 : IntKind.i64.wrap (isv - cut (b + sp)) = byv := by rw [HBYV.out]; exact IntWalk.i64_in _ (by rw [HBYV.out] at d0 d1; omega)
                                    have YM := Lib.hid hM2
                                    have YY := Lib.hid hY2
                                    have YP := Lib.hid hP2
                                    have YL := Lib.hid hL2
                                    have YG := Lib.hid hG2
                                    have YB := Lib.hid hbel2
                                    clear hwy kS hM2 hY2 hP2 hL2 hG2 hbel2
                                    refine wp_region_noPanic ?_
                                    refine region_M (S := fun w' => w'.cell? ⟨pS, 0, none⟩ = some (.slice (some ⟨gS, 0, none⟩) n n) ∧ w'.cell? ⟨gS, j, none⟩ = some (.int .i64 isv)) (T := [10]) (by kernel_rfl) ?_
                                    refine aF 0 228 ?_ rfl ?_ hS0 ?_
                                    rotate_left 1
                                    · (intro w hSw; (try dsimp only at hSw); go_simp; try with_reducible rfl)
                                    try simp only [Act.put, Array.toArray_toList, List.setIfInBounds_toArray, List.set_cons_zero, List.set_cons_succ]
                                    refine aF 1 229 ?_ rfl ?_ hS0 ?_
                                    rotate_left 1
                                    · (intro w hSw; (try dsimp only at hSw); go_simp; try with_reducible rfl)
                                    try simp only [Act.put, Array.toArray_toList, List.setIfInBounds_toArray, List.set_cons_zero, List.set_cons_succ]
                                    refine aT 2 230 ?_ rfl ?_ hS0 ?_
                                    rotate_left 1
                                    · (intro w hSw; (try dsimp only at hSw); go_simp; try with_reducible rfl)
                                    try simp only [Act.put, Array.toArray_toList, List.setIfInBounds_toArray, List.set_cons_zero, List.set_cons_succ]
                                    refine aF 3 231 ?_ rfl ?_ hS0 ?_
                                    rotate_left 1
                                    · (intro w hSw; (try dsimp only at hSw); go_simp; try with_reducible rfl)
                                    try simp only [Act.put, Array.toArray_toList, List.setIfInBounds_toArray, List.set_cons_zero, List.set_cons_succ]
                                    refine aF 4 232 ?_ rfl ?_ hS0 ?_
                                    rotate_left 1
                                    · (intro w hSw; (try dsimp only at hSw); go_simp; try with_reducible rfl)
                                    try simp only [Act.put, Array.toArray_toList, List.setIfInBounds_toArray, List.set_cons_zero, List.set_cons_succ]
                                    refine aT 5 233 ?_ rfl ?_ hS0 ?_
                                    rotate_left 1
                                    · (intro w hSw; (try dsimp only at hSw); go_simp; try with_reducible rfl)
                                    try simp only [Act.put, Array.toArray_toList, List.setIfInBounds_toArray, List.set_cons_zero, List.set_cons_succ]
                                    refine aF 6 234 ?_ rfl ?_ hS0 ?_
                                    rotate_left 1
                                    · (intro w hSw; (try dsimp only at hSw); go_simp; try with_reducible rfl)
                                    try simp only [Act.put, Array.toArray_toList, List.setIfInBounds_toArray, List.set_cons_zero, List.set_cons_succ]
                                    refine anyM_one (i := 7) (by kernel_rfl) rfl (fun K hK => ?_)
                                    go_simp
                                    refine (rcut_calls _ _).mono ?_
                                    rintro e' w' ⟨rfl, rfl⟩
                                    refine hK.out _ _ (fun _ => hS0) ?_
                                    clear hK K
                                    try simp only [Act.put, Array.toArray_toList, List.setIfInBounds_toArray, List.set_cons_zero, List.set_cons_succ]
                                    refine aF 8 236 ?_ rfl ?_ hS0 ?_
                                    rotate_left 1
                                    · (intro w hSw; (try dsimp only at hSw); go_simp; try with_reducible rfl)
                                    try simp only [Act.put, Array.toArray_toList, List.setIfInBounds_toArray, List.set_cons_zero, List.set_cons_succ]
                                    refine aF 9 237 ?_ rfl ?_ hS0 ?_
                                    rotate_left 1
                                    · (intro w hSw; (try dsimp only at hSw); go_simp; try with_reducible rfl)
                                    try simp only [Act.put, Array.toArray_toList, List.setIfInBounds_toArray, List.set_cons_zero, List.set_cons_succ]
                                    refine anyM_one (i := 10) (by kernel_rfl) rfl (fun K hK => ?_)
                                    go_simp
                                    refine hK.out _ _ (fun h => late_no h (by kernel_rfl)) ?_
                                    clear hK K
                                    try simp only [Act.put, Array.toArray_toList, List.setIfInBounds_toArray, List.set_cons_zero, List.set_cons_succ]
                                    refine anyM_done (by kernel_rfl) ?_ _
                                    refine NoPanic.normal ?_
                                    have hM2 := YM.out
                                    have hY2 := YY.out
                                    have hP2 := YP.out
                                    have hL2 := YL.out
                                    have hG2 := YG.out
                                    have hbel2 := YB.out
                                    clear YM YY YP YL YG YB
                                    have hY3 := own_set (j := j) (u := .int .i64 byv) hY2
                                    rw [show (.int .i64 byv : Value) = .int .i64 (byF G n xs st f j) by rw [HBV.out], HSY.out, ← HBV.out] at hY3
                                    have hM3 := hM2.far (b := gY) (j := j) (u := .int .i64 byv) (Nat.le_of_lt HYg.out.2.2.1)
                                    have hP3 := own_setFar (b := gY) (j := j) (u := .int .i64 byv) hP2 (by have := HYg.out.1; simp [Value.ownBlock]; omega)
                                    have hL3 := hL2.far (b := gY) (i := j) (by have := HYg.out; omega) (.int .i64 byv)
                                    have hG3 := hG2.far (b := gY) (i := j) (by have := HYg.out; omega) (.int .i64 byv)
                                    have hbel3 := below_set hbel2 (b := gY) (off := j) HYg.out.2.2.2.2.2 (.int .i64 byv)
                                    have kY3 : (wy.setCell ⟨gY, j, none⟩ (.int .i64 byv)).cell? ⟨gY, j, none⟩ = some (.int .i64 byv) := (hY3.cellAt j (by omega)).trans (by rw [upK_at _ _ _ _ JJ.out.2, if_pos (by omega), HBV.out])
                                    have HM3 := Lib.hid hM3
                                    have HY3 := Lib.hid hY3
                                    have HP3 := Lib.hid hP3
                                    have HL3 := Lib.hid hL3
                                    have HG3 := Lib.hid hG3
                                    have HB3 := Lib.hid hbel3.drew
                                    have HSU := Lib.hid (show sumTo (byF G n xs st f) (j + 1) = cs + byv from HSUC.out)
                                    clear hM2 hY2 hP2 hL2 hG2 hbel2 hM3 hY3 hP3 hL3 hG3 hbel3 hS0 kY yY m3
                                    go_wp2_with fail
                                    go_roundw
                                    case rel => exact ⟨j + 1, by have := JJ.out; omega, by go_num, by rw [HSU.out], HM3.out.drew, own_drew1 HP3.out, own_drew1 HY3.out, HL3.out.drew, HG3.out.drew, HB3.out⟩
                                    case measure => have := JJ.out; simp [intOf]; omega
                                · have HSU := Lib.hid (show sumTo (byF G n xs st f) (j + 1) = cs from by rw [HSUC.out, HBYF0.out]; show cs + 0 = cs; omega)
                                  have HKE := Lib.hid (HKI.out (by rw [← HIV.out, HISF0.out, ← HSE.out]; rfl))
                                  have HKY2 := Lib.hid (HKY.out (by rw [← HBV.out, HBYF0.out]; rfl))
                                  clear m1 m1' m2
                                  go_wp2_with fail
                                  go_roundw
                                  case rel => exact ⟨j + 1, by have := JJ.out; omega, by go_num, by rw [HSU.out], by rw [HKE.out]; exact HMA.out, HPA.out, by rw [HKY2.out]; exact HYA.out, HLA.out, HGA.out, HBA.out⟩
                                  case measure => have := JJ.out; simp [intOf]; omega
                            · obtain rfl : n = j := by omega
                              have hsumA := bySum_bd G n n xs st f HOKS.out hm
                              have HALL : Hid (allF G n xs st f = sumTo (byF G n xs st f) n) := rfl
                              obtain ⟨all, hall⟩ : ∃ x, x = sumTo (byF G n xs st f) n := ⟨_, rfl⟩
                              rw [← hall] at hsumA HALL ⊢
                              have HGF : Hid (∀ i, i < n → stG (isK st (isF G n xs st f) n) (fun i => goesF all (byF G n xs st f i)) n i = tn i) := by
                                show ∀ i, _
                                intro i hi
                                rw [HTN.out]
                                unfold stG isK turnF
                                rw [if_pos hi, if_pos hi, HALL.out]
                              obtain ⟨a0, a1⟩ := hsumA
                              rw [upK_all] at hY
                              have HM6 := Lib.hid hM
                              have HY6 := Lib.hid hY
                              have HL6 := Lib.hid hL
                              have HG6 := Lib.hid hG
                              have HB6 := Lib.hid hbel
                              have u6 : wr.cell? ⟨pI, 0, none⟩ = some (.slice (some ⟨gI, 0, none⟩) n n) := hM.bI.cell 0
                              clear hall hM hY hL hG hbel hP
                              go_wp2_with fail
                              clear u6
                              go_loopw [247] (fun i wr => ∃ j : Nat, j ≤ n ∧ i = .int .i64 j ∧ MAt wr w.heap.size T ⟨pI, pS, pB, gI, gS, gB⟩ n xs (stG (isK st (isF G n xs st f) n) (fun i => goesF all (byF G n xs st f i)) j) ∧ wr.ownsRow gY 3 1 (.slice (some ⟨gY, 0, none⟩) n n) n (ints ((List.range n).map (byF G n xs st f))) ∧ Blk wr T 3 #[.int .i64 E0] ∧ Blk wr pG 4 #[.bool G] ∧ Below w.heap.size w wr) (fun i _ => n - (intOf i).toNat)
                              case atStart => exact ⟨0, Nat.zero_le _, rfl, by rw [stG_zero]; exact HM6.out, HY6.out, HL6.out, HG6.out, HB6.out⟩
                              case round =>
                                obtain ⟨j, hj, rfl, hM, hY, hL, hG, hbel⟩ := hrel
                                by_cases hlt3 : j < n
                                · as_aux_lemma =>
                                    skip
                                    have hsv := hM.seAt hlt3
                                    have hst0 : (stG (isK st (isF G n xs st f) n) (fun i => goesF all (byF G n xs st f i)) j j).settled = (st j).settled := by unfold stG isK; rw [if_neg (by omega), if_pos hlt3]
                                    rw [hst0] at hsv
                                    have hyv := (hY.cellAt j (by omega)).trans (show (ints ((List.range n).map (byF G n xs st f)))[j]? = some (.int .i64 (byF G n xs st f j)) by simp [ints, hlt3])
                                    have HSTEP : Hid (∀ v i, v = ((st j).settled || goesF all (byF G n xs st f j)) → (if i = j then (⟨v, (stG (isK st (isF G n xs st f) n) (fun i => goesF all (byF G n xs st f i)) j i).is⟩ : FxSt) else stG (isK st (isF G n xs st f) n) (fun i => goesF all (byF G n xs st f i)) j i) = stG (isK st (isF G n xs st f) n) (fun i => goesF all (byF G n xs st f i)) (j + 1) i) := by
                                      show ∀ v i, _
                                      intro v i hv
                                      unfold stG
                                      by_cases e : i = j
                                      · subst e; rw [if_pos rfl, if_neg (by omega), if_pos (by omega), hv]; unfold isK; rw [if_pos hlt3]
                                      · rw [if_neg e]
                                        by_cases e2 : i < j
                                        · rw [if_pos e2, if_pos (by omega)]
                                        · rw [if_neg e2, if_neg (by omega)]
                                    have HGOES : Hid (goesF all (byF G n xs st f j) = (decide (all = 0) || (decide (0 < all) && decide (0 < byF G n xs st f j)) || (decide (all < 0) && decide (byF G n xs st f j < 0)))) := rfl
                                    have hbb := by_bd G n xs st f j (HOKS.out j)
                                    obtain ⟨by', hby⟩ : ∃ x, x = byF G n xs st f j := ⟨_, rfl⟩
                                    rw [← hby] at hyv HSTEP HGOES hbb
                                    obtain ⟨sd, hsd⟩ : ∃ x, x = (st j).settled := ⟨_, rfl⟩
                                    rw [← hsd] at hsv HSTEP
                                    obtain ⟨go, hgo⟩ : ∃ x, x = goesF all by' := ⟨_, rfl⟩
                                    rw [← hgo] at HSTEP HGOES
                                    have HM0 := Lib.hid hM
                                    have HY0 := Lib.hid hY
                                    have HL0 := Lib.hid hL
                                    have HG0' := Lib.hid hG
                                    have HB0 := Lib.hid hbel
                                    have JJ := Lib.hid (show j ≤ n ∧ j < n from ⟨hj, hlt3⟩)
                                    obtain ⟨y0, y1⟩ := hbb
                                    have hS0' := hM.bB.cell 0
                                    clear hby hsd hgo hst0 hM hY hL hG hbel
                                    cases sd
                                    · by_cases hz0 : all = 0
                                      · have hz1' : (all == 0) = true := by simpa using hz0
                                        have HV := Lib.hid (show true = (false || go) by rw [HGOES.out]; simp [hz0])
                                        have HZ0 := Lib.hid hz0
                                        clear hz0
                                        as_aux_lemma =>
                                          have yB : wr.drew.frozen? ⟨gB, j, none⟩ = false := own_free HM0.out.oB
                                          have hS0 : (fun w' : World => w'.cell? ⟨pB, 0, none⟩ = some (.slice (some ⟨gB, 0, none⟩) n n) ∧ w'.cell? ⟨gB, j, none⟩ = some (.bool false) ∧ w'.cell? ⟨gY, j, none⟩ = some (.int .i64 by')) wr.drew := ⟨hS0', hsv, hyv⟩
                                          have hM3 := ((HM0.out.setSe j true).congr (fun i hi => HSTEP.out true i HV.out)).drew
                                          have hY3 := own_drew1 (own_setFar (b := gB) (j := j) (u := .bool true) HY0.out (by have h1 := HM0.out.hT.2.2.2.2.2; have h1 : gB < T := h1; have := HYg.out; simp [Value.ownBlock]; omega))
                                          have hL3 := (HM0.out.farB HL0.out (Nat.le_refl T) j (.bool true)).drew
                                          have hG3 := (HM0.out.farB HG0'.out HPG.out j (.bool true)).drew
                                          have hb3 := (below_set HB0.out (b := gB) (off := j) HGB.out (.bool true)).drew
                                          have HM3 := Lib.hid hM3
                                          have HY3 := Lib.hid hY3
                                          have HL3 := Lib.hid hL3
                                          have HG3 := Lib.hid hG3
                                          have HB3 := Lib.hid hb3
                                          clear hM3 hY3 hL3 hG3 hb3 hsv hyv hS0'
                                          go_wp2_with fail
                                          refine wp_region_noPanic ?_
                                          refine region_M (S := fun w' => w'.cell? ⟨pB, 0, none⟩ = some (.slice (some ⟨gB, 0, none⟩) n n) ∧ w'.cell? ⟨gB, j, none⟩ = some (.bool false) ∧ w'.cell? ⟨gY, j, none⟩ = some (.int .i64 by')) (T := [33]) (by kernel_rfl) ?_
                                          refine aT 0 250 ?_ rfl ?_ hS0 ?_
                                          rotate_left 1
                                          · (intro w hSw; (try dsimp only at hSw); go_simp; try with_reducible rfl)
                                          try simp only [Act.put, Array.toArray_toList, List.setIfInBounds_toArray, List.set_cons_zero, List.set_cons_succ]
                                          refine aF 1 251 ?_ rfl ?_ hS0 ?_
                                          rotate_left 1
                                          · (intro w hSw; (try dsimp only at hSw); go_simp; try with_reducible rfl)
                                          try simp only [Act.put, Array.toArray_toList, List.setIfInBounds_toArray, List.set_cons_zero, List.set_cons_succ]
                                          refine aT 2 252 ?_ rfl ?_ hS0 ?_
                                          rotate_left 1
                                          · (intro w hSw; (try dsimp only at hSw); go_simp; try with_reducible rfl)
                                          try simp only [Act.put, Array.toArray_toList, List.setIfInBounds_toArray, List.set_cons_zero, List.set_cons_succ]
                                          refine aF 3 253 ?_ rfl ?_ hS0 ?_
                                          rotate_left 1
                                          · (intro w hSw; (try dsimp only at hSw); go_simp; try with_reducible rfl)
                                          try simp only [Act.put, Array.toArray_toList, List.setIfInBounds_toArray, List.set_cons_zero, List.set_cons_succ]
                                          refine aF 4 254 ?_ rfl ?_ hS0 ?_
                                          rotate_left 1
                                          · (intro w hSw; (try dsimp only at hSw); go_simp; try with_reducible rfl)
                                          try simp only [Act.put, Array.toArray_toList, List.setIfInBounds_toArray, List.set_cons_zero, List.set_cons_succ]
                                          refine aT 5 255 ?_ rfl ?_ hS0 ?_
                                          rotate_left 1
                                          · (intro w hSw; (try dsimp only at hSw); go_simp; try with_reducible rfl)
                                          try simp only [Act.put, Array.toArray_toList, List.setIfInBounds_toArray, List.set_cons_zero, List.set_cons_succ]
                                          refine aF 6 256 ?_ rfl ?_ hS0 ?_
                                          rotate_left 1
                                          · (intro w hSw; (try dsimp only at hSw); go_simp; try with_reducible rfl)
                                          try simp only [Act.put, Array.toArray_toList, List.setIfInBounds_toArray, List.set_cons_zero, List.set_cons_succ]
                                          refine aF 7 257 ?_ rfl ?_ hS0 ?_
                                          rotate_left 1
                                          · (intro w hSw; (try dsimp only at hSw); go_simp; try with_reducible rfl)
                                          try simp only [Act.put, Array.toArray_toList, List.setIfInBounds_toArray, List.set_cons_zero, List.set_cons_succ]
                                          refine aF 8 258 ?_ rfl ?_ hS0 ?_
                                          rotate_left 1
                                          · (intro w hSw; (try dsimp only at hSw); go_simp; try with_reducible rfl)
                                          try simp only [Act.put, Array.toArray_toList, List.setIfInBounds_toArray, List.set_cons_zero, List.set_cons_succ]
                                          refine aF 9 259 ?_ rfl ?_ hS0 ?_
                                          rotate_left 1
                                          · (intro w hSw; (try dsimp only at hSw); go_simp; try with_reducible rfl)
                                          try simp only [Act.put, Array.toArray_toList, List.setIfInBounds_toArray, List.set_cons_zero, List.set_cons_succ]
                                          refine aF 10 260 ?_ rfl ?_ hS0 ?_
                                          rotate_left 1
                                          · (intro w hSw; (try dsimp only at hSw); go_simp; try with_reducible rfl)
                                          try simp only [Act.put, Array.toArray_toList, List.setIfInBounds_toArray, List.set_cons_zero, List.set_cons_succ]
                                          refine aN 11 261 rfl hS0 ?_
                                          try simp only [Act.put, Array.toArray_toList, List.setIfInBounds_toArray, List.set_cons_zero, List.set_cons_succ]
                                          refine aN 12 262 rfl hS0 ?_
                                          try simp only [Act.put, Array.toArray_toList, List.setIfInBounds_toArray, List.set_cons_zero, List.set_cons_succ]
                                          refine aN 13 263 rfl hS0 ?_
                                          try simp only [Act.put, Array.toArray_toList, List.setIfInBounds_toArray, List.set_cons_zero, List.set_cons_succ]
                                          refine aN 14 264 rfl hS0 ?_
                                          try simp only [Act.put, Array.toArray_toList, List.setIfInBounds_toArray, List.set_cons_zero, List.set_cons_succ]
                                          refine aN 15 265 rfl hS0 ?_
                                          try simp only [Act.put, Array.toArray_toList, List.setIfInBounds_toArray, List.set_cons_zero, List.set_cons_succ]
                                          refine aN 16 266 rfl hS0 ?_
                                          try simp only [Act.put, Array.toArray_toList, List.setIfInBounds_toArray, List.set_cons_zero, List.set_cons_succ]
                                          refine aN 17 267 rfl hS0 ?_
                                          try simp only [Act.put, Array.toArray_toList, List.setIfInBounds_toArray, List.set_cons_zero, List.set_cons_succ]
                                          refine aN 18 268 rfl hS0 ?_
                                          try simp only [Act.put, Array.toArray_toList, List.setIfInBounds_toArray, List.set_cons_zero, List.set_cons_succ]
                                          refine aN 19 269 rfl hS0 ?_
                                          try simp only [Act.put, Array.toArray_toList, List.setIfInBounds_toArray, List.set_cons_zero, List.set_cons_succ]
                                          refine aF 20 270 ?_ rfl ?_ hS0 ?_
                                          rotate_left 1
                                          · (intro w hSw; (try dsimp only at hSw); go_simp; try with_reducible rfl)
                                          try simp only [Act.put, Array.toArray_toList, List.setIfInBounds_toArray, List.set_cons_zero, List.set_cons_succ]
                                          refine aF 21 271 ?_ rfl ?_ hS0 ?_
                                          rotate_left 1
                                          · (intro w hSw; (try dsimp only at hSw); go_simp; try with_reducible rfl)
                                          try simp only [Act.put, Array.toArray_toList, List.setIfInBounds_toArray, List.set_cons_zero, List.set_cons_succ]
                                          refine aN 22 272 rfl hS0 ?_
                                          try simp only [Act.put, Array.toArray_toList, List.setIfInBounds_toArray, List.set_cons_zero, List.set_cons_succ]
                                          refine aN 23 273 rfl hS0 ?_
                                          try simp only [Act.put, Array.toArray_toList, List.setIfInBounds_toArray, List.set_cons_zero, List.set_cons_succ]
                                          refine aN 24 274 rfl hS0 ?_
                                          try simp only [Act.put, Array.toArray_toList, List.setIfInBounds_toArray, List.set_cons_zero, List.set_cons_succ]
                                          refine aN 25 275 rfl hS0 ?_
                                          try simp only [Act.put, Array.toArray_toList, List.setIfInBounds_toArray, List.set_cons_zero, List.set_cons_succ]
                                          refine aN 26 276 rfl hS0 ?_
                                          try simp only [Act.put, Array.toArray_toList, List.setIfInBounds_toArray, List.set_cons_zero, List.set_cons_succ]
                                          refine aN 27 277 rfl hS0 ?_
                                          try simp only [Act.put, Array.toArray_toList, List.setIfInBounds_toArray, List.set_cons_zero, List.set_cons_succ]
                                          refine aN 28 278 rfl hS0 ?_
                                          try simp only [Act.put, Array.toArray_toList, List.setIfInBounds_toArray, List.set_cons_zero, List.set_cons_succ]
                                          refine aN 29 279 rfl hS0 ?_
                                          try simp only [Act.put, Array.toArray_toList, List.setIfInBounds_toArray, List.set_cons_zero, List.set_cons_succ]
                                          refine aN 30 280 rfl hS0 ?_
                                          try simp only [Act.put, Array.toArray_toList, List.setIfInBounds_toArray, List.set_cons_zero, List.set_cons_succ]
                                          refine aF 31 281 ?_ rfl ?_ hS0 ?_
                                          rotate_left 1
                                          · (intro w hSw; (try dsimp only at hSw); go_simp; try with_reducible rfl)
                                          try simp only [Act.put, Array.toArray_toList, List.setIfInBounds_toArray, List.set_cons_zero, List.set_cons_succ]
                                          refine aF 32 282 ?_ rfl ?_ hS0 ?_
                                          rotate_left 1
                                          · (intro w hSw; (try dsimp only at hSw); go_simp; try with_reducible rfl)
                                          try simp only [Act.put, Array.toArray_toList, List.setIfInBounds_toArray, List.set_cons_zero, List.set_cons_succ]
                                          refine anyM_one (i := 33) (by kernel_rfl) rfl (fun K hK => ?_)
                                          go_simp
                                          refine hK.out _ _ (fun h => late_no h (by kernel_rfl)) ?_
                                          clear hK K
                                          try simp only [Act.put, Array.toArray_toList, List.setIfInBounds_toArray, List.set_cons_zero, List.set_cons_succ]
                                          refine anyM_done (by kernel_rfl) ?_ _
                                          refine NoPanic.normal ?_
                                          clear hS0 yB
                                          go_wp2_with fail
                                          go_roundw
                                          case rel => exact ⟨j + 1, by have := JJ.out; omega, by go_num, HM3.out, HY3.out, HL3.out, HG3.out, HB3.out⟩
                                          case measure => have := JJ.out; simp [intOf]; omega
                                      · have hz1' : (all == 0) = false := by simpa using hz0
                                        by_cases hp0 : 0 < all
                                        · have hp1' : decide (0 < all) = true := by simpa using hp0
                                          have hp2' : decide (all < 0) = false := by simp; omega
                                          by_cases hb0 : 0 < by'
                                          · have hb1' : decide (0 < by') = true := by simpa using hb0
                                            have HV := Lib.hid (show true = (false || go) by rw [HGOES.out]; simp [hz0, hp0, hb0])
                                            as_aux_lemma =>
                                              have yB : wr.drew.frozen? ⟨gB, j, none⟩ = false := own_free HM0.out.oB
                                              have hS0 : (fun w' : World => w'.cell? ⟨pB, 0, none⟩ = some (.slice (some ⟨gB, 0, none⟩) n n) ∧ w'.cell? ⟨gB, j, none⟩ = some (.bool false) ∧ w'.cell? ⟨gY, j, none⟩ = some (.int .i64 by')) wr.drew := ⟨hS0', hsv, hyv⟩
                                              have hM3 := ((HM0.out.setSe j true).congr (fun i hi => HSTEP.out true i HV.out)).drew
                                              have hY3 := own_drew1 (own_setFar (b := gB) (j := j) (u := .bool true) HY0.out (by have h1 := HM0.out.hT.2.2.2.2.2; have h1 : gB < T := h1; have := HYg.out; simp [Value.ownBlock]; omega))
                                              have hL3 := (HM0.out.farB HL0.out (Nat.le_refl T) j (.bool true)).drew
                                              have hG3 := (HM0.out.farB HG0'.out HPG.out j (.bool true)).drew
                                              have hb3 := (below_set HB0.out (b := gB) (off := j) HGB.out (.bool true)).drew
                                              have HM3 := Lib.hid hM3
                                              have HY3 := Lib.hid hY3
                                              have HL3 := Lib.hid hL3
                                              have HG3 := Lib.hid hG3
                                              have HB3 := Lib.hid hb3
                                              clear hM3 hY3 hL3 hG3 hb3 hsv hyv hS0'
                                              go_wp2_with fail
                                              refine wp_region_noPanic ?_
                                              refine region_M (S := fun w' => w'.cell? ⟨pB, 0, none⟩ = some (.slice (some ⟨gB, 0, none⟩) n n) ∧ w'.cell? ⟨gB, j, none⟩ = some (.bool false) ∧ w'.cell? ⟨gY, j, none⟩ = some (.int .i64 by')) (T := [33]) (by kernel_rfl) ?_
                                              refine aT 0 250 ?_ rfl ?_ hS0 ?_
                                              rotate_left 1
                                              · (intro w hSw; (try dsimp only at hSw); go_simp; try with_reducible rfl)
                                              try simp only [Act.put, Array.toArray_toList, List.setIfInBounds_toArray, List.set_cons_zero, List.set_cons_succ]
                                              refine aF 1 251 ?_ rfl ?_ hS0 ?_
                                              rotate_left 1
                                              · (intro w hSw; (try dsimp only at hSw); go_simp; try with_reducible rfl)
                                              try simp only [Act.put, Array.toArray_toList, List.setIfInBounds_toArray, List.set_cons_zero, List.set_cons_succ]
                                              refine aT 2 252 ?_ rfl ?_ hS0 ?_
                                              rotate_left 1
                                              · (intro w hSw; (try dsimp only at hSw); go_simp; try with_reducible rfl)
                                              try simp only [Act.put, Array.toArray_toList, List.setIfInBounds_toArray, List.set_cons_zero, List.set_cons_succ]
                                              refine aF 3 253 ?_ rfl ?_ hS0 ?_
                                              rotate_left 1
                                              · (intro w hSw; (try dsimp only at hSw); go_simp; try with_reducible rfl)
                                              try simp only [Act.put, Array.toArray_toList, List.setIfInBounds_toArray, List.set_cons_zero, List.set_cons_succ]
                                              refine aF 4 254 ?_ rfl ?_ hS0 ?_
                                              rotate_left 1
                                              · (intro w hSw; (try dsimp only at hSw); go_simp; try with_reducible rfl)
                                              try simp only [Act.put, Array.toArray_toList, List.setIfInBounds_toArray, List.set_cons_zero, List.set_cons_succ]
                                              refine aT 5 255 ?_ rfl ?_ hS0 ?_
                                              rotate_left 1
                                              · (intro w hSw; (try dsimp only at hSw); go_simp; try with_reducible rfl)
                                              try simp only [Act.put, Array.toArray_toList, List.setIfInBounds_toArray, List.set_cons_zero, List.set_cons_succ]
                                              refine aF 6 256 ?_ rfl ?_ hS0 ?_
                                              rotate_left 1
                                              · (intro w hSw; (try dsimp only at hSw); go_simp; try with_reducible rfl)
                                              try simp only [Act.put, Array.toArray_toList, List.setIfInBounds_toArray, List.set_cons_zero, List.set_cons_succ]
                                              refine aF 7 257 ?_ rfl ?_ hS0 ?_
                                              rotate_left 1
                                              · (intro w hSw; (try dsimp only at hSw); go_simp; try with_reducible rfl)
                                              try simp only [Act.put, Array.toArray_toList, List.setIfInBounds_toArray, List.set_cons_zero, List.set_cons_succ]
                                              refine aF 8 258 ?_ rfl ?_ hS0 ?_
                                              rotate_left 1
                                              · (intro w hSw; (try dsimp only at hSw); go_simp; try with_reducible rfl)
                                              try simp only [Act.put, Array.toArray_toList, List.setIfInBounds_toArray, List.set_cons_zero, List.set_cons_succ]
                                              refine aF 9 259 ?_ rfl ?_ hS0 ?_
                                              rotate_left 1
                                              · (intro w hSw; (try dsimp only at hSw); go_simp; try with_reducible rfl)
                                              try simp only [Act.put, Array.toArray_toList, List.setIfInBounds_toArray, List.set_cons_zero, List.set_cons_succ]
                                              refine aF 10 260 ?_ rfl ?_ hS0 ?_
                                              rotate_left 1
                                              · (intro w hSw; (try dsimp only at hSw); go_simp; try with_reducible rfl)
                                              try simp only [Act.put, Array.toArray_toList, List.setIfInBounds_toArray, List.set_cons_zero, List.set_cons_succ]
                                              refine aF 11 261 ?_ rfl ?_ hS0 ?_
                                              rotate_left 1
                                              · (intro w hSw; (try dsimp only at hSw); go_simp; try with_reducible rfl)
                                              try simp only [Act.put, Array.toArray_toList, List.setIfInBounds_toArray, List.set_cons_zero, List.set_cons_succ]
                                              refine aF 12 262 ?_ rfl ?_ hS0 ?_
                                              rotate_left 1
                                              · (intro w hSw; (try dsimp only at hSw); go_simp; try with_reducible rfl)
                                              try simp only [Act.put, Array.toArray_toList, List.setIfInBounds_toArray, List.set_cons_zero, List.set_cons_succ]
                                              refine aF 13 263 ?_ rfl ?_ hS0 ?_
                                              rotate_left 1
                                              · (intro w hSw; (try dsimp only at hSw); go_simp; try with_reducible rfl)
                                              try simp only [Act.put, Array.toArray_toList, List.setIfInBounds_toArray, List.set_cons_zero, List.set_cons_succ]
                                              refine aF 14 264 ?_ rfl ?_ hS0 ?_
                                              rotate_left 1
                                              · (intro w hSw; (try dsimp only at hSw); go_simp; try with_reducible rfl)
                                              try simp only [Act.put, Array.toArray_toList, List.setIfInBounds_toArray, List.set_cons_zero, List.set_cons_succ]
                                              refine aF 15 265 ?_ rfl ?_ hS0 ?_
                                              rotate_left 1
                                              · (intro w hSw; (try dsimp only at hSw); go_simp; try with_reducible rfl)
                                              try simp only [Act.put, Array.toArray_toList, List.setIfInBounds_toArray, List.set_cons_zero, List.set_cons_succ]
                                              refine aF 16 266 ?_ rfl ?_ hS0 ?_
                                              rotate_left 1
                                              · (intro w hSw; (try dsimp only at hSw); go_simp; try with_reducible rfl)
                                              try simp only [Act.put, Array.toArray_toList, List.setIfInBounds_toArray, List.set_cons_zero, List.set_cons_succ]
                                              refine aT 17 267 ?_ rfl ?_ hS0 ?_
                                              rotate_left 1
                                              · (intro w hSw; (try dsimp only at hSw); go_simp; try with_reducible rfl)
                                              try simp only [Act.put, Array.toArray_toList, List.setIfInBounds_toArray, List.set_cons_zero, List.set_cons_succ]
                                              refine aF 18 268 ?_ rfl ?_ hS0 ?_
                                              rotate_left 1
                                              · (intro w hSw; (try dsimp only at hSw); go_simp; try with_reducible rfl)
                                              try simp only [Act.put, Array.toArray_toList, List.setIfInBounds_toArray, List.set_cons_zero, List.set_cons_succ]
                                              refine aF 19 269 ?_ rfl ?_ hS0 ?_
                                              rotate_left 1
                                              · (intro w hSw; (try dsimp only at hSw); go_simp; try with_reducible rfl)
                                              try simp only [Act.put, Array.toArray_toList, List.setIfInBounds_toArray, List.set_cons_zero, List.set_cons_succ]
                                              refine aF 20 270 ?_ rfl ?_ hS0 ?_
                                              rotate_left 1
                                              · (intro w hSw; (try dsimp only at hSw); go_simp; try with_reducible rfl)
                                              try simp only [Act.put, Array.toArray_toList, List.setIfInBounds_toArray, List.set_cons_zero, List.set_cons_succ]
                                              refine aF 21 271 ?_ rfl ?_ hS0 ?_
                                              rotate_left 1
                                              · (intro w hSw; (try dsimp only at hSw); go_simp; try with_reducible rfl)
                                              try simp only [Act.put, Array.toArray_toList, List.setIfInBounds_toArray, List.set_cons_zero, List.set_cons_succ]
                                              refine aN 22 272 rfl hS0 ?_
                                              try simp only [Act.put, Array.toArray_toList, List.setIfInBounds_toArray, List.set_cons_zero, List.set_cons_succ]
                                              refine aN 23 273 rfl hS0 ?_
                                              try simp only [Act.put, Array.toArray_toList, List.setIfInBounds_toArray, List.set_cons_zero, List.set_cons_succ]
                                              refine aN 24 274 rfl hS0 ?_
                                              try simp only [Act.put, Array.toArray_toList, List.setIfInBounds_toArray, List.set_cons_zero, List.set_cons_succ]
                                              refine aN 25 275 rfl hS0 ?_
                                              try simp only [Act.put, Array.toArray_toList, List.setIfInBounds_toArray, List.set_cons_zero, List.set_cons_succ]
                                              refine aN 26 276 rfl hS0 ?_
                                              try simp only [Act.put, Array.toArray_toList, List.setIfInBounds_toArray, List.set_cons_zero, List.set_cons_succ]
                                              refine aN 27 277 rfl hS0 ?_
                                              try simp only [Act.put, Array.toArray_toList, List.setIfInBounds_toArray, List.set_cons_zero, List.set_cons_succ]
                                              refine aN 28 278 rfl hS0 ?_
                                              try simp only [Act.put, Array.toArray_toList, List.setIfInBounds_toArray, List.set_cons_zero, List.set_cons_succ]
                                              refine aN 29 279 rfl hS0 ?_
                                              try simp only [Act.put, Array.toArray_toList, List.setIfInBounds_toArray, List.set_cons_zero, List.set_cons_succ]
                                              refine aN 30 280 rfl hS0 ?_
                                              try simp only [Act.put, Array.toArray_toList, List.setIfInBounds_toArray, List.set_cons_zero, List.set_cons_succ]
                                              refine aF 31 281 ?_ rfl ?_ hS0 ?_
                                              rotate_left 1
                                              · (intro w hSw; (try dsimp only at hSw); go_simp; try with_reducible rfl)
                                              try simp only [Act.put, Array.toArray_toList, List.setIfInBounds_toArray, List.set_cons_zero, List.set_cons_succ]
                                              refine aF 32 282 ?_ rfl ?_ hS0 ?_
                                              rotate_left 1
                                              · (intro w hSw; (try dsimp only at hSw); go_simp; try with_reducible rfl)
                                              try simp only [Act.put, Array.toArray_toList, List.setIfInBounds_toArray, List.set_cons_zero, List.set_cons_succ]
                                              refine anyM_one (i := 33) (by kernel_rfl) rfl (fun K hK => ?_)
                                              go_simp
                                              refine hK.out _ _ (fun h => late_no h (by kernel_rfl)) ?_
                                              clear hK K
                                              try simp only [Act.put, Array.toArray_toList, List.setIfInBounds_toArray, List.set_cons_zero, List.set_cons_succ]
                                              refine anyM_done (by kernel_rfl) ?_ _
                                              refine NoPanic.normal ?_
                                              clear hS0 yB
                                              go_wp2_with fail
                                              go_roundw
                                              case rel => exact ⟨j + 1, by have := JJ.out; omega, by go_num, HM3.out, HY3.out, HL3.out, HG3.out, HB3.out⟩
                                              case measure => have := JJ.out; simp [intOf]; omega
                                          · have hb1' : decide (0 < by') = false := by simpa using hb0
                                            have HV := Lib.hid (show false = (false || go) by rw [HGOES.out]; simp [hz0, hp2', hb0]; try omega)
                                            as_aux_lemma =>
                                              have yB : wr.drew.frozen? ⟨gB, j, none⟩ = false := own_free HM0.out.oB
                                              have hS0 : (fun w' : World => w'.cell? ⟨pB, 0, none⟩ = some (.slice (some ⟨gB, 0, none⟩) n n) ∧ w'.cell? ⟨gB, j, none⟩ = some (.bool false) ∧ w'.cell? ⟨gY, j, none⟩ = some (.int .i64 by')) wr.drew := ⟨hS0', hsv, hyv⟩
                                              have hM3 := ((HM0.out.setSe j false).congr (fun i hi => HSTEP.out false i HV.out)).drew
                                              have hY3 := own_drew1 (own_setFar (b := gB) (j := j) (u := .bool false) HY0.out (by have h1 := HM0.out.hT.2.2.2.2.2; have h1 : gB < T := h1; have := HYg.out; simp [Value.ownBlock]; omega))
                                              have hL3 := (HM0.out.farB HL0.out (Nat.le_refl T) j (.bool false)).drew
                                              have hG3 := (HM0.out.farB HG0'.out HPG.out j (.bool false)).drew
                                              have hb3 := (below_set HB0.out (b := gB) (off := j) HGB.out (.bool false)).drew
                                              have HM3 := Lib.hid hM3
                                              have HY3 := Lib.hid hY3
                                              have HL3 := Lib.hid hL3
                                              have HG3 := Lib.hid hG3
                                              have HB3 := Lib.hid hb3
                                              clear hM3 hY3 hL3 hG3 hb3 hsv hyv hS0'
                                              go_wp2_with fail
                                              refine wp_region_noPanic ?_
                                              refine region_M (S := fun w' => w'.cell? ⟨pB, 0, none⟩ = some (.slice (some ⟨gB, 0, none⟩) n n) ∧ w'.cell? ⟨gB, j, none⟩ = some (.bool false) ∧ w'.cell? ⟨gY, j, none⟩ = some (.int .i64 by')) (T := [33]) (by kernel_rfl) ?_
                                              refine aT 0 250 ?_ rfl ?_ hS0 ?_
                                              rotate_left 1
                                              · (intro w hSw; (try dsimp only at hSw); go_simp; try with_reducible rfl)
                                              try simp only [Act.put, Array.toArray_toList, List.setIfInBounds_toArray, List.set_cons_zero, List.set_cons_succ]
                                              refine aF 1 251 ?_ rfl ?_ hS0 ?_
                                              rotate_left 1
                                              · (intro w hSw; (try dsimp only at hSw); go_simp; try with_reducible rfl)
                                              try simp only [Act.put, Array.toArray_toList, List.setIfInBounds_toArray, List.set_cons_zero, List.set_cons_succ]
                                              refine aT 2 252 ?_ rfl ?_ hS0 ?_
                                              rotate_left 1
                                              · (intro w hSw; (try dsimp only at hSw); go_simp; try with_reducible rfl)
                                              try simp only [Act.put, Array.toArray_toList, List.setIfInBounds_toArray, List.set_cons_zero, List.set_cons_succ]
                                              refine aF 3 253 ?_ rfl ?_ hS0 ?_
                                              rotate_left 1
                                              · (intro w hSw; (try dsimp only at hSw); go_simp; try with_reducible rfl)
                                              try simp only [Act.put, Array.toArray_toList, List.setIfInBounds_toArray, List.set_cons_zero, List.set_cons_succ]
                                              refine aF 4 254 ?_ rfl ?_ hS0 ?_
                                              rotate_left 1
                                              · (intro w hSw; (try dsimp only at hSw); go_simp; try with_reducible rfl)
                                              try simp only [Act.put, Array.toArray_toList, List.setIfInBounds_toArray, List.set_cons_zero, List.set_cons_succ]
                                              refine aT 5 255 ?_ rfl ?_ hS0 ?_
                                              rotate_left 1
                                              · (intro w hSw; (try dsimp only at hSw); go_simp; try with_reducible rfl)
                                              try simp only [Act.put, Array.toArray_toList, List.setIfInBounds_toArray, List.set_cons_zero, List.set_cons_succ]
                                              refine aF 6 256 ?_ rfl ?_ hS0 ?_
                                              rotate_left 1
                                              · (intro w hSw; (try dsimp only at hSw); go_simp; try with_reducible rfl)
                                              try simp only [Act.put, Array.toArray_toList, List.setIfInBounds_toArray, List.set_cons_zero, List.set_cons_succ]
                                              refine aF 7 257 ?_ rfl ?_ hS0 ?_
                                              rotate_left 1
                                              · (intro w hSw; (try dsimp only at hSw); go_simp; try with_reducible rfl)
                                              try simp only [Act.put, Array.toArray_toList, List.setIfInBounds_toArray, List.set_cons_zero, List.set_cons_succ]
                                              refine aF 8 258 ?_ rfl ?_ hS0 ?_
                                              rotate_left 1
                                              · (intro w hSw; (try dsimp only at hSw); go_simp; try with_reducible rfl)
                                              try simp only [Act.put, Array.toArray_toList, List.setIfInBounds_toArray, List.set_cons_zero, List.set_cons_succ]
                                              refine aF 9 259 ?_ rfl ?_ hS0 ?_
                                              rotate_left 1
                                              · (intro w hSw; (try dsimp only at hSw); go_simp; try with_reducible rfl)
                                              try simp only [Act.put, Array.toArray_toList, List.setIfInBounds_toArray, List.set_cons_zero, List.set_cons_succ]
                                              refine aF 10 260 ?_ rfl ?_ hS0 ?_
                                              rotate_left 1
                                              · (intro w hSw; (try dsimp only at hSw); go_simp; try with_reducible rfl)
                                              try simp only [Act.put, Array.toArray_toList, List.setIfInBounds_toArray, List.set_cons_zero, List.set_cons_succ]
                                              refine aF 11 261 ?_ rfl ?_ hS0 ?_
                                              rotate_left 1
                                              · (intro w hSw; (try dsimp only at hSw); go_simp; try with_reducible rfl)
                                              try simp only [Act.put, Array.toArray_toList, List.setIfInBounds_toArray, List.set_cons_zero, List.set_cons_succ]
                                              refine aF 12 262 ?_ rfl ?_ hS0 ?_
                                              rotate_left 1
                                              · (intro w hSw; (try dsimp only at hSw); go_simp; try with_reducible rfl)
                                              try simp only [Act.put, Array.toArray_toList, List.setIfInBounds_toArray, List.set_cons_zero, List.set_cons_succ]
                                              refine aF 13 263 ?_ rfl ?_ hS0 ?_
                                              rotate_left 1
                                              · (intro w hSw; (try dsimp only at hSw); go_simp; try with_reducible rfl)
                                              try simp only [Act.put, Array.toArray_toList, List.setIfInBounds_toArray, List.set_cons_zero, List.set_cons_succ]
                                              refine aF 14 264 ?_ rfl ?_ hS0 ?_
                                              rotate_left 1
                                              · (intro w hSw; (try dsimp only at hSw); go_simp; try with_reducible rfl)
                                              try simp only [Act.put, Array.toArray_toList, List.setIfInBounds_toArray, List.set_cons_zero, List.set_cons_succ]
                                              refine aF 15 265 ?_ rfl ?_ hS0 ?_
                                              rotate_left 1
                                              · (intro w hSw; (try dsimp only at hSw); go_simp; try with_reducible rfl)
                                              try simp only [Act.put, Array.toArray_toList, List.setIfInBounds_toArray, List.set_cons_zero, List.set_cons_succ]
                                              refine aF 16 266 ?_ rfl ?_ hS0 ?_
                                              rotate_left 1
                                              · (intro w hSw; (try dsimp only at hSw); go_simp; try with_reducible rfl)
                                              try simp only [Act.put, Array.toArray_toList, List.setIfInBounds_toArray, List.set_cons_zero, List.set_cons_succ]
                                              refine aT 17 267 ?_ rfl ?_ hS0 ?_
                                              rotate_left 1
                                              · (intro w hSw; (try dsimp only at hSw); go_simp; try with_reducible rfl)
                                              try simp only [Act.put, Array.toArray_toList, List.setIfInBounds_toArray, List.set_cons_zero, List.set_cons_succ]
                                              refine aF 18 268 ?_ rfl ?_ hS0 ?_
                                              rotate_left 1
                                              · (intro w hSw; (try dsimp only at hSw); go_simp; try with_reducible rfl)
                                              try simp only [Act.put, Array.toArray_toList, List.setIfInBounds_toArray, List.set_cons_zero, List.set_cons_succ]
                                              refine aF 19 269 ?_ rfl ?_ hS0 ?_
                                              rotate_left 1
                                              · (intro w hSw; (try dsimp only at hSw); go_simp; try with_reducible rfl)
                                              try simp only [Act.put, Array.toArray_toList, List.setIfInBounds_toArray, List.set_cons_zero, List.set_cons_succ]
                                              refine aF 20 270 ?_ rfl ?_ hS0 ?_
                                              rotate_left 1
                                              · (intro w hSw; (try dsimp only at hSw); go_simp; try with_reducible rfl)
                                              try simp only [Act.put, Array.toArray_toList, List.setIfInBounds_toArray, List.set_cons_zero, List.set_cons_succ]
                                              refine aF 21 271 ?_ rfl ?_ hS0 ?_
                                              rotate_left 1
                                              · (intro w hSw; (try dsimp only at hSw); go_simp; try with_reducible rfl)
                                              try simp only [Act.put, Array.toArray_toList, List.setIfInBounds_toArray, List.set_cons_zero, List.set_cons_succ]
                                              refine aF 22 272 ?_ rfl ?_ hS0 ?_
                                              rotate_left 1
                                              · (intro w hSw; (try dsimp only at hSw); go_simp; try with_reducible rfl)
                                              try simp only [Act.put, Array.toArray_toList, List.setIfInBounds_toArray, List.set_cons_zero, List.set_cons_succ]
                                              refine aF 23 273 ?_ rfl ?_ hS0 ?_
                                              rotate_left 1
                                              · (intro w hSw; (try dsimp only at hSw); go_simp; try with_reducible rfl)
                                              try simp only [Act.put, Array.toArray_toList, List.setIfInBounds_toArray, List.set_cons_zero, List.set_cons_succ]
                                              refine aF 24 274 ?_ rfl ?_ hS0 ?_
                                              rotate_left 1
                                              · (intro w hSw; (try dsimp only at hSw); go_simp; try with_reducible rfl)
                                              try simp only [Act.put, Array.toArray_toList, List.setIfInBounds_toArray, List.set_cons_zero, List.set_cons_succ]
                                              refine aN 25 275 rfl hS0 ?_
                                              try simp only [Act.put, Array.toArray_toList, List.setIfInBounds_toArray, List.set_cons_zero, List.set_cons_succ]
                                              refine aN 26 276 rfl hS0 ?_
                                              try simp only [Act.put, Array.toArray_toList, List.setIfInBounds_toArray, List.set_cons_zero, List.set_cons_succ]
                                              refine aN 27 277 rfl hS0 ?_
                                              try simp only [Act.put, Array.toArray_toList, List.setIfInBounds_toArray, List.set_cons_zero, List.set_cons_succ]
                                              refine aN 28 278 rfl hS0 ?_
                                              try simp only [Act.put, Array.toArray_toList, List.setIfInBounds_toArray, List.set_cons_zero, List.set_cons_succ]
                                              refine aN 29 279 rfl hS0 ?_
                                              try simp only [Act.put, Array.toArray_toList, List.setIfInBounds_toArray, List.set_cons_zero, List.set_cons_succ]
                                              refine aF 30 280 ?_ rfl ?_ hS0 ?_
                                              rotate_left 1
                                              · (intro w hSw; (try dsimp only at hSw); go_simp; try with_reducible rfl)
                                              try simp only [Act.put, Array.toArray_toList, List.setIfInBounds_toArray, List.set_cons_zero, List.set_cons_succ]
                                              refine aF 31 281 ?_ rfl ?_ hS0 ?_
                                              rotate_left 1
                                              · (intro w hSw; (try dsimp only at hSw); go_simp; try with_reducible rfl)
                                              try simp only [Act.put, Array.toArray_toList, List.setIfInBounds_toArray, List.set_cons_zero, List.set_cons_succ]
                                              refine aF 32 282 ?_ rfl ?_ hS0 ?_
                                              rotate_left 1
                                              · (intro w hSw; (try dsimp only at hSw); go_simp; try with_reducible rfl)
                                              try simp only [Act.put, Array.toArray_toList, List.setIfInBounds_toArray, List.set_cons_zero, List.set_cons_succ]
                                              refine anyM_one (i := 33) (by kernel_rfl) rfl (fun K hK => ?_)
                                              go_simp
                                              refine hK.out _ _ (fun h => late_no h (by kernel_rfl)) ?_
                                              clear hK K
                                              try simp only [Act.put, Array.toArray_toList, List.setIfInBounds_toArray, List.set_cons_zero, List.set_cons_succ]
                                              refine anyM_done (by kernel_rfl) ?_ _
                                              refine NoPanic.normal ?_
                                              clear hS0 yB
                                              go_wp2_with fail
                                              go_roundw
                                              case rel => exact ⟨j + 1, by have := JJ.out; omega, by go_num, HM3.out, HY3.out, HL3.out, HG3.out, HB3.out⟩
                                              case measure => have := JJ.out; simp [intOf]; omega
                                        · have hp1' : decide (0 < all) = false := by simpa using hp0
                                          have hp2 : all < 0 := by omega
                                          have hp2' : decide (all < 0) = true := by simpa using hp2
                                          by_cases hb0 : by' < 0
                                          · have hb1' : decide (by' < 0) = true := by simpa using hb0
                                            have HV := Lib.hid (show true = (false || go) by rw [HGOES.out]; simp [hp2, hb0])
                                            as_aux_lemma =>
                                              have yB : wr.drew.frozen? ⟨gB, j, none⟩ = false := own_free HM0.out.oB
                                              have hS0 : (fun w' : World => w'.cell? ⟨pB, 0, none⟩ = some (.slice (some ⟨gB, 0, none⟩) n n) ∧ w'.cell? ⟨gB, j, none⟩ = some (.bool false) ∧ w'.cell? ⟨gY, j, none⟩ = some (.int .i64 by')) wr.drew := ⟨hS0', hsv, hyv⟩
                                              have hM3 := ((HM0.out.setSe j true).congr (fun i hi => HSTEP.out true i HV.out)).drew
                                              have hY3 := own_drew1 (own_setFar (b := gB) (j := j) (u := .bool true) HY0.out (by have h1 := HM0.out.hT.2.2.2.2.2; have h1 : gB < T := h1; have := HYg.out; simp [Value.ownBlock]; omega))
                                              have hL3 := (HM0.out.farB HL0.out (Nat.le_refl T) j (.bool true)).drew
                                              have hG3 := (HM0.out.farB HG0'.out HPG.out j (.bool true)).drew
                                              have hb3 := (below_set HB0.out (b := gB) (off := j) HGB.out (.bool true)).drew
                                              have HM3 := Lib.hid hM3
                                              have HY3 := Lib.hid hY3
                                              have HL3 := Lib.hid hL3
                                              have HG3 := Lib.hid hG3
                                              have HB3 := Lib.hid hb3
                                              clear hM3 hY3 hL3 hG3 hb3 hsv hyv hS0'
                                              go_wp2_with fail
                                              refine wp_region_noPanic ?_
                                              refine region_M (S := fun w' => w'.cell? ⟨pB, 0, none⟩ = some (.slice (some ⟨gB, 0, none⟩) n n) ∧ w'.cell? ⟨gB, j, none⟩ = some (.bool false) ∧ w'.cell? ⟨gY, j, none⟩ = some (.int .i64 by')) (T := [33]) (by kernel_rfl) ?_
                                              refine aT 0 250 ?_ rfl ?_ hS0 ?_
                                              rotate_left 1
                                              · (intro w hSw; (try dsimp only at hSw); go_simp; try with_reducible rfl)
                                              try simp only [Act.put, Array.toArray_toList, List.setIfInBounds_toArray, List.set_cons_zero, List.set_cons_succ]
                                              refine aF 1 251 ?_ rfl ?_ hS0 ?_
                                              rotate_left 1
                                              · (intro w hSw; (try dsimp only at hSw); go_simp; try with_reducible rfl)
                                              try simp only [Act.put, Array.toArray_toList, List.setIfInBounds_toArray, List.set_cons_zero, List.set_cons_succ]
                                              refine aT 2 252 ?_ rfl ?_ hS0 ?_
                                              rotate_left 1
                                              · (intro w hSw; (try dsimp only at hSw); go_simp; try with_reducible rfl)
                                              try simp only [Act.put, Array.toArray_toList, List.setIfInBounds_toArray, List.set_cons_zero, List.set_cons_succ]
                                              refine aF 3 253 ?_ rfl ?_ hS0 ?_
                                              rotate_left 1
                                              · (intro w hSw; (try dsimp only at hSw); go_simp; try with_reducible rfl)
                                              try simp only [Act.put, Array.toArray_toList, List.setIfInBounds_toArray, List.set_cons_zero, List.set_cons_succ]
                                              refine aF 4 254 ?_ rfl ?_ hS0 ?_
                                              rotate_left 1
                                              · (intro w hSw; (try dsimp only at hSw); go_simp; try with_reducible rfl)
                                              try simp only [Act.put, Array.toArray_toList, List.setIfInBounds_toArray, List.set_cons_zero, List.set_cons_succ]
                                              refine aT 5 255 ?_ rfl ?_ hS0 ?_
                                              rotate_left 1
                                              · (intro w hSw; (try dsimp only at hSw); go_simp; try with_reducible rfl)
                                              try simp only [Act.put, Array.toArray_toList, List.setIfInBounds_toArray, List.set_cons_zero, List.set_cons_succ]
                                              refine aF 6 256 ?_ rfl ?_ hS0 ?_
                                              rotate_left 1
                                              · (intro w hSw; (try dsimp only at hSw); go_simp; try with_reducible rfl)
                                              try simp only [Act.put, Array.toArray_toList, List.setIfInBounds_toArray, List.set_cons_zero, List.set_cons_succ]
                                              refine aF 7 257 ?_ rfl ?_ hS0 ?_
                                              rotate_left 1
                                              · (intro w hSw; (try dsimp only at hSw); go_simp; try with_reducible rfl)
                                              try simp only [Act.put, Array.toArray_toList, List.setIfInBounds_toArray, List.set_cons_zero, List.set_cons_succ]
                                              refine aF 8 258 ?_ rfl ?_ hS0 ?_
                                              rotate_left 1
                                              · (intro w hSw; (try dsimp only at hSw); go_simp; try with_reducible rfl)
                                              try simp only [Act.put, Array.toArray_toList, List.setIfInBounds_toArray, List.set_cons_zero, List.set_cons_succ]
                                              refine aF 9 259 ?_ rfl ?_ hS0 ?_
                                              rotate_left 1
                                              · (intro w hSw; (try dsimp only at hSw); go_simp; try with_reducible rfl)
                                              try simp only [Act.put, Array.toArray_toList, List.setIfInBounds_toArray, List.set_cons_zero, List.set_cons_succ]
                                              refine aF 10 260 ?_ rfl ?_ hS0 ?_
                                              rotate_left 1
                                              · (intro w hSw; (try dsimp only at hSw); go_simp; try with_reducible rfl)
                                              try simp only [Act.put, Array.toArray_toList, List.setIfInBounds_toArray, List.set_cons_zero, List.set_cons_succ]
                                              refine aF 11 261 ?_ rfl ?_ hS0 ?_
                                              rotate_left 1
                                              · (intro w hSw; (try dsimp only at hSw); go_simp; try with_reducible rfl)
                                              try simp only [Act.put, Array.toArray_toList, List.setIfInBounds_toArray, List.set_cons_zero, List.set_cons_succ]
                                              refine aF 12 262 ?_ rfl ?_ hS0 ?_
                                              rotate_left 1
                                              · (intro w hSw; (try dsimp only at hSw); go_simp; try with_reducible rfl)
                                              try simp only [Act.put, Array.toArray_toList, List.setIfInBounds_toArray, List.set_cons_zero, List.set_cons_succ]
                                              refine aF 13 263 ?_ rfl ?_ hS0 ?_
                                              rotate_left 1
                                              · (intro w hSw; (try dsimp only at hSw); go_simp; try with_reducible rfl)
                                              try simp only [Act.put, Array.toArray_toList, List.setIfInBounds_toArray, List.set_cons_zero, List.set_cons_succ]
                                              refine aN 14 264 rfl hS0 ?_
                                              try simp only [Act.put, Array.toArray_toList, List.setIfInBounds_toArray, List.set_cons_zero, List.set_cons_succ]
                                              refine aN 15 265 rfl hS0 ?_
                                              try simp only [Act.put, Array.toArray_toList, List.setIfInBounds_toArray, List.set_cons_zero, List.set_cons_succ]
                                              refine aN 16 266 rfl hS0 ?_
                                              try simp only [Act.put, Array.toArray_toList, List.setIfInBounds_toArray, List.set_cons_zero, List.set_cons_succ]
                                              refine aN 17 267 rfl hS0 ?_
                                              try simp only [Act.put, Array.toArray_toList, List.setIfInBounds_toArray, List.set_cons_zero, List.set_cons_succ]
                                              refine aN 18 268 rfl hS0 ?_
                                              try simp only [Act.put, Array.toArray_toList, List.setIfInBounds_toArray, List.set_cons_zero, List.set_cons_succ]
                                              refine aF 19 269 ?_ rfl ?_ hS0 ?_
                                              rotate_left 1
                                              · (intro w hSw; (try dsimp only at hSw); go_simp; try with_reducible rfl)
                                              try simp only [Act.put, Array.toArray_toList, List.setIfInBounds_toArray, List.set_cons_zero, List.set_cons_succ]
                                              refine aF 20 270 ?_ rfl ?_ hS0 ?_
                                              rotate_left 1
                                              · (intro w hSw; (try dsimp only at hSw); go_simp; try with_reducible rfl)
                                              try simp only [Act.put, Array.toArray_toList, List.setIfInBounds_toArray, List.set_cons_zero, List.set_cons_succ]
                                              refine aF 21 271 ?_ rfl ?_ hS0 ?_
                                              rotate_left 1
                                              · (intro w hSw; (try dsimp only at hSw); go_simp; try with_reducible rfl)
                                              try simp only [Act.put, Array.toArray_toList, List.setIfInBounds_toArray, List.set_cons_zero, List.set_cons_succ]
                                              refine aF 22 272 ?_ rfl ?_ hS0 ?_
                                              rotate_left 1
                                              · (intro w hSw; (try dsimp only at hSw); go_simp; try with_reducible rfl)
                                              try simp only [Act.put, Array.toArray_toList, List.setIfInBounds_toArray, List.set_cons_zero, List.set_cons_succ]
                                              refine aF 23 273 ?_ rfl ?_ hS0 ?_
                                              rotate_left 1
                                              · (intro w hSw; (try dsimp only at hSw); go_simp; try with_reducible rfl)
                                              try simp only [Act.put, Array.toArray_toList, List.setIfInBounds_toArray, List.set_cons_zero, List.set_cons_succ]
                                              refine aF 24 274 ?_ rfl ?_ hS0 ?_
                                              rotate_left 1
                                              · (intro w hSw; (try dsimp only at hSw); go_simp; try with_reducible rfl)
                                              try simp only [Act.put, Array.toArray_toList, List.setIfInBounds_toArray, List.set_cons_zero, List.set_cons_succ]
                                              refine aF 25 275 ?_ rfl ?_ hS0 ?_
                                              rotate_left 1
                                              · (intro w hSw; (try dsimp only at hSw); go_simp; try with_reducible rfl)
                                              try simp only [Act.put, Array.toArray_toList, List.setIfInBounds_toArray, List.set_cons_zero, List.set_cons_succ]
                                              refine aF 26 276 ?_ rfl ?_ hS0 ?_
                                              rotate_left 1
                                              · (intro w hSw; (try dsimp only at hSw); go_simp; try with_reducible rfl)
                                              try simp only [Act.put, Array.toArray_toList, List.setIfInBounds_toArray, List.set_cons_zero, List.set_cons_succ]
                                              refine aF 27 277 ?_ rfl ?_ hS0 ?_
                                              rotate_left 1
                                              · (intro w hSw; (try dsimp only at hSw); go_simp; try with_reducible rfl)
                                              try simp only [Act.put, Array.toArray_toList, List.setIfInBounds_toArray, List.set_cons_zero, List.set_cons_succ]
                                              refine aT 28 278 ?_ rfl ?_ hS0 ?_
                                              rotate_left 1
                                              · (intro w hSw; (try dsimp only at hSw); go_simp; try with_reducible rfl)
                                              try simp only [Act.put, Array.toArray_toList, List.setIfInBounds_toArray, List.set_cons_zero, List.set_cons_succ]
                                              refine aF 29 279 ?_ rfl ?_ hS0 ?_
                                              rotate_left 1
                                              · (intro w hSw; (try dsimp only at hSw); go_simp; try with_reducible rfl)
                                              try simp only [Act.put, Array.toArray_toList, List.setIfInBounds_toArray, List.set_cons_zero, List.set_cons_succ]
                                              refine aF 30 280 ?_ rfl ?_ hS0 ?_
                                              rotate_left 1
                                              · (intro w hSw; (try dsimp only at hSw); go_simp; try with_reducible rfl)
                                              try simp only [Act.put, Array.toArray_toList, List.setIfInBounds_toArray, List.set_cons_zero, List.set_cons_succ]
                                              refine aF 31 281 ?_ rfl ?_ hS0 ?_
                                              rotate_left 1
                                              · (intro w hSw; (try dsimp only at hSw); go_simp; try with_reducible rfl)
                                              try simp only [Act.put, Array.toArray_toList, List.setIfInBounds_toArray, List.set_cons_zero, List.set_cons_succ]
                                              refine aF 32 282 ?_ rfl ?_ hS0 ?_
                                              rotate_left 1
                                              · (intro w hSw; (try dsimp only at hSw); go_simp; try with_reducible rfl)
                                              try simp only [Act.put, Array.toArray_toList, List.setIfInBounds_toArray, List.set_cons_zero, List.set_cons_succ]
                                              refine anyM_one (i := 33) (by kernel_rfl) rfl (fun K hK => ?_)
                                              go_simp
                                              refine hK.out _ _ (fun h => late_no h (by kernel_rfl)) ?_
                                              clear hK K
                                              try simp only [Act.put, Array.toArray_toList, List.setIfInBounds_toArray, List.set_cons_zero, List.set_cons_succ]
                                              refine anyM_done (by kernel_rfl) ?_ _
                                              refine NoPanic.normal ?_
                                              clear hS0 yB
                                              go_wp2_with fail
                                              go_roundw
                                              case rel => exact ⟨j + 1, by have := JJ.out; omega, by go_num, HM3.out, HY3.out, HL3.out, HG3.out, HB3.out⟩
                                              case measure => have := JJ.out; simp [intOf]; omega
                                          · have hb1' : decide (by' < 0) = false := by simpa using hb0
                                            have HV := Lib.hid (show false = (false || go) by rw [HGOES.out]; simp [hz0, hp1', hb0]; try omega)
                                            as_aux_lemma =>
                                              have yB : wr.drew.frozen? ⟨gB, j, none⟩ = false := own_free HM0.out.oB
                                              have hS0 : (fun w' : World => w'.cell? ⟨pB, 0, none⟩ = some (.slice (some ⟨gB, 0, none⟩) n n) ∧ w'.cell? ⟨gB, j, none⟩ = some (.bool false) ∧ w'.cell? ⟨gY, j, none⟩ = some (.int .i64 by')) wr.drew := ⟨hS0', hsv, hyv⟩
                                              have hM3 := ((HM0.out.setSe j false).congr (fun i hi => HSTEP.out false i HV.out)).drew
                                              have hY3 := own_drew1 (own_setFar (b := gB) (j := j) (u := .bool false) HY0.out (by have h1 := HM0.out.hT.2.2.2.2.2; have h1 : gB < T := h1; have := HYg.out; simp [Value.ownBlock]; omega))
                                              have hL3 := (HM0.out.farB HL0.out (Nat.le_refl T) j (.bool false)).drew
                                              have hG3 := (HM0.out.farB HG0'.out HPG.out j (.bool false)).drew
                                              have hb3 := (below_set HB0.out (b := gB) (off := j) HGB.out (.bool false)).drew
                                              have HM3 := Lib.hid hM3
                                              have HY3 := Lib.hid hY3
                                              have HL3 := Lib.hid hL3
                                              have HG3 := Lib.hid hG3
                                              have HB3 := Lib.hid hb3
                                              clear hM3 hY3 hL3 hG3 hb3 hsv hyv hS0'
                                              go_wp2_with fail
                                              refine wp_region_noPanic ?_
                                              refine region_M (S := fun w' => w'.cell? ⟨pB, 0, none⟩ = some (.slice (some ⟨gB, 0, none⟩) n n) ∧ w'.cell? ⟨gB, j, none⟩ = some (.bool false) ∧ w'.cell? ⟨gY, j, none⟩ = some (.int .i64 by')) (T := [33]) (by kernel_rfl) ?_
                                              refine aT 0 250 ?_ rfl ?_ hS0 ?_
                                              rotate_left 1
                                              · (intro w hSw; (try dsimp only at hSw); go_simp; try with_reducible rfl)
                                              try simp only [Act.put, Array.toArray_toList, List.setIfInBounds_toArray, List.set_cons_zero, List.set_cons_succ]
                                              refine aF 1 251 ?_ rfl ?_ hS0 ?_
                                              rotate_left 1
                                              · (intro w hSw; (try dsimp only at hSw); go_simp; try with_reducible rfl)
                                              try simp only [Act.put, Array.toArray_toList, List.setIfInBounds_toArray, List.set_cons_zero, List.set_cons_succ]
                                              refine aT 2 252 ?_ rfl ?_ hS0 ?_
                                              rotate_left 1
                                              · (intro w hSw; (try dsimp only at hSw); go_simp; try with_reducible rfl)
                                              try simp only [Act.put, Array.toArray_toList, List.setIfInBounds_toArray, List.set_cons_zero, List.set_cons_succ]
                                              refine aF 3 253 ?_ rfl ?_ hS0 ?_
                                              rotate_left 1
                                              · (intro w hSw; (try dsimp only at hSw); go_simp; try with_reducible rfl)
                                              try simp only [Act.put, Array.toArray_toList, List.setIfInBounds_toArray, List.set_cons_zero, List.set_cons_succ]
                                              refine aF 4 254 ?_ rfl ?_ hS0 ?_
                                              rotate_left 1
                                              · (intro w hSw; (try dsimp only at hSw); go_simp; try with_reducible rfl)
                                              try simp only [Act.put, Array.toArray_toList, List.setIfInBounds_toArray, List.set_cons_zero, List.set_cons_succ]
                                              refine aT 5 255 ?_ rfl ?_ hS0 ?_
                                              rotate_left 1
                                              · (intro w hSw; (try dsimp only at hSw); go_simp; try with_reducible rfl)
                                              try simp only [Act.put, Array.toArray_toList, List.setIfInBounds_toArray, List.set_cons_zero, List.set_cons_succ]
                                              refine aF 6 256 ?_ rfl ?_ hS0 ?_
                                              rotate_left 1
                                              · (intro w hSw; (try dsimp only at hSw); go_simp; try with_reducible rfl)
                                              try simp only [Act.put, Array.toArray_toList, List.setIfInBounds_toArray, List.set_cons_zero, List.set_cons_succ]
                                              refine aF 7 257 ?_ rfl ?_ hS0 ?_
                                              rotate_left 1
                                              · (intro w hSw; (try dsimp only at hSw); go_simp; try with_reducible rfl)
                                              try simp only [Act.put, Array.toArray_toList, List.setIfInBounds_toArray, List.set_cons_zero, List.set_cons_succ]
                                              refine aF 8 258 ?_ rfl ?_ hS0 ?_
                                              rotate_left 1
                                              · (intro w hSw; (try dsimp only at hSw); go_simp; try with_reducible rfl)
                                              try simp only [Act.put, Array.toArray_toList, List.setIfInBounds_toArray, List.set_cons_zero, List.set_cons_succ]
                                              refine aF 9 259 ?_ rfl ?_ hS0 ?_
                                              rotate_left 1
                                              · (intro w hSw; (try dsimp only at hSw); go_simp; try with_reducible rfl)
                                              try simp only [Act.put, Array.toArray_toList, List.setIfInBounds_toArray, List.set_cons_zero, List.set_cons_succ]
                                              refine aF 10 260 ?_ rfl ?_ hS0 ?_
                                              rotate_left 1
                                              · (intro w hSw; (try dsimp only at hSw); go_simp; try with_reducible rfl)
                                              try simp only [Act.put, Array.toArray_toList, List.setIfInBounds_toArray, List.set_cons_zero, List.set_cons_succ]
                                              refine aF 11 261 ?_ rfl ?_ hS0 ?_
                                              rotate_left 1
                                              · (intro w hSw; (try dsimp only at hSw); go_simp; try with_reducible rfl)
                                              try simp only [Act.put, Array.toArray_toList, List.setIfInBounds_toArray, List.set_cons_zero, List.set_cons_succ]
                                              refine aF 12 262 ?_ rfl ?_ hS0 ?_
                                              rotate_left 1
                                              · (intro w hSw; (try dsimp only at hSw); go_simp; try with_reducible rfl)
                                              try simp only [Act.put, Array.toArray_toList, List.setIfInBounds_toArray, List.set_cons_zero, List.set_cons_succ]
                                              refine aF 13 263 ?_ rfl ?_ hS0 ?_
                                              rotate_left 1
                                              · (intro w hSw; (try dsimp only at hSw); go_simp; try with_reducible rfl)
                                              try simp only [Act.put, Array.toArray_toList, List.setIfInBounds_toArray, List.set_cons_zero, List.set_cons_succ]
                                              refine aN 14 264 rfl hS0 ?_
                                              try simp only [Act.put, Array.toArray_toList, List.setIfInBounds_toArray, List.set_cons_zero, List.set_cons_succ]
                                              refine aN 15 265 rfl hS0 ?_
                                              try simp only [Act.put, Array.toArray_toList, List.setIfInBounds_toArray, List.set_cons_zero, List.set_cons_succ]
                                              refine aN 16 266 rfl hS0 ?_
                                              try simp only [Act.put, Array.toArray_toList, List.setIfInBounds_toArray, List.set_cons_zero, List.set_cons_succ]
                                              refine aN 17 267 rfl hS0 ?_
                                              try simp only [Act.put, Array.toArray_toList, List.setIfInBounds_toArray, List.set_cons_zero, List.set_cons_succ]
                                              refine aN 18 268 rfl hS0 ?_
                                              try simp only [Act.put, Array.toArray_toList, List.setIfInBounds_toArray, List.set_cons_zero, List.set_cons_succ]
                                              refine aF 19 269 ?_ rfl ?_ hS0 ?_
                                              rotate_left 1
                                              · (intro w hSw; (try dsimp only at hSw); go_simp; try with_reducible rfl)
                                              try simp only [Act.put, Array.toArray_toList, List.setIfInBounds_toArray, List.set_cons_zero, List.set_cons_succ]
                                              refine aF 20 270 ?_ rfl ?_ hS0 ?_
                                              rotate_left 1
                                              · (intro w hSw; (try dsimp only at hSw); go_simp; try with_reducible rfl)
                                              try simp only [Act.put, Array.toArray_toList, List.setIfInBounds_toArray, List.set_cons_zero, List.set_cons_succ]
                                              refine aF 21 271 ?_ rfl ?_ hS0 ?_
                                              rotate_left 1
                                              · (intro w hSw; (try dsimp only at hSw); go_simp; try with_reducible rfl)
                                              try simp only [Act.put, Array.toArray_toList, List.setIfInBounds_toArray, List.set_cons_zero, List.set_cons_succ]
                                              refine aF 22 272 ?_ rfl ?_ hS0 ?_
                                              rotate_left 1
                                              · (intro w hSw; (try dsimp only at hSw); go_simp; try with_reducible rfl)
                                              try simp only [Act.put, Array.toArray_toList, List.setIfInBounds_toArray, List.set_cons_zero, List.set_cons_succ]
                                              refine aF 23 273 ?_ rfl ?_ hS0 ?_
                                              rotate_left 1
                                              · (intro w hSw; (try dsimp only at hSw); go_simp; try with_reducible rfl)
                                              try simp only [Act.put, Array.toArray_toList, List.setIfInBounds_toArray, List.set_cons_zero, List.set_cons_succ]
                                              refine aF 24 274 ?_ rfl ?_ hS0 ?_
                                              rotate_left 1
                                              · (intro w hSw; (try dsimp only at hSw); go_simp; try with_reducible rfl)
                                              try simp only [Act.put, Array.toArray_toList, List.setIfInBounds_toArray, List.set_cons_zero, List.set_cons_succ]
                                              refine aF 25 275 ?_ rfl ?_ hS0 ?_
                                              rotate_left 1
                                              · (intro w hSw; (try dsimp only at hSw); go_simp; try with_reducible rfl)
                                              try simp only [Act.put, Array.toArray_toList, List.setIfInBounds_toArray, List.set_cons_zero, List.set_cons_succ]
                                              refine aF 26 276 ?_ rfl ?_ hS0 ?_
                                              rotate_left 1
                                              · (intro w hSw; (try dsimp only at hSw); go_simp; try with_reducible rfl)
                                              try simp only [Act.put, Array.toArray_toList, List.setIfInBounds_toArray, List.set_cons_zero, List.set_cons_succ]
                                              refine aF 27 277 ?_ rfl ?_ hS0 ?_
                                              rotate_left 1
                                              · (intro w hSw; (try dsimp only at hSw); go_simp; try with_reducible rfl)
                                              try simp only [Act.put, Array.toArray_toList, List.setIfInBounds_toArray, List.set_cons_zero, List.set_cons_succ]
                                              refine aT 28 278 ?_ rfl ?_ hS0 ?_
                                              rotate_left 1
                                              · (intro w hSw; (try dsimp only at hSw); go_simp; try with_reducible rfl)
                                              try simp only [Act.put, Array.toArray_toList, List.setIfInBounds_toArray, List.set_cons_zero, List.set_cons_succ]
                                              refine aF 29 279 ?_ rfl ?_ hS0 ?_
                                              rotate_left 1
                                              · (intro w hSw; (try dsimp only at hSw); go_simp; try with_reducible rfl)
                                              try simp only [Act.put, Array.toArray_toList, List.setIfInBounds_toArray, List.set_cons_zero, List.set_cons_succ]
                                              refine aF 30 280 ?_ rfl ?_ hS0 ?_
                                              rotate_left 1
                                              · (intro w hSw; (try dsimp only at hSw); go_simp; try with_reducible rfl)
                                              try simp only [Act.put, Array.toArray_toList, List.setIfInBounds_toArray, List.set_cons_zero, List.set_cons_succ]
                                              refine aF 31 281 ?_ rfl ?_ hS0 ?_
                                              rotate_left 1
                                              · (intro w hSw; (try dsimp only at hSw); go_simp; try with_reducible rfl)
                                              try simp only [Act.put, Array.toArray_toList, List.setIfInBounds_toArray, List.set_cons_zero, List.set_cons_succ]
                                              refine aF 32 282 ?_ rfl ?_ hS0 ?_
                                              rotate_left 1
                                              · (intro w hSw; (try dsimp only at hSw); go_simp; try with_reducible rfl)
                                              try simp only [Act.put, Array.toArray_toList, List.setIfInBounds_toArray, List.set_cons_zero, List.set_cons_succ]
                                              refine anyM_one (i := 33) (by kernel_rfl) rfl (fun K hK => ?_)
                                              go_simp
                                              refine hK.out _ _ (fun h => late_no h (by kernel_rfl)) ?_
                                              clear hK K
                                              try simp only [Act.put, Array.toArray_toList, List.setIfInBounds_toArray, List.set_cons_zero, List.set_cons_succ]
                                              refine anyM_done (by kernel_rfl) ?_ _
                                              refine NoPanic.normal ?_
                                              clear hS0 yB
                                              go_wp2_with fail
                                              go_roundw
                                              case rel => exact ⟨j + 1, by have := JJ.out; omega, by go_num, HM3.out, HY3.out, HL3.out, HG3.out, HB3.out⟩
                                              case measure => have := JJ.out; simp [intOf]; omega
                                    · have HV := Lib.hid (show true = (true || go) from rfl)
                                      as_aux_lemma =>
                                        have yB : wr.drew.frozen? ⟨gB, j, none⟩ = false := own_free HM0.out.oB
                                        have hS0 : (fun w' : World => w'.cell? ⟨pB, 0, none⟩ = some (.slice (some ⟨gB, 0, none⟩) n n) ∧ w'.cell? ⟨gB, j, none⟩ = some (.bool true) ∧ w'.cell? ⟨gY, j, none⟩ = some (.int .i64 by')) wr.drew := ⟨hS0', hsv, hyv⟩
                                        have hM3 := ((HM0.out.setSe j true).congr (fun i hi => HSTEP.out true i HV.out)).drew
                                        have hY3 := own_drew1 (own_setFar (b := gB) (j := j) (u := .bool true) HY0.out (by have h1 := HM0.out.hT.2.2.2.2.2; have h1 : gB < T := h1; have := HYg.out; simp [Value.ownBlock]; omega))
                                        have hL3 := (HM0.out.farB HL0.out (Nat.le_refl T) j (.bool true)).drew
                                        have hG3 := (HM0.out.farB HG0'.out HPG.out j (.bool true)).drew
                                        have hb3 := (below_set HB0.out (b := gB) (off := j) HGB.out (.bool true)).drew
                                        have HM3 := Lib.hid hM3
                                        have HY3 := Lib.hid hY3
                                        have HL3 := Lib.hid hL3
                                        have HG3 := Lib.hid hG3
                                        have HB3 := Lib.hid hb3
                                        clear hM3 hY3 hL3 hG3 hb3 hsv hyv hS0'
                                        go_wp2_with fail
                                        refine wp_region_noPanic ?_
                                        refine region_M (S := fun w' => w'.cell? ⟨pB, 0, none⟩ = some (.slice (some ⟨gB, 0, none⟩) n n) ∧ w'.cell? ⟨gB, j, none⟩ = some (.bool true) ∧ w'.cell? ⟨gY, j, none⟩ = some (.int .i64 by')) (T := [33]) (by kernel_rfl) ?_
                                        refine aT 0 250 ?_ rfl ?_ hS0 ?_
                                        rotate_left 1
                                        · (intro w hSw; (try dsimp only at hSw); go_simp; try with_reducible rfl)
                                        try simp only [Act.put, Array.toArray_toList, List.setIfInBounds_toArray, List.set_cons_zero, List.set_cons_succ]
                                        refine aF 1 251 ?_ rfl ?_ hS0 ?_
                                        rotate_left 1
                                        · (intro w hSw; (try dsimp only at hSw); go_simp; try with_reducible rfl)
                                        try simp only [Act.put, Array.toArray_toList, List.setIfInBounds_toArray, List.set_cons_zero, List.set_cons_succ]
                                        refine aT 2 252 ?_ rfl ?_ hS0 ?_
                                        rotate_left 1
                                        · (intro w hSw; (try dsimp only at hSw); go_simp; try with_reducible rfl)
                                        try simp only [Act.put, Array.toArray_toList, List.setIfInBounds_toArray, List.set_cons_zero, List.set_cons_succ]
                                        refine aF 3 253 ?_ rfl ?_ hS0 ?_
                                        rotate_left 1
                                        · (intro w hSw; (try dsimp only at hSw); go_simp; try with_reducible rfl)
                                        try simp only [Act.put, Array.toArray_toList, List.setIfInBounds_toArray, List.set_cons_zero, List.set_cons_succ]
                                        refine aF 4 254 ?_ rfl ?_ hS0 ?_
                                        rotate_left 1
                                        · (intro w hSw; (try dsimp only at hSw); go_simp; try with_reducible rfl)
                                        try simp only [Act.put, Array.toArray_toList, List.setIfInBounds_toArray, List.set_cons_zero, List.set_cons_succ]
                                        refine aT 5 255 ?_ rfl ?_ hS0 ?_
                                        rotate_left 1
                                        · (intro w hSw; (try dsimp only at hSw); go_simp; try with_reducible rfl)
                                        try simp only [Act.put, Array.toArray_toList, List.setIfInBounds_toArray, List.set_cons_zero, List.set_cons_succ]
                                        refine aF 6 256 ?_ rfl ?_ hS0 ?_
                                        rotate_left 1
                                        · (intro w hSw; (try dsimp only at hSw); go_simp; try with_reducible rfl)
                                        try simp only [Act.put, Array.toArray_toList, List.setIfInBounds_toArray, List.set_cons_zero, List.set_cons_succ]
                                        refine aN 7 257 rfl hS0 ?_
                                        try simp only [Act.put, Array.toArray_toList, List.setIfInBounds_toArray, List.set_cons_zero, List.set_cons_succ]
                                        refine aN 8 258 rfl hS0 ?_
                                        try simp only [Act.put, Array.toArray_toList, List.setIfInBounds_toArray, List.set_cons_zero, List.set_cons_succ]
                                        refine aF 9 259 ?_ rfl ?_ hS0 ?_
                                        rotate_left 1
                                        · (intro w hSw; (try dsimp only at hSw); go_simp; try with_reducible rfl)
                                        try simp only [Act.put, Array.toArray_toList, List.setIfInBounds_toArray, List.set_cons_zero, List.set_cons_succ]
                                        refine aF 10 260 ?_ rfl ?_ hS0 ?_
                                        rotate_left 1
                                        · (intro w hSw; (try dsimp only at hSw); go_simp; try with_reducible rfl)
                                        try simp only [Act.put, Array.toArray_toList, List.setIfInBounds_toArray, List.set_cons_zero, List.set_cons_succ]
                                        refine aN 11 261 rfl hS0 ?_
                                        try simp only [Act.put, Array.toArray_toList, List.setIfInBounds_toArray, List.set_cons_zero, List.set_cons_succ]
                                        refine aN 12 262 rfl hS0 ?_
                                        try simp only [Act.put, Array.toArray_toList, List.setIfInBounds_toArray, List.set_cons_zero, List.set_cons_succ]
                                        refine aN 13 263 rfl hS0 ?_
                                        try simp only [Act.put, Array.toArray_toList, List.setIfInBounds_toArray, List.set_cons_zero, List.set_cons_succ]
                                        refine aN 14 264 rfl hS0 ?_
                                        try simp only [Act.put, Array.toArray_toList, List.setIfInBounds_toArray, List.set_cons_zero, List.set_cons_succ]
                                        refine aN 15 265 rfl hS0 ?_
                                        try simp only [Act.put, Array.toArray_toList, List.setIfInBounds_toArray, List.set_cons_zero, List.set_cons_succ]
                                        refine aN 16 266 rfl hS0 ?_
                                        try simp only [Act.put, Array.toArray_toList, List.setIfInBounds_toArray, List.set_cons_zero, List.set_cons_succ]
                                        refine aN 17 267 rfl hS0 ?_
                                        try simp only [Act.put, Array.toArray_toList, List.setIfInBounds_toArray, List.set_cons_zero, List.set_cons_succ]
                                        refine aN 18 268 rfl hS0 ?_
                                        try simp only [Act.put, Array.toArray_toList, List.setIfInBounds_toArray, List.set_cons_zero, List.set_cons_succ]
                                        refine aN 19 269 rfl hS0 ?_
                                        try simp only [Act.put, Array.toArray_toList, List.setIfInBounds_toArray, List.set_cons_zero, List.set_cons_succ]
                                        refine aF 20 270 ?_ rfl ?_ hS0 ?_
                                        rotate_left 1
                                        · (intro w hSw; (try dsimp only at hSw); go_simp; try with_reducible rfl)
                                        try simp only [Act.put, Array.toArray_toList, List.setIfInBounds_toArray, List.set_cons_zero, List.set_cons_succ]
                                        refine aF 21 271 ?_ rfl ?_ hS0 ?_
                                        rotate_left 1
                                        · (intro w hSw; (try dsimp only at hSw); go_simp; try with_reducible rfl)
                                        try simp only [Act.put, Array.toArray_toList, List.setIfInBounds_toArray, List.set_cons_zero, List.set_cons_succ]
                                        refine aN 22 272 rfl hS0 ?_
                                        try simp only [Act.put, Array.toArray_toList, List.setIfInBounds_toArray, List.set_cons_zero, List.set_cons_succ]
                                        refine aN 23 273 rfl hS0 ?_
                                        try simp only [Act.put, Array.toArray_toList, List.setIfInBounds_toArray, List.set_cons_zero, List.set_cons_succ]
                                        refine aN 24 274 rfl hS0 ?_
                                        try simp only [Act.put, Array.toArray_toList, List.setIfInBounds_toArray, List.set_cons_zero, List.set_cons_succ]
                                        refine aN 25 275 rfl hS0 ?_
                                        try simp only [Act.put, Array.toArray_toList, List.setIfInBounds_toArray, List.set_cons_zero, List.set_cons_succ]
                                        refine aN 26 276 rfl hS0 ?_
                                        try simp only [Act.put, Array.toArray_toList, List.setIfInBounds_toArray, List.set_cons_zero, List.set_cons_succ]
                                        refine aN 27 277 rfl hS0 ?_
                                        try simp only [Act.put, Array.toArray_toList, List.setIfInBounds_toArray, List.set_cons_zero, List.set_cons_succ]
                                        refine aN 28 278 rfl hS0 ?_
                                        try simp only [Act.put, Array.toArray_toList, List.setIfInBounds_toArray, List.set_cons_zero, List.set_cons_succ]
                                        refine aN 29 279 rfl hS0 ?_
                                        try simp only [Act.put, Array.toArray_toList, List.setIfInBounds_toArray, List.set_cons_zero, List.set_cons_succ]
                                        refine aN 30 280 rfl hS0 ?_
                                        try simp only [Act.put, Array.toArray_toList, List.setIfInBounds_toArray, List.set_cons_zero, List.set_cons_succ]
                                        refine aF 31 281 ?_ rfl ?_ hS0 ?_
                                        rotate_left 1
                                        · (intro w hSw; (try dsimp only at hSw); go_simp; try with_reducible rfl)
                                        try simp only [Act.put, Array.toArray_toList, List.setIfInBounds_toArray, List.set_cons_zero, List.set_cons_succ]
                                        refine aF 32 282 ?_ rfl ?_ hS0 ?_
                                        rotate_left 1
                                        · (intro w hSw; (try dsimp only at hSw); go_simp; try with_reducible rfl)
                                        try simp only [Act.put, Array.toArray_toList, List.setIfInBounds_toArray, List.set_cons_zero, List.set_cons_succ]
                                        refine anyM_one (i := 33) (by kernel_rfl) rfl (fun K hK => ?_)
                                        go_simp
                                        refine hK.out _ _ (fun h => late_no h (by kernel_rfl)) ?_
                                        clear hK K
                                        try simp only [Act.put, Array.toArray_toList, List.setIfInBounds_toArray, List.set_cons_zero, List.set_cons_succ]
                                        refine anyM_done (by kernel_rfl) ?_ _
                                        refine NoPanic.normal ?_
                                        clear hS0 yB
                                        go_wp2_with fail
                                        go_roundw
                                        case rel => exact ⟨j + 1, by have := JJ.out; omega, by go_num, HM3.out, HY3.out, HL3.out, HG3.out, HB3.out⟩
                                        case measure => have := JJ.out; simp [intOf]; omega
                                · obtain rfl : n = j := by omega
                                  have HM9 := Lib.hid (hM.congr (fun i hi => HGF.out i hi))
                                  have HL9 := Lib.hid hL
                                  have HG9 := Lib.hid hG
                                  have HB9 := Lib.hid hbel
                                  clear hM hY hL hG hbel
                                  go_wp2_with fail
                                  go_roundw
                                  case rel => exact ⟨m', tn, HM9.out, HOKT.out, by have h1 := HLESS.out; have h2 := HCM.out; omega, HGO2.out, HL9.out, HG9.out, HB9.out⟩
                                  case measure => rw [cntB_eq HM9.out n (Nat.le_refl _), HCB.out]; exact HLESS.out
end Go.Proofs.Ytpinfaoeggipmaa
