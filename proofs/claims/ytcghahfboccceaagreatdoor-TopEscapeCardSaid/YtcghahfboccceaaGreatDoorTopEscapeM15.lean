/- Several texts in one: TeD. -/
import Derived.Test.YtcghahfboccceaaGreatDoorTopEscapeM9
import Derived.RangeFuncFrom
import Derived.WalkKit
/- Contract of chars.Clean. -/
namespace Go.Proofs.YtcghahfboccceaaGreatDoor
open Go.RowKit Go.Shelf
set_option linter.unusedVariables false
set_option linter.unusedSimpArgs false
attribute [local go_sem] Oper.semAt_some

/-- A round of Clean: the bytes so far, the last sign. -/
def cleanSt (S : List UInt8 × Int) (x : Sg) : List UInt8 × Int := (S.1 ++ cleanR S.2 x.r, x.r)
def cleanS (pre : List Sg) : List UInt8 × Int := pre.foldl cleanSt ([], 0)
theorem cleanS_snoc (pre : List Sg) (x : Sg) : cleanS (pre ++ [x]) = cleanSt (cleanS pre) x := by simp [cleanS]
theorem kb_t {b : Nat} {A B C : World} (h : KB b A B) (k : KB b B C) : KB b A C := Eq.trans k h
/-- What holds between two rounds. -/
def CleanI (s : ByteArray) (b : Nat) (W0 : World) (pre : List Sg) (W : World) : Prop :=
  (Bld b b (Lib.byteCells (cleanS pre).1) W ∧ Blk W (b + 1) 21 #[.int .i32 (cleanS pre).2] ∧ Blk W (b + 2) 9 #[.string s]) ∧ Below b W0 W
theorem grown_cells {W W' : World} {row : Option Nat} (hg : W.grownBy W' row) (hr : ∀ r, row = some r → ∃ o : Obj, W.heap[r]? = some o ∧ o.isCells = false) {g : Nat} {cs : Array Value} {t : TypeId} {fz : Nat × Nat} (h : W.heap[g]? = some (.cells cs t fz)) : W'.heap[g]? = W.heap[g]? := by
  have hlt := (Array.getElem?_eq_some_iff.1 h).1
  refine hg.block g hlt (fun e => ?_)
  obtain ⟨o, ho, hc⟩ := hr g e.symm
  rw [h] at ho
  injection ho with ho
  subst ho
  cases hc
theorem BldAt.keep {B b : Nat} {p v : Value} {xs : List Value} {W W' : World} (h : BldAt B b p v xs W) (hk : ∀ (g : Nat) cs t fz, W.heap[g]? = some (.cells cs t fz) → W'.heap[g]? = W.heap[g]?) : BldAt B b p v xs W' :=
  ⟨h.lo, (hk _ _ _ _ h.blk).trans h.blk, own_heap h.own fun g hg => by obtain ⟨c, fz, hc⟩ := own_cells h.own hg; exact hk _ _ _ _ hc⟩
theorem CleanI.own {s : ByteArray} {b B : Nat} {W0 : World} (hB : b ≤ B) (hb : b ≤ W0.heap.size) : OwnFrom B (CleanI s b W0) := by
  refine OwnFrom.and (fun pre W W' row hs hg hr => ?_) (ownFrom_below hb hB)
  obtain ⟨⟨p, v, hp, h⟩, k1, k2⟩ := hs
  have hk : ∀ (g : Nat) cs t fz, W.heap[g]? = some (.cells cs t fz) → W'.heap[g]? = W.heap[g]? := fun g cs t fz h => grown_cells hg (fun r e => (hr r e).2) h
  exact ⟨⟨p, v, hp, h.keep hk⟩, (hk _ _ _ _ k1).trans k1, (hk _ _ _ _ k2).trans k2⟩
theorem clean_len (pre : List Sg) : (cleanS pre).1.length ≤ 4 * pre.length := by
  have key : ∀ (l : List Sg) (S : List UInt8 × Int), (l.foldl cleanSt S).1.length ≤ S.1.length + 4 * l.length := by
    intro l
    induction l with
    | nil => intro S; simp
    | cons x l ih =>
      intro S
      have h1 := ih (cleanSt S x)
      have h2 : (cleanR S.2 x.r).length ≤ 4 := by
        unfold cleanR
        split
        · exact (encZ_len _).1
        split
        · simp
        split
        · exact (encZ_len _).1
        · simp
      simp only [List.foldl_cons, cleanSt, List.length_append, List.length_cons] at h1 ⊢
      omega
  have := key pre ([], 0)
  unfold cleanS
  simpa using this
theorem clean_round {s : ByteArray} {b : Nat} {W0 W W1 : World} {pre : List Sg} {x : Sg} (h : CleanI s b W0 pre W) (hw : Bld b b (Lib.byteCells (cleanSt (cleanS pre) x).1) W1) (hb : Below b W W1) (ho : Lib.OthersKept 5 (some b) W W1) :
    Blk W1 (b + 1) 21 #[.int .i32 (cleanS pre).2] ∧ KeepsOthers W (W1.setCell ⟨b + 1, 0, none⟩ (.int .i32 x.r)) ∧ KB (b + 2) W (W1.setCell ⟨b + 1, 0, none⟩ (.int .i32 x.r)) ∧ CleanI s b W0 (pre ++ [x]) (W1.setCell ⟨b + 1, 0, none⟩ (.int .i32 x.r)) := by
  obtain ⟨⟨⟨p, v, hp, hbl⟩, k1, k2⟩, hB⟩ := h
  have q1 : Blk W1 (b + 1) 21 #[.int .i32 (cleanS pre).2] := ho _ _ k1 (fun e => by injection e with e; omega) (fun c fz e => by cases e)
  have q2 : Blk W1 (b + 2) 9 #[.string s] := ho _ _ k2 (fun e => by injection e with e; omega) (fun c fz e => by cases e)
  rw [← cleanS_snoc] at hw
  obtain ⟨p', v', hp', h'⟩ := hw
  refine ⟨q1, ?_, ?_, ⟨⟨p', v', hp', h'.lo, h'.blk.far (by omega) _, own_setFar h'.own (fun e => ?_)⟩, ?_, q2.far (by omega) _⟩, hB.trans (hb.setCell (p := ⟨b + 1, 0, none⟩) (by simp) _)⟩
  · refine KeepsOthers.trans ⟨hb.size, fun k o hk hc => ho k o hk (fun e => ?_) (fun c fz e => by subst e; cases hc)⟩ (KeepsOthers.setCell _ _ _)
    injection e with e
    subst e
    have hk2 := hbl.blk
    unfold Blk at hk2
    rw [hk] at hk2
    injection hk2 with hk2
    subst hk2
    cases hc
  · show (W1.setCell _ _).heap[b + 2]? = _
    rw [Below.heap_setCell _ ⟨b + 1, 0, none⟩ _ _ (by show b + 2 ≠ b + 1; omega)]
    exact q2.trans k2.symm
  · obtain ⟨c, fz, hc⟩ := own_cells h'.own e
    unfold Blk at q1
    rw [q1] at hc
    cases hc
  · rw [cleanS_snoc]
    exact q1.stored 0 _
set_option maxRecDepth 100000 in
set_option maxHeartbeats 4000000 in
theorem clean_calls (s : ByteArray) (hs : s.size ≤ 1099511627776) (w : World) :
    Calls Tryz.prog 14 #[.string s] w fun e w' => e = .returned (.string ⟨(cleanS (sgs s.data.toList s.size 0)).1.toArray⟩) ∧ Below w.heap.size w w' := by
  refine (callsIn_wide (n := 7)).1 ?_
  refine callsIn_of_wp_marks Tryz.func14 rfl trivial ?_ rfl
  simp only [Tryz.ntmps14, List.size_toArray, List.length_cons, List.length_nil, Nat.reduceAdd, Nat.reduceSub, Array.replicate_succ, Array.replicate_zero, List.push_toArray, List.append_toArray, List.nil_append, List.cons_append]
  gi_wp2_with (refine ⟨trivial, ?_⟩; gi_at_call 28; refine (callsIn_wide.2 (signs_calls s _)).mono ?_; rintro e w' ⟨rfl, rfl⟩)
  obtain ⟨W0, hW0⟩ : ∃ W0, W0 = ((w.alloc (.cells #[.pointer none, .slice none 0 0] 65)).alloc (.cells #[.int .i32 0] 21)).alloc (.cells #[.string s] 9) := ⟨_, rfl⟩
  obtain ⟨b, hb⟩ : ∃ b, b = w.heap.size := ⟨_, rfl⟩
  have hsz : W0.heap.size = b + 3 := by rw [hW0, hb]; simp
  have hB0 : Below b w W0 := by rw [hW0, hb]; exact (((Below.refl _ w).alloc (Nat.le_refl _) _).alloc (by simp) _).alloc (by simp; omega) _
  have k0 : Blk W0 b 65 #[.pointer none, .slice none 0 0] := by rw [hW0, hb]; exact ((Blk.new w _ _).alloc _).alloc _
  have k1 : Blk W0 (b + 1) 21 #[.int .i32 0] := by
    have := (Blk.new (w.alloc (.cells #[.pointer none, .slice none 0 0] 65)) 21 #[.int .i32 0]).alloc (.cells #[.string s] 9)
    rw [World.size_alloc] at this
    rw [hW0, hb]; exact this
  have k2 : Blk W0 (b + 2) 9 #[.string s] := by
    have := Blk.new ((w.alloc (.cells #[.pointer none, .slice none 0 0] 65)).alloc (.cells #[.int .i32 0] 21)) 9 #[.string s]
    rw [World.size_alloc, World.size_alloc] at this
    rw [hW0, hb]; exact this
  rw [← hW0, ← hb]
  have hbw : b ≤ w.heap.size := by omega
  have HB9 := Lib.hid hb
  have HW9 := Lib.hid hW0
  clear hb hW0
  have hI0 : CleanI s b w [] W0 := ⟨⟨⟨_, _, .inl rfl, Nat.le_refl _, k0, World.ownsRow_nil _ _ _ _⟩, k1, k2⟩, hB0⟩
  refine wpIn_rangeFunc_ownF rfl (by decide) (gf := 51) (lb := #[.pointer (some ⟨b + 1 + 1, 0, none⟩)]) rfl trivial (enters_of Tryz.func51 (by kernel_rfl) rfl)
    (signs_stops 6 (by decide) (b + 2) s (by omega) W0 (k2.cell 0)) (fun h k => kb_t h k) (fun W l o o' hl h _ _ => (grownBy_putObj' W l o').block (b + 2) (by have := (Array.getElem?_eq_some_iff.1 h).1; omega) (fun e => by injection e with e; omega)) (Below.refl _ _) (fun _ => rfl)
    (CleanI s b w) (fun _ _ _ => False) ?hI (fun _ _ _ _ _ hs _ _ => hs) hI0
    (fun x => { tmps := #[.string s, undef, .string ⟨#[]⟩, .pointer (some ⟨b, 0, none⟩), .pointer (some ⟨b + 1, 0, none⟩), undef, .int .i32 x.r, .string s, .func (.func 51) #[] #[.pointer (some ⟨b + 1 + 1, 0, none⟩)], .int .i64 (x.at' : Int), .int .i32 x.r, undef, undef, undef, undef, undef, undef, undef, undef, undef, undef, undef, undef, undef, undef, undef, undef, undef, undef, undef, undef, undef], defers := [] }) ?assign ?body ?done ?stop
  case hI => exact CleanI.own (by omega) hbw
  case assign =>
    intro l x W K hK
    unfold sgV
    gi_wp2
    exact hK
  case body =>
    rintro l pre x W hI hlt
    have HI := Lib.hid hI
    have hbW : b ≤ W.heap.size := by have := hI.2.size; omega
    obtain ⟨⟨⟨p, v, hp, hbl⟩, k1, k2⟩, hB⟩ := hI
    have hbn : (Lib.byteCells (cleanS pre).1).length + 4 ≤ 140737488355328 := by rw [Lib.byteCells_length]; have := clean_len pre; omega
    have HWR := Lib.hid (fun (r : Int) (h0 : -2147483648 ≤ r) (h1 : r ≤ 2147483647) => writeRune_calls b b p v _ r h0 h1 W hp hbl hbn hbW)
    have HWB := Lib.hid (writeByte_calls b b p v _ 10 W hp hbl (by omega) hbW)
    have HCR := Lib.hid (fun (W1 : World) (ys : List Value) (hy : Lib.byteCells (cleanSt (cleanS pre) x).1 = ys) (hw : Wrote b b ys W W1) => clean_round HI.out (by rw [hy]; obtain ⟨⟨v', h'⟩, _⟩ := hw; exact ⟨_, v', .inr rfl, h'⟩) hw.2.1 hw.2.2)
    have HC0 := Lib.hid (fun (hy : Lib.byteCells (cleanSt (cleanS pre) x).1 = Lib.byteCells (cleanS pre).1) => clean_round HI.out (W1 := W) (by rw [hy]; exact ⟨p, v, hp, hbl⟩) (Below.refl _ _) (Lib.OthersKept.refl _ _ _))
    have HY : Hid (Lib.byteCells (cleanSt (cleanS pre) x).1 = Lib.byteCells (cleanS pre).1 ++ Lib.byteCells (cleanR (cleanS pre).2 x.r)) := by show _ = _; rw [cleanSt, Lib.byteCells_append]
    obtain ⟨last, hlast⟩ : ∃ last, last = (cleanS pre).2 := ⟨_, rfl⟩
    have c1 : W.cell? ⟨b + 1, 0, none⟩ = some (.int .i32 last) := by rw [hlast]; exact k1.cell 0
    have f1 : W.frozen? ⟨b + 1, 0, none⟩ = false := k1.free 0
    have hx0 := x.h0
    have hx1 := x.h1
    obtain ⟨r, hr⟩ : ∃ r, r = x.r := ⟨_, rfl⟩
    rw [← hr] at hx0 hx1 HCR HC0 HY ⊢
    rw [← hlast] at HCR HC0 HY
    have HX := Lib.hid hr
    clear hr hlast k1 k2 hp hbl hB hbn hlt
    by_cases r0 : r = 0
    · subst r0
      have HE : Hid (Lib.byteCells (cleanSt (cleanS pre) x).1 = Lib.byteCells (cleanS pre).1 ++ Lib.runeCells 65533) := by show _ = _; rw [HY.out, cleanR, if_pos rfl, Lib.byteCells_encodeRune]
      gi_wp2_with (refine ⟨trivial, ?_⟩; gi_at_call 29; refine (CallsIn.inRound l (callsIn_wide.2 (HWR.out 65533 (by decide) (by decide)))).mono ?_; rintro e W1 ⟨⟨v0, rfl⟩, hw⟩; (have HQ := Lib.hid (HCR.out W1 _ HE.out hw)); (have c2 : W1.cell? ⟨b + 1, 0, none⟩ = some (.int .i32 last) := HQ.out.1.cell 0); (have f2 : W1.frozen? ⟨b + 1, 0, none⟩ = false := HQ.out.1.free 0); clear hw)
      exact ⟨HQ.out.2.1, HQ.out.2.2.1, HQ.out.2.2.2⟩
    by_cases r1 : r = 13
    · subst r1
      have HE : Hid (Lib.byteCells (cleanSt (cleanS pre) x).1 = Lib.byteCells (cleanS pre).1 ++ [.int .u8 10]) := by show _ = _; rw [HY.out, cleanR, if_neg (by decide), if_pos (.inl rfl)]; rfl
      gi_wp2_with (refine ⟨trivial, ?_⟩; gi_at_call 30; refine (CallsIn.inRound l (callsIn_wide.2 HWB.out)).mono ?_; rintro e W1 ⟨rfl, hw⟩; (have HQ := Lib.hid (HCR.out W1 _ HE.out hw)); (have c2 : W1.cell? ⟨b + 1, 0, none⟩ = some (.int .i32 last) := HQ.out.1.cell 0); (have f2 : W1.frozen? ⟨b + 1, 0, none⟩ = false := HQ.out.1.free 0); clear hw)
      exact ⟨HQ.out.2.1, HQ.out.2.2.1, HQ.out.2.2.2⟩
    by_cases r2 : r = 10
    · subst r2
      by_cases l0 : last = 13
      · subst l0
        have HE : Hid (Lib.byteCells (cleanSt (cleanS pre) x).1 = Lib.byteCells (cleanS pre).1) := by show _ = _; rw [HY.out, cleanR, if_neg (by decide), if_neg (by decide), if_neg (by decide)]; simp [Lib.byteCells]
        have HQ := Lib.hid (HC0.out HE.out)
        gi_wp2
        exact ⟨HQ.out.2.1, HQ.out.2.2.1, HQ.out.2.2.2⟩
      · have HE : Hid (Lib.byteCells (cleanSt (cleanS pre) x).1 = Lib.byteCells (cleanS pre).1 ++ [.int .u8 10]) := by show _ = _; rw [HY.out, cleanR, if_neg (by decide), if_pos (.inr ⟨rfl, l0⟩)]; rfl
        have l1 : (last != 13) = true := by simpa using l0
        gi_wp2_with (refine ⟨trivial, ?_⟩; gi_at_call 30; refine (CallsIn.inRound l (callsIn_wide.2 HWB.out)).mono ?_; rintro e W1 ⟨rfl, hw⟩; (have HQ := Lib.hid (HCR.out W1 _ HE.out hw)); (have c2 : W1.cell? ⟨b + 1, 0, none⟩ = some (.int .i32 last) := HQ.out.1.cell 0); (have f2 : W1.frozen? ⟨b + 1, 0, none⟩ = false := HQ.out.1.free 0); clear hw)
        exact ⟨HQ.out.2.1, HQ.out.2.2.1, HQ.out.2.2.2⟩
    · have HE : Hid (Lib.byteCells (cleanSt (cleanS pre) x).1 = Lib.byteCells (cleanS pre).1 ++ Lib.runeCells r) := by show _ = _; rw [HY.out, cleanR, if_neg r0, if_neg (by omega), if_pos r2, Lib.byteCells_encodeRune]
      have l0 : (r == 0) = false := by simpa using r0
      have l1 : (r == 13) = false := by simpa using r1
      have l2 : (r == 10) = false := by simpa using r2
      have l3 : (r != 10) = true := by simpa using r2
      gi_wp2_with (refine ⟨trivial, ?_⟩; gi_at_call 29; refine (CallsIn.inRound l (callsIn_wide.2 (HWR.out r (by omega) (by omega)))).mono ?_; rintro e W1 ⟨⟨v0, rfl⟩, hw⟩; (have HQ := Lib.hid (HCR.out W1 _ HE.out hw)); (have c2 : W1.cell? ⟨b + 1, 0, none⟩ = some (.int .i32 last) := HQ.out.1.cell 0); (have f2 : W1.frozen? ⟨b + 1, 0, none⟩ = false := HQ.out.1.free 0); clear hw)
      exact ⟨HQ.out.2.1, HQ.out.2.2.1, HQ.out.2.2.2⟩
  case done =>
    rintro D ys W hD rfl hI hK
    have HI := Lib.hid hI
    obtain ⟨⟨hbl, k1, k2⟩, hB⟩ := hI
    have hbW : b ≤ W.heap.size := by have := hB.size; omega
    have HS := Lib.hid (Tryz.Builder_String_any_k b b _ W hbl.is hbW)
    have hDb : D ≠ b := by omega
    have hBb : b ≤ D := by omega
    have HB0 := Lib.hid hB0
    have HB1 := Lib.hid hB
    have HK := Lib.hid hK
    gi_wp2_with (refine ⟨trivial, ?_⟩; gi_at_call 26; refine (callsIn_wide.2 HS.out).mono ?_; rintro e W1 ⟨rfl, hw0, hb1, ho1⟩)
    have hK' : W1.heap[D]? = some (.deferred (some [])) := ho1 D _ HK.out (fun e => hDb (by injection e)) (fun c fz e => by cases e)
    refine ⟨by simp, .inl ⟨_, _, rfl, run_takeDeferred hK', ?_⟩⟩
    refine ⟨_, results_tmp rfl _ _ _, rfl, ?_⟩
    rw [← HB9.out]
    exact (HB1.out.trans hb1).grown (grownBy_putObj' _ D _) (by have := (HB1.out.trans hb1).size; omega) (fun k hk => by injection hk with hk; omega)
  case stop =>
    rintro D c pre W _ _ h _
    exact h.elim
theorem cleanS_sgs (l : List UInt8) : ∀ (k a : Nat) (S : List UInt8 × Int), a ≤ l.length → ((sgs l k a).foldl cleanSt S).1 = S.1 ++ cleanF S.2 k (l.drop a)
  | 0, a, S, _ => by simp [sgs, cleanF]
  | k + 1, a, S, ha => by
    rw [sgs]
    rcases Nat.lt_or_ge a l.length with h | h
    · rw [if_pos h, List.foldl_cons, cleanS_sgs l k _ _ (one_step h).2]
      have e := List.drop_eq_getElem_cons h
      rw [e, cleanF, ← e]
      simp only [cleanSt, sgAt_r h, List.append_assoc, List.drop_drop]
    · rw [if_neg (by omega), List.drop_eq_nil_of_le h]
      simp [cleanF]
theorem cleanS_F (s : ByteArray) : (cleanS (sgs s.data.toList s.size 0)).1 = cleanF 0 s.size s.data.toList := by
  have := cleanS_sgs s.data.toList s.size 0 ([], 0) (Nat.zero_le _)
  simpa [cleanS] using this
/-- The cleaned text. -/
def cleaned (s : ByteArray) : ByteArray := ⟨(cleanF 0 s.size s.data.toList).toArray⟩
theorem clean_calls' (s : ByteArray) (hs : s.size ≤ 1099511627776) (w : World) :
    Calls Tryz.prog 14 #[.string s] w fun e w' => e = .returned (.string (cleaned s)) ∧ Below w.heap.size w w' :=
  (clean_calls s hs w).mono fun e w' h => by rw [cleanS_F] at h; exact h
end Go.Proofs.YtcghahfboccceaaGreatDoor
