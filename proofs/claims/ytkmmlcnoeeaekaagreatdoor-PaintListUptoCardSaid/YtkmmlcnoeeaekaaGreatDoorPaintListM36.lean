/- Several texts in one: StkP. -/
import Derived.Test.YtkmmlcnoeeaekaaGreatDoorPaintListM35
/- The contract of stack.Order. -/
namespace Go.Proofs.YtkmmlcnoeeaekaaGreatDoor
open Go.RowKit
set_option linter.unusedVariables false
set_option linter.unusedSimpArgs false
attribute [local go_sem high] run_min2 run_max2

/-- Whole numbers of 64 bits. -/
def In64 (zs : List Int) : Prop := ∀ z ∈ zs, -9223372036854775808 ≤ z ∧ z ≤ 9223372036854775807
theorem in64_getD {zs : List Int} (h : In64 zs) (j : Nat) : -9223372036854775808 ≤ zs.getD j 0 ∧ zs.getD j 0 ≤ 9223372036854775807 := by
  by_cases hj : j < zs.length
  · exact h _ (by simp [List.getD, hj])
  · simp [List.getD, hj]
theorem look_bd {lz tbl : List Int} (h1 : In64 lz) (h2 : In64 tbl) (bs : List BoxV) (i : Nat) : -9223372036854775808 ≤ stN (lookAt lz tbl bs i) 31 ∧ stN (lookAt lz tbl bs i) 31 ≤ 9223372036854775807 := by
  show -9223372036854775808 ≤ (lookAt lz tbl bs i).getD 63 0 ∧ (lookAt lz tbl bs i).getD 63 0 ≤ 9223372036854775807
  rw [lookAt_getD lz tbl bs i 63 (by omega)]
  by_cases h : 0 ≤ (bx bs i).node
  · rw [look_node h]; exact in64_getD h1 _
  · rw [look_init h (by decide)]; exact in64_getD h2 _
/-- The layout with its looks. -/
def layV (Ab : Option Addr) (nb cb : Nat) (bs : List BoxV) (Af : Option Addr) (nf cf : Nat) (fs : List FragV) (W1 H1 : Int) (gL cL : Nat) (lk : Nat → List Int) : LayV := ⟨Ab, nb, cb, bs, Af, nf, cf, fs, W1, H1, gL, cL, lk⟩
theorem Boxes.more' {w : World} {B B' : Nat} {A : Option Addr} {bs : List BoxV} (h : Boxes w B A bs) (hB : B ≤ B') : Boxes w B' A bs := fun i hi => by
  obtain ⟨b, off, e, hlt, c0, c1, c2, c3, c4, hk, hl⟩ := h i hi
  exact ⟨b, off, e, by omega, c0, c1, c2, c3, c4, hk.more hB, hl⟩
theorem layV_ok {Ab : Option Addr} {nb cb : Nat} {bs : List BoxV} {Af : Option Addr} {nf cf : Nat} {fs : List FragV} {W1 H1 : Int} {gL cL : Nat} {lz tbl : List Int} {w : World} {base : Nat} (hn : bs.length = nb) (hf : fs.length = nf) (h : Boxes w w.heap.size Ab bs) (h2 : Frags w w.heap.size Af fs)
    (ho : w.ownsRow base 35 118 (.slice (some ⟨gL, 0, none⟩) nb cL) nb (rows nb (lookRow lz tbl bs))) (h64 : In64 lz) (ht : In64 tbl) (hok : LayOk bs fs) (hm : nb ≤ 1048576) (hm2 : nf ≤ 1048576) : (layV Ab nb cb bs Af nf cf fs W1 H1 gL cL (lookAt lz tbl bs)).ok w w.heap.size where
  hb := hn
  hf := hf
  boxes := h
  frags := h2
  gl := (ho.lt gL rfl).2
  looks := fun i hi j v hv => by
    have e : (sty (lookAt lz tbl bs i)).toList = lookRow lz tbl bs i := by simp [sty, lookRow, ints]
    have hv' : (sty (lookAt lz tbl bs i)).toList[j]? = some v := hv
    rw [e] at hv'
    exact own_rowAt (fun i => lookRow_len lz tbl bs i) ho hi hv'
  len := fun i => lookAt_len lz tbl bs i
  z64 := fun i _ => look_bd h64 ht bs i
  good := fun i hi => hok.2.1 i (by rw [hf]; exact hi)
  nb0 := hm
  nf0 := hm2
/-- The steps of a layout, by its boxes, fragments and looks. -/
def stepsOf (bs : List BoxV) (fs : List FragV) (lk : Nat → List Int) : List (Nat × Nat) := (layV none 0 0 bs none fs.length 0 fs 0 0 0 0 lk).steps
theorem markR_one (L : LayV) (k : Nat) : ∀ u ∈ markR L k, u.oneCell' = true := fun u hu => by
  simp [markR] at hu
  rcases hu with rfl | rfl | rfl <;> rfl
theorem blk_mark {w : World} {g k : Nat} {L : LayV} {cs : Array Value} (hcs : cs.toList = markR L k) (h : Blk w g 138 cs) : ∀ j u, (markR L k)[j]? = some u → w.cell? ⟨g, 0 + j, none⟩ = some u := fun j u hj => by
  rw [Nat.zero_add, h.cell]
  rw [← hcs] at hj
  simpa using hj
def OrderPost (bs : List BoxV) (fs : List FragV) (nl : Nat) (lz tbl : List Int) (w : World) (e : Ending) (w' : World) : Prop :=
  ((LayOk bs fs ∧ LooksOk nl bs ∧ ∃ v, e = .returned (.tuple #[v, .int .i64 0]) ∧ w'.ownsRow w.heap.size 94 2 v (stepsOf bs fs (lookAt lz tbl bs)).length (steps (stepsOf bs fs (lookAt lz tbl bs)))) ∨
    (¬ (LayOk bs fs ∧ LooksOk nl bs) ∧ e = .returned (.tuple #[.slice none 0 0, .int .i64 3]))) ∧ Below w.heap.size w w'
set_option maxRecDepth 1000000 in
set_option maxHeartbeats 20000000 in
theorem order_calls (Al : Option Addr) (nl cl : Nat) (lz tbl : List Int) (Ab : Option Addr) (nb cb : Nat) (bs : List BoxV) (Af : Option Addr) (nf cf : Nat) (fs : List FragV) (W1 H1 : Int) (w : World) (hl : lz.length = nl * 118) (hn : bs.length = nb) (hf : fs.length = nf)
    (h : Boxes w w.heap.size Ab bs) (h2 : Frags w w.heap.size Af fs) (h3 : Holds w w.heap.size Al (ints lz)) (hT : TabAt w tbl) (h0 : 0 < w.heap.size) (h64 : In64 lz) (ht64 : In64 tbl) (hm : nb ≤ 1048576) (hm2 : nf ≤ 1048576) (hm3 : nl ≤ 1048576) :
    Calls Tryz.prog 39 #[.slice Al nl cl, .agg #[.slice Ab nb cb, .slice Af nf cf, .int .i64 W1, .int .i64 H1]] w (OrderPost bs fs nl lz tbl w) := by
  have mixed : Tryz.prog.follows .mixedOrders = true := by kernel_rfl
  obtain ⟨i0, hia, hza0, hza1, hza2⟩ := info_parts info_nums
  obtain ⟨i2, hik, hzk0, hzk1, hzk2⟩ := info_parts info_kids
  obtain ⟨i3, him, hzm0, hzm1, hzm2⟩ := info_parts info_mark
  have HBA := Lib.hid (below_alloc (Below.refl w.heap.size w) (.cells #[.slice Ab nb cb, .slice Af nf cf, .int .i64 W1, .int .i64 H1] 42))
  have HLA := Lib.hid (Blk.new w 42 #[.slice Ab nb cb, .slice Af nf cf, .int .i64 W1, .int .i64 H1])
  have HCK : Hid (∀ X, Below w.heap.size w X → Calls Tryz.prog 36 #[.agg #[.slice Ab nb cb, .slice Af nf cf, .int .i64 W1, .int .i64 H1]] X fun e w' => e = .returned (.int .i64 (layE bs fs)) ∧ Below X.heap.size X w') := fun X hX => scheck_calls Ab nb cb bs Af nf cf fs W1 H1 w.heap.size X hn hf (h.below hX (Nat.le_refl _)) (h2.below hX (Nat.le_refl _)) hX.size hm hm2
  have HLK : Hid (∀ X, Below w.heap.size w X → _) := fun X hX => looks_calls Ab nb cb bs Al nl cl lz tbl w.heap.size X hn hl (h.below hX (Nat.le_refl _)) (h3.below hX (Nat.le_refl _)) (hT.below hX h0) hX.size h0 hm hm3
  have HN := Lib.hid hn
  have HNF := Lib.hid hf
  have H := Lib.hid h
  have H2 := Lib.hid h2
  have H64 := Lib.hid h64
  have HT64 := Lib.hid ht64
  clear hl hn hf h h2 h3 hT h0 h64 ht64
  by_cases hok : LayOk bs fs
  · have HOK := Lib.hid hok
    have HCK : Hid (∀ X, Below w.heap.size w X → Calls Tryz.prog 36 #[.agg #[.slice Ab nb cb, .slice Af nf cf, .int .i64 W1, .int .i64 H1]] X fun e w' => e = .returned (.int .i64 0) ∧ Below X.heap.size X w') := by
      have h1 := HCK.out; rw [layE_yes hok] at h1; exact h1
    clear hok
    by_cases hlo : LooksOk nl bs
    · have HLO := Lib.hid hlo
      have HLK : Hid (∀ X, Below w.heap.size w X → Calls Tryz.prog 18 #[.slice Ab nb cb, .slice Al nl cl] X fun e w' => (∃ v, e = .returned (.tuple #[v, .int .i64 0]) ∧ w'.ownsRow X.heap.size 35 118 v nb (rows nb (lookRow lz tbl bs))) ∧ Below X.heap.size X w') := fun X hX => (HLK.out X hX).mono fun e w' hh => by
        rcases hh with ⟨⟨v, he, ho, _⟩ | ⟨_, hno⟩, hb⟩
        · exact ⟨⟨v, he, ho⟩, hb⟩
        · exact absurd hlo hno
      have hnf0 : 0 < nf := by rw [← HNF.out]; exact HOK.out.2.2.1
      have hnb0 : 0 < nb := by
        have h1 := (HOK.out.2.1 0 (by rw [HNF.out]; exact hnf0)).2.1
        have h2 := (HOK.out.2.1 0 (by rw [HNF.out]; exact hnf0)).1
        rw [HN.out] at h1; omega
      obtain ⟨bF, offF, rfl, hbF, -⟩ := H2.out.at_ (k := 0) (by rw [HNF.out]; exact hnf0)
      obtain ⟨bB, offB, rfl, hbB, -⟩ := H.out.at_ (i := 0) (by rw [HN.out]; exact hnb0)
      clear hlo
      go_enter Tryz.func39, Tryz.ntmps39
      go_wp2_with (first | (go_at_call 36; refine (HCK.out _ HBA.out).mono ?_; rintro e w1 ⟨rfl, hb1⟩; have HB1 := Lib.hid (below_then HBA.out hb1); have HL1 := Lib.hid (HLA.out.below hb1 HLA.out.lt); have l0 : w1.cell? ⟨w.heap.size, 0, none⟩ = some (.slice (some ⟨bB, offB, none⟩) nb cb) := HL1.out.cell 0; clear hb1) | (go_at_call 18; refine (HLK.out _ HB1.out).mono ?_; rintro e W ⟨⟨v, rfl, ho⟩, hb2⟩; obtain ⟨gL, cL, rfl, hgLa, hgLb⟩ := own_some ho hnb0; have HOL := Lib.hid ho; have HBW := Lib.hid (below_then HB1.out hb2); have HLW := Lib.hid (HL1.out.below hb2 HL1.out.lt); have l1 : W.cell? ⟨w.heap.size, 1, none⟩ = some (.slice (some ⟨bF, offF, none⟩) nf cf) := HLW.out.cell 1; clear ho hb2 hgLa) | (at_make; refine wpList_make_full _ rfl (.tmp 29) (.tmp 29) 133 rfl W.heap.size 44 i2 (.slice none 0 0) 1 Tryz.underlying133 hik hzk0 hzk1 .i64 .i64 _ _ nf rfl rfl rfl rfl (by rw [hzk2]; omega) (by unfold maxLen; omega) (Nat.le_refl _) ?_; intro w4 hka hg4; have HKA := Lib.hid hka; have HB4 := Lib.hid (below_made (Below.refl W.heap.size W) hg4); have l2 : w4.cell? ⟨w.heap.size, 1, none⟩ = some (.slice (some ⟨bF, offF, none⟩) nf cf) := (grown_cell hg4 HLW.out.lt).trans (HLW.out.cell 1); have hlt4 : w.heap.size < w4.heap.size := Nat.lt_of_lt_of_le HLW.out.lt hg4.size; clear hka hg4))
      have HLOKW : Hid ((layV (some ⟨bB, offB, none⟩) nb cb bs (some ⟨bF, offF, none⟩) nf cf fs W1 H1 gL cL (lookAt lz tbl bs)).ok W W.heap.size) := layV_ok HN.out HNF.out ((H.out.below HBW.out (Nat.le_refl _)).more' HBW.out.size) (Holds.more (H2.out.below HBW.out (Nat.le_refl _)) HBW.out.size) HOL.out H64.out HT64.out HOK.out hm hm2
      have HOS0 : Hid (OSt (layV (some ⟨bB, offB, none⟩) nb cb bs (some ⟨bF, offF, none⟩) nf cf fs W1 H1 gL cL (lookAt lz tbl bs)) W w4.heap.size W.heap.size 0 0 (.slice none 0 0) (madeCells (Value.slice none 0 0).cells (nf * 1)).toList (w4.alloc (.cells #[.slice none 0 0, .slice (some ⟨W.heap.size, 0, none⟩) nf nf, .slice none 0 0] 136))) := by
        have e : (madeCells (Value.slice none 0 0).cells (nf * 1)).toList = List.replicate nf (.slice none 0 0) := by
          show (madeCells #[Value.slice none 0 0] (nf * 1)).toList = _
          rw [toList_madeCells_one]; simp
        refine ⟨below_alloc HB4.out _, Blk.new _ _ _, World.ownsRow_nil _ _ _ _, HKA.out.alloc _, ?_, HB4.out.size⟩
        rw [e]
        refine ⟨by simp; rfl, fun k hk => ⟨none, 0, ?_, World.ownsRow_nil _ _ _ _⟩, fun k k' a b _ ha _ => ?_⟩
        · have hk' : k < nf := hk
          simp [hk', kidsTo]
        · rw [List.getElem?_replicate] at ha
          split at ha
          · injection ha with ha
            subst ha
            exact Ap.nil _ _ _
          · cases ha
      have HGA : Hid (∀ X, Below W.heap.size W X → X.cell? ⟨w.heap.size, 0, none⟩ = some (.slice (some ⟨bB, offB, none⟩) nb cb)) := fun X hX => (hX.cell (p := ⟨w.heap.size, 0, none⟩) HLW.out.lt).trans (HLW.out.cell 0)
      have HPAR0 : Hid (∀ k, 0 < k → k < (layV (some ⟨bB, offB, none⟩) nb cb bs (some ⟨bF, offF, none⟩) nf cf fs W1 H1 gL cL (lookAt lz tbl bs)).nf → (layV (some ⟨bB, offB, none⟩) nb cb bs (some ⟨bF, offF, none⟩) nf cf fs W1 H1 gL cL (lookAt lz tbl bs)).par k < k) := fun k a b => (par_lt HLOKW.out a b).1
      have hgLW := hgLb
      generalize World.alloc w4 _ = w5 at HOS0 ⊢
      generalize w4.heap.size = gO at HOS0 ⊢
      generalize hgk : W.heap.size = gK at HOS0 ⊢
      obtain ⟨KL0, hKL0⟩ : ∃ x, x = (madeCells (Value.slice none 0 0).cells (nf * 1)).toList := ⟨_, rfl⟩
      rw [← hKL0] at HOS0
      have HGK := Lib.hid hgk
      clear l0 l1 l2 hlt4 HB4 HKA hKL0 HLA HL1 hgLb hgk
      go_loopw [36] (fun s wr => ∃ (i : Nat) (vM : Value) (KL : List Value), i ≤ nf ∧ s = .int .i64 i ∧ OSt (layV (some ⟨bB, offB, none⟩) nb cb bs (some ⟨bF, offF, none⟩) nf cf fs W1 H1 gL cL (lookAt lz tbl bs)) W gO gK i i vM KL wr) (fun s _ => nf - (intOf s).toNat)
      case atStart => exact ⟨0, _, KL0, Nat.zero_le _, rfl, HOS0.out⟩
      case round =>
        clear HOS0
        obtain ⟨i, vM, KL, hi, rfl, hos⟩ := hrel
        obtain ⟨AM, cM, rfl⟩ := own_open hos.mks
        have HOS := Lib.hid hos
        clear hos
        by_cases hlt : i < nf
        · have II := Lib.hid (show i ≤ nf ∧ i < nf from ⟨hi, hlt⟩)
          have HBR := Lib.hid (below_then HBW.out HOS.out.bel)
          obtain ⟨b, off, e1, hb, c0, c1, c2, c3, c4, c5, c6, c7⟩ := (H2.out.below HBR.out (Nat.le_refl _)).at_ (k := i) (by rw [HNF.out]; exact hlt)
          injection e1 with e1
          injection e1 with e3 e4
          subst e3; subst e4
          have hgd := HOK.out.2.1 i (by rw [HNF.out]; exact hlt)
          have HKDE : Hid ((layV (some ⟨bB, offB, none⟩) nb cb bs (some ⟨bF, offF, none⟩) nf cf fs W1 H1 gL cL (lookAt lz tbl bs)).kd i = (bx bs (fr fs i).box.toNat).kind ∧ (layV (some ⟨bB, offB, none⟩) nb cb bs (some ⟨bF, offF, none⟩) nf cf fs W1 H1 gL cL (lookAt lz tbl bs)).st i = lookAt lz tbl bs (fr fs i).box.toNat ∧ (layV (some ⟨bB, offB, none⟩) nb cb bs (some ⟨bF, offF, none⟩) nf cf fs W1 H1 gL cL (lookAt lz tbl bs)).par i = (fr fs i).par.toNat) := ⟨rfl, rfl, rfl⟩
          obtain ⟨x, hx⟩ : ∃ x, x = fr fs i := ⟨_, rfl⟩
          rw [← hx] at c0 c1 c2 c3 c4 c5 c6 c7 hgd HKDE
          obtain ⟨m, hmx⟩ : ∃ m : Nat, x.box = (m : Int) := ⟨x.box.toNat, by have := hgd.1; omega⟩
          have hmn : m < nb := by have := hgd.2.1; rw [HN.out, hmx] at this; omega
          obtain ⟨b2, off2, e2, hb2, k0⟩ := HLOKW.out.box (m := m) hmn
          have e2 : (some ⟨bB, offB, none⟩ : Option Addr) = some ⟨b2, off2, none⟩ := e2
          injection e2 with e2
          injection e2 with e3 e4
          subst e3; subst e4
          have hln : (lookAt lz tbl bs m).length = 118 := lookAt_len lz tbl bs m
          have hrg : W.rangeAt gL (m * 118) (sty (lookAt lz tbl bs m)).toList := HLOKW.out.looks m hmn
          have hbd := look_bd H64.out HT64.out bs m
          obtain ⟨zs, hzs⟩ : ∃ x, x = lookAt lz tbl bs m := ⟨_, rfl⟩
          rw [← hzs] at hln hrg hbd
          have k0 : W.cell? ⟨bB, offB + m * 5, none⟩ = some (.int .i64 (bx bs m).kind) := k0
          obtain ⟨kd, hkd⟩ : ∃ x, x = (bx bs m).kind := ⟨_, rfl⟩
          rw [← hkd] at k0
          have HMR : Hid ((#[Value.int .i64 (isK kd zs), .int .i64 (rankK kd zs), .int .i64 (phK kd zs)] : Array Value).toList = markR (layV (some ⟨bB, offB, none⟩) nb cb bs (some ⟨bF, offF, none⟩) nf cf fs W1 H1 gL cL (lookAt lz tbl bs)) i) := by
            have e1 : (layV (some ⟨bB, offB, none⟩) nb cb bs (some ⟨bF, offF, none⟩) nf cf fs W1 H1 gL cL (lookAt lz tbl bs)).kd i = kd := by rw [HKDE.out.1, hmx, hkd]; rfl
            have e3 : (layV (some ⟨bB, offB, none⟩) nb cb bs (some ⟨bF, offF, none⟩) nf cf fs W1 H1 gL cL (lookAt lz tbl bs)).st i = zs := by rw [HKDE.out.2.1, hmx, hzs]; rfl
            show _ = [Value.int .i64 (isK ((layV (some ⟨bB, offB, none⟩) nb cb bs (some ⟨bF, offF, none⟩) nf cf fs W1 H1 gL cL (lookAt lz tbl bs)).kd i) ((layV (some ⟨bB, offB, none⟩) nb cb bs (some ⟨bF, offF, none⟩) nf cf fs W1 H1 gL cL (lookAt lz tbl bs)).st i)), .int .i64 (rankK ((layV (some ⟨bB, offB, none⟩) nb cb bs (some ⟨bF, offF, none⟩) nf cf fs W1 H1 gL cL (lookAt lz tbl bs)).kd i) ((layV (some ⟨bB, offB, none⟩) nb cb bs (some ⟨bF, offF, none⟩) nf cf fs W1 H1 gL cL (lookAt lz tbl bs)).st i)), .int .i64 (phK ((layV (some ⟨bB, offB, none⟩) nb cb bs (some ⟨bF, offF, none⟩) nf cf fs W1 H1 gL cL (lookAt lz tbl bs)).kd i) ((layV (some ⟨bB, offB, none⟩) nb cb bs (some ⟨bF, offF, none⟩) nf cf fs W1 H1 gL cL (lookAt lz tbl bs)).st i))]
            rw [e1, e3]
          have HSS : Hid (∀ w', Below W.heap.size W w' → Blk w' gO 136 #[.slice AM i cM, .slice (some ⟨gK, 0, none⟩) nf nf, .slice none 0 0] → Blk w' wr.heap.size 88 (fragC x) → w'.cell? ⟨gO, 0, none⟩ = some (.slice AM i cM) ∧ w'.cell? ⟨w.heap.size, 0, none⟩ = some (.slice (some ⟨bB, offB, none⟩) nb cb) ∧ w'.cell? ⟨wr.heap.size, 0, none⟩ = some (.int .i64 (m : Int)) ∧ w'.cell? ⟨bB, offB + m * 5, none⟩ = some (.int .i64 kd) ∧ w'.rangeAt gL (m * 118) (sty zs).toList) := fun w' hX hB hF => ⟨hB.cell 0, HGA.out w' hX, by have := hF.cell 0; rw [this, ← hmx]; rfl, (hX.cell (p := ⟨bB, offB + m * 5, none⟩) hb2).trans k0, fun j v hv => (hX.cell (p := ⟨gL, m * 118 + j, none⟩) hgLW).trans (hrg j v hv)⟩
          have HMK := Lib.hid (fun w => marked_calls kd zs w hln hbd)
          have HSZL : Hid ((Tryz.prog.info? 35).map (·.size) = some (sty zs).toList.length) := by show _ = _; rw [Array.length_toList, sty_size, hln]; kernel_rfl
          have HX := Lib.hid hx
          have HGD := Lib.hid hgd
          have HFR0 := Lib.hid (Blk.new wr 88 (fragC x))
          have HOS := Lib.hid (HOS.out.below (below_alloc (Below.refl _ _) (.cells (fragC x) 88)))
          have qi : decide (i < nf) = true := decide_eq_true hlt
          have hbr : bF < wr.heap.size := Nat.lt_of_lt_of_le hb HBR.out.size
          unfold fragC at HFR0 HOS
          clear hx hgd hmx hkd hzs k0 hrg hln hbd hi
          go_wp2_with fail
          generalize World.alloc wr _ = wf at HFR0 HOS ⊢
          have HFR := Lib.hid HFR0.out.drew
          have HOS := Lib.hid HOS.out.drew
          have hS0 : (fun w' : World => w'.cell? ⟨gO, 0, none⟩ = some (.slice AM i cM) ∧ w'.cell? ⟨w.heap.size, 0, none⟩ = some (.slice (some ⟨bB, offB, none⟩) nb cb) ∧ w'.cell? ⟨wr.heap.size, 0, none⟩ = some (.int .i64 (m : Int)) ∧ w'.cell? ⟨bB, offB + m * 5, none⟩ = some (.int .i64 kd) ∧ w'.rangeAt gL (m * 118) (sty zs).toList) wf.drew := HSS.out _ HOS.out.bel HOS.out.blk HFR.out
          clear c0 c1 c2 c3 c4 c5 c6 c7 HFR0 hb2
          refine wp_region_noPanic ?_
          refine region_M (S := fun w' => w'.cell? ⟨gO, 0, none⟩ = some (.slice AM i cM) ∧ w'.cell? ⟨w.heap.size, 0, none⟩ = some (.slice (some ⟨bB, offB, none⟩) nb cb) ∧ w'.cell? ⟨wr.heap.size, 0, none⟩ = some (.int .i64 (m : Int)) ∧ w'.cell? ⟨bB, offB + m * 5, none⟩ = some (.int .i64 kd) ∧ w'.rangeAt gL (m * 118) (sty zs).toList) (T := [22]) (by kernel_rfl) ?_
          generalize World.drew wf = wd at HOS HFR hS0 ⊢
          refine anyM_free (i := 0) (oi := { dst := some 41, op := _, type := _, pos := _, after := _, guard := _ }) (v := ?_) rfl (by kernel_rfl) (fun _ _ _ h => h) (Or.inl ⟨by kernel_rfl, ?_⟩) (fun _ => hS0) ?_
          rotate_left 1
          · (intro w hSw; (try dsimp only at hSw); go_simp; try with_reducible rfl)
          try simp only [Act.put, Array.toArray_toList, List.setIfInBounds_toArray, List.set_cons_zero, List.set_cons_succ]
          refine anyM_free (i := 1) (oi := { dst := some 42, op := _, type := _, pos := _, after := _, guard := _ }) (v := ?_) rfl (by kernel_rfl) (fun _ _ _ h => h) (Or.inl ⟨by kernel_rfl, ?_⟩) (fun _ => hS0) ?_
          rotate_left 1
          · (intro w hSw; (try dsimp only at hSw); go_simp; try with_reducible rfl)
          try simp only [Act.put, Array.toArray_toList, List.setIfInBounds_toArray, List.set_cons_zero, List.set_cons_succ]
          refine anyM_free (i := 2) (oi := { dst := some 43, op := _, type := _, pos := _, after := _, guard := _ }) (v := ?_) rfl (by kernel_rfl) (fun _ _ _ h => h) (Or.inl ⟨by kernel_rfl, ?_⟩) (fun _ => hS0) ?_
          rotate_left 1
          · (intro w hSw; (try dsimp only at hSw); go_simp; try with_reducible rfl)
          try simp only [Act.put, Array.toArray_toList, List.setIfInBounds_toArray, List.set_cons_zero, List.set_cons_succ]
          refine anyM_free (i := 3) (oi := { dst := some 44, op := _, type := _, pos := _, after := _, guard := _ }) (v := ?_) rfl (by kernel_rfl) (fun _ _ _ h => h) (Or.inl ⟨by kernel_rfl, ?_⟩) (fun _ => hS0) ?_
          rotate_left 1
          · (intro w hSw; (try dsimp only at hSw); go_simp; try with_reducible rfl)
          try simp only [Act.put, Array.toArray_toList, List.setIfInBounds_toArray, List.set_cons_zero, List.set_cons_succ]
          refine anyM_take (i := 4) (oi := { dst := some 45, op := _, type := _, pos := _, after := _, guard := _ }) (v := ?_) rfl (by kernel_rfl) (fun _ _ _ h => h) (Or.inl ⟨by kernel_rfl, ?_⟩) hS0 ?_
          rotate_left 1
          · (intro w hSw; (try dsimp only at hSw); go_simp; try with_reducible rfl)
          try simp only [Act.put, Array.toArray_toList, List.setIfInBounds_toArray, List.set_cons_zero, List.set_cons_succ]
          refine anyM_free (i := 5) (oi := { dst := some 46, op := _, type := _, pos := _, after := _, guard := _ }) (v := ?_) rfl (by kernel_rfl) (fun _ _ _ h => h) (Or.inl ⟨by kernel_rfl, ?_⟩) (fun _ => hS0) ?_
          rotate_left 1
          · (intro w hSw; (try dsimp only at hSw); go_simp; try with_reducible rfl)
          try simp only [Act.put, Array.toArray_toList, List.setIfInBounds_toArray, List.set_cons_zero, List.set_cons_succ]
          refine anyM_take (i := 6) (oi := { dst := some 47, op := _, type := _, pos := _, after := _, guard := _ }) (v := ?_) rfl (by kernel_rfl) (fun _ _ _ h => h) (Or.inl ⟨by kernel_rfl, ?_⟩) hS0 ?_
          rotate_left 1
          · (intro w hSw; (try dsimp only at hSw); go_simp; try with_reducible rfl)
          try simp only [Act.put, Array.toArray_toList, List.setIfInBounds_toArray, List.set_cons_zero, List.set_cons_succ]
          refine anyM_free (i := 7) (oi := { dst := some 48, op := _, type := _, pos := _, after := _, guard := _ }) (v := ?_) rfl (by kernel_rfl) (fun _ _ _ h => h) (Or.inl ⟨by kernel_rfl, ?_⟩) (fun _ => hS0) ?_
          rotate_left 1
          · (intro w hSw; (try dsimp only at hSw); go_simp; try with_reducible rfl)
          try simp only [Act.put, Array.toArray_toList, List.setIfInBounds_toArray, List.set_cons_zero, List.set_cons_succ]
          refine anyM_take (i := 8) (oi := { dst := some 49, op := _, type := _, pos := _, after := _, guard := _ }) (v := ?_) rfl (by kernel_rfl) (fun _ _ _ h => h) (Or.inl ⟨by kernel_rfl, ?_⟩) hS0 ?_
          rotate_left 1
          · (intro w hSw; (try dsimp only at hSw); go_simp; try with_reducible rfl)
          try simp only [Act.put, Array.toArray_toList, List.setIfInBounds_toArray, List.set_cons_zero, List.set_cons_succ]
          refine anyM_free (i := 9) (oi := { dst := some 50, op := _, type := _, pos := _, after := _, guard := _ }) (v := ?_) rfl (by kernel_rfl) (fun _ _ _ h => h) (Or.inl ⟨by kernel_rfl, ?_⟩) (fun _ => hS0) ?_
          rotate_left 1
          · (intro w hSw; (try dsimp only at hSw); go_simp; try with_reducible rfl)
          try simp only [Act.put, Array.toArray_toList, List.setIfInBounds_toArray, List.set_cons_zero, List.set_cons_succ]
          refine anyM_free (i := 10) (oi := { dst := some 51, op := _, type := _, pos := _, after := _, guard := _ }) (v := ?_) rfl (by kernel_rfl) (fun _ _ _ h => h) (Or.inl ⟨by kernel_rfl, ?_⟩) (fun _ => hS0) ?_
          rotate_left 1
          · (intro w hSw; (try dsimp only at hSw); go_simp; try with_reducible rfl)
          try simp only [Act.put, Array.toArray_toList, List.setIfInBounds_toArray, List.set_cons_zero, List.set_cons_succ]
          refine anyM_take (i := 11) (oi := { dst := some 52, op := _, type := _, pos := _, after := _, guard := _ }) (v := ?_) rfl (by kernel_rfl) (fun _ _ _ h => h) (Or.inl ⟨by kernel_rfl, ?_⟩) hS0 ?_
          rotate_left 1
          · (intro w hSw; (try dsimp only at hSw); go_simp; try with_reducible rfl)
          try simp only [Act.put, Array.toArray_toList, List.setIfInBounds_toArray, List.set_cons_zero, List.set_cons_succ]
          refine anyM_free (i := 12) (oi := { dst := some 53, op := _, type := _, pos := _, after := _, guard := _ }) (v := ?_) rfl (by kernel_rfl) (fun _ _ _ h => h) (Or.inl ⟨by kernel_rfl, ?_⟩) (fun _ => hS0) ?_
          rotate_left 1
          · (intro w hSw; (try dsimp only at hSw); go_simp; try with_reducible rfl)
          try simp only [Act.put, Array.toArray_toList, List.setIfInBounds_toArray, List.set_cons_zero, List.set_cons_succ]
          refine anyM_free (i := 13) (oi := { dst := some 54, op := _, type := _, pos := _, after := _, guard := _ }) (v := ?_) rfl (by kernel_rfl) (fun _ _ _ h => h) (Or.inl ⟨by kernel_rfl, ?_⟩) (fun _ => hS0) ?_
          rotate_left 1
          · (intro w hSw; (try dsimp only at hSw); go_simp; try with_reducible rfl)
          try simp only [Act.put, Array.toArray_toList, List.setIfInBounds_toArray, List.set_cons_zero, List.set_cons_succ]
          refine anyM_take (i := 14) (oi := { dst := some 55, op := _, type := _, pos := _, after := _, guard := _ }) (v := ?_) rfl (by kernel_rfl) (fun _ _ _ h => h) (Or.inl ⟨by kernel_rfl, ?_⟩) hS0 ?_
          rotate_left 1
          · (intro w hSw; (try dsimp only at hSw); go_simp; try with_reducible rfl)
          try simp only [Act.put, Array.toArray_toList, List.setIfInBounds_toArray, List.set_cons_zero, List.set_cons_succ]
          refine anyM_free (i := 15) (oi := { dst := some 56, op := _, type := _, pos := _, after := _, guard := _ }) (v := ?_) rfl (by kernel_rfl) (fun _ _ _ h => h) (Or.inl ⟨by kernel_rfl, ?_⟩) (fun _ => hS0) ?_
          rotate_left 1
          · (intro w hSw; (try dsimp only at hSw); go_simp; try with_reducible rfl)
          try simp only [Act.put, Array.toArray_toList, List.setIfInBounds_toArray, List.set_cons_zero, List.set_cons_succ]
          refine anyM_take (i := 16) (oi := { dst := some 57, op := _, type := _, pos := _, after := _, guard := _ }) (v := _) rfl (by kernel_rfl) (fun _ _ _ h => h) (yieldsIf_load_mid (by kernel_rfl) _ _ rfl _ _ rfl (sty zs).toList _ (fun w' h => by simpa using h.2.2.2.2) Tryz.underlying35 rfl HSZL.out) hS0 ?_
          try simp only [Act.put, Array.toArray_toList, List.setIfInBounds_toArray, List.set_cons_zero, List.set_cons_succ]
          refine anyM_one (i := 17) (by kernel_rfl) rfl (fun K hK => ?_)
          go_simp
          refine (HMK.out _).mono ?_
          rintro e wm ⟨rfl, hbm⟩
          have HOS := Lib.hid (HOS.out.below hbm)
          have HFR := Lib.hid (HFR.out.below hbm HFR.out.lt)
          have hS0 : (fun w' : World => w'.cell? ⟨gO, 0, none⟩ = some (.slice AM i cM) ∧ w'.cell? ⟨w.heap.size, 0, none⟩ = some (.slice (some ⟨bB, offB, none⟩) nb cb) ∧ w'.cell? ⟨wr.heap.size, 0, none⟩ = some (.int .i64 (m : Int)) ∧ w'.cell? ⟨bB, offB + m * 5, none⟩ = some (.int .i64 kd) ∧ w'.rangeAt gL (m * 118) (sty zs).toList) wm := HSS.out _ HOS.out.bel HOS.out.blk HFR.out
          clear hbm
          refine hK.out _ _ (fun _ => hS0) ?_
          clear hK K
          try simp only [Act.put, Array.toArray_toList, List.setIfInBounds_toArray, List.set_cons_zero, List.set_cons_succ]
          refine anyM_one (i := 18) (by kernel_rfl) rfl (fun K hK => ?_)
          go_simp
          generalize hwx : World.alloc wm _ = wx
          have BX := Lib.hid (blk_neq hwx)
          have HBX := Lib.hid (below_aeq hwx (Below.refl _ _))
          have HOS := Lib.hid (HOS.out.below HBX.out)
          have HFR := Lib.hid (HFR.out.below HBX.out HFR.out.lt)
          have hS0 : (fun w' : World => w'.cell? ⟨gO, 0, none⟩ = some (.slice AM i cM) ∧ w'.cell? ⟨w.heap.size, 0, none⟩ = some (.slice (some ⟨bB, offB, none⟩) nb cb) ∧ w'.cell? ⟨wr.heap.size, 0, none⟩ = some (.int .i64 (m : Int)) ∧ w'.cell? ⟨bB, offB + m * 5, none⟩ = some (.int .i64 kd) ∧ w'.rangeAt gL (m * 118) (sty zs).toList) wx := HSS.out _ HOS.out.bel HOS.out.blk HFR.out
          clear hwx
          refine hK.out _ _ (fun _ => hS0) ?_
          clear hK K
          try simp only [Act.put, Array.toArray_toList, List.setIfInBounds_toArray, List.set_cons_zero, List.set_cons_succ]
          refine anyM_one (i := 19) (by kernel_rfl) rfl (fun K hK => ?_)
          refine step_append_any (by rfl) _ _ 134 (by rfl) (W.heap.size) 138 i3 (.agg #[.int .i64 0, .int .i64 0, .int .i64 0]) 3 24 Tryz.underlying134 him hzm0 hzm1 hzm2 rfl (by decide) (.slice AM i cM) i (rows i (markR (layV (some ⟨bB, offB, none⟩) nb cb bs (some ⟨bF, offF, none⟩) nf cf fs W1 H1 gL cL (lookAt lz tbl bs)))) (by rfl) HOS.out.mks (some ⟨wm.heap.size, 0, none⟩) 1 1 (markR (layV (some ⟨bB, offB, none⟩) nb cb bs (some ⟨bF, offF, none⟩) nf cf fs W1 H1 gL cL (lookAt lz tbl bs)) i) (by rfl) (by rfl) (.inl ⟨_, 0, rfl, blk_mark HMR.out BX.out⟩) (markR_one (layV (some ⟨bB, offB, none⟩) nb cb bs (some ⟨bF, offF, none⟩) nf cf fs W1 H1 gL cL (lookAt lz tbl bs)) i) (by unfold maxLen; omega) (by omega) HOS.out.bel.size ?_
          intro A8 c8 w8 o8 hg8 hat8
          have HP := Lib.hid (HOS.out.pushM o8 hg8)
          have hb8 := KeepT.blk (KeepT.grown HOS.out.mks hg8 (by decide)) HOS.out.blk
          have hf8 := KeepT.blk (KeepT.grown HOS.out.mks hg8 (by decide)) HFR.out
          have HFR := Lib.hid (KeepT.blk (KeepT.set hb8 (by decide)) hf8 : Blk (w8.setCell ⟨gO, 0, none⟩ (.slice A8 (i + 1) c8)) _ _ _)
          have hS0 : (fun w' : World => w'.cell? ⟨gO, 0, none⟩ = some (.slice AM i cM) ∧ w'.cell? ⟨w.heap.size, 0, none⟩ = some (.slice (some ⟨bB, offB, none⟩) nb cb) ∧ w'.cell? ⟨wr.heap.size, 0, none⟩ = some (.int .i64 (m : Int)) ∧ w'.cell? ⟨bB, offB + m * 5, none⟩ = some (.int .i64 kd) ∧ w'.rangeAt gL (m * 118) (sty zs).toList) w8 := HSS.out _ (below_grownB HOS.out.bel HOS.out.mks (Nat.le_refl _) hg8) hb8 hf8
          have z0 : w8.frozen? ⟨gO, 0, none⟩ = false := hb8.free 0
          clear o8 hg8 hat8 hb8 hf8
          refine hK.out _ _ (fun _ => hS0) ?_
          clear hK K
          try simp only [Act.put, Array.toArray_toList, List.setIfInBounds_toArray, List.set_cons_zero, List.set_cons_succ]
          refine anyM_free (i := 20) (oi := { dst := some 61, op := _, type := _, pos := _, after := _, guard := _ }) (v := ?_) rfl (by kernel_rfl) (fun _ _ _ h => h) (Or.inl ⟨by kernel_rfl, ?_⟩) (fun _ => hS0) ?_
          rotate_left 1
          · (intro w hSw; (try dsimp only at hSw); go_simp; try with_reducible rfl)
          try simp only [Act.put, Array.toArray_toList, List.setIfInBounds_toArray, List.set_cons_zero, List.set_cons_succ]
          refine anyM_free (i := 21) (oi := { dst := some 62, op := _, type := _, pos := _, after := _, guard := _ }) (v := ?_) rfl (by kernel_rfl) (fun _ _ _ h => h) (Or.inl ⟨by kernel_rfl, ?_⟩) (fun _ => hS0) ?_
          rotate_left 1
          · (intro w hSw; (try dsimp only at hSw); go_simp; try with_reducible rfl)
          try simp only [Act.put, Array.toArray_toList, List.setIfInBounds_toArray, List.set_cons_zero, List.set_cons_succ]
          refine anyM_one (i := 22) (by kernel_rfl) rfl (fun K hK => ?_)
          go_simp
          refine hK.out _ _ (fun h => late_no h (by kernel_rfl)) ?_
          clear hK K
          try simp only [Act.put, Array.toArray_toList, List.setIfInBounds_toArray, List.set_cons_zero, List.set_cons_succ]
          refine anyM_done (by kernel_rfl) ?_ _
          refine NoPanic.normal ?_
          generalize World.setCell w8 _ _ = wM at HP HFR ⊢
          clear hS0 z0 BX HBX HOS
          by_cases hi0 : i = 0
          · have q0 : decide ((0 : Int) < (i : Int)) = false := decide_eq_false (by omega)
            have q0' : decide (0 < i) = false := decide_eq_false (by omega)
            have HP1 : Hid (OSt (layV (some ⟨bB, offB, none⟩) nb cb bs (some ⟨bF, offF, none⟩) nf cf fs W1 H1 gL cL (lookAt lz tbl bs)) W gO gK (i + 1) (i + 1) (.slice A8 (i + 1) c8) KL wM) := by
              have h1 := HP.out
              subst hi0
              exact h1.skipK
            clear hi0
            go_wp2_with fail
            go_roundw
            case rel => exact ⟨i + 1, _, KL, by have := II.out; omega, by go_num, HP1.out⟩
            case measure => have := II.out; simp [intOf]; omega
          · have q0 : decide ((0 : Int) < (i : Int)) = true := decide_eq_true (by omega)
            have q0' : decide (0 < i) = true := decide_eq_true (by omega)
            have hpp := HGD.out.2.2.2.2 (by omega)
            obtain ⟨p, hpx⟩ : ∃ p : Nat, x.par = (p : Int) := ⟨x.par.toNat, by omega⟩
            have hpi : p < i := by omega
            have hpn : p < nf := by have := II.out; omega
            have HI0 : Hid (0 < i) := by show 0 < i; omega
            have HPN : Hid (p < (layV (some ⟨bB, offB, none⟩) nb cb bs (some ⟨bF, offF, none⟩) nf cf fs W1 H1 gL cL (lookAt lz tbl bs)).nf) := hpn
            have HPI : Hid ((layV (some ⟨bB, offB, none⟩) nb cb bs (some ⟨bF, offF, none⟩) nf cf fs W1 H1 gL cL (lookAt lz tbl bs)).par i = p) := by show _ = _; rw [HKDE.out.2.2, hpx]; rfl
            obtain ⟨AP, cP, hkp, hvp⟩ := HP.out.ki.own p hpn
            obtain ⟨np, hnp⟩ : ∃ x, x = (kidsTo (layV (some ⟨bB, offB, none⟩) nb cb bs (some ⟨bF, offF, none⟩) nf cf fs W1 H1 gL cL (lookAt lz tbl bs)) i p).length := ⟨_, rfl⟩
            rw [← hnp] at hkp hvp
            have hnpl : np ≤ i := by rw [hnp]; exact kidsTo_le (layV (some ⟨bB, offB, none⟩) nb cb bs (some ⟨bF, offF, none⟩) nf cf fs W1 H1 gL cL (lookAt lz tbl bs)) i p
            have HNP := Lib.hid hnp
            have HKP := Lib.hid hkp
            have HPAR : Hid (∀ w', Blk w' wr.heap.size 88 (fragC x) → w'.cell? ⟨wr.heap.size, 2, none⟩ = some (.int .i64 (p : Int))) := fun w' hF => by have := hF.cell 2; rw [this, ← hpx]; rfl
            have HOS := Lib.hid HP.out.drew
            have HVP := Lib.hid (own_drw hvp)
            have HFR := Lib.hid HFR.out.drew
            have hS0 : (fun w' : World => w'.cell? ⟨gO, 1, none⟩ = some (.slice (some ⟨gK, 0, none⟩) nf nf) ∧ w'.cell? ⟨wr.heap.size, 2, none⟩ = some (.int .i64 (p : Int)) ∧ w'.cell? ⟨gK, p, none⟩ = some (.slice AP np cP)) wM.drew := ⟨HOS.out.blk.cell 1, HPAR.out _ HFR.out, own_cell HOS.out.ka hkp⟩
            have hil : i < 1048576 := by have := II.out; omega
            clear hi0 hpp hpx hpi hnp hkp hvp HP
            go_wp2_with fail
            refine wp_region_noPanic ?_
            refine region_M (S := fun w' => w'.cell? ⟨gO, 1, none⟩ = some (.slice (some ⟨gK, 0, none⟩) nf nf) ∧ w'.cell? ⟨wr.heap.size, 2, none⟩ = some (.int .i64 (p : Int)) ∧ w'.cell? ⟨gK, p, none⟩ = some (.slice AP np cP)) (T := [18]) (by kernel_rfl) ?_
            generalize World.drew wM = wd at HOS HFR HVP hS0 ⊢
            refine anyM_free (i := 0) (oi := { dst := some 65, op := _, type := _, pos := _, after := _, guard := _ }) (v := ?_) rfl (by kernel_rfl) (fun _ _ _ h => h) (Or.inl ⟨by kernel_rfl, ?_⟩) (fun _ => hS0) ?_
            rotate_left 1
            · (intro w hSw; (try dsimp only at hSw); go_simp; try with_reducible rfl)
            try simp only [Act.put, Array.toArray_toList, List.setIfInBounds_toArray, List.set_cons_zero, List.set_cons_succ]
            refine anyM_free (i := 1) (oi := { dst := some 66, op := _, type := _, pos := _, after := _, guard := _ }) (v := ?_) rfl (by kernel_rfl) (fun _ _ _ h => h) (Or.inl ⟨by kernel_rfl, ?_⟩) (fun _ => hS0) ?_
            rotate_left 1
            · (intro w hSw; (try dsimp only at hSw); go_simp; try with_reducible rfl)
            try simp only [Act.put, Array.toArray_toList, List.setIfInBounds_toArray, List.set_cons_zero, List.set_cons_succ]
            refine anyM_free (i := 2) (oi := { dst := some 67, op := _, type := _, pos := _, after := _, guard := _ }) (v := ?_) rfl (by kernel_rfl) (fun _ _ _ h => h) (Or.inl ⟨by kernel_rfl, ?_⟩) (fun _ => hS0) ?_
            rotate_left 1
            · (intro w hSw; (try dsimp only at hSw); go_simp; try with_reducible rfl)
            try simp only [Act.put, Array.toArray_toList, List.setIfInBounds_toArray, List.set_cons_zero, List.set_cons_succ]
            refine anyM_take (i := 3) (oi := { dst := some 68, op := _, type := _, pos := _, after := _, guard := _ }) (v := ?_) rfl (by kernel_rfl) (fun _ _ _ h => h) (Or.inl ⟨by kernel_rfl, ?_⟩) hS0 ?_
            rotate_left 1
            · (intro w hSw; (try dsimp only at hSw); go_simp; try with_reducible rfl)
            try simp only [Act.put, Array.toArray_toList, List.setIfInBounds_toArray, List.set_cons_zero, List.set_cons_succ]
            refine anyM_free (i := 4) (oi := { dst := some 69, op := _, type := _, pos := _, after := _, guard := _ }) (v := ?_) rfl (by kernel_rfl) (fun _ _ _ h => h) (Or.inl ⟨by kernel_rfl, ?_⟩) (fun _ => hS0) ?_
            rotate_left 1
            · (intro w hSw; (try dsimp only at hSw); go_simp; try with_reducible rfl)
            try simp only [Act.put, Array.toArray_toList, List.setIfInBounds_toArray, List.set_cons_zero, List.set_cons_succ]
            refine anyM_take (i := 5) (oi := { dst := some 70, op := _, type := _, pos := _, after := _, guard := _ }) (v := ?_) rfl (by kernel_rfl) (fun _ _ _ h => h) (Or.inl ⟨by kernel_rfl, ?_⟩) hS0 ?_
            rotate_left 1
            · (intro w hSw; (try dsimp only at hSw); go_simp; try with_reducible rfl)
            try simp only [Act.put, Array.toArray_toList, List.setIfInBounds_toArray, List.set_cons_zero, List.set_cons_succ]
            refine anyM_free (i := 6) (oi := { dst := some 71, op := _, type := _, pos := _, after := _, guard := _ }) (v := ?_) rfl (by kernel_rfl) (fun _ _ _ h => h) (Or.inl ⟨by kernel_rfl, ?_⟩) (fun _ => hS0) ?_
            rotate_left 1
            · (intro w hSw; (try dsimp only at hSw); go_simp; try with_reducible rfl)
            try simp only [Act.put, Array.toArray_toList, List.setIfInBounds_toArray, List.set_cons_zero, List.set_cons_succ]
            refine anyM_free (i := 7) (oi := { dst := some 72, op := _, type := _, pos := _, after := _, guard := _ }) (v := ?_) rfl (by kernel_rfl) (fun _ _ _ h => h) (Or.inl ⟨by kernel_rfl, ?_⟩) (fun _ => hS0) ?_
            rotate_left 1
            · (intro w hSw; (try dsimp only at hSw); go_simp; try with_reducible rfl)
            try simp only [Act.put, Array.toArray_toList, List.setIfInBounds_toArray, List.set_cons_zero, List.set_cons_succ]
            refine anyM_free (i := 8) (oi := { dst := some 73, op := _, type := _, pos := _, after := _, guard := _ }) (v := ?_) rfl (by kernel_rfl) (fun _ _ _ h => h) (Or.inl ⟨by kernel_rfl, ?_⟩) (fun _ => hS0) ?_
            rotate_left 1
            · (intro w hSw; (try dsimp only at hSw); go_simp; try with_reducible rfl)
            try simp only [Act.put, Array.toArray_toList, List.setIfInBounds_toArray, List.set_cons_zero, List.set_cons_succ]
            refine anyM_take (i := 9) (oi := { dst := some 74, op := _, type := _, pos := _, after := _, guard := _ }) (v := ?_) rfl (by kernel_rfl) (fun _ _ _ h => h) (Or.inl ⟨by kernel_rfl, ?_⟩) hS0 ?_
            rotate_left 1
            · (intro w hSw; (try dsimp only at hSw); go_simp; try with_reducible rfl)
            try simp only [Act.put, Array.toArray_toList, List.setIfInBounds_toArray, List.set_cons_zero, List.set_cons_succ]
            refine anyM_free (i := 10) (oi := { dst := some 75, op := _, type := _, pos := _, after := _, guard := _ }) (v := ?_) rfl (by kernel_rfl) (fun _ _ _ h => h) (Or.inl ⟨by kernel_rfl, ?_⟩) (fun _ => hS0) ?_
            rotate_left 1
            · (intro w hSw; (try dsimp only at hSw); go_simp; try with_reducible rfl)
            try simp only [Act.put, Array.toArray_toList, List.setIfInBounds_toArray, List.set_cons_zero, List.set_cons_succ]
            refine anyM_take (i := 11) (oi := { dst := some 76, op := _, type := _, pos := _, after := _, guard := _ }) (v := ?_) rfl (by kernel_rfl) (fun _ _ _ h => h) (Or.inl ⟨by kernel_rfl, ?_⟩) hS0 ?_
            rotate_left 1
            · (intro w hSw; (try dsimp only at hSw); go_simp; try with_reducible rfl)
            try simp only [Act.put, Array.toArray_toList, List.setIfInBounds_toArray, List.set_cons_zero, List.set_cons_succ]
            refine anyM_free (i := 12) (oi := { dst := some 77, op := _, type := _, pos := _, after := _, guard := _ }) (v := ?_) rfl (by kernel_rfl) (fun _ _ _ h => h) (Or.inl ⟨by kernel_rfl, ?_⟩) (fun _ => hS0) ?_
            rotate_left 1
            · (intro w hSw; (try dsimp only at hSw); go_simp; try with_reducible rfl)
            try simp only [Act.put, Array.toArray_toList, List.setIfInBounds_toArray, List.set_cons_zero, List.set_cons_succ]
            refine anyM_take (i := 13) (oi := { dst := some 78, op := _, type := _, pos := _, after := _, guard := _ }) (v := ?_) rfl (by kernel_rfl) (fun _ _ _ h => h) (Or.inl ⟨by kernel_rfl, ?_⟩) hS0 ?_
            rotate_left 1
            · (intro w hSw; (try dsimp only at hSw); go_simp; try with_reducible rfl)
            try simp only [Act.put, Array.toArray_toList, List.setIfInBounds_toArray, List.set_cons_zero, List.set_cons_succ]
            refine anyM_free (i := 14) (oi := { dst := some 79, op := _, type := _, pos := _, after := _, guard := _ }) (v := ?_) rfl (by kernel_rfl) (fun _ _ _ h => h) (Or.inl ⟨by kernel_rfl, ?_⟩) (fun _ => hS0) ?_
            rotate_left 1
            · (intro w hSw; (try dsimp only at hSw); go_simp; try with_reducible rfl)
            try simp only [Act.put, Array.toArray_toList, List.setIfInBounds_toArray, List.set_cons_zero, List.set_cons_succ]
            refine anyM_one (i := 15) (by kernel_rfl) rfl (fun K hK => ?_)
            go_simp
            generalize hwx : World.alloc wd _ = wx
            have BX := Lib.hid (blk_neq hwx)
            have HBX := Lib.hid (below_aeq hwx (Below.refl _ _))
            have HOS := Lib.hid (HOS.out.below HBX.out)
            have HFR := Lib.hid (HFR.out.below HBX.out HFR.out.lt)
            have HVP := Lib.hid (own_below HVP.out HBX.out)
            have hS0 : (fun w' : World => w'.cell? ⟨gO, 1, none⟩ = some (.slice (some ⟨gK, 0, none⟩) nf nf) ∧ w'.cell? ⟨wr.heap.size, 2, none⟩ = some (.int .i64 (p : Int)) ∧ w'.cell? ⟨gK, p, none⟩ = some (.slice AP np cP)) wx := ⟨HOS.out.blk.cell 1, HPAR.out _ HFR.out, own_cell HOS.out.ka HKP.out⟩
            clear hwx
            refine hK.out _ _ (fun _ => hS0) ?_
            clear hK K
            try simp only [Act.put, Array.toArray_toList, List.setIfInBounds_toArray, List.set_cons_zero, List.set_cons_succ]
            refine anyM_one (i := 16) (by kernel_rfl) rfl (fun K hK => ?_)
            refine step_append_any (by rfl) _ _ 44 (by rfl) (W.heap.size) 3 i0 (.int .i64 0) 1 8 Tryz.underlying44 hia hza0 hza1 hza2 rfl (by decide) (.slice AP np cP) np (nums (kidsTo (layV (some ⟨bB, offB, none⟩) nb cb bs (some ⟨bF, offF, none⟩) nf cf fs W1 H1 gL cL (lookAt lz tbl bs)) i p)) (by rfl) HVP.out (some ⟨wd.heap.size, 0, none⟩) 1 1 (nums [i]) (by rfl) (by simp [nums]) (.inl ⟨_, 0, rfl, blk_one BX.out⟩) (nums_one _) (by unfold maxLen; omega) (by omega) HOS.out.bel.size ?_
            intro A9 c9 w9 o9 hg9 hat9
            rw [nums_append] at o9
            have HP := Lib.hid (HOS.out.pushK HI0.out HPN.out HPI.out HKP.out HNP.out HVP.out o9 hg9 hat9 ⟨A9, c9, rfl⟩)
            have hka9 := KeepT.own (KeepT.grown HVP.out hg9 (by decide)) HOS.out.ka
            have hS0 : (fun w' : World => w'.cell? ⟨gO, 1, none⟩ = some (.slice (some ⟨gK, 0, none⟩) nf nf) ∧ w'.cell? ⟨wr.heap.size, 2, none⟩ = some (.int .i64 (p : Int)) ∧ w'.cell? ⟨gK, p, none⟩ = some (.slice AP np cP)) w9 := ⟨(KeepT.blk (KeepT.grown HVP.out hg9 (by decide)) HOS.out.blk).cell 1, HPAR.out _ (KeepT.blk (KeepT.grown HVP.out hg9 (by decide)) HFR.out), own_cell hka9 HKP.out⟩
            have z1 : w9.frozen? ⟨gK, p, none⟩ = false := own_free hka9
            clear o9 hg9 hat9 hka9
            refine hK.out _ _ (fun _ => hS0) ?_
            clear hK K
            try simp only [Act.put, Array.toArray_toList, List.setIfInBounds_toArray, List.set_cons_zero, List.set_cons_succ]
            refine anyM_free (i := 17) (oi := { dst := some 82, op := _, type := _, pos := _, after := _, guard := _ }) (v := ?_) rfl (by kernel_rfl) (fun _ _ _ h => h) (Or.inl ⟨by kernel_rfl, ?_⟩) (fun _ => hS0) ?_
            rotate_left 1
            · (intro w hSw; (try dsimp only at hSw); go_simp; try with_reducible rfl)
            try simp only [Act.put, Array.toArray_toList, List.setIfInBounds_toArray, List.set_cons_zero, List.set_cons_succ]
            refine anyM_one (i := 18) (by kernel_rfl) rfl (fun K hK => ?_)
            go_simp
            refine hK.out _ _ (fun h => late_no h (by kernel_rfl)) ?_
            clear hK K
            try simp only [Act.put, Array.toArray_toList, List.setIfInBounds_toArray, List.set_cons_zero, List.set_cons_succ]
            refine anyM_done (by kernel_rfl) ?_ _
            refine NoPanic.normal ?_
            clear hS0 z1
            go_wp2_with fail
            go_roundw
            case rel => exact ⟨i + 1, _, _, by have := II.out; omega, by go_num, HP.out⟩
            case measure => have := II.out; simp [intOf]; omega
        · have e : nf = i := by omega
          subst e
          have hmk := HOS.out.mks
          obtain ⟨gM, cM', eM, hgM, hgMb⟩ := own_some hmk hnf0
          injection eM with e1 _ e3
          subst e1; subst e3
          have HOS := Lib.hid HOS.out.drew
          have HKS : Hid (KSt (layV (some ⟨bB, offB, none⟩) nb cb bs (some ⟨bF, offF, none⟩) nf cf fs W1 H1 gL cL (lookAt lz tbl bs)) wr.drew.heap.size gO gM cM gK nf (.slice none 0 0) (wr.drew.setCell ⟨gM, 0, none⟩ (.int .i64 (LayV.isF (layV (some ⟨bB, offB, none⟩) nb cb bs (some ⟨bF, offF, none⟩) nf cf fs W1 H1 gL cL (lookAt lz tbl bs)) 0)))) := HOS.out.done hnf0 HPAR0.out hm2
          obtain ⟨is0, his0⟩ : ∃ x, x = isK ((layV (some ⟨bB, offB, none⟩) nb cb bs (some ⟨bF, offF, none⟩) nf cf fs W1 H1 gL cL (lookAt lz tbl bs)).kd 0) ((layV (some ⟨bB, offB, none⟩) nb cb bs (some ⟨bF, offF, none⟩) nf cf fs W1 H1 gL cL (lookAt lz tbl bs)).st 0) := ⟨_, rfl⟩
          have hc0 : wr.drew.cell? ⟨gM, 0, none⟩ = some (.int .i64 is0) := by
            rw [his0]
            exact own_cell HOS.out.mks (rows_at (fun i => markR_len (layV (some ⟨bB, offB, none⟩) nb cb bs (some ⟨bF, offF, none⟩) nf cf fs W1 H1 gL cL (lookAt lz tbl bs)) i) (k := 0) (j := 0) hnf0 (by omega))
          have HIS : LayV.isF (layV (some ⟨bB, offB, none⟩) nb cb bs (some ⟨bF, offF, none⟩) nf cf fs W1 H1 gL cL (lookAt lz tbl bs)) 0 = max is0 1 := by rw [his0]; exact if_pos rfl
          rw [HIS] at HKS
          have qi : decide (nf < nf) = false := decide_eq_false (by omega)
          have hS0 : (fun w' : World => w'.cell? ⟨gO, 0, none⟩ = some (.slice (some ⟨gM, 0, none⟩) nf cM) ∧ w'.cell? ⟨gM, 0, none⟩ = some (.int .i64 is0)) wr.drew := ⟨HOS.out.blk.cell 0, hc0⟩
          have z : wr.drew.frozen? ⟨gM, 0, none⟩ = false := own_free HOS.out.mks
          have hgm : W.heap.size ≤ gM := (HOS.out.mks.lt gM rfl).1
          have HGM := Lib.hid hgm
          have HGO := Lib.hid HOS.out.go
          have HBD := Lib.hid HOS.out.bel
          have HBS := Lib.hid (below_set HOS.out.bel hgm (off := 0) (.int .i64 (max is0 1)))
          clear his0 hc0 HIS hlt hi hmk hgM hgMb hgm HGA HOS
          go_wp2_with fail
          refine wp_region_noPanic ?_
          refine region_M (S := fun w' => w'.cell? ⟨gO, 0, none⟩ = some (.slice (some ⟨gM, 0, none⟩) nf cM) ∧ w'.cell? ⟨gM, 0, none⟩ = some (.int .i64 is0)) (T := [14]) (by kernel_rfl) ?_
          generalize World.drew wr = wd at HKS HBS HBD hS0 z ⊢
          refine anyM_free (i := 0) (oi := { dst := some 84, op := _, type := _, pos := _, after := _, guard := _ }) (v := ?_) rfl (by kernel_rfl) (fun _ _ _ h => h) (Or.inl ⟨by kernel_rfl, ?_⟩) (fun _ => hS0) ?_
          rotate_left 1
          · (intro w hSw; (try dsimp only at hSw); go_simp; try with_reducible rfl)
          try simp only [Act.put, Array.toArray_toList, List.setIfInBounds_toArray, List.set_cons_zero, List.set_cons_succ]
          refine anyM_free (i := 1) (oi := { dst := some 85, op := _, type := _, pos := _, after := _, guard := _ }) (v := ?_) rfl (by kernel_rfl) (fun _ _ _ h => h) (Or.inl ⟨by kernel_rfl, ?_⟩) (fun _ => hS0) ?_
          rotate_left 1
          · (intro w hSw; (try dsimp only at hSw); go_simp; try with_reducible rfl)
          try simp only [Act.put, Array.toArray_toList, List.setIfInBounds_toArray, List.set_cons_zero, List.set_cons_succ]
          refine anyM_free (i := 2) (oi := { dst := some 86, op := _, type := _, pos := _, after := _, guard := _ }) (v := ?_) rfl (by kernel_rfl) (fun _ _ _ h => h) (Or.inl ⟨by kernel_rfl, ?_⟩) (fun _ => hS0) ?_
          rotate_left 1
          · (intro w hSw; (try dsimp only at hSw); go_simp; try with_reducible rfl)
          try simp only [Act.put, Array.toArray_toList, List.setIfInBounds_toArray, List.set_cons_zero, List.set_cons_succ]
          refine anyM_take (i := 3) (oi := { dst := some 87, op := _, type := _, pos := _, after := _, guard := _ }) (v := ?_) rfl (by kernel_rfl) (fun _ _ _ h => h) (Or.inl ⟨by kernel_rfl, ?_⟩) hS0 ?_
          rotate_left 1
          · (intro w hSw; (try dsimp only at hSw); go_simp; try with_reducible rfl)
          try simp only [Act.put, Array.toArray_toList, List.setIfInBounds_toArray, List.set_cons_zero, List.set_cons_succ]
          refine anyM_free (i := 4) (oi := { dst := some 88, op := _, type := _, pos := _, after := _, guard := _ }) (v := ?_) rfl (by kernel_rfl) (fun _ _ _ h => h) (Or.inl ⟨by kernel_rfl, ?_⟩) (fun _ => hS0) ?_
          rotate_left 1
          · (intro w hSw; (try dsimp only at hSw); go_simp; try with_reducible rfl)
          try simp only [Act.put, Array.toArray_toList, List.setIfInBounds_toArray, List.set_cons_zero, List.set_cons_succ]
          refine anyM_free (i := 5) (oi := { dst := some 89, op := _, type := _, pos := _, after := _, guard := _ }) (v := ?_) rfl (by kernel_rfl) (fun _ _ _ h => h) (Or.inl ⟨by kernel_rfl, ?_⟩) (fun _ => hS0) ?_
          rotate_left 1
          · (intro w hSw; (try dsimp only at hSw); go_simp; try with_reducible rfl)
          try simp only [Act.put, Array.toArray_toList, List.setIfInBounds_toArray, List.set_cons_zero, List.set_cons_succ]
          refine anyM_free (i := 6) (oi := { dst := some 90, op := _, type := _, pos := _, after := _, guard := _ }) (v := ?_) rfl (by kernel_rfl) (fun _ _ _ h => h) (Or.inl ⟨by kernel_rfl, ?_⟩) (fun _ => hS0) ?_
          rotate_left 1
          · (intro w hSw; (try dsimp only at hSw); go_simp; try with_reducible rfl)
          try simp only [Act.put, Array.toArray_toList, List.setIfInBounds_toArray, List.set_cons_zero, List.set_cons_succ]
          refine anyM_take (i := 7) (oi := { dst := some 91, op := _, type := _, pos := _, after := _, guard := _ }) (v := ?_) rfl (by kernel_rfl) (fun _ _ _ h => h) (Or.inl ⟨by kernel_rfl, ?_⟩) hS0 ?_
          rotate_left 1
          · (intro w hSw; (try dsimp only at hSw); go_simp; try with_reducible rfl)
          try simp only [Act.put, Array.toArray_toList, List.setIfInBounds_toArray, List.set_cons_zero, List.set_cons_succ]
          refine anyM_free (i := 8) (oi := { dst := some 92, op := _, type := _, pos := _, after := _, guard := _ }) (v := ?_) rfl (by kernel_rfl) (fun _ _ _ h => h) (Or.inl ⟨by kernel_rfl, ?_⟩) (fun _ => hS0) ?_
          rotate_left 1
          · (intro w hSw; (try dsimp only at hSw); go_simp; try with_reducible rfl)
          try simp only [Act.put, Array.toArray_toList, List.setIfInBounds_toArray, List.set_cons_zero, List.set_cons_succ]
          refine anyM_free (i := 9) (oi := { dst := some 93, op := _, type := _, pos := _, after := _, guard := _ }) (v := ?_) rfl (by kernel_rfl) (fun _ _ _ h => h) (Or.inl ⟨by kernel_rfl, ?_⟩) (fun _ => hS0) ?_
          rotate_left 1
          · (intro w hSw; (try dsimp only at hSw); go_simp; try with_reducible rfl)
          try simp only [Act.put, Array.toArray_toList, List.setIfInBounds_toArray, List.set_cons_zero, List.set_cons_succ]
          refine anyM_take (i := 10) (oi := { dst := some 94, op := _, type := _, pos := _, after := _, guard := _ }) (v := ?_) rfl (by kernel_rfl) (fun _ _ _ h => h) (Or.inl ⟨by kernel_rfl, ?_⟩) hS0 ?_
          rotate_left 1
          · (intro w hSw; (try dsimp only at hSw); go_simp; try with_reducible rfl)
          try simp only [Act.put, Array.toArray_toList, List.setIfInBounds_toArray, List.set_cons_zero, List.set_cons_succ]
          refine anyM_free (i := 11) (oi := { dst := some 95, op := _, type := _, pos := _, after := _, guard := _ }) (v := ?_) rfl (by kernel_rfl) (fun _ _ _ h => h) (Or.inl ⟨by kernel_rfl, ?_⟩) (fun _ => hS0) ?_
          rotate_left 1
          · (intro w hSw; (try dsimp only at hSw); go_simp; try with_reducible rfl)
          try simp only [Act.put, Array.toArray_toList, List.setIfInBounds_toArray, List.set_cons_zero, List.set_cons_succ]
          refine anyM_free (i := 12) (oi := { dst := some 96, op := _, type := _, pos := _, after := _, guard := _ }) (v := ?_) rfl (by kernel_rfl) (fun _ _ _ h => h) (Or.inl ⟨by kernel_rfl, ?_⟩) (fun _ => hS0) ?_
          rotate_left 1
          · (intro w hSw; (try dsimp only at hSw); go_simp; try with_reducible rfl)
          try simp only [Act.put, Array.toArray_toList, List.setIfInBounds_toArray, List.set_cons_zero, List.set_cons_succ]
          refine anyM_free (i := 13) (oi := { dst := some 97, op := _, type := _, pos := _, after := _, guard := _ }) (v := ?_) rfl (by kernel_rfl) (fun _ _ _ h => h) (Or.inl ⟨by kernel_rfl, ?_⟩) (fun _ => hS0) ?_
          rotate_left 1
          · (intro w hSw; (try dsimp only at hSw); go_simp; try with_reducible rfl)
          try simp only [Act.put, Array.toArray_toList, List.setIfInBounds_toArray, List.set_cons_zero, List.set_cons_succ]
          refine anyM_one (i := 14) (by kernel_rfl) rfl (fun K hK => ?_)
          go_simp
          refine hK.out _ _ (fun h => late_no h (by kernel_rfl)) ?_
          clear hK K
          try simp only [Act.put, Array.toArray_toList, List.setIfInBounds_toArray, List.set_cons_zero, List.set_cons_succ]
          refine anyM_done (by kernel_rfl) ?_ _
          refine NoPanic.normal ?_
          clear hS0
          have HP : Hid (PSt (layV (some ⟨bB, offB, none⟩) nb cb bs (some ⟨bF, offF, none⟩) nf cf fs W1 H1 gL cL (lookAt lz tbl bs)) wd.heap.size gO gM cM gK nf (.slice none 0 0) [] (wd.setCell ⟨gM, 0, none⟩ (.int .i64 (max is0 1)))) := ⟨HKS.out, World.ownsRow_nil _ _ _ _⟩
          have hsl := steps_le HLOKW.out hnf0
          have hsl : (layV (some ⟨bB, offB, none⟩) nb cb bs (some ⟨bF, offF, none⟩) nf cf fs W1 H1 gL cL (lookAt lz tbl bs)).steps.length ≤ nf := hsl
          have HC := Lib.hid (tell_calls (layV (some ⟨bB, offB, none⟩) nb cb bs (some ⟨bF, offF, none⟩) nf cf fs W1 H1 gL cL (lookAt lz tbl bs)) wd.heap.size gO gM cM gK nf nf 0 _ [] _ HP.out hnf0 (by show nf ≤ 0 + nf; omega) (by show 0 + (layV (some ⟨bB, offB, none⟩) nb cb bs (some ⟨bF, offF, none⟩) nf cf fs W1 H1 gL cL (lookAt lz tbl bs)).steps.length ≤ _; omega))
          clear z HKS
          generalize World.setCell wd _ _ = wS at HP HC HBS ⊢
          go_wp2_with (go_at_call 78; refine HC.out.mono ?_; rintro e w5 hpost; obtain ⟨rfl, v5, hT5, hF5, hO5⟩ := hpost; obtain ⟨A5, c5, rfl⟩ := own_open hT5.own; have s5 : w5.cell? ⟨gO, 2, none⟩ = some (.slice A5 _ c5) := hT5.k.blk.cell 2; have HT5 := Lib.hid hT5; have HF5 := Lib.hid hF5; clear hT5 hF5 hO5)
          go_ret2
          have e : stepsOf bs fs (lookAt lz tbl bs) = (layV (some ⟨bB, offB, none⟩) nb cb bs (some ⟨bF, offF, none⟩) nf cf fs W1 H1 gL cL (lookAt lz tbl bs)).steps := by unfold stepsOf; rw [HNF.out]; rfl
          have hWd : W.heap.size ≤ wS.heap.size := HBS.out.size
          refine ⟨.inl ⟨HOK.out, HLO.out, _, rfl, ?_⟩, ?_⟩
          · rw [e]
            have h5 := HT5.out.own
            rw [List.nil_append] at h5
            exact own_low h5 (Nat.le_trans HBW.out.size HBD.out.size)
          · exact below_then HBW.out (HBS.out.trans (HF5.out.under hWd HGO.out (fun k hk => by cases hk)))
    · have HLK : Hid (∀ X, Below w.heap.size w X → Calls Tryz.prog 18 #[.slice Ab nb cb, .slice Al nl cl] X fun e w' => e = .returned (.tuple #[.slice none 0 0, .int .i64 3]) ∧ Below X.heap.size X w') := fun X hX => (HLK.out X hX).mono fun e w' hh => by
        rcases hh with ⟨⟨v, _, _, ho⟩ | ⟨he, _⟩, hb⟩
        · exact absurd ho hlo
        · exact ⟨he, hb⟩
      go_enter Tryz.func39, Tryz.ntmps39
      go_wp2_with (first | (go_at_call 36; refine (HCK.out _ HBA.out).mono ?_; rintro e w1 ⟨rfl, hb1⟩; have HB1 := Lib.hid (below_then HBA.out hb1); have HL1 := Lib.hid (HLA.out.below hb1 HLA.out.lt); have l0 : w1.cell? ⟨w.heap.size, 0, none⟩ = some (.slice Ab nb cb) := HL1.out.cell 0; clear hb1) | (go_at_call 18; refine (HLK.out _ HB1.out).mono ?_; rintro e W ⟨rfl, hb2⟩; have HBW := Lib.hid (below_then HB1.out hb2); clear hb2))
      go_ret2
      exact ⟨.inr ⟨fun h => hlo h.2, rfl⟩, HBW.out⟩
  · have e3 := layE_no hok
    rw [e3] at HCK
    go_enter Tryz.func39, Tryz.ntmps39
    go_wp2_with (go_at_call 36; refine (HCK.out _ HBA.out).mono ?_; rintro e w1 ⟨rfl, hb1⟩; have HB1 := Lib.hid (below_then HBA.out hb1); clear hb1)
    go_ret2
    exact ⟨.inr ⟨fun h => hok h.1, rfl⟩, HB1.out⟩
end Go.Proofs.YtkmmlcnoeeaekaaGreatDoor
