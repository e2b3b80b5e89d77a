/- Several texts in one: PntD. -/
import Derived.Test.YtkmmlcnoeeaekaaGreatDoorPaintListM44
import Derived.Test.YtkmmlcnoeeaekaaGreatDoorPaintListM46
import Derived.Test.YtkmmlcnoeeaekaaGreatDoorPaintListM37
import Derived.Deep.Cut
import Derived.Deep.CutRange
import Derived.Deep.CutBlock
/- Contract of paint.List. -/
namespace Go.Proofs.YtkmmlcnoeeaekaaGreatDoor
open Go.RowKit
set_option linter.unusedVariables false
set_option linter.unusedSimpArgs false

def scrB (z : Int) : Bool := decide (1 ≤ z) && decide (z ≤ 4000)
def scrP (x y : Int) : Bool := scrB x && scrB y
theorem scr_calls (z : Int) (w : World) : Calls Tryz.prog 52 #[.int .i64 z] w fun e w' => e = .returned (.bool (scrB z)) ∧ w = w' := by
  by_cases h1 : 1 ≤ z
  · have q1 : decide (1 ≤ z) = true := decide_eq_true h1
    have HE : Hid (scrB z = decide (z ≤ 4000)) := by show _ = _; unfold scrB; rw [q1]; rfl
    clear h1
    go_enter Tryz.func52, Tryz.ntmps52
    go_wp2_with fail
    go_ret
    exact ⟨by rw [HE.out]; rfl, rfl⟩
  · have q1 : decide (1 ≤ z) = false := decide_eq_false h1
    have HE : Hid (scrB z = false) := by show _ = _; unfold scrB; rw [q1]; rfl
    clear h1
    go_enter Tryz.func52, Tryz.ntmps52
    go_wp2_with fail
    go_ret
    exact ⟨by rw [HE.out]; rfl, rfl⟩
theorem wpList_look {P : Program} {w : World} {ops : Array Oper} {rest : List Oper} {o : Oper} {a : Act} {Q : Exit → Act → World → Prop} (hgd : o.guard = none) (m x : Operand) (t : TypeId) (hop : o.op = Op.lookup t m x false) (b : Nat) (key v : Value)
    (hm : a.eval m = .map (some b)) (hx : a.eval x = key) (hrun : (Instr.lookup t (.map (some b)) key false).run P w = .ok v w) (h : wpList P ops Q rest (a.put o.dst v) w) : wpList P ops Q (o :: rest) a w := by
  refine wpList_plain hgd fun K' hK' => ?_
  unfold Oper.wp
  simp [execOp, hop, hm, hx, hrun, Result.andThen]
  exact hK' _ _ h
theorem node_wf {nl : Nat} (hm : nl ≤ 1048576) {x : BoxV} {i : Nat} (h : ¬ boxBad nl x i) : (Lit.int .i64 x.node).wf = true := by
  unfold boxBad at h
  exact WalkArith.wf_i64 (by omega)
theorem pRun_step (L : LayV) (ns : List (Nat × Nat)) (E : Nat → List Int) {k : Nat} (h : k < ns.length) : pRun L ns (ns.length - k) k E = (E k).map endC ++ ((pGr L ns k ++ (pFr L ns k ++ pCp L ns k)) ++ pRun L ns (ns.length - (k + 1)) (k + 1) (upd E (endAt ns k) (pCs L ns k ++ E (endAt ns k)))) := by
  unfold pRun
  rw [show ns.length - k = (ns.length - (k + 1)) + 1 from by omega, runE]
  rfl
theorem row_set {T : TypeId} {g : Nat} {cs : Array Value} (vals : Array Value) {w0 wb : World} (h : Blk wb g T cs) (hs : vals.size = cs.size) (hb : Below w0.heap.size w0 wb) (hg : w0.heap.size ≤ g) : wb.there g 0 vals.size ∧
    ∃ w2, wb.setCells g 0 vals.toList = w2 ∧ Blk w2 g T vals ∧ Below w0.heap.size w0 w2 ∧ ∀ g' t' cs', g' ≠ g → Blk wb g' t' cs' → Blk w2 g' t' cs' :=
  ⟨h.there _ (by rw [hs]; exact Nat.le_refl _), _, rfl, h.setAll vals hs, below_setCells hg _ _ _ hb, fun g' t' cs' hne h' => h'.farCells hne _ _ _⟩
/-- What paint.List answers. -/
def PListPost (ns0 : List NodeV) (bs : List BoxV) (fs : List FragV) (nl : Nat) (lz tbl : List Int) (L : LayV) (EW EH : Int) (w : World) (e : Ending) (w' : World) : Prop :=
  ((sfitsE ns0 nl lz ≠ 0 ∧ e = .returned (.tuple #[.slice none 0 0, .int .i64 (sfitsE ns0 nl lz)])) ∨
   (sfitsE ns0 nl lz = 0 ∧ scrP EW EH = false ∧ e = .returned (.tuple #[.slice none 0 0, .int .i64 1])) ∨
   (sfitsE ns0 nl lz = 0 ∧ scrP EW EH = true ∧ ¬ (LayOk bs fs ∧ LooksOk nl bs) ∧ e = .returned (.tuple #[.slice none 0 0, .int .i64 3])) ∨
   (sfitsE ns0 nl lz = 0 ∧ scrP EW EH = true ∧ LayOk bs fs ∧ LooksOk nl bs ∧ ∃ v, e = .returned (.tuple #[v, .int .i64 0]) ∧
     w'.ownsRow w.heap.size 64 9 v (pCmds L (stepsOf bs fs (lookAt lz tbl bs)) 0 (stepsOf bs fs (lookAt lz tbl bs)).length).length (cmds (pCmds L (stepsOf bs fs (lookAt lz tbl bs)) 0 (stepsOf bs fs (lookAt lz tbl bs)).length)))) ∧ Below w.heap.size w w'
set_option maxRecDepth 1000000 in
set_option maxHeartbeats 40000000 in
theorem plist_calls (A : Option Addr) (n c : Nat) (q : Bool) (ns0 : List NodeV) (Al : Option Addr) (nl cl : Nat) (lz tbl : List Int) (Ab : Option Addr) (nb cb : Nat) (bs : List BoxV) (Af : Option Addr) (nf cf : Nat) (fs : List FragV) (W1 H1 EW EH : Int) (ED EP : Bool) (w : World)
    (hn0 : ns0.length = n) (h1 : Nodes w w.heap.size A ns0) (hm1 : n ≤ 1048576) (hl : lz.length = nl * 118) (hn : bs.length = nb) (hf : fs.length = nf)
    (h : Boxes w w.heap.size Ab bs) (h2 : Frags w w.heap.size Af fs) (h3 : Holds w w.heap.size Al (ints lz)) (hT : TabAt w tbl) (h0 : 0 < w.heap.size) (h64 : In64 lz) (ht64 : In64 tbl) (hm : nb ≤ 1048576) (hm2 : nf ≤ 1048576) (hm3 : nl ≤ 1048576) (hfb : ∀ i, i < nf → FragB (fr fs i)) :
    Calls Tryz.prog 22 #[.agg #[.slice A n c, .bool q], .slice Al nl cl, .agg #[.int .i64 EW, .int .i64 EH, .bool ED, .bool EP], .agg #[.slice Ab nb cb, .slice Af nf cf, .int .i64 W1, .int .i64 H1]] w (PListPost ns0 bs fs nl lz tbl (layV Ab nb cb bs Af nf cf fs W1 H1 0 0 (lookAt lz tbl bs)) EW EH w) := by
  have mixed : Tryz.prog.follows .mixedOrders = true := by kernel_rfl
  obtain ⟨iI, hiI, hzI0, hzI1, hzI2⟩ := info_partsP info_intP
  obtain ⟨iC, hiC, hzC0, hzC1, hzC2⟩ := info_partsP info_cmdP
  obtain ⟨w0, hw0⟩ : ∃ w0, w0 = ((w.alloc (.cells #[.slice A n c, .bool q] 24)).alloc (.cells #[.int .i64 EW, .int .i64 EH, .bool ED, .bool EP] 56)).alloc (.cells #[.slice Ab nb cb, .slice Af nf cf, .int .i64 W1, .int .i64 H1] 42) := ⟨_, rfl⟩
  have hs1 : (w.alloc (.cells #[.slice A n c, .bool q] 24)).heap.size = w.heap.size + 1 := by simp
  have hs2 : ((w.alloc (.cells #[.slice A n c, .bool q] 24)).alloc (.cells #[.int .i64 EW, .int .i64 EH, .bool ED, .bool EP] 56)).heap.size = w.heap.size + 2 := by simp
  have HW : Hid (Below w.heap.size w w0) := by rw [hw0]; exact below_alloc (below_alloc (below_alloc (Below.refl _ _) _) _) _
  have HDD : Hid (Blk w0 w.heap.size 24 #[.slice A n c, .bool q]) := by rw [hw0]; exact ((Blk.new w _ _).alloc _).alloc _
  have HDE : Hid (Blk w0 (w.heap.size + 1) 56 #[.int .i64 EW, .int .i64 EH, .bool ED, .bool EP]) := by rw [hw0]; have := (Blk.new (w.alloc (.cells #[.slice A n c, .bool q] 24)) 56 #[.int .i64 EW, .int .i64 EH, .bool ED, .bool EP]).alloc (.cells #[.slice Ab nb cb, .slice Af nf cf, .int .i64 W1, .int .i64 H1] 42); rw [hs1] at this; exact this
  have HDL : Hid (Blk w0 (w.heap.size + 2) 42 #[.slice Ab nb cb, .slice Af nf cf, .int .i64 W1, .int .i64 H1]) := by rw [hw0]; have := Blk.new ((w.alloc (.cells #[.slice A n c, .bool q] 24)).alloc (.cells #[.int .i64 EW, .int .i64 EH, .bool ED, .bool EP] 56)) 42 #[.slice Ab nb cb, .slice Af nf cf, .int .i64 W1, .int .i64 H1]; rw [hs2] at this; exact this
  have HN2 : Hid (w.heap.size ≤ w0.heap.size) := HW.out.size
  have HN := Lib.hid (h1.below HW.out (Nat.le_refl _))
  have HB := Lib.hid (h.below HW.out (Nat.le_refl _))
  have HFR := Lib.hid (h2.below HW.out (Nat.le_refl _))
  have HLS := Lib.hid (h3.below HW.out (Nat.le_refl _))
  have HTB := Lib.hid (hT.below HW.out h0)
  have HFB := Lib.hid hfb
  have HL := Lib.hid hl
  have H64 := Lib.hid (And.intro h64 ht64)
  have HNB := Lib.hid (And.intro hn hf)
  have HN0 := Lib.hid hn0
  have HPOS := Lib.hid h0
  clear hs1 hs2 h1 h h2 h3 hT hfb hl h64 ht64 hn hf hn0 h0
  have HCK := Lib.hid (fun (ww : World) (hb : Below w0.heap.size w0 ww) => dcheck_calls A n c w.heap.size q ns0 ww HN0.out (HN.out.below hb HN2.out) (Nat.le_trans HN2.out hb.size) hm1)
  have HFI := Lib.hid (fun (ww : World) (hb : Below w0.heap.size w0 ww) => sfits_calls A n c w.heap.size q ns0 Al nl cl lz ww HN0.out (HN.out.below hb HN2.out) (Nat.le_trans HN2.out hb.size) hm1 HL.out (HLS.out.below hb HN2.out) hm3)
  have HSO := Lib.hid (fun h => sfits_of (ns := ns0) (nl := nl) (lz := lz) h)
  go_enter Tryz.func22, Tryz.ntmps22
  go_upto_region 1 with fail
  rw [← hw0]
  clear hw0
  have d0 : w0.cell? ⟨w.heap.size, 0, none⟩ = some (.slice A n c) := HDD.out.cell 0
  have d1 : w0.cell? ⟨w.heap.size, 1, none⟩ = some (.bool q) := HDD.out.cell 1
  by_cases g1 : checkE ns0 = 0
  · rw [g1] at HCK
    clear g1
    go_upto_region 4 with (go_at_call 26; refine (HCK.out _ (Below.refl _ _)).mono ?_; rintro e w1 ⟨rfl, hb1⟩; have HB1 := Lib.hid hb1; have d0 : w1.cell? ⟨w.heap.size, 0, none⟩ = some (.slice A n c) := (HDD.out.below hb1 HDD.out.lt).cell 0; have d1 : w1.cell? ⟨w.heap.size, 1, none⟩ = some (.bool q) := (HDD.out.below hb1 HDD.out.lt).cell 1; clear hb1)
    by_cases g2 : sfitsE ns0 nl lz = 0
    · have G2 := Lib.hid g2
      rw [g2] at HFI
      clear g2 HSO HCK
      go_upto_region 7 with (go_at_call 27; refine (HFI.out _ HB1.out).mono ?_; rintro e w2 ⟨rfl, hb2⟩; have HB2 := Lib.hid (below_then HB1.out hb2); clear hb2)
      clear d0 d1 HFI
      have e0 : w2.cell? ⟨w.heap.size + 1, 0, none⟩ = some (.int .i64 EW) := (HDE.out.below HB2.out HDE.out.lt).cell 0
      have e1 : w2.cell? ⟨w.heap.size + 1, 1, none⟩ = some (.int .i64 EH) := (HDE.out.below HB2.out HDE.out.lt).cell 1
      have HSW := Lib.hid (fun (ww : World) => scr_calls EW ww)
      have HSH := Lib.hid (fun (ww : World) => scr_calls EH ww)
      obtain ⟨sw, hsw⟩ : ∃ sw, sw = scrB EW := ⟨_, rfl⟩
      obtain ⟨sh, hsh⟩ : ∃ sh, sh = scrB EH := ⟨_, rfl⟩
      rw [← hsw] at HSW
      rw [← hsh] at HSH
      have HSC : Hid (scrP EW EH = (sw && sh)) := by show _ = _; rw [hsw, hsh]; rfl
      clear hsw hsh
      cases sw
      · go_wp2_with (go_at_call 52; refine (HSW.out _).mono ?_; rintro e w' ⟨rfl, rfl⟩)
        go_ret2
        exact ⟨.inr (.inl ⟨G2.out, HSC.out, rfl⟩), below_then HW.out HB2.out⟩
      cases sh
      · go_wp2_with (go_at_call 52; first | (refine (HSW.out _).mono ?_; rintro e w' ⟨rfl, rfl⟩) | (refine (HSH.out _).mono ?_; rintro e w' ⟨rfl, rfl⟩))
        go_ret2
        exact ⟨.inr (.inl ⟨G2.out, HSC.out, rfl⟩), below_then HW.out HB2.out⟩
      go_upto_region 9 with (go_at_call 52; first | (refine (HSW.out _).mono ?_; rintro e w' ⟨rfl, rfl⟩) | (refine (HSH.out _).mono ?_; rintro e w' ⟨rfl, rfl⟩))
      clear e0 e1 HSW HSH
      have d0 : w2.cell? ⟨w.heap.size + 2, 0, none⟩ = some (.slice Ab nb cb) := (HDL.out.below HB2.out HDL.out.lt).cell 0
      have d1 : w2.cell? ⟨w.heap.size + 2, 1, none⟩ = some (.slice Af nf cf) := (HDL.out.below HB2.out HDL.out.lt).cell 1
      have d2 : w2.cell? ⟨w.heap.size + 2, 2, none⟩ = some (.int .i64 W1) := (HDL.out.below HB2.out HDL.out.lt).cell 2
      have d3 : w2.cell? ⟨w.heap.size + 2, 3, none⟩ = some (.int .i64 H1) := (HDL.out.below HB2.out HDL.out.lt).cell 3
      have HOR := Lib.hid (order_calls Al nl cl lz tbl Ab nb cb bs Af nf cf fs W1 H1 w2 HL.out HNB.out.1 HNB.out.2 ((HB.out.below HB2.out HN2.out).more' (Nat.le_trans HN2.out HB2.out.size)) (Holds.more (HFR.out.below HB2.out HN2.out) (Nat.le_trans HN2.out HB2.out.size)) ((HLS.out.below HB2.out HN2.out).more (Nat.le_trans HN2.out HB2.out.size)) (HTB.out.below HB2.out (Nat.lt_of_lt_of_le HPOS.out HN2.out)) (Nat.lt_of_lt_of_le HPOS.out (Nat.le_trans HN2.out HB2.out.size)) H64.out.1 H64.out.2 hm hm2 hm3)
      by_cases gok : LayOk bs fs ∧ LooksOk nl bs
      · obtain ⟨ns, hns⟩ : ∃ ns, ns = stepsOf bs fs (lookAt lz tbl bs) := ⟨_, rfl⟩
        have HNS := Lib.hid hns
        have HOY : Hid (Calls Tryz.prog 39 #[.slice Al nl cl, .agg #[.slice Ab nb cb, .slice Af nf cf, .int .i64 W1, .int .i64 H1]] w2 fun e w' => ∃ A' c', e = .returned (.tuple #[.slice A' ns.length c', .int .i64 0]) ∧ w'.ownsRow w2.heap.size 94 2 (.slice A' ns.length c') ns.length (steps ns) ∧ Below w2.heap.size w2 w') := by
          refine HOR.out.mono ?_
          rintro e w' ⟨hp, hb⟩
          rcases hp with ⟨_, _, v, rfl, ho⟩ | ⟨hno, _⟩
          · rw [← hns] at ho
            obtain ⟨A', c', rfl⟩ := own_open ho
            exact ⟨A', c', rfl, ho, hb⟩
          · exact absurd gok hno
        have HNBP : Hid (0 < nb ∧ 0 < nf) := by
          have h1 := gok.1.2
          have h2 := h1.2.1
          have h3 := h1.1 0 h2
          have h4 := h3.1
          have h5 := h3.2.1
          show _ ∧ _
          rw [← HNB.out.1, ← HNB.out.2]
          exact ⟨by omega, h2⟩
        have GOK := Lib.hid gok
        have HLC : Hid (∀ ww, Below w2.heap.size w2 ww → Calls Tryz.prog 18 #[.slice Ab nb cb, .slice Al nl cl] ww fun e w' => ∃ gL cL, e = .returned (.tuple #[.slice (some ⟨gL, 0, none⟩) nb cL, .int .i64 0]) ∧ w'.ownsRow ww.heap.size 35 118 (.slice (some ⟨gL, 0, none⟩) nb cL) nb (rows nb (lookRow lz tbl bs)) ∧ Below ww.heap.size ww w') := by
          intro ww hb
          have hb2 := below_then HB2.out hb
          refine (looks_calls Ab nb cb bs Al nl cl lz tbl w.heap.size ww HNB.out.1 HL.out (HB.out.below hb2 HN2.out) (HLS.out.below hb2 HN2.out) (HTB.out.below hb2 (Nat.lt_of_lt_of_le HPOS.out HN2.out)) (Nat.le_trans HN2.out hb2.size) HPOS.out hm hm3).mono ?_
          rintro e w' ⟨hp, hb3⟩
          rcases hp with ⟨v, rfl, ho, _⟩ | ⟨_, hno⟩
          · obtain ⟨g, cap, rfl, _, _⟩ := own_some ho HNBP.out.1
            exact ⟨g, cap, rfl, ho, hb3⟩
          · exact absurd GOK.out.2 hno
        clear gok hns HOR
        go_upto_region 12 with (go_at_call 39; refine HOY.out.mono ?_; rintro e w3 ⟨A', c', rfl, ho, hb3⟩; have HST := Lib.hid ho; have HB3 := Lib.hid hb3; have d0 : w3.cell? ⟨w.heap.size + 2, 0, none⟩ = some (.slice Ab nb cb) := (HDL.out.below (below_then HB2.out hb3) HDL.out.lt).cell 0; clear ho hb3)
        clear d1 d2 d3
        go_upto_region 13 with (go_at_call 18; refine (HLC.out _ HB3.out).mono ?_; rintro e w4 ⟨gL, cL, rfl, ho, hb4⟩; have HLO := Lib.hid ho; have HB4 := Lib.hid hb4; clear ho hb4)
        clear d0 HLC HOY
        have HB24 := Lib.hid (below_then HB2.out (below_then HB3.out HB4.out))
        have HOK := Lib.hid (layV_ok (Ab := Ab) (cb := cb) (Af := Af) (cf := cf) (W1 := W1) (H1 := H1) HNB.out.1 HNB.out.2 ((HB.out.below HB24.out HN2.out).more' (Nat.le_trans HN2.out HB24.out.size)) (Holds.more (HFR.out.below HB24.out HN2.out) (Nat.le_trans HN2.out HB24.out.size)) HLO.out H64.out.1 H64.out.2 GOK.out.1 hm hm2)
        have HSTP := Lib.hid (Holds.of_own (own_below HST.out HB4.out))
        have HDL4 := Lib.hid (HDL.out.below HB24.out HDL.out.lt)
        have HW4 := Lib.hid (below_then HW.out HB24.out)
        clear HB3 HB4 HB1 HB2
        obtain ⟨L, hL⟩ : ∃ L, L = layV Ab nb cb bs Af nf cf fs W1 H1 gL cL (lookAt lz tbl bs) := ⟨_, rfl⟩
        rw [← hL] at HOK
        have HLL := Lib.hid hL
        have HLAM : Hid (Lam ns 0) := by rw [HNS.out]; exact steps_lam _ _ _
        have HFLT : Hid (∀ k, k < ns.length → hF ns k < nf) := fun k hk => by
          have := steps_in bs fs (lookAt lz tbl bs) (by rw [HNB.out.2]; exact HNBP.out.2) (k := k) (by rw [← HNS.out]; exact hk)
          rw [← HNS.out, HNB.out.2] at this
          exact this
        have hns0 : ns.length ≤ 1048576 := by
          have h1 : L.steps.length ≤ L.nf := steps_le HOK.out (by rw [hL]; exact HNBP.out.2)
          have h2 : L.steps = ns := by
            rw [hL, HNS.out]
            show tellN _ nf 0 0 = tellN _ fs.length 0 0
            rw [HNB.out.2]
            rfl
          rw [h2] at h1
          rw [hL] at h1
          exact Nat.le_trans h1 hm2
        clear hL
        obtain ⟨w1, rfl⟩ : ∃ w1, w1 = w4 := ⟨_, rfl⟩
        obtain rfl : gL = L.gL := by rw [HLL.out]; rfl
        obtain rfl : nb = L.nb := by rw [HLL.out]; rfl
        obtain rfl : cL = L.cl := by rw [HLL.out]; rfl
        have HLN : Hid (L.nf = nf ∧ L.fs = fs) := by show _ ∧ _; rw [HLL.out]; exact ⟨rfl, rfl⟩
        have HFLT : Hid (∀ k, k < ns.length → hF ns k < L.nf) := by show ∀ k, _; rw [HLN.out.1]; exact HFLT.out
        have HFB : Hid (∀ i, i < L.nf → FragB (fr L.fs i)) := by show ∀ i, _; rw [HLN.out.1, HLN.out.2]; exact HFB.out
        have hAf0 : ∃ bF offF, L.Af = some ⟨bF, offF, none⟩ := by
          obtain ⟨b, off, hA', _⟩ := Frags.at_ HOK.out.frags (k := 0) (by rw [HOK.out.hf, HLN.out.1]; exact HNBP.out.2)
          exact ⟨b, off, hA'⟩
        obtain ⟨bF, offF, hAf⟩ := hAf0
        have hAb0 : ∃ bB offB, L.Ab = some ⟨bB, offB, none⟩ := by
          have h9 := (HOK.out.bi_lt (k := 0) (by rw [HLN.out.1]; exact HNBP.out.2)).1
          obtain ⟨b, off, hA', _⟩ := Boxes.at_ HOK.out.boxes (i := L.bi 0) (by rw [HOK.out.hb]; exact h9)
          exact ⟨b, off, hA'⟩
        obtain ⟨bB, offB, hAb⟩ := hAb0
        obtain ⟨gY, hgY⟩ : ∃ gY, gY = w.heap.size + 2 := ⟨_, rfl⟩
        have HDB1 : Hid (Blk w1 gY 42 #[.slice (some ⟨bB, offB, none⟩) L.nb L.cb, .slice (some ⟨bF, offF, none⟩) L.nf L.cf, .int .i64 L.W1, .int .i64 L.H1]) := by
          have h9 : Blk w1 gY 42 #[.slice L.Ab L.nb L.cb, .slice L.Af L.nf L.cf, .int .i64 L.W1, .int .i64 L.H1] := by rw [hgY, HLL.out]; exact HDL4.out
          rw [hAf, hAb] at h9
          exact h9
        rw [← hgY]
        have HAF := Lib.hid hAf
        have HAB := Lib.hid hAb
        have HOK2 := HOK
        have HSP := HSTP
        have HSH := Lib.hid (shut_of_lam HLAM.out)
        have htt0 := pCmds_len L ns HSH.out
        have hrun := pRun_is L HLAM.out
        obtain ⟨TT, hTT⟩ : ∃ TT, TT = pCmds L ns 0 ns.length := ⟨_, rfl⟩
        rw [← hTT] at htt0 hrun
        have htl : TT.length ≤ 9437184 := by
          have h2 : (ns.length - 0) * 9 ≤ 1048576 * 9 := Nat.mul_le_mul_right _ (by omega)
          omega
        have HTT := Lib.hid hTT
        have HRUN := Lib.hid hrun
        have HNODE : Hid (∀ k, k < ns.length → (Lit.int .i64 (fr L.fs (hF ns k)).node).wf = true) := fun k hk => by
          have h1 := HFLT.out k hk
          rw [HLN.out.1] at h1
          rw [HLN.out.2]
          obtain ⟨h2, h3, h4, _⟩ := GOK.out.1.2.1 (hF ns k) (by rw [HNB.out.2]; exact h1)
          have h5 := GOK.out.2 (fr fs (hF ns k)).box.toNat (by omega)
          rw [h4]
          exact node_wf hm3 h5
        clear hAf hAb hgY HOK HSTP hTT htt0 hrun HB24 HDL4 HLO HDD HDE HDL HN HB HFR HLS HTB HL H64 HN0 HPOS HST
        have hmm := @run_makeMap Tryz.prog
        go_upto_region 15 with fail
        have HPL := Lib.hid (plst_made w1)
        have HB3 := Lib.hid (below_alloc (below_alloc (below_alloc (Below.refl w1.heap.size w1) (.cells #[.slice none 0 0] 57)) (.map #[] 0)) (.cells #[.map (some (w1.heap.size + 1))] 108))
        generalize World.alloc (World.alloc (World.alloc w1 _) _) _ = w3 at HPL HB3 ⊢
        generalize w1.heap.size + 1 + 1 = gE at HPL ⊢
        generalize w1.heap.size + 1 = M at HPL ⊢
        clear hmm
        go_wp2_with fail
        go_loopw [18] (fun i wr => ∃ (k : Nat) (AO : Option Addr) (nO cO : Nat) (l : List CmdV) (m : Nat) (D : DataW Unit) (E : Nat → List Int), k ≤ ns.length ∧ m ≤ 2 * k ∧ i = .int .i64 (k : Nat) ∧ Hid (PLst w1.heap.size w1.heap.size gE M AO nO cO l m D E wr) ∧ Hid (Below w1.heap.size w1 wr) ∧ Hid (TT = l ++ pRun L ns (ns.length - k) k E)) (fun i _ => ns.length + 1 - (intOf i).toNat)
        case atStart => exact ⟨0, none, 0, 0, [], 0, _, _, Nat.zero_le _, Nat.le_refl _, rfl, HPL.out, HB3.out, by show _ = _; rw [List.nil_append, Nat.sub_zero]; exact HRUN.out.symm⟩
        case round =>
          obtain ⟨k, AO, nO, cO, l, m, D, E, hk, hmk, rfl, HP, HBE, HACC⟩ := hrel
          have hnO : nO ≤ 9437184 := by
            have h1 := congrArg List.length HACC.out
            have h2 := HP.out.hl
            rw [List.length_append] at h1
            omega
          obtain ⟨v, zs, hlook, hat, hoi, hzl, _⟩ := groups_look HP.out.groups endsLaw underlyingEnds endsZero (by unfold maxLen; omega) (Maps.keyOf_int_mk Tryz.underlying3 (WalkArith.wf_i64 (n := (k : Int)) (by omega)))
          have hz : zs = E k := ends_at HP.out.ends hoi hat
          obtain ⟨AV, cV, rfl⟩ := own_open hoi.1
          have HLK := Lib.hid hlook
          have HOI := Lib.hid hoi
          have HZ := Lib.hid hz
          have hzm : zs.length ≤ 2097152 := by omega
          have e0 : wr.cell? ⟨gE, 0, none⟩ = some (.map (some M)) := HP.out.map.cell 0
          clear hlook hat hoi hz hzl
          go_wp2_with (at_lookup; refine wpList_look rfl _ _ _ rfl M _ _ rfl rfl (HLK.out _ rfl) ?_)
          go_loopw [75] (fun i wj => ∃ (j : Nat) (AO' : Option Addr) (n' c' : Nat) (l' : List CmdV), j ≤ zs.length ∧ n' ≤ 9437184 + j ∧ i = .int .i64 (j : Nat) ∧ Hid (PLst w1.heap.size w1.heap.size gE M AO' n' c' l' m D E wj) ∧ Hid (Below w1.heap.size w1 wj) ∧ Hid (wj.ownsInts (M + 1) 3 .i64 (.slice AV zs.length cV) zs) ∧ Hid (l' = l ++ (zs.take j).map endC)) (fun i _ => zs.length - (intOf i).toNat)
          case atStart => exact ⟨0, AO, nO, cO, l, Nat.zero_le _, by omega, rfl, HP.out, HBE.out, HOI.out, by show _ = _; simp⟩
          case round =>
            obtain ⟨j, AO2, n2, c2, l2, hj, hn2, rfl, HP2, HBE2, HOI2, HL2⟩ := hrel
            by_cases hlt : j < zs.length
            · obtain ⟨g, cap, hgv, _, _⟩ := own_some HOI2.out.1 (by omega)
              injection hgv with hgv1 hgn hgc
              subst hgv1
              clear hgn hgc
              obtain ⟨z, hz⟩ : ∃ z, z = zs.getD j 0 := ⟨_, rfl⟩
              have z0 : wr.cell? ⟨g, j, none⟩ = some (.int .i64 z) := (row_at HOI2.out.1).1 j _ (by rw [hz]; simp [List.getD, hlt])
              have hsn : zs.take (j + 1) = zs.take j ++ [z] := by rw [List.take_succ_eq_append_getElem hlt, hz]; simp [List.getD, hlt]
              have HSN := Lib.hid hsn
              clear hz hsn
              have HPA := Lib.hid (HP2.out.below (below_alloc (Below.refl wr.heap.size wr) (.cells #[.int .i64 5, .int .i64 z, .int .i64 0, .int .i64 0, .int .i64 0, .int .i64 0, .int .i64 0, .int .i64 0, .string ⟨#[]⟩] 64)))
              have HNB9 := Lib.hid (Blk.new wr 64 #[.int .i64 5, .int .i64 z, .int .i64 0, .int .i64 0, .int .i64 0, .int .i64 0, .int .i64 0, .int .i64 0, .string ⟨#[]⟩])
              have HOA := Lib.hid (HOI2.out.alloc (.cells #[.int .i64 5, .int .i64 z, .int .i64 0, .int .i64 0, .int .i64 0, .int .i64 0, .int .i64 0, .int .i64 0, .string ⟨#[]⟩] 64))
              have HBA := Lib.hid (below_alloc HBE2.out (.cells #[.int .i64 5, .int .i64 z, .int .i64 0, .int .i64 0, .int .i64 0, .int .i64 0, .int .i64 0, .int .i64 0, .string ⟨#[]⟩] 64))
              have o0 : wr.cell? ⟨w1.heap.size, 0, none⟩ = some (.slice AO2 n2 c2) := HP2.out.out.cell 0
              go_wp2_with (at_builtin; refine wpList_append_any rfl _ _ 57 rfl w1.heap.size 64 iC (.agg #[.int .i64 0, .int .i64 0, .int .i64 0, .int .i64 0, .int .i64 0, .int .i64 0, .int .i64 0, .int .i64 0, .string ⟨#[]⟩]) 9 80 Tryz.underlying57 hiC hzC0 hzC1 hzC2 rfl (by decide) (.slice AO2 n2 c2) n2 (cmds l2) rfl HPA.out.own (some ⟨wr.heap.size, 0, none⟩) 1 1 (cmdF (endC z)) rfl rfl (.inl ⟨wr.heap.size, 0, rfl, fun j u hj => by rw [Nat.zero_add, HNB9.out.cell j]; simpa [cmdF, endC] using hj⟩) (cmdF_oneP _) (by unfold maxLen; omega) (by omega) HPA.out.bw ?_; intro A9 c9 w9 ho9 hg9 hat9; have HT := Lib.hid (HPA.out.told (ls := [endC z]) (m := 1) rfl (by simpa [cmds] using ho9) hg9); have HRW := Lib.hid (own_heap HOA.out.1 (fun g h => hg9.block g ((HOA.out.1.lt g h).2) (fun hh => (own_far HOA.out.1 HPA.out.own (by decide)).elim (fun h1 => by rw [h1] at h; cases h) (fun h1 => h1 (h.trans hh))))); have q0 : w9.cell? ⟨w1.heap.size, 0, none⟩ = some (.slice AO2 n2 c2) := (blk_grown HPA.out.out hg9 (blk_ne HPA.out.out HPA.out.own (by decide))).cell 0; have f0 : w9.frozen? ⟨w1.heap.size, 0, none⟩ = false := (blk_grown HPA.out.out hg9 (blk_ne HPA.out.out HPA.out.own (by decide))).free 0; have HO9 := Lib.hid (blk_grown HPA.out.out hg9 (blk_ne HPA.out.out HPA.out.own (by decide))); clear ho9 hg9 hat9)
              go_round
              case rel => exact ⟨j + 1, A9, n2 + 1, c9, _, by omega, by omega, by go_num, HT.out.1, HBA.out.trans HT.out.2.2, ⟨own_setFar HRW.out (blk_ne HO9.out HRW.out (by decide)), HOI2.out.2⟩, by show _ = _; rw [HL2.out, HSN.out]; simp⟩
              case measure => simp [intOf]; omega
            · obtain rfl : j = zs.length := by omega
              rw [List.take_length] at HL2
              have o0 : wr.cell? ⟨w1.heap.size, 0, none⟩ = some (.slice AO2 n2 c2) := HP2.out.out.cell 0
              by_cases hkn : k = ns.length
              · have q2 : ((k : Int) == (ns.length : Int)) = true := by simp [hkn]
                have HKN := Lib.hid hkn
                clear hkn
                go_wp2_with fail
                go_ret2
                have ht2 : TT = l2 := by
                  rw [HACC.out, HL2.out, HZ.out, HKN.out, Nat.sub_self]
                  rfl
                have ht3 : l2 = pCmds (layV Ab L.nb cb bs Af nf cf fs W1 H1 0 0 (lookAt lz tbl bs)) (stepsOf bs fs (lookAt lz tbl bs)) 0 (stepsOf bs fs (lookAt lz tbl bs)).length := by
                  rw [← ht2, HTT.out, ← HNS.out, HLL.out]
                  rfl
                refine ⟨.inr (.inr (.inr ⟨G2.out, HSC.out, GOK.out.1, GOK.out.2, _, rfl, ?_⟩)), below_then HW4.out HBE2.out⟩
                rw [← ht3, HP2.out.hl]
                exact own_baseP HP2.out.own HW4.out.size
              · have q2 : ((k : Int) == (ns.length : Int)) = false := by simp; omega
                have hlt2 : k < ns.length := by omega
                clear hkn hlt
                go_upto_region 24 with fail
                have hAs : ∃ bS offS, A' = some ⟨bS, offS, none⟩ := by
                  obtain ⟨b, off, e, _⟩ := step_cells HSP.out hlt2
                  exact ⟨b, off, e⟩
                obtain ⟨bS, offS, rfl⟩ := hAs
                have HKL := Lib.hid hlt2
                obtain ⟨ltS, _, _⟩ := step_at HSP.out hlt2
                have hgf0 := frag_at HOK2.out HAF.out (HFLT.out k hlt2)
                have hbx0 := box_at HOK2.out HAB.out hgf0.2.1
                have HLT : Hid (gY < w1.heap.size ∧ bS < w1.heap.size ∧ bF < w1.heap.size ∧ bB < w1.heap.size ∧ L.gL < w1.heap.size) := ⟨HDB1.out.lt, ltS, hgf0.1, hbx0.1, HOK2.out.gl⟩
                clear ltS hgf0 hbx0 o0
                obtain ⟨_, hs0, hs1⟩ := step_at HSP.out HKL.out
                obtain ⟨fk, hfk⟩ : ∃ f, f = hF ns k := ⟨_, rfl⟩
                rw [← hfk] at hs0
                have hfn : fk < L.nf := by rw [hfk]; exact HFLT.out k HKL.out
                obtain ⟨_, fmk, hc0, hc1, hc2, hc3, hc4, hc5, hc6, hc7⟩ := frag_at HOK2.out HAF.out hfn
                obtain ⟨mk, hmk⟩ : ∃ m, m = L.bi fk := ⟨_, rfl⟩
                obtain ⟨fgk, hfgk⟩ : ∃ fg, fg = fr L.fs fk := ⟨_, rfl⟩
                rw [← hmk] at hc0 fmk
                rw [← hfgk] at hc1 hc2 hc3 hc4 hc5 hc6 hc7
                have HBXk : Hid (fgk.box = (mk : Int)) := by show _ = _; rw [hfgk, hmk]; exact (HOK2.out.bi_lt hfn).2
                obtain ⟨_, hk0⟩ := box_at HOK2.out HAB.out fmk
                obtain ⟨kdk, hkdk⟩ : ∃ kd, kd = (bx L.bs mk).kind := ⟨_, rfl⟩
                rw [← hkdk] at hk0
                obtain ⟨zk, hzk⟩ : ∃ z, z = L.lk mk := ⟨_, rfl⟩
                have hlzk : zk.length = 118 := by rw [hzk]; exact HOK2.out.len _
                have hlook := HOK2.out.looks mk fmk
                rw [← hzk] at hlook
                have HFAk : Hid (hF ns k = fk ∧ fr L.fs fk = fgk ∧ L.st fk = zk ∧ L.kd fk = kdk ∧ zk.length = 118 ∧ fk < L.nf ∧ FragB fgk) := ⟨hfk.symm, hfgk.symm, by unfold LayV.st; rw [← hmk, hzk], by unfold LayV.kd; rw [← hmk, hkdk], hlzk, hfn, by rw [hfgk]; exact HFB.out _ hfn⟩
                have HSZk : Hid ((Tryz.prog.info? 35).map (·.size) = some (sty zk).toList.length) := by show _ = _; rw [Array.length_toList, sty_size, hlzk]; kernel_rfl
                have HLAk := Lib.hid (sty_laid zk hlzk)
                have HSK : Hid (∀ Y : World, Below w1.heap.size w1 Y → (fun w' : World => w'.cell? ⟨gY, 1, none⟩ = some (.slice (some ⟨bF, offF, none⟩) L.nf L.cf) ∧ w'.cell? ⟨bS, offS + k * 2, none⟩ = some (.int .i64 fk) ∧ w'.cell? ⟨bF, offF + fk * 8, none⟩ = some (.int .i64 mk) ∧ w'.cell? ⟨bF, offF + fk * 8 + 1, none⟩ = some (.int .i64 fgk.node) ∧ w'.cell? ⟨bF, offF + fk * 8 + 2, none⟩ = some (.int .i64 fgk.par) ∧ w'.cell? ⟨bF, offF + fk * 8 + 3, none⟩ = some (.int .i64 fgk.x) ∧ w'.cell? ⟨bF, offF + fk * 8 + 4, none⟩ = some (.int .i64 fgk.y) ∧ w'.cell? ⟨bF, offF + fk * 8 + 5, none⟩ = some (.int .i64 fgk.w) ∧ w'.cell? ⟨bF, offF + fk * 8 + 6, none⟩ = some (.int .i64 fgk.h) ∧ w'.cell? ⟨bF, offF + fk * 8 + 7, none⟩ = some (.string fgk.text)) Y) := fun Y hY => ⟨(hY.cell (p := ⟨gY, 1, none⟩) HLT.out.1).trans (HDB1.out.cell 1), (hY.cell (p := ⟨bS, offS + k * 2, none⟩) HLT.out.2.1).trans hs0, (hY.cell (p := ⟨bF, offF + fk * 8, none⟩) HLT.out.2.2.1).trans hc0, (hY.cell (p := ⟨bF, offF + fk * 8 + 1, none⟩) HLT.out.2.2.1).trans hc1, (hY.cell (p := ⟨bF, offF + fk * 8 + 2, none⟩) HLT.out.2.2.1).trans hc2, (hY.cell (p := ⟨bF, offF + fk * 8 + 3, none⟩) HLT.out.2.2.1).trans hc3, (hY.cell (p := ⟨bF, offF + fk * 8 + 4, none⟩) HLT.out.2.2.1).trans hc4, (hY.cell (p := ⟨bF, offF + fk * 8 + 5, none⟩) HLT.out.2.2.1).trans hc5, (hY.cell (p := ⟨bF, offF + fk * 8 + 6, none⟩) HLT.out.2.2.1).trans hc6, (hY.cell (p := ⟨bF, offF + fk * 8 + 7, none⟩) HLT.out.2.2.1).trans hc7⟩
                have HSEk : Hid (∀ Y : World, Below w1.heap.size w1 Y → Y.cell? ⟨bS, offS + k * 2 + 1, none⟩ = some (.int .i64 (endAt ns k))) := fun Y hY => (hY.cell (p := ⟨bS, offS + k * 2 + 1, none⟩) HLT.out.2.1).trans hs1
                have HSK2k : Hid (∀ Y : World, Below w1.heap.size w1 Y → Y.cell? ⟨gY, 0, none⟩ = some (.slice (some ⟨bB, offB, none⟩) L.nb L.cb) ∧ Y.cell? ⟨bB, offB + mk * 5, none⟩ = some (.int .i64 kdk) ∧ Y.rangeAt L.gL (mk * 118) (sty zk).toList) := fun Y hY => ⟨(hY.cell (p := ⟨gY, 0, none⟩) HLT.out.1).trans (HDB1.out.cell 0), (hY.cell (p := ⟨bB, offB + mk * 5, none⟩) HLT.out.2.2.2.1).trans hk0, fun q v hv => (hY.cell (p := ⟨L.gL, mk * 118 + q, none⟩) HLT.out.2.2.2.2).trans (hlook q v hv)⟩
                have HFMk := Lib.hid (And.intro fmk hfn)
                clear hs0 hs1 hfk hc0 hc1 hc2 hc3 hc4 hc5 hc6 hc7 hmk hfgk hk0 hkdk hzk hlzk hlook fmk hfn
                have hfnk := HFMk.out.2
                obtain ⟨en, hen⟩ : ∃ en, en = endAt ns k := ⟨_, rfl⟩
                rw [← hen] at HSEk
                have HEN := Lib.hid hen
                have henb : en ≤ 1048576 := by
                  have h1 := HLAM.out.1 k hlt2
                  rw [← hen] at h1
                  omega
                clear hen
                have HS24 : Hid (∀ Y : World, Below w1.heap.size w1 Y → (fun w' : World => w'.cell? ⟨gY, 1, none⟩ = some (.slice (some ⟨bF, offF, none⟩) L.nf L.cf) ∧ w'.cell? ⟨bS, offS + k * 2, none⟩ = some (.int .i64 fk) ∧ w'.cell? ⟨bF, offF + fk * 8, none⟩ = some (.int .i64 mk) ∧ w'.cell? ⟨bF, offF + fk * 8 + 1, none⟩ = some (.int .i64 fgk.node) ∧ w'.cell? ⟨bF, offF + fk * 8 + 2, none⟩ = some (.int .i64 fgk.par) ∧ w'.cell? ⟨bF, offF + fk * 8 + 3, none⟩ = some (.int .i64 fgk.x) ∧ w'.cell? ⟨bF, offF + fk * 8 + 4, none⟩ = some (.int .i64 fgk.y) ∧ w'.cell? ⟨bF, offF + fk * 8 + 5, none⟩ = some (.int .i64 fgk.w) ∧ w'.cell? ⟨bF, offF + fk * 8 + 6, none⟩ = some (.int .i64 fgk.h) ∧ w'.cell? ⟨bF, offF + fk * 8 + 7, none⟩ = some (.string fgk.text) ∧ w'.cell? ⟨bS, offS + k * 2 + 1, none⟩ = some (.int .i64 (en : Nat))) Y) := fun Y hY => by
                  have h1 := HSK.out Y hY
                  exact ⟨h1.1, h1.2.1, h1.2.2.1, h1.2.2.2.1, h1.2.2.2.2.1, h1.2.2.2.2.2.1, h1.2.2.2.2.2.2.1, h1.2.2.2.2.2.2.2.1, h1.2.2.2.2.2.2.2.2.1, h1.2.2.2.2.2.2.2.2.2, HSEk.out Y hY⟩
                clear HSK HP HBE
                obtain ⟨wk0, rfl⟩ : ∃ wk0, wk0 = wr := ⟨_, rfl⟩
                have HP := HP2
                have HBE := HBE2
                clear HP2 HBE2 HOI HOI2 HLK
                go_cut [21, 22] from 89 to 102 (fun a b wx => ∃ gk gD : Nat, a = .pointer (some ⟨gk, 0, none⟩) ∧ b = .pointer (some ⟨gD, 0, none⟩) ∧ Hid (Blk wx gk 88 #[.int .i64 mk, .int .i64 fgk.node, .int .i64 fgk.par, .int .i64 fgk.x, .int .i64 fgk.y, .int .i64 fgk.w, .int .i64 fgk.h, .string fgk.text]) ∧ Hid (Blk wx gD 3 #[.int .i64 (en : Nat)]) ∧ Hid (PLst w1.heap.size w1.heap.size gE M AO2 n2 c2 l2 m D E wx) ∧ Hid (Below w1.heap.size w1 wx))
                case first =>
                  have HP := Lib.hid HP.out.drew
                  have HBE := Lib.hid HBE.out.drew
                  have hS0 := HS24.out (World.drew wk0) HBE.out
                  refine wp_region_noPanic ?_
                  refine region_M (S := fun w' => w'.cell? ⟨gY, 1, none⟩ = some (.slice (some ⟨bF, offF, none⟩) L.nf L.cf) ∧ w'.cell? ⟨bS, offS + k * 2, none⟩ = some (.int .i64 fk) ∧ w'.cell? ⟨bF, offF + fk * 8, none⟩ = some (.int .i64 mk) ∧ w'.cell? ⟨bF, offF + fk * 8 + 1, none⟩ = some (.int .i64 fgk.node) ∧ w'.cell? ⟨bF, offF + fk * 8 + 2, none⟩ = some (.int .i64 fgk.par) ∧ w'.cell? ⟨bF, offF + fk * 8 + 3, none⟩ = some (.int .i64 fgk.x) ∧ w'.cell? ⟨bF, offF + fk * 8 + 4, none⟩ = some (.int .i64 fgk.y) ∧ w'.cell? ⟨bF, offF + fk * 8 + 5, none⟩ = some (.int .i64 fgk.w) ∧ w'.cell? ⟨bF, offF + fk * 8 + 6, none⟩ = some (.int .i64 fgk.h) ∧ w'.cell? ⟨bF, offF + fk * 8 + 7, none⟩ = some (.string fgk.text) ∧ w'.cell? ⟨bS, offS + k * 2 + 1, none⟩ = some (.int .i64 (en : Nat))) (T := []) (by kernel_rfl) ?_
                  generalize World.drew wk0 = wk1 at HP HBE hS0 ⊢
                  have HBW := Lib.hid (Below.refl wk1.heap.size wk1)
                  obtain ⟨b1, hb1⟩ : ∃ b1, b1 = wk1.heap.size := ⟨_, rfl⟩
                  have HB1 := Lib.hid hb1
                  clear hb1
                  refine anyM_free (i := 0) (oi := { dst := some 89, op := _, type := _, pos := _, after := _, guard := _ }) (v := ?_) rfl (by kernel_rfl) (fun _ _ _ h => h) (Or.inl ⟨by kernel_rfl, ?_⟩) (fun _ => hS0) ?_
                  rotate_left 1
                  · (intro w hSw; (try dsimp only at hSw); go_simp; try with_reducible rfl)
                  try simp only [Act.put, Array.toArray_toList, List.setIfInBounds_toArray, List.set_cons_zero, List.set_cons_succ]
                  refine anyM_take (i := 1) (oi := { dst := some 90, op := _, type := _, pos := _, after := _, guard := _ }) (v := ?_) rfl (by kernel_rfl) (fun _ _ _ h => h) (Or.inl ⟨by kernel_rfl, ?_⟩) hS0 ?_
                  rotate_left 1
                  · (intro w hSw; (try dsimp only at hSw); go_simp; try with_reducible rfl)
                  try simp only [Act.put, Array.toArray_toList, List.setIfInBounds_toArray, List.set_cons_zero, List.set_cons_succ]
                  refine anyM_free (i := 2) (oi := { dst := some 91, op := _, type := _, pos := _, after := _, guard := _ }) (v := ?_) rfl (by kernel_rfl) (fun _ _ _ h => h) (Or.inl ⟨by kernel_rfl, ?_⟩) (fun _ => hS0) ?_
                  rotate_left 1
                  · (intro w hSw; (try dsimp only at hSw); go_simp; try with_reducible rfl)
                  try simp only [Act.put, Array.toArray_toList, List.setIfInBounds_toArray, List.set_cons_zero, List.set_cons_succ]
                  refine anyM_free (i := 3) (oi := { dst := some 92, op := _, type := _, pos := _, after := _, guard := _ }) (v := ?_) rfl (by kernel_rfl) (fun _ _ _ h => h) (Or.inl ⟨by kernel_rfl, ?_⟩) (fun _ => hS0) ?_
                  rotate_left 1
                  · (intro w hSw; (try dsimp only at hSw); go_simp; try with_reducible rfl)
                  try simp only [Act.put, Array.toArray_toList, List.setIfInBounds_toArray, List.set_cons_zero, List.set_cons_succ]
                  refine anyM_free (i := 4) (oi := { dst := some 93, op := _, type := _, pos := _, after := _, guard := _ }) (v := ?_) rfl (by kernel_rfl) (fun _ _ _ h => h) (Or.inl ⟨by kernel_rfl, ?_⟩) (fun _ => hS0) ?_
                  rotate_left 1
                  · (intro w hSw; (try dsimp only at hSw); go_simp; try with_reducible rfl)
                  try simp only [Act.put, Array.toArray_toList, List.setIfInBounds_toArray, List.set_cons_zero, List.set_cons_succ]
                  refine anyM_free (i := 5) (oi := { dst := some 94, op := _, type := _, pos := _, after := _, guard := _ }) (v := ?_) rfl (by kernel_rfl) (fun _ _ _ h => h) (Or.inl ⟨by kernel_rfl, ?_⟩) (fun _ => hS0) ?_
                  rotate_left 1
                  · (intro w hSw; (try dsimp only at hSw); go_simp; try with_reducible rfl)
                  try simp only [Act.put, Array.toArray_toList, List.setIfInBounds_toArray, List.set_cons_zero, List.set_cons_succ]
                  refine anyM_take (i := 6) (oi := { dst := some 95, op := _, type := _, pos := _, after := _, guard := _ }) (v := ?_) rfl (by kernel_rfl) (fun _ _ _ h => h) (Or.inl ⟨by kernel_rfl, ?_⟩) hS0 ?_
                  rotate_left 1
                  · (intro w hSw; (try dsimp only at hSw); go_simp; try with_reducible rfl)
                  try simp only [Act.put, Array.toArray_toList, List.setIfInBounds_toArray, List.set_cons_zero, List.set_cons_succ]
                  refine anyM_free (i := 7) (oi := { dst := some 96, op := _, type := _, pos := _, after := _, guard := _ }) (v := ?_) rfl (by kernel_rfl) (fun _ _ _ h => h) (Or.inl ⟨by kernel_rfl, ?_⟩) (fun _ => hS0) ?_
                  rotate_left 1
                  · (intro w hSw; (try dsimp only at hSw); go_simp; try with_reducible rfl)
                  try simp only [Act.put, Array.toArray_toList, List.setIfInBounds_toArray, List.set_cons_zero, List.set_cons_succ]
                  refine anyM_take (i := 8) (oi := { dst := some 97, op := _, type := _, pos := _, after := _, guard := _ }) (v := ?_) rfl (by kernel_rfl) (fun _ _ _ h => h) (Or.inl ⟨by kernel_rfl, ?_⟩) hS0 ?_
                  rotate_left 1
                  · (intro w hSw; (try dsimp only at hSw); go_simp; try with_reducible rfl)
                  try simp only [Act.put, Array.toArray_toList, List.setIfInBounds_toArray, List.set_cons_zero, List.set_cons_succ]
                  refine anyM_free (i := 9) (oi := { dst := some 98, op := _, type := _, pos := _, after := _, guard := _ }) (v := ?_) rfl (by kernel_rfl) (fun _ _ _ h => h) (Or.inl ⟨by kernel_rfl, ?_⟩) (fun _ => hS0) ?_
                  rotate_left 1
                  · (intro w hSw; (try dsimp only at hSw); go_simp; try with_reducible rfl)
                  try simp only [Act.put, Array.toArray_toList, List.setIfInBounds_toArray, List.set_cons_zero, List.set_cons_succ]
                  refine anyM_free (i := 10) (oi := { dst := some 99, op := _, type := _, pos := _, after := _, guard := _ }) (v := ?_) rfl (by kernel_rfl) (fun _ _ _ h => h) (Or.inl ⟨by kernel_rfl, ?_⟩) (fun _ => hS0) ?_
                  rotate_left 1
                  · (intro w hSw; (try dsimp only at hSw); go_simp; try with_reducible rfl)
                  try simp only [Act.put, Array.toArray_toList, List.setIfInBounds_toArray, List.set_cons_zero, List.set_cons_succ]
                  refine anyM_free (i := 11) (oi := { dst := some 100, op := _, type := _, pos := _, after := _, guard := _ }) (v := ?_) rfl (by kernel_rfl) (fun _ _ _ h => h) (Or.inl ⟨by kernel_rfl, ?_⟩) (fun _ => hS0) ?_
                  rotate_left 1
                  · (intro w hSw; (try dsimp only at hSw); go_simp; try with_reducible rfl)
                  try simp only [Act.put, Array.toArray_toList, List.setIfInBounds_toArray, List.set_cons_zero, List.set_cons_succ]
                  refine anyM_free (i := 12) (oi := { dst := some 101, op := _, type := _, pos := _, after := _, guard := _ }) (v := ?_) rfl (by kernel_rfl) (fun _ _ _ h => h) (Or.inl ⟨by kernel_rfl, ?_⟩) (fun _ => hS0) ?_
                  rotate_left 1
                  · (intro w hSw; (try dsimp only at hSw); go_simp; try with_reducible rfl)
                  try simp only [Act.put, Array.toArray_toList, List.setIfInBounds_toArray, List.set_cons_zero, List.set_cons_succ]
                  refine anyM_take (i := 13) (oi := { dst := some 102, op := _, type := _, pos := _, after := _, guard := _ }) (v := ?_) rfl (by kernel_rfl) (fun _ _ _ h => h) (Or.inl ⟨by kernel_rfl, ?_⟩) hS0 ?_
                  rotate_left 1
                  · (intro w hSw; (try dsimp only at hSw); go_simp; try with_reducible rfl)
                  try simp only [Act.put, Array.toArray_toList, List.setIfInBounds_toArray, List.set_cons_zero, List.set_cons_succ]
                  refine anyM_two (i := 14) (j := 15) (by kernel_rfl) rfl rfl (fun K hK => ?_) (fun K hK => ?_)
                  · skip
                    go_simp
                    have HGF := Lib.hid (Blk.new wk1 88 #[.int .i64 0, .int .i64 0, .int .i64 0, .int .i64 0, .int .i64 0, .int .i64 0, .int .i64 0, .string ⟨#[]⟩])
                    have Hgk : Hid (b1 ≤ wk1.heap.size) := by show _ ≤ _; rw [HB1.out]; exact HBW.out.size
                    have HBW := Lib.hid (below_alloc HBW.out (.cells #[.int .i64 0, .int .i64 0, .int .i64 0, .int .i64 0, .int .i64 0, .int .i64 0, .int .i64 0, .string ⟨#[]⟩] 88))
                    generalize World.alloc wk1 _ = wka at HBW HGF ⊢
                    generalize wk1.heap.size = gk at HGF Hgk ⊢
                    have hS0 := HS24.out wka (HBE.out.trans (HBW.out.mono HBE.out.size))
                    refine hK.out _ _ (fun _ => hS0) ?_
                    clear hK K
                    try simp only [Act.put, Array.toArray_toList, List.setIfInBounds_toArray, List.set_cons_zero, List.set_cons_succ]
                    refine anyM_one (i := 15) (by kernel_rfl) rfl (fun K hK => ?_)
                    go_simp
                    have HGD := Lib.hid (Blk.new wka 3 #[.int .i64 0])
                    have HgD : Hid (b1 ≤ wka.heap.size) := by show _ ≤ _; rw [HB1.out]; exact HBW.out.size
                    have HGF := Lib.hid (HGF.out.alloc (.cells #[.int .i64 0] 3))
                    have HBW := Lib.hid (below_alloc HBW.out (.cells #[.int .i64 0] 3))
                    generalize World.alloc wka _ = wkb at HBW HGD HGF ⊢
                    generalize wka.heap.size = gD at HGD HgD ⊢
                    have hS0 := HS24.out wkb (HBE.out.trans (HBW.out.mono HBE.out.size))
                    refine hK.out _ _ (fun _ => hS0) ?_
                    clear hK K
                    try simp only [Act.put, Array.toArray_toList, List.setIfInBounds_toArray, List.set_cons_zero, List.set_cons_succ]
                    refine anyM_one (i := 16) (by kernel_rfl) rfl (fun K hK => ?_)
                    have HNE := Lib.hid (blk_apart HGD.out HGF.out (by decide))
                    have HRS := Lib.hid (row_set #[.int .i64 mk, .int .i64 fgk.node, .int .i64 fgk.par, .int .i64 fgk.x, .int .i64 fgk.y, .int .i64 fgk.w, .int .i64 fgk.h, .string fgk.text] HGF.out rfl HBW.out (by rw [← HB1.out]; exact Hgk.out))
                    rw [if_pos (by kernel_rfl)]
                    refine wp_store_mid _ _ _ rfl gk 0 #[.int .i64 mk, .int .i64 fgk.node, .int .i64 fgk.par, .int .i64 fgk.x, .int .i64 fgk.y, .int .i64 fgk.w, .int .i64 fgk.h, .string fgk.text] rfl rfl HRS.out.1 (by kernel_rfl) (by kernel_rfl) ?_
                    obtain ⟨wkc, hwc, hgf, hbw, hfar⟩ := HRS.out.2
                    rw [hwc]
                    clear hwc
                    have HGF := Lib.hid hgf
                    have HGD := Lib.hid (hfar _ _ _ HNE.out HGD.out)
                    have HBW := Lib.hid hbw
                    clear hgf hbw hfar HRS
                    have hS0 := HS24.out wkc (HBE.out.trans (HBW.out.mono HBE.out.size))
                    change K (Act.put _ none undef) _
                    refine hK.out _ _ (fun _ => hS0) ?_
                    clear hK K
                    try simp only [Act.put, Array.toArray_toList, List.setIfInBounds_toArray, List.set_cons_zero, List.set_cons_succ]
                    refine anyM_one (i := 17) (by kernel_rfl) rfl (fun K hK => ?_)
                    have dd0 : wkc.cell? ⟨gD, 0, none⟩ = some (.int .i64 0) := HGD.out.cell 0
                    have df0 : wkc.frozen? ⟨gD, 0, none⟩ = false := HGD.out.free 0
                    go_simp
                    clear dd0 df0
                    have HGF := Lib.hid (HGF.out.far (fun hh => HNE.out hh.symm) (.int .i64 (en : Nat)) (i := 0))
                    have HGD : Hid (Blk _ gD 3 #[.int .i64 (en : Nat)]) := HGD.out.stored 0 (.int .i64 (en : Nat))
                    have HBW := Lib.hid (HBW.out.setCell (p := ⟨gD, 0, none⟩) (by rw [← HB1.out]; exact HgD.out) (.int .i64 (en : Nat)))
                    generalize World.setCell wkc _ _ = wkd at HGF HGD HBW ⊢
                    have hS0 := HS24.out wkd (HBE.out.trans (HBW.out.mono HBE.out.size))
                    refine hK.out _ _ (fun _ => hS0) ?_
                    clear hK K
                    try simp only [Act.put, Array.toArray_toList, List.setIfInBounds_toArray, List.set_cons_zero, List.set_cons_succ]
                    refine anyM_done (by kernel_rfl) ?_ _
                    refine NoPanic.normal ?_
                    clear hS0
                    go_wp2_with fail
                    go_meet
                    case rel => exact ⟨gk, gD, rfl, rfl, HGF.out, HGD.out, HP.out.below HBW.out, HBE.out.trans (HBW.out.mono HBE.out.size)⟩
                  · skip
                    go_simp
                    have HGD := Lib.hid (Blk.new wk1 3 #[.int .i64 0])
                    have HgD : Hid (b1 ≤ wk1.heap.size) := by show _ ≤ _; rw [HB1.out]; exact HBW.out.size
                    have HBW := Lib.hid (below_alloc HBW.out (.cells #[.int .i64 0] 3))
                    generalize World.alloc wk1 _ = wka at HBW HGD ⊢
                    generalize wk1.heap.size = gD at HGD HgD ⊢
                    have hS0 := HS24.out wka (HBE.out.trans (HBW.out.mono HBE.out.size))
                    refine hK.out _ _ (fun _ => hS0) ?_
                    clear hK K
                    try simp only [Act.put, Array.toArray_toList, List.setIfInBounds_toArray, List.set_cons_zero, List.set_cons_succ]
                    refine anyM_one (i := 14) (by kernel_rfl) rfl (fun K hK => ?_)
                    go_simp
                    have HGF := Lib.hid (Blk.new wka 88 #[.int .i64 0, .int .i64 0, .int .i64 0, .int .i64 0, .int .i64 0, .int .i64 0, .int .i64 0, .string ⟨#[]⟩])
                    have Hgk : Hid (b1 ≤ wka.heap.size) := by show _ ≤ _; rw [HB1.out]; exact HBW.out.size
                    have HGD := Lib.hid (HGD.out.alloc (.cells #[.int .i64 0, .int .i64 0, .int .i64 0, .int .i64 0, .int .i64 0, .int .i64 0, .int .i64 0, .string ⟨#[]⟩] 88))
                    have HBW := Lib.hid (below_alloc HBW.out (.cells #[.int .i64 0, .int .i64 0, .int .i64 0, .int .i64 0, .int .i64 0, .int .i64 0, .int .i64 0, .string ⟨#[]⟩] 88))
                    generalize World.alloc wka _ = wkb at HBW HGF HGD ⊢
                    generalize wka.heap.size = gk at HGF Hgk ⊢
                    have hS0 := HS24.out wkb (HBE.out.trans (HBW.out.mono HBE.out.size))
                    refine hK.out _ _ (fun _ => hS0) ?_
                    clear hK K
                    try simp only [Act.put, Array.toArray_toList, List.setIfInBounds_toArray, List.set_cons_zero, List.set_cons_succ]
                    refine anyM_one (i := 16) (by kernel_rfl) rfl (fun K hK => ?_)
                    have HNE := Lib.hid (blk_apart HGD.out HGF.out (by decide))
                    have HRS := Lib.hid (row_set #[.int .i64 mk, .int .i64 fgk.node, .int .i64 fgk.par, .int .i64 fgk.x, .int .i64 fgk.y, .int .i64 fgk.w, .int .i64 fgk.h, .string fgk.text] HGF.out rfl HBW.out (by rw [← HB1.out]; exact Hgk.out))
                    rw [if_pos (by kernel_rfl)]
                    refine wp_store_mid _ _ _ rfl gk 0 #[.int .i64 mk, .int .i64 fgk.node, .int .i64 fgk.par, .int .i64 fgk.x, .int .i64 fgk.y, .int .i64 fgk.w, .int .i64 fgk.h, .string fgk.text] rfl rfl HRS.out.1 (by kernel_rfl) (by kernel_rfl) ?_
                    obtain ⟨wkc, hwc, hgf, hbw, hfar⟩ := HRS.out.2
                    rw [hwc]
                    clear hwc
                    have HGF := Lib.hid hgf
                    have HGD := Lib.hid (hfar _ _ _ HNE.out HGD.out)
                    have HBW := Lib.hid hbw
                    clear hgf hbw hfar HRS
                    have hS0 := HS24.out wkc (HBE.out.trans (HBW.out.mono HBE.out.size))
                    change K (Act.put _ none undef) _
                    refine hK.out _ _ (fun _ => hS0) ?_
                    clear hK K
                    try simp only [Act.put, Array.toArray_toList, List.setIfInBounds_toArray, List.set_cons_zero, List.set_cons_succ]
                    refine anyM_one (i := 17) (by kernel_rfl) rfl (fun K hK => ?_)
                    have dd0 : wkc.cell? ⟨gD, 0, none⟩ = some (.int .i64 0) := HGD.out.cell 0
                    have df0 : wkc.frozen? ⟨gD, 0, none⟩ = false := HGD.out.free 0
                    go_simp
                    clear dd0 df0
                    have HGF := Lib.hid (HGF.out.far (fun hh => HNE.out hh.symm) (.int .i64 (en : Nat)) (i := 0))
                    have HGD : Hid (Blk _ gD 3 #[.int .i64 (en : Nat)]) := HGD.out.stored 0 (.int .i64 (en : Nat))
                    have HBW := Lib.hid (HBW.out.setCell (p := ⟨gD, 0, none⟩) (by rw [← HB1.out]; exact HgD.out) (.int .i64 (en : Nat)))
                    generalize World.setCell wkc _ _ = wkd at HGF HGD HBW ⊢
                    have hS0 := HS24.out wkd (HBE.out.trans (HBW.out.mono HBE.out.size))
                    refine hK.out _ _ (fun _ => hS0) ?_
                    clear hK K
                    try simp only [Act.put, Array.toArray_toList, List.setIfInBounds_toArray, List.set_cons_zero, List.set_cons_succ]
                    refine anyM_done (by kernel_rfl) ?_ _
                    refine NoPanic.normal ?_
                    clear hS0
                    go_wp2_with fail
                    go_meet
                    case rel => exact ⟨gk, gD, rfl, rfl, HGF.out, HGD.out, HP.out.below HBW.out, HBE.out.trans (HBW.out.mono HBE.out.size)⟩
                case rest =>
                  obtain ⟨gk, gD, rfl, rfl, HGF, HGD, HP, HBE⟩ := hcut
                  obtain ⟨wk2, rfl⟩ : ∃ wk2, wk2 = wc := ⟨_, rfl⟩
                  have hmkb := HFMk.out.1
                  clear HS24
                  go_upto_region 25 with fail
                  have HGF := Lib.hid (show Blk (World.drew wk2) _ _ _ from HGF.out)
                  have HGD := Lib.hid (show Blk (World.drew wk2) _ _ _ from HGD.out)
                  have HBE := Lib.hid (show Below w1.heap.size w1 (World.drew wk2) from below_drewN HBE.out 1)
                  have HP := Lib.hid HP.out.drew
                  have hS0 : (fun w' : World => w'.cell? ⟨gY, 0, none⟩ = some (.slice (some ⟨bB, offB, none⟩) L.nb L.cb) ∧ w'.cell? ⟨gk, 0, none⟩ = some (.int .i64 mk) ∧ w'.cell? ⟨bB, offB + mk * 5, none⟩ = some (.int .i64 kdk) ∧ w'.rangeAt L.gL (mk * 118) (sty zk).toList) (World.drew wk2) := ⟨(HSK2k.out _ HBE.out).1, (HGF.out).cell 0, (HSK2k.out _ HBE.out).2.1, (HSK2k.out _ HBE.out).2.2⟩
                  refine wp_region_noPanic ?_
                  refine region_M (S := fun w' => w'.cell? ⟨gY, 0, none⟩ = some (.slice (some ⟨bB, offB, none⟩) L.nb L.cb) ∧ w'.cell? ⟨gk, 0, none⟩ = some (.int .i64 mk) ∧ w'.cell? ⟨bB, offB + mk * 5, none⟩ = some (.int .i64 kdk) ∧ w'.rangeAt L.gL (mk * 118) (sty zk).toList) (T := []) (by kernel_rfl) ?_
                  generalize World.drew wk2 = wk3 at HGF HGD HBE HP hS0 ⊢
                  refine anyM_free (i := 0) (oi := { dst := some 103, op := _, type := _, pos := _, after := _, guard := _ }) (v := ?_) rfl (by kernel_rfl) (fun _ _ _ h => h) (Or.inl ⟨by kernel_rfl, ?_⟩) (fun _ => hS0) ?_
                  rotate_left 1
                  · (intro w hSw; (try dsimp only at hSw); go_simp; try with_reducible rfl)
                  try simp only [Act.put, Array.toArray_toList, List.setIfInBounds_toArray, List.set_cons_zero, List.set_cons_succ]
                  refine anyM_take (i := 1) (oi := { dst := some 104, op := _, type := _, pos := _, after := _, guard := _ }) (v := ?_) rfl (by kernel_rfl) (fun _ _ _ h => h) (Or.inl ⟨by kernel_rfl, ?_⟩) hS0 ?_
                  rotate_left 1
                  · (intro w hSw; (try dsimp only at hSw); go_simp; try with_reducible rfl)
                  try simp only [Act.put, Array.toArray_toList, List.setIfInBounds_toArray, List.set_cons_zero, List.set_cons_succ]
                  refine anyM_free (i := 2) (oi := { dst := some 105, op := _, type := _, pos := _, after := _, guard := _ }) (v := ?_) rfl (by kernel_rfl) (fun _ _ _ h => h) (Or.inl ⟨by kernel_rfl, ?_⟩) (fun _ => hS0) ?_
                  rotate_left 1
                  · (intro w hSw; (try dsimp only at hSw); go_simp; try with_reducible rfl)
                  try simp only [Act.put, Array.toArray_toList, List.setIfInBounds_toArray, List.set_cons_zero, List.set_cons_succ]
                  refine anyM_take (i := 3) (oi := { dst := some 106, op := _, type := _, pos := _, after := _, guard := _ }) (v := ?_) rfl (by kernel_rfl) (fun _ _ _ h => h) (Or.inl ⟨by kernel_rfl, ?_⟩) hS0 ?_
                  rotate_left 1
                  · (intro w hSw; (try dsimp only at hSw); go_simp; try with_reducible rfl)
                  try simp only [Act.put, Array.toArray_toList, List.setIfInBounds_toArray, List.set_cons_zero, List.set_cons_succ]
                  refine anyM_free (i := 4) (oi := { dst := some 107, op := _, type := _, pos := _, after := _, guard := _ }) (v := ?_) rfl (by kernel_rfl) (fun _ _ _ h => h) (Or.inl ⟨by kernel_rfl, ?_⟩) (fun _ => hS0) ?_
                  rotate_left 1
                  · (intro w hSw; (try dsimp only at hSw); go_simp; try with_reducible rfl)
                  try simp only [Act.put, Array.toArray_toList, List.setIfInBounds_toArray, List.set_cons_zero, List.set_cons_succ]
                  refine anyM_free (i := 5) (oi := { dst := some 108, op := _, type := _, pos := _, after := _, guard := _ }) (v := ?_) rfl (by kernel_rfl) (fun _ _ _ h => h) (Or.inl ⟨by kernel_rfl, ?_⟩) (fun _ => hS0) ?_
                  rotate_left 1
                  · (intro w hSw; (try dsimp only at hSw); go_simp; try with_reducible rfl)
                  try simp only [Act.put, Array.toArray_toList, List.setIfInBounds_toArray, List.set_cons_zero, List.set_cons_succ]
                  refine anyM_take (i := 6) (oi := { dst := some 109, op := _, type := _, pos := _, after := _, guard := _ }) (v := ?_) rfl (by kernel_rfl) (fun _ _ _ h => h) (Or.inl ⟨by kernel_rfl, ?_⟩) hS0 ?_
                  rotate_left 1
                  · (intro w hSw; (try dsimp only at hSw); go_simp; try with_reducible rfl)
                  try simp only [Act.put, Array.toArray_toList, List.setIfInBounds_toArray, List.set_cons_zero, List.set_cons_succ]
                  refine anyM_free (i := 7) (oi := { dst := some 110, op := _, type := _, pos := _, after := _, guard := _ }) (v := ?_) rfl (by kernel_rfl) (fun _ _ _ h => h) (Or.inl ⟨by kernel_rfl, ?_⟩) (fun _ => hS0) ?_
                  rotate_left 1
                  · (intro w hSw; (try dsimp only at hSw); go_simp; try with_reducible rfl)
                  try simp only [Act.put, Array.toArray_toList, List.setIfInBounds_toArray, List.set_cons_zero, List.set_cons_succ]
                  refine anyM_free (i := 8) (oi := { dst := some 111, op := _, type := _, pos := _, after := _, guard := _ }) (v := ?_) rfl (by kernel_rfl) (fun _ _ _ h => h) (Or.inl ⟨by kernel_rfl, ?_⟩) (fun _ => hS0) ?_
                  rotate_left 1
                  · (intro w hSw; (try dsimp only at hSw); go_simp; try with_reducible rfl)
                  try simp only [Act.put, Array.toArray_toList, List.setIfInBounds_toArray, List.set_cons_zero, List.set_cons_succ]
                  refine anyM_take (i := 9) (oi := { dst := some 112, op := _, type := _, pos := _, after := _, guard := _ }) (v := ?_) rfl (by kernel_rfl) (fun _ _ _ h => h) (Or.inl ⟨by kernel_rfl, ?_⟩) hS0 ?_
                  rotate_left 1
                  · (intro w hSw; (try dsimp only at hSw); go_simp; try with_reducible rfl)
                  try simp only [Act.put, Array.toArray_toList, List.setIfInBounds_toArray, List.set_cons_zero, List.set_cons_succ]
                  refine anyM_free (i := 10) (oi := { dst := some 113, op := _, type := _, pos := _, after := _, guard := _ }) (v := ?_) rfl (by kernel_rfl) (fun _ _ _ h => h) (Or.inl ⟨by kernel_rfl, ?_⟩) (fun _ => hS0) ?_
                  rotate_left 1
                  · (intro w hSw; (try dsimp only at hSw); go_simp; try with_reducible rfl)
                  try simp only [Act.put, Array.toArray_toList, List.setIfInBounds_toArray, List.set_cons_zero, List.set_cons_succ]
                  refine anyM_take (i := 11) (oi := { dst := some 114, op := _, type := _, pos := _, after := _, guard := _ }) (v := _) rfl (by kernel_rfl) (fun _ _ _ h => h) (yieldsIf_load_mid (by kernel_rfl) _ _ rfl _ _ rfl (sty zk).toList _ (fun w' h => by simpa using h.2.2.2) Tryz.underlying35 rfl HSZk.out) hS0 ?_
                  try simp only [Act.put, Array.toArray_toList, List.setIfInBounds_toArray, List.set_cons_zero, List.set_cons_succ]
                  refine anyM_one (i := 12) (by kernel_rfl) rfl (fun K hK => ?_)
                  go_simp
                  have hS0 : (fun w' : World => w'.cell? ⟨gY, 0, none⟩ = some (.slice (some ⟨bB, offB, none⟩) L.nb L.cb) ∧ w'.cell? ⟨gk, 0, none⟩ = some (.int .i64 mk) ∧ w'.cell? ⟨bB, offB + mk * 5, none⟩ = some (.int .i64 kdk) ∧ w'.rangeAt L.gL (mk * 118) (sty zk).toList) (wk3.alloc (.cells Tryz.zeroCells35 35)) := ⟨(HSK2k.out _ (below_then HBE.out (below_alloc (Below.refl _ _) _))).1, (HGF.out.alloc (.cells Tryz.zeroCells35 35)).cell 0, (HSK2k.out _ (below_then HBE.out (below_alloc (Below.refl _ _) _))).2.1, (HSK2k.out _ (below_then HBE.out (below_alloc (Below.refl _ _) _))).2.2⟩
                  refine hK.out _ _ (fun _ => hS0) ?_
                  clear hK K
                  try simp only [Act.put, Array.toArray_toList, List.setIfInBounds_toArray, List.set_cons_zero, List.set_cons_succ]
                  refine anyM_free (i := 13) (oi := { dst := some 23, op := _, type := _, pos := _, after := _, guard := _ }) (v := ?_) rfl (by kernel_rfl) (fun _ _ _ h => h) (Or.inl ⟨by kernel_rfl, ?_⟩) (fun _ => hS0) ?_
                  rotate_left 1
                  · (intro w hSw; (try dsimp only at hSw); go_simp; try with_reducible rfl)
                  try simp only [Act.put, Array.toArray_toList, List.setIfInBounds_toArray, List.set_cons_zero, List.set_cons_succ]
                  refine anyM_one (i := 14) (by kernel_rfl) rfl (fun K hK => ?_)
                  rw [if_pos (by kernel_rfl)]
                  refine wp_store_mid _ _ _ rfl wk3.heap.size 0 (sty zk) rfl rfl (HLAk.out wk3).2.1 (HLAk.out wk3).1 (sty_one _) ?_
                  obtain ⟨wk4, hwz, bSz, hbz, _⟩ := (HLAk.out wk3).2.2
                  rw [hwz]
                  clear hwz
                  have HGF := Lib.hid (HGF.out.below hbz HGF.out.lt)
                  have HGD := Lib.hid (HGD.out.below hbz HGD.out.lt)
                  have HBE := Lib.hid (below_then HBE.out hbz)
                  have HP := Lib.hid (HP.out.below hbz)
                  have HGZ := Lib.hid bSz
                  have hS0 : (fun w' : World => w'.cell? ⟨gY, 0, none⟩ = some (.slice (some ⟨bB, offB, none⟩) L.nb L.cb) ∧ w'.cell? ⟨gk, 0, none⟩ = some (.int .i64 mk) ∧ w'.cell? ⟨bB, offB + mk * 5, none⟩ = some (.int .i64 kdk) ∧ w'.rangeAt L.gL (mk * 118) (sty zk).toList) wk4 := ⟨(HSK2k.out _ HBE.out).1, (HGF.out).cell 0, (HSK2k.out _ HBE.out).2.1, (HSK2k.out _ HBE.out).2.2⟩
                  clear bSz hbz
                  change K (Act.put _ none undef) _
                  refine hK.out _ _ (fun _ => hS0) ?_
                  clear hK K
                  try simp only [Act.put, Array.toArray_toList, List.setIfInBounds_toArray, List.set_cons_zero, List.set_cons_succ]
                  refine anyM_done (by kernel_rfl) ?_ _
                  refine NoPanic.normal ?_
                  clear hS0
                  generalize wk3.heap.size = gz at HGZ ⊢
                  have hzl := HFAk.out.2.2.2.2.1
                  obtain ⟨nd, hnd⟩ : ∃ nd, nd = fgk.node := ⟨_, rfl⟩
                  have hnd2 : nd = pNd L ns k := by rw [hnd]; unfold pNd; rw [HFAk.out.1, HFAk.out.2.1]
                  have hwf : (Lit.int .i64 nd).wf = true := by rw [hnd2]; exact HNODE.out k HKL.out
                  have hzv : stN zk 34 = stN (L.st (hF ns k)) 34 := by rw [HFAk.out.1, HFAk.out.2.2.1]
                  have hcp : pCp L ns k = if hCl L ns k then [clpC nd (innerR fgk zk)] else [] := by unfold pCp; rw [← hnd2, HFAk.out.1, HFAk.out.2.1, HFAk.out.2.2.1]
                  have hfd : pFd L ns k = (decide (stN zk 34 < 1000) && decide (kdk ≠ 3) && decide (kdk ≠ 4)) := by unfold pFd; rw [HFAk.out.1, HFAk.out.2.2.1, HFAk.out.2.2.2.1]
                  have hcl : hCl L ns k = (decide (stN zk 32 = 1) && decide (kdk ≠ 3) && decide (kdk ≠ 4)) := by unfold hCl; rw [HFAk.out.1, HFAk.out.2.2.1, HFAk.out.2.2.2.1]
                  have hgr : pGr L ns k = if pFd L ns k then [grpC nd (stN zk 34)] else [] := by unfold pGr; rw [← hnd2, hzv]
                  have hfr : pFr L ns k = fragCmds fgk kdk zk := by unfold pFr; rw [HFAk.out.1, HFAk.out.2.1, HFAk.out.2.2.1, HFAk.out.2.2.2.1]
                  have hcs : pCs L ns k = (if hCl L ns k then [nd] else []) ++ (if pFd L ns k then [nd] else []) := by unfold pCs; rw [← hnd2]
                  have HRN : Hid (pRun L ns (ns.length - k) k E = (E k).map endC ++ ((pGr L ns k ++ (pFr L ns k ++ pCp L ns k)) ++ pRun L ns (ns.length - (k + 1)) (k + 1) (upd E (endAt ns k) (pCs L ns k ++ E (endAt ns k))))) := pRun_step L ns E HKL.out
                  obtain ⟨fd, hfd0⟩ : ∃ fd, fd = pFd L ns k := ⟨_, rfl⟩
                  obtain ⟨cl0, hcl0⟩ : ∃ cl, cl = hCl L ns k := ⟨_, rfl⟩
                  rw [← hfd0] at hfd hgr hcs
                  rw [← hcl0] at hcl hcs hcp
                  have HFDC : Hid (∀ ww : World, Calls Tryz.prog 54 #[.int .i64 kdk, .agg (sty zk)] ww fun e w' => e = .returned (.bool fd) ∧ Below ww.heap.size ww w') := fun ww => by rw [hfd]; exact fades_calls zk kdk ww hzl
                  have HCLC : Hid (∀ ww : World, Calls Tryz.prog 44 #[.int .i64 kdk, .agg (sty zk)] ww fun e w' => e = .returned (.bool cl0) ∧ Below ww.heap.size ww w') := fun ww => by rw [hcl]; exact clips_calls zk kdk ww hzl
                  have HFRG : Hid (∀ ww : World, Calls Tryz.prog 51 #[.agg #[.int .i64 mk, .int .i64 fgk.node, .int .i64 fgk.par, .int .i64 fgk.x, .int .i64 fgk.y, .int .i64 fgk.w, .int .i64 fgk.h, .string fgk.text], .int .i64 kdk, .agg (sty zk)] ww fun e w' => ∃ A n c, e = .returned (.slice A n c) ∧ n ≤ 5 ∧ (pFr L ns k).length = n ∧ w'.ownsRow ww.heap.size 64 9 (.slice A n c) n (cmds (pFr L ns k)) ∧ Below ww.heap.size ww w') := fun ww => by
                    have h9 := frag_calls zk kdk fgk ww hzl HFAk.out.2.2.2.2.2.2
                    unfold fragC at h9
                    rw [HBXk.out, ← hfr] at h9
                    refine h9.mono ?_
                    rintro e w' ⟨v, rfl, ho, hb⟩
                    obtain ⟨A, c, rfl⟩ := own_open ho
                    exact ⟨A, _, c, rfl, by rw [hfr]; exact fragCmds_len _ _ _, rfl, ho, hb⟩
                  have HINN : Hid (∀ ww : World, Calls Tryz.prog 45 #[.agg #[.int .i64 mk, .int .i64 fgk.node, .int .i64 fgk.par, .int .i64 fgk.x, .int .i64 fgk.y, .int .i64 fgk.w, .int .i64 fgk.h, .string fgk.text], .agg (sty zk)] ww fun e w' => e = .returned (.agg #[.int .i64 (innerR fgk zk).x, .int .i64 (innerR fgk zk).y, .int .i64 (innerR fgk zk).w, .int .i64 (innerR fgk zk).h]) ∧ Below ww.heap.size ww w') := fun ww => by
                    have h9 := inner_calls zk fgk ww hzl HFAk.out.2.2.2.2.2.2
                    unfold fragC at h9
                    rw [HBXk.out] at h9
                    exact h9
                  have HOPN : Hid (∀ (ww : World) (A : Option Addr) (n c : Nat) (l : List CmdV) (m : Nat) (D : DataW Unit) (E : Nat → List Int) (d x y cw ch cn : Int), PLst w1.heap.size w1.heap.size gE M A n c l m D E ww → Blk ww gk 88 #[.int .i64 mk, .int .i64 fgk.node, .int .i64 fgk.par, .int .i64 fgk.x, .int .i64 fgk.y, .int .i64 fgk.w, .int .i64 fgk.h, .string fgk.text] → Blk ww gD 3 #[.int .i64 (en : Nat)] → n ≤ 16777216 → m ≤ 16777216 → Calls Tryz.prog 53 #[.agg #[.int .i64 d, .int .i64 0, .int .i64 x, .int .i64 y, .int .i64 cw, .int .i64 ch, .int .i64 0, .int .i64 cn, .string ⟨#[]⟩], .pointer (some ⟨gk, 0, none⟩), .pointer (some ⟨w1.heap.size, 0, none⟩), .pointer (some ⟨gE, 0, none⟩), .pointer (some ⟨gD, 0, none⟩)] ww
                      fun e w' => e = .returned (.tuple #[]) ∧ (∃ A' c' D', PLst w1.heap.size w1.heap.size gE M A' (n + 1) c' (l ++ [⟨d, nd, x, y, cw, ch, 0, cn, ⟨#[]⟩⟩]) (m + 1) D' (upd E en (nd :: E en)) w') ∧ Below w1.heap.size ww w' ∧ Stays w1.heap.size ww w') := fun ww A n c l m D E d x y cw ch cn h1 h2 h3 h4 h5 => by
                    rw [← hnd] at *
                    exact opens_calls w1.heap.size gk w1.heap.size gE gD M n m en nd _ A c l D E d 0 x y cw ch 0 cn ⟨#[]⟩ ww h1 h2 (by rw [hnd]; rfl) h3 h4 h5 (by omega) hwf
                  obtain ⟨fr0, hfr0⟩ : ∃ fr0, fr0 = pFr L ns k := ⟨_, rfl⟩
                  rw [← hfr0] at HFRG HRN
                  have HGR := Lib.hid hgr
                  have HCP := Lib.hid hcp
                  have HCS := Lib.hid hcs
                  obtain ⟨v34, hv34⟩ : ∃ v, v = stN zk 34 := ⟨_, rfl⟩
                  rw [← hv34] at HGR
                  have z69 : wk4.cell? ⟨gz, 69, none⟩ = some (.int .i64 v34) := by rw [hv34]; exact (HGZ.out.cell 69).trans (sty_at zk 69 (by omega))
                  have HV34 := Lib.hid hv34
                  have hn2b : n2 ≤ 11534336 := by omega
                  clear hnd hnd2 hwf hzv hcp hfd hcl hgr hfr hcs hfd0 hcl0 hfr0 hv34 HBXk HFAk hzl
                  have HROW := Lib.hid (range_blkA HGZ.out)
                  go_upto_if 118 with (first | (refine wpList_load_mid rfl 35 _ rfl gz 0 rfl (sty zk).toList _ HROW.out Tryz.underlying35 rfl HSZk.out ?_) | (go_at_call 54; refine (HFDC.out _).mono ?_; rintro e w8 ⟨rfl, hb8⟩; have HB8 := Lib.hid hb8; clear hb8))
                  have HP := Lib.hid (HP.out.below HB8.out)
                  have HGF := Lib.hid (HGF.out.below HB8.out HGF.out.lt)
                  have HGD := Lib.hid (HGD.out.below HB8.out HGD.out.lt)
                  have z69 : w8.cell? ⟨gz, 69, none⟩ = some (.int .i64 v34) := (HB8.out.cell (p := ⟨gz, 69, none⟩) HGZ.out.lt).trans z69
                  have HGZ := Lib.hid (HGZ.out.below HB8.out HGZ.out.lt)
                  have HBE := Lib.hid (below_then HBE.out HB8.out)
                  clear HB8 HROW HFDC
                  cases fd
                  · obtain ⟨w14, rfl⟩ : ∃ w14, w14 = w8 := ⟨_, rfl⟩
                    obtain ⟨Af, nf2, cf2, lf, mf, Df, Ef, hnf, hmf, HLF, HEF, HP⟩ : ∃ (Af : Option Addr) (nf2 cf2 : Nat) (lf : List CmdV) (mf : Nat) (Df : DataW Unit) (Ef : Nat → List Int), nf2 ≤ 11534337 ∧ mf ≤ m + 1 ∧ Hid (lf = l2 ++ []) ∧ Hid (Ef = E) ∧ Hid (PLst w1.heap.size w1.heap.size gE M Af nf2 cf2 lf mf Df Ef w14) := ⟨_, _, _, _, _, _, _, by omega, by omega, by show _ = _; simp, rfl, HP.out⟩
                    go_upto_region 29 with fail
                    have HP := Lib.hid HP.out.drew
                    have HGF := Lib.hid (show Blk (World.drew w14) _ _ _ from HGF.out)
                    have HGD := Lib.hid (show Blk (World.drew w14) _ _ _ from HGD.out)
                    have HGZ := Lib.hid (show Blk (World.drew w14) _ _ _ from HGZ.out)
                    have HBE := Lib.hid HBE.out.drew
                    have hS0 : (fun w' : World => w'.cell? ⟨w1.heap.size, 0, none⟩ = some (.slice Af nf2 cf2) ∧ w'.cell? ⟨gk, 0, none⟩ = some (.int .i64 mk) ∧ w'.cell? ⟨gk, 1, none⟩ = some (.int .i64 fgk.node) ∧ w'.cell? ⟨gk, 2, none⟩ = some (.int .i64 fgk.par) ∧ w'.cell? ⟨gk, 3, none⟩ = some (.int .i64 fgk.x) ∧ w'.cell? ⟨gk, 4, none⟩ = some (.int .i64 fgk.y) ∧ w'.cell? ⟨gk, 5, none⟩ = some (.int .i64 fgk.w) ∧ w'.cell? ⟨gk, 6, none⟩ = some (.int .i64 fgk.h) ∧ w'.cell? ⟨gk, 7, none⟩ = some (.string fgk.text) ∧ w'.rangeAt gz 0 (sty zk).toList) (World.drew w14) := ⟨HP.out.out.cell 0, HGF.out.cell 0, HGF.out.cell 1, HGF.out.cell 2, HGF.out.cell 3, HGF.out.cell 4, HGF.out.cell 5, HGF.out.cell 6, HGF.out.cell 7, range_blkA HGZ.out⟩
                    refine wp_region_noPanic ?_
                    refine region_M (S := fun w' => w'.cell? ⟨w1.heap.size, 0, none⟩ = some (.slice Af nf2 cf2) ∧ w'.cell? ⟨gk, 0, none⟩ = some (.int .i64 mk) ∧ w'.cell? ⟨gk, 1, none⟩ = some (.int .i64 fgk.node) ∧ w'.cell? ⟨gk, 2, none⟩ = some (.int .i64 fgk.par) ∧ w'.cell? ⟨gk, 3, none⟩ = some (.int .i64 fgk.x) ∧ w'.cell? ⟨gk, 4, none⟩ = some (.int .i64 fgk.y) ∧ w'.cell? ⟨gk, 5, none⟩ = some (.int .i64 fgk.w) ∧ w'.cell? ⟨gk, 6, none⟩ = some (.int .i64 fgk.h) ∧ w'.cell? ⟨gk, 7, none⟩ = some (.string fgk.text) ∧ w'.rangeAt gz 0 (sty zk).toList) (T := [6]) (by kernel_rfl) ?_
                    generalize World.drew w14 = w11 at HP HGF HGD HGZ HBE hS0 ⊢
                    refine anyM_take (i := 0) (oi := { dst := some 125, op := _, type := _, pos := _, after := _, guard := _ }) (v := ?_) rfl (by kernel_rfl) (fun _ _ _ h => h) (Or.inl ⟨by kernel_rfl, ?_⟩) hS0 ?_
                    rotate_left 1
                    · (intro w hSw; (try dsimp only at hSw); go_simp; try with_reducible rfl)
                    try simp only [Act.put, Array.toArray_toList, List.setIfInBounds_toArray, List.set_cons_zero, List.set_cons_succ]
                    refine anyM_take (i := 1) (oi := { dst := some 126, op := _, type := _, pos := _, after := _, guard := _ }) (v := ?_) rfl (by kernel_rfl) (fun _ _ _ h => h) (Or.inl ⟨by kernel_rfl, ?_⟩) hS0 ?_
                    rotate_left 1
                    · (intro w hSw; (try dsimp only at hSw); go_simp; try with_reducible rfl)
                    try simp only [Act.put, Array.toArray_toList, List.setIfInBounds_toArray, List.set_cons_zero, List.set_cons_succ]
                    refine anyM_free (i := 2) (oi := { dst := some 127, op := _, type := _, pos := _, after := _, guard := _ }) (v := ?_) rfl (by kernel_rfl) (fun _ _ _ h => h) (Or.inl ⟨by kernel_rfl, ?_⟩) (fun _ => hS0) ?_
                    rotate_left 1
                    · (intro w hSw; (try dsimp only at hSw); go_simp; try with_reducible rfl)
                    try simp only [Act.put, Array.toArray_toList, List.setIfInBounds_toArray, List.set_cons_zero, List.set_cons_succ]
                    refine anyM_take (i := 3) (oi := { dst := some 128, op := _, type := _, pos := _, after := _, guard := _ }) (v := _) rfl (by kernel_rfl) (fun _ _ _ h => h) (yieldsIf_load_mid (by kernel_rfl) _ _ rfl _ _ rfl (sty zk).toList _ (fun w' h => by simpa using h.2.2.2.2.2.2.2.2.2) Tryz.underlying35 rfl HSZk.out) hS0 ?_
                    try simp only [Act.put, Array.toArray_toList, List.setIfInBounds_toArray, List.set_cons_zero, List.set_cons_succ]
                    refine anyM_one (i := 4) (by kernel_rfl) rfl (fun K hK => ?_)
                    go_simp
                    refine (HFRG.out _).mono ?_
                    rintro e w12 ⟨A7, n7, c7, rfl, hn7, hl7, ho7, hb7⟩
                    have HP := Lib.hid (HP.out.below hb7)
                    have HGF := Lib.hid (HGF.out.below hb7 HGF.out.lt)
                    have HGD := Lib.hid (HGD.out.below hb7 HGD.out.lt)
                    have HGZ := Lib.hid (HGZ.out.below hb7 HGZ.out.lt)
                    have HBE := Lib.hid (below_then HBE.out hb7)
                    have HO7 := Lib.hid ho7
                    have HL7 := Lib.hid hl7
                    clear ho7 hb7 hl7
                    have hS0 : (fun w' : World => w'.cell? ⟨w1.heap.size, 0, none⟩ = some (.slice Af nf2 cf2) ∧ w'.cell? ⟨gk, 0, none⟩ = some (.int .i64 mk) ∧ w'.cell? ⟨gk, 1, none⟩ = some (.int .i64 fgk.node) ∧ w'.cell? ⟨gk, 2, none⟩ = some (.int .i64 fgk.par) ∧ w'.cell? ⟨gk, 3, none⟩ = some (.int .i64 fgk.x) ∧ w'.cell? ⟨gk, 4, none⟩ = some (.int .i64 fgk.y) ∧ w'.cell? ⟨gk, 5, none⟩ = some (.int .i64 fgk.w) ∧ w'.cell? ⟨gk, 6, none⟩ = some (.int .i64 fgk.h) ∧ w'.cell? ⟨gk, 7, none⟩ = some (.string fgk.text) ∧ w'.rangeAt gz 0 (sty zk).toList) w12 := ⟨HP.out.out.cell 0, HGF.out.cell 0, HGF.out.cell 1, HGF.out.cell 2, HGF.out.cell 3, HGF.out.cell 4, HGF.out.cell 5, HGF.out.cell 6, HGF.out.cell 7, range_blkA HGZ.out⟩
                    refine hK.out _ _ (fun _ => hS0) ?_
                    clear hK K
                    try simp only [Act.put, Array.toArray_toList, List.setIfInBounds_toArray, List.set_cons_zero, List.set_cons_succ]
                    refine anyM_one (i := 5) (by kernel_rfl) rfl (fun K hK => ?_)
                    rw [if_pos (by kernel_rfl)]
                    refine wp_append_any _ _ 57 rfl w1.heap.size 64 iC (.agg #[.int .i64 0, .int .i64 0, .int .i64 0, .int .i64 0, .int .i64 0, .int .i64 0, .int .i64 0, .int .i64 0, .string ⟨#[]⟩]) 9 80 Tryz.underlying57 hiC hzC0 hzC1 hzC2 rfl (by decide) (.slice Af nf2 cf2) nf2 (cmds lf) rfl HP.out.own A7 n7 c7 (cmds fr0) rfl (by rw [cmds_len9, HL7.out]) (own_srcP HO7.out rfl) (cmds_oneP _) (by unfold maxLen; omega) (by omega) HP.out.bw ?_
                    intro A15 c15 w13 ho9 hg9 hat9
                    have HT := Lib.hid (HP.out.told (ls := fr0) HL7.out ho9 hg9)
                    have HO9 := Lib.hid (blk_grown HP.out.out hg9 (blk_ne HP.out.out HP.out.own (by decide)))
                    have HGF9 := Lib.hid (blk_grown HGF.out hg9 (blk_ne HGF.out HP.out.own (by decide)))
                    have HGD9 := Lib.hid (blk_grown HGD.out hg9 (blk_ne HGD.out HP.out.own (by decide)))
                    have HGZ9 := Lib.hid (blk_grown HGZ.out hg9 (blk_ne HGZ.out HP.out.own (by decide)))
                    have hS0 : (fun w' : World => w'.cell? ⟨w1.heap.size, 0, none⟩ = some (.slice Af nf2 cf2) ∧ w'.cell? ⟨gk, 0, none⟩ = some (.int .i64 mk) ∧ w'.cell? ⟨gk, 1, none⟩ = some (.int .i64 fgk.node) ∧ w'.cell? ⟨gk, 2, none⟩ = some (.int .i64 fgk.par) ∧ w'.cell? ⟨gk, 3, none⟩ = some (.int .i64 fgk.x) ∧ w'.cell? ⟨gk, 4, none⟩ = some (.int .i64 fgk.y) ∧ w'.cell? ⟨gk, 5, none⟩ = some (.int .i64 fgk.w) ∧ w'.cell? ⟨gk, 6, none⟩ = some (.int .i64 fgk.h) ∧ w'.cell? ⟨gk, 7, none⟩ = some (.string fgk.text) ∧ w'.rangeAt gz 0 (sty zk).toList) w13 := ⟨HO9.out.cell 0, HGF9.out.cell 0, HGF9.out.cell 1, HGF9.out.cell 2, HGF9.out.cell 3, HGF9.out.cell 4, HGF9.out.cell 5, HGF9.out.cell 6, HGF9.out.cell 7, range_blkA HGZ9.out⟩
                    clear ho9 hg9 hat9 HGF9 HGD9 HGZ9
                    change K (Act.put _ (some 130) _) _
                    refine hK.out _ _ (fun _ => hS0) ?_
                    clear hK K
                    try simp only [Act.put, Array.toArray_toList, List.setIfInBounds_toArray, List.set_cons_zero, List.set_cons_succ]
                    refine anyM_one (i := 6) (by kernel_rfl) rfl (fun K hK => ?_)
                    have dd0 : w13.cell? ⟨w1.heap.size, 0, none⟩ = some (.slice Af nf2 cf2) := HO9.out.cell 0
                    have df0 : w13.frozen? ⟨w1.heap.size, 0, none⟩ = false := HO9.out.free 0
                    go_simp
                    clear dd0 df0
                    have HGF := Lib.hid (HT.out.2.1 _ _ _ HGF.out (blk_apart HGF.out HP.out.out (by decide)) (by decide))
                    have HGD := Lib.hid (HT.out.2.1 _ _ _ HGD.out (blk_apart HGD.out HP.out.out (by decide)) (by decide))
                    have HGZ := Lib.hid (HT.out.2.1 _ _ _ HGZ.out (blk_apart HGZ.out HP.out.out (by decide)) (by decide))
                    have HBE := Lib.hid (HBE.out.trans HT.out.2.2)
                    have HP := Lib.hid HT.out.1
                    clear HT HO9 HO7 HL7
                    generalize World.setCell w13 _ _ = w15 at HP HGF HGD HGZ HBE ⊢
                    refine hK.out _ _ (fun h => late_no h (by kernel_rfl)) ?_
                    clear hK K
                    try simp only [Act.put, Array.toArray_toList, List.setIfInBounds_toArray, List.set_cons_zero, List.set_cons_succ]
                    refine anyM_done (by kernel_rfl) ?_ _
                    refine NoPanic.normal ?_
                    clear hS0
                    obtain ⟨n15, hn15⟩ : ∃ n15, n15 = nf2 + n7 := ⟨_, rfl⟩
                    have hn15b : n15 ≤ 11534342 := by omega
                    rw [← hn15] at HP
                    clear hn15 hn7 hnf
                    obtain ⟨l15, hl15⟩ : ∃ l15, l15 = lf ++ fr0 := ⟨_, rfl⟩
                    rw [← hl15] at HP
                    have HL15 := Lib.hid hl15
                    clear hl15
                    have HROW := Lib.hid (range_blkA HGZ.out)
                    go_upto_if 133 with (first | (refine wpList_load_mid rfl 35 _ rfl gz 0 rfl (sty zk).toList _ HROW.out Tryz.underlying35 rfl HSZk.out ?_) | (go_at_call 44; refine (HCLC.out _).mono ?_; rintro e w16 ⟨rfl, hb16⟩; have HB16 := Lib.hid hb16; clear hb16))
                    have HP := Lib.hid (HP.out.below HB16.out)
                    have HGF := Lib.hid (HGF.out.below HB16.out HGF.out.lt)
                    have HGD := Lib.hid (HGD.out.below HB16.out HGD.out.lt)
                    have HGZ := Lib.hid (HGZ.out.below HB16.out HGZ.out.lt)
                    have HBE := Lib.hid (below_then HBE.out HB16.out)
                    clear HB16 HROW HCLC HFRG
                    cases cl0
                    · go_wp2_with fail
                      go_round
                      case rel => exact ⟨k + 1, A15, n15, c15, l15, mf, Df, Ef, by have := HKL.out; omega, by omega, by go_num, HP.out, HBE.out, by show _ = _; rw [HACC.out, HRN.out, HL15.out, HLF.out, HL2.out, HZ.out, HGR.out, HCP.out, HCS.out, ← HEN.out, HEF.out]; simp [upd_self, upd_same, upd_twice, List.append_assoc, clpC]⟩
                      case measure => have := HKL.out; simp [intOf]; omega
                    · have x0 : w16.cell? ⟨gk, 0, none⟩ = some (.int .i64 (mk : Int)) := HGF.out.cell 0
                      have x1 : w16.cell? ⟨gk, 1, none⟩ = some (.int .i64 fgk.node) := HGF.out.cell 1
                      have x2 : w16.cell? ⟨gk, 2, none⟩ = some (.int .i64 fgk.par) := HGF.out.cell 2
                      have x3 : w16.cell? ⟨gk, 3, none⟩ = some (.int .i64 fgk.x) := HGF.out.cell 3
                      have x4 : w16.cell? ⟨gk, 4, none⟩ = some (.int .i64 fgk.y) := HGF.out.cell 4
                      have x5 : w16.cell? ⟨gk, 5, none⟩ = some (.int .i64 fgk.w) := HGF.out.cell 5
                      have x6 : w16.cell? ⟨gk, 6, none⟩ = some (.int .i64 fgk.h) := HGF.out.cell 6
                      have x7 : w16.cell? ⟨gk, 7, none⟩ = some (.string fgk.text) := HGF.out.cell 7
                      have HROW := Lib.hid (range_blkA HGZ.out)
                      have HCP2 : Hid (pCp L ns k = [⟨3, nd, (innerR fgk zk).x, (innerR fgk zk).y, (innerR fgk zk).w, (innerR fgk zk).h, 0, 0, ⟨#[]⟩⟩]) := HCP.out
                      generalize (innerR fgk zk).x = jx at HINN HCP2
                      generalize (innerR fgk zk).y = jy at HINN HCP2
                      generalize (innerR fgk zk).w = jw at HINN HCP2
                      generalize (innerR fgk zk).h = jh at HINN HCP2
                      clear HCP
                      go_upto_region 32 with (first | (refine wpList_load_mid rfl 35 _ rfl gz 0 rfl (sty zk).toList _ HROW.out Tryz.underlying35 rfl HSZk.out ?_) | (go_at_call 45; refine (HINN.out _).mono ?_; rintro e w17 ⟨rfl, hb17⟩; have HB17 := Lib.hid hb17; clear hb17))
                      clear x0 x1 x2 x3 x4 x5 x6 x7 HROW HINN
                      have hb18 := below_then HB17.out (below_alloc (Below.refl w17.heap.size w17) (.cells #[.int .i64 jx, .int .i64 jy, .int .i64 jw, .int .i64 jh] 96))
                      have HR := Lib.hid (Blk.new w17 96 #[.int .i64 jx, .int .i64 jy, .int .i64 jw, .int .i64 jh])
                      have HP := Lib.hid (HP.out.below hb18)
                      have HGF := Lib.hid (HGF.out.below hb18 HGF.out.lt)
                      have HGD := Lib.hid (HGD.out.below hb18 HGD.out.lt)
                      have HBE := Lib.hid (below_then HBE.out hb18)
                      clear hb18 HB17
                      generalize World.alloc w17 _ = w18 at HR HP HGF HGD HBE ⊢
                      generalize w17.heap.size = gr at HR ⊢
                      have r0 : w18.cell? ⟨gr, 0, none⟩ = some (.int .i64 jx) := HR.out.cell 0
                      have r1 : w18.cell? ⟨gr, 1, none⟩ = some (.int .i64 jy) := HR.out.cell 1
                      have r2 : w18.cell? ⟨gr, 2, none⟩ = some (.int .i64 jw) := HR.out.cell 2
                      have r3 : w18.cell? ⟨gr, 3, none⟩ = some (.int .i64 jh) := HR.out.cell 3
                      have HOC := Lib.hid (HOPN.out w18 A15 n15 c15 l15 mf Df Ef 3 jx jy jw jh 0 HP.out HGF.out HGD.out (by omega) (by omega))
                      go_wp2_with (go_at_call 53; refine HOC.out.mono ?_; rintro e w19 ⟨rfl, ⟨A19, c19, D19, hp19⟩, hb19, _⟩; have HP19 := Lib.hid hp19; have HB19 := Lib.hid (HBE.out.trans hb19); clear hp19 hb19)
                      go_round
                      case rel => exact ⟨k + 1, A19, n15 + 1, c19, _, mf + 1, D19, _, by have := HKL.out; omega, by omega, by go_num, HP19.out, HB19.out, by show _ = _; rw [HACC.out, HRN.out, HL15.out, HLF.out, HL2.out, HZ.out, HGR.out, HCP2.out, HCS.out, ← HEN.out, HEF.out]; simp [upd_self, upd_same, upd_twice, List.append_assoc, clpC]⟩
                      case measure => have := HKL.out; simp [intOf]; omega
                  · have HOC := Lib.hid (HOPN.out w8 AO2 n2 c2 l2 m D E 4 0 0 0 0 v34 HP.out HGF.out HGD.out (by omega) (by omega))
                    go_upto_region 29 with (go_at_call 53; refine HOC.out.mono ?_; rintro e w14 ⟨rfl, ⟨A9, c9, D9, hp9⟩, hb9, hs9⟩; have HP9 := Lib.hid hp9; have HB9 := Lib.hid hb9; have HS9 := Lib.hid hs9; clear hp9 hb9 hs9)
                    have HGF := Lib.hid (HS9.out _ _ _ HGF.out (blk_apart HGF.out HP.out.out (by decide)) (by decide))
                    have HGD := Lib.hid (HS9.out _ _ _ HGD.out (blk_apart HGD.out HP.out.out (by decide)) (by decide))
                    have HGZ := Lib.hid (HS9.out _ _ _ HGZ.out (blk_apart HGZ.out HP.out.out (by decide)) (by decide))
                    have HBE := Lib.hid (HBE.out.trans HB9.out)
                    clear HP HB9 HS9 HOC z69
                    obtain ⟨Af, nf2, cf2, lf, mf, Df, Ef, hnf, hmf, HLF, HEF, HP⟩ : ∃ (Af : Option Addr) (nf2 cf2 : Nat) (lf : List CmdV) (mf : Nat) (Df : DataW Unit) (Ef : Nat → List Int), nf2 ≤ 11534337 ∧ mf ≤ m + 1 ∧ Hid (lf = l2 ++ [grpC nd v34]) ∧ Hid (Ef = upd E en (nd :: E en)) ∧ Hid (PLst w1.heap.size w1.heap.size gE M Af nf2 cf2 lf mf Df Ef w14) := ⟨_, _, _, _, _, _, _, by omega, by omega, rfl, rfl, HP9.out⟩
                    clear HP9
                    go_upto_region 29 with fail
                    have HP := Lib.hid HP.out.drew
                    have HGF := Lib.hid (show Blk (World.drew w14) _ _ _ from HGF.out)
                    have HGD := Lib.hid (show Blk (World.drew w14) _ _ _ from HGD.out)
                    have HGZ := Lib.hid (show Blk (World.drew w14) _ _ _ from HGZ.out)
                    have HBE := Lib.hid HBE.out.drew
                    have hS0 : (fun w' : World => w'.cell? ⟨w1.heap.size, 0, none⟩ = some (.slice Af nf2 cf2) ∧ w'.cell? ⟨gk, 0, none⟩ = some (.int .i64 mk) ∧ w'.cell? ⟨gk, 1, none⟩ = some (.int .i64 fgk.node) ∧ w'.cell? ⟨gk, 2, none⟩ = some (.int .i64 fgk.par) ∧ w'.cell? ⟨gk, 3, none⟩ = some (.int .i64 fgk.x) ∧ w'.cell? ⟨gk, 4, none⟩ = some (.int .i64 fgk.y) ∧ w'.cell? ⟨gk, 5, none⟩ = some (.int .i64 fgk.w) ∧ w'.cell? ⟨gk, 6, none⟩ = some (.int .i64 fgk.h) ∧ w'.cell? ⟨gk, 7, none⟩ = some (.string fgk.text) ∧ w'.rangeAt gz 0 (sty zk).toList) (World.drew w14) := ⟨HP.out.out.cell 0, HGF.out.cell 0, HGF.out.cell 1, HGF.out.cell 2, HGF.out.cell 3, HGF.out.cell 4, HGF.out.cell 5, HGF.out.cell 6, HGF.out.cell 7, range_blkA HGZ.out⟩
                    refine wp_region_noPanic ?_
                    refine region_M (S := fun w' => w'.cell? ⟨w1.heap.size, 0, none⟩ = some (.slice Af nf2 cf2) ∧ w'.cell? ⟨gk, 0, none⟩ = some (.int .i64 mk) ∧ w'.cell? ⟨gk, 1, none⟩ = some (.int .i64 fgk.node) ∧ w'.cell? ⟨gk, 2, none⟩ = some (.int .i64 fgk.par) ∧ w'.cell? ⟨gk, 3, none⟩ = some (.int .i64 fgk.x) ∧ w'.cell? ⟨gk, 4, none⟩ = some (.int .i64 fgk.y) ∧ w'.cell? ⟨gk, 5, none⟩ = some (.int .i64 fgk.w) ∧ w'.cell? ⟨gk, 6, none⟩ = some (.int .i64 fgk.h) ∧ w'.cell? ⟨gk, 7, none⟩ = some (.string fgk.text) ∧ w'.rangeAt gz 0 (sty zk).toList) (T := [6]) (by kernel_rfl) ?_
                    generalize World.drew w14 = w11 at HP HGF HGD HGZ HBE hS0 ⊢
                    refine anyM_take (i := 0) (oi := { dst := some 125, op := _, type := _, pos := _, after := _, guard := _ }) (v := ?_) rfl (by kernel_rfl) (fun _ _ _ h => h) (Or.inl ⟨by kernel_rfl, ?_⟩) hS0 ?_
                    rotate_left 1
                    · (intro w hSw; (try dsimp only at hSw); go_simp; try with_reducible rfl)
                    try simp only [Act.put, Array.toArray_toList, List.setIfInBounds_toArray, List.set_cons_zero, List.set_cons_succ]
                    refine anyM_take (i := 1) (oi := { dst := some 126, op := _, type := _, pos := _, after := _, guard := _ }) (v := ?_) rfl (by kernel_rfl) (fun _ _ _ h => h) (Or.inl ⟨by kernel_rfl, ?_⟩) hS0 ?_
                    rotate_left 1
                    · (intro w hSw; (try dsimp only at hSw); go_simp; try with_reducible rfl)
                    try simp only [Act.put, Array.toArray_toList, List.setIfInBounds_toArray, List.set_cons_zero, List.set_cons_succ]
                    refine anyM_free (i := 2) (oi := { dst := some 127, op := _, type := _, pos := _, after := _, guard := _ }) (v := ?_) rfl (by kernel_rfl) (fun _ _ _ h => h) (Or.inl ⟨by kernel_rfl, ?_⟩) (fun _ => hS0) ?_
                    rotate_left 1
                    · (intro w hSw; (try dsimp only at hSw); go_simp; try with_reducible rfl)
                    try simp only [Act.put, Array.toArray_toList, List.setIfInBounds_toArray, List.set_cons_zero, List.set_cons_succ]
                    refine anyM_take (i := 3) (oi := { dst := some 128, op := _, type := _, pos := _, after := _, guard := _ }) (v := _) rfl (by kernel_rfl) (fun _ _ _ h => h) (yieldsIf_load_mid (by kernel_rfl) _ _ rfl _ _ rfl (sty zk).toList _ (fun w' h => by simpa using h.2.2.2.2.2.2.2.2.2) Tryz.underlying35 rfl HSZk.out) hS0 ?_
                    try simp only [Act.put, Array.toArray_toList, List.setIfInBounds_toArray, List.set_cons_zero, List.set_cons_succ]
                    refine anyM_one (i := 4) (by kernel_rfl) rfl (fun K hK => ?_)
                    go_simp
                    refine (HFRG.out _).mono ?_
                    rintro e w12 ⟨A7, n7, c7, rfl, hn7, hl7, ho7, hb7⟩
                    have HP := Lib.hid (HP.out.below hb7)
                    have HGF := Lib.hid (HGF.out.below hb7 HGF.out.lt)
                    have HGD := Lib.hid (HGD.out.below hb7 HGD.out.lt)
                    have HGZ := Lib.hid (HGZ.out.below hb7 HGZ.out.lt)
                    have HBE := Lib.hid (below_then HBE.out hb7)
                    have HO7 := Lib.hid ho7
                    have HL7 := Lib.hid hl7
                    clear ho7 hb7 hl7
                    have hS0 : (fun w' : World => w'.cell? ⟨w1.heap.size, 0, none⟩ = some (.slice Af nf2 cf2) ∧ w'.cell? ⟨gk, 0, none⟩ = some (.int .i64 mk) ∧ w'.cell? ⟨gk, 1, none⟩ = some (.int .i64 fgk.node) ∧ w'.cell? ⟨gk, 2, none⟩ = some (.int .i64 fgk.par) ∧ w'.cell? ⟨gk, 3, none⟩ = some (.int .i64 fgk.x) ∧ w'.cell? ⟨gk, 4, none⟩ = some (.int .i64 fgk.y) ∧ w'.cell? ⟨gk, 5, none⟩ = some (.int .i64 fgk.w) ∧ w'.cell? ⟨gk, 6, none⟩ = some (.int .i64 fgk.h) ∧ w'.cell? ⟨gk, 7, none⟩ = some (.string fgk.text) ∧ w'.rangeAt gz 0 (sty zk).toList) w12 := ⟨HP.out.out.cell 0, HGF.out.cell 0, HGF.out.cell 1, HGF.out.cell 2, HGF.out.cell 3, HGF.out.cell 4, HGF.out.cell 5, HGF.out.cell 6, HGF.out.cell 7, range_blkA HGZ.out⟩
                    refine hK.out _ _ (fun _ => hS0) ?_
                    clear hK K
                    try simp only [Act.put, Array.toArray_toList, List.setIfInBounds_toArray, List.set_cons_zero, List.set_cons_succ]
                    refine anyM_one (i := 5) (by kernel_rfl) rfl (fun K hK => ?_)
                    rw [if_pos (by kernel_rfl)]
                    refine wp_append_any _ _ 57 rfl w1.heap.size 64 iC (.agg #[.int .i64 0, .int .i64 0, .int .i64 0, .int .i64 0, .int .i64 0, .int .i64 0, .int .i64 0, .int .i64 0, .string ⟨#[]⟩]) 9 80 Tryz.underlying57 hiC hzC0 hzC1 hzC2 rfl (by decide) (.slice Af nf2 cf2) nf2 (cmds lf) rfl HP.out.own A7 n7 c7 (cmds fr0) rfl (by rw [cmds_len9, HL7.out]) (own_srcP HO7.out rfl) (cmds_oneP _) (by unfold maxLen; omega) (by omega) HP.out.bw ?_
                    intro A15 c15 w13 ho9 hg9 hat9
                    have HT := Lib.hid (HP.out.told (ls := fr0) HL7.out ho9 hg9)
                    have HO9 := Lib.hid (blk_grown HP.out.out hg9 (blk_ne HP.out.out HP.out.own (by decide)))
                    have HGF9 := Lib.hid (blk_grown HGF.out hg9 (blk_ne HGF.out HP.out.own (by decide)))
                    have HGD9 := Lib.hid (blk_grown HGD.out hg9 (blk_ne HGD.out HP.out.own (by decide)))
                    have HGZ9 := Lib.hid (blk_grown HGZ.out hg9 (blk_ne HGZ.out HP.out.own (by decide)))
                    have hS0 : (fun w' : World => w'.cell? ⟨w1.heap.size, 0, none⟩ = some (.slice Af nf2 cf2) ∧ w'.cell? ⟨gk, 0, none⟩ = some (.int .i64 mk) ∧ w'.cell? ⟨gk, 1, none⟩ = some (.int .i64 fgk.node) ∧ w'.cell? ⟨gk, 2, none⟩ = some (.int .i64 fgk.par) ∧ w'.cell? ⟨gk, 3, none⟩ = some (.int .i64 fgk.x) ∧ w'.cell? ⟨gk, 4, none⟩ = some (.int .i64 fgk.y) ∧ w'.cell? ⟨gk, 5, none⟩ = some (.int .i64 fgk.w) ∧ w'.cell? ⟨gk, 6, none⟩ = some (.int .i64 fgk.h) ∧ w'.cell? ⟨gk, 7, none⟩ = some (.string fgk.text) ∧ w'.rangeAt gz 0 (sty zk).toList) w13 := ⟨HO9.out.cell 0, HGF9.out.cell 0, HGF9.out.cell 1, HGF9.out.cell 2, HGF9.out.cell 3, HGF9.out.cell 4, HGF9.out.cell 5, HGF9.out.cell 6, HGF9.out.cell 7, range_blkA HGZ9.out⟩
                    clear ho9 hg9 hat9 HGF9 HGD9 HGZ9
                    change K (Act.put _ (some 130) _) _
                    refine hK.out _ _ (fun _ => hS0) ?_
                    clear hK K
                    try simp only [Act.put, Array.toArray_toList, List.setIfInBounds_toArray, List.set_cons_zero, List.set_cons_succ]
                    refine anyM_one (i := 6) (by kernel_rfl) rfl (fun K hK => ?_)
                    have dd0 : w13.cell? ⟨w1.heap.size, 0, none⟩ = some (.slice Af nf2 cf2) := HO9.out.cell 0
                    have df0 : w13.frozen? ⟨w1.heap.size, 0, none⟩ = false := HO9.out.free 0
                    go_simp
                    clear dd0 df0
                    have HGF := Lib.hid (HT.out.2.1 _ _ _ HGF.out (blk_apart HGF.out HP.out.out (by decide)) (by decide))
                    have HGD := Lib.hid (HT.out.2.1 _ _ _ HGD.out (blk_apart HGD.out HP.out.out (by decide)) (by decide))
                    have HGZ := Lib.hid (HT.out.2.1 _ _ _ HGZ.out (blk_apart HGZ.out HP.out.out (by decide)) (by decide))
                    have HBE := Lib.hid (HBE.out.trans HT.out.2.2)
                    have HP := Lib.hid HT.out.1
                    clear HT HO9 HO7 HL7
                    generalize World.setCell w13 _ _ = w15 at HP HGF HGD HGZ HBE ⊢
                    refine hK.out _ _ (fun h => late_no h (by kernel_rfl)) ?_
                    clear hK K
                    try simp only [Act.put, Array.toArray_toList, List.setIfInBounds_toArray, List.set_cons_zero, List.set_cons_succ]
                    refine anyM_done (by kernel_rfl) ?_ _
                    refine NoPanic.normal ?_
                    clear hS0
                    obtain ⟨n15, hn15⟩ : ∃ n15, n15 = nf2 + n7 := ⟨_, rfl⟩
                    have hn15b : n15 ≤ 11534342 := by omega
                    rw [← hn15] at HP
                    clear hn15 hn7 hnf
                    obtain ⟨l15, hl15⟩ : ∃ l15, l15 = lf ++ fr0 := ⟨_, rfl⟩
                    rw [← hl15] at HP
                    have HL15 := Lib.hid hl15
                    clear hl15
                    have HROW := Lib.hid (range_blkA HGZ.out)
                    go_upto_if 133 with (first | (refine wpList_load_mid rfl 35 _ rfl gz 0 rfl (sty zk).toList _ HROW.out Tryz.underlying35 rfl HSZk.out ?_) | (go_at_call 44; refine (HCLC.out _).mono ?_; rintro e w16 ⟨rfl, hb16⟩; have HB16 := Lib.hid hb16; clear hb16))
                    have HP := Lib.hid (HP.out.below HB16.out)
                    have HGF := Lib.hid (HGF.out.below HB16.out HGF.out.lt)
                    have HGD := Lib.hid (HGD.out.below HB16.out HGD.out.lt)
                    have HGZ := Lib.hid (HGZ.out.below HB16.out HGZ.out.lt)
                    have HBE := Lib.hid (below_then HBE.out HB16.out)
                    clear HB16 HROW HCLC HFRG
                    cases cl0
                    · go_wp2_with fail
                      go_round
                      case rel => exact ⟨k + 1, A15, n15, c15, l15, mf, Df, Ef, by have := HKL.out; omega, by omega, by go_num, HP.out, HBE.out, by show _ = _; rw [HACC.out, HRN.out, HL15.out, HLF.out, HL2.out, HZ.out, HGR.out, HCP.out, HCS.out, ← HEN.out, HEF.out]; simp [upd_self, upd_same, upd_twice, List.append_assoc, clpC]⟩
                      case measure => have := HKL.out; simp [intOf]; omega
                    · have x0 : w16.cell? ⟨gk, 0, none⟩ = some (.int .i64 (mk : Int)) := HGF.out.cell 0
                      have x1 : w16.cell? ⟨gk, 1, none⟩ = some (.int .i64 fgk.node) := HGF.out.cell 1
                      have x2 : w16.cell? ⟨gk, 2, none⟩ = some (.int .i64 fgk.par) := HGF.out.cell 2
                      have x3 : w16.cell? ⟨gk, 3, none⟩ = some (.int .i64 fgk.x) := HGF.out.cell 3
                      have x4 : w16.cell? ⟨gk, 4, none⟩ = some (.int .i64 fgk.y) := HGF.out.cell 4
                      have x5 : w16.cell? ⟨gk, 5, none⟩ = some (.int .i64 fgk.w) := HGF.out.cell 5
                      have x6 : w16.cell? ⟨gk, 6, none⟩ = some (.int .i64 fgk.h) := HGF.out.cell 6
                      have x7 : w16.cell? ⟨gk, 7, none⟩ = some (.string fgk.text) := HGF.out.cell 7
                      have HROW := Lib.hid (range_blkA HGZ.out)
                      have HCP2 : Hid (pCp L ns k = [⟨3, nd, (innerR fgk zk).x, (innerR fgk zk).y, (innerR fgk zk).w, (innerR fgk zk).h, 0, 0, ⟨#[]⟩⟩]) := HCP.out
                      generalize (innerR fgk zk).x = jx at HINN HCP2
                      generalize (innerR fgk zk).y = jy at HINN HCP2
                      generalize (innerR fgk zk).w = jw at HINN HCP2
                      generalize (innerR fgk zk).h = jh at HINN HCP2
                      clear HCP
                      go_upto_region 32 with (first | (refine wpList_load_mid rfl 35 _ rfl gz 0 rfl (sty zk).toList _ HROW.out Tryz.underlying35 rfl HSZk.out ?_) | (go_at_call 45; refine (HINN.out _).mono ?_; rintro e w17 ⟨rfl, hb17⟩; have HB17 := Lib.hid hb17; clear hb17))
                      clear x0 x1 x2 x3 x4 x5 x6 x7 HROW HINN
                      have hb18 := below_then HB17.out (below_alloc (Below.refl w17.heap.size w17) (.cells #[.int .i64 jx, .int .i64 jy, .int .i64 jw, .int .i64 jh] 96))
                      have HR := Lib.hid (Blk.new w17 96 #[.int .i64 jx, .int .i64 jy, .int .i64 jw, .int .i64 jh])
                      have HP := Lib.hid (HP.out.below hb18)
                      have HGF := Lib.hid (HGF.out.below hb18 HGF.out.lt)
                      have HGD := Lib.hid (HGD.out.below hb18 HGD.out.lt)
                      have HBE := Lib.hid (below_then HBE.out hb18)
                      clear hb18 HB17
                      generalize World.alloc w17 _ = w18 at HR HP HGF HGD HBE ⊢
                      generalize w17.heap.size = gr at HR ⊢
                      have r0 : w18.cell? ⟨gr, 0, none⟩ = some (.int .i64 jx) := HR.out.cell 0
                      have r1 : w18.cell? ⟨gr, 1, none⟩ = some (.int .i64 jy) := HR.out.cell 1
                      have r2 : w18.cell? ⟨gr, 2, none⟩ = some (.int .i64 jw) := HR.out.cell 2
                      have r3 : w18.cell? ⟨gr, 3, none⟩ = some (.int .i64 jh) := HR.out.cell 3
                      have HOC := Lib.hid (HOPN.out w18 A15 n15 c15 l15 mf Df Ef 3 jx jy jw jh 0 HP.out HGF.out HGD.out (by omega) (by omega))
                      go_wp2_with (go_at_call 53; refine HOC.out.mono ?_; rintro e w19 ⟨rfl, ⟨A19, c19, D19, hp19⟩, hb19, _⟩; have HP19 := Lib.hid hp19; have HB19 := Lib.hid (HBE.out.trans hb19); clear hp19 hb19)
                      go_round
                      case rel => exact ⟨k + 1, A19, n15 + 1, c19, _, mf + 1, D19, _, by have := HKL.out; omega, by omega, by go_num, HP19.out, HB19.out, by show _ = _; rw [HACC.out, HRN.out, HL15.out, HLF.out, HL2.out, HZ.out, HGR.out, HCP2.out, HCS.out, ← HEN.out, HEF.out]; simp [upd_self, upd_same, upd_twice, List.append_assoc, clpC]⟩
                      case measure => have := HKL.out; simp [intOf]; omega
      · have HE : Hid (¬ (LayOk bs fs ∧ LooksOk nl bs)) := gok
        have HOY : Hid (Calls Tryz.prog 39 #[.slice Al nl cl, .agg #[.slice Ab nb cb, .slice Af nf cf, .int .i64 W1, .int .i64 H1]] w2 fun e w' => e = .returned (.tuple #[.slice none 0 0, .int .i64 3]) ∧ Below w2.heap.size w2 w') := by
          refine HOR.out.mono ?_
          rintro e w' ⟨hp, hb⟩
          rcases hp with ⟨h1, h2, _⟩ | ⟨_, rfl⟩
          · exact absurd ⟨h1, h2⟩ gok
          · exact ⟨rfl, hb⟩
        clear gok HOR
        go_wp2_with (go_at_call 39; refine HOY.out.mono ?_; rintro e w3 ⟨rfl, hb3⟩; have HB3 := Lib.hid hb3; clear hb3)
        go_ret2
        exact ⟨.inr (.inr (.inl ⟨G2.out, HSC.out, HE.out, rfl⟩)), below_then HW.out (below_then HB2.out HB3.out)⟩
    · have q2 : (sfitsE ns0 nl lz != 0) = true := by simp [g2]
      have HE : Hid (sfitsE ns0 nl lz ≠ 0) := g2
      clear g2
      obtain ⟨se, hse⟩ : ∃ se, se = sfitsE ns0 nl lz := ⟨_, rfl⟩
      rw [← hse] at HFI q2
      have HSE := Lib.hid hse
      clear hse
      go_wp2_with (go_at_call 27; refine (HFI.out _ HB1.out).mono ?_; rintro e w2 ⟨rfl, hb2⟩; have HB2 := Lib.hid (below_then HB1.out hb2); clear hb2)
      go_ret2
      exact ⟨.inl ⟨HE.out, by rw [HSE.out]; rfl⟩, below_then HW.out HB2.out⟩
  · obtain ⟨ce, hce⟩ : ∃ ce, ce = checkE ns0 := ⟨_, rfl⟩
    have HSO := Lib.hid (HSO.out g1)
    rw [← hce] at HCK g1 HSO
    have q1 : (ce != 0) = true := by simp [g1]
    have G1 := Lib.hid g1
    clear g1 hce
    go_wp2_with (go_at_call 26; refine (HCK.out _ (Below.refl _ _)).mono ?_; rintro e w1 ⟨rfl, hb1⟩; have HB1 := Lib.hid hb1; clear hb1)
    go_ret2
    exact ⟨.inl ⟨by rw [HSO.out]; exact G1.out, by rw [HSO.out]; rfl⟩, below_then HW.out HB1.out⟩
end Go.Proofs.YtkmmlcnoeeaekaaGreatDoor
