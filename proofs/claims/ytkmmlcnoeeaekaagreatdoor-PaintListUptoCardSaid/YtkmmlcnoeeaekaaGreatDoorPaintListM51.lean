/- Several texts in one: PntF. -/
import Derived.Test.YtkmmlcnoeeaekaaGreatDoorPaintListM50
import Derived.Test.YtkmmlcnoeeaekaaGreatDoorPaintListM49
/- The law's PaintList: the walk. -/
namespace Go.Proofs.YtkmmlcnoeeaekaaGreatDoor
open Go.RowKit
set_option linter.unusedVariables false
set_option linter.unusedSimpArgs false

set_option maxRecDepth 100000 in
set_option maxHeartbeats 8000000 in
theorem paintList_walk (I : InV) (Af : Option Addr) (nf cf : Nat) (fs : List FragV) (EW EH : Int) (ED EP : Bool) (w : World) (h : I.ok w w.heap.size) (hf : fs.length = nf) (hF : Frags w w.heap.size Af fs) (hm : nf ≤ 1048576) :
    Calls Tryz.prog 5 #[.agg #[.slice I.A I.n I.c, .bool I.q], .slice I.Al I.nl I.cl, .agg #[.int .i64 EW, .int .i64 EH, .bool ED, .bool EP], .agg #[.slice I.Ab I.nb I.cb, .slice Af nf cf, .int .i64 I.W1, .int .i64 I.H1]] w fun e w' => e = .returned (.bool true) ∧ Below w.heap.size w w' := by
  have hs1 : (w.alloc (.cells #[.slice I.A I.n I.c, .bool I.q] 24)).heap.size = w.heap.size + 1 := by simp
  have hs2 : ((w.alloc (.cells #[.slice I.A I.n I.c, .bool I.q] 24)).alloc (.cells #[.int .i64 EW, .int .i64 EH, .bool ED, .bool EP] 56)).heap.size = w.heap.size + 2 := by simp
  have HD := Lib.hid (((Blk.new w 24 #[.slice I.A I.n I.c, .bool I.q]).alloc (.cells #[.int .i64 EW, .int .i64 EH, .bool ED, .bool EP] 56)).alloc (.cells #[.slice I.Ab I.nb I.cb, .slice Af nf cf, .int .i64 I.W1, .int .i64 I.H1] 42))
  have HV := Lib.hid ((Blk.new (w.alloc (.cells #[.slice I.A I.n I.c, .bool I.q] 24)) 56 #[.int .i64 EW, .int .i64 EH, .bool ED, .bool EP]).alloc (.cells #[.slice I.Ab I.nb I.cb, .slice Af nf cf, .int .i64 I.W1, .int .i64 I.H1] 42))
  have HL := Lib.hid (Blk.new ((w.alloc (.cells #[.slice I.A I.n I.c, .bool I.q] 24)).alloc (.cells #[.int .i64 EW, .int .i64 EH, .bool ED, .bool EP] 56)) 42 #[.slice I.Ab I.nb I.cb, .slice Af nf cf, .int .i64 I.W1, .int .i64 I.H1])
  have HW := Lib.hid (below_alloc (below_alloc (below_alloc (Below.refl w.heap.size w) (.cells #[.slice I.A I.n I.c, .bool I.q] 24)) (.cells #[.int .i64 EW, .int .i64 EH, .bool ED, .bool EP] 56)) (.cells #[.slice I.Ab I.nb I.cb, .slice Af nf cf, .int .i64 I.W1, .int .i64 I.H1] 42))
  rw [hs1] at HV
  rw [hs2] at HL
  have HH := Lib.hid h
  have HF := Lib.hid hF
  have HNF := Lib.hid hf
  have HMF := Lib.hid hm
  clear h hF hf hm hs1 hs2
  obtain ⟨fs', hfs⟩ : ∃ fs', fs' = fs.map clampF := ⟨_, rfl⟩
  have HFB : Hid (∀ i, i < nf → FragB (fr fs' i)) := fun i hi => by
    have e : fr fs' i = clampF (fr fs i) := by
      rw [hfs]; unfold fr
      have hi' : i < fs.length := by have := HNF.out; omega
      rw [List.getD_eq_getElem?_getD, List.getD_eq_getElem?_getD, List.getElem?_map, List.getElem?_eq_getElem hi']; rfl
    rw [e]; exact clampF_ok _
  have HLN : Hid (fs'.length = nf) := by show fs'.length = nf; rw [hfs, List.length_map]; exact HNF.out
  obtain ⟨er, her⟩ : ∃ er, er = pErr I ⟨none, nf, 0, fs'⟩ EW EH := ⟨_, rfl⟩
  obtain ⟨hx, hhx⟩ : ∃ hx, hx = pOut I ⟨none, nf, 0, fs'⟩ EW EH := ⟨_, rfl⟩
  have HER := Lib.hid her
  have HHX := Lib.hid hhx
  have HPT := Lib.hid (fun ww => painted_calls ww)
  have HCL : Hid (∀ ww, Below w.heap.size w ww → Calls Tryz.prog 14 #[.slice Af nf cf] ww fun e w' => ∃ A' c', e = .returned (.slice A' nf c') ∧ w'.ownsRow ww.heap.size 88 8 (.slice A' nf c') nf (fs'.flatMap fragF) ∧ Below ww.heap.size ww w') := fun ww hb => by
    rw [hfs]
    exact clamped_calls Af nf cf fs ww HNF.out (Holds.more (HF.out.below hb (Nat.le_refl _)) hb.size) HMF.out
  have HOKF : Hid (∀ (ww : World) A' c', Frags ww ww.heap.size A' fs' → FrV.ok ⟨A', nf, c', fs'⟩ ww ww.heap.size) := fun ww A' c' hfr => ⟨HLN.out, hfr, HMF.out, HFB.out⟩
  have HOKI : Hid (∀ ww, Below w.heap.size w ww → I.ok ww ww.heap.size) := fun ww hb => (HH.out.below hb (Nat.le_refl _)).more hb.size
  have HPL : Hid (∀ ww A' c', Below w.heap.size w ww → Frags ww ww.heap.size A' fs' → Calls Tryz.prog 22 #[.agg #[.slice I.A I.n I.c, .bool I.q], .slice I.Al I.nl I.cl, .agg #[.int .i64 EW, .int .i64 EH, .bool ED, .bool EP], .agg #[.slice I.Ab I.nb I.cb, .slice A' nf c', .int .i64 I.W1, .int .i64 I.H1]] ww fun e w' => ∃ A2 c2, e = .returned (.tuple #[.slice A2 hx.length c2, .int .i64 er]) ∧ w'.ownsRow ww.heap.size 64 9 (.slice A2 hx.length c2) hx.length (cmds hx) ∧ Below ww.heap.size ww w') := fun ww A' c' hb hfr => by
    rw [her, hhx]
    exact plist2_calls I ⟨A', nf, c', fs'⟩ EW EH ED EP ww (HOKI.out ww hb) (HOKF.out ww A' c' hfr)
  obtain ⟨sE, hsE⟩ : ∃ sE, sE = sfitsE I.ns I.nl I.lz := ⟨_, rfl⟩
  have HSE := Lib.hid hsE
  have HWR : Hid (∀ ww, Below w.heap.size w ww → Calls Tryz.prog 7 #[.agg #[.slice I.A I.n I.c, .bool I.q], .slice I.Al I.nl I.cl] ww fun e w' => e = .returned (.int .i64 sE) ∧ Below ww.heap.size ww w') := fun ww hb => by
    rw [hsE]
    have h9 := HH.out
    exact wrong_calls I.A I.n I.c w.heap.size I.q I.ns I.Al I.nl I.cl I.lz ww h9.hn0 (h9.nodes.below hb (Nat.le_refl _)) hb.size h9.n0 h9.hl (h9.looks.below hb (Nat.le_refl _)) h9.nl0
  have HLY : Hid (∀ ww A' c', Below w.heap.size w ww → Frags ww ww.heap.size A' fs' → Calls Tryz.prog 17 #[.agg #[.slice I.Ab I.nb I.cb, .slice A' nf c', .int .i64 I.W1, .int .i64 I.H1]] ww fun e w' => e = .returned (.bool (layE I.bs fs' == 0)) ∧ Below ww.heap.size ww w') := fun ww A' c' hb hfr => by
    have h9 := HH.out
    exact rlay_calls I.Ab I.nb I.cb I.bs A' nf c' fs' I.W1 I.H1 ww.heap.size ww h9.hb HLN.out ((h9.boxes.below hb (Nat.le_refl _)).more' hb.size) hfr (Nat.le_refl _) h9.nb0 HMF.out
  obtain ⟨bad, hbad⟩ : ∃ bad, bad = (decide (sE = 0) && !(scrP EW EH)) := ⟨_, rfl⟩
  have HBAD := Lib.hid hbad
  clear hfs her hhx hsE hbad
  generalize hw0 : World.alloc (World.alloc (World.alloc w _) _) _ = w0 at HD HV HL HW
  go_enter Tryz.func5, Tryz.ntmps5
  go_upto_region 1 with fail
  clear hw0
  go_upto_region 3 with (go_at_call 21; refine (HPT.out _).mono ?_; rintro e w1 ⟨rfl, hb1⟩; have HB1 := Lib.hid hb1; clear hb1)
  have hsz := Nat.lt_of_lt_of_le HL.out.lt HB1.out.size
  have d1 : w1.cell? ⟨w.heap.size + 2, 1, none⟩ = some (.slice Af nf cf) := (HL.out.below HB1.out HL.out.lt).cell 1
  have f1 : w1.frozen? ⟨w.heap.size + 2, 1, none⟩ = false := (HL.out.below HB1.out HL.out.lt).free 1
  have HCL2 := Lib.hid (HCL.out w1 (below_then HW.out HB1.out))
  have HG2 := Lib.hid (fun w2 A' c' (hb2 : Below w1.heap.size w1 w2) => (by
    have hbl := HL.out.below HB1.out HL.out.lt
    have h3 := hbl.below hb2 hbl.lt
    have h4 := h3.stored 1 (.slice A' nf c')
    exact (⟨(h3.cell 1), h3.free 1, h4⟩ : w2.cell? ⟨w.heap.size + 2, 1, none⟩ = some (.slice Af nf cf) ∧ w2.frozen? ⟨w.heap.size + 2, 1, none⟩ = false ∧ Blk (w2.setCell ⟨w.heap.size + 2, 1, none⟩ (.slice A' nf c')) (w.heap.size + 2) 42 #[.slice I.Ab I.nb I.cb, .slice A' nf c', .int .i64 I.W1, .int .i64 I.H1])))
  go_upto_region 4 with (go_at_call 14; refine HCL2.out.mono ?_; rintro e w2 ⟨A', c', rfl, ho, hb2⟩; obtain ⟨d1, f1, hblk⟩ := HG2.out w2 A' c' hb2; have HBL := Lib.hid hblk; have HO := Lib.hid ho; have HB2 := Lib.hid hb2; clear ho hb2 hblk)
  have HB3 := Lib.hid (Below.setCell (p := ⟨w.heap.size + 2, 1, none⟩) (below_then (below_then HW.out HB1.out) HB2.out) (by show w.heap.size ≤ w.heap.size + 2; omega) (.slice A' nf c'))
  have hne : (Value.slice A' nf c').ownBlock ≠ some (w.heap.size + 2) := blk_ne ((HL.out.below HB1.out HL.out.lt).below HB2.out (HL.out.below HB1.out HL.out.lt).lt) HO.out (by decide)
  have hfr0 := own_setFar (b := w.heap.size + 2) (j := 1) (u := .slice A' nf c') HO.out hne
  have HFR : Hid (Frags (w2.setCell ⟨w.heap.size + 2, 1, none⟩ (.slice A' nf c')) (w2.setCell ⟨w.heap.size + 2, 1, none⟩ (.slice A' nf c')).heap.size A' fs') := Holds.of_own hfr0
  have hd1 := HD.out.below HB1.out HD.out.lt
  have hd2 := hd1.below HB2.out hd1.lt
  have HDD := Lib.hid (hd2.far (b := w.heap.size + 2) (i := 1) (by omega) (.slice A' nf c'))
  have hv1 := HV.out.below HB1.out HV.out.lt
  have hv2 := hv1.below HB2.out hv1.lt
  have HVV := Lib.hid (hv2.far (b := w.heap.size + 2) (i := 1) (by omega) (.slice A' nf c'))
  generalize w2.setCell _ _ = w3 at HBL HB3 HFR HDD HVV ⊢
  clear hd1 hd2 hv1 hv2 hfr0 hne d1 f1 HG2 HCL2 HB1 HB2 HO hsz HCL HF HD HV HL HW
  have HC : Hid (∀ ww, Below w3.heap.size w3 ww → (ww.cell? ⟨w.heap.size, 0, none⟩ = some (.slice I.A I.n I.c) ∧ ww.cell? ⟨w.heap.size, 1, none⟩ = some (.bool I.q) ∧ ww.cell? ⟨w.heap.size + 2, 0, none⟩ = some (.slice I.Ab I.nb I.cb) ∧ ww.cell? ⟨w.heap.size + 2, 1, none⟩ = some (.slice A' nf c') ∧ ww.cell? ⟨w.heap.size + 2, 2, none⟩ = some (.int .i64 I.W1) ∧ ww.cell? ⟨w.heap.size + 2, 3, none⟩ = some (.int .i64 I.H1) ∧ ww.cell? ⟨w.heap.size + 1, 0, none⟩ = some (.int .i64 EW) ∧ ww.cell? ⟨w.heap.size + 1, 1, none⟩ = some (.int .i64 EH)) ∧ Hid (Below w.heap.size w ww) ∧ Hid (Frags ww ww.heap.size A' fs')) := fun ww hb => by
    have h1 := HDD.out.below hb HDD.out.lt
    have h2 := HBL.out.below hb HBL.out.lt
    have h3 := HVV.out.below hb HVV.out.lt
    exact ⟨⟨h1.cell 0, h1.cell 1, h2.cell 0, h2.cell 1, h2.cell 2, h2.cell 3, h3.cell 0, h3.cell 1⟩, below_then HB3.out hb, Holds.more (HFR.out.below hb (Nat.le_refl _)) hb.size⟩
  obtain ⟨⟨a0, a1, b0, b1, b2, b3, e0, e1⟩, K1, K2⟩ := HC.out w3 (Below.refl _ _)
  have e2 : w3.cell? ⟨w.heap.size + 1, 2, none⟩ = some (.bool ED) := HVV.out.cell 2
  have e3 : w3.cell? ⟨w.heap.size + 1, 3, none⟩ = some (.bool EP) := HVV.out.cell 3
  have HPL3 := Lib.hid (HPL.out w3 A' c' K1.out K2.out)
  go_upto_region 5 with (go_at_call 22; refine HPL3.out.mono ?_; rintro e w4 ⟨A2, c2, rfl, ho, hb4⟩; have HO := Lib.hid ho; have HB4 := Lib.hid hb4; clear ho hb4)
  clear a0 a1 b0 b1 b2 b3 e0 e1 e2 e3 K1 K2 HPL HPL3
  obtain ⟨⟨a0, a1, b0, b1, b2, b3, e0, e1⟩, K1, K2⟩ := HC.out w4 HB4.out
  have HWR4 := Lib.hid (HWR.out w4 K1.out)
  go_upto_region 6 with (go_at_call 7; refine HWR4.out.mono ?_; rintro e w5 ⟨rfl, hb5⟩; have HB5 := Lib.hid (below_then HB4.out hb5); have HO := Lib.hid (own_below HO.out hb5); clear hb5)
  clear a0 a1 b0 b1 b2 b3 e0 e1 K1 K2
  clear HWR HWR4 HB4
  obtain ⟨⟨a0, a1, b0, b1, b2, b3, e0, e1⟩, K1, K2⟩ := HC.out w5 HB5.out
  go_cut [52] from 32 to 52 (fun v wx => v = .bool bad ∧ wx = w5)
  case first =>
    by_cases g1 : sE = 0
    · have q1 : (sE == 0) = true := by simp [g1]
      have HB2 : Hid (bad = !(scrP EW EH)) := by show _ = _; rw [HBAD.out]; simp [g1]
      clear g1
      by_cases x1 : EW < 1
      · have p1 : decide (EW < 1) = true := decide_eq_true x1
        have HE : Hid (bad = true) := by show _ = _; rw [HB2.out]; unfold scrP scrB; simp; omega
        clear x1
        go_wp2_with fail
        go_meet
        case rel => exact ⟨by rw [HE.out], rfl⟩
      · have p1 : decide (EW < 1) = false := decide_eq_false x1
        by_cases x2 : 4000 < EW
        · have p2 : decide (4000 < EW) = true := decide_eq_true x2
          have HE : Hid (bad = true) := by show _ = _; rw [HB2.out]; unfold scrP scrB; simp; omega
          clear x1 x2
          go_wp2_with fail
          go_meet
          case rel => exact ⟨by rw [HE.out], rfl⟩
        · have p2 : decide (4000 < EW) = false := decide_eq_false x2
          by_cases x3 : EH < 1
          · have p3 : decide (EH < 1) = true := decide_eq_true x3
            have HE : Hid (bad = true) := by show _ = _; rw [HB2.out]; unfold scrP scrB; simp; omega
            clear x1 x2 x3
            go_wp2_with fail
            go_meet
            case rel => exact ⟨by rw [HE.out], rfl⟩
          · have p3 : decide (EH < 1) = false := decide_eq_false x3
            have HE : Hid (bad = decide (4000 < EH)) := by
              show _ = _
              rw [HB2.out]
              unfold scrP scrB
              rw [Bool.eq_iff_iff]
              simp
              omega
            clear x1 x2 x3
            go_wp2_with fail
            go_meet
            case rel => exact ⟨by rw [HE.out], rfl⟩
    · have q1 : (sE == 0) = false := by simp [g1]
      have HE : Hid (bad = false) := by show _ = _; rw [HBAD.out]; simp [g1]
      clear g1
      go_wp2_with fail
      go_meet
      case rel => exact ⟨by rw [HE.out], rfl⟩
  case rest =>
    obtain ⟨rfl, rfl⟩ := hcut
    obtain ⟨w5, rfl⟩ : ∃ w5, w5 = wc := ⟨_, rfl⟩
    have HLY5 := Lib.hid (HLY.out w5 A' c' K1.out K2.out)
    cases bad
    · by_cases g1 : sE = 0
      · have hsc : scrP EW EH = true := by
          have h9 := HBAD.out
          rw [g1] at h9
          simpa using h9
        have HSC := Lib.hid hsc
        clear hsc HBAD
        subst g1
        obtain ⟨lE, hlE⟩ : ∃ lE, lE = layE I.bs fs' := ⟨_, rfl⟩
        rw [← hlE] at HLY5
        by_cases g2 : LayOk I.bs fs'
        · have e2 : lE = 0 := by rw [hlE]; exact layE_yes g2
          subst e2
          have G2 := Lib.hid g2
          clear hlE g2
          go_upto_region 12 with (go_at_call 17; refine HLY5.out.mono ?_; rintro e w7 ⟨rfl, hb7⟩; have HB7 := Lib.hid (below_then HB5.out hb7); have HO := Lib.hid (own_below HO.out hb7); clear hb7)
          clear a0 a1 b0 b1 b2 b3 e0 e1 K1 K2
          clear HLY HLY5 HB5
          obtain ⟨⟨a0, a1, b0, b1, b2, b3, e0, e1⟩, K1, K2⟩ := HC.out w7 HB7.out
          have HLK := Lib.hid (looks_calls I.Ab I.nb I.cb I.bs I.Al I.nl I.cl I.lz I.tbl w7.heap.size w7 HH.out.hb HH.out.hl ((HH.out.boxes.below K1.out (Nat.le_refl _)).more' K1.out.size) (Holds.more (HH.out.looks.below K1.out (Nat.le_refl _)) K1.out.size) (HH.out.tab.below K1.out HH.out.pos) (Nat.le_refl _) (Nat.lt_of_lt_of_le HH.out.pos K1.out.size) HH.out.nb0 HH.out.nl0)
          by_cases g3 : LooksOk I.nl I.bs
          · have HNB : Hid (0 < I.nb) := by
              have h1 := G2.out.2
              have h3 := h1.1 0 h1.2.1
              have h4 := h3.1
              have h5 := h3.2.1
              have h6 := HH.out.hb
              show _ < _
              omega
            have HLK2 : Hid (Calls Tryz.prog 18 #[.slice I.Ab I.nb I.cb, .slice I.Al I.nl I.cl] w7 fun e w' => ∃ gL cL, e = .returned (.tuple #[.slice (some ⟨gL, 0, none⟩) I.nb cL, .int .i64 0]) ∧ w'.ownsRow w7.heap.size 35 118 (.slice (some ⟨gL, 0, none⟩) I.nb cL) I.nb (rows I.nb (lookRow I.lz I.tbl I.bs)) ∧ Below w7.heap.size w7 w') := by
              refine HLK.out.mono ?_
              rintro e w' ⟨hp, hb⟩
              rcases hp with ⟨v, rfl, ho, _⟩ | ⟨_, hno⟩
              · obtain ⟨g, cap, rfl, _, _⟩ := own_some ho HNB.out
                exact ⟨g, cap, rfl, ho, hb⟩
              · exact absurd g3 hno
            have h1 : er = 0 := by rw [HER.out]; unfold pErr; rw [if_neg (fun h => h HSE.out.symm), if_neg (by rw [HSC.out]; decide), if_pos ⟨G2.out, g3⟩]
            have h2 : hx = pLst I ⟨A', nf, c', fs'⟩ := by rw [HHX.out]; unfold pOut; rw [if_pos (by rw [← HER.out, h1])]; rfl
            have HH2 := Lib.hid h2
            have HSTK : Hid (∀ (ww : World) gL cL, Below w3.heap.size w3 ww → ww.ownsRow w7.heap.size 35 118 (.slice (some ⟨gL, 0, none⟩) I.nb cL) I.nb (rows I.nb (lookRow I.lz I.tbl I.bs)) → (pNs I ⟨A', nf, c', fs'⟩).length ≤ 1048576 ∧ (pLst I ⟨A', nf, c', fs'⟩).length ≤ 9437184 ∧ Calls Tryz.prog 23 #[.slice (some ⟨gL, 0, none⟩) I.nb cL, .agg #[.slice I.Ab I.nb I.cb, .slice A' nf c', .int .i64 I.W1, .int .i64 I.H1]] ww fun e w' => ∃ As cs, e = .returned (.slice As (pNs I ⟨A', nf, c', fs'⟩).length cs) ∧ w'.ownsRow ww.heap.size 94 2 (.slice As (pNs I ⟨A', nf, c', fs'⟩).length cs) (pNs I ⟨A', nf, c', fs'⟩).length (steps (pNs I ⟨A', nf, c', fs'⟩)) ∧ Below ww.heap.size ww w') := fun ww gL cL hb ho => by
              obtain ⟨_, K1, K2⟩ := HC.out ww hb
              exact ⟨pNs_len I ⟨A', nf, c', fs'⟩ gL cL w7.heap.size ww (HOKI.out ww K1.out) (HOKF.out ww A' c' K2.out) ho G2.out, pLst_len I ⟨A', nf, c', fs'⟩ gL cL w7.heap.size ww (HOKI.out ww K1.out) (HOKF.out ww A' c' K2.out) ho G2.out, rstack2_calls I ⟨A', nf, c', fs'⟩ gL cL w7.heap.size ww (HOKI.out ww K1.out) (HOKF.out ww A' c' K2.out) ho G2.out⟩
            have HRC : Hid (∀ (ww : World) gL cL As cs, Below w3.heap.size w3 ww → ww.ownsRow w7.heap.size 35 118 (.slice (some ⟨gL, 0, none⟩) I.nb cL) I.nb (rows I.nb (lookRow I.lz I.tbl I.bs)) → Holds ww ww.heap.size As (steps (pNs I ⟨A', nf, c', fs'⟩)) → Calls Tryz.prog 25 #[.slice (some ⟨gL, 0, none⟩) I.nb cL, .agg #[.slice I.Ab I.nb I.cb, .slice A' nf c', .int .i64 I.W1, .int .i64 I.H1], .slice As (pNs I ⟨A', nf, c', fs'⟩).length cs, .int .i64 0, .int .i64 ((pNs I ⟨A', nf, c', fs'⟩).length : Nat)] ww fun e w' => ∃ A5 c5, e = .returned (.slice A5 hx.length c5) ∧ w'.ownsRow ww.heap.size 64 9 (.slice A5 hx.length c5) hx.length (cmds hx) ∧ Below ww.heap.size ww w') := fun ww gL cL As cs hb ho hS => by
              obtain ⟨_, K1, K2⟩ := HC.out ww hb
              rw [HH2.out]
              exact rcmds2_calls I ⟨A', nf, c', fs'⟩ gL cL w7.heap.size ww (HOKI.out ww K1.out) (HOKF.out ww A' c' K2.out) ho G2.out As cs hS
            have hlx : hx.length ≤ 9437184 ∨ True := .inr trivial
            rw [← h2] at HSTK
            clear HER HHX HSE HLK g3 h2 hlx HH2
            subst h1
            obtain ⟨ns, hns⟩ : ∃ ns, ns = pNs I ⟨A', nf, c', fs'⟩ := ⟨_, rfl⟩
            rw [← hns] at HSTK HRC
            clear hns
            go_upto_region 15 with (go_at_call 18; refine HLK2.out.mono ?_; rintro e w8 ⟨gL, cL, rfl, hol, hb8⟩; have HB8 := Lib.hid (below_then HB7.out hb8); have HOL := Lib.hid hol; have HO := Lib.hid (own_below HO.out hb8); clear hb8 hol)
            clear a0 a1 b0 b1 b2 b3 e0 e1 K1 K2
            clear HB7 HLK2
            obtain ⟨⟨a0, a1, b0, b1, b2, b3, e0, e1⟩, K1, K2⟩ := HC.out w8 HB8.out
            obtain ⟨hnl, hxl, hst⟩ := HSTK.out w8 gL cL HB8.out HOL.out
            have HST8 := Lib.hid hst
            clear hst HSTK
            generalize hx.length = nx at HO HST8 HRC hxl ⊢
            go_upto_region 16 with (go_at_call 23; refine HST8.out.mono ?_; rintro e w9 ⟨As, cs, rfl, hos, hb9⟩; have HB9 := Lib.hid (below_then HB8.out hb9); have HOS := Lib.hid hos; have HOL := Lib.hid (own_below HOL.out hb9); have HO := Lib.hid (own_below HO.out hb9); clear hb9 hos)
            clear a0 a1 b0 b1 b2 b3 e0 e1 K1 K2
            clear HST8 HB8
            have HRC9 := Lib.hid (fun (ww : World) (hb : Below w9.heap.size w9 ww) => HRC.out ww gL cL As cs (below_then HB9.out hb) (own_below HOL.out hb) (Holds.of_own (own_below HOS.out hb)))
            have HEQ := Lib.hid (fun (ww : World) (A5 : Option Addr) (c5 : Nat) (B5 : Nat) (h5 : ww.ownsRow B5 64 9 (.slice A5 nx c5) nx (cmds hx)) (h4 : ww.ownsRow w3.heap.size 64 9 (.slice A2 nx c2) nx (cmds hx)) => eqCmd_calls A2 A5 nx c2 c5 ww.heap.size ww.heap.size hx ww (by have h9 := h5.1; rw [cmds_len9] at h9; omega) (Holds.of_own h4) (Holds.of_own h5) (by omega) (Nat.le_refl _) (Nat.le_refl _))
            clear HRC
            generalize ns.length = ln at HRC9 hnl ⊢
            go_wp2_with (first | (go_at_call 21; refine (HPT.out _).mono ?_; rintro e w10 ⟨rfl, hb10⟩; have HB10 := Lib.hid hb10; obtain ⟨⟨_, _, b0, b1, b2, b3, _, _⟩, _, _⟩ := HC.out w10 (below_then HB9.out hb10); clear hb10) | (go_at_call 25; refine (HRC9.out _ HB10.out).mono ?_; rintro e w11 ⟨A5, c5, rfl, ho11, hb11⟩; have HO11 := Lib.hid ho11; have HB11 := Lib.hid (below_then HB10.out hb11); clear ho11 hb11) | (go_at_call 24; refine (HEQ.out _ A5 c5 _ HO11.out (own_below HO.out HB11.out)).mono ?_; rintro e w12 ⟨rfl, hb12⟩; have HB12 := Lib.hid (below_then HB11.out hb12); clear hb12))
            go_ret
            exact ⟨rfl, below_then HB3.out (below_then HB9.out HB12.out)⟩
          · have HLK2 : Hid (Calls Tryz.prog 18 #[.slice I.Ab I.nb I.cb, .slice I.Al I.nl I.cl] w7 fun e w' => e = .returned (.tuple #[.slice none 0 0, .int .i64 3]) ∧ Below w7.heap.size w7 w') := by
              refine HLK.out.mono ?_
              rintro e w' ⟨hp, hb⟩
              rcases hp with ⟨v, _, _, ho⟩ | ⟨rfl, _⟩
              · exact absurd ho g3
              · exact ⟨rfl, hb⟩
            have h1 : er = 3 := by rw [HER.out]; unfold pErr; rw [if_neg (fun h => h HSE.out.symm), if_neg (by rw [HSC.out]; decide), if_neg (fun h => g3 h.2)]
            have h2 : hx = [] := by rw [HHX.out]; unfold pOut; rw [if_neg (by rw [← HER.out, h1]; decide)]
            clear HER HHX HSE HLK g3 HSC
            subst h1
            subst h2
            go_wp2_with (first | (go_at_call 18; refine HLK2.out.mono ?_; rintro e w8 ⟨rfl, hb8⟩; have HB8 := Lib.hid (below_then HB7.out hb8); clear hb8) | (go_at_call 21; refine (HPT.out _).mono ?_; rintro e wp ⟨rfl, hbp⟩; have HBP := Lib.hid (below_then HB8.out hbp); clear hbp))
            go_ret
            exact ⟨rfl, below_then HB3.out HBP.out⟩
        · have e2 : lE = 3 := by rw [hlE]; exact layE_no g2
          have h1 : er = 3 := by rw [HER.out]; unfold pErr; rw [if_neg (fun h => h HSE.out.symm), if_neg (by rw [HSC.out]; decide), if_neg (fun h => g2 h.1)]
          have h2 : hx = [] := by rw [HHX.out]; unfold pOut; rw [if_neg (by rw [← HER.out, h1]; decide)]
          clear HER HHX HSE hlE HLY g2 HSC
          subst e2
          subst h1
          subst h2
          go_wp2_with (first | (go_at_call 17; refine HLY5.out.mono ?_; rintro e w7 ⟨rfl, hb7⟩; have HB7 := Lib.hid (below_then HB5.out hb7); clear hb7) | (go_at_call 21; refine (HPT.out _).mono ?_; rintro e wp ⟨rfl, hbp⟩; have HBP := Lib.hid (below_then HB7.out hbp); clear hbp))
          go_ret
          exact ⟨rfl, below_then HB3.out HBP.out⟩
      · have q1 : (sE == 0) = false := by simp [g1]
        have q2 : (sE != 0) = true := by simp [g1]
        have h1 : er = sE := by rw [HER.out, HSE.out]; unfold pErr; rw [if_pos (by rw [← HSE.out]; exact g1)]
        have h2 : hx = [] := by rw [HHX.out]; unfold pOut; rw [if_neg (by rw [← HER.out, h1]; exact g1)]
        clear HER HHX HSE HLY HLY5 HBAD
        subst h1
        subst h2
        clear g1
        go_wp2_with (go_at_call 21; refine (HPT.out _).mono ?_; rintro e wp ⟨rfl, hbp⟩; have HBP := Lib.hid (below_then HB5.out hbp); clear hbp)
        go_ret
        exact ⟨rfl, below_then HB3.out HBP.out⟩
    · have hh : sE = 0 ∧ scrP EW EH = false := by
        have h9 := HBAD.out
        simp at h9
        exact h9
      have h1 : er = 1 := by rw [HER.out]; unfold pErr; rw [if_neg (fun h => h (HSE.out.symm.trans hh.1)), if_pos hh.2]
      have h2 : hx = [] := by rw [HHX.out]; unfold pOut; rw [if_neg (by rw [← HER.out, h1]; decide)]
      obtain ⟨h0, _⟩ := hh
      clear HER HHX HSE HLY HLY5 HBAD
      subst h1
      subst h2
      subst h0
      go_wp2_with (go_at_call 21; refine (HPT.out _).mono ?_; rintro e wp ⟨rfl, hbp⟩; have HBP := Lib.hid (below_then HB5.out hbp); clear hbp)
      go_ret
      exact ⟨rfl, below_then HB3.out HBP.out⟩
end Go.Proofs.YtkmmlcnoeeaekaaGreatDoor
