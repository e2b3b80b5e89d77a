/- Several texts in one: HitF. -/
import Derived.Test.YtkmmlcnoeeaekaaGreatDoorHitAllM44
import Derived.Test.YtkmmlcnoeeaekaaGreatDoorHitAllM13
import Derived.Deep.Cut
import Derived.Deep.CutRange
import Derived.Deep.CutBlock
/- Contract of hit.All. -/
namespace Go.Proofs.YtkmmlcnoeeaekaaGreatDoor
open Go.RowKit
set_option linter.unusedVariables false
set_option linter.unusedSimpArgs false

theorem info_intH : (Tryz.prog.info? 3).map (fun i => (i.zero, i.size, i.bytes)) = some (some (.int .i64 0), 1, 8) := by kernel_rfl
theorem info_clipH : (Tryz.prog.info? 98).map (fun i => (i.zero, i.size, i.bytes)) = some (some (.agg #[.int .i64 0, .int .i64 0, .int .i64 0, .int .i64 0, .int .i64 0]), 5, 40) := by kernel_rfl
/-- What hit.All answers. -/
def AllPost (ns0 : List NodeV) (bs : List BoxV) (fs : List FragV) (nl : Nat) (lz tbl : List Int) (L : LayV) (x y : Int) (w : World) (e : Ending) (w' : World) : Prop :=
  ((sfitsE ns0 nl lz ≠ 0 ∧ e = .returned (.tuple #[.slice none 0 0, .int .i64 (sfitsE ns0 nl lz)])) ∨
   (sfitsE ns0 nl lz = 0 ∧ ¬ (LayOk bs fs ∧ LooksOk nl bs) ∧ e = .returned (.tuple #[.slice none 0 0, .int .i64 3])) ∨
   (sfitsE ns0 nl lz = 0 ∧ LayOk bs fs ∧ LooksOk nl bs ∧ ∃ v, e = .returned (.tuple #[v, .int .i64 0]) ∧
     w'.ownsRow w.heap.size 3 1 v (hits L (stepsOf bs fs (lookAt lz tbl bs)) (cut x) (cut y) (stepsOf bs fs (lookAt lz tbl bs)).length).length (ints (hits L (stepsOf bs fs (lookAt lz tbl bs)) (cut x) (cut y) (stepsOf bs fs (lookAt lz tbl bs)).length)))) ∧ Below w.heap.size w w'
set_option maxRecDepth 1000000 in
set_option maxHeartbeats 40000000 in
theorem all_calls (A : Option Addr) (n c : Nat) (q : Bool) (ns0 : List NodeV) (Al : Option Addr) (nl cl : Nat) (lz tbl : List Int) (Ab : Option Addr) (nb cb : Nat) (bs : List BoxV) (Af : Option Addr) (nf cf : Nat) (fs : List FragV) (W1 H1 x y : Int) (w : World)
    (hn0 : ns0.length = n) (h1 : Nodes w w.heap.size A ns0) (hm1 : n ≤ 1048576) (hl : lz.length = nl * 118) (hn : bs.length = nb) (hf : fs.length = nf)
    (h : Boxes w w.heap.size Ab bs) (h2 : Frags w w.heap.size Af fs) (h3 : Holds w w.heap.size Al (ints lz)) (hT : TabAt w tbl) (h0 : 0 < w.heap.size) (h64 : In64 lz) (ht64 : In64 tbl) (hm : nb ≤ 1048576) (hm2 : nf ≤ 1048576) (hm3 : nl ≤ 1048576) (hfb : ∀ i, i < nf → FragB (fr fs i)) :
    Calls Tryz.prog 15 #[.agg #[.slice A n c, .bool q], .slice Al nl cl, .agg #[.slice Ab nb cb, .slice Af nf cf, .int .i64 W1, .int .i64 H1], .int .i64 x, .int .i64 y] w (AllPost ns0 bs fs nl lz tbl (layV Ab nb cb bs Af nf cf fs W1 H1 0 0 (lookAt lz tbl bs)) x y w) := by
  have mixed : Tryz.prog.follows .mixedOrders = true := by kernel_rfl
  obtain ⟨iI, hiI, hzI0, hzI1, hzI2⟩ := info_partsK info_intH
  obtain ⟨iC, hiC, hzC0, hzC1, hzC2⟩ := info_partsK info_clipH
  obtain ⟨w0, hw0⟩ : ∃ w0, w0 = (w.alloc (.cells #[.slice A n c, .bool q] 24)).alloc (.cells #[.slice Ab nb cb, .slice Af nf cf, .int .i64 W1, .int .i64 H1] 42) := ⟨_, rfl⟩
  have hs1 : (w.alloc (.cells #[.slice A n c, .bool q] 24)).heap.size = w.heap.size + 1 := by simp
  have HW : Hid (Below w.heap.size w w0) := by rw [hw0]; exact below_alloc (below_alloc (Below.refl _ _) _) _
  have HDD : Hid (Blk w0 w.heap.size 24 #[.slice A n c, .bool q]) := by rw [hw0]; exact (Blk.new w _ _).alloc _
  have HDL : Hid (Blk w0 (w.heap.size + 1) 42 #[.slice Ab nb cb, .slice Af nf cf, .int .i64 W1, .int .i64 H1]) := by rw [hw0]; have := Blk.new (w.alloc (.cells #[.slice A n c, .bool q] 24)) 42 #[.slice Ab nb cb, .slice Af nf cf, .int .i64 W1, .int .i64 H1]; rw [hs1] at this; exact this
  have HN2 : Hid (w.heap.size ≤ w0.heap.size) := HW.out.size
  have HN := Lib.hid (h1.below HW.out (Nat.le_refl _))
  have HB := Lib.hid (h.below HW.out (Nat.le_refl _))
  have HFR := Lib.hid (h2.below HW.out (Nat.le_refl _))
  have HLS := Lib.hid (h3.below HW.out (Nat.le_refl _))
  have HTB := Lib.hid (hT.below HW.out h0)
  have HFB := Lib.hid hfb
  have HL := Lib.hid hl
  have H64 := Lib.hid (And.intro h64 ht64)
  have HNB := Lib.hid (And.intro hn hf)
  have HN0 := Lib.hid hn0
  have HPOS := Lib.hid h0
  clear hs1 h1 h h2 h3 hT hfb hl h64 ht64 hn hf hn0 h0
  have HCK := Lib.hid (fun (ww : World) (hb : Below w0.heap.size w0 ww) => dcheck_calls A n c w.heap.size q ns0 ww HN0.out (HN.out.below hb HN2.out) (Nat.le_trans HN2.out hb.size) hm1)
  have HFI := Lib.hid (fun (ww : World) (hb : Below w0.heap.size w0 ww) => sfits_calls A n c w.heap.size q ns0 Al nl cl lz ww HN0.out (HN.out.below hb HN2.out) (Nat.le_trans HN2.out hb.size) hm1 HL.out (HLS.out.below hb HN2.out) hm3)
  have HSO := Lib.hid (fun h => sfits_of (ns := ns0) (nl := nl) (lz := lz) h)
  go_enter Tryz.func15, Tryz.ntmps15
  go_upto_region 1 with fail
  rw [← hw0]
  clear hw0
  have d0 : w0.cell? ⟨w.heap.size, 0, none⟩ = some (.slice A n c) := HDD.out.cell 0
  have d1 : w0.cell? ⟨w.heap.size, 1, none⟩ = some (.bool q) := HDD.out.cell 1
  by_cases g1 : checkE ns0 = 0
  · rw [g1] at HCK
    clear g1
    go_upto_region 4 with (go_at_call 26; refine (HCK.out _ (Below.refl _ _)).mono ?_; rintro e w1 ⟨rfl, hb1⟩; have HB1 := Lib.hid hb1; have d0 : w1.cell? ⟨w.heap.size, 0, none⟩ = some (.slice A n c) := (HDD.out.below hb1 HDD.out.lt).cell 0; have d1 : w1.cell? ⟨w.heap.size, 1, none⟩ = some (.bool q) := (HDD.out.below hb1 HDD.out.lt).cell 1; clear hb1)
    by_cases g2 : sfitsE ns0 nl lz = 0
    · have G2 := Lib.hid g2
      rw [g2] at HFI
      clear g2 HSO HCK
      go_upto_region 7 with (go_at_call 27; refine (HFI.out _ HB1.out).mono ?_; rintro e w2 ⟨rfl, hb2⟩; have HB2 := Lib.hid (below_then HB1.out hb2); clear hb2)
      clear d0 d1 HFI
      have d0 : w2.cell? ⟨w.heap.size + 1, 0, none⟩ = some (.slice Ab nb cb) := (HDL.out.below HB2.out HDL.out.lt).cell 0
      have d1 : w2.cell? ⟨w.heap.size + 1, 1, none⟩ = some (.slice Af nf cf) := (HDL.out.below HB2.out HDL.out.lt).cell 1
      have d2 : w2.cell? ⟨w.heap.size + 1, 2, none⟩ = some (.int .i64 W1) := (HDL.out.below HB2.out HDL.out.lt).cell 2
      have d3 : w2.cell? ⟨w.heap.size + 1, 3, none⟩ = some (.int .i64 H1) := (HDL.out.below HB2.out HDL.out.lt).cell 3
      have HOR := Lib.hid (order_calls Al nl cl lz tbl Ab nb cb bs Af nf cf fs W1 H1 w2 HL.out HNB.out.1 HNB.out.2 ((HB.out.below HB2.out HN2.out).more' (Nat.le_trans HN2.out HB2.out.size)) (Holds.more (HFR.out.below HB2.out HN2.out) (Nat.le_trans HN2.out HB2.out.size)) ((HLS.out.below HB2.out HN2.out).more (Nat.le_trans HN2.out HB2.out.size)) (HTB.out.below HB2.out (Nat.lt_of_lt_of_le HPOS.out HN2.out)) (Nat.lt_of_lt_of_le HPOS.out (Nat.le_trans HN2.out HB2.out.size)) H64.out.1 H64.out.2 hm hm2 hm3)
      by_cases gok : LayOk bs fs ∧ LooksOk nl bs
      · obtain ⟨ns, hns⟩ : ∃ ns, ns = stepsOf bs fs (lookAt lz tbl bs) := ⟨_, rfl⟩
        have HNS := Lib.hid hns
        have HOY : Hid (Calls Tryz.prog 39 #[.slice Al nl cl, .agg #[.slice Ab nb cb, .slice Af nf cf, .int .i64 W1, .int .i64 H1]] w2 fun e w' => ∃ A' c', e = .returned (.tuple #[.slice A' ns.length c', .int .i64 0]) ∧ w'.ownsRow w2.heap.size 94 2 (.slice A' ns.length c') ns.length (steps ns) ∧ Below w2.heap.size w2 w') := by
          refine HOR.out.mono ?_
          rintro e w' ⟨hp, hb⟩
          rcases hp with ⟨_, _, v, rfl, ho⟩ | ⟨hno, _⟩
          · rw [← hns] at ho
            obtain ⟨A', c', rfl⟩ := own_open ho
            exact ⟨A', c', rfl, ho, hb⟩
          · exact absurd gok hno
        have HNBP : Hid (0 < nb ∧ 0 < nf) := by
          have h1 := gok.1.2
          have h2 := h1.2.1
          have h3 := h1.1 0 h2
          have h4 := h3.1
          have h5 := h3.2.1
          show _ ∧ _
          rw [← HNB.out.1, ← HNB.out.2]
          exact ⟨by omega, h2⟩
        have GOK := Lib.hid gok
        have HLC : Hid (∀ ww, Below w2.heap.size w2 ww → Calls Tryz.prog 18 #[.slice Ab nb cb, .slice Al nl cl] ww fun e w' => ∃ gL cL, e = .returned (.tuple #[.slice (some ⟨gL, 0, none⟩) nb cL, .int .i64 0]) ∧ w'.ownsRow ww.heap.size 35 118 (.slice (some ⟨gL, 0, none⟩) nb cL) nb (rows nb (lookRow lz tbl bs)) ∧ Below ww.heap.size ww w') := by
          intro ww hb
          have hb2 := below_then HB2.out hb
          refine (looks_calls Ab nb cb bs Al nl cl lz tbl w.heap.size ww HNB.out.1 HL.out (HB.out.below hb2 HN2.out) (HLS.out.below hb2 HN2.out) (HTB.out.below hb2 (Nat.lt_of_lt_of_le HPOS.out HN2.out)) (Nat.le_trans HN2.out hb2.size) HPOS.out hm hm3).mono ?_
          rintro e w' ⟨hp, hb3⟩
          rcases hp with ⟨v, rfl, ho, _⟩ | ⟨_, hno⟩
          · obtain ⟨g, cap, rfl, _, _⟩ := own_some ho HNBP.out.1
            exact ⟨g, cap, rfl, ho, hb3⟩
          · exact absurd GOK.out.2 hno
        have HCU := Lib.hid (fun z ww => cut_calls z ww)
        clear gok hns HOR
        go_upto_region 10 with (go_at_call 39; refine HOY.out.mono ?_; rintro e w3 ⟨A', c', rfl, ho, hb3⟩; have HST := Lib.hid ho; have HB3 := Lib.hid hb3; have d0 : w3.cell? ⟨w.heap.size + 1, 0, none⟩ = some (.slice Ab nb cb) := (HDL.out.below (below_then HB2.out hb3) HDL.out.lt).cell 0; clear ho hb3)
        clear d1 d2 d3
        go_upto_region 11 with (go_at_call 18; refine (HLC.out _ HB3.out).mono ?_; rintro e w4 ⟨gL, cL, rfl, ho, hb4⟩; have HLO := Lib.hid ho; have HB4 := Lib.hid hb4; clear ho hb4)
        clear d0 HLC HOY
        have HB24 := Lib.hid (below_then HB2.out (below_then HB3.out HB4.out))
        have HOK := Lib.hid (layV_ok (Ab := Ab) (cb := cb) (Af := Af) (cf := cf) (W1 := W1) (H1 := H1) HNB.out.1 HNB.out.2 ((HB.out.below HB24.out HN2.out).more' (Nat.le_trans HN2.out HB24.out.size)) (Holds.more (HFR.out.below HB24.out HN2.out) (Nat.le_trans HN2.out HB24.out.size)) HLO.out H64.out.1 H64.out.2 GOK.out.1 hm hm2)
        have HSTP := Lib.hid (Holds.of_own (own_below HST.out HB4.out))
        have HDL4 := Lib.hid (HDL.out.below HB24.out HDL.out.lt)
        have HW4 := Lib.hid (below_then HW.out HB24.out)
        go_upto_region 12 with (go_at_call 40; refine (HCU.out _ _).mono ?_; rintro e w' ⟨rfl, rfl⟩)
        clear HB3 HB4 HB1 HB2 HCU
        obtain ⟨L, hL⟩ : ∃ L, L = layV Ab nb cb bs Af nf cf fs W1 H1 gL cL (lookAt lz tbl bs) := ⟨_, rfl⟩
        rw [← hL] at HOK
        have HLL := Lib.hid hL
        have HLAM : Hid (Lam ns 0) := by rw [HNS.out]; exact steps_lam _ _ _
        have HFLT : Hid (∀ k, k < ns.length → hF ns k < nf) := fun k hk => by
          have := steps_in bs fs (lookAt lz tbl bs) (by rw [HNB.out.2]; exact HNBP.out.2) (k := k) (by rw [← HNS.out]; exact hk)
          rw [← HNS.out, HNB.out.2] at this
          exact this
        have hns0 : ns.length ≤ 1048576 := by
          have h1 : L.steps.length ≤ L.nf := steps_le HOK.out (by rw [hL]; exact HNBP.out.2)
          have h2 : L.steps = ns := by
            rw [hL, HNS.out]
            show tellN _ nf 0 0 = tellN _ fs.length 0 0
            rw [HNB.out.2]
            rfl
          rw [h2] at h1
          rw [hL] at h1
          exact Nat.le_trans h1 hm2
        have HPAR := Lib.hid (frags_par GOK.out.1)
        have HROOT := Lib.hid (frags_root GOK.out.1 GOK.out.2)
        clear hL
        generalize hxc : cut x = xc
        generalize hyc : cut y = yc
        have HXC := Lib.hid (And.intro hxc hyc)
        clear hxc hyc
        go_wp2_with fail
        go_loopw [18, 19, 61] (fun vc vo i wr => ∃ (k : Nat) (A1 : Option Addr) (c1 : Nat) (A2 : Option Addr) (c2 : Nat), k ≤ ns.length ∧ i = .int .i64 k ∧ vc = .slice A1 (alive (hCl L ns) (endAt ns) k (k - 1)).length c1 ∧ vo = .slice A2 (hits L ns xc yc k).length c2 ∧
          Hid (wr.ownsRow w4.heap.size 98 5 (.slice A1 (alive (hCl L ns) (endAt ns) k (k - 1)).length c1) (alive (hCl L ns) (endAt ns) k (k - 1)).length ((alive (hCl L ns) (endAt ns) k (k - 1)).flatMap (clipF L ns))) ∧
          Hid (wr.ownsRow w4.heap.size 3 1 (.slice A2 (hits L ns xc yc k).length c2) (hits L ns xc yc k).length (ints (hits L ns xc yc k))) ∧ Hid (Below w4.heap.size w4 wr)) (fun _ _ i _ => ns.length - (intOf i).toNat)
        case atStart => exact ⟨0, none, 0, none, 0, Nat.zero_le _, rfl, rfl, rfl, World.ownsRow_nil _ _ _ _, World.ownsRow_nil _ _ _ _, Below.refl _ _⟩
        case round =>
          obtain ⟨k, A1, c1, A2, c2, hk, rfl, rfl, rfl, HCLP, HOUT, HBE⟩ := hrel
          by_cases hlt : k < ns.length
          · obtain ⟨bS, offS, hA', hbS, c0, c1'⟩ := step_cells (HSTP.out.below HBE.out (Nat.le_refl _)) hlt
            subst hA'
            have hbs := HBE.out.size
            obtain ⟨f, hfk⟩ : ∃ f, f = hF ns k := ⟨_, rfl⟩
            obtain ⟨en, hen⟩ : ∃ en, en = endAt ns k := ⟨_, rfl⟩
            rw [← hfk] at c0
            rw [← hen] at c1'
            have HFK := Lib.hid hfk
            have HEN := Lib.hid hen
            have HKK := Lib.hid (And.intro hk hlt)
            have hfn := HFLT.out k hlt
            rw [← hfk] at hfn
            have HFN := Lib.hid hfn
            obtain ⟨S0, hS0⟩ : ∃ S0, S0 = alive (hCl L ns) (endAt ns) k (k - 1) := ⟨_, rfl⟩
            rw [← hS0] at HCLP ⊢
            have HS0 := Lib.hid hS0
            obtain ⟨H0, hH0⟩ : ∃ H0, H0 = hits L ns xc yc k := ⟨_, rfl⟩
            rw [← hH0] at HOUT ⊢
            have HH0 := Lib.hid hH0
            have hb5 := below_alloc (Below.refl wr.heap.size wr) (.cells #[.int .i64 f, .int .i64 en] 94)
            have HCLP := Lib.hid (own_below HCLP.out hb5)
            have HOUT := Lib.hid (own_below HOUT.out hb5)
            have HBE := Lib.hid (below_then HBE.out hb5)
            have HGS := Lib.hid (Blk.new wr 94 #[.int .i64 f, .int .i64 en])
            clear hfk hen hfn hS0 hH0 hb5
            go_upto_block 2 with fail
            generalize World.alloc wr _ = w5 at HCLP HOUT HBE HGS ⊢
            have HGS2 := Lib.hid hbs
            generalize wr.heap.size = gs at HGS HGS2 ⊢
            clear c0 c1' hbs
            go_cut [18] from 66 to 84 (fun v wx => wx = w5 ∧ ∃ A c, v = .slice A (alive (hCl L ns) (endAt ns) k k).length c ∧ Hid (w5.ownsRow w4.heap.size 98 5 (.slice A (alive (hCl L ns) (endAt ns) k k).length c) (alive (hCl L ns) (endAt ns) k k).length ((alive (hCl L ns) (endAt ns) k k).flatMap (clipF L ns))))
            case first =>
              go_wp2_with fail
              go_loop [18] (fun v => ∃ (S D : List Nat) (A : Option Addr) (c : Nat), v = .slice A S.length c ∧ Hid (S ++ D = S0) ∧ Hid (∀ d ∈ D, endAt ns d ≤ k) ∧ Hid (w5.ownsRow w4.heap.size 98 5 (.slice A S.length c) S.length (S.flatMap (clipF L ns)))) (fun v => lenV v)
              case atStart => exact ⟨S0, [], A1, c1, rfl, List.append_nil _, fun d hd => (by cases hd), HCLP.out⟩
              case round =>
                obtain ⟨S, D, A, c, rfl, HSD, HD, HO⟩ := hrel
                have HDONE : Hid ((S = [] ∨ ∃ T t, S = T ++ [t] ∧ k < endAt ns t) → S = alive (hCl L ns) (endAt ns) k k) := fun h => pop_done (hCl L ns) (endAt ns) (fun a b hab hb => by
                  have := HLAM.out.2 a b hab (Nat.lt_trans hb HKK.out.2)
                  omega) (by rw [← HS0.out]; exact HSD.out) HD.out h
                rcases List.eq_nil_or_concat S with hS | ⟨T, t, hS⟩
                · subst hS
                  have e := HDONE.out (.inl rfl)
                  have HEE := Lib.hid e
                  clear e
                  rw [List.length_nil]
                  go_wp2_with fail
                  go_meet
                  case rel => exact ⟨rfl, A, c, by rw [← HEE.out]; rfl, by rw [← HEE.out]; exact HO.out⟩
                · rw [List.concat_eq_append] at hS
                  subst hS
                  obtain ⟨o1, o2, g, rfl, o3, o4⟩ := own_popped (clipF_len L ns) HO.out
                  have o5 : w5.cell? ⟨g, T.length * 5 + 4, none⟩ = some (.int .i64 (endAt ns t)) := o4
                  have hl : (T ++ [t]).length = T.length + 1 := by simp
                  obtain ⟨et, het⟩ : ∃ et, et = endAt ns t := ⟨_, rfl⟩
                  rw [← het] at o5
                  have HET := Lib.hid het
                  have HLN := Lib.hid hl
                  have HO1 := Lib.hid o1
                  have hTl : T.length ≤ 1048576 := by
                    have h1 := congrArg List.length HSD.out
                    have h2 := alive_len (hCl L ns) (endAt ns) k (k - 1)
                    rw [HS0.out] at h1
                    rw [List.length_append, hl] at h1
                    omega
                  clear o1 o4 het
                  by_cases hq : et ≤ k
                  · have q1 : decide (et ≤ k) = true := decide_eq_true hq
                    have HD2 : Hid (∀ d ∈ t :: D, endAt ns d ≤ k) := fun d hd => by
                      rcases List.mem_cons.1 hd with rfl | hd
                      · rw [← HET.out]; exact hq
                      · exact HD.out d hd
                    have HSD2 : Hid (T ++ t :: D = S0) := by show _ = _; rw [← HSD.out]; simp
                    rw [hl]
                    clear hl hq
                    go_wp2_with fail
                    go_round
                    case rel => exact ⟨T, t :: D, _, c, rfl, HSD2, HD2, HO1⟩
                    case measure => simp [lenV]
                  · have q1 : decide (et ≤ k) = false := decide_eq_false hq
                    have e := HDONE.out (.inr ⟨T, t, rfl, by rw [← HET.out]; omega⟩)
                    have HE := Lib.hid e
                    rw [hl]
                    clear hl hq e
                    go_wp2_with fail
                    go_meet
                    case rel => exact ⟨rfl, _, c, by rw [← HE.out, HLN.out], by rw [← HE.out]; exact HO.out⟩
            case rest =>
              obtain ⟨hwx, A1, c1, rfl, HCLP⟩ := hcut
              obtain rfl := hwx.symm
              clear HGS2
              have HB5 := Lib.hid (below_then HB24.out HBE.out)
              have hbs5 := HB5.out.size
              have hN2 := HN2.out
              have hfl : f < fs.length := by rw [HNB.out.2]; exact HFN.out
              obtain ⟨bF, offF, hAf, hbF, f0, f1, f2, f3, f4, f5, f6, f7⟩ := Frags.at_ (HFR.out.below HB5.out hN2) hfl
              obtain ⟨fg, hfg⟩ : ∃ fg, fg = fr fs f := ⟨_, rfl⟩
              rw [← hfg] at f0 f1 f2 f3 f4 f5 f6 f7
              have HFG := Lib.hid hfg
              have hok := GOK.out.1.2.1 f hfl
              rw [← hfg] at hok
              obtain ⟨m, hm'⟩ : ∃ m : Nat, fg.box = m := ⟨fg.box.toNat, by have := hok.1; omega⟩
              have hmb : m < nb := by have := hok.2.1; rw [← HNB.out.1]; omega
              rw [hm'] at f0
              have HM := Lib.hid hm'
              have HMB := Lib.hid hmb
              obtain ⟨bB, offB, hAb, hbB, k0, _⟩ := Boxes.at_ (HB.out.below HB5.out hN2) (i := m) (by rw [HNB.out.1]; exact hmb)
              subst hAf
              subst hAb
              obtain ⟨kd, hkd⟩ : ∃ kd, kd = (bx bs m).kind := ⟨_, rfl⟩
              rw [← hkd] at k0
              obtain ⟨zs, hzs⟩ : ∃ zs, zs = lookAt lz tbl bs m := ⟨_, rfl⟩
              have hz : zs.length = 118 := by rw [hzs]; exact lookAt_len _ _ _ _
              have HLF : Hid (fr L.fs f = fg ∧ L.st f = zs ∧ L.kd f = kd ∧ FragB fg) := by
                have e1 : fr fs f = fg := hfg.symm
                have e2 : (fr fs f).box.toNat = m := by rw [e1, hm']; rfl
                refine ⟨by rw [HLL.out]; exact e1, ?_, ?_, by rw [hfg]; exact HFB.out f HFN.out⟩
                · rw [HLL.out]
                  show lookAt lz tbl bs (fr fs f).box.toNat = zs
                  rw [e2, hzs]
                · rw [HLL.out]
                  show (bx bs (fr fs f).box.toNat).kind = kd
                  rw [e2, hkd]
              have hok5 := HOK.out.below HBE.out (Nat.le_refl _)
              have HROW : Hid (w5.rangeAt gL (m * 118) (sty zs).toList) := by
                have h1 := hok5.looks m (by rw [HLL.out]; exact hmb)
                rw [HLL.out] at h1
                show World.rangeAt _ _ _ _
                rw [hzs]
                exact h1
              have HSZL : Hid ((Tryz.prog.info? 35).map (·.size) = some (sty zs).toList.length) := by show _ = _; rw [Array.length_toList, sty_size, hz]; kernel_rfl
              have HLAID := Lib.hid (sty_laid zs hz)
              have HZ := Lib.hid hz
              have e0 : w5.cell? ⟨w.heap.size + 1, 0, none⟩ = some (.slice (some ⟨bB, offB, none⟩) nb cb) := (HDL4.out.below HBE.out HDL4.out.lt).cell 0
              have e1 : w5.cell? ⟨w.heap.size + 1, 1, none⟩ = some (.slice (some ⟨bF, offF, none⟩) nf cf) := (HDL4.out.below HBE.out HDL4.out.lt).cell 1
              have s0 : w5.cell? ⟨gs, 0, none⟩ = some (.int .i64 f) := HGS.out.cell 0
              have hfn2 := HFN.out
              have hba := below_alloc (Below.refl w5.heap.size w5) (.cells #[.int .i64 m, .int .i64 fg.node, .int .i64 fg.par, .int .i64 fg.x, .int .i64 fg.y, .int .i64 fg.w, .int .i64 fg.h, .string fg.text] 88)
              have HGF := Lib.hid (Blk.new w5 88 #[.int .i64 m, .int .i64 fg.node, .int .i64 fg.par, .int .i64 fg.x, .int .i64 fg.y, .int .i64 fg.w, .int .i64 fg.h, .string fg.text])
              have HCLP := Lib.hid (own_below HCLP.out hba)
              have HOUT := Lib.hid (own_below HOUT.out hba)
              have HGS := Lib.hid (HGS.out.below hba HGS.out.lt)
              have HK6 := Lib.hid (show (w5.alloc (.cells #[.int .i64 m, .int .i64 fg.node, .int .i64 fg.par, .int .i64 fg.x, .int .i64 fg.y, .int .i64 fg.w, .int .i64 fg.h, .string fg.text] 88)).cell? ⟨bB, offB + m * 5, none⟩ = some (.int .i64 kd) from (hba.cell (p := ⟨bB, offB + m * 5, none⟩) (by show bB < w5.heap.size; omega)).trans k0)
              have hgl5 := hok5.gl
              have hgL : gL < w5.heap.size := by
                rw [HLL.out] at hgl5
                have := HBE.out.size
                exact Nat.lt_of_lt_of_le hgl5 this
              have HROW : Hid ((w5.alloc (.cells #[.int .i64 m, .int .i64 fg.node, .int .i64 fg.par, .int .i64 fg.x, .int .i64 fg.y, .int .i64 fg.w, .int .i64 fg.h, .string fg.text] 88)).rangeAt gL (m * 118) (sty zs).toList) := fun j v hv => (hba.cell (p := ⟨gL, m * 118 + j, none⟩) hgL).trans (HROW.out j v hv)
              have HBE := Lib.hid (below_then HBE.out hba)
              clear hfg hok hm' hmb hkd hzs hz hok5 hba k0 hgl5 hgL hfl
              go_upto_region 20 with fail
              generalize World.alloc w5 _ = w6 at HGF HCLP HOUT HGS HK6 HROW HBE ⊢
              generalize w5.heap.size = gf at HGF hbs5 ⊢
              have HBB := Lib.hid (show bB < w4.heap.size from Nat.lt_of_lt_of_le hbB (Nat.le_trans hN2 HB24.out.size))
              have HGL := Lib.hid (show gL < w4.heap.size from by have h9 := HOK.out.gl; rw [HLL.out] at h9; exact h9)
              clear f0 f1 f2 f3 f4 f5 f6 f7 e0 e1 s0 hbF hbB
              have hmb := HMB.out
              have HGF := Lib.hid (show Blk (World.drew w6) _ _ _ from HGF.out)
              have HCLP := Lib.hid (show World.ownsRow (World.drew w6) _ _ _ _ _ _ from HCLP.out)
              have HOUT := Lib.hid (show World.ownsRow (World.drew w6) _ _ _ _ _ _ from HOUT.out)
              have HGS := Lib.hid (show Blk (World.drew w6) _ _ _ from HGS.out)
              have HBE := Lib.hid (show Below w4.heap.size w4 (World.drew w6) from below_drewN HBE.out 1)
              have hS0 : (fun w' : World => w'.cell? ⟨w.heap.size + 1, 0, none⟩ = some (.slice (some ⟨bB, offB, none⟩) nb cb) ∧ w'.cell? ⟨gf, 0, none⟩ = some (.int .i64 m) ∧ w'.cell? ⟨bB, offB + m * 5, none⟩ = some (.int .i64 kd) ∧ w'.rangeAt gL (m * 118) (sty zs).toList) (World.drew w6) := ⟨(HDL4.out.below HBE.out HDL4.out.lt).cell 0, HGF.out.cell 0, HK6.out, HROW.out⟩
              clear HK6 HROW
              refine wp_region_noPanic ?_
              refine region_M (S := fun w' => w'.cell? ⟨w.heap.size + 1, 0, none⟩ = some (.slice (some ⟨bB, offB, none⟩) nb cb) ∧ w'.cell? ⟨gf, 0, none⟩ = some (.int .i64 m) ∧ w'.cell? ⟨bB, offB + m * 5, none⟩ = some (.int .i64 kd) ∧ w'.rangeAt gL (m * 118) (sty zs).toList) (T := []) (by kernel_rfl) ?_
              generalize World.drew w6 = w7 at HGF HCLP HOUT HGS HBE hS0 ⊢
              refine anyM_free (i := 0) (oi := { dst := some 91, op := _, type := _, pos := _, after := _, guard := _ }) (v := ?_) rfl (by kernel_rfl) (fun _ _ _ h => h) (Or.inl ⟨by kernel_rfl, ?_⟩) (fun _ => hS0) ?_
              rotate_left 1
              · (intro w hSw; (try dsimp only at hSw); go_simp; try with_reducible rfl)
              try simp only [Act.put, Array.toArray_toList, List.setIfInBounds_toArray, List.set_cons_zero, List.set_cons_succ]
              refine anyM_take (i := 1) (oi := { dst := some 92, op := _, type := _, pos := _, after := _, guard := _ }) (v := ?_) rfl (by kernel_rfl) (fun _ _ _ h => h) (Or.inl ⟨by kernel_rfl, ?_⟩) hS0 ?_
              rotate_left 1
              · (intro w hSw; (try dsimp only at hSw); go_simp; try with_reducible rfl)
              try simp only [Act.put, Array.toArray_toList, List.setIfInBounds_toArray, List.set_cons_zero, List.set_cons_succ]
              refine anyM_free (i := 2) (oi := { dst := some 93, op := _, type := _, pos := _, after := _, guard := _ }) (v := ?_) rfl (by kernel_rfl) (fun _ _ _ h => h) (Or.inl ⟨by kernel_rfl, ?_⟩) (fun _ => hS0) ?_
              rotate_left 1
              · (intro w hSw; (try dsimp only at hSw); go_simp; try with_reducible rfl)
              try simp only [Act.put, Array.toArray_toList, List.setIfInBounds_toArray, List.set_cons_zero, List.set_cons_succ]
              refine anyM_take (i := 3) (oi := { dst := some 94, op := _, type := _, pos := _, after := _, guard := _ }) (v := ?_) rfl (by kernel_rfl) (fun _ _ _ h => h) (Or.inl ⟨by kernel_rfl, ?_⟩) hS0 ?_
              rotate_left 1
              · (intro w hSw; (try dsimp only at hSw); go_simp; try with_reducible rfl)
              try simp only [Act.put, Array.toArray_toList, List.setIfInBounds_toArray, List.set_cons_zero, List.set_cons_succ]
              refine anyM_free (i := 4) (oi := { dst := some 95, op := _, type := _, pos := _, after := _, guard := _ }) (v := ?_) rfl (by kernel_rfl) (fun _ _ _ h => h) (Or.inl ⟨by kernel_rfl, ?_⟩) (fun _ => hS0) ?_
              rotate_left 1
              · (intro w hSw; (try dsimp only at hSw); go_simp; try with_reducible rfl)
              try simp only [Act.put, Array.toArray_toList, List.setIfInBounds_toArray, List.set_cons_zero, List.set_cons_succ]
              refine anyM_free (i := 5) (oi := { dst := some 96, op := _, type := _, pos := _, after := _, guard := _ }) (v := ?_) rfl (by kernel_rfl) (fun _ _ _ h => h) (Or.inl ⟨by kernel_rfl, ?_⟩) (fun _ => hS0) ?_
              rotate_left 1
              · (intro w hSw; (try dsimp only at hSw); go_simp; try with_reducible rfl)
              try simp only [Act.put, Array.toArray_toList, List.setIfInBounds_toArray, List.set_cons_zero, List.set_cons_succ]
              refine anyM_take (i := 6) (oi := { dst := some 97, op := _, type := _, pos := _, after := _, guard := _ }) (v := ?_) rfl (by kernel_rfl) (fun _ _ _ h => h) (Or.inl ⟨by kernel_rfl, ?_⟩) hS0 ?_
              rotate_left 1
              · (intro w hSw; (try dsimp only at hSw); go_simp; try with_reducible rfl)
              try simp only [Act.put, Array.toArray_toList, List.setIfInBounds_toArray, List.set_cons_zero, List.set_cons_succ]
              refine anyM_free (i := 7) (oi := { dst := some 98, op := _, type := _, pos := _, after := _, guard := _ }) (v := ?_) rfl (by kernel_rfl) (fun _ _ _ h => h) (Or.inl ⟨by kernel_rfl, ?_⟩) (fun _ => hS0) ?_
              rotate_left 1
              · (intro w hSw; (try dsimp only at hSw); go_simp; try with_reducible rfl)
              try simp only [Act.put, Array.toArray_toList, List.setIfInBounds_toArray, List.set_cons_zero, List.set_cons_succ]
              refine anyM_free (i := 8) (oi := { dst := some 99, op := _, type := _, pos := _, after := _, guard := _ }) (v := ?_) rfl (by kernel_rfl) (fun _ _ _ h => h) (Or.inl ⟨by kernel_rfl, ?_⟩) (fun _ => hS0) ?_
              rotate_left 1
              · (intro w hSw; (try dsimp only at hSw); go_simp; try with_reducible rfl)
              try simp only [Act.put, Array.toArray_toList, List.setIfInBounds_toArray, List.set_cons_zero, List.set_cons_succ]
              refine anyM_take (i := 9) (oi := { dst := some 100, op := _, type := _, pos := _, after := _, guard := _ }) (v := ?_) rfl (by kernel_rfl) (fun _ _ _ h => h) (Or.inl ⟨by kernel_rfl, ?_⟩) hS0 ?_
              rotate_left 1
              · (intro w hSw; (try dsimp only at hSw); go_simp; try with_reducible rfl)
              try simp only [Act.put, Array.toArray_toList, List.setIfInBounds_toArray, List.set_cons_zero, List.set_cons_succ]
              refine anyM_free (i := 10) (oi := { dst := some 101, op := _, type := _, pos := _, after := _, guard := _ }) (v := ?_) rfl (by kernel_rfl) (fun _ _ _ h => h) (Or.inl ⟨by kernel_rfl, ?_⟩) (fun _ => hS0) ?_
              rotate_left 1
              · (intro w hSw; (try dsimp only at hSw); go_simp; try with_reducible rfl)
              try simp only [Act.put, Array.toArray_toList, List.setIfInBounds_toArray, List.set_cons_zero, List.set_cons_succ]
              refine anyM_take (i := 11) (oi := { dst := some 102, op := _, type := _, pos := _, after := _, guard := _ }) (v := _) rfl (by kernel_rfl) (fun _ _ _ h => h) (yieldsIf_load_mid (by kernel_rfl) _ _ rfl _ _ rfl (sty zs).toList _ (fun w' h => by simpa using h.2.2.2) Tryz.underlying35 rfl HSZL.out) hS0 ?_
              try simp only [Act.put, Array.toArray_toList, List.setIfInBounds_toArray, List.set_cons_zero, List.set_cons_succ]
              refine anyM_one (i := 12) (by kernel_rfl) rfl (fun K hK => ?_)
              go_simp
              have hS1 := hS0
              have hb12 := below_alloc (Below.refl w7.heap.size w7) (.cells Tryz.zeroCells35 35)
              have hS0 : (fun w' : World => w'.cell? ⟨w.heap.size + 1, 0, none⟩ = some (.slice (some ⟨bB, offB, none⟩) nb cb) ∧ w'.cell? ⟨gf, 0, none⟩ = some (.int .i64 m) ∧ w'.cell? ⟨bB, offB + m * 5, none⟩ = some (.int .i64 kd) ∧ w'.rangeAt gL (m * 118) (sty zs).toList) (w7.alloc (.cells Tryz.zeroCells35 35)) := ⟨(HDL4.out.below (below_then HBE.out hb12) HDL4.out.lt).cell 0, (HGF.out.below hb12 HGF.out.lt).cell 0, (hb12.cell (p := ⟨bB, offB + m * 5, none⟩) (Nat.lt_of_lt_of_le HBB.out HBE.out.size)).trans hS0.2.2.1, fun j v hv => (hb12.cell (p := ⟨gL, m * 118 + j, none⟩) (Nat.lt_of_lt_of_le HGL.out HBE.out.size)).trans (hS0.2.2.2 j v hv)⟩
              clear hb12
              refine hK.out _ _ (fun _ => hS0) ?_
              clear hK K
              try simp only [Act.put, Array.toArray_toList, List.setIfInBounds_toArray, List.set_cons_zero, List.set_cons_succ]
              refine anyM_free (i := 13) (oi := { dst := some 23, op := _, type := _, pos := _, after := _, guard := _ }) (v := ?_) rfl (by kernel_rfl) (fun _ _ _ h => h) (Or.inl ⟨by kernel_rfl, ?_⟩) (fun _ => hS0) ?_
              rotate_left 1
              · (intro w hSw; (try dsimp only at hSw); go_simp; try with_reducible rfl)
              try simp only [Act.put, Array.toArray_toList, List.setIfInBounds_toArray, List.set_cons_zero, List.set_cons_succ]
              refine anyM_one (i := 14) (by kernel_rfl) rfl (fun K hK => ?_)
              rw [if_pos (by kernel_rfl)]
              refine wp_store_mid _ _ _ rfl w7.heap.size 0 (sty zs) rfl rfl (HLAID.out w7).2.1 (HLAID.out w7).1 (sty_one _) ?_
              obtain ⟨w8, hw8, bS8, hb8, hsz8⟩ := (HLAID.out w7).2.2
              rw [hw8]
              clear hw8
              change K (Act.put _ none undef) _
              have hS0 := hS1
              have hS0 : (fun w' : World => w'.cell? ⟨w.heap.size + 1, 0, none⟩ = some (.slice (some ⟨bB, offB, none⟩) nb cb) ∧ w'.cell? ⟨gf, 0, none⟩ = some (.int .i64 m) ∧ w'.cell? ⟨bB, offB + m * 5, none⟩ = some (.int .i64 kd) ∧ w'.rangeAt gL (m * 118) (sty zs).toList) w8 := ⟨(HDL4.out.below (below_then HBE.out hb8) HDL4.out.lt).cell 0, (HGF.out.below hb8 HGF.out.lt).cell 0, (hb8.cell (p := ⟨bB, offB + m * 5, none⟩) (Nat.lt_of_lt_of_le HBB.out HBE.out.size)).trans hS0.2.2.1, fun j v hv => (hb8.cell (p := ⟨gL, m * 118 + j, none⟩) (Nat.lt_of_lt_of_le HGL.out HBE.out.size)).trans (hS0.2.2.2 j v hv)⟩
              refine hK.out _ _ (fun _ => hS0) ?_
              clear hK K
              try simp only [Act.put, Array.toArray_toList, List.setIfInBounds_toArray, List.set_cons_zero, List.set_cons_succ]
              refine anyM_done (by kernel_rfl) ?_ _
              refine NoPanic.normal ?_
              clear hS0 hS1
              have HGF := Lib.hid (HGF.out.below hb8 HGF.out.lt)
              have HCLP := Lib.hid (own_below HCLP.out hb8)
              have HOUT := Lib.hid (own_below HOUT.out hb8)
              have HGS := Lib.hid (HGS.out.below hb8 HGS.out.lt)
              have HBE := Lib.hid (below_then HBE.out hb8)
              have HGZ := Lib.hid bS8
              clear bS8 hb8 hsz8
              generalize w7.heap.size = gz at HGZ ⊢
              have hz := HZ.out
              have g3 : w8.cell? ⟨gf, 3, none⟩ = some (.int .i64 fg.x) := HGF.out.cell 3
              have g4 : w8.cell? ⟨gf, 4, none⟩ = some (.int .i64 fg.y) := HGF.out.cell 4
              have g5 : w8.cell? ⟨gf, 5, none⟩ = some (.int .i64 fg.w) := HGF.out.cell 5
              have g6 : w8.cell? ⟨gf, 6, none⟩ = some (.int .i64 fg.h) := HGF.out.cell 6
              have z67 : w8.cell? ⟨gz, 67, none⟩ = some (.int .i64 (stN zs 33)) := (HGZ.out.cell 67).trans (sty_at zs 67 (by omega))
              have z117 : w8.cell? ⟨gz, 117, none⟩ = some (.int .i64 (stN zs 58)) := (HGZ.out.cell 117).trans (sty_at zs 117 (by omega))
              clear hz
              have HIS : Hid (hIs L ns xc yc k = (inR (fragR fg) xc yc && decide (stN zs 33 ≠ 1) && decide (stN zs 58 ≠ 1))) := by
                show _ = _
                unfold hIs
                rw [← HFK.out, HLF.out.1, HLF.out.2.1]
              obtain ⟨is0, his0⟩ : ∃ is0, is0 = hIs L ns xc yc k := ⟨_, rfl⟩
              rw [← his0] at HIS
              have HI0 := Lib.hid his0
              clear his0
              have HWI := Lib.hid (fun (ww : World) => within_calls (fragR fg) xc yc (by
                obtain ⟨a0, a1, b0, b1, c0, c1, d0, d1⟩ := HLF.out.2.2.2
                unfold fragR
                constructor <;> simp only <;> omega) ww)
              unfold fragR at HWI
              have HIS2 : Hid (is0 = (inR ⟨fg.x, fg.y, fg.w, fg.h⟩ xc yc && decide (stN zs 33 ≠ 1) && decide (stN zs 58 ≠ 1))) := HIS.out
              clear HIS
              generalize inR ⟨fg.x, fg.y, fg.w, fg.h⟩ xc yc = ir at HWI HIS2
              generalize stN zs 33 = v33 at z67 HIS2
              generalize stN zs 58 = v58 at z117 HIS2
              go_upto_region 21 with fail
              go_cut [25] from 103 to 126 (fun v wx => v = .bool is0 ∧ Hid (Below w8.heap.size w8 wx))
              case first =>
                have HGZ9 := Lib.hid (fun (ww : World) (hb : Below w8.heap.size w8 ww) => (show ww.cell? ⟨gz, 67, none⟩ = some (.int .i64 v33) ∧ ww.cell? ⟨gz, 117, none⟩ = some (.int .i64 v58) from ⟨(hb.cell (p := ⟨gz, 67, none⟩) HGZ.out.lt).trans z67, (hb.cell (p := ⟨gz, 117, none⟩) HGZ.out.lt).trans z117⟩))
                cases ir
                · have HE : Hid (is0 = false) := by show _ = _; rw [HIS2.out]; rfl
                  go_wp2_with (go_at_call 41; refine (HWI.out _).mono ?_; rintro e w9 ⟨rfl, hb9⟩)
                  go_meet
                  case rel => exact ⟨by rw [HE.out], hb9⟩
                · by_cases h33 : v33 = 1
                  · have q33 : (v33 != 1) = false := by simp [h33]
                    have HE : Hid (is0 = false) := by show _ = _; rw [HIS2.out]; simp [h33]
                    clear h33
                    go_wp2_with (go_at_call 41; refine (HWI.out _).mono ?_; rintro e w9 ⟨rfl, hb9⟩; obtain ⟨y67, y117⟩ := HGZ9.out _ hb9)
                    go_meet
                    case rel => exact ⟨by rw [HE.out], hb9⟩
                  · have q33 : (v33 != 1) = true := by simp [h33]
                    have HE : Hid (is0 = (v58 != 1)) := by show _ = _; rw [HIS2.out, Bool.eq_iff_iff]; simp [h33]
                    clear h33
                    go_wp2_with (go_at_call 41; refine (HWI.out _).mono ?_; rintro e w9 ⟨rfl, hb9⟩; obtain ⟨y67, y117⟩ := HGZ9.out _ hb9)
                    go_meet
                    case rel => exact ⟨by rw [HE.out], hb9⟩
              case rest =>
                obtain ⟨rfl, HB89⟩ := hcut
                have HGF := Lib.hid (HGF.out.below HB89.out HGF.out.lt)
                have HCLP := Lib.hid (own_below HCLP.out HB89.out)
                have HOUT := Lib.hid (own_below HOUT.out HB89.out)
                have HGS := Lib.hid (HGS.out.below HB89.out HGS.out.lt)
                have HGZ := Lib.hid (HGZ.out.below HB89.out HGZ.out.lt)
                have HBE := Lib.hid (below_then HBE.out HB89.out)
                clear HB89 g3 g4 g5 g6 z67 z117 HWI HIS2
                obtain ⟨w9, rfl⟩ : ∃ w9, w9 = wc := ⟨_, rfl⟩
                obtain ⟨S, hS⟩ : ∃ S, S = alive (hCl L ns) (endAt ns) k k := ⟨_, rfl⟩
                rw [← hS] at HCLP ⊢
                have HSS := Lib.hid hS
                have hSl : S.length ≤ 1048576 := by
                  rw [hS]
                  have h1 := alive_len (hCl L ns) (endAt ns) k k
                  have h2 := HKK.out.2
                  omega
                clear hS
                go_wp2_with fail
                go_loopw [25, 129] (fun v i wj => ∃ j : Nat, j ≤ S.length ∧ i = .int .i64 j ∧ v = .bool (is0 && (S.take j).all (hIn L ns xc yc)) ∧ Hid (Below w9.heap.size w9 wj)) (fun _ i _ => S.length - (intOf i).toNat)
                case atStart => exact ⟨0, Nat.zero_le _, rfl, by rw [List.take_zero, List.all_nil, Bool.and_true], Below.refl _ _⟩
                case round =>
                  obtain ⟨j, hj, rfl, rfl, HBJ⟩ := hrel
                  by_cases hjl : j < S.length
                  · obtain ⟨g, cap, hgv, hgb, hglt⟩ := own_some HCLP.out (by omega)
                    injection hgv with hgv1 hgv2 hgv3
                    subst hgv1
                    have HRJ := (row_at (own_below HCLP.out HBJ.out)).1
                    have hglj : g < wr.heap.size := Nat.lt_of_lt_of_le hglt HBJ.out.size
                    have HAT := all_take S (hIn L ns xc yc) hjl
                    obtain ⟨t, ht⟩ : ∃ t, t = S.getD j 0 := ⟨_, rfl⟩
                    have HN5 : ∀ q, q < 5 → (S.flatMap (clipF L ns))[j * 5 + q]? = (clipF L ns t)[q]? := fun q hq => by rw [ht]; exact flat_nth _ (clipF_len L ns) S j q hjl hq
                    rw [← ht] at HAT
                    have htm : t ∈ S := by rw [ht, List.getD_eq_getElem?_getD, List.getElem?_eq_getElem hjl]; exact List.getElem_mem hjl
                    have htl : t < ns.length := by
                      rw [HSS.out] at htm
                      exact Nat.lt_trans (alive_lt _ _ htm).1 HKK.out.2
                    have HIN : hIn L ns xc yc t = inR (innerR (fr L.fs (hF ns t)) (L.st (hF ns t))) xc yc := rfl
                    have HRK : RectOk (innerR (fr L.fs (hF ns t)) (L.st (hF ns t))) := inner_ok (by rw [HLL.out]; exact HFB.out _ (HFLT.out t htl))
                    have HCF : clipF L ns t = (rectC (innerR (fr L.fs (hF ns t)) (L.st (hF ns t)))).toList ++ [.int .i64 (endAt ns t : Nat)] := rfl
                    generalize innerR (fr L.fs (hF ns t)) (L.st (hF ns t)) = rr at HIN HRK HCF
                    generalize endAt ns t = et at HCF
                    obtain ⟨rx, ry, rW, rH⟩ := rr
                    have y0 : wr.cell? ⟨g, j * 5, none⟩ = some (.int .i64 rx) := HRJ (j * 5 + 0) _ ((HN5 0 (by omega)).trans (by rw [HCF]; rfl))
                    have y1 : wr.cell? ⟨g, j * 5 + 1, none⟩ = some (.int .i64 ry) := HRJ (j * 5 + 1) _ ((HN5 1 (by omega)).trans (by rw [HCF]; rfl))
                    have y2 : wr.cell? ⟨g, j * 5 + 2, none⟩ = some (.int .i64 rW) := HRJ (j * 5 + 2) _ ((HN5 2 (by omega)).trans (by rw [HCF]; rfl))
                    have y3 : wr.cell? ⟨g, j * 5 + 3, none⟩ = some (.int .i64 rH) := HRJ (j * 5 + 3) _ ((HN5 3 (by omega)).trans (by rw [HCF]; rfl))
                    have y4 : wr.cell? ⟨g, j * 5 + 4, none⟩ = some (.int .i64 et) := HRJ (j * 5 + 4) _ ((HN5 4 (by omega)).trans (by rw [HCF]; rfl))
                    have HHO := Lib.hid (fun (ww : World) => holds_calls ⟨rx, ry, rW, rH⟩ xc yc HRK ww et)
                    obtain ⟨hi, hhi⟩ : ∃ hi, hi = hIn L ns xc yc t := ⟨_, rfl⟩
                    rw [← hhi] at HIN HAT
                    rw [← HIN] at HHO
                    have HAT := Lib.hid HAT
                    have hba := below_alloc (Below.refl wr.heap.size wr) (.cells #[.int .i64 rx, .int .i64 ry, .int .i64 rW, .int .i64 rH, .int .i64 et] 98)
                    have HBJ := Lib.hid (below_then HBJ.out hba)
                    clear HRJ HN5 HIN HRK HCF ht htm htl hhi hba hgv2 hgv3 hgb hglt
                    obtain ⟨b, hb⟩ : ∃ b, b = (is0 && (S.take j).all (hIn L ns xc yc)) := ⟨_, rfl⟩
                    rw [← hb]
                    have HBB2 := Lib.hid hb
                    clear hb
                    cases b
                    · have HE : Hid ((is0 && (S.take (j + 1)).all (hIn L ns xc yc)) = false) := by show _ = _; rw [HAT.out, ← Bool.and_assoc, ← HBB2.out]; rfl
                      go_wp2_with fail
                      go_round
                      case rel => exact ⟨j + 1, by omega, by go_num, by rw [HE.out], HBJ.out⟩
                      case measure => simp [intOf]; omega
                    · have HE : Hid ((is0 && (S.take (j + 1)).all (hIn L ns xc yc)) = hi) := by show _ = _; rw [HAT.out, ← Bool.and_assoc, ← HBB2.out]; simp
                      go_wp2_with (go_at_call 42; refine (HHO.out _).mono ?_; rintro e wh ⟨rfl, hbh⟩)
                      go_round
                      case rel => exact ⟨j + 1, by omega, by go_num, by rw [HE.out], below_then HBJ.out hbh⟩
                      case measure => simp [intOf]; omega
                  · have e : j = S.length := by omega
                    subst e
                    rw [List.take_length]
                    have HQQ : Hid ((is0 && S.all (hIn L ns xc yc)) = hQ L ns xc yc k) := by show _ = _; unfold hQ hitQ; rw [← HSS.out, ← HI0.out]
                    rw [HQQ.out]
                    have HGF := Lib.hid (HGF.out.below HBJ.out HGF.out.lt)
                    have HCLP := Lib.hid (own_below HCLP.out HBJ.out)
                    have HOUT := Lib.hid (own_below HOUT.out HBJ.out)
                    have HGS := Lib.hid (HGS.out.below HBJ.out HGS.out.lt)
                    have HGZ := Lib.hid (HGZ.out.below HBJ.out HGZ.out.lt)
                    have HBE := Lib.hid (below_then HBE.out HBJ.out)
                    clear HBJ
                    obtain ⟨hq, hhq⟩ : ∃ hq, hq = hQ L ns xc yc k := ⟨_, rfl⟩
                    rw [← hhq]
                    have HUN : Hid (hits L ns xc yc (k + 1) = if hq then hWho L ns k :: H0 else H0) := by show _ = _; rw [HH0.out, hhq]; rfl
                    clear hhq HQQ
                    go_upto_if 141 with fail
                    go_cut [19] from 142 to 149 (fun v wx => ∃ A c, v = .slice A (hits L ns xc yc (k + 1)).length c ∧ Hid (wx.ownsRow w4.heap.size 3 1 (.slice A (hits L ns xc yc (k + 1)).length c) (hits L ns xc yc (k + 1)).length (ints (hits L ns xc yc (k + 1)))) ∧ Hid (Below wr.heap.size wr wx))
                    case first =>
                      have HWH : Hid (hWho L ns k = nodeAt fs f) := by
                        show _ = _
                        unfold hWho
                        rw [← HFK.out, HLL.out]
                        rfl
                      cases hq
                      · have HE : Hid (hits L ns xc yc (k + 1) = H0) := by show _ = _; rw [HUN.out]; rfl
                        go_wp2_with fail
                        go_meet
                        case rel => exact ⟨A2, c2, by rw [HE.out], by rw [HE.out]; exact HOUT.out, Below.refl _ _⟩
                      · have HE : Hid (hits L ns xc yc (k + 1) = nodeAt fs f :: H0) := by show _ = _; rw [HUN.out, HWH.out]; rfl
                        have HB10 := Lib.hid (below_then HB24.out HBE.out)
                        have HND := Lib.hid (node_calls (some ⟨bF, offF, none⟩) nf cf w.heap.size f fs wr HNB.out.2 (HFR.out.below HB10.out HN2.out) hm2 HFN.out HPAR.out HROOT.out)
                        have t1 : wr.cell? ⟨w.heap.size + 1, 1, none⟩ = some (.slice (some ⟨bF, offF, none⟩) nf cf) := (HDL4.out.below HBE.out HDL4.out.lt).cell 1
                        have t2 : wr.cell? ⟨gs, 0, none⟩ = some (.int .i64 f) := HGS.out.cell 0
                        have hH0l : H0.length ≤ 1048576 := by
                          rw [HH0.out]
                          have h1 := hits_len L ns xc yc k
                          have h2 := HKK.out.2
                          omega
                        generalize nodeAt fs f = nw at HND HE
                        have HLIT := Lib.hid (World.ownsRow_lit (base := wr.heap.size) (size := 1) (e := 3) wr #[.int .i64 nw] 1 (Nat.le_refl _) (by unfold maxLen; omega) rfl)
                        have hbb := below_alloc (Below.refl wr.heap.size wr) (.cells #[.int .i64 nw] 3)
                        have HSRC := Lib.hid (own_src (own_below HOUT.out hbb) rfl)
                        have HBB3 := Lib.hid hbb
                        have hmx : H0.length + 1 ≤ maxLen := by unfold maxLen; omega
                        clear hbb
                        go_wp2_with (first | (go_at_call 43; refine HND.out.mono ?_; rintro e wn ⟨rfl, rfl⟩) | (at_builtin; refine wpList_append_any rfl _ _ 44 rfl wr.heap.size 3 iI (.int .i64 0) 1 8 Tryz.underlying44 hiI hzI0 hzI1 hzI2 rfl (by decide) (.slice (some ⟨wr.heap.size, 0, none⟩) 1 1) 1 [.int .i64 nw] rfl HLIT.out A2 H0.length c2 (ints H0) rfl (by rw [ints_len]; omega) HSRC.out (by intro u hu; obtain ⟨z, _, rfl⟩ := List.mem_map.1 hu; rfl) (by omega) (by omega) (by simp) ?_; intro A9 c9 w10 ho9 hg9 hat9; have HO9 := Lib.hid ho9; have HB9 := Lib.hid (Below.grown HBB3.out hg9 HBB3.out.size (fun k hk => by injection hk with hk; subst hk; exact Nat.le_refl _)); clear ho9 hg9 hat9))
                        go_meet
                        case rel =>
                          have hl : H0.length + 1 = 1 + H0.length := Nat.add_comm _ _
                          refine ⟨A9, c9, by rw [HE.out, List.length_cons, hl], ?_, HB9.out⟩
                          rw [HE.out, List.length_cons, hl]
                          exact own_baseH HO9.out HBE.out.size
                    case rest =>
                      obtain ⟨A3, c3, rfl, HOUT2, HB10⟩ := hcut
                      have HGF := Lib.hid (HGF.out.below HB10.out HGF.out.lt)
                      have HCLP := Lib.hid (own_below HCLP.out HB10.out)
                      have HGS := Lib.hid (HGS.out.below HB10.out HGS.out.lt)
                      have HGZ := Lib.hid (HGZ.out.below HB10.out HGZ.out.lt)
                      have HBE := Lib.hid (below_then HBE.out HB10.out)
                      clear HB10 HOUT HUN
                      obtain ⟨w11, rfl⟩ : ∃ w11, w11 = wc := ⟨_, rfl⟩
                      have HPU : Hid (alive (hCl L ns) (endAt ns) (k + 1) (k + 1 - 1) = S ++ (if hCl L ns k = true then [k] else [])) := by
                        show _ = _
                        rw [Nat.add_sub_cancel, HSS.out]
                        exact alive_push _ _ (by have := (HLAM.out.1 k HKK.out.2).1; omega)
                      have HCE : Hid (hCl L ns k = (decide (stN zs 32 = 1) && decide (kd ≠ 3) && decide (kd ≠ 4))) := by show _ = _; unfold hCl; rw [← HFK.out, HLF.out.2.1, HLF.out.2.2.1]
                      have HCC := Lib.hid (fun (ww : World) => clips_calls zs kd ww HZ.out)
                      obtain ⟨cl0, hcl0⟩ : ∃ cl0, cl0 = hCl L ns k := ⟨_, rfl⟩
                      rw [← hcl0] at HPU HCE
                      rw [← HCE.out] at HCC
                      have HCF : Hid (clipF L ns k = (rectC (innerR fg zs)).toList ++ [.int .i64 (en : Nat)]) := by show _ = _; unfold clipF; rw [← HFK.out, HLF.out.1, HLF.out.2.1, ← HEN.out]
                      clear hcl0 HCE
                      have HRGZ := Lib.hid (range_blkA HGZ.out)
                      go_upto_if 152 with (first | (refine wpList_load_mid rfl 35 _ rfl gz 0 rfl (sty zs).toList _ HRGZ.out Tryz.underlying35 rfl HSZL.out ?_) | (go_at_call 44; refine (HCC.out _).mono ?_; rintro e w12 ⟨rfl, hb12⟩; have HB12 := Lib.hid hb12; clear hb12))
                      have HGF := Lib.hid (HGF.out.below HB12.out HGF.out.lt)
                      have HCLP := Lib.hid (own_below HCLP.out HB12.out)
                      have HOUT2 := Lib.hid (own_below HOUT2.out HB12.out)
                      have HGS := Lib.hid (HGS.out.below HB12.out HGS.out.lt)
                      have HGZ := Lib.hid (HGZ.out.below HB12.out HGZ.out.lt)
                      have HBE := Lib.hid (below_then HBE.out HB12.out)
                      clear HB12 HRGZ HCC
                      cases cl0
                      · have HE : Hid (alive (hCl L ns) (endAt ns) (k + 1) (k + 1 - 1) = S) := by show _ = _; rw [HPU.out]; simp
                        have hkl := HKK.out.2
                        go_wp2_with fail
                        go_round
                        case rel => exact ⟨k + 1, A1, c1, A3, c3, hkl, by go_num, by rw [HE.out], rfl, by rw [HE.out]; exact HCLP.out, HOUT2.out, HBE.out⟩
                        case measure => simp [intOf]; omega
                      · have HE : Hid (alive (hCl L ns) (endAt ns) (k + 1) (k + 1 - 1) = S ++ [k]) := by show _ = _; rw [HPU.out]; simp
                        have HINN : Hid (∀ ww : World, Calls Tryz.prog 45 #[.agg #[.int .i64 m, .int .i64 fg.node, .int .i64 fg.par, .int .i64 fg.x, .int .i64 fg.y, .int .i64 fg.w, .int .i64 fg.h, .string fg.text], .agg (sty zs)] ww fun e w' => e = .returned (.agg #[.int .i64 (innerR fg zs).x, .int .i64 (innerR fg zs).y, .int .i64 (innerR fg zs).w, .int .i64 (innerR fg zs).h]) ∧ Below ww.heap.size ww w') := fun ww => by
                          have h9 := inner_calls zs fg ww HZ.out HLF.out.2.2.2
                          unfold fragC at h9
                          rw [HM.out] at h9
                          exact h9
                        have HC5 : Hid (clipF L ns k = [.int .i64 (innerR fg zs).x, .int .i64 (innerR fg zs).y, .int .i64 (innerR fg zs).w, .int .i64 (innerR fg zs).h, .int .i64 (en : Nat)]) := HCF.out
                        generalize (innerR fg zs).x = jx at HINN HC5
                        generalize (innerR fg zs).y = jy at HINN HC5
                        generalize (innerR fg zs).w = jw at HINN HC5
                        generalize (innerR fg zs).h = jh at HINN HC5
                        clear HPU HCF
                        go_upto_region 30 with fail
                        have HGF := Lib.hid (show Blk (World.drew w12) _ _ _ from HGF.out)
                        have HCLP := Lib.hid (show World.ownsRow (World.drew w12) _ _ _ _ _ _ from HCLP.out)
                        have HOUT2 := Lib.hid (show World.ownsRow (World.drew w12) _ _ _ _ _ _ from HOUT2.out)
                        have HGS := Lib.hid (show Blk (World.drew w12) _ _ _ from HGS.out)
                        have HGZ := Lib.hid (show Blk (World.drew w12) _ _ _ from HGZ.out)
                        have HBE := Lib.hid (show Below w4.heap.size w4 (World.drew w12) from below_drewN HBE.out 1)
                        have hS0 : (fun w' : World => w'.cell? ⟨gf, 0, none⟩ = some (.int .i64 m) ∧ w'.cell? ⟨gf, 1, none⟩ = some (.int .i64 fg.node) ∧ w'.cell? ⟨gf, 2, none⟩ = some (.int .i64 fg.par) ∧ w'.cell? ⟨gf, 3, none⟩ = some (.int .i64 fg.x) ∧ w'.cell? ⟨gf, 4, none⟩ = some (.int .i64 fg.y) ∧ w'.cell? ⟨gf, 5, none⟩ = some (.int .i64 fg.w) ∧ w'.cell? ⟨gf, 6, none⟩ = some (.int .i64 fg.h) ∧ w'.cell? ⟨gf, 7, none⟩ = some (.string fg.text) ∧ w'.cell? ⟨gs, 1, none⟩ = some (.int .i64 en) ∧ w'.rangeAt gz 0 (sty zs).toList) (World.drew w12) := ⟨HGF.out.cell 0, HGF.out.cell 1, HGF.out.cell 2, HGF.out.cell 3, HGF.out.cell 4, HGF.out.cell 5, HGF.out.cell 6, HGF.out.cell 7, HGS.out.cell 1, range_blkA HGZ.out⟩
                        refine wp_region_noPanic ?_
                        refine region_M (S := fun w' => w'.cell? ⟨gf, 0, none⟩ = some (.int .i64 m) ∧ w'.cell? ⟨gf, 1, none⟩ = some (.int .i64 fg.node) ∧ w'.cell? ⟨gf, 2, none⟩ = some (.int .i64 fg.par) ∧ w'.cell? ⟨gf, 3, none⟩ = some (.int .i64 fg.x) ∧ w'.cell? ⟨gf, 4, none⟩ = some (.int .i64 fg.y) ∧ w'.cell? ⟨gf, 5, none⟩ = some (.int .i64 fg.w) ∧ w'.cell? ⟨gf, 6, none⟩ = some (.int .i64 fg.h) ∧ w'.cell? ⟨gf, 7, none⟩ = some (.string fg.text) ∧ w'.cell? ⟨gs, 1, none⟩ = some (.int .i64 en) ∧ w'.rangeAt gz 0 (sty zs).toList) (T := []) (by kernel_rfl) ?_
                        generalize World.drew w12 = w13 at HGF HCLP HOUT2 HGS HGZ HBE hS0 ⊢
                        refine anyM_free (i := 0) (oi := { dst := some 153, op := _, type := _, pos := _, after := _, guard := _ }) (v := ?_) rfl (by kernel_rfl) (fun _ _ _ h => h) (Or.inl ⟨by kernel_rfl, ?_⟩) (fun _ => hS0) ?_
                        rotate_left 1
                        · (intro w hSw; (try dsimp only at hSw); go_simp; try with_reducible rfl)
                        try simp only [Act.put, Array.toArray_toList, List.setIfInBounds_toArray, List.set_cons_zero, List.set_cons_succ]
                        refine anyM_take (i := 1) (oi := { dst := some 154, op := _, type := _, pos := _, after := _, guard := _ }) (v := ?_) rfl (by kernel_rfl) (fun _ _ _ h => h) (Or.inl ⟨by kernel_rfl, ?_⟩) hS0 ?_
                        rotate_left 1
                        · (intro w hSw; (try dsimp only at hSw); go_simp; try with_reducible rfl)
                        try simp only [Act.put, Array.toArray_toList, List.setIfInBounds_toArray, List.set_cons_zero, List.set_cons_succ]
                        refine anyM_take (i := 2) (oi := { dst := some 155, op := _, type := _, pos := _, after := _, guard := _ }) (v := _) rfl (by kernel_rfl) (fun _ _ _ h => h) (yieldsIf_load_mid (by kernel_rfl) _ _ rfl _ _ rfl (sty zs).toList _ (fun w' h => by simpa using h.2.2.2.2.2.2.2.2.2) Tryz.underlying35 rfl HSZL.out) hS0 ?_
                        try simp only [Act.put, Array.toArray_toList, List.setIfInBounds_toArray, List.set_cons_zero, List.set_cons_succ]
                        refine anyM_free (i := 4) (oi := { dst := some 157, op := _, type := _, pos := _, after := _, guard := _ }) (v := ?_) rfl (by kernel_rfl) (fun _ _ _ h => h) (Or.inl ⟨by kernel_rfl, ?_⟩) (fun _ => hS0) ?_
                        rotate_left 1
                        · (intro w hSw; (try dsimp only at hSw); go_simp; try with_reducible rfl)
                        try simp only [Act.put, Array.toArray_toList, List.setIfInBounds_toArray, List.set_cons_zero, List.set_cons_succ]
                        refine anyM_take (i := 5) (oi := { dst := some 158, op := _, type := _, pos := _, after := _, guard := _ }) (v := ?_) rfl (by kernel_rfl) (fun _ _ _ h => h) (Or.inl ⟨by kernel_rfl, ?_⟩) hS0 ?_
                        rotate_left 1
                        · (intro w hSw; (try dsimp only at hSw); go_simp; try with_reducible rfl)
                        try simp only [Act.put, Array.toArray_toList, List.setIfInBounds_toArray, List.set_cons_zero, List.set_cons_succ]
                        refine anyM_one (i := 3) (by kernel_rfl) rfl (fun K hK => ?_)
                        go_simp
                        refine (HINN.out _).mono ?_
                        rintro e w14 ⟨rfl, hb14⟩
                        have HGF := Lib.hid (HGF.out.below hb14 HGF.out.lt)
                        have HCLP := Lib.hid (own_below HCLP.out hb14)
                        have HOUT2 := Lib.hid (own_below HOUT2.out hb14)
                        have HGS := Lib.hid (HGS.out.below hb14 HGS.out.lt)
                        have HGZ := Lib.hid (HGZ.out.below hb14 HGZ.out.lt)
                        have HBE := Lib.hid (below_then HBE.out hb14)
                        have hS0 : (fun w' : World => w'.cell? ⟨gf, 0, none⟩ = some (.int .i64 m) ∧ w'.cell? ⟨gf, 1, none⟩ = some (.int .i64 fg.node) ∧ w'.cell? ⟨gf, 2, none⟩ = some (.int .i64 fg.par) ∧ w'.cell? ⟨gf, 3, none⟩ = some (.int .i64 fg.x) ∧ w'.cell? ⟨gf, 4, none⟩ = some (.int .i64 fg.y) ∧ w'.cell? ⟨gf, 5, none⟩ = some (.int .i64 fg.w) ∧ w'.cell? ⟨gf, 6, none⟩ = some (.int .i64 fg.h) ∧ w'.cell? ⟨gf, 7, none⟩ = some (.string fg.text) ∧ w'.cell? ⟨gs, 1, none⟩ = some (.int .i64 en) ∧ w'.rangeAt gz 0 (sty zs).toList) w14 := ⟨HGF.out.cell 0, HGF.out.cell 1, HGF.out.cell 2, HGF.out.cell 3, HGF.out.cell 4, HGF.out.cell 5, HGF.out.cell 6, HGF.out.cell 7, HGS.out.cell 1, range_blkA HGZ.out⟩
                        clear hb14
                        refine hK.out _ _ (fun _ => hS0) ?_
                        clear hK K
                        try simp only [Act.put, Array.toArray_toList, List.setIfInBounds_toArray, List.set_cons_zero, List.set_cons_succ]
                        refine anyM_free (i := 6) (oi := { dst := some 159, op := _, type := _, pos := _, after := _, guard := _ }) (v := ?_) rfl (by kernel_rfl) (fun _ _ _ h => h) (Or.inl ⟨by kernel_rfl, ?_⟩) (fun _ => hS0) ?_
                        rotate_left 1
                        · (intro w hSw; (try dsimp only at hSw); go_simp; try with_reducible rfl)
                        try simp only [Act.put, Array.toArray_toList, List.setIfInBounds_toArray, List.set_cons_zero, List.set_cons_succ]
                        refine anyM_one (i := 7) (by kernel_rfl) rfl (fun K hK => ?_)
                        go_simp
                        have hb15 := below_alloc (Below.refl w14.heap.size w14) (.cells #[.int .i64 jx, .int .i64 jy, .int .i64 jw, .int .i64 jh, .int .i64 en] 98)
                        have HN15 := Lib.hid (Blk.new w14 98 #[.int .i64 jx, .int .i64 jy, .int .i64 jw, .int .i64 jh, .int .i64 en])
                        have HGF := Lib.hid (HGF.out.below hb15 HGF.out.lt)
                        have HCLP := Lib.hid (own_below HCLP.out hb15)
                        have HOUT2 := Lib.hid (own_below HOUT2.out hb15)
                        have HGS := Lib.hid (HGS.out.below hb15 HGS.out.lt)
                        have HGZ := Lib.hid (HGZ.out.below hb15 HGZ.out.lt)
                        have HBE := Lib.hid (below_then HBE.out hb15)
                        have hS0 : (fun w' : World => w'.cell? ⟨gf, 0, none⟩ = some (.int .i64 m) ∧ w'.cell? ⟨gf, 1, none⟩ = some (.int .i64 fg.node) ∧ w'.cell? ⟨gf, 2, none⟩ = some (.int .i64 fg.par) ∧ w'.cell? ⟨gf, 3, none⟩ = some (.int .i64 fg.x) ∧ w'.cell? ⟨gf, 4, none⟩ = some (.int .i64 fg.y) ∧ w'.cell? ⟨gf, 5, none⟩ = some (.int .i64 fg.w) ∧ w'.cell? ⟨gf, 6, none⟩ = some (.int .i64 fg.h) ∧ w'.cell? ⟨gf, 7, none⟩ = some (.string fg.text) ∧ w'.cell? ⟨gs, 1, none⟩ = some (.int .i64 en) ∧ w'.rangeAt gz 0 (sty zs).toList) (w14.alloc (.cells #[.int .i64 jx, .int .i64 jy, .int .i64 jw, .int .i64 jh, .int .i64 en] 98)) := ⟨HGF.out.cell 0, HGF.out.cell 1, HGF.out.cell 2, HGF.out.cell 3, HGF.out.cell 4, HGF.out.cell 5, HGF.out.cell 6, HGF.out.cell 7, HGS.out.cell 1, range_blkA HGZ.out⟩
                        clear hb15
                        generalize World.alloc w14 _ = w15 at HGF HCLP HOUT2 HGS HGZ HBE HN15 hS0 ⊢
                        generalize w14.heap.size = gn at HN15 ⊢
                        refine hK.out _ _ (fun _ => hS0) ?_
                        clear hK K
                        try simp only [Act.put, Array.toArray_toList, List.setIfInBounds_toArray, List.set_cons_zero, List.set_cons_succ]
                        refine anyM_one (i := 8) (by kernel_rfl) rfl (fun K hK => ?_)
                        rw [if_pos (by kernel_rfl)]
                        refine wp_append_any _ _ 92 rfl w4.heap.size 98 iC (.agg #[.int .i64 0, .int .i64 0, .int .i64 0, .int .i64 0, .int .i64 0]) 5 40 Tryz.underlying92 hiC hzC0 hzC1 hzC2 rfl (by decide) (.slice A1 S.length c1) S.length (S.flatMap (clipF L ns)) rfl HCLP.out (some ⟨gn, 0, none⟩) 1 1 [.int .i64 jx, .int .i64 jy, .int .i64 jw, .int .i64 jh, .int .i64 en] rfl rfl (.inl ⟨gn, 0, rfl, fun j u hj => by rw [Nat.zero_add, HN15.out.cell j]; simpa using hj⟩) (by intro u hu; simp at hu; rcases hu with rfl | rfl | rfl | rfl | rfl <;> rfl) (by unfold maxLen; omega) (by omega) HBE.out.size ?_
                        intro A9 c9 w16 ho9 hg9 hat9
                        have HO9 := Lib.hid ho9
                        have HNO := Lib.hid (own_far HOUT2.out HCLP.out (by decide))
                        have HOUT2 := Lib.hid (own_heap HOUT2.out (fun g9 h9 => hg9.block g9 (HOUT2.out.lt g9 h9).2 (fun e9 => HNO.out.elim (fun h => by rw [h] at h9; cases h9) (fun h => h (h9.trans e9)))))
                        have HBE := Lib.hid (HBE.out.grown hg9 HBE.out.size (fun k9 h9 => (HCLP.out.lt k9 h9).1))
                        have HGF := Lib.hid (blk_grown HGF.out hg9 (blk_ne HGF.out HCLP.out (by decide)))
                        have HGS := Lib.hid (blk_grown HGS.out hg9 (blk_ne HGS.out HCLP.out (by decide)))
                        have HGZ := Lib.hid (blk_grown HGZ.out hg9 (blk_ne HGZ.out HCLP.out (by decide)))
                        have hS0 : (fun w' : World => w'.cell? ⟨gf, 0, none⟩ = some (.int .i64 m) ∧ w'.cell? ⟨gf, 1, none⟩ = some (.int .i64 fg.node) ∧ w'.cell? ⟨gf, 2, none⟩ = some (.int .i64 fg.par) ∧ w'.cell? ⟨gf, 3, none⟩ = some (.int .i64 fg.x) ∧ w'.cell? ⟨gf, 4, none⟩ = some (.int .i64 fg.y) ∧ w'.cell? ⟨gf, 5, none⟩ = some (.int .i64 fg.w) ∧ w'.cell? ⟨gf, 6, none⟩ = some (.int .i64 fg.h) ∧ w'.cell? ⟨gf, 7, none⟩ = some (.string fg.text) ∧ w'.cell? ⟨gs, 1, none⟩ = some (.int .i64 en) ∧ w'.rangeAt gz 0 (sty zs).toList) w16 := ⟨HGF.out.cell 0, HGF.out.cell 1, HGF.out.cell 2, HGF.out.cell 3, HGF.out.cell 4, HGF.out.cell 5, HGF.out.cell 6, HGF.out.cell 7, HGS.out.cell 1, range_blkA HGZ.out⟩
                        clear ho9 hg9 hat9
                        change K (Act.put _ (some 161) _) _
                        refine hK.out _ _ (fun _ => hS0) ?_
                        clear hK K
                        try simp only [Act.put, Array.toArray_toList, List.setIfInBounds_toArray, List.set_cons_zero, List.set_cons_succ]
                        refine anyM_free (i := 9) (oi := { dst := some 18, op := _, type := _, pos := _, after := _, guard := _ }) (v := ?_) rfl (by kernel_rfl) (fun _ _ _ h => h) (Or.inl ⟨by kernel_rfl, ?_⟩) (fun _ => hS0) ?_
                        rotate_left 1
                        · (intro w hSw; (try dsimp only at hSw); go_simp; try with_reducible rfl)
                        try simp only [Act.put, Array.toArray_toList, List.setIfInBounds_toArray, List.set_cons_zero, List.set_cons_succ]
                        refine anyM_done (by kernel_rfl) ?_ _
                        refine NoPanic.normal ?_
                        clear hS0
                        go_wp2_with fail
                        go_round
                        case rel =>
                          have hkl := HKK.out.2
                          exact ⟨k + 1, A9, c9, A3, c3, hkl, by go_num, by rw [HE.out, List.length_append]; rfl, rfl, by rw [HE.out, List.length_append, List.flatMap_append, List.flatMap_singleton, HC5.out]; exact HO9.out, HOUT2.out, HBE.out⟩
                        case measure =>
                          have hkl := HKK.out.2
                          simp [intOf]; omega
          · have e : k = ns.length := by omega
            subst e
            go_wp2_with fail
            go_ret2
            obtain ⟨e1, e2⟩ := HXC.out
            subst e1
            subst e2
            have e3 := HLL.out
            subst e3
            have e4 := HNS.out
            subst e4
            refine ⟨.inr (.inr ⟨G2.out, GOK.out.1, GOK.out.2, _, rfl, own_baseH HOUT.out HW4.out.size⟩), below_then HW4.out HBE.out⟩
      · have HE : Hid (¬ (LayOk bs fs ∧ LooksOk nl bs)) := gok
        have HOY : Hid (Calls Tryz.prog 39 #[.slice Al nl cl, .agg #[.slice Ab nb cb, .slice Af nf cf, .int .i64 W1, .int .i64 H1]] w2 fun e w' => e = .returned (.tuple #[.slice none 0 0, .int .i64 3]) ∧ Below w2.heap.size w2 w') := by
          refine HOR.out.mono ?_
          rintro e w' ⟨hp, hb⟩
          rcases hp with ⟨h1, h2, _⟩ | ⟨_, rfl⟩
          · exact absurd ⟨h1, h2⟩ gok
          · exact ⟨rfl, hb⟩
        clear gok HOR
        go_wp2_with (go_at_call 39; refine HOY.out.mono ?_; rintro e w3 ⟨rfl, hb3⟩; have HB3 := Lib.hid hb3; clear hb3)
        go_ret2
        exact ⟨.inr (.inl ⟨G2.out, HE.out, rfl⟩), below_then HW.out (below_then HB2.out HB3.out)⟩
    · have q2 : (sfitsE ns0 nl lz != 0) = true := by simp [g2]
      have HE : Hid (sfitsE ns0 nl lz ≠ 0) := g2
      clear g2
      obtain ⟨se, hse⟩ : ∃ se, se = sfitsE ns0 nl lz := ⟨_, rfl⟩
      rw [← hse] at HFI q2
      have HSE := Lib.hid hse
      clear hse
      go_wp2_with (go_at_call 27; refine (HFI.out _ HB1.out).mono ?_; rintro e w2 ⟨rfl, hb2⟩; have HB2 := Lib.hid (below_then HB1.out hb2); clear hb2)
      go_ret2
      exact ⟨.inl ⟨HE.out, by rw [HSE.out]; rfl⟩, below_then HW.out HB2.out⟩
  · obtain ⟨ce, hce⟩ : ∃ ce, ce = checkE ns0 := ⟨_, rfl⟩
    have HSO := Lib.hid (HSO.out g1)
    rw [← hce] at HCK g1 HSO
    have q1 : (ce != 0) = true := by simp [g1]
    have G1 := Lib.hid g1
    clear g1 hce
    go_wp2_with (go_at_call 26; refine (HCK.out _ (Below.refl _ _)).mono ?_; rintro e w1 ⟨rfl, hb1⟩; have HB1 := Lib.hid hb1; clear hb1)
    go_ret2
    exact ⟨.inl ⟨by rw [HSO.out]; exact G1.out, by rw [HSO.out]; rfl⟩, below_then HW.out HB1.out⟩
end Go.Proofs.YtkmmlcnoeeaekaaGreatDoor
