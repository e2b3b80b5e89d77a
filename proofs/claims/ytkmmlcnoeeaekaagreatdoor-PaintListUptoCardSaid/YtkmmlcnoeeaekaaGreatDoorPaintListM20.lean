/- Several texts in one: DomH, FitB, HitD. -/
import Derived.Test.YtkmmlcnoeeaekaaGreatDoorPaintListM19
import Derived.Test.YtkmmlcnoeeaekaaGreatDoorPaintListM18
import Derived.Test.YtkmmlcnoeeaekaaGreatDoorPaintListM4
/- Contract of dom.Check. -/
namespace Go.Proofs.YtkmmlcnoeeaekaaGreatDoor
open Go.RowKit
set_option linter.unusedVariables false
set_option linter.unusedSimpArgs false

set_option maxRecDepth 100000 in
set_option maxHeartbeats 16000000 in
theorem dcheck_calls (A : Option Addr) (n c B : Nat) (q : Bool) (ns : List NodeV) (w : World) (hn : ns.length = n) (h : Nodes w B A ns) (hB : B ≤ w.heap.size) (hm : n ≤ 1048576) :
    Calls Tryz.prog 26 #[.agg #[.slice A n c, .bool q]] w fun e w' => e = .returned (.int .i64 (checkE ns)) ∧ Below w.heap.size w w' := by
  subst hn
  have HD := Lib.hid (Blk.new w 24 #[.slice A ns.length c, .bool q])
  have d0 : (w.alloc (.cells #[.slice A ns.length c, .bool q] 24)).cell? ⟨w.heap.size, 0, none⟩ = some (.slice A ns.length c) := HD.out.cell 0
  have HW := Lib.hid (below_alloc (Below.refl w.heap.size w) (.cells #[.slice A ns.length c, .bool q] 24))
  have HN := Lib.hid (h.below HW.out hB)
  have HN2 := Lib.hid (Nat.le_trans hB HW.out.size)
  obtain ⟨r, hr⟩ : ∃ r, r = checkE ns := ⟨_, rfl⟩
  rw [← hr]
  have HR := Lib.hid hr
  clear h hr hB
  by_cases g1 : 200 < ns.length
  · have q1 : decide ((200 : Int) < (ns.length : Int)) = true := by simp; omega
    have HE : Hid (r = 2) := by show _ = _; rw [HR.out]; unfold checkE; rw [if_pos g1]
    clear g1
    go_enter Tryz.func26, Tryz.ntmps26
    go_wp2_with fail
    go_ret
    exact ⟨by rw [HE.out]; rfl, HW.out⟩
  · have q1 : decide ((200 : Int) < (ns.length : Int)) = false := by simp; omega
    by_cases g2 : ns.length = 0
    · have q2 : ((ns.length : Int) == 0) = true := by simp [g2]
      have HE : Hid (r = 3) := by show _ = _; rw [HR.out]; unfold checkE; rw [if_neg g1, if_pos g2]
      clear g1 g2
      go_enter Tryz.func26, Tryz.ntmps26
      go_wp2_with fail
      go_ret
      exact ⟨by rw [HE.out]; rfl, HW.out⟩
    · have q2 : ((ns.length : Int) == 0) = false := by simp [g2]
      have h0 : 0 < ns.length := by omega
      have HR1 : Hid (r = if firstE (nodeE ns) ns.length ≠ 0 then firstE (nodeE ns) ns.length else if kidsE ns ≠ 0 then kidsE ns else firstE (upE ns) ns.length) := by show _ = _; rw [HR.out]; unfold checkE; rw [if_neg g1, if_neg g2]
      have hm2 : ns.length ≤ 200 := by omega
      have HQ1 := Lib.hid q1
      clear g1 g2 HR
      go_enter Tryz.func26, Tryz.ntmps26
      go_upto_region 1 with fail
      generalize World.alloc w _ = w0 at HD HW HN HN2 d0 ⊢
      go_wp2_with fail
      clear d0
      go_loopw [22] (fun i wr => ∃ k : Nat, k ≤ ns.length ∧ i = .int .i64 k ∧ Hid (Below w0.heap.size w0 wr) ∧ Hid (∀ j, j < k → nodeE ns j = 0)) (fun i _ => ns.length - (intOf i).toNat)
      case atStart => exact ⟨0, Nat.zero_le _, rfl, Below.refl _ _, fun j hj => absurd hj (by omega)⟩
      case round =>
        obtain ⟨k, hk, rfl, HBE, HK⟩ := hrel
        have hbs := HBE.out.size
        have hbN := HN2.out
        by_cases hlt : k < ns.length
        · obtain ⟨b, off, hA, hb, hc, hin⟩ := (HN.out.below HBE.out HN2.out) k hlt
          obtain ⟨x, hx⟩ : ∃ x, x = nd ns k := ⟨_, rfl⟩
          rw [← hx] at hc hin
          have HX := Lib.hid hx
          have c0 : wr.cell? ⟨b, off + k * 6, none⟩ = some (.int .i64 x.kind) := hc 0 (by decide)
          have c1 : wr.cell? ⟨b, off + k * 6 + 1, none⟩ = some (.string x.name) := hc 1 (by decide)
          have c2 : wr.cell? ⟨b, off + k * 6 + 2, none⟩ = some (.slice x.attrsA x.attrs.length x.acap) := hc 2 (by decide)
          have c3 : wr.cell? ⟨b, off + k * 6 + 3, none⟩ = some (.string x.text) := hc 3 (by decide)
          have c4 : wr.cell? ⟨b, off + k * 6 + 4, none⟩ = some (.int .i64 x.parent) := hc 4 (by decide)
          have c5 : wr.cell? ⟨b, off + k * 6 + 5, none⟩ = some (.slice x.kidsA x.kids.length x.kcap) := hc 5 (by decide)
          subst hA
          have hbl := below_alloc (Below.refl wr.heap.size wr) (.cells #[.int .i64 x.kind, .string x.name, .slice x.attrsA x.attrs.length x.acap, .string x.text, .int .i64 x.parent, .slice x.kidsA x.kids.length x.kcap] 117)
          have HBE2 := Lib.hid (below_then HBE.out hbl)
          have HBX := Lib.hid (Blk.new wr 117 #[.int .i64 x.kind, .string x.name, .slice x.attrsA x.attrs.length x.acap, .string x.text, .int .i64 x.parent, .slice x.kidsA x.kids.length x.kcap])
          have HIN := Lib.hid (hin.below hbl (by omega))
          clear hc hin hx hbl HBE
          go_upto_region 8 with fail
          generalize World.alloc wr _ = wx at HBE2 HBX HIN ⊢
          generalize wr.heap.size = gx at HBX hbs ⊢
          clear c0 c1 c2 c3 c4 c5
          have HWE := Lib.hid (below_then HW.out HBE2.out)
          have d0 : wx.cell? ⟨gx, 0, none⟩ = some (.int .i64 x.kind) := HBX.out.cell 0
          have d1 : wx.cell? ⟨gx, 1, none⟩ = some (.string x.name) := HBX.out.cell 1
          have d2 : wx.cell? ⟨gx, 2, none⟩ = some (.slice x.attrsA x.attrs.length x.acap) := HBX.out.cell 2
          have d3 : wx.cell? ⟨gx, 3, none⟩ = some (.string x.text) := HBX.out.cell 3
          have d4 : wx.cell? ⟨gx, 4, none⟩ = some (.int .i64 x.parent) := HBX.out.cell 4
          have d5 : wx.cell? ⟨gx, 5, none⟩ = some (.slice x.kidsA x.kids.length x.kcap) := HBX.out.cell 5
          have HON := Lib.hid (one_calls x B wx HIN.out (Nat.le_trans HN2.out HBE2.out.size))
          by_cases z1 : (decide (x.kind = 1)) = (decide (k = 0))
          · have HNE : Hid (nodeE ns k = oneE x) := by show _ = _; unfold nodeE; rw [← HX.out, if_pos z1]
            have q5 : ((x.kind == 1) == ((k : Int) == 0)) = true := by
              have e1 : (x.kind == 1) = decide (x.kind = 1) := by rw [Bool.eq_iff_iff]; simp
              have e2 : ((k : Int) == 0) = decide (k = 0) := by rw [Bool.eq_iff_iff]; simp
              rw [e1, e2, z1]; simp
            clear z1
            obtain ⟨o, ho⟩ : ∃ o, o = oneE x := ⟨_, rfl⟩
            rw [← ho] at HON HNE
            clear ho
            by_cases z2 : o = 0
            · have q6 : (o != 0) = false := by simp [z2]
              have HE : Hid (∀ j, j < k + 1 → nodeE ns j = 0) := fun j hj => by
                by_cases e : j = k
                · subst e; rw [HNE.out, z2]
                · exact HK.out j (by omega)
              clear z2
              go_wp2_with (go_at_call 57; refine HON.out.mono ?_; rintro e wy ⟨rfl, hby⟩)
              go_round
              case rel => exact ⟨k + 1, by omega, by go_num, below_then HBE2.out hby, HE⟩
              case measure => simp [intOf]; omega
            · have q6 : (o != 0) = true := by simp [z2]
              have HE : Hid (r = o) := by
                have e := firstE_at HK.out (by rw [HNE.out]; exact z2) hlt
                rw [HNE.out] at e
                show _ = _
                rw [HR1.out, e, if_pos z2]
              clear z2
              go_wp2_with (go_at_call 57; refine HON.out.mono ?_; rintro e wy ⟨rfl, hby⟩)
              go_ret
              exact ⟨by rw [HE.out]; rfl, below_then HWE.out hby⟩
          · have HNE : Hid (nodeE ns k = 3) := by show _ = _; unfold nodeE; rw [← HX.out, if_neg z1]
            have HE : Hid (r = 3) := by
              have e := firstE_at HK.out (by rw [HNE.out]; decide) hlt
              rw [HNE.out] at e
              show _ = _
              rw [HR1.out, e, if_pos (by decide)]
            have q5 : ((x.kind == 1) == ((k : Int) == 0)) = false := by
              have e1 : (x.kind == 1) = decide (x.kind = 1) := by rw [Bool.eq_iff_iff]; simp
              have e2 : ((k : Int) == 0) = decide (k = 0) := by rw [Bool.eq_iff_iff]; simp
              rw [e1, e2]
              cases ha : decide (x.kind = 1) <;> cases hb : decide (k = 0) <;> simp_all
            clear z1 HON
            go_wp2_with fail
            go_ret
            exact ⟨by rw [HE.out]; rfl, HWE.out⟩
        · have e : k = ns.length := by omega
          subst e
          have HR2 : Hid (r = if kidsE ns ≠ 0 then kidsE ns else firstE (upE ns) ns.length) := by
            show _ = _
            rw [HR1.out, firstE_none HK.out, if_neg (by decide)]
          have d0 : wr.cell? ⟨w.heap.size, 0, none⟩ = some (.slice A ns.length c) := (HD.out.below HBE.out HD.out.lt).cell 0
          have d1 : wr.cell? ⟨w.heap.size, 1, none⟩ = some (.bool q) := (HD.out.below HBE.out HD.out.lt).cell 1
          have HKS := Lib.hid (kids_calls A ns.length c B q ns wr rfl (HN.out.below HBE.out HN2.out) (Nat.le_trans HN2.out HBE.out.size) hm2 h0)
          have HWE := Lib.hid (below_then HW.out HBE.out)
          by_cases z1 : kidsE ns = 0
          · have HPI := Lib.hid (fun j (hj : j < ns.length) => parents_in z1 hj)
            rw [z1] at HKS
            have HR3 : Hid (r = firstE (upE ns) ns.length) := by show _ = _; rw [HR2.out, if_neg (fun h => h z1)]
            clear z1 HK
            go_upto_region 17 with (go_at_call 58; refine HKS.out.mono ?_; rintro e w1 ⟨rfl, hb1⟩; have HBE1 := Lib.hid (below_then HBE.out hb1); have d0 : w1.cell? ⟨w.heap.size, 0, none⟩ = some (.slice A ns.length c) := (HD.out.below HBE1.out HD.out.lt).cell 0)
            go_wp2_with fail
            clear d0 d1
            go_loopw [47] (fun i wj => ∃ j : Nat, j ≤ ns.length ∧ i = .int .i64 j ∧ Hid (Below w0.heap.size w0 wj) ∧ Hid (∀ t, t < j → upE ns t = 0)) (fun i _ => ns.length - (intOf i).toNat)
            case atStart => exact ⟨0, Nat.zero_le _, rfl, HBE1, fun t ht => absurd ht (by omega)⟩
            case round =>
              clear HBE HBE1 hbs HKS HWE
              obtain ⟨j, hj, rfl, HBE, HK⟩ := hrel
              have d0 : wr.cell? ⟨w.heap.size, 0, none⟩ = some (.slice A ns.length c) := (HD.out.below HBE.out HD.out.lt).cell 0
              have d1 : wr.cell? ⟨w.heap.size, 1, none⟩ = some (.bool q) := (HD.out.below HBE.out HD.out.lt).cell 1
              have HWE := Lib.hid (below_then HW.out HBE.out)
              by_cases hjl : j < ns.length
              · have HUP := Lib.hid (up_calls A ns.length c B j q ns wr rfl (HN.out.below HBE.out HN2.out) (Nat.le_trans HN2.out HBE.out.size) hm2 hjl HPI.out)
                obtain ⟨m, hmm⟩ : ∃ m, m = upF ns (ns.length + 1) j := ⟨_, rfl⟩
                rw [← hmm] at HUP
                have HMM := Lib.hid hmm
                clear hmm
                by_cases z1 : ns.length < m
                · have q7 : decide (ns.length < m) = true := decide_eq_true z1
                  have HE : Hid (r = 8) := by
                    have e : upE ns j = 8 := by unfold upE; rw [← HMM.out, if_pos z1]
                    show _ = _
                    rw [HR3.out, firstE_at HK.out (by rw [e]; decide) hjl, e]
                  clear z1
                  go_upto_region 21 with (go_at_call 59; refine HUP.out.mono ?_; rintro e w2 ⟨rfl, hb2⟩; have d0 : w2.cell? ⟨w.heap.size, 0, none⟩ = some (.slice A ns.length c) := (HD.out.below (below_then HBE.out hb2) HD.out.lt).cell 0)
                  go_wp2_with fail
                  go_ret
                  exact ⟨by rw [HE.out]; rfl, below_then HWE.out hb2⟩
                · have q7 : decide (ns.length < m) = false := decide_eq_false z1
                  by_cases z2 : 40 < m
                  · have q8 : decide ((40 : Int) < (m : Int)) = true := by simp; omega
                    have HE : Hid (r = 2) := by
                      have e : upE ns j = 2 := by unfold upE; rw [← HMM.out, if_neg z1, if_pos z2]
                      show _ = _
                      rw [HR3.out, firstE_at HK.out (by rw [e]; decide) hjl, e]
                    clear z1 z2
                    go_upto_region 21 with (go_at_call 59; refine HUP.out.mono ?_; rintro e w2 ⟨rfl, hb2⟩; have d0 : w2.cell? ⟨w.heap.size, 0, none⟩ = some (.slice A ns.length c) := (HD.out.below (below_then HBE.out hb2) HD.out.lt).cell 0)
                    go_wp2_with fail
                    go_ret
                    exact ⟨by rw [HE.out]; rfl, below_then HWE.out hb2⟩
                  · have q8 : decide ((40 : Int) < (m : Int)) = false := by simp; omega
                    have HE : Hid (∀ t, t < j + 1 → upE ns t = 0) := fun t ht => by
                      by_cases e : t = j
                      · subst e; unfold upE; rw [← HMM.out, if_neg z1, if_neg z2]
                      · exact HK.out t (by omega)
                    clear z1 z2
                    go_upto_region 21 with (go_at_call 59; refine HUP.out.mono ?_; rintro e w2 ⟨rfl, hb2⟩; have d0 : w2.cell? ⟨w.heap.size, 0, none⟩ = some (.slice A ns.length c) := (HD.out.below (below_then HBE.out hb2) HD.out.lt).cell 0)
                    go_wp2_with fail
                    go_round
                    case rel => exact ⟨j + 1, by omega, by go_num, below_then HBE.out hb2, HE⟩
                    case measure => simp [intOf]; omega
              · have e : j = ns.length := by omega
                subst e
                have HE : Hid (r = 0) := by show _ = _; rw [HR3.out, firstE_none HK.out]
                go_wp2_with fail
                go_ret
                exact ⟨by rw [HE.out]; rfl, HWE.out⟩
          · obtain ⟨ke, hke⟩ : ∃ ke, ke = kidsE ns := ⟨_, rfl⟩
            rw [← hke] at HKS HR2 z1
            have q6 : (ke != 0) = true := by simp [z1]
            have HE : Hid (r = ke) := by show _ = _; rw [HR2.out, if_pos z1]
            clear z1 hke
            go_wp2_with (go_at_call 58; refine HKS.out.mono ?_; rintro e w1 ⟨rfl, hb1⟩)
            go_ret
            exact ⟨by rw [HE.out]; rfl, below_then HWE.out hb1⟩
end Go.Proofs.YtkmmlcnoeeaekaaGreatDoor
/- Contract of style.Fits. -/
namespace Go.Proofs.YtkmmlcnoeeaekaaGreatDoor
open Go.RowKit
set_option linter.unusedVariables false
set_option linter.unusedSimpArgs false

def fitV (zs : List Int) (p : Nat) : Int := if fitsP p (zs.getD (p * 2) 0) (zs.getD (p * 2 + 1) 0) = true then 0 else 3
def fitS (lz : List Int) (i : Nat) : Int := firstE (fitV (srow lz i)) 59
/-- What is wrong with styles of a document. -/
def sfitsE (ns : List NodeV) (nl : Nat) (lz : List Int) : Int :=
  if checkE ns ≠ 0 then checkE ns else if nl ≠ ns.length then 3 else firstE (fitS lz) nl
theorem range_blk {w : World} {g : Nat} {T : TypeId} {zs : List Int} (h : Blk w g T (sty zs)) : w.rangeAt g 0 (sty zs).toList := fun j u hu => by
  rw [Nat.zero_add, h.cell j]
  simpa using hu
set_option maxRecDepth 100000 in
set_option maxHeartbeats 16000000 in
theorem sfits_calls (A : Option Addr) (n c B : Nat) (q : Bool) (ns : List NodeV) (Al : Option Addr) (nl cl : Nat) (lz : List Int) (w : World) (hn : ns.length = n) (h : Nodes w B A ns) (hB : B ≤ w.heap.size) (hm : n ≤ 1048576) (hl : lz.length = nl * 118) (h2 : Holds w B Al (ints lz)) (hm2 : nl ≤ 1048576) :
    Calls Tryz.prog 27 #[.agg #[.slice A n c, .bool q], .slice Al nl cl] w fun e w' => e = .returned (.int .i64 (sfitsE ns nl lz)) ∧ Below w.heap.size w w' := by
  subst hn
  have HD := Lib.hid (Blk.new w 24 #[.slice A ns.length c, .bool q])
  have d0 : (w.alloc (.cells #[.slice A ns.length c, .bool q] 24)).cell? ⟨w.heap.size, 0, none⟩ = some (.slice A ns.length c) := HD.out.cell 0
  have HW := Lib.hid (below_alloc (Below.refl w.heap.size w) (.cells #[.slice A ns.length c, .bool q] 24))
  have HN := Lib.hid (h.below HW.out hB)
  have HS := Lib.hid (h2.below HW.out hB)
  have HN2 := Lib.hid (Nat.le_trans hB HW.out.size)
  have HL := Lib.hid hl
  have HDC := Lib.hid (dcheck_calls A ns.length c B q ns (w.alloc (.cells #[.slice A ns.length c, .bool q] 24)) rfl HN.out HN2.out hm)
  obtain ⟨r, hr⟩ : ∃ r, r = sfitsE ns nl lz := ⟨_, rfl⟩
  rw [← hr]
  unfold sfitsE at hr
  obtain ⟨ce, hce⟩ : ∃ ce, ce = checkE ns := ⟨_, rfl⟩
  rw [← hce] at HDC hr
  have HR := Lib.hid hr
  clear h hr hB h2 hl hce
  by_cases g1 : ce = 0
  · have q1 : (ce != 0) = false := by simp [g1]
    by_cases g2 : nl = ns.length
    · have HR1 : Hid (r = firstE (fitS lz) nl) := by show _ = _; rw [HR.out, if_neg (fun h => h g1), if_neg (fun h => h g2)]
      have q2 : ((nl : Int) != (ns.length : Int)) = false := by simp [g2]
      clear g1 HR
      go_enter Tryz.func27, Tryz.ntmps27
      go_upto_region 4 with (go_at_call 26; refine HDC.out.mono ?_; rintro e w1 ⟨rfl, hb1⟩; have HW1 := Lib.hid (below_then HW.out hb1); have HS1 := Lib.hid (HS.out.below hb1 HN2.out); have HB1 := Lib.hid (Nat.le_trans HN2.out hb1.size); have d0 : w1.cell? ⟨w.heap.size, 0, none⟩ = some (.slice A ns.length c) := (HD.out.below hb1 HD.out.lt).cell 0; clear hb1)
      go_wp2_with fail
      clear d0
      go_loopw [23] (fun i wr => ∃ k : Nat, k ≤ nl ∧ i = .int .i64 k ∧ Hid (Below w1.heap.size w1 wr) ∧ Hid (∀ j, j < k → fitS lz j = 0)) (fun i _ => nl - (intOf i).toNat)
      case atStart => exact ⟨0, Nat.zero_le _, rfl, Below.refl _ _, fun j hj => absurd hj (by omega)⟩
      case round =>
        obtain ⟨k, hk, rfl, HBE, HK⟩ := hrel
        by_cases hlt : k < nl
        · obtain ⟨bL, offL, hA, hbL, hrow⟩ := styles_row (HS1.out.below HBE.out HB1.out) HL.out hlt
          subst hA
          obtain ⟨zs, hzs⟩ : ∃ zs, zs = srow lz k := ⟨_, rfl⟩
          have hz : zs.length = 118 := by rw [hzs]; exact srow_len _ _
          rw [← hzs] at hrow
          have HZS := Lib.hid hzs
          have HROW := Lib.hid hrow
          have HLAID := Lib.hid (sty_laid zs hz)
          have HSZL : Hid ((Tryz.prog.info? 35).map (·.size) = some (sty zs).toList.length) := by show _ = _; rw [Array.length_toList, sty_size, hz]; kernel_rfl
          have HIX := Lib.hid (fun p (hp : p < 59) ww => idx_val zs hz p hp ww)
          have HKK := Lib.hid (show k ≤ nl ∧ k < nl from ⟨hk, hlt⟩)
          clear hzs hz hrow hbL
          go_upto_region 9 with (first | (refine wpList_load_mid rfl 35 _ rfl bL (offL + k * 118) rfl (sty zs).toList _ HROW.out Tryz.underlying35 rfl HSZL.out ?_) | (refine wpList_store_mid rfl _ _ _ rfl wr.heap.size 0 (sty zs) rfl rfl (HLAID.out wr).2.1 (HLAID.out wr).1 (sty_one _) ?_; obtain ⟨w2, hw2, bS, hb2, hsz2⟩ := (HLAID.out wr).2.2; rw [hw2]; clear hw2; have HSB := Lib.hid bS; have HBE2 := Lib.hid (below_then HBE.out hb2); clear bS hb2 hsz2))
          have HRG := Lib.hid (range_blk HSB.out)
          go_wp2_with (refine wpList_load_mid rfl 35 _ rfl wr.heap.size 0 rfl (sty zs).toList _ HRG.out Tryz.underlying35 rfl HSZL.out ?_)
          clear HRG
          go_loopw [28] (fun i wj => ∃ p : Nat, p ≤ 59 ∧ i = .int .i64 p ∧ Hid (Below w1.heap.size w1 wj) ∧ Hid (∀ t, t < p → fitV zs t = 0)) (fun i _ => 59 - (intOf i).toNat)
          case atStart => exact ⟨0, Nat.zero_le _, rfl, HBE2, fun t ht => absurd ht (by omega)⟩
          case round =>
            clear HBE HBE2 HSB
            obtain ⟨p, hp, rfl, HBE, HKP⟩ := hrel
            have HWE := Lib.hid (below_then HW1.out HBE.out)
            by_cases hpl : p < 59
            · have hix := HIX.out p hpl
              have HV : Hid (fitV zs p = if fitsP p (zs.getD (p * 2) 0) (zs.getD (p * 2 + 1) 0) = true then 0 else 3) := rfl
              have HPF := Lib.hid (fun ww => pfits_calls p hpl (zs.getD (p * 2) 0) (zs.getD (p * 2 + 1) 0) ww)
              generalize zs.getD (p * 2) 0 = va at hix HV HPF
              generalize zs.getD (p * 2 + 1) 0 = vb at hix HV HPF
              obtain ⟨fb, hfb⟩ : ∃ fb, fb = fitsP p va vb := ⟨_, rfl⟩
              rw [← hfb] at HV HPF
              clear hfb
              have hpl2 : (p : Int) < 59 := by omega
              have hba := below_alloc (Below.refl wr.heap.size wr) (.cells #[.int .i64 va, .int .i64 vb] 33)
              have HBE2 := Lib.hid (below_then HBE.out hba)
              have HWE2 := Lib.hid (below_then HWE.out hba)
              clear hba
              cases fb
              · have HE : Hid (r = 3) := by
                  have e1 : fitV zs p = 3 := by rw [HV.out]; rfl
                  have e2 : fitS lz k = 3 := by unfold fitS; rw [← HZS.out, firstE_at HKP.out (by rw [e1]; decide) hpl, e1]
                  show _ = _
                  rw [HR1.out, firstE_at HK.out (by rw [e2]; decide) HKK.out.2, e2]
                go_wp2_with (go_at_call 60; refine (HPF.out _).mono ?_; rintro e w3 ⟨rfl, hb3⟩)
                go_ret
                exact ⟨by rw [HE.out]; rfl, below_then HWE2.out hb3⟩
              · have HE : Hid (∀ t, t < p + 1 → fitV zs t = 0) := fun t ht => by
                  by_cases e : t = p
                  · subst e; rw [HV.out]; rfl
                  · exact HKP.out t (by omega)
                go_wp2_with (go_at_call 60; refine (HPF.out _).mono ?_; rintro e w3 ⟨rfl, hb3⟩)
                go_round
                case rel => exact ⟨p + 1, by omega, by go_num, below_then HBE2.out hb3, HE⟩
                case measure => simp [intOf]; omega
            · have e : p = 59 := by omega
              subst e
              have HE : Hid (∀ j, j < k + 1 → fitS lz j = 0) := fun j hj => by
                by_cases e : j = k
                · subst e; unfold fitS; rw [← HZS.out]; exact firstE_none HKP.out
                · exact HK.out j (by omega)
              go_wp2_with fail
              go_round
              case rel => exact ⟨k + 1, HKK.out.2, by go_num, HBE, HE⟩
              case measure => have := HKK.out.2; simp [intOf]; omega
        · have e : k = nl := by omega
          subst e
          have HE : Hid (r = 0) := by show _ = _; rw [HR1.out, firstE_none HK.out]
          have HWE := Lib.hid (below_then HW1.out HBE.out)
          go_wp2_with fail
          go_ret
          exact ⟨by rw [HE.out]; rfl, HWE.out⟩
    · have q2 : ((nl : Int) == (ns.length : Int)) = false := by simp; omega
      have q3 : (nl == ns.length) = false := by simp [g2]
      have HE : Hid (r = 3) := by show _ = _; rw [HR.out, if_neg (fun h => h g1), if_pos g2]
      clear g1 g2 HR
      go_enter Tryz.func27, Tryz.ntmps27
      go_upto_region 4 with (go_at_call 26; refine HDC.out.mono ?_; rintro e w1 ⟨rfl, hb1⟩; have HW1 := Lib.hid (below_then HW.out hb1); have d0 : w1.cell? ⟨w.heap.size, 0, none⟩ = some (.slice A ns.length c) := (HD.out.below hb1 HD.out.lt).cell 0; clear hb1)
      go_wp2_with fail
      go_ret
      exact ⟨by rw [HE.out]; rfl, HW1.out⟩
  · have q1 : (ce != 0) = true := by simp [g1]
    have HE : Hid (r = ce) := by show _ = _; rw [HR.out, if_pos g1]
    clear g1 HR
    go_enter Tryz.func27, Tryz.ntmps27
    go_wp2_with (go_at_call 26; refine HDC.out.mono ?_; rintro e w1 ⟨rfl, hb1⟩; have HW1 := Lib.hid (below_then HW.out hb1); clear hb1)
    go_ret
    exact ⟨by rw [HE.out]; rfl, HW1.out⟩
end Go.Proofs.YtkmmlcnoeeaekaaGreatDoor
/- Contracts: wrong, hit.node. -/
namespace Go.Proofs.YtkmmlcnoeeaekaaGreatDoor
open Go.RowKit
set_option linter.unusedVariables false
set_option linter.unusedSimpArgs false

theorem sfits_of {ns : List NodeV} {nl : Nat} {lz : List Int} (h : checkE ns ≠ 0) : sfitsE ns nl lz = checkE ns := by unfold sfitsE; rw [if_pos h]
set_option maxRecDepth 100000 in
theorem wrong_calls (A : Option Addr) (n c B : Nat) (q : Bool) (ns : List NodeV) (Al : Option Addr) (nl cl : Nat) (lz : List Int) (w : World) (hn : ns.length = n) (h : Nodes w B A ns) (hB : B ≤ w.heap.size) (hm : n ≤ 1048576) (hl : lz.length = nl * 118) (h2 : Holds w B Al (ints lz)) (hm2 : nl ≤ 1048576) :
    Calls Tryz.prog 7 #[.agg #[.slice A n c, .bool q], .slice Al nl cl] w fun e w' => e = .returned (.int .i64 (sfitsE ns nl lz)) ∧ Below w.heap.size w w' := by
  have HD := Lib.hid (Blk.new w 24 #[.slice A n c, .bool q])
  have HW := Lib.hid (below_alloc (Below.refl w.heap.size w) (.cells #[.slice A n c, .bool q] 24))
  have HN := Lib.hid (h.below HW.out hB)
  have HS := Lib.hid (h2.below HW.out hB)
  have HN2 := Lib.hid (Nat.le_trans hB HW.out.size)
  have HDC := Lib.hid (dcheck_calls A n c B q ns (w.alloc (.cells #[.slice A n c, .bool q] 24)) hn HN.out HN2.out hm)
  have HFI := Lib.hid (fun (ww : World) (hb : Below (w.alloc (.cells #[.slice A n c, .bool q] 24)).heap.size (w.alloc (.cells #[.slice A n c, .bool q] 24)) ww) => sfits_calls A n c B q ns Al nl cl lz ww hn (HN.out.below hb HN2.out) (Nat.le_trans HN2.out hb.size) hm hl (HS.out.below hb HN2.out) hm2)
  have HSO := Lib.hid (fun h => sfits_of (ns := ns) (nl := nl) (lz := lz) h)
  obtain ⟨ce, hce⟩ : ∃ ce, ce = checkE ns := ⟨_, rfl⟩
  rw [← hce] at HDC HSO
  obtain ⟨r, hr⟩ : ∃ r, r = sfitsE ns nl lz := ⟨_, rfl⟩
  rw [← hr] at HFI HSO ⊢
  clear h h2 hce hr hn hl
  by_cases g1 : ce = 0
  · have q1 : (ce != 0) = false := by simp [g1]
    clear g1 HSO
    go_enter Tryz.func7, Tryz.ntmps7
    go_wp2_with (first | (go_at_call 26; refine HDC.out.mono ?_; rintro e w1 ⟨rfl, hb1⟩; have HB1 := Lib.hid hb1; have d0 : w1.cell? ⟨w.heap.size, 0, none⟩ = some (.slice A n c) := (HD.out.below hb1 HD.out.lt).cell 0; have d1 : w1.cell? ⟨w.heap.size, 1, none⟩ = some (.bool q) := (HD.out.below hb1 HD.out.lt).cell 1; clear hb1) | (go_at_call 27; refine (HFI.out _ HB1.out).mono ?_; rintro e w2 ⟨rfl, hb2⟩))
    go_ret
    exact ⟨rfl, below_then (below_then HW.out HB1.out) hb2⟩
  · have q1 : (ce != 0) = true := by simp [g1]
    have HE : Hid (r = ce) := HSO.out g1
    clear g1 HSO HFI
    go_enter Tryz.func7, Tryz.ntmps7
    go_wp2_with (go_at_call 26; refine HDC.out.mono ?_; rintro e w1 ⟨rfl, hb1⟩)
    go_ret
    exact ⟨by rw [HE.out]; rfl, below_then HW.out hb1⟩
/-- The node of a frag: its own, or that of the next above that has one. -/
def nodeN (fs : List FragV) : Nat → Nat → Int
  | 0, i => (fr fs i).node
  | u + 1, i => if (fr fs i).node < 0 then nodeN fs u (fr fs i).par.toNat else (fr fs i).node
theorem nodeN_fuel {fs : List FragV} (hp : ∀ i, 0 < i → i < fs.length → 0 ≤ (fr fs i).par ∧ (fr fs i).par < i) (h0 : 0 ≤ (fr fs 0).node) : ∀ (u i : Nat), i ≤ u → i < fs.length → nodeN fs u i = nodeN fs i i := by
  intro u i
  induction i using Nat.strongRecOn generalizing u with
  | ind i ih =>
    intro hu hi
    match u, i with
    | 0, 0 => rfl
    | 0, i + 1 => omega
    | u + 1, 0 =>
      show (if (fr fs 0).node < 0 then nodeN fs u (fr fs 0).par.toNat else (fr fs 0).node) = (fr fs 0).node
      rw [if_neg (by omega)]
    | u + 1, i + 1 =>
      show (if (fr fs (i + 1)).node < 0 then nodeN fs u (fr fs (i + 1)).par.toNat else (fr fs (i + 1)).node) = (if (fr fs (i + 1)).node < 0 then nodeN fs i (fr fs (i + 1)).par.toNat else (fr fs (i + 1)).node)
      split
      · have h1 := hp (i + 1) (by omega) hi
        rw [ih _ (by omega) u (by omega) (by omega), ih _ (by omega) i (by omega) (by omega)]
      · rfl
def nodeAt (fs : List FragV) (i : Nat) : Int := nodeN fs i i
theorem nodeAt_up {fs : List FragV} (hp : ∀ i, 0 < i → i < fs.length → 0 ≤ (fr fs i).par ∧ (fr fs i).par < i) (h0 : 0 ≤ (fr fs 0).node) {i : Nat} (hi : i < fs.length) (hn : (fr fs i).node < 0) : nodeAt fs i = nodeAt fs (fr fs i).par.toNat ∧ 0 < i := by
  match i with
  | 0 => omega
  | i + 1 =>
    have h1 := hp (i + 1) (by omega) hi
    unfold nodeAt
    rw [nodeN, if_pos hn]
    exact ⟨nodeN_fuel hp h0 _ _ (by omega) (by omega), by omega⟩
theorem nodeAt_own {fs : List FragV} {i : Nat} (hn : ¬ (fr fs i).node < 0) : nodeAt fs i = (fr fs i).node := by
  unfold nodeAt
  cases i with
  | zero => rfl
  | succ i => rw [nodeN, if_neg hn]
set_option maxRecDepth 100000 in
set_option maxHeartbeats 2000000 in
theorem node_calls (Af : Option Addr) (nf cf B i : Nat) (fs : List FragV) (w : World) (hf : fs.length = nf) (h : Frags w B Af fs) (hm : nf ≤ 1048576) (hi : i < nf) (hp : ∀ i, 0 < i → i < fs.length → 0 ≤ (fr fs i).par ∧ (fr fs i).par < i) (h0 : 0 ≤ (fr fs 0).node) :
    Calls Tryz.prog 43 #[.slice Af nf cf, .int .i64 i] w fun e w' => e = .returned (.int .i64 (nodeAt fs i)) ∧ w = w' := by
  subst hf
  have H := Lib.hid h
  have HP := Lib.hid hp
  have H0 := Lib.hid h0
  obtain ⟨r, hr⟩ : ∃ r, r = nodeAt fs i := ⟨_, rfl⟩
  rw [← hr]
  have HR := Lib.hid hr
  clear h hp h0 hr
  go_enter Tryz.func43, Tryz.ntmps43
  go_wp2_with fail
  go_loop [1] (fun x => ∃ k : Nat, k < fs.length ∧ x = .int .i64 k ∧ Hid (r = nodeAt fs k)) (fun x => (intOf x).toNat)
  case atStart => exact ⟨i, hi, rfl, HR.out⟩
  case round =>
    obtain ⟨k, hk, rfl, HK⟩ := hrel
    obtain ⟨b, off, hA, hb, c0, c1, c2, c3, c4, c5, c6, c7⟩ := H.out.at_ hk
    subst hA
    have HUP := Lib.hid (fun hn => nodeAt_up HP.out H0.out hk hn)
    have HOW := Lib.hid (fun hn => nodeAt_own (fs := fs) (i := k) hn)
    have hpp := Lib.hid (fun h => HP.out k h hk)
    generalize (fr fs k).node = nd at c1 HUP HOW
    generalize (fr fs k).par = pa at c2 HUP hpp
    clear c0 c3 c4 c5 c6 c7
    by_cases hn : nd < 0
    · have q1 : decide (nd < 0) = true := decide_eq_true hn
      obtain ⟨e1, e2⟩ := HUP.out hn
      obtain ⟨p1, p2⟩ := hpp.out e2
      obtain ⟨p, rfl⟩ : ∃ p : Nat, pa = p := ⟨pa.toNat, by omega⟩
      have HE : Hid (r = nodeAt fs p) := by show _ = _; rw [HK.out, e1, Int.toNat_natCast]
      clear e1 hn
      go_wp2_with fail
      go_round
      case rel => exact ⟨p, by omega, rfl, HE.out⟩
      case measure => simp [intOf]; omega
    · have q1 : decide (nd < 0) = false := decide_eq_false hn
      have HE : Hid (r = nd) := by show _ = _; rw [HK.out, HOW.out hn]
      clear hn
      go_wp2_with fail
      go_ret
      exact ⟨by rw [HE.out]; rfl, rfl⟩
end Go.Proofs.YtkmmlcnoeeaekaaGreatDoor
