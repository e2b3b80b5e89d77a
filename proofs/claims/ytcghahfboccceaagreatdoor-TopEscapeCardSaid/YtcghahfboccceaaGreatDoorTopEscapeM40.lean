/- Several texts in one: TfP, DomH. -/
import Derived.Test.YtcghahfboccceaaGreatDoorTopEscapeM39
import Derived.Test.YtcghahfboccceaaGreatDoorTopEscapeM33
/- Contract of the parser's all. -/
namespace Go.Proofs.YtcghahfboccceaaGreatDoor
open Go.RowKit Go.Shelf
set_option linter.unusedVariables false
set_option linter.unusedSimpArgs false

theorem toksL_at : ∀ (ts : List TokV) (i j : Nat) (u : Value) (hi : i < ts.length), (tokL ts[i])[j]? = some u → (ts.flatMap tokL)[i * 7 + j]? = some u
  | [], _, _, _, hi, _ => by simp at hi
  | r :: rs, 0, j, u, _, h => by
    have hj : j < 7 := by
      rcases Nat.lt_or_ge j 7 with h1 | h1
      · exact h1
      · rw [List.getElem?_eq_none (by show 7 ≤ j; exact h1)] at h; cases h
    rw [List.flatMap_cons, List.getElem?_append_left (by show _ < 7; omega), Nat.zero_mul, Nat.zero_add]
    exact h
  | r :: rs, i + 1, j, u, hi, h => by
    rw [List.flatMap_cons, List.getElem?_append_right (by show 7 ≤ _; omega), show (i + 1) * 7 + j - (tokL r).length = i * 7 + j from by show _ - 7 = _; omega]
    exact toksL_at rs i j u (by simpa using hi) h
set_option maxRecDepth 100000 in
set_option maxHeartbeats 4000000 in
theorem all_calls (B B0 b : Nat) (m : Int) (ts : List TokV) (Pt : Nat → PS) (P' : PS) (v : Value) (w : World) (h : RP B b m (Pt 0) w) (hr : w.ownsRow B0 49 7 v ts.length (ts.flatMap tokL)) (h0 : 0 < ts.length) (hn0 : ts.length < 1000000)
    (hav : ∀ t ∈ ts, ∃ A n c, t.av = .slice A n c)
    (hone : ∀ i (hi : i < ts.length) W, RP B b m (Pt i) W → Keep w W → Calls Tryz.prog 63 #[.pointer (some ⟨b, 0, none⟩), .agg (tokL ts[i]).toArray] W fun e w' => e = .returned (.tuple #[]) ∧ RP B b m (Pt (i + 1)) w' ∧ Left B W w')
    (hfin : ∀ W, RP B b m (Pt ts.length) W → Calls Tryz.prog 63 #[.pointer (some ⟨b, 0, none⟩), .agg #[.int .i64 0, .string ⟨#[]⟩, .slice none 0 0, .string ⟨#[]⟩, .bool false, .int .i64 0, .int .i64 0]] W fun e w' => e = .returned (.tuple #[]) ∧ RP B b m P' w' ∧ Left B W w') :
    Calls Tryz.prog 36 #[.pointer (some ⟨b, 0, none⟩), v] w fun e w' => e = .returned (.tuple #[]) ∧ RP B b m P' w' ∧ Left B w w' := by
  obtain ⟨g, cap, rfl, _, _⟩ := own_some hr h0
  obtain ⟨n, hn⟩ : ∃ n, n = ts.length := ⟨_, rfl⟩
  have HR := Lib.hid hr
  rw [← hn] at hn0 hfin ⊢
  have HN := Lib.hid hn
  have HP := Lib.hid h
  have HAV := Lib.hid hav
  have HONE := Lib.hid hone
  have HFIN := Lib.hid hfin
  clear hn hr h hav hone hfin h0
  go_enter Tryz.func36, Tryz.ntmps36
  go_wp2
  go_loopw [8] (fun i wr => ∃ k : Nat, i = .int .i64 (k : Int) ∧ k ≤ n ∧ Hid (RP B b m (Pt k) wr) ∧ Hid (Left B w wr)) (fun i _ => n - (intOf i).toNat)
  case atStart => exact ⟨0, rfl, Nat.zero_le _, HP.out, ⟨Below.refl _ _, Keep.refl _⟩⟩
  case round =>
    obtain ⟨k, rfl, hk, HRP, HL⟩ := hrel
    by_cases hlt : k < n
    · have hkl : k < ts.length := by have := HN.out; omega
      obtain ⟨t, ht⟩ : ∃ t, t = ts[k] := ⟨_, rfl⟩
      obtain ⟨A, na, c, hA⟩ := HAV.out t (by rw [ht]; exact List.getElem_mem _)
      have hrow := HL.out.keep.own HR.out (by decide) (by decide) (by decide)
      have hc : ∀ j u, (tokL t)[j]? = some u → wr.cell? ⟨g, k * 7 + j, none⟩ = some u := fun j u hj => own_cell (by rw [← HN.out] at hrow; exact hrow) (toksL_at ts k j u hkl (by rw [← ht]; exact hj))
      obtain ⟨kind, nm, av, tx, sf, f9, t9⟩ := t
      have hA : av = .slice A na c := hA
      subst hA
      have c0 : wr.cell? ⟨g, k * 7, none⟩ = some (.int .i64 kind) := hc 0 _ rfl
      have c1 : wr.cell? ⟨g, k * 7 + 1, none⟩ = some (.string nm) := hc 1 _ rfl
      have c2 : wr.cell? ⟨g, k * 7 + 2, none⟩ = some (.slice A na c) := hc 2 _ rfl
      have c3 : wr.cell? ⟨g, k * 7 + 3, none⟩ = some (.string tx) := hc 3 _ rfl
      have c4 : wr.cell? ⟨g, k * 7 + 4, none⟩ = some (.bool sf) := hc 4 _ rfl
      have c5 : wr.cell? ⟨g, k * 7 + 5, none⟩ = some (.int .i64 f9) := hc 5 _ rfl
      have c6 : wr.cell? ⟨g, k * 7 + 6, none⟩ = some (.int .i64 t9) := hc 6 _ rfl
      have HO := Lib.hid (HONE.out k hkl)
      rw [← ht] at HO
      have BA := Lib.hid (below_alloc (Below.refl wr.heap.size wr) (.cells #[.int .i64 kind, .string nm, .slice A na c, .string tx, .bool sf, .int .i64 f9, .int .i64 t9] 49))
      have LA := Lib.hid (HL.out.trans (Left.of_below BA.out HRP.out.bw))
      clear ht hc hrow
      go_wp2_with (go_at_call 63; refine (HO.out _ (HRP.out.below BA.out) LA.out.keep).mono ?_; rintro e w1 ⟨rfl, hr1, hl1⟩)
      go_roundw
      case rel => exact ⟨k + 1, by go_num, by omega, hr1, LA.out.trans hl1⟩
      case measure => simp [intOf]; omega
    · obtain rfl : k = n := by omega
      go_wp2_with (go_at_call 63; refine (HFIN.out _ HRP.out).mono ?_; rintro e w1 ⟨rfl, hr1, hl1⟩)
      go_end0
      exact ⟨rfl, hr1, HL.out.trans hl1⟩
end Go.Proofs.YtcghahfboccceaaGreatDoor
/- Contract of dom.Check. -/
namespace Go.Proofs.YtcghahfboccceaaGreatDoor
open Go.RowKit
set_option linter.unusedVariables false
set_option linter.unusedSimpArgs false

set_option maxRecDepth 100000 in
set_option maxHeartbeats 16000000 in
theorem dcheck_calls (A : Option Addr) (n c B : Nat) (q : Bool) (ns : List NodeV) (w : World) (hn : ns.length = n) (h : Nodes w B A ns) (hB : B ≤ w.heap.size) (hm : n ≤ 140737488355328) :
    Calls Tryz.prog 24 #[.agg #[.slice A n c, .bool q]] w fun e w' => e = .returned (.int .i64 (checkE ns)) ∧ Below w.heap.size w w' := by
  subst hn
  have HD := Lib.hid (Blk.new w 27 #[.slice A ns.length c, .bool q])
  have d0 : (w.alloc (.cells #[.slice A ns.length c, .bool q] 27)).cell? ⟨w.heap.size, 0, none⟩ = some (.slice A ns.length c) := HD.out.cell 0
  have HW := Lib.hid (below_alloc (Below.refl w.heap.size w) (.cells #[.slice A ns.length c, .bool q] 27))
  have HN := Lib.hid (h.below HW.out hB)
  have HN2 := Lib.hid (Nat.le_trans hB HW.out.size)
  obtain ⟨r, hr⟩ : ∃ r, r = checkE ns := ⟨_, rfl⟩
  rw [← hr]
  have HR := Lib.hid hr
  clear h hr hB
  by_cases g1 : 200 < ns.length
  · have q1 : decide ((200 : Int) < (ns.length : Int)) = true := by simp; omega
    have HE : Hid (r = 2) := by show _ = _; rw [HR.out]; unfold checkE; rw [if_pos g1]
    clear g1
    go_enter Tryz.func24, Tryz.ntmps24
    go_wp2_with fail
    go_ret
    exact ⟨by rw [HE.out]; rfl, HW.out⟩
  · have q1 : decide ((200 : Int) < (ns.length : Int)) = false := by simp; omega
    by_cases g2 : ns.length = 0
    · have q2 : ((ns.length : Int) == 0) = true := by simp [g2]
      have HE : Hid (r = 3) := by show _ = _; rw [HR.out]; unfold checkE; rw [if_neg g1, if_pos g2]
      clear g1 g2
      go_enter Tryz.func24, Tryz.ntmps24
      go_wp2_with fail
      go_ret
      exact ⟨by rw [HE.out]; rfl, HW.out⟩
    · have q2 : ((ns.length : Int) == 0) = false := by simp [g2]
      have h0 : 0 < ns.length := by omega
      have HR1 : Hid (r = if firstE (nodeE ns) ns.length ≠ 0 then firstE (nodeE ns) ns.length else if kidsE ns ≠ 0 then kidsE ns else firstE (upE ns) ns.length) := by show _ = _; rw [HR.out]; unfold checkE; rw [if_neg g1, if_neg g2]
      have hm2 : ns.length ≤ 200 := by omega
      have HQ1 := Lib.hid q1
      clear g1 g2 HR
      go_enter Tryz.func24, Tryz.ntmps24
      go_upto_region 1 with fail
      generalize World.alloc w _ = w0 at HD HW HN HN2 d0 ⊢
      go_wp2_with fail
      clear d0
      go_loopw [22] (fun i wr => ∃ k : Nat, k ≤ ns.length ∧ i = .int .i64 k ∧ Hid (Below w0.heap.size w0 wr) ∧ Hid (∀ j, j < k → nodeE ns j = 0)) (fun i _ => ns.length - (intOf i).toNat)
      case atStart => exact ⟨0, Nat.zero_le _, rfl, Below.refl _ _, fun j hj => absurd hj (by omega)⟩
      case round =>
        obtain ⟨k, hk, rfl, HBE, HK⟩ := hrel
        have hbs := HBE.out.size
        have hbN := HN2.out
        by_cases hlt : k < ns.length
        · obtain ⟨b, off, hA, hb, hc, hin⟩ := (HN.out.below HBE.out HN2.out) k hlt
          obtain ⟨x, hx⟩ : ∃ x, x = nd ns k := ⟨_, rfl⟩
          rw [← hx] at hc hin
          have HX := Lib.hid hx
          have c0 : wr.cell? ⟨b, off + k * 6, none⟩ = some (.int .i64 x.kind) := hc 0 (by decide)
          have c1 : wr.cell? ⟨b, off + k * 6 + 1, none⟩ = some (.string x.name) := hc 1 (by decide)
          have c2 : wr.cell? ⟨b, off + k * 6 + 2, none⟩ = some (.slice x.attrsA x.attrs.length x.acap) := hc 2 (by decide)
          have c3 : wr.cell? ⟨b, off + k * 6 + 3, none⟩ = some (.string x.text) := hc 3 (by decide)
          have c4 : wr.cell? ⟨b, off + k * 6 + 4, none⟩ = some (.int .i64 x.parent) := hc 4 (by decide)
          have c5 : wr.cell? ⟨b, off + k * 6 + 5, none⟩ = some (.slice x.kidsA x.kids.length x.kcap) := hc 5 (by decide)
          subst hA
          have hbl := below_alloc (Below.refl wr.heap.size wr) (.cells #[.int .i64 x.kind, .string x.name, .slice x.attrsA x.attrs.length x.acap, .string x.text, .int .i64 x.parent, .slice x.kidsA x.kids.length x.kcap] 35)
          have HBE2 := Lib.hid (below_then HBE.out hbl)
          have HBX := Lib.hid (Blk.new wr 35 #[.int .i64 x.kind, .string x.name, .slice x.attrsA x.attrs.length x.acap, .string x.text, .int .i64 x.parent, .slice x.kidsA x.kids.length x.kcap])
          have HIN := Lib.hid (hin.below hbl (by omega))
          clear hc hin hx hbl HBE
          go_upto_region 8 with fail
          generalize World.alloc wr _ = wx at HBE2 HBX HIN ⊢
          generalize wr.heap.size = gx at HBX hbs ⊢
          clear c0 c1 c2 c3 c4 c5
          have HWE := Lib.hid (below_then HW.out HBE2.out)
          have d0 : wx.cell? ⟨gx, 0, none⟩ = some (.int .i64 x.kind) := HBX.out.cell 0
          have d1 : wx.cell? ⟨gx, 1, none⟩ = some (.string x.name) := HBX.out.cell 1
          have d2 : wx.cell? ⟨gx, 2, none⟩ = some (.slice x.attrsA x.attrs.length x.acap) := HBX.out.cell 2
          have d3 : wx.cell? ⟨gx, 3, none⟩ = some (.string x.text) := HBX.out.cell 3
          have d4 : wx.cell? ⟨gx, 4, none⟩ = some (.int .i64 x.parent) := HBX.out.cell 4
          have d5 : wx.cell? ⟨gx, 5, none⟩ = some (.slice x.kidsA x.kids.length x.kcap) := HBX.out.cell 5
          have HON := Lib.hid (one_calls x B wx HIN.out (Nat.le_trans HN2.out HBE2.out.size))
          by_cases z1 : (decide (x.kind = 1)) = (decide (k = 0))
          · have HNE : Hid (nodeE ns k = oneE x) := by show _ = _; unfold nodeE; rw [← HX.out, if_pos z1]
            have q5 : ((x.kind == 1) == ((k : Int) == 0)) = true := by
              have e1 : (x.kind == 1) = decide (x.kind = 1) := by rw [Bool.eq_iff_iff]; simp
              have e2 : ((k : Int) == 0) = decide (k = 0) := by rw [Bool.eq_iff_iff]; simp
              rw [e1, e2, z1]; simp
            clear z1
            obtain ⟨o, ho⟩ : ∃ o, o = oneE x := ⟨_, rfl⟩
            rw [← ho] at HON HNE
            clear ho
            by_cases z2 : o = 0
            · have q6 : (o != 0) = false := by simp [z2]
              have HE : Hid (∀ j, j < k + 1 → nodeE ns j = 0) := fun j hj => by
                by_cases e : j = k
                · subst e; rw [HNE.out, z2]
                · exact HK.out j (by omega)
              clear z2
              go_wp2_with (go_at_call 43; refine HON.out.mono ?_; rintro e wy ⟨rfl, hby⟩)
              go_round
              case rel => exact ⟨k + 1, by omega, by go_num, below_then HBE2.out hby, HE⟩
              case measure => simp [intOf]; omega
            · have q6 : (o != 0) = true := by simp [z2]
              have HE : Hid (r = o) := by
                have e := firstE_at HK.out (by rw [HNE.out]; exact z2) hlt
                rw [HNE.out] at e
                show _ = _
                rw [HR1.out, e, if_pos z2]
              clear z2
              go_wp2_with (go_at_call 43; refine HON.out.mono ?_; rintro e wy ⟨rfl, hby⟩)
              go_ret
              exact ⟨by rw [HE.out]; rfl, below_then HWE.out hby⟩
          · have HNE : Hid (nodeE ns k = 3) := by show _ = _; unfold nodeE; rw [← HX.out, if_neg z1]
            have HE : Hid (r = 3) := by
              have e := firstE_at HK.out (by rw [HNE.out]; decide) hlt
              rw [HNE.out] at e
              show _ = _
              rw [HR1.out, e, if_pos (by decide)]
            have q5 : ((x.kind == 1) == ((k : Int) == 0)) = false := by
              have e1 : (x.kind == 1) = decide (x.kind = 1) := by rw [Bool.eq_iff_iff]; simp
              have e2 : ((k : Int) == 0) = decide (k = 0) := by rw [Bool.eq_iff_iff]; simp
              rw [e1, e2]
              cases ha : decide (x.kind = 1) <;> cases hb : decide (k = 0) <;> simp_all
            clear z1 HON
            go_wp2_with fail
            go_ret
            exact ⟨by rw [HE.out]; rfl, HWE.out⟩
        · have e : k = ns.length := by omega
          subst e
          have HR2 : Hid (r = if kidsE ns ≠ 0 then kidsE ns else firstE (upE ns) ns.length) := by
            show _ = _
            rw [HR1.out, firstE_none HK.out, if_neg (by decide)]
          have d0 : wr.cell? ⟨w.heap.size, 0, none⟩ = some (.slice A ns.length c) := (HD.out.below HBE.out HD.out.lt).cell 0
          have d1 : wr.cell? ⟨w.heap.size, 1, none⟩ = some (.bool q) := (HD.out.below HBE.out HD.out.lt).cell 1
          have HKS := Lib.hid (kids_calls A ns.length c B q ns wr rfl (HN.out.below HBE.out HN2.out) (Nat.le_trans HN2.out HBE.out.size) hm2 h0)
          have HWE := Lib.hid (below_then HW.out HBE.out)
          by_cases z1 : kidsE ns = 0
          · have HPI := Lib.hid (fun j (hj : j < ns.length) => parents_in z1 hj)
            rw [z1] at HKS
            have HR3 : Hid (r = firstE (upE ns) ns.length) := by show _ = _; rw [HR2.out, if_neg (fun h => h z1)]
            clear z1 HK
            go_upto_region 17 with (go_at_call 44; refine HKS.out.mono ?_; rintro e w1 ⟨rfl, hb1⟩; have HBE1 := Lib.hid (below_then HBE.out hb1); have d0 : w1.cell? ⟨w.heap.size, 0, none⟩ = some (.slice A ns.length c) := (HD.out.below HBE1.out HD.out.lt).cell 0)
            go_wp2_with fail
            clear d0 d1
            go_loopw [47] (fun i wj => ∃ j : Nat, j ≤ ns.length ∧ i = .int .i64 j ∧ Hid (Below w0.heap.size w0 wj) ∧ Hid (∀ t, t < j → upE ns t = 0)) (fun i _ => ns.length - (intOf i).toNat)
            case atStart => exact ⟨0, Nat.zero_le _, rfl, HBE1, fun t ht => absurd ht (by omega)⟩
            case round =>
              clear HBE HBE1 hbs HKS HWE
              obtain ⟨j, hj, rfl, HBE, HK⟩ := hrel
              have d0 : wr.cell? ⟨w.heap.size, 0, none⟩ = some (.slice A ns.length c) := (HD.out.below HBE.out HD.out.lt).cell 0
              have d1 : wr.cell? ⟨w.heap.size, 1, none⟩ = some (.bool q) := (HD.out.below HBE.out HD.out.lt).cell 1
              have HWE := Lib.hid (below_then HW.out HBE.out)
              by_cases hjl : j < ns.length
              · have HUP := Lib.hid (up_calls A ns.length c B j q ns wr rfl (HN.out.below HBE.out HN2.out) (Nat.le_trans HN2.out HBE.out.size) hm2 hjl HPI.out)
                obtain ⟨m, hmm⟩ : ∃ m, m = upF ns (ns.length + 1) j := ⟨_, rfl⟩
                rw [← hmm] at HUP
                have HMM := Lib.hid hmm
                clear hmm
                by_cases z1 : ns.length < m
                · have q7 : decide (ns.length < m) = true := decide_eq_true z1
                  have HE : Hid (r = 8) := by
                    have e : upE ns j = 8 := by unfold upE; rw [← HMM.out, if_pos z1]
                    show _ = _
                    rw [HR3.out, firstE_at HK.out (by rw [e]; decide) hjl, e]
                  clear z1
                  go_upto_region 21 with (go_at_call 45; refine HUP.out.mono ?_; rintro e w2 ⟨rfl, hb2⟩; have d0 : w2.cell? ⟨w.heap.size, 0, none⟩ = some (.slice A ns.length c) := (HD.out.below (below_then HBE.out hb2) HD.out.lt).cell 0)
                  go_wp2_with fail
                  go_ret
                  exact ⟨by rw [HE.out]; rfl, below_then HWE.out hb2⟩
                · have q7 : decide (ns.length < m) = false := decide_eq_false z1
                  by_cases z2 : 40 < m
                  · have q8 : decide ((40 : Int) < (m : Int)) = true := by simp; omega
                    have HE : Hid (r = 2) := by
                      have e : upE ns j = 2 := by unfold upE; rw [← HMM.out, if_neg z1, if_pos z2]
                      show _ = _
                      rw [HR3.out, firstE_at HK.out (by rw [e]; decide) hjl, e]
                    clear z1 z2
                    go_upto_region 21 with (go_at_call 45; refine HUP.out.mono ?_; rintro e w2 ⟨rfl, hb2⟩; have d0 : w2.cell? ⟨w.heap.size, 0, none⟩ = some (.slice A ns.length c) := (HD.out.below (below_then HBE.out hb2) HD.out.lt).cell 0)
                    go_wp2_with fail
                    go_ret
                    exact ⟨by rw [HE.out]; rfl, below_then HWE.out hb2⟩
                  · have q8 : decide ((40 : Int) < (m : Int)) = false := by simp; omega
                    have HE : Hid (∀ t, t < j + 1 → upE ns t = 0) := fun t ht => by
                      by_cases e : t = j
                      · subst e; unfold upE; rw [← HMM.out, if_neg z1, if_neg z2]
                      · exact HK.out t (by omega)
                    clear z1 z2
                    go_upto_region 21 with (go_at_call 45; refine HUP.out.mono ?_; rintro e w2 ⟨rfl, hb2⟩; have d0 : w2.cell? ⟨w.heap.size, 0, none⟩ = some (.slice A ns.length c) := (HD.out.below (below_then HBE.out hb2) HD.out.lt).cell 0)
                    go_wp2_with fail
                    go_round
                    case rel => exact ⟨j + 1, by omega, by go_num, below_then HBE.out hb2, HE⟩
                    case measure => simp [intOf]; omega
              · have e : j = ns.length := by omega
                subst e
                have HE : Hid (r = 0) := by show _ = _; rw [HR3.out, firstE_none HK.out]
                go_wp2_with fail
                go_ret
                exact ⟨by rw [HE.out]; rfl, HWE.out⟩
          · obtain ⟨ke, hke⟩ : ∃ ke, ke = kidsE ns := ⟨_, rfl⟩
            rw [← hke] at HKS HR2 z1
            have q6 : (ke != 0) = true := by simp [z1]
            have HE : Hid (r = ke) := by show _ = _; rw [HR2.out, if_pos z1]
            clear z1 hke
            go_wp2_with (go_at_call 44; refine HKS.out.mono ?_; rintro e w1 ⟨rfl, hb1⟩)
            go_ret
            exact ⟨by rw [HE.out]; rfl, below_then HWE.out hb1⟩
end Go.Proofs.YtcghahfboccceaaGreatDoor
