/- Several texts in one: DomG. -/
import Derived.Test.YtcghahfboccceaaGreatDoorTopEscapeM26
import Derived.Laws.CopyOwn
/- Contract of dom.kids. -/
namespace Go.Proofs.YtcghahfboccceaaGreatDoor
open Go.RowKit
set_option linter.unusedVariables false
set_option linter.unusedSimpArgs false

theorem info_boolK : (Tryz.prog.info? 4).map (fun i => (i.zero, i.size, i.bytes)) = some (some (.bool false), 1, 1) := by kernel_rfl
theorem info_partsK {i : Option TypeInfo} {z : Option Value} {n m : Nat} (h : i.map (fun i => (i.zero, i.size, i.bytes)) = some (z, n, m)) : ∃ j, i = some j ∧ j.zero = z ∧ j.size = n ∧ j.bytes = m := by
  cases i with
  | none => cases h
  | some j => simp at h; exact ⟨j, rfl, h.1, h.2.1, h.2.2⟩
def bools (l : List Bool) : List Value := l.map Value.bool
theorem bools_none (n : Nat) : (madeCells (Value.bool false).cells (n * 1)).toList = bools (List.replicate n false) := by
  show (madeCells #[Value.bool false] (n * 1)).toList = _
  rw [toList_madeCells_one]
  simp [bools]
theorem bools_set (l : List Bool) (m : Nat) (b : Bool) : (bools l).set m (.bool b) = bools (l.set m b) := by
  unfold bools; rw [List.map_set]
theorem bools_at (l : List Bool) {m : Nat} (h : m < l.length) : (bools l)[m]? = some (.bool (l.getD m false)) := by
  unfold bools
  rw [List.getElem?_map, List.getElem?_eq_getElem h, List.getD_eq_getElem?_getD, List.getElem?_eq_getElem h]; rfl
theorem runK_cons (ns : List NodeV) (i : Nat) (k : Int) (r : List (Nat × Int)) (seen : List Bool) : runK ns ((i, k) :: r) seen = if k < 0 ∨ (ns.length : Int) ≤ k ∨ (nd ns k.toNat).parent ≠ i ∨ seen.getD k.toNat false = true then (3, seen) else if i = 0 ∧ (nd ns k.toNat).kind = 3 then (7, seen) else runK ns r (seen.set k.toNat true) := rfl
theorem kids_drop (x : NodeV) (i j : Nat) (h : j < x.kids.length) : (x.kids.drop j).map (fun k => (i, k)) = (i, x.kids.getD j 0) :: (x.kids.drop (j + 1)).map (fun k => (i, k)) := by
  rw [List.drop_eq_getElem_cons h, List.map_cons]
  congr 2
  rw [List.getD_eq_getElem?_getD, List.getElem?_eq_getElem h]; rfl
theorem own_blkF {w : World} {base g n cap size : Nat} {e : TypeId} {xs : List Value} (h : w.ownsRow base e size (.slice (some ⟨g, 0, none⟩) n cap) n xs) (j : Nat) : w.frozen? ⟨g, j, none⟩ = false := by
  rcases h.2 with ⟨h1, _⟩ | ⟨g', cap', cur, hv, h1, h2, h3, h4, h5, h6⟩
  · cases h1
  · injection hv with hv1 hv2 hv3
    injection hv1 with hv1
    injection hv1 with hv1
    subst hv1
    have hB : Blk w g e cur := h2
    exact hB.free j
theorem below_set' {W w : World} {b off : Nat} (h : Below W.heap.size W w) (hb : W.heap.size ≤ b) (u : Value) : Below W.heap.size W (w.setCell ⟨b, off, none⟩ u) := below_set h hb u
theorem kidsE_err {ns : List NodeV} {v : Int} (h : (kidsR ns).1 = v) (hv : v ≠ 0) : kidsE ns = v := by unfold kidsE; rw [h, if_pos hv]
theorem runK_err {ns : List NodeV} {i : Nat} {k : Int} {r : List (Nat × Int)} {seen : List Bool} (h : k < 0 ∨ (ns.length : Int) ≤ k ∨ (nd ns k.toNat).parent ≠ i ∨ seen.getD k.toNat false = true) : (runK ns ((i, k) :: r) seen).1 = 3 := by rw [runK_cons, if_pos h]
set_option maxRecDepth 100000 in
set_option maxHeartbeats 16000000 in
theorem kids_calls (A : Option Addr) (n c B : Nat) (q : Bool) (ns : List NodeV) (w : World) (hn : ns.length = n) (h : Nodes w B A ns) (hB : B ≤ w.heap.size) (hm : n ≤ 200) (h0 : 0 < n) :
    Calls Tryz.prog 44 #[.agg #[.slice A n c, .bool q]] w fun e w' => e = .returned (.int .i64 (kidsE ns)) ∧ Below w.heap.size w w' := by
  subst hn
  obtain ⟨iB, hiB, hzB0, hzB1, hzB2⟩ := info_partsK info_boolK
  have HD := Lib.hid (Blk.new w 27 #[.slice A ns.length c, .bool q])
  have d0' : (w.alloc (.cells #[.slice A ns.length c, .bool q] 27)).cell? ⟨w.heap.size, 0, none⟩ = some (.slice A ns.length c) := HD.out.cell 0
  have HW := Lib.hid (below_alloc (Below.refl w.heap.size w) (.cells #[.slice A ns.length c, .bool q] 27))
  have HN := Lib.hid (h.below HW.out hB)
  have HB := Lib.hid hB
  have HN2 := Lib.hid (Nat.le_trans hB HW.out.size)
  obtain ⟨r, hr⟩ : ∃ r, r = kidsE ns := ⟨_, rfl⟩
  rw [← hr]
  have HR := Lib.hid hr
  clear h hr hB
  go_enter Tryz.func44, Tryz.ntmps44
  go_upto_region 1 with fail
  generalize World.alloc w _ = w0 at HD HW HN HN2 d0' ⊢
  go_upto_region 2 with (at_make; refine wpList_make_full _ rfl _ _ 122 rfl w0.heap.size 4 iB (.bool false) 1 Tryz.underlying122 hiB hzB0 hzB1 .i64 .i64 _ _ ns.length rfl rfl rfl rfl (by rw [hzB2]; omega) (by unfold maxLen; omega) (Nat.le_refl _) ?_; intro w1 hown hg; rw [bools_none] at hown; have HO := Lib.hid hown; have HB1 := Lib.hid (below_made (Below.refl w0.heap.size w0) hg); have d1 : w1.cell? ⟨w.heap.size, 0, none⟩ = some (.slice A ns.length c) := (HD.out.below HB1.out HD.out.lt).cell 0; clear hown hg)
  clear d0'
  obtain ⟨g, hg⟩ : ∃ g, g = w0.heap.size := ⟨_, rfl⟩
  have HG := Lib.hid (Nat.le_of_eq hg.symm)
  rw [← hg] at HO ⊢
  clear hg
  have HLR : Hid ((List.replicate ns.length false).length = ns.length) := by show _ = _; simp
  have HKR : Hid (kidsR ns = runK ns (pairs ns ns.length 0) (List.replicate ns.length false)) := rfl
  generalize List.replicate ns.length false = s0 at HO HLR HKR
  go_wp2_with fail
  go_loopw [17] (fun i wr => ∃ (k : Nat) (seen : List Bool), k ≤ ns.length ∧ i = .int .i64 k ∧ Hid (wr.ownsRow g 4 1 (.slice (some ⟨g, 0, none⟩) ns.length ns.length) ns.length (bools seen)) ∧ Hid (Below w0.heap.size w0 wr) ∧ Hid (seen.length = ns.length) ∧ Hid (kidsR ns = runK ns (pairs ns (ns.length - k) k) seen)) (fun i _ => ns.length - (intOf i).toNat)
  case atStart => exact ⟨0, s0, Nat.zero_le _, rfl, HO, HB1, HLR, HKR⟩
  case round =>
    clear d1 HO HB1 HLR HKR
    obtain ⟨k, seen, hk, rfl, HO, HBE, HL, HK⟩ := hrel
    by_cases hlt : k < ns.length
    · obtain ⟨b, off, hA, hb, hc, hin⟩ := (HN.out.below HBE.out HN2.out) k hlt
      obtain ⟨x, hx⟩ : ∃ x, x = nd ns k := ⟨_, rfl⟩
      rw [← hx] at hc hin
      have HX := Lib.hid hx
      have c0 : wr.cell? ⟨b, off + k * 6, none⟩ = some (.int .i64 x.kind) := hc 0 (by decide)
      have c1 : wr.cell? ⟨b, off + k * 6 + 1, none⟩ = some (.string x.name) := hc 1 (by decide)
      have c2 : wr.cell? ⟨b, off + k * 6 + 2, none⟩ = some (.slice x.attrsA x.attrs.length x.acap) := hc 2 (by decide)
      have c3 : wr.cell? ⟨b, off + k * 6 + 3, none⟩ = some (.string x.text) := hc 3 (by decide)
      have c4 : wr.cell? ⟨b, off + k * 6 + 4, none⟩ = some (.int .i64 x.parent) := hc 4 (by decide)
      have c5 : wr.cell? ⟨b, off + k * 6 + 5, none⟩ = some (.slice x.kidsA x.kids.length x.kcap) := hc 5 (by decide)
      have hbw := HBE.out.size
      have hbN := HN2.out
      have hkn := hin.kn
      have HIN : Hid (Holds w0 B x.kidsA (ints x.kids)) := by obtain ⟨_, _, _, _, _, hi0⟩ := HN.out k hlt; rw [← HX.out] at hi0; exact hi0.kids
      have HST : Hid (kidsR ns = runK ns (((x.kids.drop 0).map fun z => (k, z)) ++ pairs ns (ns.length - k - 1) (k + 1)) seen) := by
        have e : ns.length - k = (ns.length - k - 1) + 1 := by omega
        show _ = _
        rw [HK.out, e, pairs, ← HX.out]; simp
      subst hA
      have hbl := below_alloc (Below.refl wr.heap.size wr) (.cells #[.int .i64 x.kind, .string x.name, .slice x.attrsA x.attrs.length x.acap, .string x.text, .int .i64 x.parent, .slice x.kidsA x.kids.length x.kcap] 35)
      have HO2 := Lib.hid (own_below HO.out hbl)
      have HBE2 := Lib.hid (below_then HBE.out hbl)
      have d5 : (wr.alloc (.cells #[.int .i64 x.kind, .string x.name, .slice x.attrsA x.attrs.length x.acap, .string x.text, .int .i64 x.parent, .slice x.kidsA x.kids.length x.kcap] 35)).cell? ⟨wr.heap.size, 5, none⟩ = some (.slice x.kidsA x.kids.length x.kcap) := (Blk.new wr 35 #[.int .i64 x.kind, .string x.name, .slice x.attrsA x.attrs.length x.acap, .string x.text, .int .i64 x.parent, .slice x.kidsA x.kids.length x.kcap]).cell 5
      clear hc hin hx hbl HO HBE HK
      go_upto_region 5 with fail
      generalize World.alloc wr _ = wx at HO2 HBE2 d5 ⊢
      clear c0 c1 c2 c3 c4 c5
      go_wp2_with fail
      generalize wr.heap.size = gx at d5 hbw ⊢
      clear d5
      go_loopw [25] (fun i wj => ∃ (j : Nat) (sj : List Bool), j ≤ x.kids.length ∧ i = .int .i64 j ∧ Hid (wj.ownsRow g 4 1 (.slice (some ⟨g, 0, none⟩) ns.length ns.length) ns.length (bools sj)) ∧ Hid (Below w0.heap.size w0 wj) ∧ Hid (sj.length = ns.length) ∧ Hid (kidsR ns = runK ns (((x.kids.drop j).map fun z => (k, z)) ++ pairs ns (ns.length - k - 1) (k + 1)) sj)) (fun i _ => x.kids.length - (intOf i).toNat)
      case atStart => exact ⟨0, seen, Nat.zero_le _, rfl, HO2, HBE2, HL, HST⟩
      case round =>
        clear HO2 HBE2 HST
        obtain ⟨j, sj, hj, rfl, HO, HBE, HLJ, HK⟩ := hrel
        have hbs := HBE.out.size
        have d0 : wr.cell? ⟨w.heap.size, 0, none⟩ = some (.slice (some ⟨b, off, none⟩) ns.length c) := (HD.out.below HBE.out HD.out.lt).cell 0
        have HWE := Lib.hid (below_then HW.out HBE.out)
        by_cases hjl : j < x.kids.length
        · obtain ⟨b2, off2, hA2, hb2, hc2⟩ := (HIN.out.below HBE.out HN2.out).ints hjl
          have hz0 := kids_drop x k j hjl
          obtain ⟨z, hz⟩ : ∃ z, z = x.kids.getD j 0 := ⟨_, rfl⟩
          rw [← hz] at hc2 hz0
          have HRU : Hid (kidsR ns = runK ns ((k, z) :: (((x.kids.drop (j + 1)).map fun z => (k, z)) ++ pairs ns (ns.length - k - 1) (k + 1))) sj) := by show _ = _; rw [HK.out, hz0]; rfl
          clear hz0 hz HK
          rw [hA2]
          by_cases z1 : z < 0
          · have q1 : decide (z < 0) = true := decide_eq_true z1
            have HE : Hid (r = 3) := by show _ = _; rw [HR.out]; exact kidsE_err (by rw [HRU.out]; exact runK_err (.inl z1)) (by decide)
            clear z1 HRU
            go_wp2_with fail
            go_ret
            exact ⟨by rw [HE.out]; rfl, HWE.out⟩
          · have q1 : decide (z < 0) = false := decide_eq_false z1
            by_cases z2 : (ns.length : Int) ≤ z
            · have q2 : decide ((ns.length : Int) ≤ z) = true := decide_eq_true z2
              have HE : Hid (r = 3) := by show _ = _; rw [HR.out]; exact kidsE_err (by rw [HRU.out]; exact runK_err (.inr (.inl z2))) (by decide)
              clear z1 z2 HRU
              go_wp2_with fail
              go_ret
              exact ⟨by rw [HE.out]; rfl, HWE.out⟩
            · obtain ⟨m, rfl⟩ : ∃ m : Nat, z = m := ⟨z.toNat, by omega⟩
              have hml : m < ns.length := by omega
              have q2 : decide (ns.length ≤ m) = false := by simp; omega
              obtain ⟨b3, off3, hA3, hb3, hc3, _⟩ := (HN.out.below HBE.out HN2.out) m hml
              injection hA3 with hA3
              injection hA3 with hA3 hA4
              subst hA3; subst hA4
              have p4 : wr.cell? ⟨b, off + m * 6 + 4, none⟩ = some (.int .i64 (nd ns m).parent) := hc3 4 (by decide)
              have p0 : wr.cell? ⟨b, off + m * 6, none⟩ = some (.int .i64 (nd ns m).kind) := hc3 0 (by decide)
              have s1 : wr.cell? ⟨g, m, none⟩ = some (.bool (sj.getD m false)) := (row_at HO.out).1 m _ (bools_at sj (by rw [HLJ.out]; exact hml))
              have hgl := (row_at HO.out).2.2.1
              obtain ⟨p, hp⟩ : ∃ p, p = (nd ns m).parent := ⟨_, rfl⟩
              obtain ⟨kd, hkd⟩ : ∃ kd, kd = (nd ns m).kind := ⟨_, rfl⟩
              obtain ⟨sb, hsb⟩ : ∃ sb, sb = sj.getD m false := ⟨_, rfl⟩
              rw [← hp] at p4
              rw [← hkd] at p0
              rw [← hsb] at s1
              have HP := Lib.hid hp
              have HKD := Lib.hid hkd
              have HSB := Lib.hid hsb
              clear hc3 hp hkd hsb z1 z2
              by_cases z3 : p = k
              · have q3 : (p != (k : Int)) = false := by simp [z3]
                have Z3 := Lib.hid z3
                clear z3
                cases sb
                · have HNE : Hid (¬ ((m : Int) < 0 ∨ (ns.length : Int) ≤ (m : Int) ∨ (nd ns (m : Int).toNat).parent ≠ k ∨ sj.getD (m : Int).toNat false = true)) := by
                    show ¬ _
                    rw [Int.toNat_natCast, ← HP.out, ← HSB.out]
                    rintro (h | h | h | h)
                    · omega
                    · omega
                    · exact h Z3.out
                    · cases h
                  by_cases z5 : k = 0
                  · have q5 : ((k : Int) == 0) = true := by simp [z5]
                    by_cases z6 : kd = 3
                    · have q6 : (kd == 3) = true := by simp [z6]
                      have HE : Hid (r = 7) := by show _ = _; rw [HR.out]; exact kidsE_err (by rw [HRU.out, runK_cons, if_neg HNE.out, if_pos ⟨z5, by rw [Int.toNat_natCast, ← HKD.out]; exact z6⟩]) (by decide)
                      clear z5 z6 HRU
                      go_wp2_with fail
                      go_ret
                      exact ⟨by rw [HE.out]; rfl, HWE.out⟩
                    · have q6 : (kd == 3) = false := by simp [z6]
                      have HE : Hid (kidsR ns = runK ns (((x.kids.drop (j + 1)).map fun z => (k, z)) ++ pairs ns (ns.length - k - 1) (k + 1)) (sj.set m true)) := by show _ = _; rw [HRU.out, runK_cons, if_neg HNE.out, if_neg (fun h => z6 (by rw [HKD.out]; have := h.2; rwa [Int.toNat_natCast] at this)), Int.toNat_natCast]
                      clear z5 z6 HRU
                      have z12 : wr.frozen? ⟨g, m, none⟩ = false := (own_blkF HO.out m)
                      go_wp2_with fail
                      go_round
                      case rel => exact ⟨j + 1, sj.set m true, by omega, by go_num, by rw [← bools_set]; exact own_set HO.out, below_set' HBE.out HG.out _, by show _ = _; rw [List.length_set]; exact HLJ.out, HE⟩
                      case measure => simp [intOf]; omega
                  · have q5 : ((k : Int) == 0) = false := by simp [z5]
                    have HE : Hid (kidsR ns = runK ns (((x.kids.drop (j + 1)).map fun z => (k, z)) ++ pairs ns (ns.length - k - 1) (k + 1)) (sj.set m true)) := by show _ = _; rw [HRU.out, runK_cons, if_neg HNE.out, if_neg (fun h => z5 h.1), Int.toNat_natCast]
                    clear z5 HRU
                    have z12 : wr.frozen? ⟨g, m, none⟩ = false := (own_blkF HO.out m)
                    go_wp2_with fail
                    go_round
                    case rel => exact ⟨j + 1, sj.set m true, by omega, by go_num, by rw [← bools_set]; exact own_set HO.out, below_set' HBE.out HG.out _, by show _ = _; rw [List.length_set]; exact HLJ.out, HE⟩
                    case measure => simp [intOf]; omega
                · have HE : Hid (r = 3) := by show _ = _; rw [HR.out]; exact kidsE_err (by rw [HRU.out]; exact runK_err (.inr (.inr (.inr (by rw [Int.toNat_natCast]; exact HSB.out.symm))))) (by decide)
                  clear HRU
                  go_wp2_with fail
                  go_ret
                  exact ⟨by rw [HE.out]; rfl, HWE.out⟩
              · have q3 : (p != (k : Int)) = true := by simp [z3]
                have HE : Hid (r = 3) := by show _ = _; rw [HR.out]; exact kidsE_err (by rw [HRU.out]; exact runK_err (.inr (.inr (.inl (by rw [Int.toNat_natCast, ← HP.out]; exact z3))))) (by decide)
                clear z3 HRU
                go_wp2_with fail
                go_ret
                exact ⟨by rw [HE.out]; rfl, HWE.out⟩
        · have e : j = x.kids.length := by omega
          subst e
          have HE : Hid (kidsR ns = runK ns (pairs ns (ns.length - (k + 1)) (k + 1)) sj) := by
            show _ = _
            have e1 : ns.length - (k + 1) = ns.length - k - 1 := by omega
            rw [HK.out, List.drop_length, e1]; rfl
          go_wp2_with fail
          go_round
          case rel => exact ⟨k + 1, sj, by omega, by go_num, HO, HBE, HLJ, HE⟩
          case measure => simp [intOf]; omega
    · have e : k = ns.length := by omega
      subst e
      have HK0 : Hid ((kidsR ns).1 = 0 ∧ (kidsR ns).2 = seen) := by
        show _ ∧ _
        rw [HK.out]
        have e1 : ns.length - ns.length = 0 := by omega
        rw [e1]
        exact ⟨rfl, rfl⟩
      have d1 : wr.cell? ⟨w.heap.size, 0, none⟩ = some (.slice A ns.length c) := (HD.out.below HBE.out HD.out.lt).cell 0
      clear HK
      go_wp2_with fail
      clear d1
      go_loopw [74] (fun i wj => ∃ j : Nat, j ≤ ns.length ∧ i = .int .i64 j ∧ Hid (wj.ownsRow g 4 1 (.slice (some ⟨g, 0, none⟩) ns.length ns.length) ns.length (bools seen)) ∧ Hid (Below w0.heap.size w0 wj) ∧ Hid (∀ t, t < j → looseE ns seen t = 0)) (fun i _ => ns.length - (intOf i).toNat)
      case atStart => exact ⟨0, Nat.zero_le _, rfl, HO, HBE, fun t ht => absurd ht (by omega)⟩
      case round =>
        clear HO HBE
        obtain ⟨j, hj, rfl, HO, HBE, HK⟩ := hrel
        have hbs := HBE.out.size
        have hbN := HN2.out
        have hgl := (row_at HO.out).2.2.1
        by_cases hjl : j < ns.length
        · obtain ⟨b, off, hA, hb, hc, hin⟩ := (HN.out.below HBE.out HN2.out) j hjl
          obtain ⟨x, hx⟩ : ∃ x, x = nd ns j := ⟨_, rfl⟩
          rw [← hx] at hc hin
          have HX := Lib.hid hx
          have c0 : wr.cell? ⟨b, off + j * 6, none⟩ = some (.int .i64 x.kind) := hc 0 (by decide)
          have c1 : wr.cell? ⟨b, off + j * 6 + 1, none⟩ = some (.string x.name) := hc 1 (by decide)
          have c2 : wr.cell? ⟨b, off + j * 6 + 2, none⟩ = some (.slice x.attrsA x.attrs.length x.acap) := hc 2 (by decide)
          have c3 : wr.cell? ⟨b, off + j * 6 + 3, none⟩ = some (.string x.text) := hc 3 (by decide)
          have c4 : wr.cell? ⟨b, off + j * 6 + 4, none⟩ = some (.int .i64 x.parent) := hc 4 (by decide)
          have c5 : wr.cell? ⟨b, off + j * 6 + 5, none⟩ = some (.slice x.kidsA x.kids.length x.kcap) := hc 5 (by decide)
          subst hA
          have hbl := below_alloc (Below.refl wr.heap.size wr) (.cells #[.int .i64 x.kind, .string x.name, .slice x.attrsA x.attrs.length x.acap, .string x.text, .int .i64 x.parent, .slice x.kidsA x.kids.length x.kcap] 35)
          have HO2 := Lib.hid (own_below HO.out hbl)
          have HBE2 := Lib.hid (below_then HBE.out hbl)
          have d4 : (wr.alloc (.cells #[.int .i64 x.kind, .string x.name, .slice x.attrsA x.attrs.length x.acap, .string x.text, .int .i64 x.parent, .slice x.kidsA x.kids.length x.kcap] 35)).cell? ⟨wr.heap.size, 4, none⟩ = some (.int .i64 x.parent) := (Blk.new wr 35 #[.int .i64 x.kind, .string x.name, .slice x.attrsA x.attrs.length x.acap, .string x.text, .int .i64 x.parent, .slice x.kidsA x.kids.length x.kcap]).cell 4
          clear hc hin hx hbl HO HBE
          go_upto_region 18 with fail
          generalize World.alloc wr _ = wx at HO2 HBE2 d4 ⊢
          clear c0 c1 c2 c3 c4 c5
          have s1 : wx.cell? ⟨g, j, none⟩ = some (.bool (seen.getD j false)) := (row_at HO2.out).1 j _ (bools_at seen (by rw [HL.out]; exact hjl))
          obtain ⟨sb, hsb⟩ : ∃ sb, sb = seen.getD j false := ⟨_, rfl⟩
          rw [← hsb] at s1
          have HSB := Lib.hid hsb
          obtain ⟨p, hp⟩ : ∃ p, p = x.parent := ⟨_, rfl⟩
          rw [← hp] at d4 ⊢
          have HP : Hid (p = (nd ns j).parent) := by show _ = _; rw [hp, HX.out]
          clear hsb hp
          have HWE := Lib.hid (below_then HW.out HBE2.out)
          by_cases z1 : p = -1
          · have q1 : (p != -1) = false := by simp [z1]
            have HE : Hid (∀ t, t < j + 1 → looseE ns seen t = 0) := fun t ht => by
              by_cases e : t = j
              · subst e; unfold looseE; rw [if_neg (fun h => h.1 (by rw [← HP.out]; exact z1))]
              · exact HK.out t (by omega)
            clear z1
            go_wp2_with fail
            go_round
            case rel => exact ⟨j + 1, by omega, by go_num, HO2, HBE2, HE⟩
            case measure => simp [intOf]; omega
          · have q1 : (p != -1) = true := by simp [z1]
            cases sb
            · have HE : Hid (r = 3) := by
                have e : looseE ns seen j = 3 := by unfold looseE; rw [if_pos ⟨by rw [← HP.out]; exact z1, HSB.out.symm⟩]
                show _ = _
                rw [HR.out]
                unfold kidsE
                rw [HK0.out.1, HK0.out.2, if_neg (by decide), firstE_at HK.out (by rw [e]; decide) hjl, e]
                rfl
              clear z1
              go_wp2_with fail
              go_ret
              exact ⟨by rw [HE.out]; rfl, HWE.out⟩
            · have HE : Hid (∀ t, t < j + 1 → looseE ns seen t = 0) := fun t ht => by
                by_cases e : t = j
                · subst e; unfold looseE; rw [if_neg (fun h => by rw [← HSB.out] at h; cases h.2)]
                · exact HK.out t (by omega)
              clear z1
              go_wp2_with fail
              go_round
              case rel => exact ⟨j + 1, by omega, by go_num, HO2, HBE2, HE⟩
              case measure => simp [intOf]; omega
        · have e : j = ns.length := by omega
          subst e
          obtain ⟨b, off, hA, hb, hc, _⟩ := (HN.out.below HBE.out HN2.out) 0 h0
          have d1 : wr.cell? ⟨w.heap.size, 0, none⟩ = some (.slice A ns.length c) := (HD.out.below HBE.out HD.out.lt).cell 0
          subst hA
          have c4 : wr.cell? ⟨b, off + 4, none⟩ = some (.int .i64 (nd ns 0).parent) := by have := hc 4 (by decide); rw [Nat.zero_mul, Nat.add_zero] at this; exact this
          have HRR : Hid (r = if (nd ns 0).parent ≠ -1 then 3 else 0) := by
            show _ = _
            rw [HR.out]
            unfold kidsE
            rw [HK0.out.1, HK0.out.2, if_neg (by decide), firstE_none HK.out, if_neg (by decide)]
          obtain ⟨p, hp⟩ : ∃ p, p = (nd ns 0).parent := ⟨_, rfl⟩
          rw [← hp] at c4 HRR
          have HWE := Lib.hid (below_then HW.out HBE.out)
          clear hp hc
          by_cases z1 : p = -1
          · have q1 : (p != -1) = false := by simp [z1]
            have HE : Hid (r = 0) := by show _ = _; rw [HRR.out, if_neg (fun h => h z1)]
            clear z1 HRR
            go_wp2_with fail
            go_ret
            exact ⟨by rw [HE.out]; rfl, HWE.out⟩
          · have q1 : (p != -1) = true := by simp [z1]
            have HE : Hid (r = 3) := by show _ = _; rw [HRR.out, if_pos z1]
            clear z1 HRR
            go_wp2_with fail
            go_ret
            exact ⟨by rw [HE.out]; rfl, HWE.out⟩
end Go.Proofs.YtcghahfboccceaaGreatDoor
