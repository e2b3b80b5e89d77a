/- The reference's walk over boxes: one step of the induction. -/
import Derived.Test.YtpamfhplklhnpaaDoorItmP
namespace Go.Proofs.YtpamfhplklhnpaaDoor
open Go.RowKit
set_option linter.unusedVariables false
set_option linter.unusedSimpArgs false

set_option maxRecDepth 1000000 in
set_option maxHeartbeats 16000000 in
theorem items_step (M : MkV) (B : Nat) (G : GR) (u : Nat) (hM : MOk M) (hrec : ∀ u', u = u' + 1 → ItemsC M B G u') : ItemsC M B G u := by
  intro at_ bl v xs w h hk hu hx
  obtain ⟨i1, hib, hzb0, hzb1, hzb2⟩ := info_parts info_item
  have mixed : Tryd.prog.follows .mixedOrders = true := by kernel_rfl
  have hkf : ∀ j : Int, j ∈ (bx M.bs at_).kids → (at_ : Int) < j ∧ j < M.bs.length ∧ par M.bs j.toNat = at_ := fun j hj => kid_of hM.kids (i := at_) (by rw [hM.hn]; exact hk) hj
  obtain ⟨bB, offB, eB, hbB, -, -, -, c3, -, hkids, hkl⟩ := h.boxes.at_ (i := at_) (by rw [hM.hn]; exact hk)
  have g0 : w.cell? ⟨G.gB, 0, none⟩ = some (.slice (some ⟨bB, offB, none⟩) M.nb M.cb) := by have := h.bB.cell 0; rw [this, ← eB]; rfl
  have HKB : Hid (∀ b' v' out wr, WSt M B G b' v' out wr → Holds wr B (bx M.bs at_).kidsA ((bx M.bs at_).kids.map (Value.int .i64))) := fun b' v' out wr hm => by
    obtain ⟨_, _, _, _, -, -, -, -, -, hh, -⟩ := hm.boxes.at_ (i := at_) (by rw [hM.hn]; exact hk)
    exact hh
  have HBX : Hid (∀ b' v' out wr, WSt M B G b' v' out wr → wr.cell? ⟨G.gB, 0, none⟩ = some (.slice (some ⟨bB, offB, none⟩) M.nb M.cb) ∧ ∀ z, z < M.nb → wr.cell? ⟨bB, offB + z * 5, none⟩ = some (.int .i64 (bx M.bs z).kind) ∧ wr.cell? ⟨bB, offB + z * 5 + 4, none⟩ = some (.string (bx M.bs z).text)) := fun b' v' out wr hm => by
    have hb := hm.boxes
    rw [eB] at hb
    exact ⟨by have := hm.bB.cell 0; rw [this, ← eB]; rfl, fun z hz => hb.at2 (by rw [hM.hn]; exact hz)⟩
  obtain ⟨ks, hks⟩ : ∃ x, x = (bx M.bs at_).kids := ⟨_, rfl⟩
  obtain ⟨kA, hkA⟩ : ∃ x, x = (bx M.bs at_).kidsA := ⟨_, rfl⟩
  obtain ⟨kc, hkc⟩ : ∃ x, x = (bx M.bs at_).kcap := ⟨_, rfl⟩
  rw [← hks, ← hkA] at HKB
  rw [← hks, ← hkA, ← hkc] at c3
  rw [← hks] at hkl hx hkf ⊢
  have HKF : Hid (∀ k, k < ks.length → ∃ z : Nat, ks.getD k 0 = (z : Int) ∧ z < M.nb ∧ M.nb ≤ z + u ∧ 0 < u) := fun k hk => by
    have h1 := hkf (ks.getD k 0) (by simp [List.getD, hk])
    have h2 := hM.hn
    exact ⟨(ks.getD k 0).toNat, by omega, by omega, by omega, by omega⟩
  have HST := Lib.hid (KR.start h hx)
  have HREC0 := Lib.hid hrec
  have HM := Lib.hid hM
  clear h hx hks hkA hkc hM hrec hkids eB hkf hu
  go_enter Tryd.func27, Tryd.ntmps27
  go_wp2_with fail
  clear g0 c3 hk
  go_loopw [27] (fun i wr => ∃ k : Nat, k ≤ ks.length ∧ i = .int .i64 k ∧ Hid (KR M B G u v xs ks bl w k wr)) (fun i _ => ks.length - (intOf i).toNat)
  case atStart => exact ⟨0, Nat.zero_le _, rfl, HST.out⟩
  case round =>
    clear HST
    obtain ⟨k, hkl2, rfl, HKR⟩ := hrel
    obtain ⟨wq, rfl⟩ : ∃ x, x = wr := ⟨_, rfl⟩
    by_cases hlt : k < ks.length
    · obtain ⟨z, hz, hzn, hzu, hu0⟩ := HKF.out k hlt
      obtain ⟨b, out, v', hst, hcost, hnext⟩ := HKR.out.round hlt z hz
      have hh : ∃ b' off', kA = some ⟨b', off', none⟩ ∧ b' < B ∧ wq.cell? ⟨b', off' + k, none⟩ = some (.int .i64 (ks.getD k 0)) := by
        obtain ⟨b', off', a1, a2, a3⟩ := (HKB.out b v' out wq hst).ints hlt
        exact ⟨b', off', a1, a2, a3⟩
      obtain ⟨b', off', rfl, hb', hc'⟩ := hh
      rw [hz] at hc'
      obtain ⟨u, rfl⟩ : ∃ u1, u = u1 + 1 := ⟨u - 1, by omega⟩
      have HREC := Lib.hid (HREC0.out u rfl)
      have HNEXT := Lib.hid hnext
      have HKK := Lib.hid (show k ≤ ks.length ∧ k < ks.length from ⟨hkl2, hlt⟩)
      have HZ := Lib.hid (show z < M.nb ∧ M.nb ≤ z + 1 + u from ⟨hzn, by omega⟩)
      have HCO : Hid (out.length + (ownC M.bs z + costL (costB M.bs u) (bx M.bs z).kids) ≤ 4194304) := hcost
      have HST := Lib.hid hst
      have hzl : z < M.nl := by rw [HM.out.nl]; exact hzn
      obtain ⟨bL, offL, eL, hbL, hrow⟩ := looks_row hst.looks HM.out.len hzl
      have s1 : wq.cell? ⟨G.gL, 0, none⟩ = some (.slice (some ⟨bL, offL, none⟩) M.nl M.cl) := by have := hst.bL.cell 0; rw [this, ← eL]; rfl
      have hzz : (rowL M.lz z).length = 118 := rowL_len _ _
      obtain ⟨zs, hzs⟩ : ∃ x, x = rowL M.lz z := ⟨_, rfl⟩
      rw [← hzs] at hrow hzz
      have HLAID := Lib.hid (look_laid zs hzz)
      have HSZL : Hid ((Tryd.prog.info? 28).map (·.size) = some (sty zs).toList.length) := by show _ = _; rw [Array.length_toList, sty_size, hzz]; kernel_rfl
      have HSZA : Hid ((Tryd.prog.info? 28).map (·.size) = some (sty zs).size) := by show _ = _; rw [sty_size, hzz]; kernel_rfl
      have HROW := Lib.hid hrow
      have HZS := Lib.hid hzs
      have HZZ := Lib.hid hzz
      clear hst hcost hnext hu0 hzu hzs hzz hrow eL hz HKR HKF HREC0 HKB
      go_upto_region 4 with (first | (refine wpList_load_mid rfl 28 _ rfl bL (offL + z * 118) rfl (sty zs).toList _ HROW.out Tryd.underlying28 rfl HSZL.out ?_) | (refine wpList_store_mid rfl _ _ _ rfl wq.heap.size 0 (sty zs) rfl rfl (HLAID.out wq).2.1 (HLAID.out wq).1 (sty_one _) ?_; obtain ⟨w2, hw2, bS, hb2, hsz2⟩ := (HLAID.out wq).2.2; rw [hw2]; clear hw2; have HSB := Lib.hid bS; have HBW := Lib.hid hb2; clear bS hb2 hsz2))
      clear s1 hc' HROW HLAID
      go_upto_region 5 with fail
      have HG : Hid (XG M B G v' out wq [(wq.heap.size, 28, sty zs)] w2.heap.size ⟨0, z, ByteArray.empty, 0, 0, 0, 0, 0, 0, 0, 0⟩ [] b (w2.alloc (.cells #[.int .i64 0, .int .i64 (z : Nat), .string ⟨#[]⟩, .int .i64 0, .int .i64 0, .int .i64 0, .int .i64 0, .int .i64 0, .int .i64 0, .int .i64 0, .int .i64 0] 40))) := by
        have hb3 : Below w2.heap.size w2 (w2.alloc (.cells #[.int .i64 0, .int .i64 (z : Nat), .string ⟨#[]⟩, .int .i64 0, .int .i64 0, .int .i64 0, .int .i64 0, .int .i64 0, .int .i64 0, .int .i64 0, .int .i64 0] 40)) := below_alloc (Below.refl _ _) _
        have hb4 := below_then HBW.out hb3
        refine ⟨⟨v', ⟨by rw [List.append_nil]; exact HST.out.below hb4, FrR.below hb4, .inl rfl⟩, fun e => ?_⟩, Blk.new _ _ _, fun q hq => ?_, Nat.le_trans HST.out.hB HBW.out.size, HBW.out.size⟩
        · have h1 := (HST.out.own.lt _ e).2
          have h2 := HBW.out.size
          omega
        · obtain rfl : q = _ := by simpa using hq
          exact ⟨HSB.out.below hb3 HSB.out.lt, (by decide : keptT 28 = true)⟩
      generalize World.alloc w2 _ = w4 at HG ⊢
      obtain ⟨gX, hgX⟩ : ∃ x, x = w2.heap.size := ⟨_, rfl⟩
      rw [← hgX] at HG ⊢
      clear hgX HSB HBW HST w2
      obtain ⟨kd, hkd⟩ : ∃ x, x = (bx M.bs z).kind := ⟨_, rfl⟩
      have hs4 : w4.cell? ⟨G.gB, 0, none⟩ = some (.slice (some ⟨bB, offB, none⟩) M.nb M.cb) ∧ w4.cell? ⟨bB, offB + z * 5, none⟩ = some (.int .i64 kd) := by
        obtain ⟨v2, ⟨h1, _, _⟩, _⟩ := HG.out.rst
        have h2 := HBX.out _ _ _ _ h1
        exact ⟨h2.1, by rw [hkd]; exact (h2.2 z HZ.out.1).1⟩
      obtain ⟨s0, s1⟩ := hs4
      have HKD := Lib.hid hkd
      clear hkd
      go_upto_region 10 with fail
      clear s0 s1
      by_cases h3 : kd = 3
      · focus
          subst h3
          obtain ⟨qm, hqm⟩ : ∃ x, x = four false zs 11 M.room := ⟨_, rfl⟩
          obtain ⟨qb, hqb⟩ : ∃ x, x = four true zs 19 M.room := ⟨_, rfl⟩
          obtain ⟨qp, hqp⟩ : ∃ x, x = four true zs 15 M.room := ⟨_, rfl⟩
          have HF1 : Hid (∀ w, Calls Tryd.prog 28 #[.agg (sty zs), .int .i64 11, .int .i64 M.room, .bool false] w fun e w' => e = .returned (.agg qm) ∧ Below w.heap.size w w') := fun w => by rw [hqm]; exact redges_calls zs 11 M.room false w HZZ.out (by decide) (by decide)
          have HF2 : Hid (∀ w, Calls Tryd.prog 28 #[.agg (sty zs), .int .i64 19, .int .i64 M.room, .bool true] w fun e w' => e = .returned (.agg qb) ∧ Below w.heap.size w w') := fun w => by rw [hqb]; exact redges_calls zs 19 M.room true w HZZ.out (by decide) (by decide)
          have HF3 : Hid (∀ w, Calls Tryd.prog 28 #[.agg (sty zs), .int .i64 15, .int .i64 M.room, .bool true] w fun e w' => e = .returned (.agg qp) ∧ Below w.heap.size w w') := fun w => by rw [hqp]; exact redges_calls zs 15 M.room true w HZZ.out (by decide) (by decide)
          have HQS : Hid (qm.size = 4 ∧ qb.size = 4 ∧ qp.size = 4) := by rw [hqm, hqb, hqp]; exact ⟨rfl, rfl, rfl⟩
          have HQ1 : Hid (qm.all (·.oneCell') = true ∧ qb.all (·.oneCell') = true ∧ qp.all (·.oneCell') = true) := by rw [hqm, hqb, hqp]; exact ⟨four_one _ _ _ _, four_one _ _ _ _, four_one _ _ _ _⟩
          have HSQ : Hid (∀ q : Array Value, q.size = 4 → (Tryd.prog.info? 66).map (·.size) = some q.size) := fun q hq => by rw [hq]; kernel_rfl
          obtain ⟨m3, hm3⟩ : ∃ x, x = len4 zs 14 M.room := ⟨_, rfl⟩
          obtain ⟨m1, hm1⟩ : ∃ x, x = len4 zs 12 M.room := ⟨_, rfl⟩
          obtain ⟨b3, hb3⟩ : ∃ x, x = max 0 (len4 zs 22 M.room) := ⟨_, rfl⟩
          obtain ⟨b1, hb1⟩ : ∃ x, x = max 0 (len4 zs 20 M.room) := ⟨_, rfl⟩
          obtain ⟨p3, hp3⟩ : ∃ x, x = max 0 (len4 zs 18 M.room) := ⟨_, rfl⟩
          obtain ⟨p1, hp1⟩ : ∃ x, x = max 0 (len4 zs 16 M.room) := ⟨_, rfl⟩
          have HQC : Hid ((qm[3]? = some (.int .i64 m3) ∧ qm[1]? = some (.int .i64 m1)) ∧ (qb[3]? = some (.int .i64 b3) ∧ qb[1]? = some (.int .i64 b1)) ∧ (qp[3]? = some (.int .i64 p3) ∧ qp[1]? = some (.int .i64 p1))) := by
            rw [hqm, hqb, hqp, hm3, hm1, hb3, hb1, hp3, hp1]; exact ⟨⟨rfl, rfl⟩, ⟨rfl, rfl⟩, rfl, rfl⟩
          have HE3 : Hid (cut (m3 + b3 + p3) = edgeW (rowL M.lz z) 3 M.room) := by show _ = _; rw [hm3, hb3, hp3, ← HZS.out]; rfl
          have HE1 : Hid (cut (m1 + b1 + p1) = edgeW (rowL M.lz z) 1 M.room) := by show _ = _; rw [hm1, hb1, hp1, ← HZS.out]; rfl
          have bm3 : -16777216 ≤ m3 ∧ m3 ≤ 16777216 := by rw [hm3]; exact len4_bd _ _ _
          have bm1 : -16777216 ≤ m1 ∧ m1 ≤ 16777216 := by rw [hm1]; exact len4_bd _ _ _
          have bb3 : 0 ≤ b3 ∧ b3 ≤ 16777216 := by rw [hb3]; have := len4_bd zs 22 M.room; omega
          have bb1 : 0 ≤ b1 ∧ b1 ≤ 16777216 := by rw [hb1]; have := len4_bd zs 20 M.room; omega
          have bp3 : 0 ≤ p3 ∧ p3 ≤ 16777216 := by rw [hp3]; have := len4_bd zs 18 M.room; omega
          have bp1 : 0 ≤ p1 ∧ p1 ≤ 16777216 := by rw [hp1]; have := len4_bd zs 16 M.room; omega
          have ws1 : IntKind.i64.wrap (m3 + b3) = m3 + b3 := IntWalk.i64_in _ (by omega)
          have ws2 : IntKind.i64.wrap (m3 + b3 + p3) = m3 + b3 + p3 := IntWalk.i64_in _ (by omega)
          have ws3 : IntKind.i64.wrap (m1 + b1) = m1 + b1 := IntWalk.i64_in _ (by omega)
          have ws4 : IntKind.i64.wrap (m1 + b1 + p1) = m1 + b1 + p1 := IntWalk.i64_in _ (by omega)
          clear hqm hqb hqp hm3 hm1 hb3 hb1 hp3 hp1 bm3 bm1 bb3 bb1 bp3 bp1
          go_upto_region 11 with fail
          have HG := Lib.hid HG.out.toRG.drew
          have hS0 : (fun w' : World => w'.rangeAt wq.heap.size 0 (sty zs).toList ∧ w'.cell? ⟨G.gR, 0, none⟩ = some (.int .i64 M.room)) w4.drew := ⟨rng_of HG.out.sty0, HG.out.room⟩
          refine wp_region_noPanic ?_
          refine region_M (S := fun w' => w'.rangeAt wq.heap.size 0 (sty zs).toList ∧ w'.cell? ⟨G.gR, 0, none⟩ = some (.int .i64 M.room)) (T := []) (by kernel_rfl) ?_
          generalize World.drew w4 = wd at HG hS0 ⊢
          refine anyM_take (i := 0) (oi := { dst := some 55, op := _, type := _, pos := _, after := _, guard := _ }) (v := _) rfl (by kernel_rfl) (fun _ _ _ h => h) (yieldsIf_load_mid (by kernel_rfl) _ _ rfl _ _ rfl (sty zs).toList _ (fun w' h => by simpa using h.1) Tryd.underlying28 rfl HSZL.out) hS0 ?_
          try simp only [Act.put, Array.toArray_toList, List.setIfInBounds_toArray, List.set_cons_zero, List.set_cons_succ]
          refine anyM_take (i := 3) (oi := { dst := some 58, op := _, type := _, pos := _, after := _, guard := _ }) (v := _) rfl (by kernel_rfl) (fun _ _ _ h => h) (yieldsIf_load_mid (by kernel_rfl) _ _ rfl _ _ rfl (sty zs).toList _ (fun w' h => by simpa using h.1) Tryd.underlying28 rfl HSZL.out) hS0 ?_
          try simp only [Act.put, Array.toArray_toList, List.setIfInBounds_toArray, List.set_cons_zero, List.set_cons_succ]
          refine anyM_take (i := 6) (oi := { dst := some 61, op := _, type := _, pos := _, after := _, guard := _ }) (v := _) rfl (by kernel_rfl) (fun _ _ _ h => h) (yieldsIf_load_mid (by kernel_rfl) _ _ rfl _ _ rfl (sty zs).toList _ (fun w' h => by simpa using h.1) Tryd.underlying28 rfl HSZL.out) hS0 ?_
          try simp only [Act.put, Array.toArray_toList, List.setIfInBounds_toArray, List.set_cons_zero, List.set_cons_succ]
          refine anyM_take (i := 1) (oi := { dst := some 56, op := _, type := _, pos := _, after := _, guard := _ }) (v := ?_) rfl (by kernel_rfl) (fun _ _ _ h => h) (Or.inl ⟨by kernel_rfl, ?_⟩) hS0 ?_
          rotate_left 1
          · (intro w hSw; (try dsimp only at hSw); go_simp; try with_reducible rfl)
          try simp only [Act.put, Array.toArray_toList, List.setIfInBounds_toArray, List.set_cons_zero, List.set_cons_succ]
          refine anyM_take (i := 4) (oi := { dst := some 59, op := _, type := _, pos := _, after := _, guard := _ }) (v := ?_) rfl (by kernel_rfl) (fun _ _ _ h => h) (Or.inl ⟨by kernel_rfl, ?_⟩) hS0 ?_
          rotate_left 1
          · (intro w hSw; (try dsimp only at hSw); go_simp; try with_reducible rfl)
          try simp only [Act.put, Array.toArray_toList, List.setIfInBounds_toArray, List.set_cons_zero, List.set_cons_succ]
          refine anyM_take (i := 7) (oi := { dst := some 62, op := _, type := _, pos := _, after := _, guard := _ }) (v := ?_) rfl (by kernel_rfl) (fun _ _ _ h => h) (Or.inl ⟨by kernel_rfl, ?_⟩) hS0 ?_
          rotate_left 1
          · (intro w hSw; (try dsimp only at hSw); go_simp; try with_reducible rfl)
          try simp only [Act.put, Array.toArray_toList, List.setIfInBounds_toArray, List.set_cons_zero, List.set_cons_succ]
          have HS11 : Hid (∀ w', Below wd.heap.size wd w' → (fun w' : World => w'.rangeAt wq.heap.size 0 (sty zs).toList ∧ w'.cell? ⟨G.gR, 0, none⟩ = some (.int .i64 M.room)) w') := fun w' hb => ⟨rng_of (HG.out.below hb).sty0, (HG.out.below hb).room⟩
          refine anyM_fan0 (fun _ _ _ _ _ h => h) [(2, 57), (5, 60), (8, 63), (9, 13), (10, 14), (11, 15)] [2, 5, 8, 9, 10, 11] (fun _ => []) (by decide) _ (F11 wd (.agg qm) (.agg qb) (.agg qp)) (fun L f w' h => HS11.out _ h.1) 3 6 _ (markL (Array.replicate 15 false) [0, 1, 2, 3, 4, 5, 6, 7, 8, 9, 10, 11]) _ rfl (by rfl) (by kernel_rfl) (by decide) (by decide) (by decide) wd (fun f => F11.start _ _ _ _ f) ?_ ?_
          · intro p hp hpM L f w1 hnL hR
            have HRR := Lib.hid hR
            clear hR hS0 HG
            rcases (by simpa using hp : p = (2, 57) ∨ p = (5, 60) ∨ p = (8, 63) ∨ p = (9, 13) ∨ p = (10, 14) ∨ p = (11, 15)) with rfl | rfl | rfl | rfl | rfl | rfl
            · refine ⟨_, rfl, fun K' hK => ?_⟩
              simp only [layP, Act.put, Array.toArray_toList, List.setIfInBounds_toArray, List.set_cons_zero, List.set_cons_succ]
              go_simp
              refine (HF1.out _).mono ?_
              rintro e wx ⟨rfl, hbx⟩
              exact hK.out _ (.agg qm) _ _ (by simp only [layP, Act.put, Array.toArray_toList, List.setIfInBounds_toArray, List.set_cons_zero, List.set_cons_succ]) rfl (HRR.out.called (i := 2) (by decide) rfl hbx)
            · refine ⟨_, rfl, fun K' hK => ?_⟩
              simp only [layP, Act.put, Array.toArray_toList, List.setIfInBounds_toArray, List.set_cons_zero, List.set_cons_succ]
              go_simp
              refine (HF2.out _).mono ?_
              rintro e wx ⟨rfl, hbx⟩
              exact hK.out _ (.agg qb) _ _ (by simp only [layP, Act.put, Array.toArray_toList, List.setIfInBounds_toArray, List.set_cons_zero, List.set_cons_succ]) rfl (HRR.out.called (i := 5) (by decide) rfl hbx)
            · refine ⟨_, rfl, fun K' hK => ?_⟩
              simp only [layP, Act.put, Array.toArray_toList, List.setIfInBounds_toArray, List.set_cons_zero, List.set_cons_succ]
              go_simp
              refine (HF3.out _).mono ?_
              rintro e wx ⟨rfl, hbx⟩
              exact hK.out _ (.agg qp) _ _ (by simp only [layP, Act.put, Array.toArray_toList, List.setIfInBounds_toArray, List.set_cons_zero, List.set_cons_succ]) rfl (HRR.out.called (i := 8) (by decide) rfl hbx)
            · refine ⟨_, rfl, fun K' hK => ?_⟩
              simp only [layP, Act.put, Array.toArray_toList, List.setIfInBounds_toArray, List.set_cons_zero, List.set_cons_succ]
              go_simp
              exact hK.out _ (.pointer (some ⟨w1.heap.size, 0, none⟩)) _ _ (by simp only [layP, Act.put, Array.toArray_toList, List.setIfInBounds_toArray, List.set_cons_zero, List.set_cons_succ]) rfl (HRR.out.alloc (i := 9) (by decide) hnL)
            · refine ⟨_, rfl, fun K' hK => ?_⟩
              simp only [layP, Act.put, Array.toArray_toList, List.setIfInBounds_toArray, List.set_cons_zero, List.set_cons_succ]
              go_simp
              exact hK.out _ (.pointer (some ⟨w1.heap.size, 0, none⟩)) _ _ (by simp only [layP, Act.put, Array.toArray_toList, List.setIfInBounds_toArray, List.set_cons_zero, List.set_cons_succ]) rfl (HRR.out.alloc (i := 10) (by decide) hnL)
            · refine ⟨_, rfl, fun K' hK => ?_⟩
              simp only [layP, Act.put, Array.toArray_toList, List.setIfInBounds_toArray, List.set_cons_zero, List.set_cons_succ]
              go_simp
              exact hK.out _ (.pointer (some ⟨w1.heap.size, 0, none⟩)) _ _ (by simp only [layP, Act.put, Array.toArray_toList, List.setIfInBounds_toArray, List.set_cons_zero, List.set_cons_succ]) rfl (HRR.out.alloc (i := 11) (by decide) hnL)
          intro f L w1 hR hL
          obtain ⟨hb7, h10, h11, h12, n1, n2, n3, e5m, e5b, e5p⟩ := hR.fin (hL 2 (by simp)) (hL 5 (by simp)) (hL 8 (by simp)) (hL 9 (by simp)) (hL 10 (by simp)) (hL 11 (by simp))
          obtain ⟨g6, e6, B6, hg6⟩ := h10
          obtain ⟨g7, e7, B7, hg7⟩ := h11
          obtain ⟨g8, e8, B8, hg8⟩ := h12
          have u1 : g6 ≠ g7 := fun e => n1 (by rw [e6, e7, e])
          have u2 : g6 ≠ g8 := fun e => n2 (by rw [e6, e8, e])
          have u3 : g7 ≠ g8 := fun e => n3 (by rw [e7, e8, e])
          simp only [layP, Act.put, Array.toArray_toList, List.setIfInBounds_toArray, List.set_cons_zero, List.set_cons_succ, e5m, e5b, e5p, e6, e7, e8]
          have hS0 := HS11.out _ hb7
          clear e5m e5b e5p e6 e7 e8 hL hR n1 n2 n3 L f
          have HB6 := Lib.hid B6
          have HB7 := Lib.hid B7
          have HB8 := Lib.hid B8
          have HBW7 := Lib.hid hb7
          clear B6 B7 B8 hb7
          refine anyM_one (i := 12) (by kernel_rfl) rfl (fun K hK => ?_)
          rw [if_pos (by kernel_rfl)]
          refine wp_store_mid _ _ _ rfl g6 0 qm rfl rfl (HB6.out.there _ (by rw [HQS.out.1]; exact Nat.le_refl 4)) (HSQ.out _ HQS.out.1) (HQ1.out.1) ?_
          generalize hws : World.setCells _ g6 0 _ = ws
          have HN9 : Hid (Blk ws g6 66 qm ∧ Blk ws g7 66 _ ∧ Blk ws g8 66 _ ∧ Below wd.heap.size wd ws) := ⟨hws ▸ HB6.out.setAll qm (by rw [HQS.out.1]; rfl), hws ▸ Blk.farCells u1.symm _ _ _ _ HB7.out, hws ▸ Blk.farCells u2.symm _ _ _ _ HB8.out, hws ▸ below_setCells hg6 _ _ _ HBW7.out⟩
          have HB6 := Lib.hid HN9.out.1
          have HB7 := Lib.hid HN9.out.2.1
          have HB8 := Lib.hid HN9.out.2.2.1
          have HBW7 := Lib.hid HN9.out.2.2.2
          clear HN9 hws
          have hS0 := HS11.out _ HBW7.out
          refine hK.out _ _ (fun _ => hS0) ?_
          clear hK K
          try simp only [Act.put, Array.toArray_toList, List.setIfInBounds_toArray, List.set_cons_zero, List.set_cons_succ]
          refine anyM_one (i := 13) (by kernel_rfl) rfl (fun K hK => ?_)
          rw [if_pos (by kernel_rfl)]
          refine wp_store_mid _ _ _ rfl g7 0 qb rfl rfl (HB7.out.there _ (by rw [HQS.out.2.1]; exact Nat.le_refl 4)) (HSQ.out _ HQS.out.2.1) (HQ1.out.2.1) ?_
          generalize hws : World.setCells _ g7 0 _ = ws
          have HN9 : Hid (Blk ws g7 66 qb ∧ Blk ws g6 66 _ ∧ Blk ws g8 66 _ ∧ Below wd.heap.size wd ws) := ⟨hws ▸ HB7.out.setAll qb (by rw [HQS.out.2.1]; rfl), hws ▸ Blk.farCells u1 _ _ _ _ HB6.out, hws ▸ Blk.farCells u3.symm _ _ _ _ HB8.out, hws ▸ below_setCells hg7 _ _ _ HBW7.out⟩
          have HB7 := Lib.hid HN9.out.1
          have HB6 := Lib.hid HN9.out.2.1
          have HB8 := Lib.hid HN9.out.2.2.1
          have HBW7 := Lib.hid HN9.out.2.2.2
          clear HN9 hws
          have hS0 := HS11.out _ HBW7.out
          refine hK.out _ _ (fun _ => hS0) ?_
          clear hK K
          try simp only [Act.put, Array.toArray_toList, List.setIfInBounds_toArray, List.set_cons_zero, List.set_cons_succ]
          refine anyM_one (i := 14) (by kernel_rfl) rfl (fun K hK => ?_)
          rw [if_pos (by kernel_rfl)]
          refine wp_store_mid _ _ _ rfl g8 0 qp rfl rfl (HB8.out.there _ (by rw [HQS.out.2.2]; exact Nat.le_refl 4)) (HSQ.out _ HQS.out.2.2) (HQ1.out.2.2) ?_
          generalize hws : World.setCells _ g8 0 _ = ws
          have HN9 : Hid (Blk ws g8 66 qp ∧ Blk ws g6 66 _ ∧ Blk ws g7 66 _ ∧ Below wd.heap.size wd ws) := ⟨hws ▸ HB8.out.setAll qp (by rw [HQS.out.2.2]; rfl), hws ▸ Blk.farCells u2 _ _ _ _ HB6.out, hws ▸ Blk.farCells u3 _ _ _ _ HB7.out, hws ▸ below_setCells hg8 _ _ _ HBW7.out⟩
          have HB8 := Lib.hid HN9.out.1
          have HB6 := Lib.hid HN9.out.2.1
          have HB7 := Lib.hid HN9.out.2.2.1
          have HBW7 := Lib.hid HN9.out.2.2.2
          clear HN9 hws
          have hS0 := HS11.out _ HBW7.out
          refine hK.out _ _ (fun _ => hS0) ?_
          clear hK K
          try simp only [Act.put, Array.toArray_toList, List.setIfInBounds_toArray, List.set_cons_zero, List.set_cons_succ]
          refine anyM_done (by kernel_rfl) ?_ _
          refine NoPanic.normal ?_
          clear hS0
          obtain ⟨wz, rfl⟩ : ∃ x, x = ws := ⟨_, rfl⟩
          obtain ⟨L0, hL0⟩ : ∃ x : List ItemV, x = [] := ⟨_, rfl⟩
          have HG : Hid (RG M B G v' out wq [(g6, 66, qm), (g7, 66, qb), (g8, 66, qp)] L0 b wz) := ⟨by rw [hL0]; exact (HG.out.below HBW7.out).rst, fun q hq => by
            rcases (by simpa using hq : q = (g6, 66, qm) ∨ q = (g7, 66, qb) ∨ q = (g8, 66, qp)) with rfl | rfl | rfl
            · exact ⟨HB6.out, (by decide : keptT 66 = true)⟩
            · exact ⟨HB7.out, (by decide : keptT 66 = true)⟩
            · exact ⟨HB8.out, (by decide : keptT 66 = true)⟩⟩
          have HL0 := Lib.hid hL0
          clear HB6 HB7 HB8 HBW7 hL0
          have HLN : Hid ((out ++ L0).length + 2 + costL (costB M.bs u) (bx M.bs z).kids ≤ 4194304) := by
            show _ ≤ _
            have h1 := HCO.out
            have h2 : 2 ≤ ownC M.bs z := by unfold ownC; omega
            rw [HL0.out, List.append_nil]
            omega
          go_upto_region 12 with fail
          obtain ⟨A1, c1, ho1, hs1⟩ := HG.out.drew.open_
          obtain ⟨nO, hnO⟩ : ∃ x, x = (out ++ L0).length := ⟨_, rfl⟩
          rw [← hnO] at ho1 hs1
          have HNO := Lib.hid hnO
          have hnb : nO ≤ 4194303 := by have := HLN.out; omega
          have HO := Lib.hid ho1
          have HKP := Lib.hid HG.out.drew.keep
          have hS0 : (fun w' : World => w'.cell? ⟨G.gO, 0, none⟩ = some (.slice A1 nO c1) ∧ w'.cell? ⟨g6, 3, none⟩ = some (.int .i64 m3) ∧ w'.cell? ⟨g7, 3, none⟩ = some (.int .i64 b3) ∧ w'.cell? ⟨g8, 3, none⟩ = some (.int .i64 p3)) (World.drew wz) := ⟨hs1, (HKP.out _ (List.mem_cons_self)).1.cell' 3 HQC.out.1.1, (HKP.out (g7, 66, qb) (by simp)).1.cell' 3 HQC.out.2.1.1, (HKP.out (g8, 66, qp) (by simp)).1.cell' 3 HQC.out.2.2.1⟩
          clear ho1 hs1 hnO HG
          refine wp_region_noPanic ?_
          refine region_M (S := fun w' => w'.cell? ⟨G.gO, 0, none⟩ = some (.slice A1 nO c1) ∧ w'.cell? ⟨g6, 3, none⟩ = some (.int .i64 m3) ∧ w'.cell? ⟨g7, 3, none⟩ = some (.int .i64 b3) ∧ w'.cell? ⟨g8, 3, none⟩ = some (.int .i64 p3)) (T := [14]) (by kernel_rfl) ?_
          generalize World.drew wz = wd at HO HKP hS0 ⊢
          refine anyM_take (i := 0) (oi := { dst := some 64, op := _, type := _, pos := _, after := _, guard := _ }) (v := ?_) rfl (by kernel_rfl) (fun _ _ _ h => h) (Or.inl ⟨by kernel_rfl, ?_⟩) hS0 ?_
          rotate_left 1
          · (intro w hSw; (try dsimp only at hSw); go_simp; try with_reducible rfl)
          try simp only [Act.put, Array.toArray_toList, List.setIfInBounds_toArray, List.set_cons_zero, List.set_cons_succ]
          refine anyM_free (i := 1) (oi := { dst := some 65, op := _, type := _, pos := _, after := _, guard := _ }) (v := ?_) rfl (by kernel_rfl) (fun _ _ _ h => h) (Or.inl ⟨by kernel_rfl, ?_⟩) (fun _ => hS0) ?_
          rotate_left 1
          · (intro w hSw; (try dsimp only at hSw); go_simp; try with_reducible rfl)
          try simp only [Act.put, Array.toArray_toList, List.setIfInBounds_toArray, List.set_cons_zero, List.set_cons_succ]
          refine anyM_free (i := 2) (oi := { dst := some 66, op := _, type := _, pos := _, after := _, guard := _ }) (v := ?_) rfl (by kernel_rfl) (fun _ _ _ h => h) (Or.inl ⟨by kernel_rfl, ?_⟩) (fun _ => hS0) ?_
          rotate_left 1
          · (intro w hSw; (try dsimp only at hSw); go_simp; try with_reducible rfl)
          try simp only [Act.put, Array.toArray_toList, List.setIfInBounds_toArray, List.set_cons_zero, List.set_cons_succ]
          refine anyM_take (i := 3) (oi := { dst := some 67, op := _, type := _, pos := _, after := _, guard := _ }) (v := ?_) rfl (by kernel_rfl) (fun _ _ _ h => h) (Or.inl ⟨by kernel_rfl, ?_⟩) hS0 ?_
          rotate_left 1
          · (intro w hSw; (try dsimp only at hSw); go_simp; try with_reducible rfl)
          try simp only [Act.put, Array.toArray_toList, List.setIfInBounds_toArray, List.set_cons_zero, List.set_cons_succ]
          refine anyM_free (i := 4) (oi := { dst := some 68, op := _, type := _, pos := _, after := _, guard := _ }) (v := ?_) rfl (by kernel_rfl) (fun _ _ _ h => h) (Or.inl ⟨by kernel_rfl, ?_⟩) (fun _ => hS0) ?_
          rotate_left 1
          · (intro w hSw; (try dsimp only at hSw); go_simp; try with_reducible rfl)
          try simp only [Act.put, Array.toArray_toList, List.setIfInBounds_toArray, List.set_cons_zero, List.set_cons_succ]
          refine anyM_take (i := 5) (oi := { dst := some 69, op := _, type := _, pos := _, after := _, guard := _ }) (v := ?_) rfl (by kernel_rfl) (fun _ _ _ h => h) (Or.inl ⟨by kernel_rfl, ?_⟩) hS0 ?_
          rotate_left 1
          · (intro w hSw; (try dsimp only at hSw); go_simp; try with_reducible rfl)
          try simp only [Act.put, Array.toArray_toList, List.setIfInBounds_toArray, List.set_cons_zero, List.set_cons_succ]
          refine anyM_free (i := 6) (oi := { dst := some 70, op := _, type := _, pos := _, after := _, guard := _ }) (v := ?_) rfl (by kernel_rfl) (fun _ _ _ h => h) (Or.inl ⟨by kernel_rfl, ?_⟩) (fun _ => hS0) ?_
          rotate_left 1
          · (intro w hSw; (try dsimp only at hSw); go_simp; try with_reducible rfl)
          try simp only [Act.put, Array.toArray_toList, List.setIfInBounds_toArray, List.set_cons_zero, List.set_cons_succ]
          refine anyM_free (i := 7) (oi := { dst := some 71, op := _, type := _, pos := _, after := _, guard := _ }) (v := ?_) rfl (by kernel_rfl) (fun _ _ _ h => h) (Or.inl ⟨by kernel_rfl, ?_⟩) (fun _ => hS0) ?_
          rotate_left 1
          · (intro w hSw; (try dsimp only at hSw); go_simp; try with_reducible rfl)
          try simp only [Act.put, Array.toArray_toList, List.setIfInBounds_toArray, List.set_cons_zero, List.set_cons_succ]
          refine anyM_take (i := 8) (oi := { dst := some 72, op := _, type := _, pos := _, after := _, guard := _ }) (v := ?_) rfl (by kernel_rfl) (fun _ _ _ h => h) (Or.inl ⟨by kernel_rfl, ?_⟩) hS0 ?_
          rotate_left 1
          · (intro w hSw; (try dsimp only at hSw); go_simp; try with_reducible rfl)
          try simp only [Act.put, Array.toArray_toList, List.setIfInBounds_toArray, List.set_cons_zero, List.set_cons_succ]
          refine anyM_free (i := 9) (oi := { dst := some 73, op := _, type := _, pos := _, after := _, guard := _ }) (v := ?_) rfl (by kernel_rfl) (fun _ _ _ h => h) (Or.inl ⟨by kernel_rfl, ?_⟩) (fun _ => hS0) ?_
          rotate_left 1
          · (intro w hSw; (try dsimp only at hSw); go_simp; try with_reducible rfl)
          try simp only [Act.put, Array.toArray_toList, List.setIfInBounds_toArray, List.set_cons_zero, List.set_cons_succ]
          refine anyM_one (i := 10) (by kernel_rfl) rfl (fun K hK => ?_)
          go_simp
          refine (rcut_calls _ _).mono ?_
          rintro e w' ⟨rfl, rfl⟩
          refine hK.out _ _ (fun _ => hS0) ?_
          clear hK K
          try simp only [Act.put, Array.toArray_toList, List.setIfInBounds_toArray, List.set_cons_zero, List.set_cons_succ]
          refine anyM_free (i := 11) (oi := { dst := some 75, op := _, type := _, pos := _, after := _, guard := _ }) (v := ?_) rfl (by kernel_rfl) (fun _ _ _ h => h) (Or.inl ⟨by kernel_rfl, ?_⟩) (fun _ => hS0) ?_
          rotate_left 1
          · (intro w hSw; (try dsimp only at hSw); go_simp; try with_reducible rfl)
          try simp only [Act.put, Array.toArray_toList, List.setIfInBounds_toArray, List.set_cons_zero, List.set_cons_succ]
          refine anyM_one (i := 12) (by kernel_rfl) rfl (fun K hK => ?_)
          go_simp
          generalize hwx : World.alloc wd _ = wx
          have BX := Lib.hid (blk_neq hwx)
          have HBX := Lib.hid (below_aeq hwx (Below.refl _ _))
          have HOX := Lib.hid (HO.out.1.below HBX.out)
          have HOW : Hid (wx.ownsRow B 40 11 (.slice A1 nO c1) nO (items (out ++ L0))) := by show World.ownsRow _ _ _ _ _ _ _; have := HOX.out.own; rwa [← HNO.out] at this
          have hS0 : (fun w' : World => w'.cell? ⟨G.gO, 0, none⟩ = some (.slice A1 nO c1) ∧ w'.cell? ⟨g6, 3, none⟩ = some (.int .i64 m3) ∧ w'.cell? ⟨g7, 3, none⟩ = some (.int .i64 b3) ∧ w'.cell? ⟨g8, 3, none⟩ = some (.int .i64 p3)) wx := ⟨HOX.out.bO.cell 0, (HBX.out.cell (p := ⟨g6, 3, none⟩) ((HKP.out (g6, 66, qm) (by simp)).1.lt)).trans hS0.2.1, (HBX.out.cell (p := ⟨g7, 3, none⟩) ((HKP.out (g7, 66, qb) (by simp)).1.lt)).trans hS0.2.2.1, (HBX.out.cell (p := ⟨g8, 3, none⟩) ((HKP.out (g8, 66, qp) (by simp)).1.lt)).trans hS0.2.2.2⟩
          clear hwx
          refine hK.out _ _ (fun _ => hS0) ?_
          clear hK K
          try simp only [Act.put, Array.toArray_toList, List.setIfInBounds_toArray, List.set_cons_zero, List.set_cons_succ]
          refine anyM_one (i := 13) (by kernel_rfl) rfl (fun K hK => ?_)
          refine step_append_any (by rfl) _ _ 30 (by rfl) B 40 i1 (.agg #[.int .i64 0, .int .i64 0, .string ⟨#[]⟩, .int .i64 0, .int .i64 0, .int .i64 0, .int .i64 0, .int .i64 0, .int .i64 0, .int .i64 0, .int .i64 0]) 11 96 Tryd.underlying30 hib hzb0 hzb1 hzb2 rfl (by decide) (.slice A1 nO c1) nO (items (out ++ L0)) (by rfl) HOW.out (some ⟨wd.heap.size, 0, none⟩) 1 1 (items [(⟨2, z, ByteArray.empty, 0, 0, 0, 0, 0, cut (m3 + b3 + p3), 0, 0⟩ : ItemV)]) (by rfl) (by simp [items, itemF, itemC]) (.inl ⟨_, 0, rfl, blk_item BX.out⟩) (items_one _) (by unfold maxLen; omega) (by omega) HOX.out.hB ?_
          intro A8 c8 w8 o8 hg8 hat8
          have HP := Lib.hid (RG.pushed HO.out HKP.out HBX.out (by rw [← HNO.out]; exact o8) hg8 hat8)
          have hb9 := blk_grown HOX.out.bO hg8 (blk_ne HOX.out.bO HOX.out.own (by decide))
          have s5 : w8.cell? ⟨G.gO, 0, none⟩ = some (.slice A1 nO c1) := hb9.cell 0
          have z5 : w8.frozen? ⟨G.gO, 0, none⟩ = false := hb9.free 0
          have hS0 : (fun w' : World => w'.cell? ⟨G.gO, 0, none⟩ = some (.slice A1 nO c1) ∧ w'.cell? ⟨g6, 3, none⟩ = some (.int .i64 m3) ∧ w'.cell? ⟨g7, 3, none⟩ = some (.int .i64 b3) ∧ w'.cell? ⟨g8, 3, none⟩ = some (.int .i64 p3)) w8 := ⟨s5, (blk_grown ((HKP.out (g6, 66, qm) (by simp)).1.below HBX.out (HKP.out (g6, 66, qm) (by simp)).1.lt) hg8 (blk_ne ((HKP.out (g6, 66, qm) (by simp)).1.below HBX.out (HKP.out (g6, 66, qm) (by simp)).1.lt) HOX.out.own (show (66 : TypeId) ≠ 40 by decide))).cell' 3 HQC.out.1.1, (blk_grown ((HKP.out (g7, 66, qb) (by simp)).1.below HBX.out (HKP.out (g7, 66, qb) (by simp)).1.lt) hg8 (blk_ne ((HKP.out (g7, 66, qb) (by simp)).1.below HBX.out (HKP.out (g7, 66, qb) (by simp)).1.lt) HOX.out.own (show (66 : TypeId) ≠ 40 by decide))).cell' 3 HQC.out.2.1.1, (blk_grown ((HKP.out (g8, 66, qp) (by simp)).1.below HBX.out (HKP.out (g8, 66, qp) (by simp)).1.lt) hg8 (blk_ne ((HKP.out (g8, 66, qp) (by simp)).1.below HBX.out (HKP.out (g8, 66, qp) (by simp)).1.lt) HOX.out.own (show (66 : TypeId) ≠ 40 by decide))).cell' 3 HQC.out.2.2.1⟩
          clear o8 hg8 hat8 hb9
          refine hK.out _ _ (fun _ => hS0) ?_
          clear hK K
          try simp only [Act.put, Array.toArray_toList, List.setIfInBounds_toArray, List.set_cons_zero, List.set_cons_succ]
          refine anyM_one (i := 14) (by kernel_rfl) rfl (fun K hK => ?_)
          go_simp
          refine hK.out _ _ (fun h => late_no h (by kernel_rfl)) ?_
          clear hK K
          try simp only [Act.put, Array.toArray_toList, List.setIfInBounds_toArray, List.set_cons_zero, List.set_cons_succ]
          refine anyM_done (by kernel_rfl) ?_ _
          refine NoPanic.normal ?_
          generalize World.setCell w8 _ _ = ws at HP ⊢
          clear hS0 z5 s5 BX HBX HOX HOW HO HKP hnb
          have HG := HP
          clear HP
          have HLN2 : Hid ((out ++ (L0 ++ [openX M z])).length + 1 + costL (costB M.bs u) (bx M.bs z).kids ≤ 4194304) := by
            show _ ≤ _
            have h1 := HLN.out
            rw [← List.append_assoc, List.length_append, List.length_singleton]
            omega
          have HG : Hid (RG M B G v' out wq [(g6, 66, qm), (g7, 66, qb), (g8, 66, qp)] (L0 ++ [openX M z]) b ws) := by
            have h1 := HG.out
            rw [HE3.out] at h1
            exact h1
          obtain ⟨wo, rfl⟩ : ∃ x, x = ws := ⟨_, rfl⟩
          clear HLN
          have HKI : Hid (Calls Tryd.prog 27 #[.int .i64 (z : Nat), .pointer (some ⟨G.gB, 0, none⟩), .pointer (some ⟨G.gL, 0, none⟩), .pointer (some ⟨G.gR, 0, none⟩), .pointer (some ⟨G.gO, 0, none⟩), .pointer (some ⟨G.gW, 0, none⟩), .pointer (some ⟨G.gK, 0, none⟩)] wo fun e w' => e = .returned (.tuple #[]) ∧ RG M B G v' out wq [(g6, 66, qm), (g7, 66, qb), (g8, 66, qp)] ((L0 ++ [openX M z]) ++ (walkL (boxW M u) (bx M.bs z).kids b).1) (walkL (boxW M u) (bx M.bs z).kids b).2 w') :=
            HG.out.call (fun v2 hm => HREC.out z b v2 _ wo hm HZ.out.1 HZ.out.2 (Nat.le_trans (by omega) HLN2.out))
          have s3 : wo.cell? ⟨G.gW, 0, none⟩ = some (.func (.func 27) #[] #[.pointer (some ⟨G.gB, 0, none⟩), .pointer (some ⟨G.gL, 0, none⟩), .pointer (some ⟨G.gR, 0, none⟩), .pointer (some ⟨G.gO, 0, none⟩), .pointer (some ⟨G.gW, 0, none⟩), .pointer (some ⟨G.gK, 0, none⟩)]) := by
            obtain ⟨v2, h1, _⟩ := HG.out.rst
            exact h1.bW.cell 0
          clear HG
          go_upto_region 14 with (go_at_call 27; refine HKI.out.mono ?_; rintro e wk ⟨rfl, hq⟩; have HG := Lib.hid hq; clear hq)
          clear HKI s3
          obtain ⟨LK, hLK⟩ : ∃ x, x = (L0 ++ [openX M z]) ++ (walkL (boxW M u) (bx M.bs z).kids b).1 := ⟨_, rfl⟩
          obtain ⟨bK, hbK⟩ : ∃ x, x = (walkL (boxW M u) (bx M.bs z).kids b).2 := ⟨_, rfl⟩
          rw [← hLK, ← hbK] at HG
          have HLK := Lib.hid hLK
          have HBK := Lib.hid hbK
          have HLN : Hid ((out ++ LK).length + 1 ≤ 4194304) := by
            show _ ≤ _
            have h1 := walk_len (box_len M u) (bx M.bs z).kids b
            have h2 := HLN2.out
            rw [hLK, ← List.append_assoc, List.length_append]
            omega
          clear hLK hbK HLN2
          obtain ⟨A1, c1, ho1, hs1⟩ := HG.out.drew.open_
          obtain ⟨nO, hnO⟩ : ∃ x, x = (out ++ LK).length := ⟨_, rfl⟩
          rw [← hnO] at ho1 hs1
          have HNO := Lib.hid hnO
          have hnb : nO ≤ 4194303 := by have := HLN.out; omega
          have HO := Lib.hid ho1
          have HKP := Lib.hid HG.out.drew.keep
          have hS0 : (fun w' : World => w'.cell? ⟨G.gO, 0, none⟩ = some (.slice A1 nO c1) ∧ w'.cell? ⟨g6, 1, none⟩ = some (.int .i64 m1) ∧ w'.cell? ⟨g7, 1, none⟩ = some (.int .i64 b1) ∧ w'.cell? ⟨g8, 1, none⟩ = some (.int .i64 p1)) (World.drew wk) := ⟨hs1, (HKP.out _ (List.mem_cons_self)).1.cell' 1 HQC.out.1.2, (HKP.out (g7, 66, qb) (by simp)).1.cell' 1 HQC.out.2.1.2, (HKP.out (g8, 66, qp) (by simp)).1.cell' 1 HQC.out.2.2.2⟩
          clear ho1 hs1 hnO HG
          refine wp_region_noPanic ?_
          refine region_M (S := fun w' => w'.cell? ⟨G.gO, 0, none⟩ = some (.slice A1 nO c1) ∧ w'.cell? ⟨g6, 1, none⟩ = some (.int .i64 m1) ∧ w'.cell? ⟨g7, 1, none⟩ = some (.int .i64 b1) ∧ w'.cell? ⟨g8, 1, none⟩ = some (.int .i64 p1)) (T := [14]) (by kernel_rfl) ?_
          generalize World.drew wk = wd at HO HKP hS0 ⊢
          refine anyM_take (i := 0) (oi := { dst := some 81, op := _, type := _, pos := _, after := _, guard := _ }) (v := ?_) rfl (by kernel_rfl) (fun _ _ _ h => h) (Or.inl ⟨by kernel_rfl, ?_⟩) hS0 ?_
          rotate_left 1
          · (intro w hSw; (try dsimp only at hSw); go_simp; try with_reducible rfl)
          try simp only [Act.put, Array.toArray_toList, List.setIfInBounds_toArray, List.set_cons_zero, List.set_cons_succ]
          refine anyM_free (i := 1) (oi := { dst := some 82, op := _, type := _, pos := _, after := _, guard := _ }) (v := ?_) rfl (by kernel_rfl) (fun _ _ _ h => h) (Or.inl ⟨by kernel_rfl, ?_⟩) (fun _ => hS0) ?_
          rotate_left 1
          · (intro w hSw; (try dsimp only at hSw); go_simp; try with_reducible rfl)
          try simp only [Act.put, Array.toArray_toList, List.setIfInBounds_toArray, List.set_cons_zero, List.set_cons_succ]
          refine anyM_free (i := 2) (oi := { dst := some 83, op := _, type := _, pos := _, after := _, guard := _ }) (v := ?_) rfl (by kernel_rfl) (fun _ _ _ h => h) (Or.inl ⟨by kernel_rfl, ?_⟩) (fun _ => hS0) ?_
          rotate_left 1
          · (intro w hSw; (try dsimp only at hSw); go_simp; try with_reducible rfl)
          try simp only [Act.put, Array.toArray_toList, List.setIfInBounds_toArray, List.set_cons_zero, List.set_cons_succ]
          refine anyM_take (i := 3) (oi := { dst := some 84, op := _, type := _, pos := _, after := _, guard := _ }) (v := ?_) rfl (by kernel_rfl) (fun _ _ _ h => h) (Or.inl ⟨by kernel_rfl, ?_⟩) hS0 ?_
          rotate_left 1
          · (intro w hSw; (try dsimp only at hSw); go_simp; try with_reducible rfl)
          try simp only [Act.put, Array.toArray_toList, List.setIfInBounds_toArray, List.set_cons_zero, List.set_cons_succ]
          refine anyM_free (i := 4) (oi := { dst := some 85, op := _, type := _, pos := _, after := _, guard := _ }) (v := ?_) rfl (by kernel_rfl) (fun _ _ _ h => h) (Or.inl ⟨by kernel_rfl, ?_⟩) (fun _ => hS0) ?_
          rotate_left 1
          · (intro w hSw; (try dsimp only at hSw); go_simp; try with_reducible rfl)
          try simp only [Act.put, Array.toArray_toList, List.setIfInBounds_toArray, List.set_cons_zero, List.set_cons_succ]
          refine anyM_take (i := 5) (oi := { dst := some 86, op := _, type := _, pos := _, after := _, guard := _ }) (v := ?_) rfl (by kernel_rfl) (fun _ _ _ h => h) (Or.inl ⟨by kernel_rfl, ?_⟩) hS0 ?_
          rotate_left 1
          · (intro w hSw; (try dsimp only at hSw); go_simp; try with_reducible rfl)
          try simp only [Act.put, Array.toArray_toList, List.setIfInBounds_toArray, List.set_cons_zero, List.set_cons_succ]
          refine anyM_free (i := 6) (oi := { dst := some 87, op := _, type := _, pos := _, after := _, guard := _ }) (v := ?_) rfl (by kernel_rfl) (fun _ _ _ h => h) (Or.inl ⟨by kernel_rfl, ?_⟩) (fun _ => hS0) ?_
          rotate_left 1
          · (intro w hSw; (try dsimp only at hSw); go_simp; try with_reducible rfl)
          try simp only [Act.put, Array.toArray_toList, List.setIfInBounds_toArray, List.set_cons_zero, List.set_cons_succ]
          refine anyM_free (i := 7) (oi := { dst := some 88, op := _, type := _, pos := _, after := _, guard := _ }) (v := ?_) rfl (by kernel_rfl) (fun _ _ _ h => h) (Or.inl ⟨by kernel_rfl, ?_⟩) (fun _ => hS0) ?_
          rotate_left 1
          · (intro w hSw; (try dsimp only at hSw); go_simp; try with_reducible rfl)
          try simp only [Act.put, Array.toArray_toList, List.setIfInBounds_toArray, List.set_cons_zero, List.set_cons_succ]
          refine anyM_take (i := 8) (oi := { dst := some 89, op := _, type := _, pos := _, after := _, guard := _ }) (v := ?_) rfl (by kernel_rfl) (fun _ _ _ h => h) (Or.inl ⟨by kernel_rfl, ?_⟩) hS0 ?_
          rotate_left 1
          · (intro w hSw; (try dsimp only at hSw); go_simp; try with_reducible rfl)
          try simp only [Act.put, Array.toArray_toList, List.setIfInBounds_toArray, List.set_cons_zero, List.set_cons_succ]
          refine anyM_free (i := 9) (oi := { dst := some 90, op := _, type := _, pos := _, after := _, guard := _ }) (v := ?_) rfl (by kernel_rfl) (fun _ _ _ h => h) (Or.inl ⟨by kernel_rfl, ?_⟩) (fun _ => hS0) ?_
          rotate_left 1
          · (intro w hSw; (try dsimp only at hSw); go_simp; try with_reducible rfl)
          try simp only [Act.put, Array.toArray_toList, List.setIfInBounds_toArray, List.set_cons_zero, List.set_cons_succ]
          refine anyM_one (i := 10) (by kernel_rfl) rfl (fun K hK => ?_)
          go_simp
          refine (rcut_calls _ _).mono ?_
          rintro e w' ⟨rfl, rfl⟩
          refine hK.out _ _ (fun _ => hS0) ?_
          clear hK K
          try simp only [Act.put, Array.toArray_toList, List.setIfInBounds_toArray, List.set_cons_zero, List.set_cons_succ]
          refine anyM_free (i := 11) (oi := { dst := some 92, op := _, type := _, pos := _, after := _, guard := _ }) (v := ?_) rfl (by kernel_rfl) (fun _ _ _ h => h) (Or.inl ⟨by kernel_rfl, ?_⟩) (fun _ => hS0) ?_
          rotate_left 1
          · (intro w hSw; (try dsimp only at hSw); go_simp; try with_reducible rfl)
          try simp only [Act.put, Array.toArray_toList, List.setIfInBounds_toArray, List.set_cons_zero, List.set_cons_succ]
          refine anyM_one (i := 12) (by kernel_rfl) rfl (fun K hK => ?_)
          go_simp
          generalize hwx : World.alloc wd _ = wx
          have BX := Lib.hid (blk_neq hwx)
          have HBX := Lib.hid (below_aeq hwx (Below.refl _ _))
          have HOX := Lib.hid (HO.out.1.below HBX.out)
          have HOW : Hid (wx.ownsRow B 40 11 (.slice A1 nO c1) nO (items (out ++ LK))) := by show World.ownsRow _ _ _ _ _ _ _; have := HOX.out.own; rwa [← HNO.out] at this
          have hS0 : (fun w' : World => w'.cell? ⟨G.gO, 0, none⟩ = some (.slice A1 nO c1) ∧ w'.cell? ⟨g6, 1, none⟩ = some (.int .i64 m1) ∧ w'.cell? ⟨g7, 1, none⟩ = some (.int .i64 b1) ∧ w'.cell? ⟨g8, 1, none⟩ = some (.int .i64 p1)) wx := ⟨HOX.out.bO.cell 0, (HBX.out.cell (p := ⟨g6, 1, none⟩) ((HKP.out (g6, 66, qm) (by simp)).1.lt)).trans hS0.2.1, (HBX.out.cell (p := ⟨g7, 1, none⟩) ((HKP.out (g7, 66, qb) (by simp)).1.lt)).trans hS0.2.2.1, (HBX.out.cell (p := ⟨g8, 1, none⟩) ((HKP.out (g8, 66, qp) (by simp)).1.lt)).trans hS0.2.2.2⟩
          clear hwx
          refine hK.out _ _ (fun _ => hS0) ?_
          clear hK K
          try simp only [Act.put, Array.toArray_toList, List.setIfInBounds_toArray, List.set_cons_zero, List.set_cons_succ]
          refine anyM_one (i := 13) (by kernel_rfl) rfl (fun K hK => ?_)
          refine step_append_any (by rfl) _ _ 30 (by rfl) B 40 i1 (.agg #[.int .i64 0, .int .i64 0, .string ⟨#[]⟩, .int .i64 0, .int .i64 0, .int .i64 0, .int .i64 0, .int .i64 0, .int .i64 0, .int .i64 0, .int .i64 0]) 11 96 Tryd.underlying30 hib hzb0 hzb1 hzb2 rfl (by decide) (.slice A1 nO c1) nO (items (out ++ LK)) (by rfl) HOW.out (some ⟨wd.heap.size, 0, none⟩) 1 1 (items [(⟨3, z, ByteArray.empty, 0, 0, 0, 0, 0, cut (m1 + b1 + p1), 0, 0⟩ : ItemV)]) (by rfl) (by simp [items, itemF, itemC]) (.inl ⟨_, 0, rfl, blk_item BX.out⟩) (items_one _) (by unfold maxLen; omega) (by omega) HOX.out.hB ?_
          intro A8 c8 w8 o8 hg8 hat8
          have HP := Lib.hid (RG.pushed HO.out HKP.out HBX.out (by rw [← HNO.out]; exact o8) hg8 hat8)
          have hb9 := blk_grown HOX.out.bO hg8 (blk_ne HOX.out.bO HOX.out.own (by decide))
          have s5 : w8.cell? ⟨G.gO, 0, none⟩ = some (.slice A1 nO c1) := hb9.cell 0
          have z5 : w8.frozen? ⟨G.gO, 0, none⟩ = false := hb9.free 0
          have hS0 : (fun w' : World => w'.cell? ⟨G.gO, 0, none⟩ = some (.slice A1 nO c1) ∧ w'.cell? ⟨g6, 1, none⟩ = some (.int .i64 m1) ∧ w'.cell? ⟨g7, 1, none⟩ = some (.int .i64 b1) ∧ w'.cell? ⟨g8, 1, none⟩ = some (.int .i64 p1)) w8 := ⟨s5, (blk_grown ((HKP.out (g6, 66, qm) (by simp)).1.below HBX.out (HKP.out (g6, 66, qm) (by simp)).1.lt) hg8 (blk_ne ((HKP.out (g6, 66, qm) (by simp)).1.below HBX.out (HKP.out (g6, 66, qm) (by simp)).1.lt) HOX.out.own (show (66 : TypeId) ≠ 40 by decide))).cell' 1 HQC.out.1.2, (blk_grown ((HKP.out (g7, 66, qb) (by simp)).1.below HBX.out (HKP.out (g7, 66, qb) (by simp)).1.lt) hg8 (blk_ne ((HKP.out (g7, 66, qb) (by simp)).1.below HBX.out (HKP.out (g7, 66, qb) (by simp)).1.lt) HOX.out.own (show (66 : TypeId) ≠ 40 by decide))).cell' 1 HQC.out.2.1.2, (blk_grown ((HKP.out (g8, 66, qp) (by simp)).1.below HBX.out (HKP.out (g8, 66, qp) (by simp)).1.lt) hg8 (blk_ne ((HKP.out (g8, 66, qp) (by simp)).1.below HBX.out (HKP.out (g8, 66, qp) (by simp)).1.lt) HOX.out.own (show (66 : TypeId) ≠ 40 by decide))).cell' 1 HQC.out.2.2.2⟩
          clear o8 hg8 hat8 hb9
          refine hK.out _ _ (fun _ => hS0) ?_
          clear hK K
          try simp only [Act.put, Array.toArray_toList, List.setIfInBounds_toArray, List.set_cons_zero, List.set_cons_succ]
          refine anyM_one (i := 14) (by kernel_rfl) rfl (fun K hK => ?_)
          go_simp
          refine hK.out _ _ (fun h => late_no h (by kernel_rfl)) ?_
          clear hK K
          try simp only [Act.put, Array.toArray_toList, List.setIfInBounds_toArray, List.set_cons_zero, List.set_cons_succ]
          refine anyM_done (by kernel_rfl) ?_ _
          refine NoPanic.normal ?_
          generalize World.setCell w8 _ _ = ws at HP ⊢
          clear hS0 z5 s5 BX HBX HOX HOW HO HKP hnb
          have HG := HP
          clear HP
          go_wp2_with fail
          go_roundw
          case rel => exact ⟨k + 1, by have := HKK.out; omega, by go_num, HNEXT.out _ ⟨_, _, box_inline HKD.out.symm, by
            have h1 := HG.out.less
            rw [HE1.out, HLK.out, HBK.out, HL0.out] at h1
            exact h1⟩⟩
          case measure => have := HKK.out; simp [intOf]; omega
      have q3 : (kd == 3) = false := by simpa using h3
      by_cases h4 : kd = 4
      · as_aux_lemma =>
          subst h4
          have hpp : (sty zs)[83]? = some (.int .i64 (stN zs 41)) ∧ (sty zs)[84]? = some (.int .i64 (stK zs 42)) ∧ (sty zs)[85]? = some (.int .i64 (stN zs 42)) ∧ (sty zs)[88]? = some (.int .i64 (stK zs 44)) ∧ (sty zs)[89]? = some (.int .i64 (stN zs 44)) :=
            ⟨sty_at zs 83 (by rw [HZZ.out]; omega), sty_at zs 84 (by rw [HZZ.out]; omega), sty_at zs 85 (by rw [HZZ.out]; omega), sty_at zs 88 (by rw [HZZ.out]; omega), sty_at zs 89 (by rw [HZZ.out]; omega)⟩
          obtain ⟨md, hmd⟩ : ∃ x, x = stN zs 41 := ⟨_, rfl⟩
          obtain ⟨k42, hk42⟩ : ∃ x, x = stK zs 42 := ⟨_, rfl⟩
          obtain ⟨n42, hn42⟩ : ∃ x, x = stN zs 42 := ⟨_, rfl⟩
          obtain ⟨k44, hk44⟩ : ∃ x, x = stK zs 44 := ⟨_, rfl⟩
          obtain ⟨n44, hn44⟩ : ∃ x, x = stN zs 44 := ⟨_, rfl⟩
          rw [← hmd, ← hk42, ← hn42, ← hk44, ← hn44] at hpp
          have HP83 := Lib.hid hpp.1
          have HP84 := Lib.hid hpp.2.1
          have HP85 := Lib.hid hpp.2.2.1
          have HP88 := Lib.hid hpp.2.2.2.1
          have HP89 := Lib.hid hpp.2.2.2.2
          obtain ⟨sz, hsz⟩ : ∃ x, x = szN zs := ⟨_, rfl⟩
          obtain ⟨hv, hhv⟩ : ∃ x, x = highN zs := ⟨_, rfl⟩
          obtain ⟨sh, hsh⟩ : ∃ x, x = shiftN zs := ⟨_, rfl⟩
          obtain ⟨sp, hsp⟩ : ∃ x, x = ofN k44 n44 M.room := ⟨_, rfl⟩
          have HSI : Hid (∀ w, Calls Tryd.prog 24 #[.agg (sty zs)] w fun e w' => e = .returned (.int .i64 sz) ∧ Below w.heap.size w w') := fun w => by rw [hsz]; exact rsize_calls zs w HZZ.out
          have HHI : Hid (∀ w, Calls Tryd.prog 7 #[.agg (sty zs)] w fun e w' => e = .returned (.int .i64 hv) ∧ Below w.heap.size w w') := fun w => by rw [hhv]; exact rhigh_calls zs w HZZ.out
          have HOF : Hid (∀ w, Calls Tryd.prog 30 #[.agg #[.int .i64 k44, .int .i64 n44], .int .i64 M.room] w fun e w' => e = .returned (.tuple #[.int .i64 sp, .bool (ofIs k44)]) ∧ Below w.heap.size w w') := fun w => by
            rw [hsp]
            refine (rof_calls k44 n44 M.room w).mono ?_
            rintro e w' ⟨he, hw⟩
            exact ⟨he, by rw [← hw]; exact below_alloc (Below.refl _ _) _⟩
          have HXE : Hid ((⟨1, z, ByteArray.empty, sz, sp, hv, md, sh, 0, 0, 0⟩ : ItemV) = itemX M z) := by show _ = _; unfold itemX; rw [← HZS.out, hsz, hhv, hsh, hsp, hmd, hk44, hn44]
          have HSHE : Hid (sh = if k42 = 2 then cut n42 else 0) := by show _ = _; rw [hsh, hk42, hn42]; rfl
          obtain ⟨tx, htx⟩ : ∃ x, x = (bx M.bs z).text := ⟨_, rfl⟩
          have htl : tx.size ≤ 1048576 := by rw [htx]; exact HM.out.text z
          obtain ⟨rt, hrt⟩ : ∃ x, x = (colR tx md b).1 := ⟨_, rfl⟩
          obtain ⟨rb, hrb⟩ : ∃ x, x = (colR tx md b).2 := ⟨_, rfl⟩
          have HCL : Hid (∀ w, Calls Tryd.prog 31 #[.string tx, .int .i64 md, .bool b] w fun e w' => e = .returned (.tuple #[.string rt, .bool rb]) ∧ Below w.heap.size w w') := fun w => by
            rw [hrt, hrb]; exact rcollapse_any _ _ _ _ (by omega)
          obtain ⟨kp, hkp⟩ : ∃ x, x = keepM md := ⟨_, rfl⟩
          have HKP0 : Hid (∀ w, Calls Tryd.prog 32 #[.int .i64 md] w fun e w' => e = .returned (.bool kp) ∧ w = w') := fun w => by rw [hkp]; exact rkeeps_calls md w
          have HT0 : Hid (TX (⟨1, z, ByteArray.empty, sz, sp, hv, md, sh, 0, 0, 0⟩ : ItemV) (mustX z) rb kp (textI M z b, textB M z b) out.length rt [] rb) := by
            have e1 : partsOf kp rt.data.toList = textP M z b := by unfold textP textR; rw [hkp, hrt, htx, hmd, HZS.out]
            have e2 : rb = (textR M z b).2 := by unfold textR; rw [hrb, htx, hmd, HZS.out]
            refine ⟨?_, ?_, ?_⟩
            · rw [List.nil_append, e1, HXE.out]; rfl
            · rw [e1, e2]; rfl
            · have h1 := HCO.out
              have h2 := colR_size tx md b
              rw [← hrt] at h2
              unfold ownC at h1
              rw [← htx] at h1
              rw [List.length_nil]
              omega
          have HS3 : Hid (∀ x L b2 K X, XG M B G v' out wq K gX x L b2 X → x.mode = md → X.cell? ⟨G.gB, 0, none⟩ = some (.slice (some ⟨bB, offB, none⟩) M.nb M.cb) ∧ X.cell? ⟨bB, offB + z * 5 + 4, none⟩ = some (.string tx) ∧ X.cell? ⟨gX, 6, none⟩ = some (.int .i64 md) ∧ X.cell? ⟨G.gK, 0, none⟩ = some (.bool b2)) := fun x L b2 K X hX hm => by
            obtain ⟨v2, ⟨h1, _, _⟩, _⟩ := hX.rst
            have h2 := HBX.out _ _ _ _ h1
            exact ⟨h2.1, by rw [htx]; exact (h2.2 z HZ.out.1).2, by have := hX.itm.cell 6; rw [this, ← hm]; rfl, h1.bK.cell 0⟩
          clear hpp hmd hk42 hn42 hk44 hn44 hsz hhv hsh hsp htx hrt hrb hkp htl HREC HCO
          go_upto_region 16 with fail
          have HG := Lib.hid HG.out.drew
          have HSS : Hid (∀ x L b2 X, XG M B G v' out wq [(wq.heap.size, 28, sty zs)] gX x L b2 X → (fun w' : World => w'.rangeAt wq.heap.size 0 (sty zs).toList ∧ w'.cell? ⟨wq.heap.size, 83, none⟩ = some (.int .i64 md)) X) := fun x L b2 X hX => ⟨rng_of hX.sty0, hX.sty0.cell' 83 HP83.out⟩
          have hS0 : (fun w' : World => w'.rangeAt wq.heap.size 0 (sty zs).toList ∧ w'.cell? ⟨wq.heap.size, 83, none⟩ = some (.int .i64 md)) (World.drew w4) := HSS.out _ _ _ _ HG.out
          refine wp_region_noPanic ?_
          refine region_M (S := fun w' => w'.rangeAt wq.heap.size 0 (sty zs).toList ∧ w'.cell? ⟨wq.heap.size, 83, none⟩ = some (.int .i64 md)) (T := []) (by kernel_rfl) ?_
          generalize World.drew w4 = wd at HG hS0 ⊢
          refine anyM_take (i := 0) (oi := { dst := some 98, op := _, type := _, pos := _, after := _, guard := _ }) (v := _) rfl (by kernel_rfl) (fun _ _ _ h => h) (yieldsIf_load_mid (by kernel_rfl) _ _ rfl _ _ rfl (sty zs).toList _ (fun w' h => by simpa using h.1) Tryd.underlying28 rfl HSZL.out) hS0 ?_
          try simp only [Act.put, Array.toArray_toList, List.setIfInBounds_toArray, List.set_cons_zero, List.set_cons_succ]
          refine anyM_take (i := 2) (oi := { dst := some 100, op := _, type := _, pos := _, after := _, guard := _ }) (v := _) rfl (by kernel_rfl) (fun _ _ _ h => h) (yieldsIf_load_mid (by kernel_rfl) _ _ rfl _ _ rfl (sty zs).toList _ (fun w' h => by simpa using h.1) Tryd.underlying28 rfl HSZL.out) hS0 ?_
          try simp only [Act.put, Array.toArray_toList, List.setIfInBounds_toArray, List.set_cons_zero, List.set_cons_succ]
          refine anyM_free (i := 4) (oi := { dst := some 102, op := _, type := _, pos := _, after := _, guard := _ }) (v := ?_) rfl (by kernel_rfl) (fun _ _ _ h => h) (Or.inl ⟨by kernel_rfl, ?_⟩) (fun _ => hS0) ?_
          rotate_left 1
          · (intro w hSw; (try dsimp only at hSw); go_simp; try with_reducible rfl)
          try simp only [Act.put, Array.toArray_toList, List.setIfInBounds_toArray, List.set_cons_zero, List.set_cons_succ]
          refine anyM_free (i := 5) (oi := { dst := some 103, op := _, type := _, pos := _, after := _, guard := _ }) (v := ?_) rfl (by kernel_rfl) (fun _ _ _ h => h) (Or.inl ⟨by kernel_rfl, ?_⟩) (fun _ => hS0) ?_
          rotate_left 1
          · (intro w hSw; (try dsimp only at hSw); go_simp; try with_reducible rfl)
          try simp only [Act.put, Array.toArray_toList, List.setIfInBounds_toArray, List.set_cons_zero, List.set_cons_succ]
          refine anyM_take (i := 6) (oi := { dst := some 104, op := _, type := _, pos := _, after := _, guard := _ }) (v := ?_) rfl (by kernel_rfl) (fun _ _ _ h => h) (Or.inl ⟨by kernel_rfl, ?_⟩) hS0 ?_
          rotate_left 1
          · (intro w hSw; (try dsimp only at hSw); go_simp; try with_reducible rfl)
          try simp only [Act.put, Array.toArray_toList, List.setIfInBounds_toArray, List.set_cons_zero, List.set_cons_succ]
          refine anyM_free (i := 7) (oi := { dst := some 105, op := _, type := _, pos := _, after := _, guard := _ }) (v := ?_) rfl (by kernel_rfl) (fun _ _ _ h => h) (Or.inl ⟨by kernel_rfl, ?_⟩) (fun _ => hS0) ?_
          rotate_left 1
          · (intro w hSw; (try dsimp only at hSw); go_simp; try with_reducible rfl)
          try simp only [Act.put, Array.toArray_toList, List.setIfInBounds_toArray, List.set_cons_zero, List.set_cons_succ]
          refine anyM_one (i := 1) (by kernel_rfl) rfl (fun K hK => ?_)
          go_simp
          refine (HSI.out _).mono ?_
          rintro e wa ⟨rfl, hba⟩
          have HG := Lib.hid (HG.out.below hba)
          have hS0 : (fun w' : World => w'.rangeAt wq.heap.size 0 (sty zs).toList ∧ w'.cell? ⟨wq.heap.size, 83, none⟩ = some (.int .i64 md)) wa := HSS.out _ _ _ _ HG.out
          clear hba
          refine hK.out _ _ (fun _ => hS0) ?_
          clear hK K
          try simp only [Act.put, Array.toArray_toList, List.setIfInBounds_toArray, List.set_cons_zero, List.set_cons_succ]
          refine anyM_one (i := 3) (by kernel_rfl) rfl (fun K hK => ?_)
          go_simp
          refine (HHI.out _).mono ?_
          rintro e wb ⟨rfl, hba⟩
          have HG := Lib.hid (HG.out.below hba)
          have hS0 : (fun w' : World => w'.rangeAt wq.heap.size 0 (sty zs).toList ∧ w'.cell? ⟨wq.heap.size, 83, none⟩ = some (.int .i64 md)) wb := HSS.out _ _ _ _ HG.out
          clear hba
          have y0 : wb.cell? ⟨gX, 0, none⟩ = some (.int .i64 0) := HG.out.itm.cell 0
          have y1 : wb.frozen? ⟨gX, 0, none⟩ = false := HG.out.itm.free 0
          refine hK.out _ _ (fun _ => hS0) ?_
          clear hK K
          try simp only [Act.put, Array.toArray_toList, List.setIfInBounds_toArray, List.set_cons_zero, List.set_cons_succ]
          refine anyM_one (i := 8) (by kernel_rfl) rfl (fun K hK => ?_)
          go_simp
          have HG := Lib.hid (HG.out.set 0 (.int .i64 1) (⟨1, z, ByteArray.empty, 0, 0, 0, 0, 0, 0, 0, 0⟩ : ItemV) rfl)
          clear y0 y1
          generalize World.setCell wb _ _ = w50 at HG ⊢
          have hS0 : (fun w' : World => w'.rangeAt wq.heap.size 0 (sty zs).toList ∧ w'.cell? ⟨wq.heap.size, 83, none⟩ = some (.int .i64 md)) w50 := HSS.out _ _ _ _ HG.out
          have y0 : w50.cell? ⟨gX, 3, none⟩ = some (.int .i64 0) := HG.out.itm.cell 3
          have y1 : w50.frozen? ⟨gX, 3, none⟩ = false := HG.out.itm.free 3
          refine hK.out _ _ (fun _ => hS0) ?_
          clear hK K
          try simp only [Act.put, Array.toArray_toList, List.setIfInBounds_toArray, List.set_cons_zero, List.set_cons_succ]
          refine anyM_free (i := 9) (oi := { dst := some 106, op := _, type := _, pos := _, after := _, guard := _ }) (v := ?_) rfl (by kernel_rfl) (fun _ _ _ h => h) (Or.inl ⟨by kernel_rfl, ?_⟩) (fun _ => hS0) ?_
          rotate_left 1
          · (intro w hSw; (try dsimp only at hSw); go_simp; try with_reducible rfl)
          try simp only [Act.put, Array.toArray_toList, List.setIfInBounds_toArray, List.set_cons_zero, List.set_cons_succ]
          refine anyM_one (i := 10) (by kernel_rfl) rfl (fun K hK => ?_)
          go_simp
          have HG := Lib.hid (HG.out.set 3 (.int .i64 sz) (⟨1, z, ByteArray.empty, sz, 0, 0, 0, 0, 0, 0, 0⟩ : ItemV) rfl)
          clear y0 y1
          generalize World.setCell w50 _ _ = w51 at HG ⊢
          have hS0 : (fun w' : World => w'.rangeAt wq.heap.size 0 (sty zs).toList ∧ w'.cell? ⟨wq.heap.size, 83, none⟩ = some (.int .i64 md)) w51 := HSS.out _ _ _ _ HG.out
          have y0 : w51.cell? ⟨gX, 5, none⟩ = some (.int .i64 0) := HG.out.itm.cell 5
          have y1 : w51.frozen? ⟨gX, 5, none⟩ = false := HG.out.itm.free 5
          refine hK.out _ _ (fun _ => hS0) ?_
          clear hK K
          try simp only [Act.put, Array.toArray_toList, List.setIfInBounds_toArray, List.set_cons_zero, List.set_cons_succ]
          refine anyM_free (i := 11) (oi := { dst := some 107, op := _, type := _, pos := _, after := _, guard := _ }) (v := ?_) rfl (by kernel_rfl) (fun _ _ _ h => h) (Or.inl ⟨by kernel_rfl, ?_⟩) (fun _ => hS0) ?_
          rotate_left 1
          · (intro w hSw; (try dsimp only at hSw); go_simp; try with_reducible rfl)
          try simp only [Act.put, Array.toArray_toList, List.setIfInBounds_toArray, List.set_cons_zero, List.set_cons_succ]
          refine anyM_one (i := 12) (by kernel_rfl) rfl (fun K hK => ?_)
          go_simp
          have HG := Lib.hid (HG.out.set 5 (.int .i64 hv) (⟨1, z, ByteArray.empty, sz, 0, hv, 0, 0, 0, 0, 0⟩ : ItemV) rfl)
          clear y0 y1
          generalize World.setCell w51 _ _ = w52 at HG ⊢
          have hS0 : (fun w' : World => w'.rangeAt wq.heap.size 0 (sty zs).toList ∧ w'.cell? ⟨wq.heap.size, 83, none⟩ = some (.int .i64 md)) w52 := HSS.out _ _ _ _ HG.out
          have y0 : w52.cell? ⟨gX, 6, none⟩ = some (.int .i64 0) := HG.out.itm.cell 6
          have y1 : w52.frozen? ⟨gX, 6, none⟩ = false := HG.out.itm.free 6
          refine hK.out _ _ (fun _ => hS0) ?_
          clear hK K
          try simp only [Act.put, Array.toArray_toList, List.setIfInBounds_toArray, List.set_cons_zero, List.set_cons_succ]
          refine anyM_free (i := 13) (oi := { dst := some 108, op := _, type := _, pos := _, after := _, guard := _ }) (v := ?_) rfl (by kernel_rfl) (fun _ _ _ h => h) (Or.inl ⟨by kernel_rfl, ?_⟩) (fun _ => hS0) ?_
          rotate_left 1
          · (intro w hSw; (try dsimp only at hSw); go_simp; try with_reducible rfl)
          try simp only [Act.put, Array.toArray_toList, List.setIfInBounds_toArray, List.set_cons_zero, List.set_cons_succ]
          refine anyM_one (i := 14) (by kernel_rfl) rfl (fun K hK => ?_)
          go_simp
          have HG := Lib.hid (HG.out.set 6 (.int .i64 md) (⟨1, z, ByteArray.empty, sz, 0, hv, md, 0, 0, 0, 0⟩ : ItemV) rfl)
          clear y0 y1
          generalize World.setCell w52 _ _ = w53 at HG ⊢
          have hS0 : (fun w' : World => w'.rangeAt wq.heap.size 0 (sty zs).toList ∧ w'.cell? ⟨wq.heap.size, 83, none⟩ = some (.int .i64 md)) w53 := HSS.out _ _ _ _ HG.out
          refine hK.out _ _ (fun _ => hS0) ?_
          clear hK K
          try simp only [Act.put, Array.toArray_toList, List.setIfInBounds_toArray, List.set_cons_zero, List.set_cons_succ]
          refine anyM_done (by kernel_rfl) ?_ _
          refine NoPanic.normal ?_
          clear hS0 HSS
          have y0 : w53.cell? ⟨wq.heap.size, 88, none⟩ = some (.int .i64 k44) := HG.out.sty0.cell' 88 HP88.out
          have y1 : w53.cell? ⟨wq.heap.size, 89, none⟩ = some (.int .i64 n44) := HG.out.sty0.cell' 89 HP89.out
          have y2 : w53.cell? ⟨G.gR, 0, none⟩ = some (.int .i64 M.room) := HG.out.toRG.room
          go_upto_region 18 with (go_at_call 30; refine (HOF.out _).mono ?_; rintro e wv ⟨rfl, hba⟩; have HG := Lib.hid (HG.out.below hba); have y3 : wv.cell? ⟨gX, 4, none⟩ = some (.int .i64 0) := HG.out.itm.cell 4; have y4 : wv.frozen? ⟨gX, 4, none⟩ = false := HG.out.itm.free 4; clear hba)
          have HG := Lib.hid (HG.out.set 4 (.int .i64 sp) (⟨1, z, ByteArray.empty, sz, sp, hv, md, 0, 0, 0, 0⟩ : ItemV) rfl)
          clear y0 y1 y2 y3 y4
          generalize World.setCell wv _ _ = w54 at HG ⊢
          have y0 : w54.cell? ⟨wq.heap.size, 84, none⟩ = some (.int .i64 k42) := HG.out.sty0.cell' 84 HP84.out
          have y1 : w54.cell? ⟨wq.heap.size, 85, none⟩ = some (.int .i64 n42) := HG.out.sty0.cell' 85 HP85.out
          go_upto_region 19 with fail
          have y8 : (w54.alloc (.cells #[.int .i64 k42, .int .i64 n42] 26)).cell? ⟨w54.heap.size, 0, none⟩ = some (.int .i64 k42) := new_cell w54 _ _ 0
          have y9 : (w54.alloc (.cells #[.int .i64 k42, .int .i64 n42] 26)).cell? ⟨w54.heap.size, 1, none⟩ = some (.int .i64 n42) := new_cell w54 _ _ 1
          have HG := Lib.hid (HG.out.below (below_alloc (Below.refl _ _) (.cells #[.int .i64 k42, .int .i64 n42] 26)))
          generalize World.alloc w54 _ = w55 at HG y8 y9 ⊢
          clear y0 y1
          have y10 : w55.cell? ⟨gX, 7, none⟩ = some (.int .i64 0) := HG.out.itm.cell 7
          have y11 : w55.frozen? ⟨gX, 7, none⟩ = false := HG.out.itm.free 7
          go_upto_if 121 with fail
          go_cut [27] from 28 to 210 (fun v27 wx => v27 = .int .i64 (k : Nat) ∧ Hid (XG M B G v' out wq [(wq.heap.size, 28, sty zs)] gX (⟨1, z, ByteArray.empty, sz, sp, hv, md, sh, 0, 0, 0⟩ : ItemV) [] b wx))
          case first =>
            by_cases hk2 : k42 = 2
            · have q2 : (k42 == 2) = true := by simpa using hk2
              have HSE : Hid (cut n42 = sh) := by show _ = _; rw [HSHE.out, if_pos hk2]
              clear hk2
              go_wp2_with (go_at_call 29; refine (rcut_calls _ _).mono ?_; rintro e w' ⟨rfl, rfl⟩)
              have HG := Lib.hid (HG.out.set 7 (.int .i64 (cut n42)) (⟨1, z, ByteArray.empty, sz, sp, hv, md, cut n42, 0, 0, 0⟩ : ItemV) rfl)
              generalize World.setCell w55 _ _ = w56 at HG ⊢
              have HG : Hid (XG M B G v' out wq [(wq.heap.size, 28, sty zs)] gX (⟨1, z, ByteArray.empty, sz, sp, hv, md, sh, 0, 0, 0⟩ : ItemV) [] b w56) := by rw [← HSE.out]; exact HG
              go_meet
              case rel => exact ⟨rfl, HG⟩
            · have q2 : (k42 == 2) = false := by simpa using hk2
              have HSE : Hid ((0 : Int) = sh) := by show _ = _; rw [HSHE.out, if_neg hk2]
              clear hk2
              go_wp2_with fail
              have HG : Hid (XG M B G v' out wq [(wq.heap.size, 28, sty zs)] gX (⟨1, z, ByteArray.empty, sz, sp, hv, md, sh, 0, 0, 0⟩ : ItemV) [] b w55) := by rw [← HSE.out]; exact HG
              go_meet
              case rel => exact ⟨rfl, HG⟩
          case rest =>
            clear HG y8 y9 y10 y11
            obtain ⟨w6, rfl⟩ : ∃ x, x = wc := ⟨_, rfl⟩
            have HG : Hid (XG M B G v' out wq [] gX (⟨1, z, ByteArray.empty, sz, sp, hv, md, sh, 0, 0, 0⟩ : ItemV) [] b w6) := hcut.2.out.less
            obtain ⟨rfl, hcut2⟩ := hcut
            have HS3 : Hid (∀ X, XG M B G v' out wq [] gX (⟨1, z, ByteArray.empty, sz, sp, hv, md, sh, 0, 0, 0⟩ : ItemV) [] b X → X.cell? ⟨G.gB, 0, none⟩ = some (.slice (some ⟨bB, offB, none⟩) M.nb M.cb) ∧ X.cell? ⟨bB, offB + z * 5 + 4, none⟩ = some (.string tx) ∧ X.cell? ⟨gX, 6, none⟩ = some (.int .i64 md) ∧ X.cell? ⟨G.gK, 0, none⟩ = some (.bool b)) := fun X hX => HS3.out _ _ _ _ X hX rfl
            clear hcut2 HP83 HP84 HP85 HP88 HP89
            go_upto_region 21 with fail
            have HG := Lib.hid HG.out.drew
            have hS0 : (fun w' : World => w'.cell? ⟨G.gB, 0, none⟩ = some (.slice (some ⟨bB, offB, none⟩) M.nb M.cb) ∧ w'.cell? ⟨bB, offB + z * 5 + 4, none⟩ = some (.string tx) ∧ w'.cell? ⟨gX, 6, none⟩ = some (.int .i64 md) ∧ w'.cell? ⟨G.gK, 0, none⟩ = some (.bool b)) (World.drew w6) := HS3.out _ HG.out
            refine wp_region_noPanic ?_
            refine region_M (S := fun w' => w'.cell? ⟨G.gB, 0, none⟩ = some (.slice (some ⟨bB, offB, none⟩) M.nb M.cb) ∧ w'.cell? ⟨bB, offB + z * 5 + 4, none⟩ = some (.string tx) ∧ w'.cell? ⟨gX, 6, none⟩ = some (.int .i64 md) ∧ w'.cell? ⟨G.gK, 0, none⟩ = some (.bool b)) (T := []) (by kernel_rfl) ?_
            generalize World.drew w6 = wd at HG hS0 ⊢
            refine anyM_take (i := 0) (oi := { dst := some 127, op := _, type := _, pos := _, after := _, guard := _ }) (v := ?_) rfl (by kernel_rfl) (fun _ _ _ h => h) (Or.inl ⟨by kernel_rfl, ?_⟩) hS0 ?_
            rotate_left 1
            · (intro w hSw; (try dsimp only at hSw); go_simp; try with_reducible rfl)
            try simp only [Act.put, Array.toArray_toList, List.setIfInBounds_toArray, List.set_cons_zero, List.set_cons_succ]
            refine anyM_free (i := 1) (oi := { dst := some 128, op := _, type := _, pos := _, after := _, guard := _ }) (v := ?_) rfl (by kernel_rfl) (fun _ _ _ h => h) (Or.inl ⟨by kernel_rfl, ?_⟩) (fun _ => hS0) ?_
            rotate_left 1
            · (intro w hSw; (try dsimp only at hSw); go_simp; try with_reducible rfl)
            try simp only [Act.put, Array.toArray_toList, List.setIfInBounds_toArray, List.set_cons_zero, List.set_cons_succ]
            refine anyM_free (i := 2) (oi := { dst := some 129, op := _, type := _, pos := _, after := _, guard := _ }) (v := ?_) rfl (by kernel_rfl) (fun _ _ _ h => h) (Or.inl ⟨by kernel_rfl, ?_⟩) (fun _ => hS0) ?_
            rotate_left 1
            · (intro w hSw; (try dsimp only at hSw); go_simp; try with_reducible rfl)
            try simp only [Act.put, Array.toArray_toList, List.setIfInBounds_toArray, List.set_cons_zero, List.set_cons_succ]
            refine anyM_free (i := 3) (oi := { dst := some 130, op := _, type := _, pos := _, after := _, guard := _ }) (v := ?_) rfl (by kernel_rfl) (fun _ _ _ h => h) (Or.inl ⟨by kernel_rfl, ?_⟩) (fun _ => hS0) ?_
            rotate_left 1
            · (intro w hSw; (try dsimp only at hSw); go_simp; try with_reducible rfl)
            try simp only [Act.put, Array.toArray_toList, List.setIfInBounds_toArray, List.set_cons_zero, List.set_cons_succ]
            refine anyM_take (i := 4) (oi := { dst := some 131, op := _, type := _, pos := _, after := _, guard := _ }) (v := ?_) rfl (by kernel_rfl) (fun _ _ _ h => h) (Or.inl ⟨by kernel_rfl, ?_⟩) hS0 ?_
            rotate_left 1
            · (intro w hSw; (try dsimp only at hSw); go_simp; try with_reducible rfl)
            try simp only [Act.put, Array.toArray_toList, List.setIfInBounds_toArray, List.set_cons_zero, List.set_cons_succ]
            refine anyM_free (i := 5) (oi := { dst := some 132, op := _, type := _, pos := _, after := _, guard := _ }) (v := ?_) rfl (by kernel_rfl) (fun _ _ _ h => h) (Or.inl ⟨by kernel_rfl, ?_⟩) (fun _ => hS0) ?_
            rotate_left 1
            · (intro w hSw; (try dsimp only at hSw); go_simp; try with_reducible rfl)
            try simp only [Act.put, Array.toArray_toList, List.setIfInBounds_toArray, List.set_cons_zero, List.set_cons_succ]
            refine anyM_take (i := 6) (oi := { dst := some 133, op := _, type := _, pos := _, after := _, guard := _ }) (v := ?_) rfl (by kernel_rfl) (fun _ _ _ h => h) (Or.inl ⟨by kernel_rfl, ?_⟩) hS0 ?_
            rotate_left 1
            · (intro w hSw; (try dsimp only at hSw); go_simp; try with_reducible rfl)
            try simp only [Act.put, Array.toArray_toList, List.setIfInBounds_toArray, List.set_cons_zero, List.set_cons_succ]
            refine anyM_take (i := 7) (oi := { dst := some 134, op := _, type := _, pos := _, after := _, guard := _ }) (v := ?_) rfl (by kernel_rfl) (fun _ _ _ h => h) (Or.inl ⟨by kernel_rfl, ?_⟩) hS0 ?_
            rotate_left 1
            · (intro w hSw; (try dsimp only at hSw); go_simp; try with_reducible rfl)
            try simp only [Act.put, Array.toArray_toList, List.setIfInBounds_toArray, List.set_cons_zero, List.set_cons_succ]
            refine anyM_one (i := 8) (by kernel_rfl) rfl (fun K hK => ?_)
            go_simp
            refine (HCL.out _).mono ?_
            rintro e w9 ⟨rfl, hba⟩
            have HG := Lib.hid (HG.out.below hba)
            have hS0 : (fun w' : World => w'.cell? ⟨G.gB, 0, none⟩ = some (.slice (some ⟨bB, offB, none⟩) M.nb M.cb) ∧ w'.cell? ⟨bB, offB + z * 5 + 4, none⟩ = some (.string tx) ∧ w'.cell? ⟨gX, 6, none⟩ = some (.int .i64 md) ∧ w'.cell? ⟨G.gK, 0, none⟩ = some (.bool b)) w9 := HS3.out _ HG.out
            clear hba
            refine hK.out _ _ (fun _ => hS0) ?_
            clear hK K
            try simp only [Act.put, Array.toArray_toList, List.setIfInBounds_toArray, List.set_cons_zero, List.set_cons_succ]
            refine anyM_free (i := 9) (oi := { dst := some 126, op := _, type := _, pos := _, after := _, guard := _ }) (v := ?_) rfl (by kernel_rfl) (fun _ _ _ h => h) (Or.inl ⟨by kernel_rfl, ?_⟩) (fun _ => hS0) ?_
            rotate_left 1
            · (intro w hSw; (try dsimp only at hSw); go_simp; try with_reducible rfl)
            try simp only [Act.put, Array.toArray_toList, List.setIfInBounds_toArray, List.set_cons_zero, List.set_cons_succ]
            refine anyM_free (i := 10) (oi := { dst := some 136, op := _, type := _, pos := _, after := _, guard := _ }) (v := ?_) rfl (by kernel_rfl) (fun _ _ _ h => h) (Or.inl ⟨by kernel_rfl, ?_⟩) (fun _ => hS0) ?_
            rotate_left 1
            · (intro w hSw; (try dsimp only at hSw); go_simp; try with_reducible rfl)
            try simp only [Act.put, Array.toArray_toList, List.setIfInBounds_toArray, List.set_cons_zero, List.set_cons_succ]
            refine anyM_free (i := 11) (oi := { dst := some 137, op := _, type := _, pos := _, after := _, guard := _ }) (v := ?_) rfl (by kernel_rfl) (fun _ _ _ h => h) (Or.inl ⟨by kernel_rfl, ?_⟩) (fun _ => hS0) ?_
            rotate_left 1
            · (intro w hSw; (try dsimp only at hSw); go_simp; try with_reducible rfl)
            try simp only [Act.put, Array.toArray_toList, List.setIfInBounds_toArray, List.set_cons_zero, List.set_cons_succ]
            refine anyM_free (i := 12) (oi := { dst := some 17, op := _, type := _, pos := _, after := _, guard := _ }) (v := ?_) rfl (by kernel_rfl) (fun _ _ _ h => h) (Or.inl ⟨by kernel_rfl, ?_⟩) (fun _ => hS0) ?_
            rotate_left 1
            · (intro w hSw; (try dsimp only at hSw); go_simp; try with_reducible rfl)
            try simp only [Act.put, Array.toArray_toList, List.setIfInBounds_toArray, List.set_cons_zero, List.set_cons_succ]
            refine anyM_free (i := 13) (oi := { dst := some 18, op := _, type := _, pos := _, after := _, guard := _ }) (v := ?_) rfl (by kernel_rfl) (fun _ _ _ h => h) (Or.inl ⟨by kernel_rfl, ?_⟩) (fun _ => hS0) ?_
            rotate_left 1
            · (intro w hSw; (try dsimp only at hSw); go_simp; try with_reducible rfl)
            try simp only [Act.put, Array.toArray_toList, List.setIfInBounds_toArray, List.set_cons_zero, List.set_cons_succ]
            refine anyM_done (by kernel_rfl) ?_ _
            refine NoPanic.normal ?_
            clear hS0
            have hky : w9.cell? ⟨G.gK, 0, none⟩ = some (.bool b) ∧ w9.frozen? ⟨G.gK, 0, none⟩ = false := by
              obtain ⟨v2, ⟨h1, _, _⟩, _⟩ := HG.out.rst
              exact ⟨h1.bK.cell 0, h1.bK.free 0⟩
            obtain ⟨y2, y3⟩ := hky
            go_wp2_with fail
            have HG := Lib.hid (HG.out.blank rb)
            clear y2 y3 HS3
            generalize World.setCell w9 _ _ = w10 at HG ⊢
            go_loopw [17] (fun t wr => ∃ (s : ByteArray) (tX : ByteArray) (L : List ItemV) (b2 : Bool), t = .string s ∧ Hid (XG M B G v' out wq [] gX (⟨1, z, tX, sz, sp, hv, md, sh, 0, 0, 0⟩ : ItemV) L b2 wr) ∧ Hid (TX (⟨1, z, ByteArray.empty, sz, sp, hv, md, sh, 0, 0, 0⟩ : ItemV) (mustX z) rb kp (textI M z b, textB M z b) out.length s L b2)) (fun t _ => strLen t)
            case atStart => exact ⟨rt, ByteArray.empty, [], rb, rfl, HG, HT0⟩
            case round =>
              clear HG HT0 HCL HOF HSI HHI
              obtain ⟨s, tX, L, b2, rfl, HG, HT⟩ := hrel
              obtain ⟨wo, rfl⟩ : ∃ x, x = wr := ⟨_, rfl⟩
              by_cases hs0 : s.size = 0
              · have qe : s.toList.isEmpty = true := by
                  have : s = ⟨([] : List UInt8).toArray⟩ := by apply ByteArray.ext; exact Array.eq_empty_of_size_eq_zero hs0
                  rw [this, byteArray_toList]; rfl
                go_wp2_with fail
                go_roundw
                case rel => exact ⟨k + 1, by have := HKK.out; omega, by go_num, HNEXT.out _ ⟨L, b2, by rw [box_text HKD.out.symm, (HT.out.done hs0).1, (HT.out.done hs0).2], HG.out.toRG⟩⟩
                case measure => have := HKK.out; simp [intOf]; omega
              · have qe : s.toList.isEmpty = false := by
                  cases hq : s.toList.isEmpty
                  · rfl
                  · exfalso
                    have h1 : s.toList = [] := by simpa using hq
                    have h2 : s.toList.length = s.size := by
                      have : s = ⟨s.data.toList.toArray⟩ := rfl
                      rw [this, byteArray_toList]; rfl
                    rw [h1] at h2
                    exact hs0 h2.symm
                have hsz : s.size ≤ 2097151 := by have := HT.out.room; omega
                have HS0 := Lib.hid hs0
                clear hs0
                have y6 : wo.cell? ⟨gX, 6, none⟩ = some (.int .i64 md) := HG.out.itm.cell 6
                go_wp2_with fail
                go_loopw [19] (fun n wr => ∃ j : Nat, j ≤ s.size ∧ n = .int .i64 j ∧ wr = wo ∧ Hid (kp = true → ∀ i, (hi : i < s.size) → i < j → s[i] ≠ 10)) (fun n _ => s.size - (intOf n).toNat)
                case atStart => exact ⟨0, Nat.zero_le _, rfl, rfl, fun _ i _ hi => absurd hi (by omega)⟩
                case round =>
                  obtain ⟨j, hj, rfl, hwo, HNB⟩ := hrel
                  obtain rfl := hwo.symm
                  by_cases hjl : j < s.size
                  · cases hkc : kp
                    · rw [hkc] at HKP0 HNB HT
                      have HJ := Lib.hid (show j ≤ s.size ∧ j < s.size from ⟨hj, hjl⟩)
                      go_wp2_with (go_at_call 32; refine (HKP0.out _).mono ?_; rintro e w' ⟨rfl, rfl⟩)
                      go_roundw
                      case rel => exact ⟨j + 1, by omega, by go_num, (by first | rfl | trivial), fun h => by cases h⟩
                      case measure => simp [intOf]; omega
                    · rw [hkc] at HKP0 HNB HT
                      have HKC := Lib.hid hkc
                      clear hkc
                      obtain ⟨ch, hch⟩ : ∃ x, x = s[j] := ⟨_, rfl⟩
                      have HCH := Lib.hid hch
                      have hix : (s[j]'hjl) = ch := hch.symm
                      clear hch
                      by_cases hc : ch = 10
                      · have qc : (((ch.toNat : Nat) : Int) == 10) = true := by rw [hc]; rfl
                        have qc2 : (ch.toNat == 10) = true := by rw [hc]; rfl
                        have HC10 : Hid (s[j] = 10) := hix.trans hc
                        clear hc
                        have HRM : Hid (out.length + L.length ≤ 4194302) := by have := HT.out.room; show _ ≤ _; omega
                        by_cases hj0 : j = 0
                        · subst hj0
                          have HTN : Hid (TX (⟨1, z, ByteArray.empty, sz, sp, hv, md, sh, 0, 0, 0⟩ : ItemV) (mustX z) rb kp (textI M z b, textB M z b) out.length (s.extract (0 + 1) s.size) (L ++ [mustX z]) true) := by rw [HKC.out]; exact HT.out.bare hjl HC10.out
                          obtain ⟨wr, rfl⟩ : ∃ x, x = wo := ⟨_, rfl⟩
                          as_aux_lemma =>
                            go_upto_region 27 with (go_at_call 32; refine (HKP0.out _).mono ?_; rintro e w' ⟨rfl, rfl⟩)
                            go_upto_region 32 with fail
                            obtain ⟨A1, c1, ho1, hs1⟩ := HG.out.open_
                            obtain ⟨nO, hnO⟩ : ∃ x, x = (out ++ L).length := ⟨_, rfl⟩
                            rw [← hnO] at ho1 hs1
                            have HNO := Lib.hid hnO
                            have hnb : nO ≤ 4194302 := by rw [hnO, List.length_append]; exact HRM.out
                            have HO := Lib.hid ho1
                            have HKP := Lib.hid HG.out.keep
                            have HXI := Lib.hid HG.out.itm
                            have HXB := Lib.hid HG.out.hX
                            have HOW : Hid (wr.ownsRow B 40 11 (.slice A1 nO c1) nO (items (out ++ L))) := by show World.ownsRow _ _ _ _ _ _ _; have := HO.out.1.1.own; rwa [← HNO.out] at this
                            have HBA : Hid (Below wr.heap.size wr (wr.alloc (.cells (itemC (mustX z)) 40))) := below_alloc (Below.refl _ _) _
                            clear ho1 hnO HG
                            go_upto_region 33 with (first | (refine wpList_sliceOne rfl 30 40 _ rfl (itemC (mustX z)) rfl i1 (.agg #[.int .i64 0, .int .i64 0, .string ⟨#[]⟩, .int .i64 0, .int .i64 0, .int .i64 0, .int .i64 0, .int .i64 0, .int .i64 0, .int .i64 0, .int .i64 0]) Tryd.underlying30 hib hzb0 hzb1 (show (0 : Nat) < 11 by omega) (show (11 : Nat) ≤ 1000 by omega) wr.heap.size rfl ?_; simp only [Act.put, List.setIfInBounds_toArray, List.set_cons_zero, List.set_cons_succ]) | (at_builtin; refine wpList_append_any rfl _ _ 30 rfl B 40 i1 (.agg #[.int .i64 0, .int .i64 0, .string ⟨#[]⟩, .int .i64 0, .int .i64 0, .int .i64 0, .int .i64 0, .int .i64 0, .int .i64 0, .int .i64 0, .int .i64 0]) 11 96 Tryd.underlying30 hib hzb0 hzb1 hzb2 rfl (by decide) (.slice A1 nO c1) nO (items (out ++ L)) rfl (own_below HOW.out HBA.out) (some ⟨wr.heap.size, 0, none⟩) 1 1 (items [(mustX z)]) rfl (by simp [items, itemF, itemC, mustX, ItemV.zero]) (.inl ⟨wr.heap.size, 0, rfl, blk_item (Blk.new _ _ _)⟩) (items_one _) (by unfold maxLen; omega) (by omega) (Nat.le_trans HO.out.1.1.hB HBA.out.size) ?_; intro A8 c8 w8 o8 hg8 hat8; have HP := Lib.hid (XG.pushed (y := (mustX z)) HO.out HXI.out HXB.out HKP.out HBA.out (by rw [← HNO.out]; exact o8) hg8 hat8); have hb9 := blk_grown (HO.out.1.1.below HBA.out).bO hg8 (blk_ne (HO.out.1.1.below HBA.out).bO (HO.out.1.1.below HBA.out).own (by decide)); have s5 : w8.cell? ⟨G.gO, 0, none⟩ = some (.slice A1 nO c1) := hb9.cell 0; have z5 : w8.frozen? ⟨G.gO, 0, none⟩ = false := hb9.free 0; clear o8 hg8 hat8 hb9; simp only [Act.put, List.setIfInBounds_toArray, List.set_cons_zero, List.set_cons_succ]))
                            clear s5 z5 HXI HXB HOW HBA HKP HO hs1 hnb HNO
                            have HG := HP
                            clear HP
                            generalize World.setCell w8 _ _ = w63 at HG ⊢
                            have hky : w63.cell? ⟨G.gK, 0, none⟩ = some (.bool b2) ∧ w63.frozen? ⟨G.gK, 0, none⟩ = false := by
                              obtain ⟨v2, ⟨h1, _, _⟩, _⟩ := HG.out.rst
                              exact ⟨h1.bK.cell 0, h1.bK.free 0⟩
                            obtain ⟨y2, y3⟩ := hky
                            go_upto_region 34 with fail
                            clear y2 y3
                            have HG := Lib.hid (HG.out.blank true)
                            generalize World.setCell w63 _ _ = w64 at HG ⊢
                            go_wp2_with fail
                            go_roundw
                            case rel => exact ⟨_, _, _, _, rfl, HG, HTN⟩
                            case measure => first | (simp only [strLen, ByteArray.size_extract]; omega) | (simp [strLen]; omega)
                        · have hj1 : 0 < j := by omega
                          have HTN : Hid (TX (⟨1, z, ByteArray.empty, sz, sp, hv, md, sh, 0, 0, 0⟩ : ItemV) (mustX z) rb kp (textI M z b, textB M z b) out.length (s.extract (j + 1) s.size) (L ++ [(⟨1, z, (s.extract 0 j), sz, sp, hv, md, sh, 0, 0, 0⟩ : ItemV)] ++ [mustX z]) true) := by rw [HKC.out]; exact HT.out.piece hjl hj1 HC10.out (HNB.out (by first | rfl | trivial))
                          have HRM2 : Hid (out.length + (L ++ [(⟨1, z, (s.extract 0 j), sz, sp, hv, md, sh, 0, 0, 0⟩ : ItemV)]).length ≤ 4194302) := by
                            have := HT.out.room
                            show _ ≤ _
                            rw [List.length_append, List.length_singleton]
                            omega
                          obtain ⟨wr, rfl⟩ : ∃ x, x = wo := ⟨_, rfl⟩
                          as_aux_lemma =>
                            go_upto_region 27 with (go_at_call 32; refine (HKP0.out _).mono ?_; rintro e w' ⟨rfl, rfl⟩)
                            go_upto_region 28 with fail
                            have y0 : wr.cell? ⟨gX, 2, none⟩ = some (.string tX) := HG.out.itm.cell 2
                            have y1 : wr.frozen? ⟨gX, 2, none⟩ = false := HG.out.itm.free 2
                            go_upto_region 29 with fail
                            have HG := Lib.hid (HG.out.set 2 (.string (s.extract 0 j)) (⟨1, z, (s.extract 0 j), sz, sp, hv, md, sh, 0, 0, 0⟩ : ItemV) rfl)
                            clear y0 y1
                            generalize World.setCell wr _ _ = w60 at HG ⊢
                            obtain ⟨A1, c1, ho1, hs1⟩ := HG.out.open_
                            obtain ⟨nO, hnO⟩ : ∃ x, x = (out ++ L).length := ⟨_, rfl⟩
                            rw [← hnO] at ho1 hs1
                            have HNO := Lib.hid hnO
                            have hnb : nO ≤ 4194302 := by rw [hnO, List.length_append]; exact HRM.out
                            have HO := Lib.hid ho1
                            have HKP := Lib.hid HG.out.keep
                            have HXI := Lib.hid HG.out.itm
                            have HXB := Lib.hid HG.out.hX
                            have HOW : Hid (w60.ownsRow B 40 11 (.slice A1 nO c1) nO (items (out ++ L))) := by show World.ownsRow _ _ _ _ _ _ _; have := HO.out.1.1.own; rwa [← HNO.out] at this
                            have HBA : Hid (Below w60.heap.size w60 (w60.alloc (.cells (itemC (⟨1, z, (s.extract 0 j), sz, sp, hv, md, sh, 0, 0, 0⟩ : ItemV)) 40))) := below_alloc (Below.refl _ _) _
                            clear ho1 hnO HG
                            go_upto_region 30 with (first | (refine wpList_load_rowI 40 _ rfl gX rfl 40 (itemC (⟨1, z, (s.extract 0 j), sz, sp, hv, md, sh, 0, 0, 0⟩ : ItemV)) (0, 0) _ HXI.out Tryd.underlying40 rfl (by kernel_rfl) (by kernel_rfl) ?_) | (refine wpList_sliceOne rfl 30 40 _ rfl (itemC (⟨1, z, (s.extract 0 j), sz, sp, hv, md, sh, 0, 0, 0⟩ : ItemV)) rfl i1 (.agg #[.int .i64 0, .int .i64 0, .string ⟨#[]⟩, .int .i64 0, .int .i64 0, .int .i64 0, .int .i64 0, .int .i64 0, .int .i64 0, .int .i64 0, .int .i64 0]) Tryd.underlying30 hib hzb0 hzb1 (show (0 : Nat) < 11 by omega) (show (11 : Nat) ≤ 1000 by omega) w60.heap.size rfl ?_; simp only [Act.put, List.setIfInBounds_toArray, List.set_cons_zero, List.set_cons_succ]) | (at_builtin; refine wpList_append_any rfl _ _ 30 rfl B 40 i1 (.agg #[.int .i64 0, .int .i64 0, .string ⟨#[]⟩, .int .i64 0, .int .i64 0, .int .i64 0, .int .i64 0, .int .i64 0, .int .i64 0, .int .i64 0, .int .i64 0]) 11 96 Tryd.underlying30 hib hzb0 hzb1 hzb2 rfl (by decide) (.slice A1 nO c1) nO (items (out ++ L)) rfl (own_below HOW.out HBA.out) (some ⟨w60.heap.size, 0, none⟩) 1 1 (items [(⟨1, z, (s.extract 0 j), sz, sp, hv, md, sh, 0, 0, 0⟩ : ItemV)]) rfl (by simp [items, itemF, itemC, mustX, ItemV.zero]) (.inl ⟨w60.heap.size, 0, rfl, blk_item (Blk.new _ _ _)⟩) (items_one _) (by unfold maxLen; omega) (by omega) (Nat.le_trans HO.out.1.1.hB HBA.out.size) ?_; intro A8 c8 w8 o8 hg8 hat8; have HP := Lib.hid (XG.pushed (y := (⟨1, z, (s.extract 0 j), sz, sp, hv, md, sh, 0, 0, 0⟩ : ItemV)) HO.out HXI.out HXB.out HKP.out HBA.out (by rw [← HNO.out]; exact o8) hg8 hat8); have hb9 := blk_grown (HO.out.1.1.below HBA.out).bO hg8 (blk_ne (HO.out.1.1.below HBA.out).bO (HO.out.1.1.below HBA.out).own (by decide)); have s5 : w8.cell? ⟨G.gO, 0, none⟩ = some (.slice A1 nO c1) := hb9.cell 0; have z5 : w8.frozen? ⟨G.gO, 0, none⟩ = false := hb9.free 0; clear o8 hg8 hat8 hb9; simp only [Act.put, List.setIfInBounds_toArray, List.set_cons_zero, List.set_cons_succ]))
                            clear s5 z5 HXI HXB HOW HBA HKP HO hs1 hnb HNO
                            have HG := HP
                            clear HP
                            generalize World.setCell w8 _ _ = w61 at HG ⊢
                            have hky : w61.cell? ⟨G.gK, 0, none⟩ = some (.bool b2) ∧ w61.frozen? ⟨G.gK, 0, none⟩ = false := by
                              obtain ⟨v2, ⟨h1, _, _⟩, _⟩ := HG.out.rst
                              exact ⟨h1.bK.cell 0, h1.bK.free 0⟩
                            obtain ⟨y2, y3⟩ := hky
                            go_upto_region 31 with fail
                            clear y2 y3
                            have HG := Lib.hid (HG.out.blank rb)
                            generalize World.setCell w61 _ _ = w62 at HG ⊢
                            go_upto_region 32 with fail
                            have HRM : Hid (out.length + (L ++ [(⟨1, z, (s.extract 0 j), sz, sp, hv, md, sh, 0, 0, 0⟩ : ItemV)]).length ≤ 4194302) := HRM2.out
                            obtain ⟨A1, c1, ho1, hs1⟩ := HG.out.open_
                            obtain ⟨nO, hnO⟩ : ∃ x, x = (out ++ (L ++ [(⟨1, z, (s.extract 0 j), sz, sp, hv, md, sh, 0, 0, 0⟩ : ItemV)])).length := ⟨_, rfl⟩
                            rw [← hnO] at ho1 hs1
                            have HNO := Lib.hid hnO
                            have hnb : nO ≤ 4194302 := by rw [hnO, List.length_append]; exact HRM.out
                            have HO := Lib.hid ho1
                            have HKP := Lib.hid HG.out.keep
                            have HXI := Lib.hid HG.out.itm
                            have HXB := Lib.hid HG.out.hX
                            have HOW : Hid (w62.ownsRow B 40 11 (.slice A1 nO c1) nO (items (out ++ (L ++ [(⟨1, z, (s.extract 0 j), sz, sp, hv, md, sh, 0, 0, 0⟩ : ItemV)])))) := by show World.ownsRow _ _ _ _ _ _ _; have := HO.out.1.1.own; rwa [← HNO.out] at this
                            have HBA : Hid (Below w62.heap.size w62 (w62.alloc (.cells (itemC (mustX z)) 40))) := below_alloc (Below.refl _ _) _
                            clear ho1 hnO HG
                            go_upto_region 33 with (first | (refine wpList_sliceOne rfl 30 40 _ rfl (itemC (mustX z)) rfl i1 (.agg #[.int .i64 0, .int .i64 0, .string ⟨#[]⟩, .int .i64 0, .int .i64 0, .int .i64 0, .int .i64 0, .int .i64 0, .int .i64 0, .int .i64 0, .int .i64 0]) Tryd.underlying30 hib hzb0 hzb1 (show (0 : Nat) < 11 by omega) (show (11 : Nat) ≤ 1000 by omega) w62.heap.size rfl ?_; simp only [Act.put, List.setIfInBounds_toArray, List.set_cons_zero, List.set_cons_succ]) | (at_builtin; refine wpList_append_any rfl _ _ 30 rfl B 40 i1 (.agg #[.int .i64 0, .int .i64 0, .string ⟨#[]⟩, .int .i64 0, .int .i64 0, .int .i64 0, .int .i64 0, .int .i64 0, .int .i64 0, .int .i64 0, .int .i64 0]) 11 96 Tryd.underlying30 hib hzb0 hzb1 hzb2 rfl (by decide) (.slice A1 nO c1) nO (items (out ++ (L ++ [(⟨1, z, (s.extract 0 j), sz, sp, hv, md, sh, 0, 0, 0⟩ : ItemV)]))) rfl (own_below HOW.out HBA.out) (some ⟨w62.heap.size, 0, none⟩) 1 1 (items [(mustX z)]) rfl (by simp [items, itemF, itemC, mustX, ItemV.zero]) (.inl ⟨w62.heap.size, 0, rfl, blk_item (Blk.new _ _ _)⟩) (items_one _) (by unfold maxLen; omega) (by omega) (Nat.le_trans HO.out.1.1.hB HBA.out.size) ?_; intro A8 c8 w8 o8 hg8 hat8; have HP := Lib.hid (XG.pushed (y := (mustX z)) HO.out HXI.out HXB.out HKP.out HBA.out (by rw [← HNO.out]; exact o8) hg8 hat8); have hb9 := blk_grown (HO.out.1.1.below HBA.out).bO hg8 (blk_ne (HO.out.1.1.below HBA.out).bO (HO.out.1.1.below HBA.out).own (by decide)); have s5 : w8.cell? ⟨G.gO, 0, none⟩ = some (.slice A1 nO c1) := hb9.cell 0; have z5 : w8.frozen? ⟨G.gO, 0, none⟩ = false := hb9.free 0; clear o8 hg8 hat8 hb9; simp only [Act.put, List.setIfInBounds_toArray, List.set_cons_zero, List.set_cons_succ]))
                            clear s5 z5 HXI HXB HOW HBA HKP HO hs1 hnb HNO
                            have HG := HP
                            clear HP
                            generalize World.setCell w8 _ _ = w63 at HG ⊢
                            have hky : w63.cell? ⟨G.gK, 0, none⟩ = some (.bool rb) ∧ w63.frozen? ⟨G.gK, 0, none⟩ = false := by
                              obtain ⟨v2, ⟨h1, _, _⟩, _⟩ := HG.out.rst
                              exact ⟨h1.bK.cell 0, h1.bK.free 0⟩
                            obtain ⟨y2, y3⟩ := hky
                            go_upto_region 34 with fail
                            clear y2 y3
                            have HG := Lib.hid (HG.out.blank true)
                            generalize World.setCell w63 _ _ = w64 at HG ⊢
                            go_wp2_with fail
                            go_roundw
                            case rel => exact ⟨_, _, _, _, rfl, HG, HTN⟩
                            case measure => first | (simp only [strLen, ByteArray.size_extract]; omega) | (simp [strLen]; omega)
                      · have qc : (((ch.toNat : Nat) : Int) == 10) = false := by
                          have : ch.toNat ≠ 10 := fun e => hc (UInt8.toNat_inj.1 e)
                          simp; omega
                        have qc2 : (ch.toNat == 10) = false := by
                          have : ch.toNat ≠ 10 := fun e => hc (UInt8.toNat_inj.1 e)
                          simpa using this
                        have HNC : Hid (s[j] ≠ 10) := fun e => hc (hix.symm.trans e)
                        clear hc
                        go_wp2_with (go_at_call 32; refine (HKP0.out _).mono ?_; rintro e w' ⟨rfl, rfl⟩)
                        go_roundw
                        case rel => exact ⟨j + 1, by omega, by go_num, (by first | rfl | trivial), fun _ i hi hij => by
                          by_cases e : i = j
                          · subst e; exact HNC.out
                          · exact HNB.out (by first | rfl | trivial) i hi (by omega)⟩
                        case measure => simp [intOf]; omega
                  · obtain rfl : j = s.size := by omega
                    have hj1 : 0 < s.size := by have := HS0.out; omega
                    have HRM : Hid (out.length + L.length ≤ 4194302) := by have := HT.out.room; show _ ≤ _; omega
                    have HTN : Hid (∀ s' : ByteArray, s'.size = 0 → TX (⟨1, z, ByteArray.empty, sz, sp, hv, md, sh, 0, 0, 0⟩ : ItemV) (mustX z) rb kp (textI M z b, textB M z b) out.length s' (L ++ [(⟨1, z, s, sz, sp, hv, md, sh, 0, 0, 0⟩ : ItemV)]) rb) := fun s' hz => HT.out.last hj1 (fun h i hi _ => HNB.out h i hi hi) s' hz
                    have qi : decide ((s.size : Int) < (s.size : Int)) = false := decide_eq_false (by omega)
                    have qi2 : decide (s.size < s.size) = false := decide_eq_false (by omega)
                    obtain ⟨wr, rfl⟩ : ∃ x, x = wo := ⟨_, rfl⟩
                    as_aux_lemma =>
                      go_upto_region 27 with fail
                      go_upto_region 28 with fail
                      have y0 : wr.cell? ⟨gX, 2, none⟩ = some (.string tX) := HG.out.itm.cell 2
                      have y1 : wr.frozen? ⟨gX, 2, none⟩ = false := HG.out.itm.free 2
                      go_upto_region 29 with fail
                      have HG := Lib.hid (HG.out.set 2 (.string s) (⟨1, z, s, sz, sp, hv, md, sh, 0, 0, 0⟩ : ItemV) rfl)
                      clear y0 y1
                      generalize World.setCell wr _ _ = w60 at HG ⊢
                      obtain ⟨A1, c1, ho1, hs1⟩ := HG.out.open_
                      obtain ⟨nO, hnO⟩ : ∃ x, x = (out ++ L).length := ⟨_, rfl⟩
                      rw [← hnO] at ho1 hs1
                      have HNO := Lib.hid hnO
                      have hnb : nO ≤ 4194302 := by rw [hnO, List.length_append]; exact HRM.out
                      have HO := Lib.hid ho1
                      have HKP := Lib.hid HG.out.keep
                      have HXI := Lib.hid HG.out.itm
                      have HXB := Lib.hid HG.out.hX
                      have HOW : Hid (w60.ownsRow B 40 11 (.slice A1 nO c1) nO (items (out ++ L))) := by show World.ownsRow _ _ _ _ _ _ _; have := HO.out.1.1.own; rwa [← HNO.out] at this
                      have HBA : Hid (Below w60.heap.size w60 (w60.alloc (.cells (itemC (⟨1, z, s, sz, sp, hv, md, sh, 0, 0, 0⟩ : ItemV)) 40))) := below_alloc (Below.refl _ _) _
                      clear ho1 hnO HG
                      go_upto_region 30 with (first | (refine wpList_load_rowI 40 _ rfl gX rfl 40 (itemC (⟨1, z, s, sz, sp, hv, md, sh, 0, 0, 0⟩ : ItemV)) (0, 0) _ HXI.out Tryd.underlying40 rfl (by kernel_rfl) (by kernel_rfl) ?_) | (refine wpList_sliceOne rfl 30 40 _ rfl (itemC (⟨1, z, s, sz, sp, hv, md, sh, 0, 0, 0⟩ : ItemV)) rfl i1 (.agg #[.int .i64 0, .int .i64 0, .string ⟨#[]⟩, .int .i64 0, .int .i64 0, .int .i64 0, .int .i64 0, .int .i64 0, .int .i64 0, .int .i64 0, .int .i64 0]) Tryd.underlying30 hib hzb0 hzb1 (show (0 : Nat) < 11 by omega) (show (11 : Nat) ≤ 1000 by omega) w60.heap.size rfl ?_; simp only [Act.put, List.setIfInBounds_toArray, List.set_cons_zero, List.set_cons_succ]) | (at_builtin; refine wpList_append_any rfl _ _ 30 rfl B 40 i1 (.agg #[.int .i64 0, .int .i64 0, .string ⟨#[]⟩, .int .i64 0, .int .i64 0, .int .i64 0, .int .i64 0, .int .i64 0, .int .i64 0, .int .i64 0, .int .i64 0]) 11 96 Tryd.underlying30 hib hzb0 hzb1 hzb2 rfl (by decide) (.slice A1 nO c1) nO (items (out ++ L)) rfl (own_below HOW.out HBA.out) (some ⟨w60.heap.size, 0, none⟩) 1 1 (items [(⟨1, z, s, sz, sp, hv, md, sh, 0, 0, 0⟩ : ItemV)]) rfl (by simp [items, itemF, itemC, mustX, ItemV.zero]) (.inl ⟨w60.heap.size, 0, rfl, blk_item (Blk.new _ _ _)⟩) (items_one _) (by unfold maxLen; omega) (by omega) (Nat.le_trans HO.out.1.1.hB HBA.out.size) ?_; intro A8 c8 w8 o8 hg8 hat8; have HP := Lib.hid (XG.pushed (y := (⟨1, z, s, sz, sp, hv, md, sh, 0, 0, 0⟩ : ItemV)) HO.out HXI.out HXB.out HKP.out HBA.out (by rw [← HNO.out]; exact o8) hg8 hat8); have hb9 := blk_grown (HO.out.1.1.below HBA.out).bO hg8 (blk_ne (HO.out.1.1.below HBA.out).bO (HO.out.1.1.below HBA.out).own (by decide)); have s5 : w8.cell? ⟨G.gO, 0, none⟩ = some (.slice A1 nO c1) := hb9.cell 0; have z5 : w8.frozen? ⟨G.gO, 0, none⟩ = false := hb9.free 0; clear o8 hg8 hat8 hb9; simp only [Act.put, List.setIfInBounds_toArray, List.set_cons_zero, List.set_cons_succ]))
                      clear s5 z5 HXI HXB HOW HBA HKP HO hs1 hnb HNO
                      have HG := HP
                      clear HP
                      generalize World.setCell w8 _ _ = w61 at HG ⊢
                      have hky : w61.cell? ⟨G.gK, 0, none⟩ = some (.bool b2) ∧ w61.frozen? ⟨G.gK, 0, none⟩ = false := by
                        obtain ⟨v2, ⟨h1, _, _⟩, _⟩ := HG.out.rst
                        exact ⟨h1.bK.cell 0, h1.bK.free 0⟩
                      obtain ⟨y2, y3⟩ := hky
                      go_upto_region 31 with fail
                      clear y2 y3
                      have HG := Lib.hid (HG.out.blank rb)
                      generalize World.setCell w61 _ _ = w62 at HG ⊢
                      go_wp2_with fail
                      go_roundw
                      case rel => exact ⟨_, _, _, _, rfl, HG, HTN.out _ (by first | rfl | simp)⟩
                      case measure => first | (simp only [strLen, ByteArray.size_extract]; omega) | (simp [strLen]; omega)
      have q4 : (kd == 4) = false := by simpa using h4
      have p5 : (sty zs)[5]? = some (.int .i64 (stN zs 2)) := sty_at zs 5 (by rw [HZZ.out]; omega)
      have p84 : (sty zs)[84]? = some (.int .i64 (stK zs 42)) := sty_at zs 84 (by rw [HZZ.out]; omega)
      have p85 : (sty zs)[85]? = some (.int .i64 (stN zs 42)) := sty_at zs 85 (by rw [HZZ.out]; omega)
      obtain ⟨oN, hoN⟩ : ∃ x, x = outL zs := ⟨_, rfl⟩
      have HOUT : Hid (∀ w, Calls Tryd.prog 33 #[.agg (sty zs)] w fun e w' => e = .returned (.int .i64 oN) ∧ Below w.heap.size w w') := fun w => by rw [hoN]; exact rOut_calls zs HZZ.out w
      obtain ⟨fl, hfl⟩ : ∃ x, x = stN zs 2 := ⟨_, rfl⟩
      obtain ⟨k42, hk42⟩ : ∃ x, x = stK zs 42 := ⟨_, rfl⟩
      obtain ⟨n42, hn42⟩ : ∃ x, x = stN zs 42 := ⟨_, rfl⟩
      rw [← hfl] at p5
      rw [← hk42] at p84
      rw [← hn42] at p85
      have HP5 := Lib.hid p5
      have HP84 := Lib.hid p84
      have HP85 := Lib.hid p85
      have HON := Lib.hid hoN
      have HFL := Lib.hid hfl
      have HK42 := Lib.hid hk42
      have HN42 := Lib.hid hn42
      clear p5 p84 p85 hoN hfl hk42 hn42
      have HLN : Hid ((out ++ ([] : List ItemV)).length + 1 ≤ 4194304) := by
        show _ ≤ _
        have h1 := HCO.out
        have h2 : 2 ≤ ownC M.bs z := by unfold ownC; omega
        rw [List.append_nil]
        omega
      by_cases h5 : kd = 5
      · skip
        as_aux_lemma =>
          subst h5
          go_upto_region 6 with fail
          obtain ⟨w5, hw5⟩ : ∃ x, x = w4 := ⟨_, rfl⟩
          rw [← hw5] at HG ⊢
          clear hw5
          have y0 : w5.cell? ⟨gX, 0, none⟩ = some (.int .i64 0) := HG.out.itm.cell 0
          have y1 : w5.frozen? ⟨gX, 0, none⟩ = false := HG.out.itm.free 0
          have hky : w5.cell? ⟨G.gK, 0, none⟩ = some (.bool b) ∧ w5.frozen? ⟨G.gK, 0, none⟩ = false ∧ G.gK ≠ gX := by
            obtain ⟨v2, ⟨h1, _, _⟩, _⟩ := HG.out.rst
            exact ⟨h1.bK.cell 0, h1.bK.free 0, blk_diff h1.bK HG.out.itm (by decide)⟩
          obtain ⟨y2, y3, y4⟩ := hky
          have y5 : gX ≠ G.gK := y4.symm
          go_upto_region 7 with fail
          have HG := Lib.hid ((HG.out.set 0 (.int .i64 4) (⟨4, z, ByteArray.empty, 0, 0, 0, 0, 0, 0, 0, 0⟩ : ItemV) rfl).blank false)
          clear y0 y1 y2 y3 y4 y5
          generalize World.setCell (World.setCell w5 _ _) _ _ = w6 at HG ⊢
          have y6 : w6.cell? ⟨wq.heap.size, 84, none⟩ = some (.int .i64 k42) := HG.out.sty0.cell' 84 HP84.out
          have y7 : w6.cell? ⟨wq.heap.size, 85, none⟩ = some (.int .i64 n42) := HG.out.sty0.cell' 85 HP85.out
          go_upto_region 8 with fail
          have y8 : (w6.alloc (.cells #[.int .i64 k42, .int .i64 n42] 26)).cell? ⟨w6.heap.size, 0, none⟩ = some (.int .i64 k42) := new_cell w6 _ _ 0
          have y9 : (w6.alloc (.cells #[.int .i64 k42, .int .i64 n42] 26)).cell? ⟨w6.heap.size, 1, none⟩ = some (.int .i64 n42) := new_cell w6 _ _ 1
          have HG := Lib.hid (HG.out.below (below_alloc (Below.refl _ _) (.cells #[.int .i64 k42, .int .i64 n42] 26)))
          generalize World.alloc w6 _ = w7 at HG y8 y9 ⊢
          clear y6 y7
          by_cases hk2 : k42 = 2
          · have q2 : (k42 == 2) = true := by simpa using hk2
            have HSE : Hid (cut n42 = shiftN (rowL M.lz z)) := by show _ = _; unfold shiftN; rw [← HZS.out, ← HK42.out, ← HN42.out, if_pos hk2]
            have y10 : w7.cell? ⟨gX, 7, none⟩ = some (.int .i64 0) := HG.out.itm.cell 7
            have y11 : w7.frozen? ⟨gX, 7, none⟩ = false := HG.out.itm.free 7
            clear hk2
            go_upto_region 40 with (go_at_call 29; refine (rcut_calls _ _).mono ?_; rintro e w' ⟨rfl, rfl⟩)
            have HG := Lib.hid (HG.out.set 7 (.int .i64 (cut n42)) (⟨4, z, ByteArray.empty, 0, 0, 0, 0, cut n42, 0, 0, 0⟩ : ItemV) rfl)
            generalize World.setCell w7 _ _ = w8q at HG ⊢
            clear y8 y9 y10 y11
            obtain ⟨A1, c1, ho1, hs1⟩ := HG.out.open_
            obtain ⟨nO, hnO⟩ : ∃ x, x = (out ++ ([] : List ItemV)).length := ⟨_, rfl⟩
            rw [← hnO] at ho1 hs1
            have HNO := Lib.hid hnO
            have hnb : nO ≤ 4194303 := by have := HLN.out; omega
            have HO := Lib.hid ho1
            have HKP := Lib.hid HG.out.keep
            have HXI := Lib.hid HG.out.itm
            have HXB := Lib.hid HG.out.hX
            have HOW : Hid (w8q.ownsRow B 40 11 (.slice A1 nO c1) nO (items (out ++ ([] : List ItemV)))) := by show World.ownsRow _ _ _ _ _ _ _; have := HO.out.1.1.own; rwa [← HNO.out] at this
            have HBA : Hid (Below w8q.heap.size w8q (w8q.alloc (.cells (itemC (⟨4, z, ByteArray.empty, 0, 0, 0, 0, cut n42, 0, 0, 0⟩ : ItemV)) 40))) := below_alloc (Below.refl _ _) _
            clear ho1 hnO HG
            go_upto_region 41 with (first | (refine wpList_load_rowI 40 _ rfl gX rfl 40 (itemC (⟨4, z, ByteArray.empty, 0, 0, 0, 0, cut n42, 0, 0, 0⟩ : ItemV)) (0, 0) _ HXI.out Tryd.underlying40 rfl (by kernel_rfl) (by kernel_rfl) ?_) | (refine wpList_sliceOne rfl 30 40 _ rfl (itemC (⟨4, z, ByteArray.empty, 0, 0, 0, 0, cut n42, 0, 0, 0⟩ : ItemV)) rfl i1 (.agg #[.int .i64 0, .int .i64 0, .string ⟨#[]⟩, .int .i64 0, .int .i64 0, .int .i64 0, .int .i64 0, .int .i64 0, .int .i64 0, .int .i64 0, .int .i64 0]) Tryd.underlying30 hib hzb0 hzb1 (show (0 : Nat) < 11 by omega) (show (11 : Nat) ≤ 1000 by omega) w8q.heap.size rfl ?_; simp only [Act.put, List.setIfInBounds_toArray, List.set_cons_zero, List.set_cons_succ]) | (at_builtin; refine wpList_append_any rfl _ _ 30 rfl B 40 i1 (.agg #[.int .i64 0, .int .i64 0, .string ⟨#[]⟩, .int .i64 0, .int .i64 0, .int .i64 0, .int .i64 0, .int .i64 0, .int .i64 0, .int .i64 0, .int .i64 0]) 11 96 Tryd.underlying30 hib hzb0 hzb1 hzb2 rfl (by decide) (.slice A1 nO c1) nO (items (out ++ ([] : List ItemV))) rfl (own_below HOW.out HBA.out) (some ⟨w8q.heap.size, 0, none⟩) 1 1 (items [(⟨4, z, ByteArray.empty, 0, 0, 0, 0, cut n42, 0, 0, 0⟩ : ItemV)]) rfl (by simp [items, itemF, itemC]) (.inl ⟨w8q.heap.size, 0, rfl, blk_item (Blk.new _ _ _)⟩) (items_one _) (by unfold maxLen; omega) (by omega) (Nat.le_trans HO.out.1.1.hB HBA.out.size) ?_; intro A8 c8 w8 o8 hg8 hat8; have HP := Lib.hid (RG.pushed (x := (⟨4, z, ByteArray.empty, 0, 0, 0, 0, cut n42, 0, 0, 0⟩ : ItemV)) HO.out.1 HKP.out HBA.out (by rw [← HNO.out]; exact o8) hg8 hat8); have hb9 := blk_grown (HO.out.1.1.below HBA.out).bO hg8 (blk_ne (HO.out.1.1.below HBA.out).bO (HO.out.1.1.below HBA.out).own (by decide)); have s5 : w8.cell? ⟨G.gO, 0, none⟩ = some (.slice A1 nO c1) := hb9.cell 0; have z5 : w8.frozen? ⟨G.gO, 0, none⟩ = false := hb9.free 0; clear o8 hg8 hat8 hb9; simp only [Act.put, List.setIfInBounds_toArray, List.set_cons_zero, List.set_cons_succ]))
            go_wp2_with fail
            go_roundw
            case rel => exact ⟨k + 1, by have := HKK.out; omega, by go_num, HNEXT.out _ ⟨_, _, by show boxW M (u + 1) z b = _; rw [box_atom (by rw [← HKD.out]; decide) (by rw [← HKD.out]; decide) (.inl HKD.out.symm)]; exact congrArg (fun q : Int => ([(⟨4, (z : Nat), ByteArray.empty, 0, 0, 0, 0, q, 0, 0, 0⟩ : ItemV)], false)) HSE.out.symm, HP.out.less⟩⟩
            case measure => have := HKK.out; simp [intOf]; omega
          · have q2 : (k42 == 2) = false := by simpa using hk2
            have HSE : Hid ((0 : Int) = shiftN (rowL M.lz z)) := by show _ = _; unfold shiftN; rw [← HZS.out, ← HK42.out, if_neg hk2]
            clear hk2
            go_upto_region 40 with fail
            clear y8 y9
            obtain ⟨A1, c1, ho1, hs1⟩ := HG.out.open_
            obtain ⟨nO, hnO⟩ : ∃ x, x = (out ++ ([] : List ItemV)).length := ⟨_, rfl⟩
            rw [← hnO] at ho1 hs1
            have HNO := Lib.hid hnO
            have hnb : nO ≤ 4194303 := by have := HLN.out; omega
            have HO := Lib.hid ho1
            have HKP := Lib.hid HG.out.keep
            have HXI := Lib.hid HG.out.itm
            have HXB := Lib.hid HG.out.hX
            have HOW : Hid (w7.ownsRow B 40 11 (.slice A1 nO c1) nO (items (out ++ ([] : List ItemV)))) := by show World.ownsRow _ _ _ _ _ _ _; have := HO.out.1.1.own; rwa [← HNO.out] at this
            have HBA : Hid (Below w7.heap.size w7 (w7.alloc (.cells (itemC (⟨4, z, ByteArray.empty, 0, 0, 0, 0, 0, 0, 0, 0⟩ : ItemV)) 40))) := below_alloc (Below.refl _ _) _
            clear ho1 hnO HG
            go_upto_region 41 with (first | (refine wpList_load_rowI 40 _ rfl gX rfl 40 (itemC (⟨4, z, ByteArray.empty, 0, 0, 0, 0, 0, 0, 0, 0⟩ : ItemV)) (0, 0) _ HXI.out Tryd.underlying40 rfl (by kernel_rfl) (by kernel_rfl) ?_) | (refine wpList_sliceOne rfl 30 40 _ rfl (itemC (⟨4, z, ByteArray.empty, 0, 0, 0, 0, 0, 0, 0, 0⟩ : ItemV)) rfl i1 (.agg #[.int .i64 0, .int .i64 0, .string ⟨#[]⟩, .int .i64 0, .int .i64 0, .int .i64 0, .int .i64 0, .int .i64 0, .int .i64 0, .int .i64 0, .int .i64 0]) Tryd.underlying30 hib hzb0 hzb1 (show (0 : Nat) < 11 by omega) (show (11 : Nat) ≤ 1000 by omega) w7.heap.size rfl ?_; simp only [Act.put, List.setIfInBounds_toArray, List.set_cons_zero, List.set_cons_succ]) | (at_builtin; refine wpList_append_any rfl _ _ 30 rfl B 40 i1 (.agg #[.int .i64 0, .int .i64 0, .string ⟨#[]⟩, .int .i64 0, .int .i64 0, .int .i64 0, .int .i64 0, .int .i64 0, .int .i64 0, .int .i64 0, .int .i64 0]) 11 96 Tryd.underlying30 hib hzb0 hzb1 hzb2 rfl (by decide) (.slice A1 nO c1) nO (items (out ++ ([] : List ItemV))) rfl (own_below HOW.out HBA.out) (some ⟨w7.heap.size, 0, none⟩) 1 1 (items [(⟨4, z, ByteArray.empty, 0, 0, 0, 0, 0, 0, 0, 0⟩ : ItemV)]) rfl (by simp [items, itemF, itemC]) (.inl ⟨w7.heap.size, 0, rfl, blk_item (Blk.new _ _ _)⟩) (items_one _) (by unfold maxLen; omega) (by omega) (Nat.le_trans HO.out.1.1.hB HBA.out.size) ?_; intro A8 c8 w8 o8 hg8 hat8; have HP := Lib.hid (RG.pushed (x := (⟨4, z, ByteArray.empty, 0, 0, 0, 0, 0, 0, 0, 0⟩ : ItemV)) HO.out.1 HKP.out HBA.out (by rw [← HNO.out]; exact o8) hg8 hat8); have hb9 := blk_grown (HO.out.1.1.below HBA.out).bO hg8 (blk_ne (HO.out.1.1.below HBA.out).bO (HO.out.1.1.below HBA.out).own (by decide)); have s5 : w8.cell? ⟨G.gO, 0, none⟩ = some (.slice A1 nO c1) := hb9.cell 0; have z5 : w8.frozen? ⟨G.gO, 0, none⟩ = false := hb9.free 0; clear o8 hg8 hat8 hb9; simp only [Act.put, List.setIfInBounds_toArray, List.set_cons_zero, List.set_cons_succ]))
            go_wp2_with fail
            go_roundw
            case rel => exact ⟨k + 1, by have := HKK.out; omega, by go_num, HNEXT.out _ ⟨_, _, by show boxW M (u + 1) z b = _; rw [box_atom (by rw [← HKD.out]; decide) (by rw [← HKD.out]; decide) (.inl HKD.out.symm)]; exact congrArg (fun q : Int => ([(⟨4, (z : Nat), ByteArray.empty, 0, 0, 0, 0, q, 0, 0, 0⟩ : ItemV)], false)) HSE.out.symm, HP.out.less⟩⟩
            case measure => have := HKK.out; simp [intOf]; omega
      have q5 : (kd != 5) = true := by simpa using h5
      have HH4 := Lib.hid h4
      have HH3 := Lib.hid h3
      have HH5 := Lib.hid h5
      clear h4 h3 h5
      by_cases o1 : oN = 1
      · skip
        as_aux_lemma =>
          subst o1
          go_upto_region 37 with (first | (refine wpList_load_rowI 28 _ rfl wq.heap.size rfl 28 (sty zs) (0, 0) _ HG.out.sty0 Tryd.underlying28 rfl HSZA.out (by kernel_rfl) ?_) | (go_at_call 33; refine (HOUT.out _).mono ?_; rintro e wa ⟨rfl, hba⟩; have HG := Lib.hid (HG.out.below hba); have s7 : wa.cell? ⟨gX, 0, none⟩ = some (.int .i64 0) := HG.out.itm.cell 0; have z7 : wa.frozen? ⟨gX, 0, none⟩ = false := HG.out.itm.free 0; clear hba))
          have HG := Lib.hid HG.out.drew
          have hS0 : (fun w' : World => w'.cell? ⟨wq.heap.size, 5, none⟩ = some (.int .i64 fl)) (World.drew wa) := HG.out.sty0.cell' 5 HP5.out
          have y0 : (World.drew wa).cell? ⟨gX, 0, none⟩ = some (.int .i64 0) := HG.out.itm.cell 0
          have y1 : (World.drew wa).frozen? ⟨gX, 0, none⟩ = false := HG.out.itm.free 0
          clear s7 z7
          refine wp_region_noPanic ?_
          refine region_M (S := fun w' => w'.cell? ⟨wq.heap.size, 5, none⟩ = some (.int .i64 fl)) (T := []) (by kernel_rfl) ?_
          generalize World.drew wa = wd at HG hS0 y0 y1 ⊢
          refine anyM_free (i := 0) (oi := { dst := some 192, op := _, type := _, pos := _, after := _, guard := _ }) (v := ?_) rfl (by kernel_rfl) (fun _ _ _ h => h) (Or.inl ⟨by kernel_rfl, ?_⟩) (fun _ => hS0) ?_
          rotate_left 1
          · (intro w hSw; (try dsimp only at hSw); go_simp; try with_reducible rfl)
          try simp only [Act.put, Array.toArray_toList, List.setIfInBounds_toArray, List.set_cons_zero, List.set_cons_succ]
          refine anyM_free (i := 1) (oi := { dst := some 193, op := _, type := _, pos := _, after := _, guard := _ }) (v := ?_) rfl (by kernel_rfl) (fun _ _ _ h => h) (Or.inl ⟨by kernel_rfl, ?_⟩) (fun _ => hS0) ?_
          rotate_left 1
          · (intro w hSw; (try dsimp only at hSw); go_simp; try with_reducible rfl)
          try simp only [Act.put, Array.toArray_toList, List.setIfInBounds_toArray, List.set_cons_zero, List.set_cons_succ]
          refine anyM_take (i := 2) (oi := { dst := some 194, op := _, type := _, pos := _, after := _, guard := _ }) (v := ?_) rfl (by kernel_rfl) (fun _ _ _ h => h) (Or.inl ⟨by kernel_rfl, ?_⟩) hS0 ?_
          rotate_left 1
          · (intro w hSw; (try dsimp only at hSw); go_simp; try with_reducible rfl)
          try simp only [Act.put, Array.toArray_toList, List.setIfInBounds_toArray, List.set_cons_zero, List.set_cons_succ]
          refine anyM_free (i := 3) (oi := { dst := some 195, op := _, type := _, pos := _, after := _, guard := _ }) (v := ?_) rfl (by kernel_rfl) (fun _ _ _ h => h) (Or.inl ⟨by kernel_rfl, ?_⟩) (fun _ => hS0) ?_
          rotate_left 1
          · (intro w hSw; (try dsimp only at hSw); go_simp; try with_reducible rfl)
          try simp only [Act.put, Array.toArray_toList, List.setIfInBounds_toArray, List.set_cons_zero, List.set_cons_succ]
          refine anyM_one (i := 4) (by kernel_rfl) rfl (fun K hK => ?_)
          go_simp
          have HG := Lib.hid (HG.out.set 0 (.int .i64 5) (⟨5, z, ByteArray.empty, 0, 0, 0, 0, 0, 0, 0, 0⟩ : ItemV) rfl)
          generalize World.setCell wd _ _ = we at HG ⊢
          have hS0 : (fun w' : World => w'.cell? ⟨wq.heap.size, 5, none⟩ = some (.int .i64 fl)) we := HG.out.sty0.cell' 5 HP5.out
          have y2 : we.cell? ⟨gX, 10, none⟩ = some (.int .i64 0) := HG.out.itm.cell 10
          have y3 : we.frozen? ⟨gX, 10, none⟩ = false := HG.out.itm.free 10
          refine hK.out _ _ (fun _ => hS0) ?_
          clear hK K
          try simp only [Act.put, Array.toArray_toList, List.setIfInBounds_toArray, List.set_cons_zero, List.set_cons_succ]
          refine anyM_free (i := 5) (oi := { dst := some 196, op := _, type := _, pos := _, after := _, guard := _ }) (v := ?_) rfl (by kernel_rfl) (fun _ _ _ h => h) (Or.inl ⟨by kernel_rfl, ?_⟩) (fun _ => hS0) ?_
          rotate_left 1
          · (intro w hSw; (try dsimp only at hSw); go_simp; try with_reducible rfl)
          try simp only [Act.put, Array.toArray_toList, List.setIfInBounds_toArray, List.set_cons_zero, List.set_cons_succ]
          refine anyM_one (i := 6) (by kernel_rfl) rfl (fun K hK => ?_)
          go_simp
          have HG := Lib.hid (HG.out.set 10 (.int .i64 fl) (⟨5, z, ByteArray.empty, 0, 0, 0, 0, 0, 0, 0, fl⟩ : ItemV) rfl)
          generalize World.setCell we _ _ = wf at HG ⊢
          have hS0 : (fun w' : World => w'.cell? ⟨wq.heap.size, 5, none⟩ = some (.int .i64 fl)) wf := HG.out.sty0.cell' 5 HP5.out
          refine hK.out _ _ (fun _ => hS0) ?_
          clear hK K
          try simp only [Act.put, Array.toArray_toList, List.setIfInBounds_toArray, List.set_cons_zero, List.set_cons_succ]
          refine anyM_done (by kernel_rfl) ?_ _
          refine NoPanic.normal ?_
          clear hS0 y0 y1 y2 y3
          go_upto_region 40 with fail
          obtain ⟨A1, c1, ho1, hs1⟩ := HG.out.open_
          obtain ⟨nO, hnO⟩ : ∃ x, x = (out ++ ([] : List ItemV)).length := ⟨_, rfl⟩
          rw [← hnO] at ho1 hs1
          have HNO := Lib.hid hnO
          have hnb : nO ≤ 4194303 := by have := HLN.out; omega
          have HO := Lib.hid ho1
          have HKP := Lib.hid HG.out.keep
          have HXI := Lib.hid HG.out.itm
          have HXB := Lib.hid HG.out.hX
          have HOW : Hid (wf.ownsRow B 40 11 (.slice A1 nO c1) nO (items (out ++ ([] : List ItemV)))) := by show World.ownsRow _ _ _ _ _ _ _; have := HO.out.1.1.own; rwa [← HNO.out] at this
          have HBA : Hid (Below wf.heap.size wf (wf.alloc (.cells (itemC (⟨5, z, ByteArray.empty, 0, 0, 0, 0, 0, 0, 0, fl⟩ : ItemV)) 40))) := below_alloc (Below.refl _ _) _
          clear ho1 hnO HG
          go_upto_region 41 with (first | (refine wpList_load_rowI 40 _ rfl gX rfl 40 (itemC (⟨5, z, ByteArray.empty, 0, 0, 0, 0, 0, 0, 0, fl⟩ : ItemV)) (0, 0) _ HXI.out Tryd.underlying40 rfl (by kernel_rfl) (by kernel_rfl) ?_) | (refine wpList_sliceOne rfl 30 40 _ rfl (itemC (⟨5, z, ByteArray.empty, 0, 0, 0, 0, 0, 0, 0, fl⟩ : ItemV)) rfl i1 (.agg #[.int .i64 0, .int .i64 0, .string ⟨#[]⟩, .int .i64 0, .int .i64 0, .int .i64 0, .int .i64 0, .int .i64 0, .int .i64 0, .int .i64 0, .int .i64 0]) Tryd.underlying30 hib hzb0 hzb1 (show (0 : Nat) < 11 by omega) (show (11 : Nat) ≤ 1000 by omega) wf.heap.size rfl ?_; simp only [Act.put, List.setIfInBounds_toArray, List.set_cons_zero, List.set_cons_succ]) | (at_builtin; refine wpList_append_any rfl _ _ 30 rfl B 40 i1 (.agg #[.int .i64 0, .int .i64 0, .string ⟨#[]⟩, .int .i64 0, .int .i64 0, .int .i64 0, .int .i64 0, .int .i64 0, .int .i64 0, .int .i64 0, .int .i64 0]) 11 96 Tryd.underlying30 hib hzb0 hzb1 hzb2 rfl (by decide) (.slice A1 nO c1) nO (items (out ++ ([] : List ItemV))) rfl (own_below HOW.out HBA.out) (some ⟨wf.heap.size, 0, none⟩) 1 1 (items [(⟨5, z, ByteArray.empty, 0, 0, 0, 0, 0, 0, 0, fl⟩ : ItemV)]) rfl (by simp [items, itemF, itemC]) (.inl ⟨wf.heap.size, 0, rfl, blk_item (Blk.new _ _ _)⟩) (items_one _) (by unfold maxLen; omega) (by omega) (Nat.le_trans HO.out.1.1.hB HBA.out.size) ?_; intro A8 c8 w8 o8 hg8 hat8; have HP := Lib.hid (RG.pushed (x := (⟨5, z, ByteArray.empty, 0, 0, 0, 0, 0, 0, 0, fl⟩ : ItemV)) HO.out.1 HKP.out HBA.out (by rw [← HNO.out]; exact o8) hg8 hat8); have hb9 := blk_grown (HO.out.1.1.below HBA.out).bO hg8 (blk_ne (HO.out.1.1.below HBA.out).bO (HO.out.1.1.below HBA.out).own (by decide)); have s5 : w8.cell? ⟨G.gO, 0, none⟩ = some (.slice A1 nO c1) := hb9.cell 0; have z5 : w8.frozen? ⟨G.gO, 0, none⟩ = false := hb9.free 0; clear o8 hg8 hat8 hb9; simp only [Act.put, List.setIfInBounds_toArray, List.set_cons_zero, List.set_cons_succ]))
          go_wp2_with fail
          go_roundw
          case rel => exact ⟨k + 1, by have := HKK.out; omega, by go_num, HNEXT.out _ ⟨_, _, by rw [box_float (by rw [← HKD.out]; exact HH4.out) (by rw [← HKD.out]; exact HH3.out) (by rw [← HKD.out]; exact HH5.out) (by rw [← HZS.out]; exact HON.out.symm)]; unfold floatX; rw [← HZS.out, ← HFL.out]; rfl, HP.out.less⟩⟩
          case measure => have := HKK.out; simp [intOf]; omega
      have r1 : (oN == 1) = false := by simpa using o1
      by_cases o2 : oN = 2
      · skip
        as_aux_lemma =>
          subst o2
          go_upto_region 39 with (first | (refine wpList_load_rowI 28 _ rfl wq.heap.size rfl 28 (sty zs) (0, 0) _ HG.out.sty0 Tryd.underlying28 rfl HSZA.out (by kernel_rfl) ?_) | (go_at_call 33; refine (HOUT.out _).mono ?_; rintro e wa ⟨rfl, hba⟩; have HG := Lib.hid (HG.out.below hba); have s7 : wa.cell? ⟨gX, 0, none⟩ = some (.int .i64 0) := HG.out.itm.cell 0; have z7 : wa.frozen? ⟨gX, 0, none⟩ = false := HG.out.itm.free 0; clear hba))
          go_upto_region 40 with fail
          have HG := Lib.hid (HG.out.set 0 (.int .i64 7) (⟨7, z, ByteArray.empty, 0, 0, 0, 0, 0, 0, 0, 0⟩ : ItemV) rfl)
          generalize World.setCell wa _ _ = w9q at HG ⊢
          clear s7 z7
          obtain ⟨A1, c1, ho1, hs1⟩ := HG.out.open_
          obtain ⟨nO, hnO⟩ : ∃ x, x = (out ++ ([] : List ItemV)).length := ⟨_, rfl⟩
          rw [← hnO] at ho1 hs1
          have HNO := Lib.hid hnO
          have hnb : nO ≤ 4194303 := by have := HLN.out; omega
          have HO := Lib.hid ho1
          have HKP := Lib.hid HG.out.keep
          have HXI := Lib.hid HG.out.itm
          have HXB := Lib.hid HG.out.hX
          have HOW : Hid (w9q.ownsRow B 40 11 (.slice A1 nO c1) nO (items (out ++ ([] : List ItemV)))) := by show World.ownsRow _ _ _ _ _ _ _; have := HO.out.1.1.own; rwa [← HNO.out] at this
          have HBA : Hid (Below w9q.heap.size w9q (w9q.alloc (.cells (itemC (⟨7, z, ByteArray.empty, 0, 0, 0, 0, 0, 0, 0, 0⟩ : ItemV)) 40))) := below_alloc (Below.refl _ _) _
          clear ho1 hnO HG
          go_upto_region 41 with (first | (refine wpList_load_rowI 40 _ rfl gX rfl 40 (itemC (⟨7, z, ByteArray.empty, 0, 0, 0, 0, 0, 0, 0, 0⟩ : ItemV)) (0, 0) _ HXI.out Tryd.underlying40 rfl (by kernel_rfl) (by kernel_rfl) ?_) | (refine wpList_sliceOne rfl 30 40 _ rfl (itemC (⟨7, z, ByteArray.empty, 0, 0, 0, 0, 0, 0, 0, 0⟩ : ItemV)) rfl i1 (.agg #[.int .i64 0, .int .i64 0, .string ⟨#[]⟩, .int .i64 0, .int .i64 0, .int .i64 0, .int .i64 0, .int .i64 0, .int .i64 0, .int .i64 0, .int .i64 0]) Tryd.underlying30 hib hzb0 hzb1 (show (0 : Nat) < 11 by omega) (show (11 : Nat) ≤ 1000 by omega) w9q.heap.size rfl ?_; simp only [Act.put, List.setIfInBounds_toArray, List.set_cons_zero, List.set_cons_succ]) | (at_builtin; refine wpList_append_any rfl _ _ 30 rfl B 40 i1 (.agg #[.int .i64 0, .int .i64 0, .string ⟨#[]⟩, .int .i64 0, .int .i64 0, .int .i64 0, .int .i64 0, .int .i64 0, .int .i64 0, .int .i64 0, .int .i64 0]) 11 96 Tryd.underlying30 hib hzb0 hzb1 hzb2 rfl (by decide) (.slice A1 nO c1) nO (items (out ++ ([] : List ItemV))) rfl (own_below HOW.out HBA.out) (some ⟨w9q.heap.size, 0, none⟩) 1 1 (items [(⟨7, z, ByteArray.empty, 0, 0, 0, 0, 0, 0, 0, 0⟩ : ItemV)]) rfl (by simp [items, itemF, itemC]) (.inl ⟨w9q.heap.size, 0, rfl, blk_item (Blk.new _ _ _)⟩) (items_one _) (by unfold maxLen; omega) (by omega) (Nat.le_trans HO.out.1.1.hB HBA.out.size) ?_; intro A8 c8 w8 o8 hg8 hat8; have HP := Lib.hid (RG.pushed (x := (⟨7, z, ByteArray.empty, 0, 0, 0, 0, 0, 0, 0, 0⟩ : ItemV)) HO.out.1 HKP.out HBA.out (by rw [← HNO.out]; exact o8) hg8 hat8); have hb9 := blk_grown (HO.out.1.1.below HBA.out).bO hg8 (blk_ne (HO.out.1.1.below HBA.out).bO (HO.out.1.1.below HBA.out).own (by decide)); have s5 : w8.cell? ⟨G.gO, 0, none⟩ = some (.slice A1 nO c1) := hb9.cell 0; have z5 : w8.frozen? ⟨G.gO, 0, none⟩ = false := hb9.free 0; clear o8 hg8 hat8 hb9; simp only [Act.put, List.setIfInBounds_toArray, List.set_cons_zero, List.set_cons_succ]))
          go_wp2_with fail
          go_roundw
          case rel => exact ⟨k + 1, by have := HKK.out; omega, by go_num, HNEXT.out _ ⟨_, _, by rw [box_abs (by rw [← HKD.out]; exact HH4.out) (by rw [← HKD.out]; exact HH3.out) (by rw [← HKD.out]; exact HH5.out) (by rw [← HZS.out]; exact HON.out.symm)]; rfl, HP.out.less⟩⟩
          case measure => have := HKK.out; simp [intOf]; omega
      have r2 : (oN == 2) = false := by simpa using o2
      have HO1 := Lib.hid o1
      have HO2 := Lib.hid o2
      clear o1 o2
      as_aux_lemma =>
        go_upto_region 6 with (first | (refine wpList_load_rowI 28 _ rfl wq.heap.size rfl 28 (sty zs) (0, 0) _ HG.out.sty0 Tryd.underlying28 rfl HSZA.out (by kernel_rfl) ?_) | (go_at_call 33; refine (HOUT.out _).mono ?_; rintro e wa ⟨rfl, hba⟩; have HG := Lib.hid (HG.out.below hba); have s7 : wa.cell? ⟨gX, 0, none⟩ = some (.int .i64 0) := HG.out.itm.cell 0; have z7 : wa.frozen? ⟨gX, 0, none⟩ = false := HG.out.itm.free 0; clear hba))
        clear s7 z7
        obtain ⟨w5, hw5⟩ : ∃ x, x = wa := ⟨_, rfl⟩
        rw [← hw5] at HG ⊢
        clear hw5
        have y0 : w5.cell? ⟨gX, 0, none⟩ = some (.int .i64 0) := HG.out.itm.cell 0
        have y1 : w5.frozen? ⟨gX, 0, none⟩ = false := HG.out.itm.free 0
        have hky : w5.cell? ⟨G.gK, 0, none⟩ = some (.bool b) ∧ w5.frozen? ⟨G.gK, 0, none⟩ = false ∧ G.gK ≠ gX := by
          obtain ⟨v2, ⟨h1, _, _⟩, _⟩ := HG.out.rst
          exact ⟨h1.bK.cell 0, h1.bK.free 0, blk_diff h1.bK HG.out.itm (by decide)⟩
        obtain ⟨y2, y3, y4⟩ := hky
        have y5 : gX ≠ G.gK := y4.symm
        go_upto_region 7 with fail
        have HG := Lib.hid ((HG.out.set 0 (.int .i64 4) (⟨4, z, ByteArray.empty, 0, 0, 0, 0, 0, 0, 0, 0⟩ : ItemV) rfl).blank false)
        clear y0 y1 y2 y3 y4 y5
        generalize World.setCell (World.setCell w5 _ _) _ _ = w6 at HG ⊢
        have y6 : w6.cell? ⟨wq.heap.size, 84, none⟩ = some (.int .i64 k42) := HG.out.sty0.cell' 84 HP84.out
        have y7 : w6.cell? ⟨wq.heap.size, 85, none⟩ = some (.int .i64 n42) := HG.out.sty0.cell' 85 HP85.out
        go_upto_region 8 with fail
        have y8 : (w6.alloc (.cells #[.int .i64 k42, .int .i64 n42] 26)).cell? ⟨w6.heap.size, 0, none⟩ = some (.int .i64 k42) := new_cell w6 _ _ 0
        have y9 : (w6.alloc (.cells #[.int .i64 k42, .int .i64 n42] 26)).cell? ⟨w6.heap.size, 1, none⟩ = some (.int .i64 n42) := new_cell w6 _ _ 1
        have HG := Lib.hid (HG.out.below (below_alloc (Below.refl _ _) (.cells #[.int .i64 k42, .int .i64 n42] 26)))
        generalize World.alloc w6 _ = w7 at HG y8 y9 ⊢
        clear y6 y7
        by_cases hk2 : k42 = 2
        · have q2 : (k42 == 2) = true := by simpa using hk2
          have HSE : Hid (cut n42 = shiftN (rowL M.lz z)) := by show _ = _; unfold shiftN; rw [← HZS.out, ← HK42.out, ← HN42.out, if_pos hk2]
          have y10 : w7.cell? ⟨gX, 7, none⟩ = some (.int .i64 0) := HG.out.itm.cell 7
          have y11 : w7.frozen? ⟨gX, 7, none⟩ = false := HG.out.itm.free 7
          clear hk2
          go_upto_region 40 with (go_at_call 29; refine (rcut_calls _ _).mono ?_; rintro e w' ⟨rfl, rfl⟩)
          have HG := Lib.hid (HG.out.set 7 (.int .i64 (cut n42)) (⟨4, z, ByteArray.empty, 0, 0, 0, 0, cut n42, 0, 0, 0⟩ : ItemV) rfl)
          generalize World.setCell w7 _ _ = w8q at HG ⊢
          clear y8 y9 y10 y11
          obtain ⟨A1, c1, ho1, hs1⟩ := HG.out.open_
          obtain ⟨nO, hnO⟩ : ∃ x, x = (out ++ ([] : List ItemV)).length := ⟨_, rfl⟩
          rw [← hnO] at ho1 hs1
          have HNO := Lib.hid hnO
          have hnb : nO ≤ 4194303 := by have := HLN.out; omega
          have HO := Lib.hid ho1
          have HKP := Lib.hid HG.out.keep
          have HXI := Lib.hid HG.out.itm
          have HXB := Lib.hid HG.out.hX
          have HOW : Hid (w8q.ownsRow B 40 11 (.slice A1 nO c1) nO (items (out ++ ([] : List ItemV)))) := by show World.ownsRow _ _ _ _ _ _ _; have := HO.out.1.1.own; rwa [← HNO.out] at this
          have HBA : Hid (Below w8q.heap.size w8q (w8q.alloc (.cells (itemC (⟨4, z, ByteArray.empty, 0, 0, 0, 0, cut n42, 0, 0, 0⟩ : ItemV)) 40))) := below_alloc (Below.refl _ _) _
          clear ho1 hnO HG
          go_upto_region 41 with (first | (refine wpList_load_rowI 40 _ rfl gX rfl 40 (itemC (⟨4, z, ByteArray.empty, 0, 0, 0, 0, cut n42, 0, 0, 0⟩ : ItemV)) (0, 0) _ HXI.out Tryd.underlying40 rfl (by kernel_rfl) (by kernel_rfl) ?_) | (refine wpList_sliceOne rfl 30 40 _ rfl (itemC (⟨4, z, ByteArray.empty, 0, 0, 0, 0, cut n42, 0, 0, 0⟩ : ItemV)) rfl i1 (.agg #[.int .i64 0, .int .i64 0, .string ⟨#[]⟩, .int .i64 0, .int .i64 0, .int .i64 0, .int .i64 0, .int .i64 0, .int .i64 0, .int .i64 0, .int .i64 0]) Tryd.underlying30 hib hzb0 hzb1 (show (0 : Nat) < 11 by omega) (show (11 : Nat) ≤ 1000 by omega) w8q.heap.size rfl ?_; simp only [Act.put, List.setIfInBounds_toArray, List.set_cons_zero, List.set_cons_succ]) | (at_builtin; refine wpList_append_any rfl _ _ 30 rfl B 40 i1 (.agg #[.int .i64 0, .int .i64 0, .string ⟨#[]⟩, .int .i64 0, .int .i64 0, .int .i64 0, .int .i64 0, .int .i64 0, .int .i64 0, .int .i64 0, .int .i64 0]) 11 96 Tryd.underlying30 hib hzb0 hzb1 hzb2 rfl (by decide) (.slice A1 nO c1) nO (items (out ++ ([] : List ItemV))) rfl (own_below HOW.out HBA.out) (some ⟨w8q.heap.size, 0, none⟩) 1 1 (items [(⟨4, z, ByteArray.empty, 0, 0, 0, 0, cut n42, 0, 0, 0⟩ : ItemV)]) rfl (by simp [items, itemF, itemC]) (.inl ⟨w8q.heap.size, 0, rfl, blk_item (Blk.new _ _ _)⟩) (items_one _) (by unfold maxLen; omega) (by omega) (Nat.le_trans HO.out.1.1.hB HBA.out.size) ?_; intro A8 c8 w8 o8 hg8 hat8; have HP := Lib.hid (RG.pushed (x := (⟨4, z, ByteArray.empty, 0, 0, 0, 0, cut n42, 0, 0, 0⟩ : ItemV)) HO.out.1 HKP.out HBA.out (by rw [← HNO.out]; exact o8) hg8 hat8); have hb9 := blk_grown (HO.out.1.1.below HBA.out).bO hg8 (blk_ne (HO.out.1.1.below HBA.out).bO (HO.out.1.1.below HBA.out).own (by decide)); have s5 : w8.cell? ⟨G.gO, 0, none⟩ = some (.slice A1 nO c1) := hb9.cell 0; have z5 : w8.frozen? ⟨G.gO, 0, none⟩ = false := hb9.free 0; clear o8 hg8 hat8 hb9; simp only [Act.put, List.setIfInBounds_toArray, List.set_cons_zero, List.set_cons_succ]))
          go_wp2_with fail
          go_roundw
          case rel => exact ⟨k + 1, by have := HKK.out; omega, by go_num, HNEXT.out _ ⟨_, _, by show boxW M (u + 1) z b = _; rw [box_atom (by rw [← HKD.out]; exact HH4.out) (by rw [← HKD.out]; exact HH3.out) (.inr ⟨by rw [← HZS.out, ← HON.out]; exact HO1.out, by rw [← HZS.out, ← HON.out]; exact HO2.out⟩)]; exact congrArg (fun q : Int => ([(⟨4, (z : Nat), ByteArray.empty, 0, 0, 0, 0, q, 0, 0, 0⟩ : ItemV)], false)) HSE.out.symm, HP.out.less⟩⟩
          case measure => have := HKK.out; simp [intOf]; omega
        · have q2 : (k42 == 2) = false := by simpa using hk2
          have HSE : Hid ((0 : Int) = shiftN (rowL M.lz z)) := by show _ = _; unfold shiftN; rw [← HZS.out, ← HK42.out, if_neg hk2]
          clear hk2
          go_upto_region 40 with fail
          clear y8 y9
          obtain ⟨A1, c1, ho1, hs1⟩ := HG.out.open_
          obtain ⟨nO, hnO⟩ : ∃ x, x = (out ++ ([] : List ItemV)).length := ⟨_, rfl⟩
          rw [← hnO] at ho1 hs1
          have HNO := Lib.hid hnO
          have hnb : nO ≤ 4194303 := by have := HLN.out; omega
          have HO := Lib.hid ho1
          have HKP := Lib.hid HG.out.keep
          have HXI := Lib.hid HG.out.itm
          have HXB := Lib.hid HG.out.hX
          have HOW : Hid (w7.ownsRow B 40 11 (.slice A1 nO c1) nO (items (out ++ ([] : List ItemV)))) := by show World.ownsRow _ _ _ _ _ _ _; have := HO.out.1.1.own; rwa [← HNO.out] at this
          have HBA : Hid (Below w7.heap.size w7 (w7.alloc (.cells (itemC (⟨4, z, ByteArray.empty, 0, 0, 0, 0, 0, 0, 0, 0⟩ : ItemV)) 40))) := below_alloc (Below.refl _ _) _
          clear ho1 hnO HG
          go_upto_region 41 with (first | (refine wpList_load_rowI 40 _ rfl gX rfl 40 (itemC (⟨4, z, ByteArray.empty, 0, 0, 0, 0, 0, 0, 0, 0⟩ : ItemV)) (0, 0) _ HXI.out Tryd.underlying40 rfl (by kernel_rfl) (by kernel_rfl) ?_) | (refine wpList_sliceOne rfl 30 40 _ rfl (itemC (⟨4, z, ByteArray.empty, 0, 0, 0, 0, 0, 0, 0, 0⟩ : ItemV)) rfl i1 (.agg #[.int .i64 0, .int .i64 0, .string ⟨#[]⟩, .int .i64 0, .int .i64 0, .int .i64 0, .int .i64 0, .int .i64 0, .int .i64 0, .int .i64 0, .int .i64 0]) Tryd.underlying30 hib hzb0 hzb1 (show (0 : Nat) < 11 by omega) (show (11 : Nat) ≤ 1000 by omega) w7.heap.size rfl ?_; simp only [Act.put, List.setIfInBounds_toArray, List.set_cons_zero, List.set_cons_succ]) | (at_builtin; refine wpList_append_any rfl _ _ 30 rfl B 40 i1 (.agg #[.int .i64 0, .int .i64 0, .string ⟨#[]⟩, .int .i64 0, .int .i64 0, .int .i64 0, .int .i64 0, .int .i64 0, .int .i64 0, .int .i64 0, .int .i64 0]) 11 96 Tryd.underlying30 hib hzb0 hzb1 hzb2 rfl (by decide) (.slice A1 nO c1) nO (items (out ++ ([] : List ItemV))) rfl (own_below HOW.out HBA.out) (some ⟨w7.heap.size, 0, none⟩) 1 1 (items [(⟨4, z, ByteArray.empty, 0, 0, 0, 0, 0, 0, 0, 0⟩ : ItemV)]) rfl (by simp [items, itemF, itemC]) (.inl ⟨w7.heap.size, 0, rfl, blk_item (Blk.new _ _ _)⟩) (items_one _) (by unfold maxLen; omega) (by omega) (Nat.le_trans HO.out.1.1.hB HBA.out.size) ?_; intro A8 c8 w8 o8 hg8 hat8; have HP := Lib.hid (RG.pushed (x := (⟨4, z, ByteArray.empty, 0, 0, 0, 0, 0, 0, 0, 0⟩ : ItemV)) HO.out.1 HKP.out HBA.out (by rw [← HNO.out]; exact o8) hg8 hat8); have hb9 := blk_grown (HO.out.1.1.below HBA.out).bO hg8 (blk_ne (HO.out.1.1.below HBA.out).bO (HO.out.1.1.below HBA.out).own (by decide)); have s5 : w8.cell? ⟨G.gO, 0, none⟩ = some (.slice A1 nO c1) := hb9.cell 0; have z5 : w8.frozen? ⟨G.gO, 0, none⟩ = false := hb9.free 0; clear o8 hg8 hat8 hb9; simp only [Act.put, List.setIfInBounds_toArray, List.set_cons_zero, List.set_cons_succ]))
          go_wp2_with fail
          go_roundw
          case rel => exact ⟨k + 1, by have := HKK.out; omega, by go_num, HNEXT.out _ ⟨_, _, by show boxW M (u + 1) z b = _; rw [box_atom (by rw [← HKD.out]; exact HH4.out) (by rw [← HKD.out]; exact HH3.out) (.inr ⟨by rw [← HZS.out, ← HON.out]; exact HO1.out, by rw [← HZS.out, ← HON.out]; exact HO2.out⟩)]; exact congrArg (fun q : Int => ([(⟨4, (z : Nat), ByteArray.empty, 0, 0, 0, 0, q, 0, 0, 0⟩ : ItemV)], false)) HSE.out.symm, HP.out.less⟩⟩
          case measure => have := HKK.out; simp [intOf]; omega
    · obtain rfl : k = ks.length := by omega
      have qi : decide (ks.length < ks.length) = false := decide_eq_false (by omega)
      clear HKB HKF HBX HREC0
      go_wp2_with fail
      (try simp only [Exit.inBlock, Exit.then]); refine bodyPost_ret (results_none rfl _ _ _) rfl ?_
      exact HKR.out.done
end Go.Proofs.YtpamfhplklhnpaaDoor
