/- Several texts in one: BxD. -/
import Derived.Test.YtkmmlcnoeeaekaaGreatDoorBoxesMakeM18
import Derived.Test.YtkmmlcnoeeaekaaGreatDoorBoxesMakeM19
import Derived.Test.YtkmmlcnoeeaekaaGreatDoorBoxesMakeM20
import Derived.Test.YtkmmlcnoeeaekaaGreatDoorBoxesMakeM21
/- A document's DocB; contract of maker.content. -/
namespace Go.Proofs.YtkmmlcnoeeaekaaGreatDoor
open Go.RowKit
set_option linter.unusedVariables false
set_option linter.unusedSimpArgs false

/-- What boxes hang on. -/
def docB (I : BxV) (h : DocOk I.ns) : DocB where
  kid := kidN I.ns
  nk n := (nd I.ns n).kind
  is n := isS (I.sty n)
  br n := decide ((nd I.ns n).name = brS)
  out n := outS (I.sty n)
  tx n := turnS (stN (I.sty n) 43) (nd I.ns n).text
  idleS s := idleB s.data.toList
  keep n := stN (I.sty n) 41 == 1 || stN (I.sty n) 41 == 3
  rank := rankN I.ns
  deep := rank_deep h
theorem flatMap_sub {α β : Type} {f g : α → List β} : ∀ (l : List α), (∀ x ∈ l, List.Sublist (f x) (g x)) → List.Sublist (l.flatMap f) (l.flatMap g)
  | [], _ => List.Sublist.refl _
  | x :: l, h => by
    rw [List.flatMap_cons, List.flatMap_cons]
    exact (h x (by simp)).append (flatMap_sub l fun y hy => h y (by simp [hy]))
theorem content_sub (I : BxV) (h : DocOk I.ns) : ∀ (u n : Nat), List.Sublist ((docB I h).contentF u n) (subN I.ns u n)
  | 0, _ => List.Sublist.refl _
  | u + 1, n => by
    rw [DocB.contentF, subN]
    refine flatMap_sub _ fun k hk => ?_
    split
    · exact List.Sublist.cons_cons _ (List.nil_sublist _)
    · split
      · exact List.nil_sublist _
      · split
        · exact (content_sub I h u k).trans (List.sublist_cons_self _ _)
        · exact List.Sublist.cons_cons _ (List.nil_sublist _)
theorem content_len (I : BxV) (hc : checkE I.ns = 0) (n : Nat) : ((docB I (docOk hc)).content n).length ≤ 200 := by
  have h1 := (content_sub I (docOk hc) (rankN I.ns n) n).length_le
  have h2 := sub_len hc (rankN I.ns n) n
  have h3 := (docOk hc).len
  exact Nat.le_trans h1 (by omega)
theorem content_lt (I : BxV) (h : DocOk I.ns) {n k : Nat} (hk : k ∈ (docB I h).content n) : k < I.ns.length :=
  (sub_rank h _ _ _ ((content_sub I h (rankN I.ns n) n).subset hk)).1
/-- What one kid brings. -/
def kidC (X : DocB) (k : Nat) : List Nat := if X.nk k = 3 then [k] else if X.nk k ≠ 2 ∨ X.is k = 0 then [] else if X.is k = 9 then X.content k else [k]
theorem node_cells {I : BxV} {w : World} {B n : Nat} (h : I.ok w B) (hn : n < I.n) : ∃ b off, I.A = some ⟨b, off, none⟩ ∧ b < B ∧ (∀ j, j < 6 → w.cell? ⟨b, off + n * 6 + j, none⟩ = (nodeC (nd I.ns n))[j]?) ∧ NodeIn w B (nd I.ns n) :=
  h.nodes n (by rw [h.hn]; exact hn)
theorem info_intB : (Tryz.prog.info? 3).map (fun i => (i.zero, i.size, i.bytes)) = some (some (.int .i64 0), 1, 8) := by kernel_rfl
set_option maxRecDepth 100000 in
set_option maxHeartbeats 8000000 in
theorem content_step (I : BxV) (hc : checkE I.ns = 0) (n : Nat) (w : World) (h : I.ok w w.heap.size) (hn : n < I.n)
    (IH : ∀ (k : Nat) (w' : World), k ∈ kidN I.ns n → I.ok w' w'.heap.size → Calls Tryz.prog 31 #[mkA I, .int .i64 (k : Nat)] w' fun e w2 => ∃ A' c', e = .returned (.slice A' ((docB I (docOk hc)).content k).length c') ∧ w2.ownsRow w'.heap.size 3 1 (.slice A' ((docB I (docOk hc)).content k).length c') ((docB I (docOk hc)).content k).length (nums ((docB I (docOk hc)).content k)) ∧ Below w'.heap.size w' w2) :
    Calls Tryz.prog 31 #[mkA I, .int .i64 (n : Nat)] w fun e w2 => ∃ A' c', e = .returned (.slice A' ((docB I (docOk hc)).content n).length c') ∧ w2.ownsRow w.heap.size 3 1 (.slice A' ((docB I (docOk hc)).content n).length c') ((docB I (docOk hc)).content n).length (nums ((docB I (docOk hc)).content n)) ∧ Below w.heap.size w w2 := by
  obtain ⟨iI, hiI, hzI0, hzI1, hzI2⟩ := info_partsK info_intB
  have hd := docOk hc
  have hclen := content_len I hc
  obtain ⟨X, hX⟩ : ∃ X, X = docB I (docOk hc) := ⟨_, rfl⟩
  rw [← hX] at IH hclen ⊢
  have hXn : ∀ k, X.nk k = (nd I.ns k).kind := fun k => by rw [hX]; rfl
  have hXi : ∀ k, X.is k = isS (I.sty k) := fun k => by rw [hX]; rfl
  have hce : X.content n = (kidN I.ns n).flatMap (kidC X) := by rw [X.content_eq, hX]; rfl
  have hnl : n < I.ns.length := by rw [h.hn]; exact hn
  have hkn : kidN I.ns n = (nd I.ns n).kids.map Int.toNat := by unfold kidN; rw [if_pos hnl]
  have HKN := Lib.hid hkn
  have HKO : Hid (∀ k ∈ (nd I.ns n).kids, 0 ≤ k ∧ k < I.ns.length) := fun k hk => ⟨(hd.kids n hnl k hk).1, (hd.kids n hnl k hk).2.1⟩
  have hba := below_alloc (Below.refl w.heap.size w) (.cells #[.slice I.A I.n I.c, .slice I.Al I.nl I.cl] 69)
  have HM := Lib.hid (Blk.new w 69 #[.slice I.A I.n I.c, .slice I.Al I.nl I.cl])
  have HW := Lib.hid hba
  have HOK := Lib.hid ((h.below hba (Nat.le_refl _)).more hba.size)
  have HIH := Lib.hid IH
  have HLEN := Lib.hid hclen
  have HXN := Lib.hid hXn
  have HXI := Lib.hid hXi
  have HCE := Lib.hid hce
  have hnb : n ≤ 200 := by have := h.n0; omega
  have HNN := Lib.hid (And.intro h.hn h.n0)
  obtain ⟨TT, hTT⟩ : ∃ TT, TT = X.content n := ⟨_, rfl⟩
  rw [← hTT] at HCE ⊢
  have htl : TT.length ≤ 200 := by rw [hTT]; exact hclen n
  clear h hba IH hclen hX hXn hXi hce hnl hkn hd hTT
  go_enter Tryz.func31, Tryz.ntmps31
  unfold mkA at HIH ⊢
  go_upto_region 1 with fail
  generalize World.alloc w _ = w1 at HM HW HOK ⊢
  obtain ⟨b, off, hA, hbb, hcells, hin⟩ := node_cells HOK.out hn
  have m0 : w1.cell? ⟨w.heap.size, 0, none⟩ = some (.slice (some ⟨b, off, none⟩) I.n I.c) := by rw [← hA]; exact HM.out.cell 0
  have k5 : w1.cell? ⟨b, off + n * 6 + 5, none⟩ = some (.slice (nd I.ns n).kidsA (nd I.ns n).kids.length (nd I.ns n).kcap) := hcells 5 (by omega)
  have HKD := Lib.hid hin.kids
  have hkn := hin.kn
  have HA := Lib.hid hA
  have HBB := Lib.hid hbb
  clear hcells hin hA hbb
  obtain ⟨ks, hks⟩ : ∃ ks, ks = (nd I.ns n).kids := ⟨_, rfl⟩
  rw [← hks] at k5 HKD hkn HKO HKN
  generalize (nd I.ns n).kidsA = kA at k5 HKD
  generalize (nd I.ns n).kcap = kc at k5
  clear hks
  go_wp2_with fail
  go_loopw [5, 16] (fun vo i wr => ∃ (j : Nat) (A2 : Option Addr) (n2 c2 : Nat) (acc : List Nat), j ≤ ks.length ∧ i = .int .i64 (j : Nat) ∧ vo = .slice A2 n2 c2 ∧ Hid (acc.length = n2) ∧ Hid (wr.ownsRow w1.heap.size 3 1 (.slice A2 n2 c2) n2 (nums acc)) ∧ Hid (Below w1.heap.size w1 wr) ∧ Hid (TT = acc ++ ((kidN I.ns n).drop j).flatMap (kidC X))) (fun _ i _ => ks.length - (intOf i).toNat)
  case atStart => exact ⟨0, none, 0, 0, [], Nat.zero_le _, rfl, rfl, rfl, World.ownsRow_nil _ _ _ _, Below.refl _ _, by show _ = _; rw [List.nil_append, List.drop_zero]; exact HCE.out⟩
  case round =>
    obtain ⟨j, A2, n2, c2, acc, hj, rfl, rfl, HAL, HO, HB, HTT⟩ := hrel
    have hn2 : n2 ≤ 200 := by
      have h1 := congrArg List.length HTT.out
      rw [List.length_append] at h1
      have h2 := HAL.out
      omega
    by_cases hlt : j < ks.length
    · obtain ⟨bk, ok, hkA, hbk, hkc⟩ := (HKD.out.below HB.out (Nat.le_refl _)).ints hlt
      subst hkA
      obtain ⟨k, hk⟩ : ∃ k, k = (ks.getD j 0).toNat := ⟨_, rfl⟩
      have hmem : ks.getD j 0 ∈ ks := by rw [List.getD_eq_getElem?_getD, List.getElem?_eq_getElem hlt]; exact List.getElem_mem hlt
      have hko := HKO.out _ hmem
      have hkz : ks.getD j 0 = (k : Int) := by omega
      rw [hkz] at hkc
      have hkn2 : k < I.n := by have := HNN.out.1; omega
      have hkin : k ∈ kidN I.ns n := by rw [HKN.out, List.mem_map]; exact ⟨_, hmem, by rw [hk]⟩
      have HDR : Hid ((kidN I.ns n).drop j = k :: (kidN I.ns n).drop (j + 1)) := by
        show _ = _
        rw [HKN.out, List.drop_eq_getElem_cons (by simpa using hlt)]
        congr 1
        rw [List.getElem_map, hk, List.getD_eq_getElem?_getD, List.getElem?_eq_getElem hlt]
        rfl
      obtain ⟨kd, hkd⟩ : ∃ kd, kd = (nd I.ns k).kind := ⟨_, rfl⟩
      have HMC : Hid (∀ ww, Below w1.heap.size w1 ww → ww.cell? ⟨w.heap.size, 0, none⟩ = some (.slice (some ⟨b, off, none⟩) I.n I.c) ∧ ww.cell? ⟨w.heap.size, 1, none⟩ = some (.slice I.Al I.nl I.cl) ∧ ww.cell? ⟨b, off + k * 6, none⟩ = some (.int .i64 kd) ∧ ww.cell? ⟨b, off + n * 6 + 5, none⟩ = ww.cell? ⟨b, off + n * 6 + 5, none⟩) := fun ww hb => by
        obtain ⟨b2, off2, hA2, hbb2, hc2, _⟩ := node_cells HOK.out hkn2
        rw [HA.out] at hA2
        injection hA2 with e
        injection e with e1 e2
        subst e1; subst e2
        have h0 := hc2 0 (by omega)
        refine ⟨(hb.cell (p := ⟨w.heap.size, 0, none⟩) HM.out.lt).trans (by rw [← HA.out]; exact HM.out.cell 0), (hb.cell (p := ⟨w.heap.size, 1, none⟩) HM.out.lt).trans (HM.out.cell 1), (hb.cell (p := ⟨b, off + k * 6, none⟩) hbb2).trans (h0.trans ?_), rfl⟩
        rw [hkd]; rfl
      have HIS : Hid (∀ ww, Below w1.heap.size w1 ww → Calls Tryz.prog 66 #[.agg #[.slice (some ⟨b, off, none⟩) I.n I.c, .slice I.Al I.nl I.cl], .int .i64 (k : Nat)] ww fun e w' => e = .returned (.int .i64 (X.is k)) ∧ Below ww.heap.size ww w') := fun ww hb => by
        have h9 := is_calls I k ww ((HOK.out.below hb (Nat.le_refl _)).more hb.size) hkn2
        unfold mkA at h9
        rw [HA.out, ← HXI.out k] at h9
        exact h9
      have HREC : Hid (∀ ww, Below w1.heap.size w1 ww → (X.content k).length ≤ 200 ∧ Calls Tryz.prog 31 #[.agg #[.slice (some ⟨b, off, none⟩) I.n I.c, .slice I.Al I.nl I.cl], .int .i64 (k : Nat)] ww fun e w2 => ∃ A' c', e = .returned (.slice A' (X.content k).length c') ∧ w2.ownsRow ww.heap.size 3 1 (.slice A' (X.content k).length c') (X.content k).length (nums (X.content k)) ∧ Below ww.heap.size ww w2) := fun ww hb => by
        have h9 := HIH.out k ww hkin ((HOK.out.below hb (Nat.le_refl _)).more hb.size)
        rw [HA.out] at h9
        exact ⟨HLEN.out k, h9⟩
      obtain ⟨m0, m1, m2, m3⟩ := HMC.out wr HB.out
      have HKCE : Hid (kidC X k = if kd = 3 then [k] else if kd ≠ 2 ∨ X.is k = 0 then [] else if X.is k = 9 then X.content k else [k]) := by
        show _ = _
        unfold kidC
        rw [HXN.out k, ← hkd]
      generalize X.is k = iv at HIS HKCE
      generalize hcc : X.content k = ck at HREC HKCE
      clear hk hmem hko hkz hkin hkd hcc m3 hbk
      by_cases h3 : kd = 3
      · have q3 : (kd == 3) = true := by simp [h3]
        have HKC : Hid (kidC X k = [k]) := by show _ = _; rw [HKCE.out, if_pos h3]
        clear h3 HKCE
        have HOA := Lib.hid (own_below HO.out (below_alloc (Below.refl wr.heap.size wr) (.cells #[.int .i64 (k : Nat)] 3)))
        have HBA := Lib.hid (below_alloc HB.out (.cells #[.int .i64 (k : Nat)] 3))
        have HNB := Lib.hid (Blk.new wr 3 #[.int .i64 (k : Nat)])
        go_wp2_with (at_builtin; refine wpList_append_any rfl _ _ 44 rfl w1.heap.size 3 iI (.int .i64 0) 1 8 Tryz.underlying44 hiI hzI0 hzI1 hzI2 rfl (by decide) (.slice A2 n2 c2) n2 (nums acc) rfl HOA.out (some ⟨wr.heap.size, 0, none⟩) 1 1 [.int .i64 (k : Nat)] rfl rfl (.inl ⟨wr.heap.size, 0, rfl, fun j u hj => by rw [Nat.zero_add, HNB.out.cell j]; simpa using hj⟩) (by intro u hu; simp at hu; subst hu; rfl) (by unfold maxLen; omega) (by omega) HBA.out.size ?_; intro A9 c9 w9 ho9 hg9 hat9; have HO9 := Lib.hid ho9; have HB9 := Lib.hid (HBA.out.grown hg9 HBA.out.size (fun q hq => (HOA.out.lt q hq).1)); clear ho9 hg9 hat9)
        go_round
        case rel => exact ⟨j + 1, A9, n2 + 1, c9, acc ++ [k], by omega, by go_num, rfl, by show _ = _; rw [List.length_append, HAL.out]; rfl, by show World.ownsRow _ _ _ _ _ _ _; rw [← nums_append]; exact HO9.out, HB9.out, by show _ = _; rw [HTT.out, HDR.out, List.flatMap_cons, HKC.out]; simp [List.append_assoc]⟩
        case measure => simp [intOf]; omega
      · have q3 : (kd == 3) = false := by simp [h3]
        by_cases h2 : kd = 2
        · have q2 : (kd != 2) = false := by simp [h2]
          have HKC0 : Hid (kidC X k = if iv = 0 then [] else if iv = 9 then ck else [k]) := by show _ = _; rw [HKCE.out, if_neg h3, h2]; simp
          clear h3 h2 HKCE
          by_cases i0 : iv = 0
          · have p0 : (iv == 0) = true := by simp [i0]
            have HKC : Hid (kidC X k = []) := by show _ = _; rw [HKC0.out, if_pos i0]
            clear i0 HKC0
            go_wp2_with (go_at_call 66; refine (HIS.out _ HB.out).mono ?_; rintro e w2 ⟨rfl, hbw2⟩; have HO := Lib.hid (own_below HO.out hbw2); have HB := Lib.hid (below_then HB.out hbw2); obtain ⟨m0, m1, m2, m3⟩ := HMC.out w2 HB.out; clear hbw2)
            go_round
            case rel => exact ⟨j + 1, A2, n2, c2, acc, by omega, by go_num, rfl, HAL.out, HO.out, HB.out, by show _ = _; rw [HTT.out, HDR.out, List.flatMap_cons, HKC.out]; simp⟩
            case measure => simp [intOf]; omega
          · have p0 : (iv == 0) = false := by simp [i0]
            by_cases i9 : iv = 9
            · have p9 : (iv == 9) = true := by simp [i9]
              have HKC : Hid (kidC X k = ck) := by show _ = _; rw [HKC0.out, if_neg i0, if_pos i9]
              clear i0 i9 HKC0
              go_upto_region 10 with (go_at_call 66; refine (HIS.out _ HB.out).mono ?_; rintro e w2 ⟨rfl, hbw2⟩; have HO := Lib.hid (own_below HO.out hbw2); have HB := Lib.hid (below_then HB.out hbw2); obtain ⟨m0, m1, m2, m3⟩ := HMC.out w2 HB.out; clear hbw2)
              go_upto_region 11 with (go_at_call 66; refine (HIS.out _ HB.out).mono ?_; rintro e w3 ⟨rfl, hbw3⟩; have HO := Lib.hid (own_below HO.out hbw3); have HB := Lib.hid (below_then HB.out hbw3); obtain ⟨m0, m1, m2, m3⟩ := HMC.out w3 HB.out; clear hbw3)
              obtain ⟨hcl, hcr⟩ := HREC.out w3 HB.out
              have HCR := Lib.hid hcr
              clear hcr
              generalize hnc : ck.length = nc at hcl HCR
              have HNC := Lib.hid hnc
              clear hnc
              go_wp2_with (first | (go_at_call 31; refine HCR.out.mono ?_; rintro e w4 ⟨A7, c7, rfl, ho7, hb7⟩; have HOA := Lib.hid (own_below HO.out hb7); have HBA := Lib.hid (below_then HB.out hb7); have HSR := Lib.hid (own_src ho7 rfl); clear ho7 hb7) | (at_builtin; refine wpList_append_any rfl _ _ 44 rfl w1.heap.size 3 iI (.int .i64 0) 1 8 Tryz.underlying44 hiI hzI0 hzI1 hzI2 rfl (by decide) (.slice A2 n2 c2) n2 (nums acc) rfl HOA.out A7 nc c7 (nums ck) rfl (by rw [nums_len, HNC.out]; omega) HSR.out (nums_one _) (by unfold maxLen; omega) (by omega) HBA.out.size ?_; intro A9 c9 w9 ho9 hg9 hat9; have HO9 := Lib.hid ho9; have HB9 := Lib.hid (HBA.out.grown hg9 HBA.out.size (fun q hq => (HOA.out.lt q hq).1)); clear ho9 hg9 hat9))
              go_round
              case rel => exact ⟨j + 1, A9, n2 + nc, c9, acc ++ ck, by omega, by go_num, rfl, by show _ = _; rw [List.length_append, HAL.out, HNC.out], by show World.ownsRow _ _ _ _ _ _ _; rw [← nums_append]; exact HO9.out, HB9.out, by show _ = _; rw [HTT.out, HDR.out, List.flatMap_cons, HKC.out]; simp [List.append_assoc]⟩
              case measure => simp [intOf]; omega
            · have p9 : (iv == 9) = false := by simp [i9]
              have HKC : Hid (kidC X k = [k]) := by show _ = _; rw [HKC0.out, if_neg i0, if_neg i9]
              clear i0 i9 HKC0
              go_upto_region 10 with (go_at_call 66; refine (HIS.out _ HB.out).mono ?_; rintro e w2 ⟨rfl, hbw2⟩; have HO := Lib.hid (own_below HO.out hbw2); have HB := Lib.hid (below_then HB.out hbw2); obtain ⟨m0, m1, m2, m3⟩ := HMC.out w2 HB.out; clear hbw2)
              go_upto_region 6 with (go_at_call 66; refine (HIS.out _ HB.out).mono ?_; rintro e w3 ⟨rfl, hbw3⟩; have HO := Lib.hid (own_below HO.out hbw3); have HB := Lib.hid (below_then HB.out hbw3); obtain ⟨m0, m1, m2, m3⟩ := HMC.out w3 HB.out; clear hbw3)
              have HOA := Lib.hid (own_below HO.out (below_alloc (Below.refl w3.heap.size w3) (.cells #[.int .i64 (k : Nat)] 3)))
              have HBA := Lib.hid (below_alloc HB.out (.cells #[.int .i64 (k : Nat)] 3))
              have HNB := Lib.hid (Blk.new w3 3 #[.int .i64 (k : Nat)])
              go_wp2_with (at_builtin; refine wpList_append_any rfl _ _ 44 rfl w1.heap.size 3 iI (.int .i64 0) 1 8 Tryz.underlying44 hiI hzI0 hzI1 hzI2 rfl (by decide) (.slice A2 n2 c2) n2 (nums acc) rfl HOA.out (some ⟨w3.heap.size, 0, none⟩) 1 1 [.int .i64 (k : Nat)] rfl rfl (.inl ⟨w3.heap.size, 0, rfl, fun j u hj => by rw [Nat.zero_add, HNB.out.cell j]; simpa using hj⟩) (by intro u hu; simp at hu; subst hu; rfl) (by unfold maxLen; omega) (by omega) HBA.out.size ?_; intro A9 c9 w9 ho9 hg9 hat9; have HO9 := Lib.hid ho9; have HB9 := Lib.hid (HBA.out.grown hg9 HBA.out.size (fun q hq => (HOA.out.lt q hq).1)); clear ho9 hg9 hat9)
              go_round
              case rel => exact ⟨j + 1, A9, n2 + 1, c9, acc ++ [k], by omega, by go_num, rfl, by show _ = _; rw [List.length_append, HAL.out]; rfl, by show World.ownsRow _ _ _ _ _ _ _; rw [← nums_append]; exact HO9.out, HB9.out, by show _ = _; rw [HTT.out, HDR.out, List.flatMap_cons, HKC.out]; simp [List.append_assoc]⟩
              case measure => simp [intOf]; omega
        · have q2 : (kd != 2) = true := by simp [h2]
          have HKC : Hid (kidC X k = []) := by show _ = _; rw [HKCE.out, if_neg h3, if_pos (.inl h2)]
          clear h3 h2 HKCE
          go_wp2_with fail
          go_round
          case rel => exact ⟨j + 1, A2, n2, c2, acc, by omega, by go_num, rfl, HAL.out, HO.out, HB.out, by show _ = _; rw [HTT.out, HDR.out, List.flatMap_cons, HKC.out]; simp⟩
          case measure => simp [intOf]; omega
    · have e : (kidN I.ns n).drop j = [] := by rw [HKN.out]; apply List.drop_eq_nil_of_le; simp; omega
      have HTA : Hid (TT = acc) := by show _ = _; rw [HTT.out, e]; simp
      clear e
      go_wp2_with fail
      go_ret
      refine ⟨A2, c2, by rw [HTA.out, HAL.out]; rfl, ?_, below_then HW.out HB.out⟩
      rw [HTA.out, HAL.out]
      exact own_baseH HO.out HW.out.size
end Go.Proofs.YtkmmlcnoeeaekaaGreatDoor
