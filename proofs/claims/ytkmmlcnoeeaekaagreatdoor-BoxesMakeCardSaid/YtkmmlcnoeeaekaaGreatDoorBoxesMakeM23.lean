/- Several texts in one: BxE, BxF. -/
import Derived.Test.YtkmmlcnoeeaekaaGreatDoorBoxesMakeM22
/- Contracts: the reference's Has; what an element is and a node's content, by the reference. -/
namespace Go.Proofs.YtkmmlcnoeeaekaaGreatDoor
open Go.RowKit
set_option linter.unusedVariables false
set_option linter.unusedSimpArgs false

theorem hasB_calls (A : Option Addr) (n c : Nat) (zs : List Int) (x : Int) (w : World) (hn : zs.length = n) (h : Holds w w.heap.size A (ints zs)) (hm : n ≤ 1000) :
    Calls Tryz.prog 126 #[.slice A n c, .int .i64 x] w fun e w' => e = .returned (.bool (zs.any fun z => decide (x = z))) ∧ w = w' := by
  have HH := Lib.hid h
  have HN := Lib.hid hn
  obtain ⟨r, hr⟩ : ∃ r, r = zs.any fun z => decide (x = z) := ⟨_, rfl⟩
  rw [← hr]
  have HR := Lib.hid hr
  clear h hn hr
  go_enter Tryz.func126, Tryz.ntmps126
  go_wp2_with fail
  go_loop [9] (fun i => ∃ k : Nat, k ≤ n ∧ i = .int .i64 k ∧ Hid (r = (zs.drop k).any fun z => decide (x = z))) (fun i => n - (intOf i).toNat)
  case atStart => exact ⟨0, Nat.zero_le _, rfl, by show _ = _; rw [List.drop_zero]; exact HR.out⟩
  case round =>
    obtain ⟨k, hk, rfl, HK⟩ := hrel
    by_cases hlt : k < n
    · obtain ⟨b, off, hA, hb, hc⟩ := HH.out.ints (k := k) (by rw [HN.out]; exact hlt)
      subst hA
      obtain ⟨z, hz⟩ : ∃ z, z = zs.getD k 0 := ⟨_, rfl⟩
      rw [← hz] at hc
      have hd : zs.drop k = z :: zs.drop (k + 1) := by
        have hkl : k < zs.length := by rw [HN.out]; exact hlt
        rw [List.drop_eq_getElem_cons hkl, hz, List.getD_eq_getElem?_getD, List.getElem?_eq_getElem hkl]
        rfl
      have HD := Lib.hid hd
      clear hz hd hb
      by_cases he : x = z
      · have q1 : (x == z) = true := by simp [he]
        have HE : Hid (r = true) := by show _ = _; rw [HK.out, HD.out]; simp [he]
        clear he
        go_wp2_with fail
        go_ret
        exact ⟨by rw [HE.out]; rfl, rfl⟩
      · have q1 : (x == z) = false := by simp [he]
        have HE : Hid (r = (zs.drop (k + 1)).any fun z => decide (x = z)) := by show _ = _; rw [HK.out, HD.out]; simp [he]
        clear he
        go_wp2_with fail
        go_round
        case rel => exact ⟨k + 1, by omega, by go_num, HE.out⟩
        case measure => simp [intOf]; omega
    · have HE : Hid (r = false) := by show _ = _; rw [HK.out, List.drop_eq_nil_of_le (by rw [HN.out]; omega)]; rfl
      go_wp2_with fail
      go_ret
      exact ⟨by rw [HE.out]; rfl, rfl⟩
/-- What of a Boxer does not turn: its nodes and styles. -/
def MkAt (I : BxV) (gM : Nat) (w : World) : Prop := gM < w.heap.size ∧ w.cell? ⟨gM, 0, none⟩ = some (.slice I.A I.n I.c) ∧ w.cell? ⟨gM, 1, none⟩ = some (.slice I.Al I.nl I.cl)
theorem MkAt.below {I : BxV} {gM : Nat} {w w' : World} (h : MkAt I gM w) (hb : Below w.heap.size w w') : MkAt I gM w' :=
  ⟨Nat.lt_of_lt_of_le h.1 hb.size, (hb.cell (p := ⟨gM, 0, none⟩) h.1).trans h.2.1, (hb.cell (p := ⟨gM, 1, none⟩) h.1).trans h.2.2⟩
set_option maxRecDepth 100000 in
set_option maxHeartbeats 4000000 in
theorem ris_calls (I : BxV) (gM k : Nat) (w : World) (h : I.ok w w.heap.size) (hM : MkAt I gM w) (hk : k < I.n) :
    Calls Tryz.prog 76 #[.pointer (some ⟨gM, 0, none⟩), .int .i64 (k : Nat)] w fun e w' => e = .returned (.int .i64 (isS (I.sty k))) ∧ Below w.heap.size w w' := by
  obtain ⟨b, off, hA, hb, hr⟩ := h.row hk
  have hl := h.hl
  have hz : (I.sty k).length = 118 := BxV.sty_len hl (by rw [h.same]; exact hk)
  have hkl : k < I.nl := by rw [h.same]; exact hk
  have hklb : k ≤ 200 := by have := h.n0; omega
  obtain ⟨zs, hzs⟩ : ∃ zs, zs = I.sty k := ⟨_, rfl⟩
  rw [← hzs] at hr hz ⊢
  have HR := Lib.hid hr
  have HSZ : Hid ((Tryz.prog.info? 35).map (·.size) = some (sty zs).toList.length) := by show _ = _; rw [Array.length_toList, sty_size, hz]; kernel_rfl
  have m1 : w.cell? ⟨gM, 1, none⟩ = some (.slice (some ⟨b, off, none⟩) I.nl I.cl) := by rw [← hA]; exact hM.2.2
  have z1 : w.cell? ⟨b, off + k * 118 + 1, none⟩ = some (.int .i64 (stN zs 0)) := hr 1 _ (by rw [Array.getElem?_toList]; exact sty_at zs 1 (by omega))
  have HO := Lib.hid (rout_calls zs w hz)
  have HIS : Hid (isS zs = isV (stN zs 0) (outS zs)) := rfl
  generalize stN zs 0 = d at z1 HIS
  generalize outS zs = o at HO HIS
  clear h hr hzs hb hl hA hz
  go_enter Tryz.func76, Tryz.ntmps76
  by_cases ho : 0 < o
  · have q0 : decide (0 < o) = true := decide_eq_true ho
    have HHS : Hid (∀ ww : World, Calls Tryz.prog 126 #[.slice (some ⟨ww.heap.size, 0, none⟩) 4 4, .int .i64 d] (ww.alloc (.cells #[.int .i64 1, .int .i64 3, .int .i64 6, .int .i64 7] 3)) fun e w' => e = .returned (.bool ([1, 3, 6, 7].any fun z => decide (d = z))) ∧ (ww.alloc (.cells #[.int .i64 1, .int .i64 3, .int .i64 6, .int .i64 7] 3)) = w') := fun ww => by
      have hown := World.ownsRow_lit (base := ww.heap.size) (size := 1) (e := 3) ww #[.int .i64 1, .int .i64 3, .int .i64 6, .int .i64 7] 4 (Nat.le_refl _) (by unfold maxLen; omega) rfl
      exact hasB_calls _ 4 4 [1, 3, 6, 7] d _ rfl (Holds.of_own hown) (by omega)
    obtain ⟨hs, hhs⟩ : ∃ hs, hs = [1, 3, 6, 7].any fun z => decide (d = z) := ⟨_, rfl⟩
    rw [← hhs] at HHS
    have HE0 : Hid (isS zs = if hs = true then 2 else d) := by
      show _ = _
      rw [HIS.out, hhs]
      unfold isV
      by_cases h0 : d = 1 <;> by_cases h1 : d = 3 <;> by_cases h2 : d = 6 <;> by_cases h3 : d = 7 <;> simp [ho, h0, h1, h2, h3]
    clear ho hhs HIS
    have hbz := Below.refl w.heap.size w
    clear hbz
    cases hs
    · go_wp2_with (first | (refine wpList_load_mid rfl 35 _ rfl b (off + k * 118) rfl (sty zs).toList _ HR.out Tryz.underlying35 rfl HSZ.out ?_) | (go_at_call 10; refine HO.out.mono ?_; rintro e w3 ⟨rfl, hb3⟩; have HB3 := Lib.hid hb3; clear hb3) | (go_at_call 126; refine (HHS.out w3).mono ?_; rintro e w4 ⟨rfl, rfl⟩))
      go_ret
      exact ⟨by rw [HE0.out]; rfl, below_alloc HB3.out _⟩
    · go_wp2_with (first | (refine wpList_load_mid rfl 35 _ rfl b (off + k * 118) rfl (sty zs).toList _ HR.out Tryz.underlying35 rfl HSZ.out ?_) | (go_at_call 10; refine HO.out.mono ?_; rintro e w3 ⟨rfl, hb3⟩; have HB3 := Lib.hid hb3; clear hb3) | (go_at_call 126; refine (HHS.out w3).mono ?_; rintro e w4 ⟨rfl, rfl⟩))
      go_ret
      exact ⟨by rw [HE0.out]; rfl, below_alloc HB3.out _⟩
  · have q0 : decide (0 < o) = false := decide_eq_false ho
    have HE : Hid (isS zs = d) := by show _ = _; rw [HIS.out]; unfold isV; rw [if_neg (fun h => ho h.1)]
    clear ho
    go_wp2_with (first | (refine wpList_load_mid rfl 35 _ rfl b (off + k * 118) rfl (sty zs).toList _ HR.out Tryz.underlying35 rfl HSZ.out ?_) | (go_at_call 10; refine HO.out.mono ?_; rintro e w3 ⟨rfl, hb3⟩; have HB3 := Lib.hid hb3; clear hb3) | (go_at_call 126; refine (HHS.out w3).mono ?_; rintro e w4 ⟨rfl, rfl⟩))
    go_ret
    exact ⟨by rw [HE.out]; rfl, HB3.out⟩
end Go.Proofs.YtkmmlcnoeeaekaaGreatDoor
/- Contract of the reference's content: a step. -/
namespace Go.Proofs.YtkmmlcnoeeaekaaGreatDoor
open Go.RowKit
set_option linter.unusedVariables false
set_option linter.unusedSimpArgs false

set_option maxRecDepth 100000 in
set_option maxHeartbeats 8000000 in
theorem rcontent_step (I : BxV) (hc : checkE I.ns = 0) (gM n : Nat) (w : World) (h : I.ok w w.heap.size) (hM : MkAt I gM w) (hn : n < I.n)
    (IH : ∀ (k : Nat) (w' : World), k ∈ kidN I.ns n → I.ok w' w'.heap.size → MkAt I gM w' → Calls Tryz.prog 35 #[.pointer (some ⟨gM, 0, none⟩), .int .i64 (k : Nat)] w' fun e w2 => ∃ A' c', e = .returned (.slice A' ((docB I (docOk hc)).content k).length c') ∧ w2.ownsRow w'.heap.size 3 1 (.slice A' ((docB I (docOk hc)).content k).length c') ((docB I (docOk hc)).content k).length (nums ((docB I (docOk hc)).content k)) ∧ Below w'.heap.size w' w2) :
    Calls Tryz.prog 35 #[.pointer (some ⟨gM, 0, none⟩), .int .i64 (n : Nat)] w fun e w2 => ∃ A' c', e = .returned (.slice A' ((docB I (docOk hc)).content n).length c') ∧ w2.ownsRow w.heap.size 3 1 (.slice A' ((docB I (docOk hc)).content n).length c') ((docB I (docOk hc)).content n).length (nums ((docB I (docOk hc)).content n)) ∧ Below w.heap.size w w2 := by
  obtain ⟨iI, hiI, hzI0, hzI1, hzI2⟩ := info_partsK info_intB
  have hd := docOk hc
  have hclen := content_len I hc
  obtain ⟨X, hX⟩ : ∃ X, X = docB I (docOk hc) := ⟨_, rfl⟩
  rw [← hX] at IH hclen ⊢
  have hXn : ∀ k, X.nk k = (nd I.ns k).kind := fun k => by rw [hX]; rfl
  have hXi : ∀ k, X.is k = isS (I.sty k) := fun k => by rw [hX]; rfl
  have hce : X.content n = (kidN I.ns n).flatMap (kidC X) := by rw [X.content_eq, hX]; rfl
  have hnl : n < I.ns.length := by rw [h.hn]; exact hn
  have hkn : kidN I.ns n = (nd I.ns n).kids.map Int.toNat := by unfold kidN; rw [if_pos hnl]
  have HKN := Lib.hid hkn
  have HKO : Hid (∀ k ∈ (nd I.ns n).kids, 0 ≤ k ∧ k < I.ns.length) := fun k hk => ⟨(hd.kids n hnl k hk).1, (hd.kids n hnl k hk).2.1⟩
  have HW := Lib.hid (Below.refl w.heap.size w)
  have HM := Lib.hid hM
  have HOK := Lib.hid h
  have HIH := Lib.hid IH
  have HLEN := Lib.hid hclen
  have HXN := Lib.hid hXn
  have HXI := Lib.hid hXi
  have HCE := Lib.hid hce
  have hnb : n ≤ 200 := by have := h.n0; omega
  have HNN := Lib.hid (And.intro h.hn h.n0)
  obtain ⟨TT, hTT⟩ : ∃ TT, TT = X.content n := ⟨_, rfl⟩
  rw [← hTT] at HCE ⊢
  have htl : TT.length ≤ 200 := by rw [hTT]; exact hclen n
  clear h hM IH hclen hX hXn hXi hce hnl hkn hd hTT
  go_enter Tryz.func35, Tryz.ntmps35
  go_upto_region 1 with fail
  obtain ⟨w1, hw1⟩ : ∃ w1, w1 = w := ⟨_, rfl⟩
  rw [← hw1] at HM HOK ⊢
  have HW : Hid (Below w.heap.size w w1) := by rw [hw1]; exact HW.out
  have HWS : Hid (w1.heap.size = w.heap.size) := by show _ = _; rw [hw1]
  clear hw1
  obtain ⟨b, off, hA, hbb, hcells, hin⟩ := node_cells HOK.out hn
  have m0 : w1.cell? ⟨gM, 0, none⟩ = some (.slice (some ⟨b, off, none⟩) I.n I.c) := by rw [← hA]; exact HM.out.2.1
  have k5 : w1.cell? ⟨b, off + n * 6 + 5, none⟩ = some (.slice (nd I.ns n).kidsA (nd I.ns n).kids.length (nd I.ns n).kcap) := hcells 5 (by omega)
  have HKD := Lib.hid hin.kids
  have hkn := hin.kn
  have HA := Lib.hid hA
  have HBB := Lib.hid hbb
  clear hcells hin hA hbb
  obtain ⟨ks, hks⟩ : ∃ ks, ks = (nd I.ns n).kids := ⟨_, rfl⟩
  rw [← hks] at k5 HKD hkn HKO HKN
  generalize (nd I.ns n).kidsA = kA at k5 HKD
  generalize (nd I.ns n).kcap = kc at k5
  clear hks
  go_wp2_with fail
  go_loopw [5, 17] (fun vo i wr => ∃ (j : Nat) (A2 : Option Addr) (n2 c2 : Nat) (acc : List Nat), j ≤ ks.length ∧ i = .int .i64 (j : Nat) ∧ vo = .slice A2 n2 c2 ∧ Hid (acc.length = n2) ∧ Hid (wr.ownsRow w1.heap.size 3 1 (.slice A2 n2 c2) n2 (nums acc)) ∧ Hid (Below w1.heap.size w1 wr) ∧ Hid (TT = acc ++ ((kidN I.ns n).drop j).flatMap (kidC X))) (fun _ i _ => ks.length - (intOf i).toNat)
  case atStart => exact ⟨0, none, 0, 0, [], Nat.zero_le _, rfl, rfl, rfl, World.ownsRow_nil _ _ _ _, Below.refl _ _, by show _ = _; rw [List.nil_append, List.drop_zero]; exact HCE.out⟩
  case round =>
    obtain ⟨j, A2, n2, c2, acc, hj, rfl, rfl, HAL, HO, HB, HTT⟩ := hrel
    have hn2 : n2 ≤ 200 := by
      have h1 := congrArg List.length HTT.out
      rw [List.length_append] at h1
      have h2 := HAL.out
      omega
    by_cases hlt : j < ks.length
    · obtain ⟨bk, ok, hkA, hbk, hkc⟩ := (HKD.out.below HB.out (Nat.le_refl _)).ints hlt
      subst hkA
      obtain ⟨k, hk⟩ : ∃ k, k = (ks.getD j 0).toNat := ⟨_, rfl⟩
      have hmem : ks.getD j 0 ∈ ks := by rw [List.getD_eq_getElem?_getD, List.getElem?_eq_getElem hlt]; exact List.getElem_mem hlt
      have hko := HKO.out _ hmem
      have hkz : ks.getD j 0 = (k : Int) := by omega
      rw [hkz] at hkc
      have hkn2 : k < I.n := by have := HNN.out.1; omega
      have hkin : k ∈ kidN I.ns n := by rw [HKN.out, List.mem_map]; exact ⟨_, hmem, by rw [hk]⟩
      have HDR : Hid ((kidN I.ns n).drop j = k :: (kidN I.ns n).drop (j + 1)) := by
        show _ = _
        rw [HKN.out, List.drop_eq_getElem_cons (by simpa using hlt)]
        congr 1
        rw [List.getElem_map, hk, List.getD_eq_getElem?_getD, List.getElem?_eq_getElem hlt]
        rfl
      obtain ⟨kd, hkd⟩ : ∃ kd, kd = (nd I.ns k).kind := ⟨_, rfl⟩
      have HMC : Hid (∀ ww, Below w1.heap.size w1 ww → ww.cell? ⟨gM, 0, none⟩ = some (.slice (some ⟨b, off, none⟩) I.n I.c) ∧ ww.cell? ⟨gM, 1, none⟩ = some (.slice I.Al I.nl I.cl) ∧ ww.cell? ⟨b, off + k * 6, none⟩ = some (.int .i64 kd) ∧ ww.cell? ⟨b, off + n * 6 + 5, none⟩ = ww.cell? ⟨b, off + n * 6 + 5, none⟩) := fun ww hb => by
        obtain ⟨b2, off2, hA2, hbb2, hc2, _⟩ := node_cells HOK.out hkn2
        rw [HA.out] at hA2
        injection hA2 with e
        injection e with e1 e2
        subst e1; subst e2
        have h0 := hc2 0 (by omega)
        refine ⟨(hb.cell (p := ⟨gM, 0, none⟩) HM.out.1).trans (by rw [← HA.out]; exact HM.out.2.1), (hb.cell (p := ⟨gM, 1, none⟩) HM.out.1).trans HM.out.2.2, (hb.cell (p := ⟨b, off + k * 6, none⟩) hbb2).trans (h0.trans ?_), rfl⟩
        rw [hkd]; rfl
      have HIS : Hid (∀ ww, Below w1.heap.size w1 ww → Calls Tryz.prog 76 #[.pointer (some ⟨gM, 0, none⟩), .int .i64 (k : Nat)] ww fun e w' => e = .returned (.int .i64 (X.is k)) ∧ Below ww.heap.size ww w') := fun ww hb => by
        have h9 := ris_calls I gM k ww ((HOK.out.below hb (Nat.le_refl _)).more hb.size) (HM.out.below hb) hkn2
        rw [← HXI.out k] at h9
        exact h9
      have HREC : Hid (∀ ww, Below w1.heap.size w1 ww → (X.content k).length ≤ 200 ∧ Calls Tryz.prog 35 #[.pointer (some ⟨gM, 0, none⟩), .int .i64 (k : Nat)] ww fun e w2 => ∃ A' c', e = .returned (.slice A' (X.content k).length c') ∧ w2.ownsRow ww.heap.size 3 1 (.slice A' (X.content k).length c') (X.content k).length (nums (X.content k)) ∧ Below ww.heap.size ww w2) := fun ww hb => by
        have h9 := HIH.out k ww hkin ((HOK.out.below hb (Nat.le_refl _)).more hb.size) (HM.out.below hb)
        exact ⟨HLEN.out k, h9⟩
      obtain ⟨m0, m1, m2, m3⟩ := HMC.out wr HB.out
      have HKCE : Hid (kidC X k = if kd = 3 then [k] else if kd ≠ 2 ∨ X.is k = 0 then [] else if X.is k = 9 then X.content k else [k]) := by
        show _ = _
        unfold kidC
        rw [HXN.out k, ← hkd]
      generalize X.is k = iv at HIS HKCE
      generalize hcc : X.content k = ck at HREC HKCE
      clear hk hmem hko hkz hkin hkd hcc m3 hbk
      by_cases h3 : kd = 3
      · have q3 : (kd == 3) = true := by simp [h3]
        have q2 : (kd == 2) = false := by simp [h3]
        have HKC : Hid (kidC X k = [k]) := by show _ = _; rw [HKCE.out, if_pos h3]
        clear h3 HKCE
        have HOA := Lib.hid (own_below HO.out (below_alloc (Below.refl wr.heap.size wr) (.cells #[.int .i64 (k : Nat)] 3)))
        have HBA := Lib.hid (below_alloc HB.out (.cells #[.int .i64 (k : Nat)] 3))
        have HNB := Lib.hid (Blk.new wr 3 #[.int .i64 (k : Nat)])
        go_wp2_with (at_builtin; refine wpList_append_any rfl _ _ 44 rfl w1.heap.size 3 iI (.int .i64 0) 1 8 Tryz.underlying44 hiI hzI0 hzI1 hzI2 rfl (by decide) (.slice A2 n2 c2) n2 (nums acc) rfl HOA.out (some ⟨wr.heap.size, 0, none⟩) 1 1 [.int .i64 (k : Nat)] rfl rfl (.inl ⟨wr.heap.size, 0, rfl, fun j u hj => by rw [Nat.zero_add, HNB.out.cell j]; simpa using hj⟩) (by intro u hu; simp at hu; subst hu; rfl) (by unfold maxLen; omega) (by omega) HBA.out.size ?_; intro A9 c9 w9 ho9 hg9 hat9; have HO9 := Lib.hid ho9; have HB9 := Lib.hid (HBA.out.grown hg9 HBA.out.size (fun q hq => (HOA.out.lt q hq).1)); obtain ⟨m0, m1, m2, m3⟩ := HMC.out w9 HB9.out; clear ho9 hg9 hat9)
        go_round
        case rel => exact ⟨j + 1, A9, n2 + 1, c9, acc ++ [k], by omega, by go_num, rfl, by show _ = _; rw [List.length_append, HAL.out]; rfl, by show World.ownsRow _ _ _ _ _ _ _; rw [← nums_append]; exact HO9.out, HB9.out, by show _ = _; rw [HTT.out, HDR.out, List.flatMap_cons, HKC.out]; simp [List.append_assoc]⟩
        case measure => simp [intOf]; omega
      · have q3 : (kd == 3) = false := by simp [h3]
        by_cases h2 : kd = 2
        · have q2 : (kd == 2) = true := by simp [h2]
          have HKC0 : Hid (kidC X k = if iv = 0 then [] else if iv = 9 then ck else [k]) := by show _ = _; rw [HKCE.out, if_neg h3, h2]; simp
          clear h3 h2 HKCE
          by_cases i0 : iv = 0
          · have p0 : (iv == 0) = true := by simp [i0]
            have HKC : Hid (kidC X k = []) := by show _ = _; rw [HKC0.out, if_pos i0]
            clear i0 HKC0
            go_wp2_with (go_at_call 76; refine (HIS.out _ HB.out).mono ?_; rintro e w2 ⟨rfl, hbw2⟩; have HO := Lib.hid (own_below HO.out hbw2); have HB := Lib.hid (below_then HB.out hbw2); obtain ⟨m0, m1, m2, m3⟩ := HMC.out w2 HB.out; clear hbw2)
            go_round
            case rel => exact ⟨j + 1, A2, n2, c2, acc, by omega, by go_num, rfl, HAL.out, HO.out, HB.out, by show _ = _; rw [HTT.out, HDR.out, List.flatMap_cons, HKC.out]; simp⟩
            case measure => simp [intOf]; omega
          · have p0 : (iv == 0) = false := by simp [i0]
            by_cases i9 : iv = 9
            · have p9 : (iv == 9) = true := by simp [i9]
              have HKC : Hid (kidC X k = ck) := by show _ = _; rw [HKC0.out, if_neg i0, if_pos i9]
              clear i0 i9 HKC0
              go_upto_region 12 with (go_at_call 76; refine (HIS.out _ HB.out).mono ?_; rintro e w3 ⟨rfl, hbw3⟩; have HO := Lib.hid (own_below HO.out hbw3); have HB := Lib.hid (below_then HB.out hbw3); obtain ⟨m0, m1, m2, m3⟩ := HMC.out w3 HB.out; clear hbw3)
              obtain ⟨hcl, hcr⟩ := HREC.out w3 HB.out
              have HCR := Lib.hid hcr
              clear hcr
              generalize hnc : ck.length = nc at hcl HCR
              have HNC := Lib.hid hnc
              clear hnc
              go_wp2_with (first | (go_at_call 35; refine HCR.out.mono ?_; rintro e w4 ⟨A7, c7, rfl, ho7, hb7⟩; have HOA := Lib.hid (own_below HO.out hb7); have HBA := Lib.hid (below_then HB.out hb7); have HSR := Lib.hid (own_src ho7 rfl); clear ho7 hb7) | (at_builtin; refine wpList_append_any rfl _ _ 44 rfl w1.heap.size 3 iI (.int .i64 0) 1 8 Tryz.underlying44 hiI hzI0 hzI1 hzI2 rfl (by decide) (.slice A2 n2 c2) n2 (nums acc) rfl HOA.out A7 nc c7 (nums ck) rfl (by rw [nums_len, HNC.out]; omega) HSR.out (nums_one _) (by unfold maxLen; omega) (by omega) HBA.out.size ?_; intro A9 c9 w9 ho9 hg9 hat9; have HO9 := Lib.hid ho9; have HB9 := Lib.hid (HBA.out.grown hg9 HBA.out.size (fun q hq => (HOA.out.lt q hq).1)); clear ho9 hg9 hat9))
              go_round
              case rel => exact ⟨j + 1, A9, n2 + nc, c9, acc ++ ck, by omega, by go_num, rfl, by show _ = _; rw [List.length_append, HAL.out, HNC.out], by show World.ownsRow _ _ _ _ _ _ _; rw [← nums_append]; exact HO9.out, HB9.out, by show _ = _; rw [HTT.out, HDR.out, List.flatMap_cons, HKC.out]; simp [List.append_assoc]⟩
              case measure => simp [intOf]; omega
            · have p9 : (iv == 9) = false := by simp [i9]
              have HKC : Hid (kidC X k = [k]) := by show _ = _; rw [HKC0.out, if_neg i0, if_neg i9]
              clear i0 i9 HKC0
              go_upto_region 9 with (go_at_call 76; refine (HIS.out _ HB.out).mono ?_; rintro e w3 ⟨rfl, hbw3⟩; have HO := Lib.hid (own_below HO.out hbw3); have HB := Lib.hid (below_then HB.out hbw3); obtain ⟨m0, m1, m2, m3⟩ := HMC.out w3 HB.out; clear hbw3)
              have HOA := Lib.hid (own_below HO.out (below_alloc (Below.refl w3.heap.size w3) (.cells #[.int .i64 (k : Nat)] 3)))
              have HBA := Lib.hid (below_alloc HB.out (.cells #[.int .i64 (k : Nat)] 3))
              have HNB := Lib.hid (Blk.new w3 3 #[.int .i64 (k : Nat)])
              go_wp2_with (at_builtin; refine wpList_append_any rfl _ _ 44 rfl w1.heap.size 3 iI (.int .i64 0) 1 8 Tryz.underlying44 hiI hzI0 hzI1 hzI2 rfl (by decide) (.slice A2 n2 c2) n2 (nums acc) rfl HOA.out (some ⟨w3.heap.size, 0, none⟩) 1 1 [.int .i64 (k : Nat)] rfl rfl (.inl ⟨w3.heap.size, 0, rfl, fun j u hj => by rw [Nat.zero_add, HNB.out.cell j]; simpa using hj⟩) (by intro u hu; simp at hu; subst hu; rfl) (by unfold maxLen; omega) (by omega) HBA.out.size ?_; intro A9 c9 w9 ho9 hg9 hat9; have HO9 := Lib.hid ho9; have HB9 := Lib.hid (HBA.out.grown hg9 HBA.out.size (fun q hq => (HOA.out.lt q hq).1)); clear ho9 hg9 hat9)
              go_round
              case rel => exact ⟨j + 1, A9, n2 + 1, c9, acc ++ [k], by omega, by go_num, rfl, by show _ = _; rw [List.length_append, HAL.out]; rfl, by show World.ownsRow _ _ _ _ _ _ _; rw [← nums_append]; exact HO9.out, HB9.out, by show _ = _; rw [HTT.out, HDR.out, List.flatMap_cons, HKC.out]; simp [List.append_assoc]⟩
              case measure => simp [intOf]; omega
        · have q2 : (kd == 2) = false := by simp [h2]
          have HKC : Hid (kidC X k = []) := by show _ = _; rw [HKCE.out, if_neg h3, if_pos (.inl h2)]
          clear h3 h2 HKCE
          go_wp2_with fail
          go_round
          case rel => exact ⟨j + 1, A2, n2, c2, acc, by omega, by go_num, rfl, HAL.out, HO.out, HB.out, by show _ = _; rw [HTT.out, HDR.out, List.flatMap_cons, HKC.out]; simp⟩
          case measure => simp [intOf]; omega
    · have e : (kidN I.ns n).drop j = [] := by rw [HKN.out]; apply List.drop_eq_nil_of_le; simp; omega
      have HTA : Hid (TT = acc) := by show _ = _; rw [HTT.out, e]; simp
      clear e
      go_wp2_with fail
      go_ret
      refine ⟨A2, c2, by rw [HTA.out, HAL.out]; rfl, ?_, below_then HW.out HB.out⟩
      rw [HTA.out, HAL.out]
      exact own_baseH HO.out HW.out.size
end Go.Proofs.YtkmmlcnoeeaekaaGreatDoor
