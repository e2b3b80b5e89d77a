/- Several texts in one: BxKi. -/
import Derived.Test.YtkmmlcnoeeaekaaGreatDoorBoxesMakeM34
/- Contracts of the reference's kinds: blocky, some, find, kind. -/
namespace Go.Proofs.YtkmmlcnoeeaekaaGreatDoor
open Go.RowKit Go.Maps
set_option linter.unusedVariables false
set_option linter.unusedSimpArgs false

/-- A call that tells a value; the boxes stay. -/
def Tells (X : DocB) (I : BxV) (base gM bK : Nat) (v : Value) (O : Nat → Prop) (S : List PBox) (w : World) (e : Ending) (w' : World) : Prop := e = .returned v ∧ RSB X I base gM bK O w' S ∧ TurnW O w O w'
/-- What kind says. -/
def KindSays (X : DocB) (I : BxV) (base gM bK n : Nat) : Prop := ∀ (O : Nat → Prop) (S : List PBox) (w : World), RSB X I base gM bK O w S → Calls Tryz.prog 115 #[.pointer (some ⟨gM, 0, none⟩), .int .i64 (n : Nat)] w (Tells X I base gM bK (.int .i64 (X.kindN n)) O S w)
def BlockySays (X : DocB) (I : BxV) (base gM bK n : Nat) (o : Int) : Prop := ∀ (O : Nat → Prop) (S : List PBox) (w : World), RSB X I base gM bK O w S → Calls Tryz.prog 72 #[.pointer (some ⟨gM, 0, none⟩), .int .i64 (n : Nat), .int .i64 o] w (Tells X I base gM bK (.bool (X.blockyN o n)) O S w)
theorem TurnW.thenB {O O' : Nat → Prop} {w w' w'' : World} (h : TurnW O w O' w') (hb : Below w'.heap.size w' w'') : TurnW O w O' w'' := h.trans (TurnW.below hb)
set_option maxRecDepth 100000 in
set_option maxHeartbeats 4000000 in
theorem rblocky_calls (I : BxV) (hc : checkE I.ns = 0) (base gM bK n : Nat) (o : Int) (hn : n < I.n) (HK : KindSays (docB I (docOk hc)) I base gM bK n) : BlockySays (docB I (docOk hc)) I base gM bK n o := by
  intro O S w h
  have HK0 := Lib.hid (HK O S w h)
  have hok := h.okI
  obtain ⟨b, off, hA, hb, hr⟩ := hok.row hn
  have hl := hok.hl
  have hz : (I.sty n).length = 118 := BxV.sty_len hl (by rw [hok.same]; exact hn)
  have hkl : n < I.nl := by rw [hok.same]; exact hn
  have hklb : n ≤ 200 := by have := hok.n0; omega
  have HV : Hid ((docB I (docOk hc)).blockyN o n = (isBlk ((docB I (docOk hc)).kindN n) && decide (outS (I.sty n) < o))) := rfl
  have HSTY : Hid (∀ w', I.ok w' w'.heap.size → ∃ b', I.Al = some ⟨b', off, none⟩ ∧ w'.rangeAt b' (off + n * 118) (sty (I.sty n)).toList) := fun w' hw' => by
    obtain ⟨b', off', hA', _, hr'⟩ := hw'.row hn
    rw [hA] at hA'
    injection hA' with hA'
    injection hA' with h1 h2
    subst h1; subst h2
    exact ⟨b, hA, hr'⟩
  unfold Tells at HK0 ⊢
  generalize (docB I (docOk hc)).blockyN o n = r at HV ⊢
  generalize (docB I (docOk hc)).kindN n = kd at HK0 HV
  obtain ⟨zs, hzs⟩ : ∃ zs, zs = I.sty n := ⟨_, rfl⟩
  rw [← hzs] at hr hz HV HSTY
  have HSZ : Hid ((Tryz.prog.info? 35).map (·.size) = some (sty zs).toList.length) := by show _ = _; rw [Array.length_toList, sty_size, hz]; kernel_rfl
  have HO := Lib.hid (fun w' => rout_calls zs w' hz)
  generalize outS zs = os at HO HV
  have HA := Lib.hid hA
  clear h hok hr hl hb hzs hA HK
  go_enter Tryz.func72, Tryz.ntmps72
  by_cases hk : isBlk kd = true
  · have HE : Hid (r = decide (os < o)) := by show _ = _; rw [HV.out, hk]; rfl
    have hcase : kd = 1 ∨ kd = 2 ∨ kd = 6 ∨ kd = 7 := by
      unfold isBlk at hk
      simp at hk
      omega
    clear hk HV
    rcases hcase with rfl | rfl | rfl | rfl
    all_goals
      go_wp2_with (first | (go_at_call 115; refine HK0.out.mono ?_; rintro e w3 ⟨rfl, hr3, ht3⟩; obtain ⟨b', hA', hrg⟩ := HSTY.out w3 hr3.okI; have m1 : w3.cell? ⟨gM, 1, none⟩ = some (.slice (some ⟨b', off, none⟩) I.nl I.cl) := (by rw [← hA']; exact hr3.mk.2.2); have HRG := Lib.hid hrg; have HR3 := Lib.hid hr3; have HT3 := Lib.hid ht3; clear hr3 ht3 hrg hA') | (refine wpList_load_midB (by kernel_rfl) 35 _ rfl b' (off + n * 118) rfl (sty zs).toList _ HRG.out Tryz.underlying35 rfl HSZ.out ?_) | (go_at_call 10; refine (HO.out w3).mono ?_; rintro e w4 ⟨rfl, hb4⟩; have HB4 := Lib.hid hb4; clear hb4))
      go_ret
      exact ⟨by rw [HE.out]; rfl, HR3.out.below HB4.out, HT3.out.thenB HB4.out⟩
  · have hk' : isBlk kd = false := by simpa using hk
    have HE : Hid (r = false) := by show _ = _; rw [HV.out, hk']; rfl
    have q1 : (kd == 1) = false := by unfold isBlk at hk'; cases h1 : kd == 1 <;> simp_all
    have q2 : (kd == 2) = false := by unfold isBlk at hk'; cases h1 : kd == 2 <;> simp_all
    have q6 : (kd == 6) = false := by unfold isBlk at hk'; cases h1 : kd == 6 <;> simp_all
    have q7 : (kd == 7) = false := by unfold isBlk at hk'; cases h1 : kd == 7 <;> simp_all
    clear hk hk' HV
    go_wp2_with (go_at_call 115; refine HK0.out.mono ?_; rintro e w3 ⟨rfl, hr3, ht3⟩; have HR3 := Lib.hid hr3; have HT3 := Lib.hid ht3; clear hr3 ht3)
    go_ret
    exact ⟨by rw [HE.out]; rfl, HR3.out, HT3.out⟩
set_option maxRecDepth 100000 in
set_option maxHeartbeats 4000000 in
theorem rsome_calls (X : DocB) (I : BxV) (base gM bK : Nat) (l : List Nat) (A : Option Addr) (n c : Nat) (o : Int) (O : Nat → Prop) (S : List PBox) (w : World) (h : RSB X I base gM bK O w S) (hl : l.length = n) (hL : Held O w A l) (hm : n ≤ 1000) (HB : ∀ k ∈ l, BlockySays X I base gM bK k o) :
    Calls Tryz.prog 67 #[.pointer (some ⟨gM, 0, none⟩), .slice A n c, .int .i64 o] w (Tells X I base gM bK (.bool (l.any (X.blockyN o))) O S w) := by
  have HH := Lib.hid hL
  have HN := Lib.hid hl
  have HR0 := Lib.hid h
  have HBS := Lib.hid HB
  obtain ⟨r, hr⟩ : ∃ r, r = l.any (X.blockyN o) := ⟨_, rfl⟩
  rw [← hr]
  have HR := Lib.hid hr
  unfold Tells
  clear h hl hL hr HB
  go_enter Tryz.func67, Tryz.ntmps67
  go_wp2_with fail
  go_loopw [11] (fun i wr => ∃ k : Nat, k ≤ n ∧ i = .int .i64 k ∧ Hid (r = (l.drop k).any (X.blockyN o)) ∧ Hid (RSB X I base gM bK O wr S) ∧ Hid (TurnW O w O wr)) (fun i _ => n - (intOf i).toNat)
  case atStart => exact ⟨0, Nat.zero_le _, rfl, HR.out, HR0.out, TurnW.refl _ _⟩
  case round =>
    obtain ⟨k, hk, rfl, HK, HS, HT⟩ := hrel
    by_cases hlt : k < n
    · have hkl : k < l.length := by rw [HN.out]; exact hlt
      obtain ⟨b, off, hA, hb, ho, hc⟩ := (HH.out.turn HT.out) (by omega)
      subst hA
      have c0 := hc k hkl
      obtain ⟨t, ht⟩ : ∃ t, t = l.getD k 0 := ⟨_, rfl⟩
      rw [← ht] at c0
      have htk : l[k] = t := by rw [ht, List.getD_eq_getElem?_getD, List.getElem?_eq_getElem hkl]; rfl
      have HD : Hid (l.drop k = t :: l.drop (k + 1)) := by show _ = _; rw [List.drop_eq_getElem_cons hkl, htk]
      have hmem : t ∈ l := by rw [← htk]; exact List.getElem_mem hkl
      have hcb := HBS.out t hmem O S wr HS.out
      unfold Tells at hcb
      have HC := Lib.hid hcb
      clear ht hkl htk hmem hb ho hc hcb
      obtain ⟨pt, hpt⟩ : ∃ pt, pt = X.blockyN o t := ⟨_, rfl⟩
      rw [← hpt] at HC
      have HPT := Lib.hid hpt
      clear hpt
      cases pt with
      | true =>
        have HE : Hid (r = true) := by show _ = _; rw [HK.out, HD.out, List.any_cons, ← HPT.out]; rfl
        clear HPT HK HD
        go_wp2_with (go_at_call 72; refine HC.out.mono ?_; rintro e w1 ⟨rfl, hr1, ht1⟩; have HR1 := Lib.hid hr1; have HT1 := Lib.hid (HT.out.trans ht1); clear hr1 ht1)
        go_ret
        exact ⟨by rw [HE.out]; rfl, HR1.out, HT1.out⟩
      | false =>
        have HE : Hid (r = (l.drop (k + 1)).any (X.blockyN o)) := by show _ = _; rw [HK.out, HD.out, List.any_cons, ← HPT.out]; rfl
        clear HPT HK HD
        go_wp2_with (go_at_call 72; refine HC.out.mono ?_; rintro e w1 ⟨rfl, hr1, ht1⟩; have HR1 := Lib.hid hr1; have HT1 := Lib.hid (HT.out.trans ht1); clear hr1 ht1)
        go_round
        case rel => exact ⟨k + 1, by omega, by go_num, HE.out, HR1.out, HT1.out⟩
        case measure => simp [intOf]; omega
    · obtain rfl : k = n := by omega
      have HE : Hid (r = false) := by show _ = _; rw [HK.out, ← HN.out, List.drop_length]; rfl
      go_wp2_with fail
      go_ret
      exact ⟨by rw [HE.out]; rfl, HS.out, HT.out⟩
theorem eBR : brS.toList = [98, 114] := by decide +kernel
/-- What content says, its list held. -/
def CtSays (X : DocB) (n : Nat) (O : Nat → Prop) (w : World) (e : Ending) (w2 : World) : Prop := ∃ A' c', e = .returned (.slice A' (X.content n).length c') ∧ Held O w2 A' (X.content n) ∧ Below w.heap.size w w2
theorem rcontent_held (I : BxV) (hc : checkE I.ns = 0) (base gM bK n : Nat) (O : Nat → Prop) (S : List PBox) (w : World) (h : RSB (docB I (docOk hc)) I base gM bK O w S) (hn : n < I.n) :
    Calls Tryz.prog 35 #[.pointer (some ⟨gM, 0, none⟩), .int .i64 (n : Nat)] w (CtSays (docB I (docOk hc)) n O w) :=
  (rcontent_callsB I hc gM _ n w (Nat.lt_succ_self _) h.okI h.mk hn).mono fun e w2 ⟨A', c', he, ho, hb⟩ => ⟨A', c', he, Held.of (Holds.of_own ho) (fun b off hA hO => by
    have h1 := (ho.lt b (by rw [hA]; rfl)).1
    exact h.fresh h1 hO), hb⟩
set_option maxRecDepth 100000 in
set_option maxHeartbeats 8000000 in
theorem rfind_calls (I : BxV) (hc : checkE I.ns = 0) (base gM bK n : Nat) (O : Nat → Prop) (S : List PBox) (w : World) (h : RSB (docB I (docOk hc)) I base gM bK O w S) (hn : n < I.n)
    (HB : ∀ k ∈ (docB I (docOk hc)).content n, BlockySays (docB I (docOk hc)) I base gM bK k 1) :
    Calls Tryz.prog 165 #[.pointer (some ⟨gM, 0, none⟩), .int .i64 (n : Nat)] w (Tells (docB I (docOk hc)) I base gM bK (.int .i64 ((docB I (docOk hc)).kindN n)) O S w) := by
  have hok := h.okI
  have hnb : n ≤ 200 := by have := hok.n0; omega
  obtain ⟨b, off, hA, hbb, hcells, hin⟩ := node_cells hok hn
  have m0 : w.cell? ⟨gM, 0, none⟩ = some (.slice (some ⟨b, off, none⟩) I.n I.c) := by rw [← hA]; exact h.mk.2.1
  have k0 : w.cell? ⟨b, off + n * 6, none⟩ = some (.int .i64 (nd I.ns n).kind) := hcells 0 (by omega)
  have k1 : w.cell? ⟨b, off + n * 6 + 1, none⟩ = some (.string (nd I.ns n).name) := hcells 1 (by omega)
  have HV := Lib.hid ((docB I (docOk hc)).kind_eq n)
  have hclen := content_len I hc n
  have HNK : Hid ((docB I (docOk hc)).nk n = (nd I.ns n).kind) := rfl
  have HBR : Hid ((docB I (docOk hc)).br n = decide ((nd I.ns n).name = brS)) := rfl
  have HIS : Hid ((docB I (docOk hc)).is n = isS (I.sty n)) := rfl
  have HISC := Lib.hid (fun w' (h' : RSB (docB I (docOk hc)) I base gM bK O w' S) => ris_calls I gM n w' h'.okI h'.mk hn)
  have HCT := Lib.hid (fun w' (h' : RSB (docB I (docOk hc)) I base gM bK O w' S) => rcontent_held I hc base gM bK n O S w' h' hn)
  have HSM := Lib.hid (fun (A' : Option Addr) (c' : Nat) w' (h' : RSB (docB I (docOk hc)) I base gM bK O w' S) (hh : Held O w' A' ((docB I (docOk hc)).content n)) => rsome_calls (docB I (docOk hc)) I base gM bK ((docB I (docOk hc)).content n) A' ((docB I (docOk hc)).content n).length c' 1 O S w' h' rfl hh (by omega) HB)
  unfold CtSays at HCT
  unfold Tells at HSM ⊢
  generalize (docB I (docOk hc)).kindN n = kd at HV ⊢
  generalize ((docB I (docOk hc)).content n).any ((docB I (docOk hc)).blockyN 1) = an at HV HSM
  rw [HNK.out, HBR.out, HIS.out] at HV
  generalize isS (I.sty n) = isn at HV HISC
  generalize (nd I.ns n).kind = nk at k0 HV
  generalize (nd I.ns n).name = nm at k1 HV
  generalize (docB I (docOk hc)).content n = CL at HCT HSM
  have HR := Lib.hid h
  have HT := Lib.hid (TurnW.refl O w)
  clear h hok hA hbb hcells hin hclen HNK HBR HIS HB
  go_enter Tryz.func165, Tryz.ntmps165
  by_cases h3 : nk = 3
  · have p3 : (nk == 3) = true := by simp [h3]
    have HE : Hid (kd = 4) := by show _ = _; rw [HV.out, if_pos (.inl h3)]
    clear HV h3
    go_wp2_with fail
    go_ret
    exact ⟨by rw [HE.out]; rfl, HR.out, HT.out⟩
  · have p3 : (nk == 3) = false := by simp [h3]
    have p3i : ¬ nk = 3 := h3
    by_cases hbr : nm = brS
    · have pb : (nm.toList == [98, 114]) = true := by rw [← eBR, str_eqD]; exact decide_eq_true hbr
      by_cases h1 : isn = 1
      · have p1 : (isn == 1) = true := by simp [h1]
        have HE : Hid (kd = 4) := by show _ = _; rw [HV.out, if_pos (.inr ⟨by simp [hbr], h1⟩)]
        clear HV h3 p3i h1 hbr
        go_wp2_with ((go_at_call 76; refine (HISC.out _ HR.out).mono ?_; rintro e w2 ⟨rfl, hb2⟩; replace HR := Lib.hid (HR.out.below hb2); replace HT := Lib.hid (HT.out.thenB hb2); clear hb2))
        go_ret
        exact ⟨by rw [HE.out]; rfl, HR.out, HT.out⟩
      · have hor : ¬ (nk = 3 ∨ (decide (nm = brS) = true ∧ isn = 1)) := fun h => h.elim h3 (fun h => h1 h.2)
        rw [if_neg hor] at HV
        clear hor hbr p3i h3
        have p1 : (isn == 1) = false := by simp [h1]
        by_cases h3 : isn = 3
        · have p3 : (isn == 3) = true := by simp [h3]
          have HE : Hid (kd = 5) := by show _ = _; rw [HV.out]; simp [h3]
          clear HV h1 h3
          go_wp2_with ((go_at_call 76; refine (HISC.out _ HR.out).mono ?_; rintro e w2 ⟨rfl, hb2⟩; replace HR := Lib.hid (HR.out.below hb2); replace HT := Lib.hid (HT.out.thenB hb2); clear hb2))
          go_ret
          exact ⟨by rw [HE.out]; rfl, HR.out, HT.out⟩
        · have p3 : (isn == 3) = false := by simp [h3]
          by_cases h4 : isn = 4
          · have p4 : (isn == 4) = true := by simp [h4]
            have HE : Hid (kd = 6) := by show _ = _; rw [HV.out]; simp [h4]
            clear HV h1 h3 h4
            go_wp2_with ((go_at_call 76; refine (HISC.out _ HR.out).mono ?_; rintro e w2 ⟨rfl, hb2⟩; replace HR := Lib.hid (HR.out.below hb2); replace HT := Lib.hid (HT.out.thenB hb2); clear hb2))
            go_ret
            exact ⟨by rw [HE.out]; rfl, HR.out, HT.out⟩
          · have p4 : (isn == 4) = false := by simp [h4]
            by_cases h5 : isn = 5
            · have p5 : (isn == 5) = true := by simp [h5]
              have HE : Hid (kd = 7) := by show _ = _; rw [HV.out]; simp [h5]
              clear HV h1 h3 h4 h5
              go_wp2_with ((go_at_call 76; refine (HISC.out _ HR.out).mono ?_; rintro e w2 ⟨rfl, hb2⟩; replace HR := Lib.hid (HR.out.below hb2); replace HT := Lib.hid (HT.out.thenB hb2); clear hb2))
              go_ret
              exact ⟨by rw [HE.out]; rfl, HR.out, HT.out⟩
            · have p5 : (isn == 5) = false := by simp [h5]
              cases an with
              | false =>
                have HE : Hid (kd = 2) := by show _ = _; rw [HV.out]; simp [h1, h3, h4, h5]
                clear HV h1 h3 h4 h5
                go_wp2_with (first | (go_at_call 76; refine (HISC.out _ HR.out).mono ?_; rintro e w2 ⟨rfl, hb2⟩; replace HR := Lib.hid (HR.out.below hb2); replace HT := Lib.hid (HT.out.thenB hb2); clear hb2) | (go_at_call 35; refine (HCT.out _ HR.out).mono ?_; rintro e w3 ⟨A', c', rfl, hh, hb3⟩; have HHD := Lib.hid hh; replace HR := Lib.hid (HR.out.below hb3); replace HT := Lib.hid (HT.out.thenB hb3); clear hh hb3) | (go_at_call 67; refine (HSM.out _ _ _ HR.out HHD.out).mono ?_; rintro e w4 ⟨rfl, hr4, ht4⟩; replace HR := Lib.hid hr4; replace HT := Lib.hid (HT.out.trans ht4); clear hr4 ht4))
                go_ret
                exact ⟨by rw [HE.out]; rfl, HR.out, HT.out⟩
              | true =>
                have HE : Hid (kd = 1) := by show _ = _; rw [HV.out]; simp [h1, h3, h4, h5]
                clear HV h1 h3 h4 h5
                go_wp2_with (first | (go_at_call 76; refine (HISC.out _ HR.out).mono ?_; rintro e w2 ⟨rfl, hb2⟩; replace HR := Lib.hid (HR.out.below hb2); replace HT := Lib.hid (HT.out.thenB hb2); clear hb2) | (go_at_call 35; refine (HCT.out _ HR.out).mono ?_; rintro e w3 ⟨A', c', rfl, hh, hb3⟩; have HHD := Lib.hid hh; replace HR := Lib.hid (HR.out.below hb3); replace HT := Lib.hid (HT.out.thenB hb3); clear hh hb3) | (go_at_call 67; refine (HSM.out _ _ _ HR.out HHD.out).mono ?_; rintro e w4 ⟨rfl, hr4, ht4⟩; replace HR := Lib.hid hr4; replace HT := Lib.hid (HT.out.trans ht4); clear hr4 ht4))
                go_ret
                exact ⟨by rw [HE.out]; rfl, HR.out, HT.out⟩
    · have hor : ¬ (nk = 3 ∨ (decide (nm = brS) = true ∧ isn = 1)) := fun h => h.elim h3 (fun h => hbr (by simpa using h.1))
      rw [if_neg hor] at HV
      have pb : (nm.toList == [98, 114]) = false := by rw [← eBR, str_eqD]; exact decide_eq_false hbr
      clear hor hbr p3i h3
      by_cases h1 : isn = 1
      · have p1 : (isn == 1) = true := by simp [h1]
        cases an with
        | false =>
          have HE : Hid (kd = 3) := by show _ = _; rw [HV.out]; simp [h1]
          clear HV h1
          go_wp2_with (first | (go_at_call 76; refine (HISC.out _ HR.out).mono ?_; rintro e w2 ⟨rfl, hb2⟩; replace HR := Lib.hid (HR.out.below hb2); replace HT := Lib.hid (HT.out.thenB hb2); clear hb2) | (go_at_call 35; refine (HCT.out _ HR.out).mono ?_; rintro e w3 ⟨A', c', rfl, hh, hb3⟩; have HHD := Lib.hid hh; replace HR := Lib.hid (HR.out.below hb3); replace HT := Lib.hid (HT.out.thenB hb3); clear hh hb3) | (go_at_call 67; refine (HSM.out _ _ _ HR.out HHD.out).mono ?_; rintro e w4 ⟨rfl, hr4, ht4⟩; replace HR := Lib.hid hr4; replace HT := Lib.hid (HT.out.trans ht4); clear hr4 ht4))
          go_ret
          exact ⟨by rw [HE.out]; rfl, HR.out, HT.out⟩
        | true =>
          have HE : Hid (kd = 1) := by show _ = _; rw [HV.out]; simp [h1]
          clear HV h1
          go_wp2_with (first | (go_at_call 76; refine (HISC.out _ HR.out).mono ?_; rintro e w2 ⟨rfl, hb2⟩; replace HR := Lib.hid (HR.out.below hb2); replace HT := Lib.hid (HT.out.thenB hb2); clear hb2) | (go_at_call 35; refine (HCT.out _ HR.out).mono ?_; rintro e w3 ⟨A', c', rfl, hh, hb3⟩; have HHD := Lib.hid hh; replace HR := Lib.hid (HR.out.below hb3); replace HT := Lib.hid (HT.out.thenB hb3); clear hh hb3) | (go_at_call 67; refine (HSM.out _ _ _ HR.out HHD.out).mono ?_; rintro e w4 ⟨rfl, hr4, ht4⟩; replace HR := Lib.hid hr4; replace HT := Lib.hid (HT.out.trans ht4); clear hr4 ht4))
          go_ret
          exact ⟨by rw [HE.out]; rfl, HR.out, HT.out⟩
      · have p1 : (isn == 1) = false := by simp [h1]
        by_cases h3 : isn = 3
        · have p3 : (isn == 3) = true := by simp [h3]
          have HE : Hid (kd = 5) := by show _ = _; rw [HV.out]; simp [h3]
          clear HV h1 h3
          go_wp2_with ((go_at_call 76; refine (HISC.out _ HR.out).mono ?_; rintro e w2 ⟨rfl, hb2⟩; replace HR := Lib.hid (HR.out.below hb2); replace HT := Lib.hid (HT.out.thenB hb2); clear hb2))
          go_ret
          exact ⟨by rw [HE.out]; rfl, HR.out, HT.out⟩
        · have p3 : (isn == 3) = false := by simp [h3]
          by_cases h4 : isn = 4
          · have p4 : (isn == 4) = true := by simp [h4]
            have HE : Hid (kd = 6) := by show _ = _; rw [HV.out]; simp [h4]
            clear HV h1 h3 h4
            go_wp2_with ((go_at_call 76; refine (HISC.out _ HR.out).mono ?_; rintro e w2 ⟨rfl, hb2⟩; replace HR := Lib.hid (HR.out.below hb2); replace HT := Lib.hid (HT.out.thenB hb2); clear hb2))
            go_ret
            exact ⟨by rw [HE.out]; rfl, HR.out, HT.out⟩
          · have p4 : (isn == 4) = false := by simp [h4]
            by_cases h5 : isn = 5
            · have p5 : (isn == 5) = true := by simp [h5]
              have HE : Hid (kd = 7) := by show _ = _; rw [HV.out]; simp [h5]
              clear HV h1 h3 h4 h5
              go_wp2_with ((go_at_call 76; refine (HISC.out _ HR.out).mono ?_; rintro e w2 ⟨rfl, hb2⟩; replace HR := Lib.hid (HR.out.below hb2); replace HT := Lib.hid (HT.out.thenB hb2); clear hb2))
              go_ret
              exact ⟨by rw [HE.out]; rfl, HR.out, HT.out⟩
            · have p5 : (isn == 5) = false := by simp [h5]
              cases an with
              | false =>
                have HE : Hid (kd = 2) := by show _ = _; rw [HV.out]; simp [h1, h3, h4, h5]
                clear HV h1 h3 h4 h5
                go_wp2_with (first | (go_at_call 76; refine (HISC.out _ HR.out).mono ?_; rintro e w2 ⟨rfl, hb2⟩; replace HR := Lib.hid (HR.out.below hb2); replace HT := Lib.hid (HT.out.thenB hb2); clear hb2) | (go_at_call 35; refine (HCT.out _ HR.out).mono ?_; rintro e w3 ⟨A', c', rfl, hh, hb3⟩; have HHD := Lib.hid hh; replace HR := Lib.hid (HR.out.below hb3); replace HT := Lib.hid (HT.out.thenB hb3); clear hh hb3) | (go_at_call 67; refine (HSM.out _ _ _ HR.out HHD.out).mono ?_; rintro e w4 ⟨rfl, hr4, ht4⟩; replace HR := Lib.hid hr4; replace HT := Lib.hid (HT.out.trans ht4); clear hr4 ht4))
                go_ret
                exact ⟨by rw [HE.out]; rfl, HR.out, HT.out⟩
              | true =>
                have HE : Hid (kd = 1) := by show _ = _; rw [HV.out]; simp [h1, h3, h4, h5]
                clear HV h1 h3 h4 h5
                go_wp2_with (first | (go_at_call 76; refine (HISC.out _ HR.out).mono ?_; rintro e w2 ⟨rfl, hb2⟩; replace HR := Lib.hid (HR.out.below hb2); replace HT := Lib.hid (HT.out.thenB hb2); clear hb2) | (go_at_call 35; refine (HCT.out _ HR.out).mono ?_; rintro e w3 ⟨A', c', rfl, hh, hb3⟩; have HHD := Lib.hid hh; replace HR := Lib.hid (HR.out.below hb3); replace HT := Lib.hid (HT.out.thenB hb3); clear hh hb3) | (go_at_call 67; refine (HSM.out _ _ _ HR.out HHD.out).mono ?_; rintro e w4 ⟨rfl, hr4, ht4⟩; replace HR := Lib.hid hr4; replace HT := Lib.hid (HT.out.trans ht4); clear hr4 ht4))
                go_ret
                exact ⟨by rw [HE.out]; rfl, HR.out, HT.out⟩
end Go.Proofs.YtkmmlcnoeeaekaaGreatDoor
