/- Several texts in one: PntC. -/
import Derived.Test.YtkmmlcnoeeaekaaGreatDoorPaintListM37
import Derived.Test.YtkmmlcnoeeaekaaGreatDoorPaintListM44
import Derived.Test.YtkmmlcnoeeaekaaGreatDoorPaintListM46
import Derived.Deep.Cut
import Derived.Deep.CutRange
/- Contract of the reference's Cmds. -/
namespace Go.Proofs.YtkmmlcnoeeaekaaGreatDoor
open Go.RowKit
set_option linter.unusedVariables false
set_option linter.unusedSimpArgs false

theorem pCmds_step (L : LayV) (ns : List (Nat × Nat)) {k t : Nat} (h : Shut (endAt ns) k t) (hk : k < t) : pCmds L ns k t = pOp L ns k ++ (pCmds L ns (k + 1) (endAt ns k) ++ ((pCs L ns k).map endC ++ pCmds L ns (endAt ns k) t)) := cmdsR_step _ _ _ h hk
/-- What Cmds says. -/
def CmdsSays (L : LayV) (ns : List (Nat × Nat)) (As : Option Addr) (cS f t : Nat) (w : World) : Prop :=
  Calls Tryz.prog 25 #[.slice (some ⟨L.gL, 0, none⟩) L.nb L.cl, .agg #[.slice L.Ab L.nb L.cb, .slice L.Af L.nf L.cf, .int .i64 L.W1, .int .i64 L.H1], .slice As ns.length cS, .int .i64 (f : Nat), .int .i64 (t : Nat)] w fun e w' => ∃ A' c', e = .returned (.slice A' (pCmds L ns f t).length c') ∧ w'.ownsRow w.heap.size 64 9 (.slice A' (pCmds L ns f t).length c') (pCmds L ns f t).length (cmds (pCmds L ns f t)) ∧ Below w.heap.size w w'
def endsJ (cl fd : Bool) (nd : Int) (j : Nat) : List Int := if j = 0 then [] else if j = 1 then (if cl then [nd] else []) else (if cl then [nd] else []) ++ (if fd then [nd] else [])
/-- What Cmds keeps in a round. -/
structure CSt (w1 : World) (gk gz : Nat) (fx : Array Value) (zs : List Int) (A : Option Addr) (n c : Nat) (acc : List CmdV) (w : World) : Prop where
  hl : acc.length = n
  own : w.ownsRow w1.heap.size 64 9 (.slice A n c) n (cmds acc)
  bel : Below w1.heap.size w1 w
  frag : Blk w gk 88 fx
  look : Blk w gz 35 (sty zs)
theorem CSt.below {w1 w w' : World} {gk gz n c : Nat} {fx : Array Value} {zs : List Int} {A : Option Addr} {acc : List CmdV} (h : CSt w1 gk gz fx zs A n c acc w) (hb : Below w.heap.size w w') : CSt w1 gk gz fx zs A n c acc w' :=
  ⟨h.hl, own_below h.own hb, below_then h.bel hb, h.frag.below hb h.frag.lt, h.look.below hb h.look.lt⟩
theorem CSt.drew {w1 w : World} {gk gz n c : Nat} {fx : Array Value} {zs : List Int} {A : Option Addr} {acc : List CmdV} (h : CSt w1 gk gz fx zs A n c acc w) : CSt w1 gk gz fx zs A n c acc w.drew :=
  ⟨h.hl, h.own, h.bel.drew, h.frag, h.look⟩
theorem CSt.told {w1 w w' : World} {gk gz n c : Nat} {fx : Array Value} {zs : List Int} {A : Option Addr} {acc ls : List CmdV} (h : CSt w1 gk gz fx zs A n c acc w) {A9 : Option Addr} {c9 m : Nat} (hm : ls.length = m)
    (ho : w'.ownsRow w1.heap.size 64 9 (.slice A9 (n + m) c9) (n + m) (cmds acc ++ cmds ls)) (hg : w.grownBy w' (Value.slice A n c).ownBlock) : CSt w1 gk gz fx zs A9 (n + m) c9 (acc ++ ls) w' :=
  ⟨by rw [List.length_append, h.hl, hm], by rw [← cmds_app]; exact ho, h.bel.grown hg h.bel.size (fun k hk => (h.own.lt k hk).1), blk_grown h.frag hg (blk_ne h.frag h.own (by decide)), blk_grown h.look hg (blk_ne h.look h.own (by decide))⟩
set_option maxRecDepth 1000000 in
set_option maxHeartbeats 40000000 in
theorem cmds_round (L : LayV) (ns : List (Nat × Nat)) (As : Option Addr) (cS f t : Nat) (w : World) (h : L.ok w w.heap.size) (hS : Holds w w.heap.size As (steps ns)) (hp0 : 0 < L.nf) (hns : ns.length ≤ 1048576) (ht : t ≤ ns.length) (hft : f ≤ t) (hsh : Shut (endAt ns) f t) (hflt : ∀ k, k < ns.length → hF ns k < L.nf) (hfb : ∀ i, i < L.nf → FragB (fr L.fs i))
    (IH : ∀ (k : Nat) (w' : World), f ≤ k → k < t → Shut (endAt ns) k t → L.ok w' w'.heap.size → Holds w' w'.heap.size As (steps ns) → CmdsSays L ns As cS (k + 1) (endAt ns k) w') : CmdsSays L ns As cS f t w := by
  have mixed : Tryz.prog.follows .mixedOrders = true := by kernel_rfl
  obtain ⟨iC, hiC, hzC0, hzC1, hzC2⟩ := info_partsP info_cmdP
  have HD := Lib.hid (Blk.new w 42 #[.slice L.Ab L.nb L.cb, .slice L.Af L.nf L.cf, .int .i64 L.W1, .int .i64 L.H1])
  have HW := Lib.hid (below_alloc (Below.refl w.heap.size w) (.cells #[.slice L.Ab L.nb L.cb, .slice L.Af L.nf L.cf, .int .i64 L.W1, .int .i64 L.H1] 42))
  have HOK := Lib.hid (h.below HW.out (Nat.le_refl _))
  have HSS := Lib.hid (hS.below HW.out (Nat.le_refl _))
  have HFLT := Lib.hid hflt
  have HFB := Lib.hid hfb
  have HIH := Lib.hid IH
  have HSH := Lib.hid hsh
  have HP0 := Lib.hid hp0
  have HTL := Lib.hid (pCmds_len L ns hsh)
  unfold CmdsSays
  obtain ⟨TT, hTT⟩ : ∃ TT, TT = pCmds L ns f t := ⟨_, rfl⟩
  rw [← hTT] at HTL ⊢
  have HTT := Lib.hid hTT
  have htl : TT.length ≤ 9437184 := by
    have h1 := HTL.out
    have h2 : (t - f) * 9 ≤ 1048576 * 9 := Nat.mul_le_mul_right _ (by omega)
    omega
  clear h hS hflt hfb IH hsh hp0 hTT HTL
  go_enter Tryz.func25, Tryz.ntmps25
  go_upto_region 1 with fail
  generalize World.alloc w _ = w1 at HD HW HOK HSS ⊢
  have HDB1 := HD
  have hAf0 : ∃ bF offF, L.Af = some ⟨bF, offF, none⟩ := by
    obtain ⟨b, off, hA', _⟩ := Frags.at_ HOK.out.frags (k := 0) (by rw [HOK.out.hf]; exact HP0.out)
    exact ⟨b, off, hA'⟩
  obtain ⟨bF, offF, hAf⟩ := hAf0
  have hAb0 : ∃ bB offB, L.Ab = some ⟨bB, offB, none⟩ := by
    have h9 := (HOK.out.bi_lt HP0.out).1
    obtain ⟨b, off, hA', _⟩ := Boxes.at_ HOK.out.boxes (i := L.bi 0) (by rw [HOK.out.hb]; exact h9)
    exact ⟨b, off, hA'⟩
  obtain ⟨bB, offB, hAb⟩ := hAb0
  have HLAY : Hid ((Value.agg #[.slice L.Ab L.nb L.cb, .slice L.Af L.nf L.cf, .int .i64 L.W1, .int .i64 L.H1]) = .agg #[.slice (some ⟨bB, offB, none⟩) L.nb L.cb, .slice (some ⟨bF, offF, none⟩) L.nf L.cf, .int .i64 L.W1, .int .i64 L.H1]) := by show _ = _; rw [hAf, hAb]
  rw [hAf, hAb] at HDB1 ⊢
  have HAF := Lib.hid hAf
  have HAB := Lib.hid hAb
  have HOK2 := Lib.hid (HOK.out.more HW.out.size)
  have HSP := Lib.hid (HSS.out.more HW.out.size)
  clear hAf hAb HOK HSS HD
  go_wp2_with fail
  go_loopw [3, 11] (fun vi vo wr => ∃ (k : Nat) (A2 : Option Addr) (c2 : Nat) (acc : List CmdV), f ≤ k ∧ k ≤ t ∧ vi = .int .i64 (k : Nat) ∧ vo = .slice A2 acc.length c2 ∧ Hid (Shut (endAt ns) k t) ∧ Hid (wr.ownsRow w1.heap.size 64 9 (.slice A2 acc.length c2) acc.length (cmds acc)) ∧ Hid (Below w1.heap.size w1 wr) ∧ Hid (TT = acc ++ pCmds L ns k t)) (fun vi _ _ => t - (intOf vi).toNat)
  case atStart => exact ⟨f, none, 0, [], Nat.le_refl _, hft, rfl, rfl, HSH.out, World.ownsRow_nil _ _ _ _, Below.refl _ _, by show _ = _; rw [List.nil_append]; exact HTT.out⟩
  case round =>
    obtain ⟨k, A2, c2, acc, hfk, hkt, rfl, rfl, HKS, HOUT, HBE, HACC⟩ := hrel
    by_cases hlt : k < t
    · have hacl : acc.length ≤ 9437184 := by
        have h9 := congrArg List.length HACC.out
        rw [List.length_append] at h9
        omega
      have hlt2 : k < ns.length := by omega
      have hAs : ∃ bS offS, As = some ⟨bS, offS, none⟩ := by
        obtain ⟨b, off, e, _⟩ := step_cells HSP.out hlt2
        exact ⟨b, off, e⟩
      obtain ⟨bS, offS, rfl⟩ := hAs
      have HKL := Lib.hid hlt2
      obtain ⟨ltS, _, _⟩ := step_at HSP.out hlt2
      have hgf0 := frag_at HOK2.out HAF.out (HFLT.out k hlt2)
      have hbx0 := box_at HOK2.out HAB.out hgf0.2.1
      have HLT : Hid (w.heap.size < w1.heap.size ∧ bS < w1.heap.size ∧ bF < w1.heap.size ∧ bB < w1.heap.size ∧ L.gL < w1.heap.size) := ⟨HDB1.out.lt, ltS, hgf0.1, hbx0.1, HOK2.out.gl⟩
      clear ltS hgf0 hbx0
      obtain ⟨_, hs0, hs1⟩ := step_at HSP.out HKL.out
      obtain ⟨fk, hfk⟩ : ∃ f, f = hF ns k := ⟨_, rfl⟩
      rw [← hfk] at hs0
      have hfn : fk < L.nf := by rw [hfk]; exact HFLT.out k HKL.out
      obtain ⟨_, fmk, hc0, hc1, hc2, hc3, hc4, hc5, hc6, hc7⟩ := frag_at HOK2.out HAF.out hfn
      obtain ⟨mk, hmk⟩ : ∃ m, m = L.bi fk := ⟨_, rfl⟩
      obtain ⟨fgk, hfgk⟩ : ∃ fg, fg = fr L.fs fk := ⟨_, rfl⟩
      rw [← hmk] at hc0 fmk
      rw [← hfgk] at hc1 hc2 hc3 hc4 hc5 hc6 hc7
      have HBXk : Hid (fgk.box = (mk : Int)) := by show _ = _; rw [hfgk, hmk]; exact (HOK2.out.bi_lt hfn).2
      obtain ⟨_, hk0⟩ := box_at HOK2.out HAB.out fmk
      obtain ⟨kdk, hkdk⟩ : ∃ kd, kd = (bx L.bs mk).kind := ⟨_, rfl⟩
      rw [← hkdk] at hk0
      obtain ⟨zk, hzk⟩ : ∃ z, z = L.lk mk := ⟨_, rfl⟩
      have hlzk : zk.length = 118 := by rw [hzk]; exact HOK2.out.len _
      have hlook := HOK2.out.looks mk fmk
      rw [← hzk] at hlook
      have HFAk : Hid (hF ns k = fk ∧ fr L.fs fk = fgk ∧ L.st fk = zk ∧ L.kd fk = kdk ∧ zk.length = 118 ∧ fk < L.nf ∧ FragB fgk) := ⟨hfk.symm, hfgk.symm, by unfold LayV.st; rw [← hmk, hzk], by unfold LayV.kd; rw [← hmk, hkdk], hlzk, hfn, by rw [hfgk]; exact HFB.out _ hfn⟩
      have HSZk : Hid ((Tryz.prog.info? 35).map (·.size) = some (sty zk).toList.length) := by show _ = _; rw [Array.length_toList, sty_size, hlzk]; kernel_rfl
      have HLAk := Lib.hid (sty_laid zk hlzk)
      have HSK : Hid (∀ Y : World, Below w1.heap.size w1 Y → (fun w' : World => w'.cell? ⟨w.heap.size, 1, none⟩ = some (.slice (some ⟨bF, offF, none⟩) L.nf L.cf) ∧ w'.cell? ⟨bS, offS + k * 2, none⟩ = some (.int .i64 fk) ∧ w'.cell? ⟨bF, offF + fk * 8, none⟩ = some (.int .i64 mk) ∧ w'.cell? ⟨bF, offF + fk * 8 + 1, none⟩ = some (.int .i64 fgk.node) ∧ w'.cell? ⟨bF, offF + fk * 8 + 2, none⟩ = some (.int .i64 fgk.par) ∧ w'.cell? ⟨bF, offF + fk * 8 + 3, none⟩ = some (.int .i64 fgk.x) ∧ w'.cell? ⟨bF, offF + fk * 8 + 4, none⟩ = some (.int .i64 fgk.y) ∧ w'.cell? ⟨bF, offF + fk * 8 + 5, none⟩ = some (.int .i64 fgk.w) ∧ w'.cell? ⟨bF, offF + fk * 8 + 6, none⟩ = some (.int .i64 fgk.h) ∧ w'.cell? ⟨bF, offF + fk * 8 + 7, none⟩ = some (.string fgk.text)) Y) := fun Y hY => ⟨(hY.cell (p := ⟨w.heap.size, 1, none⟩) HLT.out.1).trans (HDB1.out.cell 1), (hY.cell (p := ⟨bS, offS + k * 2, none⟩) HLT.out.2.1).trans hs0, (hY.cell (p := ⟨bF, offF + fk * 8, none⟩) HLT.out.2.2.1).trans hc0, (hY.cell (p := ⟨bF, offF + fk * 8 + 1, none⟩) HLT.out.2.2.1).trans hc1, (hY.cell (p := ⟨bF, offF + fk * 8 + 2, none⟩) HLT.out.2.2.1).trans hc2, (hY.cell (p := ⟨bF, offF + fk * 8 + 3, none⟩) HLT.out.2.2.1).trans hc3, (hY.cell (p := ⟨bF, offF + fk * 8 + 4, none⟩) HLT.out.2.2.1).trans hc4, (hY.cell (p := ⟨bF, offF + fk * 8 + 5, none⟩) HLT.out.2.2.1).trans hc5, (hY.cell (p := ⟨bF, offF + fk * 8 + 6, none⟩) HLT.out.2.2.1).trans hc6, (hY.cell (p := ⟨bF, offF + fk * 8 + 7, none⟩) HLT.out.2.2.1).trans hc7⟩
      have HSEk : Hid (∀ Y : World, Below w1.heap.size w1 Y → Y.cell? ⟨bS, offS + k * 2 + 1, none⟩ = some (.int .i64 (endAt ns k))) := fun Y hY => (hY.cell (p := ⟨bS, offS + k * 2 + 1, none⟩) HLT.out.2.1).trans hs1
      have HSK2k : Hid (∀ Y : World, Below w1.heap.size w1 Y → Y.cell? ⟨w.heap.size, 0, none⟩ = some (.slice (some ⟨bB, offB, none⟩) L.nb L.cb) ∧ Y.cell? ⟨bB, offB + mk * 5, none⟩ = some (.int .i64 kdk) ∧ Y.rangeAt L.gL (mk * 118) (sty zk).toList) := fun Y hY => ⟨(hY.cell (p := ⟨w.heap.size, 0, none⟩) HLT.out.1).trans (HDB1.out.cell 0), (hY.cell (p := ⟨bB, offB + mk * 5, none⟩) HLT.out.2.2.2.1).trans hk0, fun q v hv => (hY.cell (p := ⟨L.gL, mk * 118 + q, none⟩) HLT.out.2.2.2.2).trans (hlook q v hv)⟩
      have HFMk := Lib.hid (And.intro fmk hfn)
      clear hs0 hs1 hfk hc0 hc1 hc2 hc3 hc4 hc5 hc6 hc7 hmk hfgk hk0 hkdk hzk hlzk hlook fmk hfn
      have hfnk := HFMk.out.2
      go_upto_region 3 with fail
      have HOUT := Lib.hid (show World.ownsRow (World.drew wr) _ _ _ _ _ _ from HOUT.out)
      have HBE := Lib.hid (show Below w1.heap.size w1 (World.drew wr) from below_drewN HBE.out 1)
      have hS0 := HSK.out (World.drew wr) HBE.out
      refine wp_region_noPanic ?_
      refine region_M (S := fun w' => w'.cell? ⟨w.heap.size, 1, none⟩ = some (.slice (some ⟨bF, offF, none⟩) L.nf L.cf) ∧ w'.cell? ⟨bS, offS + k * 2, none⟩ = some (.int .i64 fk) ∧ w'.cell? ⟨bF, offF + fk * 8, none⟩ = some (.int .i64 mk) ∧ w'.cell? ⟨bF, offF + fk * 8 + 1, none⟩ = some (.int .i64 fgk.node) ∧ w'.cell? ⟨bF, offF + fk * 8 + 2, none⟩ = some (.int .i64 fgk.par) ∧ w'.cell? ⟨bF, offF + fk * 8 + 3, none⟩ = some (.int .i64 fgk.x) ∧ w'.cell? ⟨bF, offF + fk * 8 + 4, none⟩ = some (.int .i64 fgk.y) ∧ w'.cell? ⟨bF, offF + fk * 8 + 5, none⟩ = some (.int .i64 fgk.w) ∧ w'.cell? ⟨bF, offF + fk * 8 + 6, none⟩ = some (.int .i64 fgk.h) ∧ w'.cell? ⟨bF, offF + fk * 8 + 7, none⟩ = some (.string fgk.text)) (T := []) (by kernel_rfl) ?_
      generalize World.drew wr = wk1 at HOUT HBE hS0 ⊢
      refine anyM_free (i := 0) (oi := { dst := some 24, op := _, type := _, pos := _, after := _, guard := _ }) (v := ?_) rfl (by kernel_rfl) (fun _ _ _ h => h) (Or.inl ⟨by kernel_rfl, ?_⟩) (fun _ => hS0) ?_
      rotate_left 1
      · (intro w hSw; (try dsimp only at hSw); go_simp; try with_reducible rfl)
      try simp only [Act.put, Array.toArray_toList, List.setIfInBounds_toArray, List.set_cons_zero, List.set_cons_succ]
      refine anyM_take (i := 1) (oi := { dst := some 25, op := _, type := _, pos := _, after := _, guard := _ }) (v := ?_) rfl (by kernel_rfl) (fun _ _ _ h => h) (Or.inl ⟨by kernel_rfl, ?_⟩) hS0 ?_
      rotate_left 1
      · (intro w hSw; (try dsimp only at hSw); go_simp; try with_reducible rfl)
      try simp only [Act.put, Array.toArray_toList, List.setIfInBounds_toArray, List.set_cons_zero, List.set_cons_succ]
      refine anyM_free (i := 2) (oi := { dst := some 26, op := _, type := _, pos := _, after := _, guard := _ }) (v := ?_) rfl (by kernel_rfl) (fun _ _ _ h => h) (Or.inl ⟨by kernel_rfl, ?_⟩) (fun _ => hS0) ?_
      rotate_left 1
      · (intro w hSw; (try dsimp only at hSw); go_simp; try with_reducible rfl)
      try simp only [Act.put, Array.toArray_toList, List.setIfInBounds_toArray, List.set_cons_zero, List.set_cons_succ]
      refine anyM_free (i := 3) (oi := { dst := some 27, op := _, type := _, pos := _, after := _, guard := _ }) (v := ?_) rfl (by kernel_rfl) (fun _ _ _ h => h) (Or.inl ⟨by kernel_rfl, ?_⟩) (fun _ => hS0) ?_
      rotate_left 1
      · (intro w hSw; (try dsimp only at hSw); go_simp; try with_reducible rfl)
      try simp only [Act.put, Array.toArray_toList, List.setIfInBounds_toArray, List.set_cons_zero, List.set_cons_succ]
      refine anyM_free (i := 4) (oi := { dst := some 28, op := _, type := _, pos := _, after := _, guard := _ }) (v := ?_) rfl (by kernel_rfl) (fun _ _ _ h => h) (Or.inl ⟨by kernel_rfl, ?_⟩) (fun _ => hS0) ?_
      rotate_left 1
      · (intro w hSw; (try dsimp only at hSw); go_simp; try with_reducible rfl)
      try simp only [Act.put, Array.toArray_toList, List.setIfInBounds_toArray, List.set_cons_zero, List.set_cons_succ]
      refine anyM_free (i := 5) (oi := { dst := some 29, op := _, type := _, pos := _, after := _, guard := _ }) (v := ?_) rfl (by kernel_rfl) (fun _ _ _ h => h) (Or.inl ⟨by kernel_rfl, ?_⟩) (fun _ => hS0) ?_
      rotate_left 1
      · (intro w hSw; (try dsimp only at hSw); go_simp; try with_reducible rfl)
      try simp only [Act.put, Array.toArray_toList, List.setIfInBounds_toArray, List.set_cons_zero, List.set_cons_succ]
      refine anyM_take (i := 6) (oi := { dst := some 30, op := _, type := _, pos := _, after := _, guard := _ }) (v := ?_) rfl (by kernel_rfl) (fun _ _ _ h => h) (Or.inl ⟨by kernel_rfl, ?_⟩) hS0 ?_
      rotate_left 1
      · (intro w hSw; (try dsimp only at hSw); go_simp; try with_reducible rfl)
      try simp only [Act.put, Array.toArray_toList, List.setIfInBounds_toArray, List.set_cons_zero, List.set_cons_succ]
      refine anyM_free (i := 7) (oi := { dst := some 31, op := _, type := _, pos := _, after := _, guard := _ }) (v := ?_) rfl (by kernel_rfl) (fun _ _ _ h => h) (Or.inl ⟨by kernel_rfl, ?_⟩) (fun _ => hS0) ?_
      rotate_left 1
      · (intro w hSw; (try dsimp only at hSw); go_simp; try with_reducible rfl)
      try simp only [Act.put, Array.toArray_toList, List.setIfInBounds_toArray, List.set_cons_zero, List.set_cons_succ]
      refine anyM_take (i := 8) (oi := { dst := some 32, op := _, type := _, pos := _, after := _, guard := _ }) (v := ?_) rfl (by kernel_rfl) (fun _ _ _ h => h) (Or.inl ⟨by kernel_rfl, ?_⟩) hS0 ?_
      rotate_left 1
      · (intro w hSw; (try dsimp only at hSw); go_simp; try with_reducible rfl)
      try simp only [Act.put, Array.toArray_toList, List.setIfInBounds_toArray, List.set_cons_zero, List.set_cons_succ]
      refine anyM_one (i := 9) (by kernel_rfl) rfl (fun K hK => ?_)
      go_simp
      have hS0 := HSK.out (wk1.alloc (.cells #[.int .i64 0, .int .i64 0, .int .i64 0, .int .i64 0, .int .i64 0, .int .i64 0, .int .i64 0, .string ⟨#[]⟩] 88)) (below_then HBE.out (below_alloc (Below.refl _ _) _))
      refine hK.out _ _ (fun _ => hS0) ?_
      clear hK K
      try simp only [Act.put, Array.toArray_toList, List.setIfInBounds_toArray, List.set_cons_zero, List.set_cons_succ]
      refine anyM_one (i := 10) (by kernel_rfl) rfl (fun K hK => ?_)
      rw [if_pos (by kernel_rfl)]
      refine wp_store_mid _ _ _ rfl wk1.heap.size 0 #[.int .i64 mk, .int .i64 fgk.node, .int .i64 fgk.par, .int .i64 fgk.x, .int .i64 fgk.y, .int .i64 fgk.w, .int .i64 fgk.h, .string fgk.text] rfl rfl (row_laid #[.int .i64 0, .int .i64 0, .int .i64 0, .int .i64 0, .int .i64 0, .int .i64 0, .int .i64 0, .string ⟨#[]⟩] #[.int .i64 mk, .int .i64 fgk.node, .int .i64 fgk.par, .int .i64 fgk.x, .int .i64 fgk.y, .int .i64 fgk.w, .int .i64 fgk.h, .string fgk.text] rfl wk1).1 (by kernel_rfl) (by kernel_rfl) ?_
      obtain ⟨wk2, hwk2, bnk, hbk⟩ := (row_laid (T := 88) #[.int .i64 0, .int .i64 0, .int .i64 0, .int .i64 0, .int .i64 0, .int .i64 0, .int .i64 0, .string ⟨#[]⟩] #[.int .i64 mk, .int .i64 fgk.node, .int .i64 fgk.par, .int .i64 fgk.x, .int .i64 fgk.y, .int .i64 fgk.w, .int .i64 fgk.h, .string fgk.text] rfl wk1).2
      rw [hwk2]
      clear hwk2
      have HOUT := Lib.hid (own_below HOUT.out hbk)
      have HBE := Lib.hid (below_then HBE.out hbk)
      have HGF := Lib.hid bnk
      have hS0 := HSK.out wk2 HBE.out
      clear bnk hbk
      change K (Act.put _ none undef) _
      refine hK.out _ _ (fun _ => hS0) ?_
      clear hK K
      try simp only [Act.put, Array.toArray_toList, List.setIfInBounds_toArray, List.set_cons_zero, List.set_cons_succ]
      refine anyM_done (by kernel_rfl) ?_ _
      refine NoPanic.normal ?_
      clear hS0
      generalize wk1.heap.size = gk at HGF ⊢
      have hmk := HFMk.out.1
      go_upto_region 4 with fail
      have HOUT := Lib.hid (show World.ownsRow (World.drew wk2) _ _ _ _ _ _ from HOUT.out)
      have HGF := Lib.hid (show Blk (World.drew wk2) _ _ _ from HGF.out)
      have HBE := Lib.hid (show Below w1.heap.size w1 (World.drew wk2) from below_drewN HBE.out 1)
      have hS0 : (fun w' : World => w'.cell? ⟨w.heap.size, 0, none⟩ = some (.slice (some ⟨bB, offB, none⟩) L.nb L.cb) ∧ w'.cell? ⟨gk, 0, none⟩ = some (.int .i64 mk) ∧ w'.cell? ⟨bB, offB + mk * 5, none⟩ = some (.int .i64 kdk) ∧ w'.rangeAt L.gL (mk * 118) (sty zk).toList) (World.drew wk2) := ⟨(HSK2k.out _ HBE.out).1, (HGF.out).cell 0, (HSK2k.out _ HBE.out).2.1, (HSK2k.out _ HBE.out).2.2⟩
      refine wp_region_noPanic ?_
      refine region_M (S := fun w' => w'.cell? ⟨w.heap.size, 0, none⟩ = some (.slice (some ⟨bB, offB, none⟩) L.nb L.cb) ∧ w'.cell? ⟨gk, 0, none⟩ = some (.int .i64 mk) ∧ w'.cell? ⟨bB, offB + mk * 5, none⟩ = some (.int .i64 kdk) ∧ w'.rangeAt L.gL (mk * 118) (sty zk).toList) (T := []) (by kernel_rfl) ?_
      generalize World.drew wk2 = wk3 at HOUT HGF HBE hS0 ⊢
      refine anyM_free (i := 0) (oi := { dst := some 33, op := _, type := _, pos := _, after := _, guard := _ }) (v := ?_) rfl (by kernel_rfl) (fun _ _ _ h => h) (Or.inl ⟨by kernel_rfl, ?_⟩) (fun _ => hS0) ?_
      rotate_left 1
      · (intro w hSw; (try dsimp only at hSw); go_simp; try with_reducible rfl)
      try simp only [Act.put, Array.toArray_toList, List.setIfInBounds_toArray, List.set_cons_zero, List.set_cons_succ]
      refine anyM_take (i := 1) (oi := { dst := some 34, op := _, type := _, pos := _, after := _, guard := _ }) (v := ?_) rfl (by kernel_rfl) (fun _ _ _ h => h) (Or.inl ⟨by kernel_rfl, ?_⟩) hS0 ?_
      rotate_left 1
      · (intro w hSw; (try dsimp only at hSw); go_simp; try with_reducible rfl)
      try simp only [Act.put, Array.toArray_toList, List.setIfInBounds_toArray, List.set_cons_zero, List.set_cons_succ]
      refine anyM_free (i := 2) (oi := { dst := some 35, op := _, type := _, pos := _, after := _, guard := _ }) (v := ?_) rfl (by kernel_rfl) (fun _ _ _ h => h) (Or.inl ⟨by kernel_rfl, ?_⟩) (fun _ => hS0) ?_
      rotate_left 1
      · (intro w hSw; (try dsimp only at hSw); go_simp; try with_reducible rfl)
      try simp only [Act.put, Array.toArray_toList, List.setIfInBounds_toArray, List.set_cons_zero, List.set_cons_succ]
      refine anyM_take (i := 3) (oi := { dst := some 36, op := _, type := _, pos := _, after := _, guard := _ }) (v := ?_) rfl (by kernel_rfl) (fun _ _ _ h => h) (Or.inl ⟨by kernel_rfl, ?_⟩) hS0 ?_
      rotate_left 1
      · (intro w hSw; (try dsimp only at hSw); go_simp; try with_reducible rfl)
      try simp only [Act.put, Array.toArray_toList, List.setIfInBounds_toArray, List.set_cons_zero, List.set_cons_succ]
      refine anyM_free (i := 4) (oi := { dst := some 37, op := _, type := _, pos := _, after := _, guard := _ }) (v := ?_) rfl (by kernel_rfl) (fun _ _ _ h => h) (Or.inl ⟨by kernel_rfl, ?_⟩) (fun _ => hS0) ?_
      rotate_left 1
      · (intro w hSw; (try dsimp only at hSw); go_simp; try with_reducible rfl)
      try simp only [Act.put, Array.toArray_toList, List.setIfInBounds_toArray, List.set_cons_zero, List.set_cons_succ]
      refine anyM_free (i := 5) (oi := { dst := some 38, op := _, type := _, pos := _, after := _, guard := _ }) (v := ?_) rfl (by kernel_rfl) (fun _ _ _ h => h) (Or.inl ⟨by kernel_rfl, ?_⟩) (fun _ => hS0) ?_
      rotate_left 1
      · (intro w hSw; (try dsimp only at hSw); go_simp; try with_reducible rfl)
      try simp only [Act.put, Array.toArray_toList, List.setIfInBounds_toArray, List.set_cons_zero, List.set_cons_succ]
      refine anyM_take (i := 6) (oi := { dst := some 39, op := _, type := _, pos := _, after := _, guard := _ }) (v := ?_) rfl (by kernel_rfl) (fun _ _ _ h => h) (Or.inl ⟨by kernel_rfl, ?_⟩) hS0 ?_
      rotate_left 1
      · (intro w hSw; (try dsimp only at hSw); go_simp; try with_reducible rfl)
      try simp only [Act.put, Array.toArray_toList, List.setIfInBounds_toArray, List.set_cons_zero, List.set_cons_succ]
      refine anyM_free (i := 7) (oi := { dst := some 40, op := _, type := _, pos := _, after := _, guard := _ }) (v := ?_) rfl (by kernel_rfl) (fun _ _ _ h => h) (Or.inl ⟨by kernel_rfl, ?_⟩) (fun _ => hS0) ?_
      rotate_left 1
      · (intro w hSw; (try dsimp only at hSw); go_simp; try with_reducible rfl)
      try simp only [Act.put, Array.toArray_toList, List.setIfInBounds_toArray, List.set_cons_zero, List.set_cons_succ]
      refine anyM_free (i := 8) (oi := { dst := some 41, op := _, type := _, pos := _, after := _, guard := _ }) (v := ?_) rfl (by kernel_rfl) (fun _ _ _ h => h) (Or.inl ⟨by kernel_rfl, ?_⟩) (fun _ => hS0) ?_
      rotate_left 1
      · (intro w hSw; (try dsimp only at hSw); go_simp; try with_reducible rfl)
      try simp only [Act.put, Array.toArray_toList, List.setIfInBounds_toArray, List.set_cons_zero, List.set_cons_succ]
      refine anyM_take (i := 9) (oi := { dst := some 42, op := _, type := _, pos := _, after := _, guard := _ }) (v := ?_) rfl (by kernel_rfl) (fun _ _ _ h => h) (Or.inl ⟨by kernel_rfl, ?_⟩) hS0 ?_
      rotate_left 1
      · (intro w hSw; (try dsimp only at hSw); go_simp; try with_reducible rfl)
      try simp only [Act.put, Array.toArray_toList, List.setIfInBounds_toArray, List.set_cons_zero, List.set_cons_succ]
      refine anyM_free (i := 10) (oi := { dst := some 43, op := _, type := _, pos := _, after := _, guard := _ }) (v := ?_) rfl (by kernel_rfl) (fun _ _ _ h => h) (Or.inl ⟨by kernel_rfl, ?_⟩) (fun _ => hS0) ?_
      rotate_left 1
      · (intro w hSw; (try dsimp only at hSw); go_simp; try with_reducible rfl)
      try simp only [Act.put, Array.toArray_toList, List.setIfInBounds_toArray, List.set_cons_zero, List.set_cons_succ]
      refine anyM_take (i := 11) (oi := { dst := some 44, op := _, type := _, pos := _, after := _, guard := _ }) (v := _) rfl (by kernel_rfl) (fun _ _ _ h => h) (yieldsIf_load_mid (by kernel_rfl) _ _ rfl _ _ rfl (sty zk).toList _ (fun w' h => by simpa using h.2.2.2) Tryz.underlying35 rfl HSZk.out) hS0 ?_
      try simp only [Act.put, Array.toArray_toList, List.setIfInBounds_toArray, List.set_cons_zero, List.set_cons_succ]
      refine anyM_one (i := 12) (by kernel_rfl) rfl (fun K hK => ?_)
      go_simp
      have hS0 : (fun w' : World => w'.cell? ⟨w.heap.size, 0, none⟩ = some (.slice (some ⟨bB, offB, none⟩) L.nb L.cb) ∧ w'.cell? ⟨gk, 0, none⟩ = some (.int .i64 mk) ∧ w'.cell? ⟨bB, offB + mk * 5, none⟩ = some (.int .i64 kdk) ∧ w'.rangeAt L.gL (mk * 118) (sty zk).toList) (wk3.alloc (.cells Tryz.zeroCells35 35)) := ⟨(HSK2k.out _ (below_then HBE.out (below_alloc (Below.refl _ _) _))).1, (HGF.out.alloc (.cells Tryz.zeroCells35 35)).cell 0, (HSK2k.out _ (below_then HBE.out (below_alloc (Below.refl _ _) _))).2.1, (HSK2k.out _ (below_then HBE.out (below_alloc (Below.refl _ _) _))).2.2⟩
      refine hK.out _ _ (fun _ => hS0) ?_
      clear hK K
      try simp only [Act.put, Array.toArray_toList, List.setIfInBounds_toArray, List.set_cons_zero, List.set_cons_succ]
      refine anyM_free (i := 13) (oi := { dst := some 13, op := _, type := _, pos := _, after := _, guard := _ }) (v := ?_) rfl (by kernel_rfl) (fun _ _ _ h => h) (Or.inl ⟨by kernel_rfl, ?_⟩) (fun _ => hS0) ?_
      rotate_left 1
      · (intro w hSw; (try dsimp only at hSw); go_simp; try with_reducible rfl)
      try simp only [Act.put, Array.toArray_toList, List.setIfInBounds_toArray, List.set_cons_zero, List.set_cons_succ]
      refine anyM_one (i := 14) (by kernel_rfl) rfl (fun K hK => ?_)
      rw [if_pos (by kernel_rfl)]
      refine wp_store_mid _ _ _ rfl wk3.heap.size 0 (sty zk) rfl rfl (HLAk.out wk3).2.1 (HLAk.out wk3).1 (sty_one _) ?_
      obtain ⟨wk4, hwz, bSz, hbz, _⟩ := (HLAk.out wk3).2.2
      rw [hwz]
      clear hwz
      have HOUT := Lib.hid (own_below HOUT.out hbz)
      have HGF := Lib.hid (HGF.out.below hbz HGF.out.lt)
      have HBE := Lib.hid (below_then HBE.out hbz)
      have HGZ := Lib.hid bSz
      have hS0 : (fun w' : World => w'.cell? ⟨w.heap.size, 0, none⟩ = some (.slice (some ⟨bB, offB, none⟩) L.nb L.cb) ∧ w'.cell? ⟨gk, 0, none⟩ = some (.int .i64 mk) ∧ w'.cell? ⟨bB, offB + mk * 5, none⟩ = some (.int .i64 kdk) ∧ w'.rangeAt L.gL (mk * 118) (sty zk).toList) wk4 := ⟨(HSK2k.out _ HBE.out).1, (HGF.out).cell 0, (HSK2k.out _ HBE.out).2.1, (HSK2k.out _ HBE.out).2.2⟩
      clear bSz hbz
      change K (Act.put _ none undef) _
      refine hK.out _ _ (fun _ => hS0) ?_
      clear hK K
      try simp only [Act.put, Array.toArray_toList, List.setIfInBounds_toArray, List.set_cons_zero, List.set_cons_succ]
      refine anyM_done (by kernel_rfl) ?_ _
      refine NoPanic.normal ?_
      clear hS0
      generalize wk3.heap.size = gz at HGZ ⊢
      go_upto_region 5 with fail
      have hzl := HFAk.out.2.2.2.2.1
      have z65 : wk4.cell? ⟨gz, 65, none⟩ = some (.int .i64 (stN zk 32)) := (HGZ.out.cell 65).trans (sty_at zk 65 (by omega))
      have z69 : wk4.cell? ⟨gz, 69, none⟩ = some (.int .i64 (stN zk 34)) := (HGZ.out.cell 69).trans (sty_at zk 69 (by omega))
      have hzv : stN zk 34 = stN (L.st (hF ns k)) 34 := by rw [HFAk.out.1, HFAk.out.2.2.1]
      obtain ⟨nd, hnd⟩ : ∃ nd, nd = fgk.node := ⟨_, rfl⟩
      have hnd2 : nd = pNd L ns k := by rw [hnd]; unfold pNd; rw [HFAk.out.1, HFAk.out.2.1]
      have hcp : pCp L ns k = if hCl L ns k then [clpC nd (innerR fgk zk)] else [] := by unfold pCp; rw [← hnd2, HFAk.out.1, HFAk.out.2.1, HFAk.out.2.2.1]
      have hfd : pFd L ns k = (decide (stN zk 34 < 1000) && decide (kdk ≠ 3) && decide (kdk ≠ 4)) := by unfold pFd; rw [HFAk.out.1, HFAk.out.2.2.1, HFAk.out.2.2.2.1]
      have hcl : hCl L ns k = (decide (stN zk 32 = 1) && decide (kdk ≠ 3) && decide (kdk ≠ 4)) := by unfold hCl; rw [HFAk.out.1, HFAk.out.2.2.1, HFAk.out.2.2.2.1]
      have hgr : pGr L ns k = if pFd L ns k then [grpC nd (stN zk 34)] else [] := by unfold pGr; rw [← hnd2, hzv]
      have hfr : pFr L ns k = fragCmds fgk kdk zk := by unfold pFr; rw [HFAk.out.1, HFAk.out.2.1, HFAk.out.2.2.1, HFAk.out.2.2.2.1]
      have hcs : pCs L ns k = (if hCl L ns k then [nd] else []) ++ (if pFd L ns k then [nd] else []) := by unfold pCs; rw [← hnd2]
      have HST : Hid (pCmds L ns k t = (pGr L ns k ++ (pFr L ns k ++ pCp L ns k)) ++ (pCmds L ns (k + 1) (endAt ns k) ++ ((pCs L ns k).map endC ++ pCmds L ns (endAt ns k) t))) := pCmds_step L ns HKS.out hlt
      obtain ⟨fd, hfd0⟩ : ∃ fd, fd = pFd L ns k := ⟨_, rfl⟩
      obtain ⟨cl, hcl0⟩ : ∃ cl, cl = hCl L ns k := ⟨_, rfl⟩
      rw [← hfd0] at hfd hgr hcs
      rw [← hcl0] at hcl hcs hcp
      have HGR := Lib.hid hgr
      have HFR := Lib.hid hfr
      have HCP := Lib.hid hcp
      have HCS := Lib.hid hcs
      have HFD := Lib.hid hfd
      have HCL := Lib.hid hcl
      have HND := Lib.hid hnd
      clear hzv hnd2 hfd0 hcl0 hgr hfr hcp hcs hfd hcl hzl hnd
      obtain ⟨v34, hv34⟩ : ∃ v, v = stN zk 34 := ⟨_, rfl⟩
      rw [← hv34] at z69 HGR HFD
      have HV34 := Lib.hid hv34
      obtain ⟨v32, hv32⟩ : ∃ v, v = stN zk 32 := ⟨_, rfl⟩
      rw [← hv32] at z65 HCL
      clear hv34 hv32
      have HC := Lib.hid (CSt.mk (fx := #[.int .i64 mk, .int .i64 fgk.node, .int .i64 fgk.par, .int .i64 fgk.x, .int .i64 fgk.y, .int .i64 fgk.w, .int .i64 fgk.h, .string fgk.text]) (zs := zk) (gk := gk) (gz := gz) (w1 := w1) (acc := acc) (A := A2) (n := acc.length) (c := c2) rfl HOUT.out HBE.out HGF.out HGZ.out)
      generalize acc.length = n2 at hacl HC ⊢
      clear HOUT HBE HGF HGZ
      obtain ⟨so, hso⟩ : ∃ so, so = (decide (kdk ≠ 3) && decide (kdk ≠ 4)) := ⟨_, rfl⟩
      have HFD2 : Hid (fd = (decide (v34 < 1000) && so)) := by show _ = _; rw [HFD.out, hso, Bool.and_assoc]
      have HCL2 : Hid (cl = (decide (v32 = 1) && so)) := by show _ = _; rw [HCL.out, hso, Bool.and_assoc]
      have HSO := Lib.hid hso
      clear hso HFD HCL
      go_cut [15] from 45 to 50 (fun s wx => s = .bool so ∧ wx = wk4)
      case first =>
        by_cases h3 : kdk = 3
        · have q3 : (kdk != 3) = false := by simp [h3]
          have HE1 : Hid (so = false) := by show _ = _; rw [HSO.out]; simp [h3]
          clear h3
          go_wp2_with fail
          go_meet
          case rel => exact ⟨by rw [HE1.out], rfl⟩
        · have q3 : (kdk != 3) = true := by simp [h3]
          have HE1 : Hid (so = (kdk != 4)) := by show _ = _; rw [HSO.out, Bool.eq_iff_iff]; simp [h3]
          clear h3
          go_wp2_with fail
          go_meet
          case rel => exact ⟨by rw [HE1.out], rfl⟩
      case rest =>
      obtain ⟨rfl, rfl⟩ := hcut
      obtain ⟨wk4, rfl⟩ : ∃ wk4, wk4 = wc := ⟨_, rfl⟩
      go_upto_region 6 with fail
      go_cut [16, 17] from 51 to 64 (fun a b wx => a = .bool fd ∧ b = .bool cl ∧ Hid (Below wk4.heap.size wk4 wx))
      case first =>
        cases so
        · have HE1 : Hid (fd = false) := by show _ = _; rw [HFD2.out]; simp
          have HE2 : Hid (cl = false) := by show _ = _; rw [HCL2.out]; simp
          go_quiet (fail)
          go_wp2_with fail
          go_meet
          case rel => exact ⟨by rw [HE1.out], by rw [HE2.out], below_drewN (Below.refl _ _) _⟩
        · have HE1 : Hid (fd = decide (v34 < 1000)) := by show _ = _; rw [HFD2.out]; simp
          have HE2 : Hid (cl = (v32 == 1)) := by show _ = _; rw [HCL2.out, Bool.eq_iff_iff]; simp
          go_quiet (fail)
          go_wp2_with fail
          go_meet
          case rel => exact ⟨by rw [HE1.out], by rw [HE2.out], below_drewN (Below.refl _ _) _⟩
      case rest =>
        obtain ⟨rfl, rfl, HB5⟩ := hcut
        obtain ⟨w5, rfl⟩ : ∃ w5, w5 = wc := ⟨_, rfl⟩
        have HC := Lib.hid (HC.out.below HB5.out)
        clear HB5 z65 z69 HFD2 HCL2 HSO
        obtain ⟨ac1, hac1⟩ : ∃ ac1, ac1 = acc ++ pGr L ns k := ⟨_, rfl⟩
        have HAC1 := Lib.hid hac1
        clear hac1
        have g1 : w5.cell? ⟨gk, 1, none⟩ = some (.int .i64 nd) := (HC.out.frag.cell 1).trans (by rw [HND.out]; rfl)
        have z69 : w5.cell? ⟨gz, 69, none⟩ = some (.int .i64 v34) := by rw [HV34.out]; exact (HC.out.look.cell 69).trans (sty_at zk 69 (by have := HFAk.out.2.2.2.2.1; omega))
        go_upto_if 65 with fail
        go_cut [11] from 66 to 74 (fun v wx => ∃ A n c, n ≤ 9437185 ∧ v = .slice A n c ∧ Hid (CSt w1 gk gz #[.int .i64 mk, .int .i64 fgk.node, .int .i64 fgk.par, .int .i64 fgk.x, .int .i64 fgk.y, .int .i64 fgk.w, .int .i64 fgk.h, .string fgk.text] zk A n c ac1 wx))
        case first =>
          cases fd
          · have HE : Hid (ac1 = acc) := by show _ = _; rw [HAC1.out, HGR.out]; simp
            go_wp2_with fail
            go_meet
            case rel => exact ⟨A2, n2, c2, by omega, rfl, by rw [HE.out]; exact HC.out⟩
          · have HE : Hid (ac1 = acc ++ [grpC nd v34]) := by show _ = _; rw [HAC1.out, HGR.out]; simp
            have HCA := Lib.hid (HC.out.below (below_alloc (Below.refl w5.heap.size w5) (.cells #[.int .i64 4, .int .i64 nd, .int .i64 0, .int .i64 0, .int .i64 0, .int .i64 0, .int .i64 0, .int .i64 v34, .string ⟨#[]⟩] 64)))
            have HNB := Lib.hid (Blk.new w5 64 #[.int .i64 4, .int .i64 nd, .int .i64 0, .int .i64 0, .int .i64 0, .int .i64 0, .int .i64 0, .int .i64 v34, .string ⟨#[]⟩])
            go_wp2_with (at_builtin; refine wpList_append_any rfl _ _ 57 rfl w1.heap.size 64 iC (.agg #[.int .i64 0, .int .i64 0, .int .i64 0, .int .i64 0, .int .i64 0, .int .i64 0, .int .i64 0, .int .i64 0, .string ⟨#[]⟩]) 9 80 Tryz.underlying57 hiC hzC0 hzC1 hzC2 rfl (by decide) (.slice A2 n2 c2) n2 (cmds acc) rfl HCA.out.own (some ⟨w5.heap.size, 0, none⟩) 1 1 (cmdF (grpC nd v34)) rfl rfl (.inl ⟨w5.heap.size, 0, rfl, fun j u hj => by rw [Nat.zero_add, HNB.out.cell j]; simpa [cmdF, grpC, clpC, endC] using hj⟩) (cmdF_oneP _) (by unfold maxLen; omega) (by omega) HCA.out.bel.size ?_; intro A9 c9 w9 ho9 hg9 hat9; have HC9 := Lib.hid (HCA.out.told (ls := [(grpC nd v34)]) (m := 1) rfl (by simpa [cmds] using ho9) hg9); clear ho9 hg9 hat9)
            go_meet
            case rel => exact ⟨A9, n2 + 1, c9, by omega, rfl, by rw [HE.out]; exact HC9.out⟩
        case rest =>
          obtain ⟨A3, n3, c3, hn3, rfl, HC1⟩ := hcut
          obtain ⟨w6, rfl⟩ : ∃ w6, w6 = wc := ⟨_, rfl⟩
          clear HC g1 z69 HGR HV34 hacl
          have x0 : w6.cell? ⟨gk, 0, none⟩ = some (.int .i64 (mk : Int)) := HC1.out.frag.cell 0
          have x1 : w6.cell? ⟨gk, 1, none⟩ = some (.int .i64 fgk.node) := HC1.out.frag.cell 1
          have x2 : w6.cell? ⟨gk, 2, none⟩ = some (.int .i64 fgk.par) := HC1.out.frag.cell 2
          have x3 : w6.cell? ⟨gk, 3, none⟩ = some (.int .i64 fgk.x) := HC1.out.frag.cell 3
          have x4 : w6.cell? ⟨gk, 4, none⟩ = some (.int .i64 fgk.y) := HC1.out.frag.cell 4
          have x5 : w6.cell? ⟨gk, 5, none⟩ = some (.int .i64 fgk.w) := HC1.out.frag.cell 5
          have x6 : w6.cell? ⟨gk, 6, none⟩ = some (.int .i64 fgk.h) := HC1.out.frag.cell 6
          have x7 : w6.cell? ⟨gk, 7, none⟩ = some (.string fgk.text) := HC1.out.frag.cell 7
          have HROW := Lib.hid (range_blkA HC1.out.look)
          have HFC : Hid (∀ ww : World, Calls Tryz.prog 56 #[.agg #[.int .i64 mk, .int .i64 fgk.node, .int .i64 fgk.par, .int .i64 fgk.x, .int .i64 fgk.y, .int .i64 fgk.w, .int .i64 fgk.h, .string fgk.text], .int .i64 kdk, .agg (sty zk)] ww fun e w' => ∃ A n c, e = .returned (.slice A n c) ∧ n ≤ 5 ∧ (pFr L ns k).length = n ∧ w'.ownsRow ww.heap.size 64 9 (.slice A n c) n (cmds (pFr L ns k)) ∧ Below ww.heap.size ww w') := fun ww => by
            have h9 := rfrag_calls zk kdk fgk ww HFAk.out.2.2.2.2.1 HFAk.out.2.2.2.2.2.2
            unfold fragC at h9
            rw [HBXk.out, ← HFR.out] at h9
            refine h9.mono ?_
            rintro e w' ⟨v, rfl, ho, hb⟩
            obtain ⟨A, c, rfl⟩ := own_open ho
            exact ⟨A, _, c, rfl, by rw [HFR.out]; exact fragCmds_len _ _ _, rfl, ho, hb⟩
          obtain ⟨fr0, hfr0⟩ : ∃ fr0, fr0 = pFr L ns k := ⟨_, rfl⟩
          rw [← hfr0] at HFC HST
          clear hfr0 HFR
          go_upto_if 81 with (first | (refine wpList_load_mid rfl 35 _ rfl gz 0 rfl (sty zk).toList _ HROW.out Tryz.underlying35 rfl HSZk.out ?_) | (go_at_call 56; refine (HFC.out _).mono ?_; rintro e w7 ⟨A7, n7, c7, rfl, hn7, hl7, ho7, hb7⟩; have HC2 := Lib.hid (HC1.out.below hb7); have HSRC := Lib.hid (own_srcP ho7 rfl); have HL7 := Lib.hid hl7; clear hl7 ho7 hb7) | (at_builtin; refine wpList_append_any rfl _ _ 57 rfl w1.heap.size 64 iC (.agg #[.int .i64 0, .int .i64 0, .int .i64 0, .int .i64 0, .int .i64 0, .int .i64 0, .int .i64 0, .int .i64 0, .string ⟨#[]⟩]) 9 80 Tryz.underlying57 hiC hzC0 hzC1 hzC2 rfl (by decide) (.slice A3 n3 c3) n3 (cmds ac1) rfl HC2.out.own A7 n7 c7 (cmds fr0) rfl (by rw [cmds_len9, HL7.out]) HSRC.out (cmds_oneP _) (by unfold maxLen; omega) (by omega) HC2.out.bel.size ?_; intro A9 c9 w9 ho9 hg9 hat9; have HC3 := Lib.hid (HC2.out.told (ls := fr0) HL7.out ho9 hg9); clear ho9 hg9 hat9))
          obtain ⟨n4, hn4⟩ : ∃ n4, n4 = n3 + n7 := ⟨_, rfl⟩
          have hn4b : n4 ≤ 9437190 := by omega
          rw [← hn4] at HC3 ⊢
          clear hn4 hn7 hn3 x0 x1 x2 x3 x4 x5 x6 x7 HROW HFC HC1 HC2 HSRC HL7
          obtain ⟨ac2, hac2⟩ : ∃ ac2, ac2 = ac1 ++ fr0 := ⟨_, rfl⟩
          rw [← hac2] at HC3
          have HAC2 := Lib.hid hac2
          obtain ⟨ac3, hac3⟩ : ∃ ac3, ac3 = ac2 ++ pCp L ns k := ⟨_, rfl⟩
          have HAC3 := Lib.hid hac3
          clear hac2 hac3
          go_cut [11, 18] from 82 to 98 (fun v s wx => ∃ A n c, n ≤ 9437191 ∧ v = .slice A n c ∧ Hid (CSt w1 gk gz #[.int .i64 mk, .int .i64 fgk.node, .int .i64 fgk.par, .int .i64 fgk.x, .int .i64 fgk.y, .int .i64 fgk.w, .int .i64 fgk.h, .string fgk.text] zk A n c ac3 wx))
          case first =>
            cases cl
            · have HE : Hid (ac3 = ac2) := by show _ = _; rw [HAC3.out, HCP.out]; simp
              go_wp2_with fail
              go_meet
              case rel => exact ⟨A9, n4, c9, by omega, rfl, by rw [HE.out]; exact HC3.out⟩
            · have HE : Hid (ac3 = ac2 ++ [clpC nd (innerR fgk zk)]) := by show _ = _; rw [HAC3.out, HCP.out]; simp
              have HINN : Hid (∀ ww : World, Calls Tryz.prog 50 #[.agg #[.int .i64 mk, .int .i64 fgk.node, .int .i64 fgk.par, .int .i64 fgk.x, .int .i64 fgk.y, .int .i64 fgk.w, .int .i64 fgk.h, .string fgk.text], .agg (sty zk)] ww fun e w' => e = .returned (.agg #[.int .i64 (innerR fgk zk).x, .int .i64 (innerR fgk zk).y, .int .i64 (innerR fgk zk).w, .int .i64 (innerR fgk zk).h]) ∧ Below ww.heap.size ww w') := fun ww => by
                have h9 := rinner_calls zk fgk ww HFAk.out.2.2.2.2.1 HFAk.out.2.2.2.2.2.2
                unfold fragC at h9
                rw [HBXk.out] at h9
                exact h9
              have HE2 : Hid (ac3 = ac2 ++ [⟨3, nd, (innerR fgk zk).x, (innerR fgk zk).y, (innerR fgk zk).w, (innerR fgk zk).h, 0, 0, ⟨#[]⟩⟩]) := HE.out
              generalize (innerR fgk zk).x = jx at HINN HE2
              generalize (innerR fgk zk).y = jy at HINN HE2
              generalize (innerR fgk zk).w = jw at HINN HE2
              generalize (innerR fgk zk).h = jh at HINN HE2
              clear HE HCP
              have x0 : w9.cell? ⟨gk, 0, none⟩ = some (.int .i64 (mk : Int)) := HC3.out.frag.cell 0
              have x1 : w9.cell? ⟨gk, 1, none⟩ = some (.int .i64 fgk.node) := HC3.out.frag.cell 1
              have x2 : w9.cell? ⟨gk, 2, none⟩ = some (.int .i64 fgk.par) := HC3.out.frag.cell 2
              have x3 : w9.cell? ⟨gk, 3, none⟩ = some (.int .i64 fgk.x) := HC3.out.frag.cell 3
              have x4 : w9.cell? ⟨gk, 4, none⟩ = some (.int .i64 fgk.y) := HC3.out.frag.cell 4
              have x5 : w9.cell? ⟨gk, 5, none⟩ = some (.int .i64 fgk.w) := HC3.out.frag.cell 5
              have x6 : w9.cell? ⟨gk, 6, none⟩ = some (.int .i64 fgk.h) := HC3.out.frag.cell 6
              have x7 : w9.cell? ⟨gk, 7, none⟩ = some (.string fgk.text) := HC3.out.frag.cell 7
              have HROW := Lib.hid (range_blkA HC3.out.look)
              go_upto_region 12 with (first | (refine wpList_load_mid rfl 35 _ rfl gz 0 rfl (sty zk).toList _ HROW.out Tryz.underlying35 rfl HSZk.out ?_) | (go_at_call 50; refine (HINN.out _).mono ?_; rintro e w8 ⟨rfl, hb8⟩; have HB8 := Lib.hid hb8; clear hb8))
              clear x0 x1 x2 x3 x4 x5 x6 x7 HROW HINN
              have HC4 := Lib.hid ((HC3.out.below HB8.out).below (below_alloc (Below.refl w8.heap.size w8) (.cells #[.int .i64 jx, .int .i64 jy, .int .i64 jw, .int .i64 jh] 96)))
              have HR := Lib.hid (Blk.new w8 96 #[.int .i64 jx, .int .i64 jy, .int .i64 jw, .int .i64 jh])
              generalize World.alloc w8 _ = w10 at HC4 HR ⊢
              generalize w8.heap.size = gr at HR ⊢
              have x1 : w10.cell? ⟨gk, 1, none⟩ = some (.int .i64 nd) := (HC4.out.frag.cell 1).trans (by rw [HND.out]; rfl)
              have r0 : w10.cell? ⟨gr, 0, none⟩ = some (.int .i64 jx) := HR.out.cell 0
              have r1 : w10.cell? ⟨gr, 1, none⟩ = some (.int .i64 jy) := HR.out.cell 1
              have r2 : w10.cell? ⟨gr, 2, none⟩ = some (.int .i64 jw) := HR.out.cell 2
              have r3 : w10.cell? ⟨gr, 3, none⟩ = some (.int .i64 jh) := HR.out.cell 3
              have HCA := Lib.hid (HC4.out.below (below_alloc (Below.refl w10.heap.size w10) (.cells #[.int .i64 3, .int .i64 nd, .int .i64 jx, .int .i64 jy, .int .i64 jw, .int .i64 jh, .int .i64 0, .int .i64 0, .string ⟨#[]⟩] 64)))
              have HNB := Lib.hid (Blk.new w10 64 #[.int .i64 3, .int .i64 nd, .int .i64 jx, .int .i64 jy, .int .i64 jw, .int .i64 jh, .int .i64 0, .int .i64 0, .string ⟨#[]⟩])
              go_wp2_with (at_builtin; refine wpList_append_any rfl _ _ 57 rfl w1.heap.size 64 iC (.agg #[.int .i64 0, .int .i64 0, .int .i64 0, .int .i64 0, .int .i64 0, .int .i64 0, .int .i64 0, .int .i64 0, .string ⟨#[]⟩]) 9 80 Tryz.underlying57 hiC hzC0 hzC1 hzC2 rfl (by decide) (.slice A9 n4 c9) n4 (cmds ac2) rfl HCA.out.own (some ⟨w10.heap.size, 0, none⟩) 1 1 (cmdF (⟨3, nd, jx, jy, jw, jh, 0, 0, ⟨#[]⟩⟩ : CmdV)) rfl rfl (.inl ⟨w10.heap.size, 0, rfl, fun j u hj => by rw [Nat.zero_add, HNB.out.cell j]; simpa [cmdF, grpC, clpC, endC] using hj⟩) (cmdF_oneP _) (by unfold maxLen; omega) (by omega) HCA.out.bel.size ?_; intro A9 c9 w11 ho9 hg9 hat9; have HC9 := Lib.hid (HCA.out.told (ls := [(⟨3, nd, jx, jy, jw, jh, 0, 0, ⟨#[]⟩⟩ : CmdV)]) (m := 1) rfl (by simpa [cmds] using ho9) hg9); clear ho9 hg9 hat9)
              go_meet
              case rel => exact ⟨A9, n4 + 1, c9, by omega, rfl, by rw [HE2.out]; exact HC9.out⟩
          case rest =>
            obtain ⟨A4, n5, c4, hn5, rfl, HC4⟩ := hcut
            obtain ⟨w10, rfl⟩ : ∃ w10, w10 = wc := ⟨_, rfl⟩
            clear HC3 HCP hn4b
            go_upto_region 13 with fail
            have HREC : Hid (∀ ww, Below w1.heap.size w1 ww → ∃ RR, RR = pCmds L ns (k + 1) (endAt ns k) ∧ RR.length ≤ 9437184 ∧ Calls Tryz.prog 25 #[.slice (some ⟨L.gL, 0, none⟩) L.nb L.cl, .agg #[.slice (some ⟨bB, offB, none⟩) L.nb L.cb, .slice (some ⟨bF, offF, none⟩) L.nf L.cf, .int .i64 L.W1, .int .i64 L.H1], .slice (some ⟨bS, offS, none⟩) ns.length cS, .int .i64 ((k : Int) + 1), .int .i64 (endAt ns k : Nat)] ww fun e w' => ∃ A' c', e = .returned (.slice A' RR.length c') ∧ w'.ownsRow ww.heap.size 64 9 (.slice A' RR.length c') RR.length (cmds RR) ∧ Below ww.heap.size ww w') := fun ww hb => by
              have h9 := HIH.out k ww hfk hlt HKS.out ((HOK2.out.below hb (Nat.le_refl _)).more hb.size) (Holds.more (HSP.out.below hb (Nat.le_refl _)) hb.size)
              unfold CmdsSays at h9
              rw [HLAY.out, show ((k + 1 : Nat) : Int) = (k : Int) + 1 from by omega] at h9
              have h8 := pCmds_len L ns (HKS.out.inner hlt)
              have h7 := HKS.out.1 k (Nat.le_refl _) hlt
              have h6 : (endAt ns k - (k + 1)) * 9 ≤ 1048576 * 9 := Nat.mul_le_mul_right _ (by omega)
              exact ⟨_, rfl, by omega, h9⟩
            obtain ⟨RR, hRR⟩ : ∃ RR, RR = pCmds L ns (k + 1) (endAt ns k) := ⟨_, rfl⟩
            have HREC : Hid (∀ ww, Below w1.heap.size w1 ww → RR.length ≤ 9437184 ∧ Calls Tryz.prog 25 #[.slice (some ⟨L.gL, 0, none⟩) L.nb L.cl, .agg #[.slice (some ⟨bB, offB, none⟩) L.nb L.cb, .slice (some ⟨bF, offF, none⟩) L.nf L.cf, .int .i64 L.W1, .int .i64 L.H1], .slice (some ⟨bS, offS, none⟩) ns.length cS, .int .i64 ((k : Int) + 1), .int .i64 (endAt ns k : Nat)] ww fun e w' => ∃ A' c', e = .returned (.slice A' RR.length c') ∧ w'.ownsRow ww.heap.size 64 9 (.slice A' RR.length c') RR.length (cmds RR) ∧ Below ww.heap.size ww w') := fun ww hb => by
              obtain ⟨R2, h1, h2⟩ := HREC.out ww hb
              rw [← hRR] at h1
              subst h1
              exact h2
            rw [← hRR] at HST
            obtain ⟨ac4, hac4⟩ : ∃ ac4, ac4 = ac3 ++ RR := ⟨_, rfl⟩
            have HAC4 := Lib.hid hac4
            have HEB := Lib.hid (HKS.out.1 k (Nat.le_refl _) hlt)
            clear hRR hac4
            obtain ⟨en, hen⟩ : ∃ en, en = endAt ns k := ⟨_, rfl⟩
            rw [← hen] at HREC HSEk HEB HST
            have HEN := Lib.hid hen
            have hrl : RR.length ≤ 9437184 := (HREC.out w1 (Below.refl _ _)).1
            clear hen HLAY
            generalize RR.length = nr at HREC hrl
            have hwk : IntKind.i64.wrap ((k : Int) + 1) = (k : Int) + 1 := IntWalk.i64_in _ (by omega)
            have HC4 := Lib.hid HC4.out.drew
            have hS0 : (fun w' : World => w'.cell? ⟨w.heap.size, 0, none⟩ = some (.slice (some ⟨bB, offB, none⟩) L.nb L.cb) ∧ w'.cell? ⟨w.heap.size, 1, none⟩ = some (.slice (some ⟨bF, offF, none⟩) L.nf L.cf) ∧ w'.cell? ⟨w.heap.size, 2, none⟩ = some (.int .i64 L.W1) ∧ w'.cell? ⟨w.heap.size, 3, none⟩ = some (.int .i64 L.H1) ∧ w'.cell? ⟨bS, offS + k * 2 + 1, none⟩ = some (.int .i64 (en : Nat))) (World.drew w10) := ⟨(HC4.out.bel.cell (p := ⟨w.heap.size, 0, none⟩) HLT.out.1).trans (HDB1.out.cell 0), (HC4.out.bel.cell (p := ⟨w.heap.size, 1, none⟩) HLT.out.1).trans (HDB1.out.cell 1), (HC4.out.bel.cell (p := ⟨w.heap.size, 2, none⟩) HLT.out.1).trans (HDB1.out.cell 2), (HC4.out.bel.cell (p := ⟨w.heap.size, 3, none⟩) HLT.out.1).trans (HDB1.out.cell 3), HSEk.out _ HC4.out.bel⟩
            refine wp_region_noPanic ?_
            refine region_M (S := fun w' => w'.cell? ⟨w.heap.size, 0, none⟩ = some (.slice (some ⟨bB, offB, none⟩) L.nb L.cb) ∧ w'.cell? ⟨w.heap.size, 1, none⟩ = some (.slice (some ⟨bF, offF, none⟩) L.nf L.cf) ∧ w'.cell? ⟨w.heap.size, 2, none⟩ = some (.int .i64 L.W1) ∧ w'.cell? ⟨w.heap.size, 3, none⟩ = some (.int .i64 L.H1) ∧ w'.cell? ⟨bS, offS + k * 2 + 1, none⟩ = some (.int .i64 (en : Nat))) (T := []) (by kernel_rfl) ?_
            generalize World.drew w10 = w11 at HC4 hS0 ⊢
            refine anyM_free (i := 0) (oi := { dst := some 99, op := _, type := _, pos := _, after := _, guard := _ }) (v := ?_) rfl (by kernel_rfl) (fun _ _ _ h => h) (Or.inl ⟨by kernel_rfl, ?_⟩) (fun _ => hS0) ?_
            rotate_left 1
            · (intro w hSw; (try dsimp only at hSw); go_simp; try with_reducible rfl)
            try simp only [Act.put, Array.toArray_toList, List.setIfInBounds_toArray, List.set_cons_zero, List.set_cons_succ]
            refine anyM_free (i := 1) (oi := { dst := some 100, op := _, type := _, pos := _, after := _, guard := _ }) (v := ?_) rfl (by kernel_rfl) (fun _ _ _ h => h) (Or.inl ⟨by kernel_rfl, ?_⟩) (fun _ => hS0) ?_
            rotate_left 1
            · (intro w hSw; (try dsimp only at hSw); go_simp; try with_reducible rfl)
            try simp only [Act.put, Array.toArray_toList, List.setIfInBounds_toArray, List.set_cons_zero, List.set_cons_succ]
            refine anyM_take (i := 2) (oi := { dst := some 101, op := _, type := _, pos := _, after := _, guard := _ }) (v := ?_) rfl (by kernel_rfl) (fun _ _ _ h => h) (Or.inl ⟨by kernel_rfl, ?_⟩) hS0 ?_
            rotate_left 1
            · (intro w hSw; (try dsimp only at hSw); go_simp; try with_reducible rfl)
            try simp only [Act.put, Array.toArray_toList, List.setIfInBounds_toArray, List.set_cons_zero, List.set_cons_succ]
            refine anyM_free (i := 3) (oi := { dst := some 102, op := _, type := _, pos := _, after := _, guard := _ }) (v := ?_) rfl (by kernel_rfl) (fun _ _ _ h => h) (Or.inl ⟨by kernel_rfl, ?_⟩) (fun _ => hS0) ?_
            rotate_left 1
            · (intro w hSw; (try dsimp only at hSw); go_simp; try with_reducible rfl)
            try simp only [Act.put, Array.toArray_toList, List.setIfInBounds_toArray, List.set_cons_zero, List.set_cons_succ]
            refine anyM_free (i := 4) (oi := { dst := some 103, op := _, type := _, pos := _, after := _, guard := _ }) (v := ?_) rfl (by kernel_rfl) (fun _ _ _ h => h) (Or.inl ⟨by kernel_rfl, ?_⟩) (fun _ => hS0) ?_
            rotate_left 1
            · (intro w hSw; (try dsimp only at hSw); go_simp; try with_reducible rfl)
            try simp only [Act.put, Array.toArray_toList, List.setIfInBounds_toArray, List.set_cons_zero, List.set_cons_succ]
            refine anyM_free (i := 5) (oi := { dst := some 104, op := _, type := _, pos := _, after := _, guard := _ }) (v := ?_) rfl (by kernel_rfl) (fun _ _ _ h => h) (Or.inl ⟨by kernel_rfl, ?_⟩) (fun _ => hS0) ?_
            rotate_left 1
            · (intro w hSw; (try dsimp only at hSw); go_simp; try with_reducible rfl)
            try simp only [Act.put, Array.toArray_toList, List.setIfInBounds_toArray, List.set_cons_zero, List.set_cons_succ]
            refine anyM_free (i := 6) (oi := { dst := some 105, op := _, type := _, pos := _, after := _, guard := _ }) (v := ?_) rfl (by kernel_rfl) (fun _ _ _ h => h) (Or.inl ⟨by kernel_rfl, ?_⟩) (fun _ => hS0) ?_
            rotate_left 1
            · (intro w hSw; (try dsimp only at hSw); go_simp; try with_reducible rfl)
            try simp only [Act.put, Array.toArray_toList, List.setIfInBounds_toArray, List.set_cons_zero, List.set_cons_succ]
            refine anyM_free (i := 7) (oi := { dst := some 106, op := _, type := _, pos := _, after := _, guard := _ }) (v := ?_) rfl (by kernel_rfl) (fun _ _ _ h => h) (Or.inl ⟨by kernel_rfl, ?_⟩) (fun _ => hS0) ?_
            rotate_left 1
            · (intro w hSw; (try dsimp only at hSw); go_simp; try with_reducible rfl)
            try simp only [Act.put, Array.toArray_toList, List.setIfInBounds_toArray, List.set_cons_zero, List.set_cons_succ]
            refine anyM_free (i := 8) (oi := { dst := some 107, op := _, type := _, pos := _, after := _, guard := _ }) (v := ?_) rfl (by kernel_rfl) (fun _ _ _ h => h) (Or.inl ⟨by kernel_rfl, ?_⟩) (fun _ => hS0) ?_
            rotate_left 1
            · (intro w hSw; (try dsimp only at hSw); go_simp; try with_reducible rfl)
            try simp only [Act.put, Array.toArray_toList, List.setIfInBounds_toArray, List.set_cons_zero, List.set_cons_succ]
            refine anyM_free (i := 9) (oi := { dst := some 108, op := _, type := _, pos := _, after := _, guard := _ }) (v := ?_) rfl (by kernel_rfl) (fun _ _ _ h => h) (Or.inl ⟨by kernel_rfl, ?_⟩) (fun _ => hS0) ?_
            rotate_left 1
            · (intro w hSw; (try dsimp only at hSw); go_simp; try with_reducible rfl)
            try simp only [Act.put, Array.toArray_toList, List.setIfInBounds_toArray, List.set_cons_zero, List.set_cons_succ]
            refine anyM_take (i := 10) (oi := { dst := some 109, op := _, type := _, pos := _, after := _, guard := _ }) (v := ?_) rfl (by kernel_rfl) (fun _ _ _ h => h) (Or.inl ⟨by kernel_rfl, ?_⟩) hS0 ?_
            rotate_left 1
            · (intro w hSw; (try dsimp only at hSw); go_simp; try with_reducible rfl)
            try simp only [Act.put, Array.toArray_toList, List.setIfInBounds_toArray, List.set_cons_zero, List.set_cons_succ]
            refine anyM_one (i := 11) (by kernel_rfl) rfl (fun K hK => ?_)
            go_simp
            refine (HREC.out _ HC4.out.bel).2.mono ?_
            rintro e w12 ⟨A7, c7, rfl, ho7, hb7⟩
            have HC5 := Lib.hid (HC4.out.below hb7)
            have HO7 := Lib.hid ho7
            clear ho7 hb7
            have hS0 : (fun w' : World => w'.cell? ⟨w.heap.size, 0, none⟩ = some (.slice (some ⟨bB, offB, none⟩) L.nb L.cb) ∧ w'.cell? ⟨w.heap.size, 1, none⟩ = some (.slice (some ⟨bF, offF, none⟩) L.nf L.cf) ∧ w'.cell? ⟨w.heap.size, 2, none⟩ = some (.int .i64 L.W1) ∧ w'.cell? ⟨w.heap.size, 3, none⟩ = some (.int .i64 L.H1) ∧ w'.cell? ⟨bS, offS + k * 2 + 1, none⟩ = some (.int .i64 (en : Nat))) w12 := ⟨(HC5.out.bel.cell (p := ⟨w.heap.size, 0, none⟩) HLT.out.1).trans (HDB1.out.cell 0), (HC5.out.bel.cell (p := ⟨w.heap.size, 1, none⟩) HLT.out.1).trans (HDB1.out.cell 1), (HC5.out.bel.cell (p := ⟨w.heap.size, 2, none⟩) HLT.out.1).trans (HDB1.out.cell 2), (HC5.out.bel.cell (p := ⟨w.heap.size, 3, none⟩) HLT.out.1).trans (HDB1.out.cell 3), HSEk.out _ HC5.out.bel⟩
            refine hK.out _ _ (fun _ => hS0) ?_
            clear hK K
            try simp only [Act.put, Array.toArray_toList, List.setIfInBounds_toArray, List.set_cons_zero, List.set_cons_succ]
            refine anyM_one (i := 12) (by kernel_rfl) rfl (fun K hK => ?_)
            rw [if_pos (by kernel_rfl)]
            refine wp_append_any _ _ 57 rfl w1.heap.size 64 iC (.agg #[.int .i64 0, .int .i64 0, .int .i64 0, .int .i64 0, .int .i64 0, .int .i64 0, .int .i64 0, .int .i64 0, .string ⟨#[]⟩]) 9 80 Tryz.underlying57 hiC hzC0 hzC1 hzC2 rfl (by decide) (.slice A4 n5 c4) n5 (cmds ac3) rfl HC5.out.own A7 nr c7 (cmds RR) rfl (by rw [HO7.out.1]) (own_srcP HO7.out rfl) (cmds_oneP _) (by unfold maxLen; omega) (by omega) HC5.out.bel.size ?_
            intro A9 c9 w13 ho9 hg9 hat9
            have HC6 := Lib.hid (HC5.out.told (ls := RR) (by have h1 := HO7.out.1; rw [cmds_len9] at h1; omega) ho9 hg9)
            clear ho9 hg9 hat9
            have hS0 : (fun w' : World => w'.cell? ⟨w.heap.size, 0, none⟩ = some (.slice (some ⟨bB, offB, none⟩) L.nb L.cb) ∧ w'.cell? ⟨w.heap.size, 1, none⟩ = some (.slice (some ⟨bF, offF, none⟩) L.nf L.cf) ∧ w'.cell? ⟨w.heap.size, 2, none⟩ = some (.int .i64 L.W1) ∧ w'.cell? ⟨w.heap.size, 3, none⟩ = some (.int .i64 L.H1) ∧ w'.cell? ⟨bS, offS + k * 2 + 1, none⟩ = some (.int .i64 (en : Nat))) w13 := ⟨(HC6.out.bel.cell (p := ⟨w.heap.size, 0, none⟩) HLT.out.1).trans (HDB1.out.cell 0), (HC6.out.bel.cell (p := ⟨w.heap.size, 1, none⟩) HLT.out.1).trans (HDB1.out.cell 1), (HC6.out.bel.cell (p := ⟨w.heap.size, 2, none⟩) HLT.out.1).trans (HDB1.out.cell 2), (HC6.out.bel.cell (p := ⟨w.heap.size, 3, none⟩) HLT.out.1).trans (HDB1.out.cell 3), HSEk.out _ HC6.out.bel⟩
            change K (Act.put _ (some 111) _) _
            refine hK.out _ _ (fun _ => hS0) ?_
            clear hK K
            try simp only [Act.put, Array.toArray_toList, List.setIfInBounds_toArray, List.set_cons_zero, List.set_cons_succ]
            refine anyM_free (i := 13) (oi := { dst := some 11, op := _, type := _, pos := _, after := _, guard := _ }) (v := ?_) rfl (by kernel_rfl) (fun _ _ _ h => h) (Or.inl ⟨by kernel_rfl, ?_⟩) (fun _ => hS0) ?_
            rotate_left 1
            · (intro w hSw; (try dsimp only at hSw); go_simp; try with_reducible rfl)
            try simp only [Act.put, Array.toArray_toList, List.setIfInBounds_toArray, List.set_cons_zero, List.set_cons_succ]
            refine anyM_done (by kernel_rfl) ?_ _
            refine NoPanic.normal ?_
            clear hS0
            rw [← HAC4.out] at HC6
            obtain ⟨n6, hn6⟩ : ∃ n6, n6 = n5 + nr := ⟨_, rfl⟩
            have hn6b : n6 ≤ 18874375 := by omega
            rw [← hn6] at HC6 ⊢
            clear hn6 hrl hn5 HREC
            have HGB := Lib.hid (Blk.new w13 4 #[.bool cl, .bool fd])
            have HC7 := Lib.hid (HC6.out.below (below_alloc (Below.refl w13.heap.size w13) (.cells #[.bool cl, .bool fd] 4)))
            clear HC6
            go_wp2_with fail
            generalize World.alloc w13 _ = w14 at HGB HC7 ⊢
            generalize w13.heap.size = gB at HGB ⊢
            go_loopw [11, 116] (fun v i wx => ∃ (j : Nat) (A : Option Addr) (n c : Nat) (ac : List CmdV), j ≤ 2 ∧ n ≤ 18874375 + j ∧ i = .int .i64 (j : Nat) ∧ v = .slice A n c ∧ Hid (CSt w1 gk gz #[.int .i64 mk, .int .i64 fgk.node, .int .i64 fgk.par, .int .i64 fgk.x, .int .i64 fgk.y, .int .i64 fgk.w, .int .i64 fgk.h, .string fgk.text] zk A n c ac wx) ∧ Hid (Blk wx gB 4 #[.bool cl, .bool fd]) ∧ Hid (ac = ac4 ++ (endsJ cl fd nd j).map endC)) (fun _ i _ => 2 - (intOf i).toNat)
            case atStart => exact ⟨0, A9, n6, c9, ac4, by omega, by omega, rfl, rfl, HC7.out, HGB.out, by show _ = _; simp [endsJ]⟩
            case round =>
              obtain ⟨j, A8, n8, c8, ac8, hj, hn8, rfl, rfl, HC8, HGB8, HAC8⟩ := hrel
              by_cases hj0 : j = 0
              · subst hj0
                have b0 : wr.cell? ⟨gB, 0, none⟩ = some (.bool cl) := HGB8.out.cell 0
                cases cl
                · have HE : Hid (endsJ false fd nd 1 = endsJ false fd nd 0) := by show _ = _; simp [endsJ]
                  go_wp2_with fail
                  go_round
                  case rel => exact ⟨1, A8, n8, c8, ac8, by omega, by omega, by go_num, rfl, HC8.out, HGB8.out, by show _ = _; rw [HE.out]; exact HAC8.out⟩
                  case measure => simp [intOf]
                · have HE : Hid (endsJ true fd nd 1 = endsJ true fd nd 0 ++ [nd]) := by show _ = _; simp [endsJ]
                  have x1 : wr.cell? ⟨gk, 1, none⟩ = some (.int .i64 nd) := (HC8.out.frag.cell 1).trans (by rw [HND.out]; rfl)
                  have HCA := Lib.hid (HC8.out.below (below_alloc (Below.refl wr.heap.size wr) (.cells #[.int .i64 5, .int .i64 nd, .int .i64 0, .int .i64 0, .int .i64 0, .int .i64 0, .int .i64 0, .int .i64 0, .string ⟨#[]⟩] 64)))
                  have HNB := Lib.hid (Blk.new wr 64 #[.int .i64 5, .int .i64 nd, .int .i64 0, .int .i64 0, .int .i64 0, .int .i64 0, .int .i64 0, .int .i64 0, .string ⟨#[]⟩])
                  have HGB9 := Lib.hid (HGB8.out.alloc (.cells #[.int .i64 5, .int .i64 nd, .int .i64 0, .int .i64 0, .int .i64 0, .int .i64 0, .int .i64 0, .int .i64 0, .string ⟨#[]⟩] 64))
                  go_wp2_with (at_builtin; refine wpList_append_any rfl _ _ 57 rfl w1.heap.size 64 iC (.agg #[.int .i64 0, .int .i64 0, .int .i64 0, .int .i64 0, .int .i64 0, .int .i64 0, .int .i64 0, .int .i64 0, .string ⟨#[]⟩]) 9 80 Tryz.underlying57 hiC hzC0 hzC1 hzC2 rfl (by decide) (.slice A8 n8 c8) n8 (cmds ac8) rfl HCA.out.own (some ⟨wr.heap.size, 0, none⟩) 1 1 (cmdF (endC nd)) rfl rfl (.inl ⟨wr.heap.size, 0, rfl, fun j u hj => by rw [Nat.zero_add, HNB.out.cell j]; simpa [cmdF, grpC, clpC, endC] using hj⟩) (cmdF_oneP _) (by unfold maxLen; omega) (by omega) HCA.out.bel.size ?_; intro A9 c9 w9 ho9 hg9 hat9; have HC9 := Lib.hid (HCA.out.told (ls := [(endC nd)]) (m := 1) rfl (by simpa [cmds] using ho9) hg9); have HGC := Lib.hid (blk_grown HGB9.out hg9 (blk_ne HGB9.out HCA.out.own (by decide))); clear ho9 hg9 hat9)
                  go_round
                  case rel => exact ⟨1, A9, n8 + 1, c9, _, by omega, by omega, by go_num, rfl, HC9.out, HGC.out, by show _ = _; rw [HAC8.out, HE.out]; simp⟩
                  case measure => simp [intOf]
              · by_cases hj1 : j = 1
                · subst hj1
                  have b1 : wr.cell? ⟨gB, 1, none⟩ = some (.bool fd) := HGB8.out.cell 1
                  cases fd
                  · have HE : Hid (endsJ cl false nd 2 = endsJ cl false nd 1) := by show _ = _; simp [endsJ]
                    go_wp2_with fail
                    go_round
                    case rel => exact ⟨2, A8, n8, c8, ac8, by omega, by omega, by go_num, rfl, HC8.out, HGB8.out, by show _ = _; rw [HE.out]; exact HAC8.out⟩
                    case measure => simp [intOf]
                  · have HE : Hid (endsJ cl true nd 2 = endsJ cl true nd 1 ++ [nd]) := by show _ = _; simp [endsJ]
                    have x1 : wr.cell? ⟨gk, 1, none⟩ = some (.int .i64 nd) := (HC8.out.frag.cell 1).trans (by rw [HND.out]; rfl)
                    have HCA := Lib.hid (HC8.out.below (below_alloc (Below.refl wr.heap.size wr) (.cells #[.int .i64 5, .int .i64 nd, .int .i64 0, .int .i64 0, .int .i64 0, .int .i64 0, .int .i64 0, .int .i64 0, .string ⟨#[]⟩] 64)))
                    have HNB := Lib.hid (Blk.new wr 64 #[.int .i64 5, .int .i64 nd, .int .i64 0, .int .i64 0, .int .i64 0, .int .i64 0, .int .i64 0, .int .i64 0, .string ⟨#[]⟩])
                    have HGB9 := Lib.hid (HGB8.out.alloc (.cells #[.int .i64 5, .int .i64 nd, .int .i64 0, .int .i64 0, .int .i64 0, .int .i64 0, .int .i64 0, .int .i64 0, .string ⟨#[]⟩] 64))
                    go_wp2_with (at_builtin; refine wpList_append_any rfl _ _ 57 rfl w1.heap.size 64 iC (.agg #[.int .i64 0, .int .i64 0, .int .i64 0, .int .i64 0, .int .i64 0, .int .i64 0, .int .i64 0, .int .i64 0, .string ⟨#[]⟩]) 9 80 Tryz.underlying57 hiC hzC0 hzC1 hzC2 rfl (by decide) (.slice A8 n8 c8) n8 (cmds ac8) rfl HCA.out.own (some ⟨wr.heap.size, 0, none⟩) 1 1 (cmdF (endC nd)) rfl rfl (.inl ⟨wr.heap.size, 0, rfl, fun j u hj => by rw [Nat.zero_add, HNB.out.cell j]; simpa [cmdF, grpC, clpC, endC] using hj⟩) (cmdF_oneP _) (by unfold maxLen; omega) (by omega) HCA.out.bel.size ?_; intro A9 c9 w9 ho9 hg9 hat9; have HC9 := Lib.hid (HCA.out.told (ls := [(endC nd)]) (m := 1) rfl (by simpa [cmds] using ho9) hg9); have HGC := Lib.hid (blk_grown HGB9.out hg9 (blk_ne HGB9.out HCA.out.own (by decide))); clear ho9 hg9 hat9)
                    go_round
                    case rel => exact ⟨2, A9, n8 + 1, c9, _, by omega, by omega, by go_num, rfl, HC9.out, HGC.out, by show _ = _; rw [HAC8.out, HE.out]; simp⟩
                    case measure => simp [intOf]
                · obtain rfl : j = 2 := by omega
                  have s1 : wr.cell? ⟨bS, offS + k * 2 + 1, none⟩ = some (.int .i64 (en : Nat)) := HSEk.out _ HC8.out.bel
                  go_wp2_with fail
                  go_round
                  case rel =>
                    have h1 := HC8.out.hl
                    have h2 := HEB.out
                    refine ⟨en, A8, c8, ac8, by omega, h2.2, rfl, by rw [h1], by rw [HEN.out]; exact HKS.out.after hlt, by rw [h1]; exact HC8.out.own, HC8.out.bel, ?_⟩
                    show _ = _
                    rw [HACC.out, HST.out, HAC8.out, HAC4.out, HAC3.out, HAC2.out, HAC1.out, HCS.out]
                    simp [endsJ, List.append_assoc]
                  case measure =>
                    have h2 := HEB.out
                    simp [intOf]
                    omega
    · have e : k = t := by omega
      subst e
      have hta : TT = acc := by rw [HACC.out]; unfold pCmds; rw [cmdsR_none _ _ _ (by omega), List.append_nil]
      have HTA := Lib.hid hta
      clear hta
      go_wp2_with fail
      go_ret
      refine ⟨A2, c2, by rw [HTA.out]; rfl, ?_, below_then HW.out HBE.out⟩
      rw [HTA.out]
      exact own_baseP HOUT.out HW.out.size
end Go.Proofs.YtkmmlcnoeeaekaaGreatDoor
