/- Several texts in one: HitI. -/
import Derived.Test.YtkmmlcnoeeaekaaGreatDoorHitAllM46
/- Contract of the reference's Hits. -/
namespace Go.Proofs.YtkmmlcnoeeaekaaGreatDoor
open Go.RowKit
set_option linter.unusedVariables false
set_option linter.unusedSimpArgs false

/-- A row laid in a variable of its own. -/
theorem row_laid {T : TypeId} (cs zs : Array Value) (hs : zs.size = cs.size) (w : World) : (w.alloc (.cells cs T)).there w.heap.size 0 zs.size ∧
    ∃ w2, (w.alloc (.cells cs T)).setCells w.heap.size 0 zs.toList = w2 ∧ Blk w2 w.heap.size T zs ∧ Below w.heap.size w w2 :=
  ⟨(Blk.new w T cs).there _ (by rw [hs]; exact Nat.le_refl _), _, rfl, (Blk.new w T cs).setAll zs hs, below_setCells (Nat.le_refl _) _ _ _ (below_alloc (Below.refl _ _) _)⟩
/-- A long load behind a guard that stands. -/
theorem wpList_load_midG {P : Program} {ops : Array Oper} {rest : List Oper} {op : Oper} {a : Act} {w : World} {Q : Exit → Act → World → Prop} (hw : Region.wanted op (yielded ops a.tmps) = true) (ty : TypeId) (x : Operand) (ho : op.op = .load ty x)
    (b o : Nat) (hx : a.eval x = .pointer (some ⟨b, o, none⟩)) (cs : List Value) (d : TypeDesc) (hc : w.rangeAt b o cs)
    (hu : P.underlying ty = some d) (hd : d.isRow = true) (hi : (P.info? ty).map (·.size) = some cs.length)
    (h : wpList P ops Q rest (a.put op.dst (.agg cs.toArray)) w) : wpList P ops Q (op :: rest) a w := by
  unfold wpList
  rw [if_pos hw]
  exact .inl (wp_load_mid ty x ho b o hx cs d hc hu hd hi h)
theorem frag_at {L : LayV} {w : World} {B f bF offF : Nat} (h : L.ok w B) (hA : L.Af = some ⟨bF, offF, none⟩) (hf : f < L.nf) : bF < B ∧ L.bi f < L.nb ∧
    w.cell? ⟨bF, offF + f * 8, none⟩ = some (.int .i64 (L.bi f : Nat)) ∧ w.cell? ⟨bF, offF + f * 8 + 1, none⟩ = some (.int .i64 (fr L.fs f).node) ∧ w.cell? ⟨bF, offF + f * 8 + 2, none⟩ = some (.int .i64 (fr L.fs f).par) ∧
    w.cell? ⟨bF, offF + f * 8 + 3, none⟩ = some (.int .i64 (fr L.fs f).x) ∧ w.cell? ⟨bF, offF + f * 8 + 4, none⟩ = some (.int .i64 (fr L.fs f).y) ∧ w.cell? ⟨bF, offF + f * 8 + 5, none⟩ = some (.int .i64 (fr L.fs f).w) ∧
    w.cell? ⟨bF, offF + f * 8 + 6, none⟩ = some (.int .i64 (fr L.fs f).h) ∧ w.cell? ⟨bF, offF + f * 8 + 7, none⟩ = some (.string (fr L.fs f).text) := by
  obtain ⟨b, off, hA', hb, c0, c1, c2, c3, c4, c5, c6, c7⟩ := Frags.at_ h.frags (k := f) (by rw [h.hf]; exact hf)
  rw [hA] at hA'
  injection hA' with e
  injection e with e1 e2
  subst e1; subst e2
  have hb2 := h.bi_lt hf
  rw [hb2.2] at c0
  exact ⟨hb, hb2.1, c0, c1, c2, c3, c4, c5, c6, c7⟩
theorem box_at {L : LayV} {w : World} {B m bB offB : Nat} (h : L.ok w B) (hA : L.Ab = some ⟨bB, offB, none⟩) (hm : m < L.nb) : bB < B ∧ w.cell? ⟨bB, offB + m * 5, none⟩ = some (.int .i64 (bx L.bs m).kind) := by
  obtain ⟨b, off, hA', hb, c0, _⟩ := Boxes.at_ h.boxes (i := m) (by rw [h.hb]; exact hm)
  rw [hA] at hA'
  injection hA' with e
  injection e with e1 e2
  subst e1; subst e2
  exact ⟨hb, c0⟩
theorem step_at {w : World} {B bS offS : Nat} {ns : List (Nat × Nat)} (h : Holds w B (some ⟨bS, offS, none⟩) (steps ns)) {k : Nat} (hk : k < ns.length) : bS < B ∧ w.cell? ⟨bS, offS + k * 2, none⟩ = some (.int .i64 (hF ns k)) ∧ w.cell? ⟨bS, offS + k * 2 + 1, none⟩ = some (.int .i64 (endAt ns k)) := by
  obtain ⟨b, off, e, hb, c0, c1⟩ := step_cells h hk
  injection e with e
  injection e with e1 e2
  subst e1; subst e2
  exact ⟨hb, c0, c1⟩
theorem ask_step (cl is inn : Nat → Bool) (en : Nat → Nat) (i j : Nat) : askN cl is inn en i (j + 1) = if decide (i < en j) && cl j then askN cl is inn en i j && inn j else askN cl is inn en i j := rfl
theorem hits_step (L : LayV) (ns : List (Nat × Nat)) (x y : Int) (k : Nat) : hits L ns x y (k + 1) = (if hQ L ns x y k then [hWho L ns k] else []) ++ hits L ns x y k := by
  show (if hQ L ns x y k then hWho L ns k :: hits L ns x y k else hits L ns x y k) = _
  split <;> simp
theorem rcutH_calls (z : Int) (w : World) : Calls Tryz.prog 38 #[.int .i64 z] w fun e w' => e = .returned (.int .i64 (cut z)) ∧ w = w' := rcut_calls z w
set_option maxRecDepth 1000000 in
set_option maxHeartbeats 40000000 in
theorem rhits_calls (L : LayV) (x y : Int) (w : World) (h : L.ok w w.heap.size) (hp0 : 0 < L.nf) (hpar : ∀ i, 0 < i → i < L.fs.length → 0 ≤ (fr L.fs i).par ∧ (fr L.fs i).par < i) (hroot : 0 ≤ (fr L.fs 0).node) (hfb : ∀ i, i < L.nf → FragB (fr L.fs i)) :
    Calls Tryz.prog 19 #[.slice (some ⟨L.gL, 0, none⟩) L.nb L.cl, .agg #[.slice L.Ab L.nb L.cb, .slice L.Af L.nf L.cf, .int .i64 L.W1, .int .i64 L.H1], .int .i64 x, .int .i64 y] w fun e w' => ∃ A' c', e = .returned (.slice A' (hits L L.steps (cut x) (cut y) L.steps.length).length c') ∧ w'.ownsRow w.heap.size 3 1 (.slice A' (hits L L.steps (cut x) (cut y) L.steps.length).length c') (hits L L.steps (cut x) (cut y) L.steps.length).length (ints (hits L L.steps (cut x) (cut y) L.steps.length)) ∧ Below w.heap.size w w' := by
  have mixed : Tryz.prog.follows .mixedOrders = true := by kernel_rfl
  obtain ⟨iI, hiI, hzI0, hzI1, hzI2⟩ := info_partsK info_intH
  have hle : L.steps.length ≤ 1048576 := Nat.le_trans (steps_le h hp0) h.nf0
  have HFLT : Hid (∀ k, k < L.steps.length → hF L.steps k < L.nf) := fun k hk => by
    have h1 := tellN_lt (own := L.ownF) (n := L.nf) (fun f x hx => ownF_lt L f x hx) L.nf 0 0 hp0
    have h2 : L.steps.getD k (0, 0) ∈ L.steps := by rw [List.getD_eq_getElem?_getD, List.getElem?_eq_getElem hk]; exact List.getElem_mem hk
    exact h1 _ h2
  have HD := Lib.hid (Blk.new w 42 #[.slice L.Ab L.nb L.cb, .slice L.Af L.nf L.cf, .int .i64 L.W1, .int .i64 L.H1])
  have HW := Lib.hid (below_alloc (Below.refl w.heap.size w) (.cells #[.slice L.Ab L.nb L.cb, .slice L.Af L.nf L.cf, .int .i64 L.W1, .int .i64 L.H1] 42))
  have HOK := Lib.hid (h.below HW.out (Nat.le_refl _))
  have HST := Lib.hid (rstack_calls L w.heap.size (w.alloc (.cells #[.slice L.Ab L.nb L.cb, .slice L.Af L.nf L.cf, .int .i64 L.W1, .int .i64 L.H1] 42)) HOK.out HW.out.size hp0)
  have HPAR := Lib.hid hpar
  have HROOT := Lib.hid hroot
  have HFB := Lib.hid hfb
  have HP0 := Lib.hid hp0
  obtain ⟨ns, hns⟩ : ∃ ns, ns = L.steps := ⟨_, rfl⟩
  rw [← hns] at HST HFLT hle ⊢
  clear h hpar hroot hfb hns
  go_enter Tryz.func19, Tryz.ntmps19
  go_upto_region 1 with fail
  generalize World.alloc w _ = w0 at HD HW HOK HST ⊢
  have d0 : w0.cell? ⟨w.heap.size, 0, none⟩ = some (.slice L.Ab L.nb L.cb) := HD.out.cell 0
  have d1 : w0.cell? ⟨w.heap.size, 1, none⟩ = some (.slice L.Af L.nf L.cf) := HD.out.cell 1
  have d2 : w0.cell? ⟨w.heap.size, 2, none⟩ = some (.int .i64 L.W1) := HD.out.cell 2
  have d3 : w0.cell? ⟨w.heap.size, 3, none⟩ = some (.int .i64 L.H1) := HD.out.cell 3
  go_upto_region 4 with (first | (go_at_call 23; refine HST.out.mono ?_; rintro e w1 ⟨v, rfl, ho, hb1⟩; obtain ⟨As, cs, rfl⟩ := own_open ho; have HSO := Lib.hid ho; have HB1 := Lib.hid hb1; clear ho hb1) | (go_at_call 38; refine (rcutH_calls _ _).mono ?_; rintro e w' ⟨rfl, rfl⟩))
  clear d0 d1 d2 d3
  have HOK1 := Lib.hid (HOK.out.below HB1.out HW.out.size)
  have HDB1 := Lib.hid (HD.out.below HB1.out HD.out.lt)
  have HW1 := Lib.hid (below_then HW.out HB1.out)
  have hAf0 : ∃ bF offF, L.Af = some ⟨bF, offF, none⟩ := by
    obtain ⟨b, off, hA', _⟩ := Frags.at_ HOK1.out.frags (k := 0) (by rw [HOK1.out.hf]; exact HP0.out)
    exact ⟨b, off, hA'⟩
  obtain ⟨bF, offF, hAf⟩ := hAf0
  have hAb0 : ∃ bB offB, L.Ab = some ⟨bB, offB, none⟩ := by
    have h9 := (HOK1.out.bi_lt HP0.out).1
    obtain ⟨b, off, hA', _⟩ := Boxes.at_ HOK1.out.boxes (i := L.bi 0) (by rw [HOK1.out.hb]; exact h9)
    exact ⟨b, off, hA'⟩
  obtain ⟨bB, offB, hAb⟩ := hAb0
  rw [hAf, hAb] at HDB1 ⊢
  have HAF := Lib.hid hAf
  have HAB := Lib.hid hAb
  have HSP := Lib.hid (Holds.of_own HSO.out)
  have HOK2 := Lib.hid (HOK1.out.more (Nat.le_trans HW.out.size HB1.out.size))
  have hwl : wrap64 ((ns.length : Int) - 1) = (ns.length : Int) - 1 := by unfold wrap64; omega
  generalize hxc : cut x = xc
  generalize hyc : cut y = yc
  have HXC := Lib.hid (And.intro hxc hyc)
  clear hxc hyc hAf hAb HOK HD HST HSO HOK1
  go_wp2_with fail
  go_loopw [10, 11] (fun vo i wr => ∃ (m : Nat) (j : Int) (A2 : Option Addr) (c2 : Nat) (acc : List Int), m ≤ ns.length ∧ j = (m : Int) - 1 ∧ i = .int .i64 j ∧ vo = .slice A2 acc.length c2 ∧ Hid (wr.ownsRow w1.heap.size 3 1 (.slice A2 acc.length c2) acc.length (ints acc)) ∧ Hid (Below w1.heap.size w1 wr) ∧ Hid (hits L ns xc yc ns.length = acc ++ hits L ns xc yc m)) (fun _ i _ => (intOf i + 1).toNat)
  case atStart => exact ⟨ns.length, (ns.length : Int) - 1, none, 0, [], Nat.le_refl _, rfl, rfl, rfl, World.ownsRow_nil _ _ _ _, Below.refl _ _, by show _ = _; rw [List.nil_append]⟩
  case round =>
    obtain ⟨m, j, A2, c2, acc, hm, hj, rfl, rfl, HOUT, HBE, HACC⟩ := hrel
    by_cases hj0 : 0 ≤ j
    · obtain ⟨k, rfl⟩ : ∃ k : Nat, j = k := ⟨j.toNat, by omega⟩
      obtain rfl : m = k + 1 := by omega
      have hlt : k < ns.length := by omega
      have hacl : acc.length ≤ 1048576 := by
        have h9 := congrArg List.length HACC.out
        rw [List.length_append] at h9
        have h8 := hits_len L ns xc yc ns.length
        omega
      have hAs : ∃ bS offS, As = some ⟨bS, offS, none⟩ := by
        obtain ⟨b, off, e, _⟩ := step_cells HSP.out hlt
        exact ⟨b, off, e⟩
      obtain ⟨bS, offS, rfl⟩ := hAs
      have HKL := Lib.hid hlt
      clear hj hj0 hm
      have HSP2 := HSP
      obtain ⟨ltS, _, _⟩ := step_at HSP.out hlt
      have hgf0 := frag_at HOK2.out HAF.out (HFLT.out k hlt)
      have hbx0 := box_at HOK2.out HAB.out hgf0.2.1
      have HLT : Hid (w.heap.size < w1.heap.size ∧ bS < w1.heap.size ∧ bF < w1.heap.size ∧ bB < w1.heap.size ∧ L.gL < w1.heap.size) := ⟨HDB1.out.lt, ltS, hgf0.1, hbx0.1, HOK2.out.gl⟩
      clear ltS hgf0 hbx0
      obtain ⟨_, hs0, hs1⟩ := step_at HSP.out HKL.out
      obtain ⟨fk, hfk⟩ : ∃ f, f = hF ns k := ⟨_, rfl⟩
      rw [← hfk] at hs0
      have hfn : fk < L.nf := by rw [hfk]; exact HFLT.out k HKL.out
      obtain ⟨_, fmk, hc0, hc1, hc2, hc3, hc4, hc5, hc6, hc7⟩ := frag_at HOK2.out HAF.out hfn
      obtain ⟨mk, hmk⟩ : ∃ m, m = L.bi fk := ⟨_, rfl⟩
      obtain ⟨fgk, hfgk⟩ : ∃ fg, fg = fr L.fs fk := ⟨_, rfl⟩
      rw [← hmk] at hc0 fmk
      rw [← hfgk] at hc1 hc2 hc3 hc4 hc5 hc6 hc7
      have HBXk : Hid (fgk.box = (mk : Int)) := by show _ = _; rw [hfgk, hmk]; exact (HOK2.out.bi_lt hfn).2
      obtain ⟨_, hk0⟩ := box_at HOK2.out HAB.out fmk
      obtain ⟨kdk, hkdk⟩ : ∃ kd, kd = (bx L.bs mk).kind := ⟨_, rfl⟩
      rw [← hkdk] at hk0
      obtain ⟨zk, hzk⟩ : ∃ z, z = L.lk mk := ⟨_, rfl⟩
      have hlzk : zk.length = 118 := by rw [hzk]; exact HOK2.out.len _
      have hlook := HOK2.out.looks mk fmk
      rw [← hzk] at hlook
      have HFAk : Hid (hF ns k = fk ∧ fr L.fs fk = fgk ∧ L.st fk = zk ∧ L.kd fk = kdk ∧ zk.length = 118 ∧ fk < L.nf ∧ FragB fgk) := ⟨hfk.symm, hfgk.symm, by unfold LayV.st; rw [← hmk, hzk], by unfold LayV.kd; rw [← hmk, hkdk], hlzk, hfn, by rw [hfgk]; exact HFB.out _ hfn⟩
      have HSZk : Hid ((Tryz.prog.info? 35).map (·.size) = some (sty zk).toList.length) := by show _ = _; rw [Array.length_toList, sty_size, hlzk]; kernel_rfl
      have HLAk := Lib.hid (sty_laid zk hlzk)
      have HSK : Hid (∀ Y : World, Below w1.heap.size w1 Y → (fun w' : World => w'.cell? ⟨w.heap.size, 1, none⟩ = some (.slice (some ⟨bF, offF, none⟩) L.nf L.cf) ∧ w'.cell? ⟨bS, offS + k * 2, none⟩ = some (.int .i64 fk) ∧ w'.cell? ⟨bF, offF + fk * 8, none⟩ = some (.int .i64 mk) ∧ w'.cell? ⟨bF, offF + fk * 8 + 1, none⟩ = some (.int .i64 fgk.node) ∧ w'.cell? ⟨bF, offF + fk * 8 + 2, none⟩ = some (.int .i64 fgk.par) ∧ w'.cell? ⟨bF, offF + fk * 8 + 3, none⟩ = some (.int .i64 fgk.x) ∧ w'.cell? ⟨bF, offF + fk * 8 + 4, none⟩ = some (.int .i64 fgk.y) ∧ w'.cell? ⟨bF, offF + fk * 8 + 5, none⟩ = some (.int .i64 fgk.w) ∧ w'.cell? ⟨bF, offF + fk * 8 + 6, none⟩ = some (.int .i64 fgk.h) ∧ w'.cell? ⟨bF, offF + fk * 8 + 7, none⟩ = some (.string fgk.text)) Y) := fun Y hY => ⟨(hY.cell (p := ⟨w.heap.size, 1, none⟩) HLT.out.1).trans (HDB1.out.cell 1), (hY.cell (p := ⟨bS, offS + k * 2, none⟩) HLT.out.2.1).trans hs0, (hY.cell (p := ⟨bF, offF + fk * 8, none⟩) HLT.out.2.2.1).trans hc0, (hY.cell (p := ⟨bF, offF + fk * 8 + 1, none⟩) HLT.out.2.2.1).trans hc1, (hY.cell (p := ⟨bF, offF + fk * 8 + 2, none⟩) HLT.out.2.2.1).trans hc2, (hY.cell (p := ⟨bF, offF + fk * 8 + 3, none⟩) HLT.out.2.2.1).trans hc3, (hY.cell (p := ⟨bF, offF + fk * 8 + 4, none⟩) HLT.out.2.2.1).trans hc4, (hY.cell (p := ⟨bF, offF + fk * 8 + 5, none⟩) HLT.out.2.2.1).trans hc5, (hY.cell (p := ⟨bF, offF + fk * 8 + 6, none⟩) HLT.out.2.2.1).trans hc6, (hY.cell (p := ⟨bF, offF + fk * 8 + 7, none⟩) HLT.out.2.2.1).trans hc7⟩
      have HSEk : Hid (∀ Y : World, Below w1.heap.size w1 Y → Y.cell? ⟨bS, offS + k * 2 + 1, none⟩ = some (.int .i64 (endAt ns k))) := fun Y hY => (hY.cell (p := ⟨bS, offS + k * 2 + 1, none⟩) HLT.out.2.1).trans hs1
      have HSK2k : Hid (∀ Y : World, Below w1.heap.size w1 Y → Y.cell? ⟨w.heap.size, 0, none⟩ = some (.slice (some ⟨bB, offB, none⟩) L.nb L.cb) ∧ Y.cell? ⟨bB, offB + mk * 5, none⟩ = some (.int .i64 kdk) ∧ Y.rangeAt L.gL (mk * 118) (sty zk).toList) := fun Y hY => ⟨(hY.cell (p := ⟨w.heap.size, 0, none⟩) HLT.out.1).trans (HDB1.out.cell 0), (hY.cell (p := ⟨bB, offB + mk * 5, none⟩) HLT.out.2.2.2.1).trans hk0, fun q v hv => (hY.cell (p := ⟨L.gL, mk * 118 + q, none⟩) HLT.out.2.2.2.2).trans (hlook q v hv)⟩
      have HFMk := Lib.hid (And.intro fmk hfn)
      clear hs0 hs1 hfk hc0 hc1 hc2 hc3 hc4 hc5 hc6 hc7 hmk hfgk hk0 hkdk hzk hlzk hlook fmk hfn
      have hfnk := HFMk.out.2
      go_upto_region 7 with fail
      have HOUT := Lib.hid (show World.ownsRow (World.drew wr) _ _ _ _ _ _ from HOUT.out)
      have HBE := Lib.hid (show Below w1.heap.size w1 (World.drew wr) from below_drewN HBE.out 1)
      have hS0 := HSK.out (World.drew wr) HBE.out
      refine wp_region_noPanic ?_
      refine region_M (S := fun w' => w'.cell? ⟨w.heap.size, 1, none⟩ = some (.slice (some ⟨bF, offF, none⟩) L.nf L.cf) ∧ w'.cell? ⟨bS, offS + k * 2, none⟩ = some (.int .i64 fk) ∧ w'.cell? ⟨bF, offF + fk * 8, none⟩ = some (.int .i64 mk) ∧ w'.cell? ⟨bF, offF + fk * 8 + 1, none⟩ = some (.int .i64 fgk.node) ∧ w'.cell? ⟨bF, offF + fk * 8 + 2, none⟩ = some (.int .i64 fgk.par) ∧ w'.cell? ⟨bF, offF + fk * 8 + 3, none⟩ = some (.int .i64 fgk.x) ∧ w'.cell? ⟨bF, offF + fk * 8 + 4, none⟩ = some (.int .i64 fgk.y) ∧ w'.cell? ⟨bF, offF + fk * 8 + 5, none⟩ = some (.int .i64 fgk.w) ∧ w'.cell? ⟨bF, offF + fk * 8 + 6, none⟩ = some (.int .i64 fgk.h) ∧ w'.cell? ⟨bF, offF + fk * 8 + 7, none⟩ = some (.string fgk.text)) (T := []) (by kernel_rfl) ?_
      generalize World.drew wr = wk1 at HOUT HBE hS0 ⊢
      refine anyM_free (i := 0) (oi := { dst := some 34, op := _, type := _, pos := _, after := _, guard := _ }) (v := ?_) rfl (by kernel_rfl) (fun _ _ _ h => h) (Or.inl ⟨by kernel_rfl, ?_⟩) (fun _ => hS0) ?_
      rotate_left 1
      · (intro w hSw; (try dsimp only at hSw); go_simp; try with_reducible rfl)
      try simp only [Act.put, Array.toArray_toList, List.setIfInBounds_toArray, List.set_cons_zero, List.set_cons_succ]
      refine anyM_take (i := 1) (oi := { dst := some 35, op := _, type := _, pos := _, after := _, guard := _ }) (v := ?_) rfl (by kernel_rfl) (fun _ _ _ h => h) (Or.inl ⟨by kernel_rfl, ?_⟩) hS0 ?_
      rotate_left 1
      · (intro w hSw; (try dsimp only at hSw); go_simp; try with_reducible rfl)
      try simp only [Act.put, Array.toArray_toList, List.setIfInBounds_toArray, List.set_cons_zero, List.set_cons_succ]
      refine anyM_free (i := 2) (oi := { dst := some 36, op := _, type := _, pos := _, after := _, guard := _ }) (v := ?_) rfl (by kernel_rfl) (fun _ _ _ h => h) (Or.inl ⟨by kernel_rfl, ?_⟩) (fun _ => hS0) ?_
      rotate_left 1
      · (intro w hSw; (try dsimp only at hSw); go_simp; try with_reducible rfl)
      try simp only [Act.put, Array.toArray_toList, List.setIfInBounds_toArray, List.set_cons_zero, List.set_cons_succ]
      refine anyM_free (i := 3) (oi := { dst := some 37, op := _, type := _, pos := _, after := _, guard := _ }) (v := ?_) rfl (by kernel_rfl) (fun _ _ _ h => h) (Or.inl ⟨by kernel_rfl, ?_⟩) (fun _ => hS0) ?_
      rotate_left 1
      · (intro w hSw; (try dsimp only at hSw); go_simp; try with_reducible rfl)
      try simp only [Act.put, Array.toArray_toList, List.setIfInBounds_toArray, List.set_cons_zero, List.set_cons_succ]
      refine anyM_free (i := 4) (oi := { dst := some 38, op := _, type := _, pos := _, after := _, guard := _ }) (v := ?_) rfl (by kernel_rfl) (fun _ _ _ h => h) (Or.inl ⟨by kernel_rfl, ?_⟩) (fun _ => hS0) ?_
      rotate_left 1
      · (intro w hSw; (try dsimp only at hSw); go_simp; try with_reducible rfl)
      try simp only [Act.put, Array.toArray_toList, List.setIfInBounds_toArray, List.set_cons_zero, List.set_cons_succ]
      refine anyM_free (i := 5) (oi := { dst := some 39, op := _, type := _, pos := _, after := _, guard := _ }) (v := ?_) rfl (by kernel_rfl) (fun _ _ _ h => h) (Or.inl ⟨by kernel_rfl, ?_⟩) (fun _ => hS0) ?_
      rotate_left 1
      · (intro w hSw; (try dsimp only at hSw); go_simp; try with_reducible rfl)
      try simp only [Act.put, Array.toArray_toList, List.setIfInBounds_toArray, List.set_cons_zero, List.set_cons_succ]
      refine anyM_take (i := 6) (oi := { dst := some 40, op := _, type := _, pos := _, after := _, guard := _ }) (v := ?_) rfl (by kernel_rfl) (fun _ _ _ h => h) (Or.inl ⟨by kernel_rfl, ?_⟩) hS0 ?_
      rotate_left 1
      · (intro w hSw; (try dsimp only at hSw); go_simp; try with_reducible rfl)
      try simp only [Act.put, Array.toArray_toList, List.setIfInBounds_toArray, List.set_cons_zero, List.set_cons_succ]
      refine anyM_free (i := 7) (oi := { dst := some 41, op := _, type := _, pos := _, after := _, guard := _ }) (v := ?_) rfl (by kernel_rfl) (fun _ _ _ h => h) (Or.inl ⟨by kernel_rfl, ?_⟩) (fun _ => hS0) ?_
      rotate_left 1
      · (intro w hSw; (try dsimp only at hSw); go_simp; try with_reducible rfl)
      try simp only [Act.put, Array.toArray_toList, List.setIfInBounds_toArray, List.set_cons_zero, List.set_cons_succ]
      refine anyM_take (i := 8) (oi := { dst := some 42, op := _, type := _, pos := _, after := _, guard := _ }) (v := ?_) rfl (by kernel_rfl) (fun _ _ _ h => h) (Or.inl ⟨by kernel_rfl, ?_⟩) hS0 ?_
      rotate_left 1
      · (intro w hSw; (try dsimp only at hSw); go_simp; try with_reducible rfl)
      try simp only [Act.put, Array.toArray_toList, List.setIfInBounds_toArray, List.set_cons_zero, List.set_cons_succ]
      refine anyM_one (i := 9) (by kernel_rfl) rfl (fun K hK => ?_)
      go_simp
      have hS0 := HSK.out (wk1.alloc (.cells #[.int .i64 0, .int .i64 0, .int .i64 0, .int .i64 0, .int .i64 0, .int .i64 0, .int .i64 0, .string ⟨#[]⟩] 88)) (below_then HBE.out (below_alloc (Below.refl _ _) _))
      refine hK.out _ _ (fun _ => hS0) ?_
      clear hK K
      try simp only [Act.put, Array.toArray_toList, List.setIfInBounds_toArray, List.set_cons_zero, List.set_cons_succ]
      refine anyM_one (i := 10) (by kernel_rfl) rfl (fun K hK => ?_)
      rw [if_pos (by kernel_rfl)]
      refine wp_store_mid _ _ _ rfl wk1.heap.size 0 #[.int .i64 mk, .int .i64 fgk.node, .int .i64 fgk.par, .int .i64 fgk.x, .int .i64 fgk.y, .int .i64 fgk.w, .int .i64 fgk.h, .string fgk.text] rfl rfl (row_laid #[.int .i64 0, .int .i64 0, .int .i64 0, .int .i64 0, .int .i64 0, .int .i64 0, .int .i64 0, .string ⟨#[]⟩] #[.int .i64 mk, .int .i64 fgk.node, .int .i64 fgk.par, .int .i64 fgk.x, .int .i64 fgk.y, .int .i64 fgk.w, .int .i64 fgk.h, .string fgk.text] rfl wk1).1 (by kernel_rfl) (by kernel_rfl) ?_
      obtain ⟨wk2, hwk2, bnk, hbk⟩ := (row_laid (T := 88) #[.int .i64 0, .int .i64 0, .int .i64 0, .int .i64 0, .int .i64 0, .int .i64 0, .int .i64 0, .string ⟨#[]⟩] #[.int .i64 mk, .int .i64 fgk.node, .int .i64 fgk.par, .int .i64 fgk.x, .int .i64 fgk.y, .int .i64 fgk.w, .int .i64 fgk.h, .string fgk.text] rfl wk1).2
      rw [hwk2]
      clear hwk2
      have HOUT := Lib.hid (own_below HOUT.out hbk)
      have HBE := Lib.hid (below_then HBE.out hbk)
      have HGF := Lib.hid bnk
      have hS0 := HSK.out wk2 HBE.out
      clear bnk hbk
      change K (Act.put _ none undef) _
      refine hK.out _ _ (fun _ => hS0) ?_
      clear hK K
      try simp only [Act.put, Array.toArray_toList, List.setIfInBounds_toArray, List.set_cons_zero, List.set_cons_succ]
      refine anyM_done (by kernel_rfl) ?_ _
      refine NoPanic.normal ?_
      clear hS0
      generalize wk1.heap.size = gk at HGF ⊢
      clear HSK
      have HROWk := Lib.hid (HSK2k.out wk2 HBE.out).2.2
      have g0 : wk2.cell? ⟨gk, 0, none⟩ = some (.int .i64 mk) := HGF.out.cell 0
      have hmk := HFMk.out.1
      go_upto_region 9 with (first | (refine wpList_load_mid rfl 35 _ rfl L.gL (mk * 118) rfl (sty zk).toList _ HROWk.out Tryz.underlying35 rfl HSZk.out ?_) | (refine wpList_store_mid rfl _ _ _ rfl wk2.heap.size 0 (sty zk) rfl rfl (HLAk.out wk2).2.1 (HLAk.out wk2).1 (sty_one _) ?_; obtain ⟨w8, hw8, bS8, hb8, hsz8⟩ := (HLAk.out wk2).2.2; rw [hw8]; clear hw8; have HGZ := Lib.hid bS8; have HGF := Lib.hid (HGF.out.below hb8 HGF.out.lt); have HOUT := Lib.hid (own_below HOUT.out hb8); have HBE := Lib.hid (below_then HBE.out hb8); clear bS8 hb8 hsz8))
      generalize wk2.heap.size = gz at HGZ ⊢
      clear g0
      have g3 : w8.cell? ⟨gk, 3, none⟩ = some (.int .i64 fgk.x) := HGF.out.cell 3
      have g4 : w8.cell? ⟨gk, 4, none⟩ = some (.int .i64 fgk.y) := HGF.out.cell 4
      have g5 : w8.cell? ⟨gk, 5, none⟩ = some (.int .i64 fgk.w) := HGF.out.cell 5
      have g6 : w8.cell? ⟨gk, 6, none⟩ = some (.int .i64 fgk.h) := HGF.out.cell 6
      have hzl := HFAk.out.2.2.2.2.1
      have z67 : w8.cell? ⟨gz, 67, none⟩ = some (.int .i64 (stN zk 33)) := (HGZ.out.cell 67).trans (sty_at zk 67 (by omega))
      have z117 : w8.cell? ⟨gz, 117, none⟩ = some (.int .i64 (stN zk 58)) := (HGZ.out.cell 117).trans (sty_at zk 117 (by omega))
      clear hzl
      have HIS : Hid (hIs L ns xc yc k = (inR (fragR fgk) xc yc && decide (stN zk 33 ≠ 1) && decide (stN zk 58 ≠ 1))) := by
        show _ = _
        unfold hIs
        rw [HFAk.out.1, HFAk.out.2.1, HFAk.out.2.2.1]
      obtain ⟨is0, his0⟩ : ∃ is0, is0 = hIs L ns xc yc k := ⟨_, rfl⟩
      rw [← his0] at HIS
      have HI0 := Lib.hid his0
      clear his0
      have HWI := Lib.hid (fun (ww : World) => rin_calls (fragR fgk) xc yc (by
        obtain ⟨a0, a1, b0, b1, c0, c1, d0, d1⟩ := HFAk.out.2.2.2.2.2.2
        unfold fragR
        constructor <;> simp only <;> omega) ww)
      unfold fragR at HWI
      have HIS2 : Hid (is0 = (inR ⟨fgk.x, fgk.y, fgk.w, fgk.h⟩ xc yc && decide (stN zk 33 ≠ 1) && decide (stN zk 58 ≠ 1))) := HIS.out
      clear HIS
      generalize inR ⟨fgk.x, fgk.y, fgk.w, fgk.h⟩ xc yc = ir at HWI HIS2
      generalize stN zk 33 = v33 at z67 HIS2
      generalize stN zk 58 = v58 at z117 HIS2
      try simp only [Act.put, Array.toArray_toList, List.setIfInBounds_toArray, List.set_cons_zero, List.set_cons_succ]
      go_cut [14] from 48 to 71 (fun v wx => v = .bool is0 ∧ Hid (Below w8.heap.size w8 wx))
      case first =>
        have HGZ9 := Lib.hid (fun (ww : World) (hb : Below w8.heap.size w8 ww) => (show ww.cell? ⟨gz, 67, none⟩ = some (.int .i64 v33) ∧ ww.cell? ⟨gz, 117, none⟩ = some (.int .i64 v58) from ⟨(hb.cell (p := ⟨gz, 67, none⟩) HGZ.out.lt).trans z67, (hb.cell (p := ⟨gz, 117, none⟩) HGZ.out.lt).trans z117⟩))
        cases ir
        · have HE : Hid (is0 = false) := by show _ = _; rw [HIS2.out]; rfl
          go_wp2_with (go_at_call 49; refine (HWI.out _).mono ?_; rintro e w9 ⟨rfl, hb9⟩)
          go_meet
          case rel => exact ⟨by rw [HE.out], hb9⟩
        · by_cases h33 : v33 = 1
          · have q33 : (v33 != 1) = false := by simp [h33]
            have HE : Hid (is0 = false) := by show _ = _; rw [HIS2.out]; simp [h33]
            clear h33
            go_wp2_with (go_at_call 49; refine (HWI.out _).mono ?_; rintro e w9 ⟨rfl, hb9⟩; obtain ⟨y67, y117⟩ := HGZ9.out _ hb9)
            go_meet
            case rel => exact ⟨by rw [HE.out], hb9⟩
          · have q33 : (v33 != 1) = true := by simp [h33]
            have HE : Hid (is0 = (v58 != 1)) := by show _ = _; rw [HIS2.out, Bool.eq_iff_iff]; simp [h33]
            clear h33
            go_wp2_with (go_at_call 49; refine (HWI.out _).mono ?_; rintro e w9 ⟨rfl, hb9⟩; obtain ⟨y67, y117⟩ := HGZ9.out _ hb9)
            go_meet
            case rel => exact ⟨by rw [HE.out], hb9⟩
      case rest =>
        obtain ⟨rfl, HB89⟩ := hcut
        obtain ⟨w9, rfl⟩ : ∃ w9, w9 = wc := ⟨_, rfl⟩
        have HOUT := Lib.hid (own_below HOUT.out HB89.out)
        have HBE := Lib.hid (below_then HBE.out HB89.out)
        clear HB89 g3 g4 g5 g6 z67 z117 HWI HIS2 HGF HGZ
        go_wp2_with fail
        go_loopw [14, 73] (fun v i wj => ∃ j : Nat, j ≤ k ∧ i = .int .i64 j ∧ v = .bool (askN (hCl L ns) (hIs L ns xc yc) (hIn L ns xc yc) (endAt ns) k j) ∧ Hid (Below w9.heap.size w9 wj)) (fun _ i _ => k - (intOf i).toNat)
        case atStart => exact ⟨0, Nat.zero_le _, rfl, by rw [HI0.out]; rfl, Below.refl _ _⟩
        case round =>
          obtain ⟨j, hj, rfl, rfl, HBJ⟩ := hrel
          by_cases hjl : j < k
          · have hjn : j < ns.length := by omega
            have HJL := Lib.hid hjn
            have HBE := Lib.hid (below_then HBE.out HBJ.out)
            obtain ⟨_, hs0, hs1⟩ := step_at HSP.out HJL.out
            obtain ⟨fj, hfj⟩ : ∃ f, f = hF ns j := ⟨_, rfl⟩
            rw [← hfj] at hs0
            have hfn : fj < L.nf := by rw [hfj]; exact HFLT.out j HJL.out
            obtain ⟨_, fmj, hc0, hc1, hc2, hc3, hc4, hc5, hc6, hc7⟩ := frag_at HOK2.out HAF.out hfn
            obtain ⟨mj, hmj⟩ : ∃ m, m = L.bi fj := ⟨_, rfl⟩
            obtain ⟨fgj, hfgj⟩ : ∃ fg, fg = fr L.fs fj := ⟨_, rfl⟩
            rw [← hmj] at hc0 fmj
            rw [← hfgj] at hc1 hc2 hc3 hc4 hc5 hc6 hc7
            have HBXj : Hid (fgj.box = (mj : Int)) := by show _ = _; rw [hfgj, hmj]; exact (HOK2.out.bi_lt hfn).2
            obtain ⟨_, hk0⟩ := box_at HOK2.out HAB.out fmj
            obtain ⟨kdj, hkdj⟩ : ∃ kd, kd = (bx L.bs mj).kind := ⟨_, rfl⟩
            rw [← hkdj] at hk0
            obtain ⟨zj, hzj⟩ : ∃ z, z = L.lk mj := ⟨_, rfl⟩
            have hlzj : zj.length = 118 := by rw [hzj]; exact HOK2.out.len _
            have hlook := HOK2.out.looks mj fmj
            rw [← hzj] at hlook
            have HFAj : Hid (hF ns j = fj ∧ fr L.fs fj = fgj ∧ L.st fj = zj ∧ L.kd fj = kdj ∧ zj.length = 118 ∧ fj < L.nf ∧ FragB fgj) := ⟨hfj.symm, hfgj.symm, by unfold LayV.st; rw [← hmj, hzj], by unfold LayV.kd; rw [← hmj, hkdj], hlzj, hfn, by rw [hfgj]; exact HFB.out _ hfn⟩
            have HSZj : Hid ((Tryz.prog.info? 35).map (·.size) = some (sty zj).toList.length) := by show _ = _; rw [Array.length_toList, sty_size, hlzj]; kernel_rfl
            have HLAj := Lib.hid (sty_laid zj hlzj)
            have HSK : Hid (∀ Y : World, Below w1.heap.size w1 Y → (fun w' : World => w'.cell? ⟨w.heap.size, 1, none⟩ = some (.slice (some ⟨bF, offF, none⟩) L.nf L.cf) ∧ w'.cell? ⟨bS, offS + j * 2, none⟩ = some (.int .i64 fj) ∧ w'.cell? ⟨bF, offF + fj * 8, none⟩ = some (.int .i64 mj) ∧ w'.cell? ⟨bF, offF + fj * 8 + 1, none⟩ = some (.int .i64 fgj.node) ∧ w'.cell? ⟨bF, offF + fj * 8 + 2, none⟩ = some (.int .i64 fgj.par) ∧ w'.cell? ⟨bF, offF + fj * 8 + 3, none⟩ = some (.int .i64 fgj.x) ∧ w'.cell? ⟨bF, offF + fj * 8 + 4, none⟩ = some (.int .i64 fgj.y) ∧ w'.cell? ⟨bF, offF + fj * 8 + 5, none⟩ = some (.int .i64 fgj.w) ∧ w'.cell? ⟨bF, offF + fj * 8 + 6, none⟩ = some (.int .i64 fgj.h) ∧ w'.cell? ⟨bF, offF + fj * 8 + 7, none⟩ = some (.string fgj.text)) Y) := fun Y hY => ⟨(hY.cell (p := ⟨w.heap.size, 1, none⟩) HLT.out.1).trans (HDB1.out.cell 1), (hY.cell (p := ⟨bS, offS + j * 2, none⟩) HLT.out.2.1).trans hs0, (hY.cell (p := ⟨bF, offF + fj * 8, none⟩) HLT.out.2.2.1).trans hc0, (hY.cell (p := ⟨bF, offF + fj * 8 + 1, none⟩) HLT.out.2.2.1).trans hc1, (hY.cell (p := ⟨bF, offF + fj * 8 + 2, none⟩) HLT.out.2.2.1).trans hc2, (hY.cell (p := ⟨bF, offF + fj * 8 + 3, none⟩) HLT.out.2.2.1).trans hc3, (hY.cell (p := ⟨bF, offF + fj * 8 + 4, none⟩) HLT.out.2.2.1).trans hc4, (hY.cell (p := ⟨bF, offF + fj * 8 + 5, none⟩) HLT.out.2.2.1).trans hc5, (hY.cell (p := ⟨bF, offF + fj * 8 + 6, none⟩) HLT.out.2.2.1).trans hc6, (hY.cell (p := ⟨bF, offF + fj * 8 + 7, none⟩) HLT.out.2.2.1).trans hc7⟩
            have HSEj : Hid (∀ Y : World, Below w1.heap.size w1 Y → Y.cell? ⟨bS, offS + j * 2 + 1, none⟩ = some (.int .i64 (endAt ns j))) := fun Y hY => (hY.cell (p := ⟨bS, offS + j * 2 + 1, none⟩) HLT.out.2.1).trans hs1
            have HSK2j : Hid (∀ Y : World, Below w1.heap.size w1 Y → Y.cell? ⟨w.heap.size, 0, none⟩ = some (.slice (some ⟨bB, offB, none⟩) L.nb L.cb) ∧ Y.cell? ⟨bB, offB + mj * 5, none⟩ = some (.int .i64 kdj) ∧ Y.rangeAt L.gL (mj * 118) (sty zj).toList) := fun Y hY => ⟨(hY.cell (p := ⟨w.heap.size, 0, none⟩) HLT.out.1).trans (HDB1.out.cell 0), (hY.cell (p := ⟨bB, offB + mj * 5, none⟩) HLT.out.2.2.2.1).trans hk0, fun q v hv => (hY.cell (p := ⟨L.gL, mj * 118 + q, none⟩) HLT.out.2.2.2.2).trans (hlook q v hv)⟩
            have HFMj := Lib.hid (And.intro fmj hfn)
            clear hs0 hs1 hfj hc0 hc1 hc2 hc3 hc4 hc5 hc6 hc7 hmj hfgj hk0 hkdj hzj hlzj hlook fmj hfn
            have hfnj := HFMj.out.2
            have hmj := HFMj.out.1
            go_upto_region 13 with fail
            have HBE := Lib.hid (show Below w1.heap.size w1 (World.drew wr) from below_drewN HBE.out 1)
            have HBJ := Lib.hid (show Below w9.heap.size w9 (World.drew wr) from below_drewN HBJ.out 1)
            have hS0 := HSK.out (World.drew wr) HBE.out
            refine wp_region_noPanic ?_
            refine region_M (S := fun w' => w'.cell? ⟨w.heap.size, 1, none⟩ = some (.slice (some ⟨bF, offF, none⟩) L.nf L.cf) ∧ w'.cell? ⟨bS, offS + j * 2, none⟩ = some (.int .i64 fj) ∧ w'.cell? ⟨bF, offF + fj * 8, none⟩ = some (.int .i64 mj) ∧ w'.cell? ⟨bF, offF + fj * 8 + 1, none⟩ = some (.int .i64 fgj.node) ∧ w'.cell? ⟨bF, offF + fj * 8 + 2, none⟩ = some (.int .i64 fgj.par) ∧ w'.cell? ⟨bF, offF + fj * 8 + 3, none⟩ = some (.int .i64 fgj.x) ∧ w'.cell? ⟨bF, offF + fj * 8 + 4, none⟩ = some (.int .i64 fgj.y) ∧ w'.cell? ⟨bF, offF + fj * 8 + 5, none⟩ = some (.int .i64 fgj.w) ∧ w'.cell? ⟨bF, offF + fj * 8 + 6, none⟩ = some (.int .i64 fgj.h) ∧ w'.cell? ⟨bF, offF + fj * 8 + 7, none⟩ = some (.string fgj.text)) (T := []) (by kernel_rfl) ?_
            generalize World.drew wr = wj1 at HBE HBJ hS0 ⊢
            refine anyM_free (i := 0) (oi := { dst := some 76, op := _, type := _, pos := _, after := _, guard := _ }) (v := ?_) rfl (by kernel_rfl) (fun _ _ _ h => h) (Or.inl ⟨by kernel_rfl, ?_⟩) (fun _ => hS0) ?_
            rotate_left 1
            · (intro w hSw; (try dsimp only at hSw); go_simp; try with_reducible rfl)
            try simp only [Act.put, Array.toArray_toList, List.setIfInBounds_toArray, List.set_cons_zero, List.set_cons_succ]
            refine anyM_take (i := 1) (oi := { dst := some 77, op := _, type := _, pos := _, after := _, guard := _ }) (v := ?_) rfl (by kernel_rfl) (fun _ _ _ h => h) (Or.inl ⟨by kernel_rfl, ?_⟩) hS0 ?_
            rotate_left 1
            · (intro w hSw; (try dsimp only at hSw); go_simp; try with_reducible rfl)
            try simp only [Act.put, Array.toArray_toList, List.setIfInBounds_toArray, List.set_cons_zero, List.set_cons_succ]
            refine anyM_free (i := 2) (oi := { dst := some 78, op := _, type := _, pos := _, after := _, guard := _ }) (v := ?_) rfl (by kernel_rfl) (fun _ _ _ h => h) (Or.inl ⟨by kernel_rfl, ?_⟩) (fun _ => hS0) ?_
            rotate_left 1
            · (intro w hSw; (try dsimp only at hSw); go_simp; try with_reducible rfl)
            try simp only [Act.put, Array.toArray_toList, List.setIfInBounds_toArray, List.set_cons_zero, List.set_cons_succ]
            refine anyM_free (i := 3) (oi := { dst := some 79, op := _, type := _, pos := _, after := _, guard := _ }) (v := ?_) rfl (by kernel_rfl) (fun _ _ _ h => h) (Or.inl ⟨by kernel_rfl, ?_⟩) (fun _ => hS0) ?_
            rotate_left 1
            · (intro w hSw; (try dsimp only at hSw); go_simp; try with_reducible rfl)
            try simp only [Act.put, Array.toArray_toList, List.setIfInBounds_toArray, List.set_cons_zero, List.set_cons_succ]
            refine anyM_free (i := 4) (oi := { dst := some 80, op := _, type := _, pos := _, after := _, guard := _ }) (v := ?_) rfl (by kernel_rfl) (fun _ _ _ h => h) (Or.inl ⟨by kernel_rfl, ?_⟩) (fun _ => hS0) ?_
            rotate_left 1
            · (intro w hSw; (try dsimp only at hSw); go_simp; try with_reducible rfl)
            try simp only [Act.put, Array.toArray_toList, List.setIfInBounds_toArray, List.set_cons_zero, List.set_cons_succ]
            refine anyM_free (i := 5) (oi := { dst := some 81, op := _, type := _, pos := _, after := _, guard := _ }) (v := ?_) rfl (by kernel_rfl) (fun _ _ _ h => h) (Or.inl ⟨by kernel_rfl, ?_⟩) (fun _ => hS0) ?_
            rotate_left 1
            · (intro w hSw; (try dsimp only at hSw); go_simp; try with_reducible rfl)
            try simp only [Act.put, Array.toArray_toList, List.setIfInBounds_toArray, List.set_cons_zero, List.set_cons_succ]
            refine anyM_take (i := 6) (oi := { dst := some 82, op := _, type := _, pos := _, after := _, guard := _ }) (v := ?_) rfl (by kernel_rfl) (fun _ _ _ h => h) (Or.inl ⟨by kernel_rfl, ?_⟩) hS0 ?_
            rotate_left 1
            · (intro w hSw; (try dsimp only at hSw); go_simp; try with_reducible rfl)
            try simp only [Act.put, Array.toArray_toList, List.setIfInBounds_toArray, List.set_cons_zero, List.set_cons_succ]
            refine anyM_free (i := 7) (oi := { dst := some 83, op := _, type := _, pos := _, after := _, guard := _ }) (v := ?_) rfl (by kernel_rfl) (fun _ _ _ h => h) (Or.inl ⟨by kernel_rfl, ?_⟩) (fun _ => hS0) ?_
            rotate_left 1
            · (intro w hSw; (try dsimp only at hSw); go_simp; try with_reducible rfl)
            try simp only [Act.put, Array.toArray_toList, List.setIfInBounds_toArray, List.set_cons_zero, List.set_cons_succ]
            refine anyM_take (i := 8) (oi := { dst := some 84, op := _, type := _, pos := _, after := _, guard := _ }) (v := ?_) rfl (by kernel_rfl) (fun _ _ _ h => h) (Or.inl ⟨by kernel_rfl, ?_⟩) hS0 ?_
            rotate_left 1
            · (intro w hSw; (try dsimp only at hSw); go_simp; try with_reducible rfl)
            try simp only [Act.put, Array.toArray_toList, List.setIfInBounds_toArray, List.set_cons_zero, List.set_cons_succ]
            refine anyM_one (i := 9) (by kernel_rfl) rfl (fun K hK => ?_)
            go_simp
            have hS0 := HSK.out (wj1.alloc (.cells #[.int .i64 0, .int .i64 0, .int .i64 0, .int .i64 0, .int .i64 0, .int .i64 0, .int .i64 0, .string ⟨#[]⟩] 88)) (below_then HBE.out (below_alloc (Below.refl _ _) _))
            refine hK.out _ _ (fun _ => hS0) ?_
            clear hK K
            try simp only [Act.put, Array.toArray_toList, List.setIfInBounds_toArray, List.set_cons_zero, List.set_cons_succ]
            refine anyM_one (i := 10) (by kernel_rfl) rfl (fun K hK => ?_)
            rw [if_pos (by kernel_rfl)]
            refine wp_store_mid _ _ _ rfl wj1.heap.size 0 #[.int .i64 mj, .int .i64 fgj.node, .int .i64 fgj.par, .int .i64 fgj.x, .int .i64 fgj.y, .int .i64 fgj.w, .int .i64 fgj.h, .string fgj.text] rfl rfl (row_laid #[.int .i64 0, .int .i64 0, .int .i64 0, .int .i64 0, .int .i64 0, .int .i64 0, .int .i64 0, .string ⟨#[]⟩] #[.int .i64 mj, .int .i64 fgj.node, .int .i64 fgj.par, .int .i64 fgj.x, .int .i64 fgj.y, .int .i64 fgj.w, .int .i64 fgj.h, .string fgj.text] rfl wj1).1 (by kernel_rfl) (by kernel_rfl) ?_
            obtain ⟨wj2, hwj2, bnj, hbj⟩ := (row_laid (T := 88) #[.int .i64 0, .int .i64 0, .int .i64 0, .int .i64 0, .int .i64 0, .int .i64 0, .int .i64 0, .string ⟨#[]⟩] #[.int .i64 mj, .int .i64 fgj.node, .int .i64 fgj.par, .int .i64 fgj.x, .int .i64 fgj.y, .int .i64 fgj.w, .int .i64 fgj.h, .string fgj.text] rfl wj1).2
            rw [hwj2]
            clear hwj2
            have HBE := Lib.hid (below_then HBE.out hbj)
            have HBJ := Lib.hid (below_then HBJ.out hbj)
            have HGJ := Lib.hid bnj
            have hS0 := HSK.out wj2 HBE.out
            clear bnj hbj
            change K (Act.put _ none undef) _
            refine hK.out _ _ (fun _ => hS0) ?_
            clear hK K
            try simp only [Act.put, Array.toArray_toList, List.setIfInBounds_toArray, List.set_cons_zero, List.set_cons_succ]
            refine anyM_done (by kernel_rfl) ?_ _
            refine NoPanic.normal ?_
            clear hS0
            generalize wj1.heap.size = gj at HGJ ⊢
            clear HSK
            go_upto_region 14 with fail
            have HGJ := Lib.hid (show Blk (World.drew wj2) _ _ _ from HGJ.out)
            have HBE := Lib.hid (show Below w1.heap.size w1 (World.drew wj2) from below_drewN HBE.out 1)
            have HBJ := Lib.hid (show Below w9.heap.size w9 (World.drew wj2) from below_drewN HBJ.out 1)
            have hS0 : (fun w' : World => w'.cell? ⟨w.heap.size, 0, none⟩ = some (.slice (some ⟨bB, offB, none⟩) L.nb L.cb) ∧ w'.cell? ⟨gj, 0, none⟩ = some (.int .i64 mj) ∧ w'.cell? ⟨bB, offB + mj * 5, none⟩ = some (.int .i64 kdj) ∧ w'.rangeAt L.gL (mj * 118) (sty zj).toList) (World.drew wj2) := ⟨(HSK2j.out _ HBE.out).1, (HGJ.out).cell 0, (HSK2j.out _ HBE.out).2.1, (HSK2j.out _ HBE.out).2.2⟩
            refine wp_region_noPanic ?_
            refine region_M (S := fun w' => w'.cell? ⟨w.heap.size, 0, none⟩ = some (.slice (some ⟨bB, offB, none⟩) L.nb L.cb) ∧ w'.cell? ⟨gj, 0, none⟩ = some (.int .i64 mj) ∧ w'.cell? ⟨bB, offB + mj * 5, none⟩ = some (.int .i64 kdj) ∧ w'.rangeAt L.gL (mj * 118) (sty zj).toList) (T := []) (by kernel_rfl) ?_
            generalize World.drew wj2 = wj3 at HGJ HBE HBJ hS0 ⊢
            refine anyM_free (i := 0) (oi := { dst := some 85, op := _, type := _, pos := _, after := _, guard := _ }) (v := ?_) rfl (by kernel_rfl) (fun _ _ _ h => h) (Or.inl ⟨by kernel_rfl, ?_⟩) (fun _ => hS0) ?_
            rotate_left 1
            · (intro w hSw; (try dsimp only at hSw); go_simp; try with_reducible rfl)
            try simp only [Act.put, Array.toArray_toList, List.setIfInBounds_toArray, List.set_cons_zero, List.set_cons_succ]
            refine anyM_take (i := 1) (oi := { dst := some 86, op := _, type := _, pos := _, after := _, guard := _ }) (v := ?_) rfl (by kernel_rfl) (fun _ _ _ h => h) (Or.inl ⟨by kernel_rfl, ?_⟩) hS0 ?_
            rotate_left 1
            · (intro w hSw; (try dsimp only at hSw); go_simp; try with_reducible rfl)
            try simp only [Act.put, Array.toArray_toList, List.setIfInBounds_toArray, List.set_cons_zero, List.set_cons_succ]
            refine anyM_free (i := 2) (oi := { dst := some 87, op := _, type := _, pos := _, after := _, guard := _ }) (v := ?_) rfl (by kernel_rfl) (fun _ _ _ h => h) (Or.inl ⟨by kernel_rfl, ?_⟩) (fun _ => hS0) ?_
            rotate_left 1
            · (intro w hSw; (try dsimp only at hSw); go_simp; try with_reducible rfl)
            try simp only [Act.put, Array.toArray_toList, List.setIfInBounds_toArray, List.set_cons_zero, List.set_cons_succ]
            refine anyM_take (i := 3) (oi := { dst := some 88, op := _, type := _, pos := _, after := _, guard := _ }) (v := ?_) rfl (by kernel_rfl) (fun _ _ _ h => h) (Or.inl ⟨by kernel_rfl, ?_⟩) hS0 ?_
            rotate_left 1
            · (intro w hSw; (try dsimp only at hSw); go_simp; try with_reducible rfl)
            try simp only [Act.put, Array.toArray_toList, List.setIfInBounds_toArray, List.set_cons_zero, List.set_cons_succ]
            refine anyM_free (i := 4) (oi := { dst := some 89, op := _, type := _, pos := _, after := _, guard := _ }) (v := ?_) rfl (by kernel_rfl) (fun _ _ _ h => h) (Or.inl ⟨by kernel_rfl, ?_⟩) (fun _ => hS0) ?_
            rotate_left 1
            · (intro w hSw; (try dsimp only at hSw); go_simp; try with_reducible rfl)
            try simp only [Act.put, Array.toArray_toList, List.setIfInBounds_toArray, List.set_cons_zero, List.set_cons_succ]
            refine anyM_free (i := 5) (oi := { dst := some 90, op := _, type := _, pos := _, after := _, guard := _ }) (v := ?_) rfl (by kernel_rfl) (fun _ _ _ h => h) (Or.inl ⟨by kernel_rfl, ?_⟩) (fun _ => hS0) ?_
            rotate_left 1
            · (intro w hSw; (try dsimp only at hSw); go_simp; try with_reducible rfl)
            try simp only [Act.put, Array.toArray_toList, List.setIfInBounds_toArray, List.set_cons_zero, List.set_cons_succ]
            refine anyM_take (i := 6) (oi := { dst := some 91, op := _, type := _, pos := _, after := _, guard := _ }) (v := ?_) rfl (by kernel_rfl) (fun _ _ _ h => h) (Or.inl ⟨by kernel_rfl, ?_⟩) hS0 ?_
            rotate_left 1
            · (intro w hSw; (try dsimp only at hSw); go_simp; try with_reducible rfl)
            try simp only [Act.put, Array.toArray_toList, List.setIfInBounds_toArray, List.set_cons_zero, List.set_cons_succ]
            refine anyM_free (i := 7) (oi := { dst := some 92, op := _, type := _, pos := _, after := _, guard := _ }) (v := ?_) rfl (by kernel_rfl) (fun _ _ _ h => h) (Or.inl ⟨by kernel_rfl, ?_⟩) (fun _ => hS0) ?_
            rotate_left 1
            · (intro w hSw; (try dsimp only at hSw); go_simp; try with_reducible rfl)
            try simp only [Act.put, Array.toArray_toList, List.setIfInBounds_toArray, List.set_cons_zero, List.set_cons_succ]
            refine anyM_free (i := 8) (oi := { dst := some 93, op := _, type := _, pos := _, after := _, guard := _ }) (v := ?_) rfl (by kernel_rfl) (fun _ _ _ h => h) (Or.inl ⟨by kernel_rfl, ?_⟩) (fun _ => hS0) ?_
            rotate_left 1
            · (intro w hSw; (try dsimp only at hSw); go_simp; try with_reducible rfl)
            try simp only [Act.put, Array.toArray_toList, List.setIfInBounds_toArray, List.set_cons_zero, List.set_cons_succ]
            refine anyM_take (i := 9) (oi := { dst := some 94, op := _, type := _, pos := _, after := _, guard := _ }) (v := ?_) rfl (by kernel_rfl) (fun _ _ _ h => h) (Or.inl ⟨by kernel_rfl, ?_⟩) hS0 ?_
            rotate_left 1
            · (intro w hSw; (try dsimp only at hSw); go_simp; try with_reducible rfl)
            try simp only [Act.put, Array.toArray_toList, List.setIfInBounds_toArray, List.set_cons_zero, List.set_cons_succ]
            refine anyM_free (i := 10) (oi := { dst := some 95, op := _, type := _, pos := _, after := _, guard := _ }) (v := ?_) rfl (by kernel_rfl) (fun _ _ _ h => h) (Or.inl ⟨by kernel_rfl, ?_⟩) (fun _ => hS0) ?_
            rotate_left 1
            · (intro w hSw; (try dsimp only at hSw); go_simp; try with_reducible rfl)
            try simp only [Act.put, Array.toArray_toList, List.setIfInBounds_toArray, List.set_cons_zero, List.set_cons_succ]
            refine anyM_take (i := 11) (oi := { dst := some 96, op := _, type := _, pos := _, after := _, guard := _ }) (v := _) rfl (by kernel_rfl) (fun _ _ _ h => h) (yieldsIf_load_mid (by kernel_rfl) _ _ rfl _ _ rfl (sty zj).toList _ (fun w' h => by simpa using h.2.2.2) Tryz.underlying35 rfl HSZj.out) hS0 ?_
            try simp only [Act.put, Array.toArray_toList, List.setIfInBounds_toArray, List.set_cons_zero, List.set_cons_succ]
            refine anyM_one (i := 12) (by kernel_rfl) rfl (fun K hK => ?_)
            go_simp
            have hS0 : (fun w' : World => w'.cell? ⟨w.heap.size, 0, none⟩ = some (.slice (some ⟨bB, offB, none⟩) L.nb L.cb) ∧ w'.cell? ⟨gj, 0, none⟩ = some (.int .i64 mj) ∧ w'.cell? ⟨bB, offB + mj * 5, none⟩ = some (.int .i64 kdj) ∧ w'.rangeAt L.gL (mj * 118) (sty zj).toList) (wj3.alloc (.cells Tryz.zeroCells35 35)) := ⟨(HSK2j.out _ (below_then HBE.out (below_alloc (Below.refl _ _) _))).1, (HGJ.out.alloc (.cells Tryz.zeroCells35 35)).cell 0, (HSK2j.out _ (below_then HBE.out (below_alloc (Below.refl _ _) _))).2.1, (HSK2j.out _ (below_then HBE.out (below_alloc (Below.refl _ _) _))).2.2⟩
            refine hK.out _ _ (fun _ => hS0) ?_
            clear hK K
            try simp only [Act.put, Array.toArray_toList, List.setIfInBounds_toArray, List.set_cons_zero, List.set_cons_succ]
            refine anyM_free (i := 13) (oi := { dst := some 17, op := _, type := _, pos := _, after := _, guard := _ }) (v := ?_) rfl (by kernel_rfl) (fun _ _ _ h => h) (Or.inl ⟨by kernel_rfl, ?_⟩) (fun _ => hS0) ?_
            rotate_left 1
            · (intro w hSw; (try dsimp only at hSw); go_simp; try with_reducible rfl)
            try simp only [Act.put, Array.toArray_toList, List.setIfInBounds_toArray, List.set_cons_zero, List.set_cons_succ]
            refine anyM_one (i := 14) (by kernel_rfl) rfl (fun K hK => ?_)
            rw [if_pos (by kernel_rfl)]
            refine wp_store_mid _ _ _ rfl wj3.heap.size 0 (sty zj) rfl rfl (HLAj.out wj3).2.1 (HLAj.out wj3).1 (sty_one _) ?_
            obtain ⟨wj4, hwz, bSz, hbz, _⟩ := (HLAj.out wj3).2.2
            rw [hwz]
            clear hwz
            have HGJ := Lib.hid (HGJ.out.below hbz HGJ.out.lt)
            have HBE := Lib.hid (below_then HBE.out hbz)
            have HBJ := Lib.hid (below_then HBJ.out hbz)
            have HZJ := Lib.hid bSz
            have hS0 : (fun w' : World => w'.cell? ⟨w.heap.size, 0, none⟩ = some (.slice (some ⟨bB, offB, none⟩) L.nb L.cb) ∧ w'.cell? ⟨gj, 0, none⟩ = some (.int .i64 mj) ∧ w'.cell? ⟨bB, offB + mj * 5, none⟩ = some (.int .i64 kdj) ∧ w'.rangeAt L.gL (mj * 118) (sty zj).toList) wj4 := ⟨(HSK2j.out _ HBE.out).1, (HGJ.out).cell 0, (HSK2j.out _ HBE.out).2.1, (HSK2j.out _ HBE.out).2.2⟩
            clear bSz hbz
            change K (Act.put _ none undef) _
            refine hK.out _ _ (fun _ => hS0) ?_
            clear hK K
            try simp only [Act.put, Array.toArray_toList, List.setIfInBounds_toArray, List.set_cons_zero, List.set_cons_succ]
            refine anyM_done (by kernel_rfl) ?_ _
            refine NoPanic.normal ?_
            clear hS0
            generalize wj3.heap.size = gzj at HZJ ⊢
            have hzl := HFAj.out.2.2.2.2.1
            have z65 : wj4.cell? ⟨gzj, 65, none⟩ = some (.int .i64 (stN zj 32)) := (HZJ.out.cell 65).trans (sty_at zj 65 (by omega))
            have hsej := HSEj.out wj4 HBE.out
            clear hzl
            have HCLJ : Hid (hCl L ns j = (decide (stN zj 32 = 1) && decide (kdj ≠ 3) && decide (kdj ≠ 4))) := by show _ = _; unfold hCl; rw [HFAj.out.1, HFAj.out.2.2.1, HFAj.out.2.2.2.1]
            have HINJ : Hid (hIn L ns xc yc j = inR (innerR fgj zj) xc yc) := by show _ = _; unfold hIn; rw [HFAj.out.1, HFAj.out.2.1, HFAj.out.2.2.1]
            obtain ⟨v32, hv32⟩ : ∃ v, v = stN zj 32 := ⟨_, rfl⟩
            rw [← hv32] at z65 HCLJ
            obtain ⟨ej, hej⟩ : ∃ e, e = endAt ns j := ⟨_, rfl⟩
            rw [← hej] at hsej
            have HST2 : Hid (askN (hCl L ns) (hIs L ns xc yc) (hIn L ns xc yc) (endAt ns) k (j + 1) = if decide (k < ej) && (decide (v32 = 1) && decide (kdj ≠ 3) && decide (kdj ≠ 4)) then askN (hCl L ns) (hIs L ns xc yc) (hIn L ns xc yc) (endAt ns) k j && hIn L ns xc yc j else askN (hCl L ns) (hIs L ns xc yc) (hIn L ns xc yc) (endAt ns) k j) := by show _ = _; rw [ask_step, HCLJ.out, ← hej]
            clear hv32 hej HCLJ
            obtain ⟨b, hb⟩ : ∃ b, b = askN (hCl L ns) (hIs L ns xc yc) (hIn L ns xc yc) (endAt ns) k j := ⟨_, rfl⟩
            rw [← hb] at HST2 ⊢
            clear hb
            by_cases t1 : k < ej
            · have u1 : decide (k < ej) = true := decide_eq_true t1
              by_cases t2 : v32 = 1
              · have u2 : (v32 == 1) = true := by simp [t2]
                by_cases t3 : kdj = 3
                · have u3 : (kdj != 3) = false := by simp [t3]
                  have HE : Hid (askN (hCl L ns) (hIs L ns xc yc) (hIn L ns xc yc) (endAt ns) k (j + 1) = b) := by show _ = _; rw [HST2.out]; simp [t3]
                  clear t1 t2 t3
                  go_wp2_with fail
                  go_round
                  case rel => exact ⟨j + 1, by omega, by go_num, by rw [HE.out], HBJ.out⟩
                  case measure => simp [intOf]; omega
                · have u3 : (kdj != 3) = true := by simp [t3]
                  by_cases t4 : kdj = 4
                  · have u4 : (kdj != 4) = false := by simp [t4]
                    have HE : Hid (askN (hCl L ns) (hIs L ns xc yc) (hIn L ns xc yc) (endAt ns) k (j + 1) = b) := by show _ = _; rw [HST2.out]; simp [t4]
                    clear t1 t2 t3 t4
                    go_wp2_with fail
                    go_round
                    case rel => exact ⟨j + 1, by omega, by go_num, by rw [HE.out], HBJ.out⟩
                    case measure => simp [intOf]; omega
                  · have u4 : (kdj != 4) = true := by simp [t4]
                    have HE : Hid (askN (hCl L ns) (hIs L ns xc yc) (hIn L ns xc yc) (endAt ns) k (j + 1) = (b && hIn L ns xc yc j)) := by show _ = _; rw [HST2.out]; simp [t1, t2, t3, t4]
                    clear t1 t2 t3 t4 HST2
                    cases b
                    · have HE : Hid (askN (hCl L ns) (hIs L ns xc yc) (hIn L ns xc yc) (endAt ns) k (j + 1) = false) := by show _ = _; rw [HE.out]; rfl
                      go_wp2_with fail
                      go_round
                      case rel => exact ⟨j + 1, by omega, by go_num, by rw [HE.out], HBJ.out⟩
                      case measure => simp [intOf]; omega
                    · have HE : Hid (askN (hCl L ns) (hIs L ns xc yc) (hIn L ns xc yc) (endAt ns) k (j + 1) = inR (innerR fgj zj) xc yc) := by show _ = _; rw [HE.out, HINJ.out]; rfl
                      have HRK : RectOk (innerR fgj zj) := inner_ok HFAj.out.2.2.2.2.2.2
                      have HINN : Hid (∀ ww : World, Calls Tryz.prog 50 #[.agg #[.int .i64 mj, .int .i64 fgj.node, .int .i64 fgj.par, .int .i64 fgj.x, .int .i64 fgj.y, .int .i64 fgj.w, .int .i64 fgj.h, .string fgj.text], .agg (sty zj)] ww fun e w' => e = .returned (.agg #[.int .i64 (innerR fgj zj).x, .int .i64 (innerR fgj zj).y, .int .i64 (innerR fgj zj).w, .int .i64 (innerR fgj zj).h]) ∧ Below ww.heap.size ww w') := fun ww => by
                        have h9 := rinner_calls zj fgj ww HFAj.out.2.2.2.2.1 HFAj.out.2.2.2.2.2.2
                        unfold fragC at h9
                        rw [HBXj.out] at h9
                        exact h9
                      have HRI := Lib.hid (fun (ww : World) => rin_calls (innerR fgj zj) xc yc HRK ww)
                      generalize inR (innerR fgj zj) xc yc = ir at HE HRI
                      generalize (innerR fgj zj).x = jx at HINN HRI
                      generalize (innerR fgj zj).y = jy at HINN HRI
                      generalize (innerR fgj zj).w = jw at HINN HRI
                      generalize (innerR fgj zj).h = jh at HINN HRI
                      have v0 : wj4.cell? ⟨gj, 0, none⟩ = some (.int .i64 mj) := HGJ.out.cell 0
                      have v1 : wj4.cell? ⟨gj, 1, none⟩ = some (.int .i64 fgj.node) := HGJ.out.cell 1
                      have v2 : wj4.cell? ⟨gj, 2, none⟩ = some (.int .i64 fgj.par) := HGJ.out.cell 2
                      have v3 : wj4.cell? ⟨gj, 3, none⟩ = some (.int .i64 fgj.x) := HGJ.out.cell 3
                      have v4 : wj4.cell? ⟨gj, 4, none⟩ = some (.int .i64 fgj.y) := HGJ.out.cell 4
                      have v5 : wj4.cell? ⟨gj, 5, none⟩ = some (.int .i64 fgj.w) := HGJ.out.cell 5
                      have v6 : wj4.cell? ⟨gj, 6, none⟩ = some (.int .i64 fgj.h) := HGJ.out.cell 6
                      have v7 : wj4.cell? ⟨gj, 7, none⟩ = some (.string fgj.text) := HGJ.out.cell 7
                      have HRGJ := Lib.hid (range_blkA HZJ.out)
                      clear HRK HINJ
                      go_wp2_with (first | (refine wpList_load_midG (by kernel_rfl) 35 _ rfl gzj 0 rfl (sty zj).toList _ HRGJ.out Tryz.underlying35 rfl HSZj.out ?_) | (go_at_call 50; refine (HINN.out _).mono ?_; rintro e wi ⟨rfl, hbi⟩; have HBI := Lib.hid hbi; clear hbi) | (go_at_call 49; refine (HRI.out _).mono ?_; rintro e wi2 ⟨rfl, hbi⟩; have HBI2 := Lib.hid hbi; clear hbi))
                      go_round
                      case rel => exact ⟨j + 1, by omega, by go_num, by rw [HE.out], below_then (below_then HBJ.out HBI.out) HBI2.out⟩
                      case measure => simp [intOf]; omega
              · have u2 : (v32 == 1) = false := by simp [t2]
                have HE : Hid (askN (hCl L ns) (hIs L ns xc yc) (hIn L ns xc yc) (endAt ns) k (j + 1) = b) := by show _ = _; rw [HST2.out]; simp [t2]
                clear t1 t2
                go_wp2_with fail
                go_round
                case rel => exact ⟨j + 1, by omega, by go_num, by rw [HE.out], HBJ.out⟩
                case measure => simp [intOf]; omega
            · have u1 : decide (k < ej) = false := decide_eq_false t1
              have HE : Hid (askN (hCl L ns) (hIs L ns xc yc) (hIn L ns xc yc) (endAt ns) k (j + 1) = b) := by show _ = _; rw [HST2.out, u1]; rfl
              clear t1
              go_wp2_with fail
              go_round
              case rel => exact ⟨j + 1, by omega, by go_num, by rw [HE.out], HBJ.out⟩
              case measure => simp [intOf]; omega
          · have e : j = k := by omega
            subst e
            have HBE := Lib.hid (below_then HBE.out HBJ.out)
            have HOUT := Lib.hid (own_below HOUT.out HBJ.out)
            have HQQ : Hid (askN (hCl L ns) (hIs L ns xc yc) (hIn L ns xc yc) (endAt ns) j j = hQ L ns xc yc j) := ask_eq _ _ _ _ _
            rw [HQQ.out]
            have HUN := Lib.hid (hits_step L ns xc yc j)
            obtain ⟨hq, hhq⟩ : ∃ hq, hq = hQ L ns xc yc j := ⟨_, rfl⟩
            rw [← hhq] at HUN ⊢
            clear hhq HQQ HBJ hj hjl
            have hw6 : wrap64 ((j : Int) - 1) = (j : Int) - 1 := by unfold wrap64; omega
            cases hq
            · have HE : Hid (hits L ns xc yc ns.length = acc ++ hits L ns xc yc j) := by show _ = _; rw [HACC.out, HUN.out]; rfl
              go_wp2_with fail
              go_round
              case rel => exact ⟨j, (j : Int) - 1, A2, c2, acc, by omega, rfl, rfl, rfl, HOUT.out, HBE.out, HE.out⟩
              case measure => simp [intOf] <;> omega
            · have HE : Hid (hits L ns xc yc ns.length = (acc ++ [nodeAt L.fs fk]) ++ hits L ns xc yc j) := by
                show _ = _
                have e2 : hWho L ns j = nodeAt L.fs fk := by unfold hWho; rw [HFAk.out.1]
                rw [HACC.out, HUN.out, e2, List.append_assoc]
                rfl
              obtain ⟨_, hs0, _⟩ := step_at (HSP.out.below HBE.out (Nat.le_refl _)) HKL.out
              rw [HFAk.out.1] at hs0
              have t1 : wr.cell? ⟨w.heap.size, 1, none⟩ = some (.slice (some ⟨bF, offF, none⟩) L.nf L.cf) := (HDB1.out.below HBE.out HDB1.out.lt).cell 1
              have HOX := Lib.hid (HOK2.out.below HBE.out (Nat.le_refl _))
              obtain ⟨w9', rfl⟩ : ∃ w9', w9' = wr := ⟨_, rfl⟩
              go_wp2_with fail
              clear hs0
              go_loop [19] (fun v => ∃ p : Nat, p < L.nf ∧ v = .int .i64 p ∧ Hid (nodeAt L.fs fk = nodeAt L.fs p)) (fun v => (intOf v).toNat)
              case atStart => exact ⟨fk, HFMk.out.2, rfl, rfl⟩
              case round =>
                obtain ⟨p, hp, rfl, HNP⟩ := hrel
                obtain ⟨_, _, _, c1', c2', _⟩ := frag_at HOX.out HAF.out hp
                have hpl : p < L.fs.length := by rw [HOX.out.hf]; exact hp
                have HUP := Lib.hid (fun hn => nodeAt_up HPAR.out HROOT.out hpl hn)
                have HOW := Lib.hid (fun hn => nodeAt_own (fs := L.fs) (i := p) hn)
                have hpp := Lib.hid (fun h => HPAR.out p h hpl)
                have hfl := HOX.out.hf
                generalize (fr L.fs p).node = nd at c1' HUP HOW
                generalize (fr L.fs p).par = pa at c2' HUP hpp
                by_cases hn : nd < 0
                · have q1 : decide (nd < 0) = true := decide_eq_true hn
                  obtain ⟨e1, e2⟩ := HUP.out hn
                  obtain ⟨p1, p2⟩ := hpp.out e2
                  obtain ⟨p', rfl⟩ : ∃ p' : Nat, pa = p' := ⟨pa.toNat, by omega⟩
                  have HE3 : Hid (nodeAt L.fs fk = nodeAt L.fs p') := by show _ = _; rw [HNP.out, e1, Int.toNat_natCast]
                  clear e1 hn
                  go_wp2_with fail
                  go_round
                  case rel => exact ⟨p', by omega, rfl, HE3.out⟩
                  case measure => simp [intOf] <;> omega
                · have q1 : decide (nd < 0) = false := decide_eq_false hn
                  have HE3 : Hid (nodeAt L.fs fk = nd) := by show _ = _; rw [HNP.out, HOW.out hn]
                  have hbb := below_alloc (Below.refl w9'.heap.size w9') (.cells #[.int .i64 nd] 3)
                  have HOUT := Lib.hid (own_below HOUT.out hbb)
                  have HBE := Lib.hid (below_then HBE.out hbb)
                  have HNEW := Lib.hid (Blk.new w9' 3 #[.int .i64 nd])
                  have hmx : acc.length + 1 ≤ maxLen := by unfold maxLen; omega
                  clear hn hbb
                  go_wp2_with (at_builtin; refine wpList_append_any rfl _ _ 44 rfl w1.heap.size 3 iI (.int .i64 0) 1 8 Tryz.underlying44 hiI hzI0 hzI1 hzI2 rfl (by decide) (.slice A2 acc.length c2) acc.length (ints acc) rfl HOUT.out (some ⟨w9'.heap.size, 0, none⟩) 1 1 [.int .i64 nd] rfl rfl (.inl ⟨w9'.heap.size, 0, rfl, fun j u hj => by rw [Nat.zero_add, HNEW.out.cell j]; simpa using hj⟩) (by intro u hu; simp at hu; subst hu; rfl) (by omega) (by omega) HBE.out.size ?_; intro A9 c9 w10 ho9 hg9 hat9; have HO9 := Lib.hid ho9; have HB9 := Lib.hid (HBE.out.grown hg9 HBE.out.size (fun k9 h9 => (HOUT.out.lt k9 h9).1)); clear ho9 hg9 hat9)
                  go_round
                  case rel =>
                    refine ⟨j, (j : Int) - 1, A9, c9, acc ++ [nodeAt L.fs fk], by omega, rfl, rfl, by rw [List.length_append]; rfl, ?_, HB9.out, HE.out⟩
                    have e9 : ints (acc ++ [nodeAt L.fs fk]) = ints acc ++ [.int .i64 nd] := by rw [HE3.out]; simp [ints]
                    rw [e9, List.length_append]
                    exact HO9.out
                  case measure => simp [intOf] <;> omega
    · have q0 : decide (0 ≤ j) = false := by simp; omega
      have e0 : m = 0 := by omega
      subst e0
      clear hj hj0
      go_wp2_with fail
      go_ret
      obtain ⟨e1, e2⟩ := HXC.out
      subst e1
      subst e2
      have e3 : hits L ns (cut x) (cut y) ns.length = acc := by rw [HACC.out]; show acc ++ [] = acc; simp
      rw [e3]
      exact ⟨A2, c2, rfl, own_baseH HOUT.out HW1.out.size, below_then HW1.out HBE.out⟩
end Go.Proofs.YtkmmlcnoeeaekaaGreatDoor
