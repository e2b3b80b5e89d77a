/- Several texts in one: StkF. -/
import Derived.Test.YtkmmlcnoeeaekaaGreatDoorPaintListM27
/- Contracts of the reference's pocket and owner. -/
namespace Go.Proofs.YtkmmlcnoeeaekaaGreatDoor
open Go.RowKit
set_option linter.unusedVariables false
set_option linter.unusedSimpArgs false

theorem wpList_load_rowG {P : Program} {ops : Array Oper} {rest : List Oper} {o : Oper} {a : Act} {w : World} {Q : Exit → Act → World → Prop} (ty : TypeId) (x : Operand) (ho : o.op = .load ty x)
    (g : Nat) (hx : a.eval x = .pointer (some ⟨g, 0, none⟩)) (t : TypeId) (cs : Array Value) (fr : Nat × Nat) (d : TypeDesc) (hg : w.heap[g]? = some (.cells cs t fr))
    (hu : P.underlying ty = some d) (hd : (match d with | .struct _ | .array _ _ => true | _ => false) = true) (hi : (P.info? ty).map (·.size) = some cs.size) (hw : Region.wanted o (yielded ops a.tmps) = true)
    (h : wpList P ops Q rest (a.put o.dst (.agg cs)) w) : wpList P ops Q (o :: rest) a w :=
  BigFrame.wpList_want hw fun _ hK => wp_load_row ty x ho g hx t cs fr d hg hu hd hi (hK _ _ h)
set_option maxRecDepth 100000 in
set_option maxHeartbeats 4000000 in
theorem rpocket_calls (L : LayV) (B gS k : Nat) (v : Value) (w : World) (h : RSt L B gS v w) (hk : k < L.nf) :
    Calls Tryz.prog 91 #[.pointer (some ⟨gS, 0, none⟩), .int .i64 (k : Nat)] w fun e w' => e = .returned (.bool (L.pocketF k)) ∧ Below w.heap.size w w' := by
  have hla := fun w (h : RSt L B gS v w) => rlayer_calls L B gS k v w h hk
  have hwi := fun w (h : RSt L B gS v w) => rwithin_calls L B gS k v w h hk
  have hkd := fun w (h : RSt L B gS v w) => rkind_calls L B gS k v w h hk
  have hlk := fun w (h : RSt L B gS v w) => rlook_calls L B gS k v w h hk
  have hout := fun w => rOut_calls (L.st k) (h.lay.len (L.bi k)) w
  have e : L.pocketF k = (k == 0 || !L.layerF k && !L.withinF k && (L.kd k == 5 || outN (stN (L.st k) 1) (stN (L.st k) 2) == 1 || stN (L.st k) 32 == 1)) := rfl
  have hz := h.lay.len (L.bi k)
  rw [e]
  obtain ⟨la, hlae⟩ : ∃ x, x = L.layerF k := ⟨_, rfl⟩
  rw [← hlae] at hla ⊢
  obtain ⟨wi, hwie⟩ : ∃ x, x = L.withinF k := ⟨_, rfl⟩
  rw [← hwie] at hwi ⊢
  obtain ⟨kd, hkde⟩ : ∃ x, x = L.kd k := ⟨_, rfl⟩
  rw [← hkde] at hkd ⊢
  obtain ⟨zs, hzs⟩ : ∃ x, x = L.st k := ⟨_, rfl⟩
  have hz' : zs.length = 118 := by rw [hzs]; exact hz
  rw [← hzs] at hlk hout ⊢
  obtain ⟨ou, hou⟩ : ∃ x, x = outN (stN zs 1) (stN zs 2) := ⟨_, rfl⟩
  rw [← hou] at hout ⊢
  have o1 : (sty zs)[65]? = some (.int .i64 (stN zs 32)) := sty_at zs 65 (by omega)
  obtain ⟨ov, hov⟩ : ∃ x, x = stN zs 32 := ⟨_, rfl⟩
  rw [← hov] at o1 ⊢
  have HLAID := Lib.hid (fun w => look_laid zs hz' w)
  have HSZ := Lib.hid (look_laid zs hz' w).1
  have H := Lib.hid h
  have HKD := Lib.hid hkd
  have HLK := Lib.hid hlk
  have HOUT := Lib.hid hout
  have O1 := Lib.hid o1
  have hbel := Below.refl w.heap.size w
  clear e h hkd hlk hout hlae hwie hkde hzs hou hov hz hz' o1
  by_cases h0 : k = 0
  · have q0 : ((k : Int) == 0) = true := by simp [h0]
    have q0' : (k == 0) = true := by simp [h0]
    rw [q0']
    simp only [Bool.true_or]
    clear h0 hla hwi
    go_enter Tryz.func91, Tryz.ntmps91
    go_upto_region 2 with (first | (go_at_call 142; refine (HLK.out _ (H.out.below hbel)).mono ?_; rintro e w1 ⟨rfl, hb1⟩; have hbel := below_then hbel hb1) | (refine wpList_store_mid rfl _ _ _ rfl w1.heap.size 0 (sty zs) rfl rfl (HLAID.out w1).2.1 (HLAID.out w1).1 (sty_one _) ?_; obtain ⟨w2, hw2, bS, hb2, hsz2⟩ := (HLAID.out w1).2.2; rw [hw2]; clear hw2; have hbel := below_then hbel hb2; have o1 : w2.cell? ⟨w1.heap.size, 65, none⟩ = some (.int .i64 ov) := (bS.cell 65).trans O1.out))
    go_wp2_with fail
    go_ret
    exact ⟨rfl, hbel⟩
  have q0 : ((k : Int) == 0) = false := by simp [h0]
  have q0' : (k == 0) = false := by simp [h0]
  rw [q0']
  simp only [Bool.false_or]
  clear h0
  cases la
  · have HLA := Lib.hid hla
    clear hla
    cases wi
    · have HWI := Lib.hid hwi
      clear hwi
      simp only [Bool.not_false, Bool.true_and]
      by_cases h5 : kd = 5
      · have q5 : (kd == 5) = true := by simp [h5]
        rw [q5]
        simp only [Bool.true_or]
        clear h5
        go_enter Tryz.func91, Tryz.ntmps91
        go_upto_region 2 with (first | (go_at_call 142; refine (HLK.out _ (H.out.below hbel)).mono ?_; rintro e w1 ⟨rfl, hb1⟩; have hbel := below_then hbel hb1) | (refine wpList_store_mid rfl _ _ _ rfl w1.heap.size 0 (sty zs) rfl rfl (HLAID.out w1).2.1 (HLAID.out w1).1 (sty_one _) ?_; obtain ⟨w2, hw2, bS, hb2, hsz2⟩ := (HLAID.out w1).2.2; rw [hw2]; clear hw2; have hbel := below_then hbel hb2; have o1 : w2.cell? ⟨w1.heap.size, 65, none⟩ = some (.int .i64 ov) := (bS.cell 65).trans O1.out))
        go_wp2_with (first | (go_at_call 90; refine (HLA.out _ (H.out.below hbel)).mono ?_; rintro e w3 ⟨rfl, hb3⟩; have hbel := below_then hbel hb3; have bS := bS.below hb3 bS.lt; have o1 : w3.cell? ⟨w1.heap.size, 65, none⟩ = some (.int .i64 ov) := (bS.cell 65).trans O1.out) | (go_at_call 140; refine (HWI.out _ (H.out.below hbel)).mono ?_; rintro e w3 ⟨rfl, hb3⟩; have hbel := below_then hbel hb3; have bS := bS.below hb3 bS.lt; have o1 : w3.cell? ⟨w1.heap.size, 65, none⟩ = some (.int .i64 ov) := (bS.cell 65).trans O1.out) | (go_at_call 141; refine (HKD.out _ (H.out.below hbel)).mono ?_; rintro e w3 ⟨rfl, hb3⟩; have hbel := below_then hbel hb3; have bS := bS.below hb3 bS.lt; have o1 : w3.cell? ⟨w1.heap.size, 65, none⟩ = some (.int .i64 ov) := (bS.cell 65).trans O1.out) | (go_at_call 10; refine (HOUT.out _).mono ?_; rintro e w4 ⟨rfl, hb4⟩; have hbel := below_then hbel hb4; have bS := bS.below hb4 bS.lt; have o1 : w4.cell? ⟨w1.heap.size, 65, none⟩ = some (.int .i64 ov) := (bS.cell 65).trans O1.out))
        go_ret
        exact ⟨rfl, hbel⟩
      · have q5 : (kd == 5) = false := by simpa using h5
        rw [q5]
        simp only [Bool.false_or]
        clear h5
        by_cases h1 : ou = 1
        · have q1 : (ou == 1) = true := by simp [h1]
          rw [q1]
          simp only [Bool.true_or]
          clear h1
          go_enter Tryz.func91, Tryz.ntmps91
          go_upto_region 2 with (first | (go_at_call 142; refine (HLK.out _ (H.out.below hbel)).mono ?_; rintro e w1 ⟨rfl, hb1⟩; have hbel := below_then hbel hb1) | (refine wpList_store_mid rfl _ _ _ rfl w1.heap.size 0 (sty zs) rfl rfl (HLAID.out w1).2.1 (HLAID.out w1).1 (sty_one _) ?_; obtain ⟨w2, hw2, bS, hb2, hsz2⟩ := (HLAID.out w1).2.2; rw [hw2]; clear hw2; have hbel := below_then hbel hb2; have o1 : w2.cell? ⟨w1.heap.size, 65, none⟩ = some (.int .i64 ov) := (bS.cell 65).trans O1.out))
          go_wp2_with (first | (go_at_call 90; refine (HLA.out _ (H.out.below hbel)).mono ?_; rintro e w3 ⟨rfl, hb3⟩; have hbel := below_then hbel hb3; have bS := bS.below hb3 bS.lt; have o1 : w3.cell? ⟨w1.heap.size, 65, none⟩ = some (.int .i64 ov) := (bS.cell 65).trans O1.out) | (go_at_call 140; refine (HWI.out _ (H.out.below hbel)).mono ?_; rintro e w3 ⟨rfl, hb3⟩; have hbel := below_then hbel hb3; have bS := bS.below hb3 bS.lt; have o1 : w3.cell? ⟨w1.heap.size, 65, none⟩ = some (.int .i64 ov) := (bS.cell 65).trans O1.out) | (go_at_call 141; refine (HKD.out _ (H.out.below hbel)).mono ?_; rintro e w3 ⟨rfl, hb3⟩; have hbel := below_then hbel hb3; have bS := bS.below hb3 bS.lt; have o1 : w3.cell? ⟨w1.heap.size, 65, none⟩ = some (.int .i64 ov) := (bS.cell 65).trans O1.out) | (refine wpList_load_rowG 35 _ rfl w1.heap.size rfl 35 (sty zs) (0, 0) _ bS Tryz.underlying35 rfl HSZ.out (by kernel_rfl) ?_) | (go_at_call 10; refine (HOUT.out _).mono ?_; rintro e w4 ⟨rfl, hb4⟩; have hbel := below_then hbel hb4; have bS := bS.below hb4 bS.lt; have o1 : w4.cell? ⟨w1.heap.size, 65, none⟩ = some (.int .i64 ov) := (bS.cell 65).trans O1.out))
          go_ret
          exact ⟨rfl, hbel⟩
        · have q1 : (ou == 1) = false := by simpa using h1
          rw [q1]
          simp only [Bool.false_or]
          clear h1
          cases q6 : (ov == 1)
          all_goals
            go_enter Tryz.func91, Tryz.ntmps91
            go_upto_region 2 with (first | (go_at_call 142; refine (HLK.out _ (H.out.below hbel)).mono ?_; rintro e w1 ⟨rfl, hb1⟩; have hbel := below_then hbel hb1) | (refine wpList_store_mid rfl _ _ _ rfl w1.heap.size 0 (sty zs) rfl rfl (HLAID.out w1).2.1 (HLAID.out w1).1 (sty_one _) ?_; obtain ⟨w2, hw2, bS, hb2, hsz2⟩ := (HLAID.out w1).2.2; rw [hw2]; clear hw2; have hbel := below_then hbel hb2; have o1 : w2.cell? ⟨w1.heap.size, 65, none⟩ = some (.int .i64 ov) := (bS.cell 65).trans O1.out))
            go_wp2_with (first | (go_at_call 90; refine (HLA.out _ (H.out.below hbel)).mono ?_; rintro e w3 ⟨rfl, hb3⟩; have hbel := below_then hbel hb3; have bS := bS.below hb3 bS.lt; have o1 : w3.cell? ⟨w1.heap.size, 65, none⟩ = some (.int .i64 ov) := (bS.cell 65).trans O1.out) | (go_at_call 140; refine (HWI.out _ (H.out.below hbel)).mono ?_; rintro e w3 ⟨rfl, hb3⟩; have hbel := below_then hbel hb3; have bS := bS.below hb3 bS.lt; have o1 : w3.cell? ⟨w1.heap.size, 65, none⟩ = some (.int .i64 ov) := (bS.cell 65).trans O1.out) | (go_at_call 141; refine (HKD.out _ (H.out.below hbel)).mono ?_; rintro e w3 ⟨rfl, hb3⟩; have hbel := below_then hbel hb3; have bS := bS.below hb3 bS.lt; have o1 : w3.cell? ⟨w1.heap.size, 65, none⟩ = some (.int .i64 ov) := (bS.cell 65).trans O1.out) | (refine wpList_load_rowG 35 _ rfl w1.heap.size rfl 35 (sty zs) (0, 0) _ bS Tryz.underlying35 rfl HSZ.out (by kernel_rfl) ?_) | (go_at_call 10; refine (HOUT.out _).mono ?_; rintro e w4 ⟨rfl, hb4⟩; have hbel := below_then hbel hb4; have bS := bS.below hb4 bS.lt; have o1 : w4.cell? ⟨w1.heap.size, 65, none⟩ = some (.int .i64 ov) := (bS.cell 65).trans O1.out))
            go_ret
            exact ⟨rfl, hbel⟩
    · have HWI := Lib.hid hwi
      clear hwi
      simp only [Bool.not_false, Bool.true_and, Bool.not_true, Bool.false_and]
      go_enter Tryz.func91, Tryz.ntmps91
      go_upto_region 2 with (first | (go_at_call 142; refine (HLK.out _ (H.out.below hbel)).mono ?_; rintro e w1 ⟨rfl, hb1⟩; have hbel := below_then hbel hb1) | (refine wpList_store_mid rfl _ _ _ rfl w1.heap.size 0 (sty zs) rfl rfl (HLAID.out w1).2.1 (HLAID.out w1).1 (sty_one _) ?_; obtain ⟨w2, hw2, bS, hb2, hsz2⟩ := (HLAID.out w1).2.2; rw [hw2]; clear hw2; have hbel := below_then hbel hb2; have o1 : w2.cell? ⟨w1.heap.size, 65, none⟩ = some (.int .i64 ov) := (bS.cell 65).trans O1.out))
      go_wp2_with (first | (go_at_call 90; refine (HLA.out _ (H.out.below hbel)).mono ?_; rintro e w3 ⟨rfl, hb3⟩; have hbel := below_then hbel hb3; have bS := bS.below hb3 bS.lt; have o1 : w3.cell? ⟨w1.heap.size, 65, none⟩ = some (.int .i64 ov) := (bS.cell 65).trans O1.out) | (go_at_call 140; refine (HWI.out _ (H.out.below hbel)).mono ?_; rintro e w3 ⟨rfl, hb3⟩; have hbel := below_then hbel hb3; have bS := bS.below hb3 bS.lt; have o1 : w3.cell? ⟨w1.heap.size, 65, none⟩ = some (.int .i64 ov) := (bS.cell 65).trans O1.out) | (go_at_call 141; refine (HKD.out _ (H.out.below hbel)).mono ?_; rintro e w3 ⟨rfl, hb3⟩; have hbel := below_then hbel hb3; have bS := bS.below hb3 bS.lt; have o1 : w3.cell? ⟨w1.heap.size, 65, none⟩ = some (.int .i64 ov) := (bS.cell 65).trans O1.out) | (go_at_call 10; refine (HOUT.out _).mono ?_; rintro e w4 ⟨rfl, hb4⟩; have hbel := below_then hbel hb4; have bS := bS.below hb4 bS.lt; have o1 : w4.cell? ⟨w1.heap.size, 65, none⟩ = some (.int .i64 ov) := (bS.cell 65).trans O1.out))
      go_ret
      exact ⟨rfl, hbel⟩
  · have HLA := Lib.hid hla
    clear hla hwi
    simp only [Bool.not_true, Bool.false_and]
    go_enter Tryz.func91, Tryz.ntmps91
    go_upto_region 2 with (first | (go_at_call 142; refine (HLK.out _ (H.out.below hbel)).mono ?_; rintro e w1 ⟨rfl, hb1⟩; have hbel := below_then hbel hb1) | (refine wpList_store_mid rfl _ _ _ rfl w1.heap.size 0 (sty zs) rfl rfl (HLAID.out w1).2.1 (HLAID.out w1).1 (sty_one _) ?_; obtain ⟨w2, hw2, bS, hb2, hsz2⟩ := (HLAID.out w1).2.2; rw [hw2]; clear hw2; have hbel := below_then hbel hb2; have o1 : w2.cell? ⟨w1.heap.size, 65, none⟩ = some (.int .i64 ov) := (bS.cell 65).trans O1.out))
    go_wp2_with (first | (go_at_call 90; refine (HLA.out _ (H.out.below hbel)).mono ?_; rintro e w3 ⟨rfl, hb3⟩; have hbel := below_then hbel hb3; have bS := bS.below hb3 bS.lt; have o1 : w3.cell? ⟨w1.heap.size, 65, none⟩ = some (.int .i64 ov) := (bS.cell 65).trans O1.out) | (go_at_call 140; refine (HWI.out _ (H.out.below hbel)).mono ?_; rintro e w3 ⟨rfl, hb3⟩; have hbel := below_then hbel hb3; have bS := bS.below hb3 bS.lt; have o1 : w3.cell? ⟨w1.heap.size, 65, none⟩ = some (.int .i64 ov) := (bS.cell 65).trans O1.out) | (go_at_call 141; refine (HKD.out _ (H.out.below hbel)).mono ?_; rintro e w3 ⟨rfl, hb3⟩; have hbel := below_then hbel hb3; have bS := bS.below hb3 bS.lt; have o1 : w3.cell? ⟨w1.heap.size, 65, none⟩ = some (.int .i64 ov) := (bS.cell 65).trans O1.out) | (go_at_call 10; refine (HOUT.out _).mono ?_; rintro e w4 ⟨rfl, hb4⟩; have hbel := below_then hbel hb4; have bS := bS.below hb4 bS.lt; have o1 : w4.cell? ⟨w1.heap.size, 65, none⟩ = some (.int .i64 ov) := (bS.cell 65).trans O1.out))
    go_ret
    exact ⟨rfl, hbel⟩
theorem par_lt {L : LayV} {w : World} {B k : Nat} (h : L.ok w B) (h0 : 0 < k) (hk : k < L.nf) : L.par k < k ∧ (fr L.fs k).par = (L.par k : Int) := by
  have := (h.good k hk).2.2.2.2 h0
  unfold LayV.par
  constructor <;> omega
set_option maxRecDepth 100000 in
set_option maxHeartbeats 4000000 in
theorem rowner_calls (L : LayV) (B gS k : Nat) (v : Value) (w : World) (h : RSt L B gS v w) (hk : k < L.nf) (h0 : 0 < k) :
    Calls Tryz.prog 86 #[.pointer (some ⟨gS, 0, none⟩), .int .i64 (k : Nat)] w fun e w' => e = .returned (.int .i64 (ownerP L.par L.flatF k : Nat)) ∧ Below w.heap.size w w' := by
  have H := Lib.hid h
  have hp := par_lt h.lay h0 hk
  obtain ⟨b, off, eA, hb, -, f2⟩ := h.lay.frag hk
  have s1 := h.c1
  rw [eA] at s1
  rw [hp.2] at f2
  have EA := Lib.hid eA
  obtain ⟨T, hT⟩ : ∃ T, T = ownerP L.par L.flatF k := ⟨_, rfl⟩
  rw [← hT]
  have HT : Hid (climb L.par L.flatF (L.par k) (L.par k) = T) := by rw [hT]; rfl
  obtain ⟨p0, hp0⟩ : ∃ x, x = L.par k := ⟨_, rfl⟩
  rw [← hp0] at f2 hp HT
  have hpl : p0 < k := hp.1
  have hbel := Below.refl w.heap.size w
  clear hT hp0 hp eA h hb
  go_enter Tryz.func86, Tryz.ntmps86
  go_wp2_with fail
  go_loopw [1] (fun s wr => ∃ (g u : Nat), s = .int .i64 g ∧ g < L.nf ∧ Below w.heap.size w wr ∧ Hid (g ≤ u ∧ climb L.par L.flatF u g = T)) (fun s _ => (intOf s).toNat)
  case atStart => exact ⟨p0, p0, rfl, by omega, hbel, Nat.le_refl _, HT.out⟩
  case round =>
    clear s1 f2 hbel hpl HT
    obtain ⟨g, u, rfl, hg, hbel, HU⟩ := hrel
    by_cases g0 : g = 0
    · subst g0
      have HR : Hid (T = 0) := by
        have h1 := HU.out.2
        cases u with
        | zero => exact h1.symm
        | succ u => rw [climb, if_neg (by omega)] at h1; exact h1.symm
      go_wp2_with fail
      go_ret
      exact ⟨ret_i (by rw [HR.out]), hbel⟩
    have hg1 : 0 < g := by omega
    have q0 : decide ((0 : Int) < (g : Int)) = true := decide_eq_true (by omega)
    have q0' : decide (0 < g) = true := decide_eq_true hg1
    have hla := fun w (h : RSt L B gS v w) => rlayer_calls L B gS g v w h hg
    have hpo := fun w (h : RSt L B gS v w) => rpocket_calls L B gS g v w h hg
    have HST : Hid (L.flatF g = false → T = g) := fun hf => by
      have h1 := HU.out.2
      cases u with
      | zero => exact h1.symm
      | succ u => rw [climb, if_neg (by rw [hf]; simp)] at h1; exact h1.symm
    have HFL : Hid (L.flatF g = (!L.layerF g && !L.pocketF g)) := rfl
    obtain ⟨la, hlae⟩ : ∃ x, x = L.layerF g := ⟨_, rfl⟩
    obtain ⟨po, hpoe⟩ : ∃ x, x = L.pocketF g := ⟨_, rfl⟩
    rw [← hlae] at hla HFL
    rw [← hpoe] at hpo HFL
    have GG := Lib.hid (show g < L.nf ∧ 0 < g from ⟨hg, hg1⟩)
    clear hlae hpoe hg
    cases la
    · have HLA := Lib.hid hla
      clear hla
      cases po
      · have HPO := Lib.hid hpo
        have hB := (H.out.below hbel)
        have hpp := par_lt hB.lay GG.out.2 GG.out.1
        have HF : Hid (∀ w', Below w.heap.size w w' → w'.cell? ⟨b, off + g * 8 + 2, none⟩ = some (.int .i64 (L.par g)) ∧ w'.cell? ⟨gS, 1, none⟩ = some (.slice (some ⟨b, off, none⟩) L.nf L.cf)) := fun w' hb' => by
          have h' := H.out.below hb'
          obtain ⟨b', off', e, _, _, c2⟩ := h'.lay.frag GG.out.1
          rw [EA.out] at e
          injection e with e
          injection e with e1 e2
          subst e1; subst e2
          rw [hpp.2] at c2
          exact ⟨c2, by have := h'.c1; rw [EA.out] at this; exact this⟩
        obtain ⟨p, hpe⟩ : ∃ x, x = L.par g := ⟨_, rfl⟩
        have HPE := Lib.hid hpe
        rw [← hpe] at HF hpp
        have HPL := Lib.hid hpp.1
        clear hpo hB hpp hpe
        have hgn := GG.out.1
        go_wp2_with (first | (go_at_call 90; refine (HLA.out _ (H.out.below hbel)).mono ?_; rintro e w3 ⟨rfl, hb3⟩; have hbel := below_then hbel hb3) | (go_at_call 91; refine (HPO.out _ (H.out.below hbel)).mono ?_; rintro e w3 ⟨rfl, hb3⟩; have hbel := below_then hbel hb3; have f2 := (HF.out _ hbel).1; have s1 := (HF.out _ hbel).2))
        go_roundw
        case rel =>
          refine ⟨p, u - 1, rfl, by have := HPL.out; omega, hbel, ?_, ?_⟩
          · have := HPL.out; have := HU.out.1; omega
          · have h1 := HU.out.2
            have h2 := HU.out.1
            obtain ⟨u', rfl⟩ : ∃ u', u = u' + 1 := ⟨u - 1, by omega⟩
            rw [climb, if_pos ⟨hg1, HFL.out⟩] at h1
            rw [HPE.out, Nat.add_sub_cancel]; exact h1
        case measure => have := HPL.out; simp [intOf]; omega
      · have HPO := Lib.hid hpo
        have HR := Lib.hid (HST.out (by rw [HFL.out]; rfl))
        clear hpo
        go_wp2_with (first | (go_at_call 90; refine (HLA.out _ (H.out.below hbel)).mono ?_; rintro e w3 ⟨rfl, hb3⟩; have hbel := below_then hbel hb3) | (go_at_call 91; refine (HPO.out _ (H.out.below hbel)).mono ?_; rintro e w3 ⟨rfl, hb3⟩; have hbel := below_then hbel hb3))
        go_ret
        exact ⟨ret_i (by rw [HR.out]), hbel⟩
    · have HLA := Lib.hid hla
      have HR := Lib.hid (HST.out (by rw [HFL.out]; rfl))
      clear hla hpo
      go_wp2_with (go_at_call 90; refine (HLA.out _ (H.out.below hbel)).mono ?_; rintro e w3 ⟨rfl, hb3⟩; have hbel := below_then hbel hb3)
      go_ret
      exact ⟨ret_i (by rw [HR.out]), hbel⟩
end Go.Proofs.YtkmmlcnoeeaekaaGreatDoor
