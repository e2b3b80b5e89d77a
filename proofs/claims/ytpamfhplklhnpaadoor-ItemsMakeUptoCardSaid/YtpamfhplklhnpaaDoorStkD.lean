/- Contracts of the reference's small functions of a fragment: layer, z, rank, pocket, phase, owner. -/
import Derived.Test.YtpamfhplklhnpaaDoorStkC
namespace Go.Proofs.YtpamfhplklhnpaaDoor
open Go.RowKit
set_option linter.unusedVariables false
set_option linter.unusedSimpArgs false

theorem zc_size : (Tryd.zeroCells28).size = 118 := by kernel_rfl
/-- A look laid in a variable of its own. -/
theorem look_laid (zs : List Int) (hz : zs.length = 118) (w : World) : (Tryd.prog.info? 28).map (·.size) = some (sty zs).size ∧ (w.alloc (.cells Tryd.zeroCells28 28)).there w.heap.size 0 (sty zs).size ∧
    ∃ w2, (w.alloc (.cells Tryd.zeroCells28 28)).setCells w.heap.size 0 (sty zs).toList = w2 ∧ Blk w2 w.heap.size 28 (sty zs) ∧ Below w.heap.size w w2 ∧ w2.heap.size = w.heap.size + 1 := by
  have hs : (sty zs).size = 118 := by rw [sty_size]; exact hz
  refine ⟨by rw [hs]; kernel_rfl, (Blk.new w _ Tryd.zeroCells28).there _ (by rw [hs, zc_size]; omega), _, rfl, (Blk.new w _ Tryd.zeroCells28).setAll (sty zs) (by rw [hs, zc_size]), below_setCells (Nat.le_refl _) _ _ _ (below_alloc (Below.refl _ _) _), ?_⟩
  have : ∀ (vs : List Value) (o : Nat) (w' : World), (w'.setCells w.heap.size o vs).heap.size = w'.heap.size := by
    intro vs
    induction vs with
    | nil => intro o w'; rfl
    | cons v r ih => intro o w'; rw [World.setCells, ih]; simp
  rw [this, alloc_size]
set_option maxRecDepth 100000 in
set_option maxHeartbeats 2000000 in
theorem rlayer_calls (L : LayV) (B gS k : Nat) (v : Value) (w : World) (h : RSt L B gS v w) (hk : k < L.nf) :
    Calls Tryd.prog 55 #[.pointer (some ⟨gS, 0, none⟩), .int .i64 (k : Nat)] w fun e w' => e = .returned (.bool (L.layerF k)) ∧ Below w.heap.size w w' := by
  have hlk := fun w (h : RSt L B gS v w) => rlook_calls L B gS k v w h hk
  have hwi := fun w (h : RSt L B gS v w) => rwithin_calls L B gS k v w h hk
  have hz := h.lay.len (L.bi k)
  obtain ⟨zs, hzs⟩ : ∃ x, x = L.st k := ⟨_, rfl⟩
  have e : L.layerF k = (!L.withinF k && (stN zs 1 != 0 || decide (stN zs 34 < 1000))) := by unfold LayV.layerF layerK; rw [hzs]; rfl
  have hz' : zs.length = 118 := by rw [hzs]; exact hz
  rw [← hzs] at hlk
  rw [e]
  have p1 : (sty zs)[3]? = some (.int .i64 (stN zs 1)) := sty_at zs 3 (by omega)
  have o1 : (sty zs)[69]? = some (.int .i64 (stN zs 34)) := sty_at zs 69 (by omega)
  obtain ⟨pos, hpos⟩ : ∃ x, x = stN zs 1 := ⟨_, rfl⟩
  obtain ⟨opa, hopa⟩ : ∃ x, x = stN zs 34 := ⟨_, rfl⟩
  rw [← hpos] at p1 ⊢
  rw [← hopa] at o1 ⊢
  have HLK := Lib.hid hlk
  have HLAID := Lib.hid (fun w => look_laid zs hz' w)
  have H := Lib.hid h
  have hbel := Below.refl w.heap.size w
  have P1 := Lib.hid p1
  have O1 := Lib.hid o1
  obtain ⟨wi, hwie⟩ : ∃ x, x = L.withinF k := ⟨_, rfl⟩
  rw [← hwie] at hwi ⊢
  clear hlk e hzs h hz hz' hpos hopa p1 o1 hwie
  cases wi
  · have HWI := Lib.hid hwi
    clear hwi
    by_cases hp : pos = 0
    · have q1 : (pos != 0) = false := by simp [hp]
      by_cases ho : opa < 1000
      · have q2 : decide (opa < 1000) = true := decide_eq_true ho
        rw [q1, q2]
        clear hp ho
        go_enter Tryd.func55, Tryd.ntmps55
        go_upto_region 2 with (first | (go_at_call 68; refine (HLK.out _ (H.out.below hbel)).mono ?_; rintro e w1 ⟨rfl, hb1⟩; have hbel := below_then hbel hb1) | (refine wpList_store_mid rfl _ _ _ rfl w1.heap.size 0 (sty zs) rfl rfl (HLAID.out w1).2.1 (HLAID.out w1).1 (sty_one _) ?_; obtain ⟨w2, hw2, bS, hb2, hsz2⟩ := (HLAID.out w1).2.2; rw [hw2]; clear hw2; have hbel := below_then hbel hb2; have p1 : w2.cell? ⟨w1.heap.size, 3, none⟩ = some (.int .i64 pos) := (bS.cell 3).trans P1.out; have o1 : w2.cell? ⟨w1.heap.size, 69, none⟩ = some (.int .i64 opa) := (bS.cell 69).trans O1.out))
        go_wp2_with (go_at_call 66; refine (HWI.out _ (H.out.below hbel)).mono ?_; rintro e w3 ⟨rfl, hb3⟩; have hbel := below_then hbel hb3; have p1 : w3.cell? ⟨w1.heap.size, 3, none⟩ = some (.int .i64 pos) := (hb3.cell (p := ⟨w1.heap.size, 3, none⟩) bS.lt).trans p1; have o1 : w3.cell? ⟨w1.heap.size, 69, none⟩ = some (.int .i64 opa) := (hb3.cell (p := ⟨w1.heap.size, 69, none⟩) bS.lt).trans o1)
        go_ret
        exact ⟨rfl, hbel⟩
      · have q2 : decide (opa < 1000) = false := decide_eq_false ho
        rw [q1, q2]
        clear hp ho
        go_enter Tryd.func55, Tryd.ntmps55
        go_upto_region 2 with (first | (go_at_call 68; refine (HLK.out _ (H.out.below hbel)).mono ?_; rintro e w1 ⟨rfl, hb1⟩; have hbel := below_then hbel hb1) | (refine wpList_store_mid rfl _ _ _ rfl w1.heap.size 0 (sty zs) rfl rfl (HLAID.out w1).2.1 (HLAID.out w1).1 (sty_one _) ?_; obtain ⟨w2, hw2, bS, hb2, hsz2⟩ := (HLAID.out w1).2.2; rw [hw2]; clear hw2; have hbel := below_then hbel hb2; have p1 : w2.cell? ⟨w1.heap.size, 3, none⟩ = some (.int .i64 pos) := (bS.cell 3).trans P1.out; have o1 : w2.cell? ⟨w1.heap.size, 69, none⟩ = some (.int .i64 opa) := (bS.cell 69).trans O1.out))
        go_wp2_with (go_at_call 66; refine (HWI.out _ (H.out.below hbel)).mono ?_; rintro e w3 ⟨rfl, hb3⟩; have hbel := below_then hbel hb3; have p1 : w3.cell? ⟨w1.heap.size, 3, none⟩ = some (.int .i64 pos) := (hb3.cell (p := ⟨w1.heap.size, 3, none⟩) bS.lt).trans p1; have o1 : w3.cell? ⟨w1.heap.size, 69, none⟩ = some (.int .i64 opa) := (hb3.cell (p := ⟨w1.heap.size, 69, none⟩) bS.lt).trans o1)
        go_ret
        exact ⟨rfl, hbel⟩
    · have q1 : (pos != 0) = true := by simp [hp]
      rw [q1]
      clear hp
      go_enter Tryd.func55, Tryd.ntmps55
      go_upto_region 2 with (first | (go_at_call 68; refine (HLK.out _ (H.out.below hbel)).mono ?_; rintro e w1 ⟨rfl, hb1⟩; have hbel := below_then hbel hb1) | (refine wpList_store_mid rfl _ _ _ rfl w1.heap.size 0 (sty zs) rfl rfl (HLAID.out w1).2.1 (HLAID.out w1).1 (sty_one _) ?_; obtain ⟨w2, hw2, bS, hb2, hsz2⟩ := (HLAID.out w1).2.2; rw [hw2]; clear hw2; have hbel := below_then hbel hb2; have p1 : w2.cell? ⟨w1.heap.size, 3, none⟩ = some (.int .i64 pos) := (bS.cell 3).trans P1.out; have o1 : w2.cell? ⟨w1.heap.size, 69, none⟩ = some (.int .i64 opa) := (bS.cell 69).trans O1.out))
      go_wp2_with (go_at_call 66; refine (HWI.out _ (H.out.below hbel)).mono ?_; rintro e w3 ⟨rfl, hb3⟩; have hbel := below_then hbel hb3; have p1 : w3.cell? ⟨w1.heap.size, 3, none⟩ = some (.int .i64 pos) := (hb3.cell (p := ⟨w1.heap.size, 3, none⟩) bS.lt).trans p1; have o1 : w3.cell? ⟨w1.heap.size, 69, none⟩ = some (.int .i64 opa) := (hb3.cell (p := ⟨w1.heap.size, 69, none⟩) bS.lt).trans o1)
      go_ret
      exact ⟨rfl, hbel⟩
  · have HWI := Lib.hid hwi
    clear hwi
    go_enter Tryd.func55, Tryd.ntmps55
    go_upto_region 2 with (first | (go_at_call 68; refine (HLK.out _ (H.out.below hbel)).mono ?_; rintro e w1 ⟨rfl, hb1⟩; have hbel := below_then hbel hb1) | (refine wpList_store_mid rfl _ _ _ rfl w1.heap.size 0 (sty zs) rfl rfl (HLAID.out w1).2.1 (HLAID.out w1).1 (sty_one _) ?_; obtain ⟨w2, hw2, bS, hb2, hsz2⟩ := (HLAID.out w1).2.2; rw [hw2]; clear hw2; have hbel := below_then hbel hb2; have p1 : w2.cell? ⟨w1.heap.size, 3, none⟩ = some (.int .i64 pos) := (bS.cell 3).trans P1.out; have o1 : w2.cell? ⟨w1.heap.size, 69, none⟩ = some (.int .i64 opa) := (bS.cell 69).trans O1.out))
    go_wp2_with (go_at_call 66; refine (HWI.out _ (H.out.below hbel)).mono ?_; rintro e w3 ⟨rfl, hb3⟩; have hbel := below_then hbel hb3; have p1 : w3.cell? ⟨w1.heap.size, 3, none⟩ = some (.int .i64 pos) := (hb3.cell (p := ⟨w1.heap.size, 3, none⟩) bS.lt).trans p1; have o1 : w3.cell? ⟨w1.heap.size, 69, none⟩ = some (.int .i64 opa) := (hb3.cell (p := ⟨w1.heap.size, 69, none⟩) bS.lt).trans o1)
    go_ret
    exact ⟨rfl, hbel⟩
end Go.Proofs.YtpamfhplklhnpaaDoor
