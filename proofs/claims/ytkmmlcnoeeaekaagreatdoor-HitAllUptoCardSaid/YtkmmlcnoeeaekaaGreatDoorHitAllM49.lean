/- Several texts in one: HitK, HitL. -/
import Derived.Test.YtkmmlcnoeeaekaaGreatDoorHitAllM46
import Derived.Test.YtkmmlcnoeeaekaaGreatDoorHitAllM47
import Derived.Test.YtkmmlcnoeeaekaaGreatDoorHitAllM48
/- Contracts: the law's stacked; the reference's Eq of numbers. -/
namespace Go.Proofs.YtkmmlcnoeeaekaaGreatDoor
open Go.RowKit
set_option linter.unusedVariables false
set_option linter.unusedSimpArgs false

theorem layE_nilH : layE [] [] = 3 := layE_no (fun h => absurd h.2.2.1 (by simp))
set_option maxRecDepth 100000 in
set_option maxHeartbeats 1000000 in
theorem stackedH_calls (w : World) :
    Calls Tryz.prog 13 #[] w fun e w' => e = .returned (.bool true) ∧ Below w.heap.size w w' := by
  have hc := scheck_calls none 0 0 [] none 0 0 [] 0 0 w.heap.size w rfl rfl (fun i hi => absurd hi (by simp)) (fun hi => absurd hi (by simp)) (Nat.le_refl _) (by omega) (by omega)
  rw [layE_nilH] at hc
  have HC := Lib.hid hc
  clear hc
  go_enter Tryz.func13, Tryz.ntmps13
  go_wp2_with (go_at_call 36; refine HC.out.mono ?_; rintro e w1 ⟨rfl, hb1⟩)
  go_ret
  exact ⟨rfl, hb1⟩
set_option maxHeartbeats 400000 in
theorem eqIntH_calls (A A' : Option Addr) (n c c' B B' : Nat) (zs : List Int) (w : World) (hn : zs.length = n) (h : Holds w B A (ints zs)) (h' : Holds w B' A' (ints zs)) (hm : n ≤ 9223372036854775807) :
    Calls Tryz.prog 20 #[.slice A n c, .slice A' n c'] w fun e w' => e = .returned (.bool true) ∧ w = w' := by
  subst hn
  go_enter Tryz.func20, Tryz.ntmps20
  go_wp2
  go_loop [14] (fun i => ∃ k : Nat, k ≤ zs.length ∧ i = .int .i64 k) (fun i => zs.length - (intOf i).toNat)
  case atStart => exact ⟨0, Nat.zero_le _, rfl⟩
  case round =>
    obtain ⟨k, hk, rfl⟩ := hrel
    by_cases hlt : k < zs.length
    · obtain ⟨b, off, rfl, hb, hc⟩ := h.ints hlt
      obtain ⟨b', off', rfl, hb', hc'⟩ := h'.ints hlt
      obtain ⟨z, hz⟩ : ∃ z, z = zs.getD k 0 := ⟨_, rfl⟩
      rw [← hz] at hc hc'
      clear hz h h'
      go_wp2
      go_round
      case rel => exact ⟨k + 1, by omega, by go_num⟩
      case measure => simp [intOf]; omega
    · clear h h'
      go_wp2
      go_ret
      exact ⟨rfl, rfl⟩
/-- The reference's Hits at what the law hands it. -/
theorem rhits2_calls (I : InV) (F : FrV) (x y : Int) (gL cL base : Nat) (w : World) (h : I.ok w w.heap.size) (hF : F.ok w w.heap.size) (ho : w.ownsRow base 35 118 (.slice (some ⟨gL, 0, none⟩) I.nb cL) I.nb (rows I.nb (lookRow I.lz I.tbl I.bs))) (hok : LayOk I.bs F.fs) (hlk : LooksOk I.nl I.bs) :
    Calls Tryz.prog 19 #[.slice (some ⟨gL, 0, none⟩) I.nb cL, layA I F, .int .i64 x, .int .i64 y] w fun e w' => ∃ A' c', e = .returned (.slice A' (hitL I F x y).length c') ∧ w'.ownsRow w.heap.size 3 1 (.slice A' (hitL I F x y).length c') (hitL I F x y).length (ints (hitL I F x y)) ∧ Below w.heap.size w w' := by
  have hL : (layL I F gL cL).ok w w.heap.size := layV_ok (Ab := I.Ab) (cb := I.cb) (Af := F.Af) (cf := F.cf) (W1 := I.W1) (H1 := I.H1) h.hb hF.hf h.boxes hF.frags ho h.l64 h.t64 hok h.nb0 hF.nf0
  have hs : (layL I F gL cL).steps = stepsOf I.bs F.fs (lookAt I.lz I.tbl I.bs) := by
    show tellN _ F.nf 0 0 = tellN _ F.fs.length 0 0
    rw [hF.hf]
    rfl
  have hf0 : 0 < F.nf := by have := hok.2.2.1; rw [← hF.hf]; exact this
  have hc := rhits_calls (layL I F gL cL) x y w hL hf0 (frags_par hok) (frags_root hok hlk) hF.fb
  rw [hs] at hc
  exact hc
/-- How many hits at most. -/
theorem hitL_len (I : InV) (F : FrV) (x y : Int) (gL cL base : Nat) (w : World) (h : I.ok w w.heap.size) (hF : F.ok w w.heap.size) (ho : w.ownsRow base 35 118 (.slice (some ⟨gL, 0, none⟩) I.nb cL) I.nb (rows I.nb (lookRow I.lz I.tbl I.bs))) (hok : LayOk I.bs F.fs) : (hitL I F x y).length ≤ 1048576 := by
  have hL : (layL I F gL cL).ok w w.heap.size := layV_ok (Ab := I.Ab) (cb := I.cb) (Af := F.Af) (cf := F.cf) (W1 := I.W1) (H1 := I.H1) h.hb hF.hf h.boxes hF.frags ho h.l64 h.t64 hok h.nb0 hF.nf0
  have hs : (layL I F gL cL).steps = stepsOf I.bs F.fs (lookAt I.lz I.tbl I.bs) := by
    show tellN _ F.nf 0 0 = tellN _ F.fs.length 0 0
    rw [hF.hf]
    rfl
  have hf0 : 0 < (layL I F gL cL).nf := by show 0 < F.nf; have := hok.2.2.1; rw [← hF.hf]; exact this
  have h1 : (layL I F gL cL).steps.length ≤ F.nf := steps_le hL hf0
  rw [hs] at h1
  exact Nat.le_trans (hits_len _ _ _ _ _) (Nat.le_trans h1 hF.nf0)
end Go.Proofs.YtkmmlcnoeeaekaaGreatDoor
/- The law's HitAll: the walk. -/
namespace Go.Proofs.YtkmmlcnoeeaekaaGreatDoor
open Go.RowKit
set_option linter.unusedVariables false
set_option linter.unusedSimpArgs false

theorem ints_holds {w : World} {base n : Nat} {A : Option Addr} {c : Nat} {l : List Int} {T : TypeId} (h : w.ownsRow base T 1 (.slice A n c) n (ints l)) : Holds w w.heap.size A (ints l) := Holds.of_own h
set_option maxRecDepth 100000 in
set_option maxHeartbeats 8000000 in
theorem hitAll_walk (I : InV) (Af : Option Addr) (nf cf : Nat) (fs : List FragV) (x y : Int) (w : World) (h : I.ok w w.heap.size) (hf : fs.length = nf) (hF : Frags w w.heap.size Af fs) (hm : nf ≤ 1048576) :
    Calls Tryz.prog 4 #[.agg #[.slice I.A I.n I.c, .bool I.q], .slice I.Al I.nl I.cl, .agg #[.slice I.Ab I.nb I.cb, .slice Af nf cf, .int .i64 I.W1, .int .i64 I.H1], .int .i64 x, .int .i64 y] w fun e w' => e = .returned (.bool true) ∧ Below w.heap.size w w' := by
  have HD := Lib.hid ((Blk.new w 24 #[.slice I.A I.n I.c, .bool I.q]).alloc (.cells #[.slice I.Ab I.nb I.cb, .slice Af nf cf, .int .i64 I.W1, .int .i64 I.H1] 42))
  have HL := Lib.hid (Blk.new (w.alloc (.cells #[.slice I.A I.n I.c, .bool I.q] 24)) 42 #[.slice I.Ab I.nb I.cb, .slice Af nf cf, .int .i64 I.W1, .int .i64 I.H1])
  have HW := Lib.hid (below_alloc (below_alloc (Below.refl w.heap.size w) (.cells #[.slice I.A I.n I.c, .bool I.q] 24)) (.cells #[.slice I.Ab I.nb I.cb, .slice Af nf cf, .int .i64 I.W1, .int .i64 I.H1] 42))
  have hs1 : (w.alloc (.cells #[.slice I.A I.n I.c, .bool I.q] 24)).heap.size = w.heap.size + 1 := by simp
  rw [hs1] at HL
  have HH := Lib.hid h
  have HF := Lib.hid hF
  have HNF := Lib.hid hf
  have HMF := Lib.hid hm
  clear h hF hf hm hs1
  obtain ⟨fs', hfs⟩ : ∃ fs', fs' = fs.map clampF := ⟨_, rfl⟩
  have HFS := Lib.hid hfs
  have HFB : Hid (∀ i, i < nf → FragB (fr fs' i)) := fun i hi => by
    have e : fr fs' i = clampF (fr fs i) := by
      rw [hfs]; unfold fr
      have hi' : i < fs.length := by have := HNF.out; omega
      rw [List.getD_eq_getElem?_getD, List.getD_eq_getElem?_getD, List.getElem?_map, List.getElem?_eq_getElem hi']; rfl
    rw [e]; exact clampF_ok _
  have HLN : Hid (fs'.length = nf) := by show fs'.length = nf; rw [hfs, List.length_map]; exact HNF.out
  obtain ⟨er, her⟩ : ∃ er, er = errE I ⟨none, nf, 0, fs'⟩ := ⟨_, rfl⟩
  obtain ⟨hx, hhx⟩ : ∃ hx, hx = hitX I ⟨none, nf, 0, fs'⟩ x y := ⟨_, rfl⟩
  have HER := Lib.hid her
  have HHX := Lib.hid hhx
  have HST := Lib.hid (fun ww => stackedH_calls ww)
  have HCL : Hid (∀ ww, Below w.heap.size w ww → Calls Tryz.prog 14 #[.slice Af nf cf] ww fun e w' => ∃ A' c', e = .returned (.slice A' nf c') ∧ w'.ownsRow ww.heap.size 88 8 (.slice A' nf c') nf (fs'.flatMap fragF) ∧ Below ww.heap.size ww w') := fun ww hb => by
    rw [hfs]
    exact clamped_calls Af nf cf fs ww HNF.out (Holds.more (HF.out.below hb (Nat.le_refl _)) hb.size) HMF.out
  have HAL : Hid (∀ ww A' c', Below w.heap.size w ww → Frags ww ww.heap.size A' fs' → Calls Tryz.prog 15 #[.agg #[.slice I.A I.n I.c, .bool I.q], .slice I.Al I.nl I.cl, .agg #[.slice I.Ab I.nb I.cb, .slice A' nf c', .int .i64 I.W1, .int .i64 I.H1], .int .i64 x, .int .i64 y] ww fun e w' => ∃ A2 c2, e = .returned (.tuple #[.slice A2 hx.length c2, .int .i64 er]) ∧ w'.ownsRow ww.heap.size 3 1 (.slice A2 hx.length c2) hx.length (ints hx) ∧ Below ww.heap.size ww w') := fun ww A' c' hb hfr => by
    rw [her, hhx]
    exact all2_calls I ⟨A', nf, c', fs'⟩ x y ww ((HH.out.below hb (Nat.le_refl _)).more hb.size) ⟨HLN.out, hfr, HMF.out, HFB.out⟩
  have HAT : Hid (∀ ww A' c', Below w.heap.size w ww → Frags ww ww.heap.size A' fs' → Calls Tryz.prog 16 #[.agg #[.slice I.A I.n I.c, .bool I.q], .slice I.Al I.nl I.cl, .agg #[.slice I.Ab I.nb I.cb, .slice A' nf c', .int .i64 I.W1, .int .i64 I.H1], .int .i64 x, .int .i64 y] ww fun e w' => e = .returned (.tuple #[.int .i64 (hx.getD 0 0), .bool (!hx.isEmpty), .int .i64 er]) ∧ Below ww.heap.size ww w') := fun ww A' c' hb hfr => by
    rw [her, hhx]
    exact at_calls I ⟨A', nf, c', fs'⟩ x y ww ((HH.out.below hb (Nat.le_refl _)).more hb.size) ⟨HLN.out, hfr, HMF.out, HFB.out⟩
  obtain ⟨sE, hsE⟩ : ∃ sE, sE = sfitsE I.ns I.nl I.lz := ⟨_, rfl⟩
  have HSE := Lib.hid hsE
  have HWR : Hid (∀ ww, Below w.heap.size w ww → Calls Tryz.prog 7 #[.agg #[.slice I.A I.n I.c, .bool I.q], .slice I.Al I.nl I.cl] ww fun e w' => e = .returned (.int .i64 sE) ∧ Below ww.heap.size ww w') := fun ww hb => by
    rw [hsE]
    have h9 := HH.out
    exact wrong_calls I.A I.n I.c w.heap.size I.q I.ns I.Al I.nl I.cl I.lz ww h9.hn0 (h9.nodes.below hb (Nat.le_refl _)) hb.size h9.n0 h9.hl (h9.looks.below hb (Nat.le_refl _)) h9.nl0
  have HLY : Hid (∀ ww A' c', Below w.heap.size w ww → Frags ww ww.heap.size A' fs' → Calls Tryz.prog 17 #[.agg #[.slice I.Ab I.nb I.cb, .slice A' nf c', .int .i64 I.W1, .int .i64 I.H1]] ww fun e w' => e = .returned (.bool (layE I.bs fs' == 0)) ∧ Below ww.heap.size ww w') := fun ww A' c' hb hfr => by
    have h9 := HH.out
    exact rlay_calls I.Ab I.nb I.cb I.bs A' nf c' fs' I.W1 I.H1 ww.heap.size ww h9.hb HLN.out ((h9.boxes.below hb (Nat.le_refl _)).more' hb.size) hfr (Nat.le_refl _) h9.nb0 HMF.out
  clear hfs her hhx hsE
  generalize hw0 : World.alloc (World.alloc w _) _ = w0 at HD HL HW
  go_enter Tryz.func4, Tryz.ntmps4
  go_upto_region 1 with fail
  clear hw0
  go_upto_region 3 with (go_at_call 13; refine (HST.out _).mono ?_; rintro e w1 ⟨rfl, hb1⟩; have HB1 := Lib.hid hb1; clear hb1)
  have hsz := Nat.lt_of_lt_of_le HL.out.lt HB1.out.size
  have d1 : w1.cell? ⟨w.heap.size + 1, 1, none⟩ = some (.slice Af nf cf) := (HL.out.below HB1.out HL.out.lt).cell 1
  have f1 : w1.frozen? ⟨w.heap.size + 1, 1, none⟩ = false := (HL.out.below HB1.out HL.out.lt).free 1
  have HCL2 := Lib.hid (HCL.out w1 (below_then HW.out HB1.out))
  have HG2 := Lib.hid (fun w2 A' c' (hb2 : Below w1.heap.size w1 w2) => (by
    have hbl := HL.out.below HB1.out HL.out.lt
    have h3 := hbl.below hb2 hbl.lt
    have h4 := h3.stored 1 (.slice A' nf c')
    exact (⟨(h3.cell 1), h3.free 1, h4⟩ : w2.cell? ⟨w.heap.size + 1, 1, none⟩ = some (.slice Af nf cf) ∧ w2.frozen? ⟨w.heap.size + 1, 1, none⟩ = false ∧ Blk (w2.setCell ⟨w.heap.size + 1, 1, none⟩ (.slice A' nf c')) (w.heap.size + 1) 42 #[.slice I.Ab I.nb I.cb, .slice A' nf c', .int .i64 I.W1, .int .i64 I.H1])))
  go_upto_region 4 with (go_at_call 14; refine HCL2.out.mono ?_; rintro e w2 ⟨A', c', rfl, ho, hb2⟩; obtain ⟨d1, f1, hblk⟩ := HG2.out w2 A' c' hb2; have HBL := Lib.hid hblk; have HO := Lib.hid ho; have HB2 := Lib.hid hb2; clear ho hb2 hblk)
  have HB3 := Lib.hid (Below.setCell (p := ⟨w.heap.size + 1, 1, none⟩) (below_then (below_then HW.out HB1.out) HB2.out) (by show w.heap.size ≤ w.heap.size + 1; omega) (.slice A' nf c'))
  have hne : (Value.slice A' nf c').ownBlock ≠ some (w.heap.size + 1) := blk_ne ((HL.out.below HB1.out HL.out.lt).below HB2.out (HL.out.below HB1.out HL.out.lt).lt) HO.out (by decide)
  have hfr0 := own_setFar (b := w.heap.size + 1) (j := 1) (u := .slice A' nf c') HO.out hne
  have HFR : Hid (Frags (w2.setCell ⟨w.heap.size + 1, 1, none⟩ (.slice A' nf c')) (w2.setCell ⟨w.heap.size + 1, 1, none⟩ (.slice A' nf c')).heap.size A' fs') := Holds.of_own hfr0
  have hd1 := HD.out.below HB1.out HD.out.lt
  have hd2 := hd1.below HB2.out hd1.lt
  have HDD := Lib.hid (hd2.far (b := w.heap.size + 1) (i := 1) (by omega) (.slice A' nf c'))
  generalize w2.setCell _ _ = w3 at HBL HB3 HFR HDD ⊢
  clear hd1 hd2 hfr0 hne d1 f1 HG2 HCL2 HB1 HB2 HO hsz HCL HST HF HFS
  have HC : Hid (∀ ww, Below w3.heap.size w3 ww → (ww.cell? ⟨w.heap.size, 0, none⟩ = some (.slice I.A I.n I.c) ∧ ww.cell? ⟨w.heap.size, 1, none⟩ = some (.bool I.q) ∧ ww.cell? ⟨w.heap.size + 1, 0, none⟩ = some (.slice I.Ab I.nb I.cb) ∧ ww.cell? ⟨w.heap.size + 1, 1, none⟩ = some (.slice A' nf c') ∧ ww.cell? ⟨w.heap.size + 1, 2, none⟩ = some (.int .i64 I.W1) ∧ ww.cell? ⟨w.heap.size + 1, 3, none⟩ = some (.int .i64 I.H1)) ∧ Hid (Below w.heap.size w ww) ∧ Hid (Frags ww ww.heap.size A' fs')) := fun ww hb => by
    have h1 := HDD.out.below hb HDD.out.lt
    have h2 := HBL.out.below hb HBL.out.lt
    exact ⟨⟨h1.cell 0, h1.cell 1, h2.cell 0, h2.cell 1, h2.cell 2, h2.cell 3⟩, below_then HB3.out hb, Holds.more (HFR.out.below hb (Nat.le_refl _)) hb.size⟩
  obtain ⟨⟨a0, a1, b0, b1, b2, b3⟩, K1, K2⟩ := HC.out w3 (Below.refl _ _)
  have HAL3 := Lib.hid (HAL.out w3 A' c' K1.out K2.out)
  go_upto_region 5 with (go_at_call 15; refine HAL3.out.mono ?_; rintro e w4 ⟨A2, c2, rfl, ho, hb4⟩; have HO := Lib.hid ho; have HB4 := Lib.hid hb4; clear ho hb4)
  clear a0 a1 b0 b1 b2 b3 K1 K2 HAL HAL3
  obtain ⟨⟨a0, a1, b0, b1, b2, b3⟩, K1, K2⟩ := HC.out w4 HB4.out
  have HAT4 := Lib.hid (HAT.out w4 A' c' K1.out K2.out)
  go_upto_region 6 with (go_at_call 16; refine HAT4.out.mono ?_; rintro e w5 ⟨rfl, hb5⟩; have HB5 := Lib.hid (below_then HB4.out hb5); have HO := Lib.hid (own_below HO.out hb5); clear hb5)
  clear a0 a1 b0 b1 b2 b3 K1 K2 HAT HAT4 HB4
  obtain ⟨⟨a0, a1, b0, b1, b2, b3⟩, K1, K2⟩ := HC.out w5 HB5.out
  have HWR5 := Lib.hid (HWR.out w5 K1.out)
  go_upto_region 7 with (go_at_call 7; refine HWR5.out.mono ?_; rintro e w6 ⟨rfl, hb6⟩; have HB6 := Lib.hid (below_then HB5.out hb6); have HO := Lib.hid (own_below HO.out hb6); clear hb6)
  clear a0 a1 b0 b1 b2 b3 K1 K2 HWR HWR5 HB5
  obtain ⟨⟨a0, a1, b0, b1, b2, b3⟩, K1, K2⟩ := HC.out w6 HB6.out
  have HLY6 := Lib.hid (HLY.out w6 A' c' K1.out K2.out)
  by_cases g1 : sE = 0
  · subst g1
    obtain ⟨lE, hlE⟩ : ∃ lE, lE = layE I.bs fs' := ⟨_, rfl⟩
    rw [← hlE] at HLY6
    by_cases g2 : LayOk I.bs fs'
    · have e2 : lE = 0 := by rw [hlE]; exact layE_yes g2
      subst e2
      have G2 := Lib.hid g2
      clear hlE g2
      go_upto_region 10 with (go_at_call 17; refine HLY6.out.mono ?_; rintro e w7 ⟨rfl, hb7⟩; have HB7 := Lib.hid (below_then HB6.out hb7); have HO := Lib.hid (own_below HO.out hb7); clear hb7)
      clear a0 a1 b0 b1 b2 b3 K1 K2 HLY HLY6 HB6
      obtain ⟨⟨a0, a1, b0, b1, b2, b3⟩, K1, K2⟩ := HC.out w7 HB7.out
      have HLK := Lib.hid (looks_calls I.Ab I.nb I.cb I.bs I.Al I.nl I.cl I.lz I.tbl w7.heap.size w7 HH.out.hb HH.out.hl ((HH.out.boxes.below K1.out (Nat.le_refl _)).more' K1.out.size) (Holds.more (HH.out.looks.below K1.out (Nat.le_refl _)) K1.out.size) (HH.out.tab.below K1.out HH.out.pos) (Nat.le_refl _) (Nat.lt_of_lt_of_le HH.out.pos K1.out.size) HH.out.nb0 HH.out.nl0)
      by_cases g3 : LooksOk I.nl I.bs
      · have HNB : Hid (0 < I.nb) := by
          have h1 := G2.out.2
          have h3 := h1.1 0 h1.2.1
          have h4 := h3.1
          have h5 := h3.2.1
          have h6 := HH.out.hb
          show _ < _
          omega
        have HLK2 : Hid (Calls Tryz.prog 18 #[.slice I.Ab I.nb I.cb, .slice I.Al I.nl I.cl] w7 fun e w' => ∃ gL cL, e = .returned (.tuple #[.slice (some ⟨gL, 0, none⟩) I.nb cL, .int .i64 0]) ∧ w'.ownsRow w7.heap.size 35 118 (.slice (some ⟨gL, 0, none⟩) I.nb cL) I.nb (rows I.nb (lookRow I.lz I.tbl I.bs)) ∧ Below w7.heap.size w7 w') := by
          refine HLK.out.mono ?_
          rintro e w' ⟨hp, hb⟩
          rcases hp with ⟨v, rfl, ho, _⟩ | ⟨_, hno⟩
          · obtain ⟨g, cap, rfl, _, _⟩ := own_some ho HNB.out
            exact ⟨g, cap, rfl, ho, hb⟩
          · exact absurd g3 hno
        have h1 : er = 0 := by rw [HER.out]; unfold errE; rw [if_neg (fun h => h HSE.out.symm), if_pos ⟨G2.out, g3⟩]
        have h2 : hitL I ⟨A', nf, c', fs'⟩ x y = hx := by rw [HHX.out]; unfold hitX; rw [if_pos (by rw [← HER.out, h1])]; rfl
        have HRH : Hid (∀ (ww : World) gL cL, Below w3.heap.size w3 ww → ww.ownsRow w7.heap.size 35 118 (.slice (some ⟨gL, 0, none⟩) I.nb cL) I.nb (rows I.nb (lookRow I.lz I.tbl I.bs)) → hx.length ≤ 1048576 ∧ Calls Tryz.prog 19 #[.slice (some ⟨gL, 0, none⟩) I.nb cL, .agg #[.slice I.Ab I.nb I.cb, .slice A' nf c', .int .i64 I.W1, .int .i64 I.H1], .int .i64 x, .int .i64 y] ww fun e w' => ∃ A5 c5, e = .returned (.slice A5 hx.length c5) ∧ w'.ownsRow ww.heap.size 3 1 (.slice A5 hx.length c5) hx.length (ints hx) ∧ Below ww.heap.size ww w') := fun ww gL cL hb ho => by
          obtain ⟨_, K1, K2⟩ := HC.out ww hb
          have := rhits2_calls I ⟨A', nf, c', fs'⟩ x y gL cL w7.heap.size ww ((HH.out.below K1.out (Nat.le_refl _)).more K1.out.size) ⟨HLN.out, K2.out, HMF.out, HFB.out⟩ ho G2.out g3
          have h9 := hitL_len I ⟨A', nf, c', fs'⟩ x y gL cL w7.heap.size ww ((HH.out.below K1.out (Nat.le_refl _)).more K1.out.size) ⟨HLN.out, K2.out, HMF.out, HFB.out⟩ ho G2.out
          rw [h2] at this h9
          exact ⟨h9, this⟩
        have HEQ := Lib.hid (fun (ww : World) (A5 : Option Addr) (c5 : Nat) (B5 : Nat) (h5 : ww.ownsRow B5 3 1 (.slice A5 hx.length c5) hx.length (ints hx)) (h4 : ww.ownsRow w3.heap.size 3 1 (.slice A2 hx.length c2) hx.length (ints hx)) (hm : hx.length ≤ 9223372036854775807) => eqIntH_calls A2 A5 hx.length c2 c5 ww.heap.size ww.heap.size hx ww rfl (Holds.of_own h4) (Holds.of_own h5) hm)
        clear HER HHX HSE HLK g3 h2
        subst h1
        cases hx with
        | nil =>
          go_upto_region 14 with (go_at_call 18; refine HLK2.out.mono ?_; rintro e w8 ⟨gL, cL, rfl, hol, hb8⟩; have HB8 := Lib.hid (below_then HB7.out hb8); have HOL := Lib.hid hol; have HO := Lib.hid (own_below HO.out hb8); clear hb8 hol)
          clear a0 a1 b0 b1 b2 b3 K1 K2 HB7 HLK2
          obtain ⟨⟨a0, a1, b0, b1, b2, b3⟩, K1, K2⟩ := HC.out w8 HB8.out
          obtain ⟨hlen, hrh⟩ := HRH.out w8 gL cL HB8.out HOL.out
          have HRH8 := Lib.hid hrh
          have HLEN := Lib.hid hlen
          clear hrh hlen HRH
          go_upto_region 15 with (go_at_call 19; refine HRH8.out.mono ?_; rintro e w9 ⟨A5, c5, rfl, hoh, hb9⟩; have HOH := Lib.hid hoh; have HO := Lib.hid (own_below HO.out hb9); have HB9 := Lib.hid (below_then HB8.out hb9); clear hoh hb9)
          clear a0 a1 b0 b1 b2 b3 K1 K2 HRH8
          have HEQ9 := Lib.hid (HEQ.out w9 A5 c5 w8.heap.size HOH.out HO.out (Nat.le_trans HLEN.out (by decide)))
          clear HEQ
          simp only [List.length_nil, ints, List.map_nil] at HEQ9
          go_wp2_with (go_at_call 20; refine HEQ9.out.mono ?_; rintro e w10 ⟨rfl, rfl⟩)
          go_ret
          exact ⟨rfl, below_then HB3.out HB9.out⟩
        | cons z l =>
          go_upto_region 14 with (go_at_call 18; refine HLK2.out.mono ?_; rintro e w8 ⟨gL, cL, rfl, hol, hb8⟩; have HB8 := Lib.hid (below_then HB7.out hb8); have HOL := Lib.hid hol; have HO := Lib.hid (own_below HO.out hb8); clear hb8 hol)
          clear a0 a1 b0 b1 b2 b3 K1 K2 HB7 HLK2
          obtain ⟨⟨a0, a1, b0, b1, b2, b3⟩, K1, K2⟩ := HC.out w8 HB8.out
          obtain ⟨hlen, hrh⟩ := HRH.out w8 gL cL HB8.out HOL.out
          have HRH8 := Lib.hid hrh
          have HLEN := Lib.hid hlen
          clear hrh hlen HRH
          go_upto_region 15 with (go_at_call 19; refine HRH8.out.mono ?_; rintro e w9 ⟨A5, c5, rfl, hoh, hb9⟩; have HOH := Lib.hid hoh; have HO := Lib.hid (own_below HO.out hb9); have HB9 := Lib.hid (below_then HB8.out hb9); clear hoh hb9)
          clear a0 a1 b0 b1 b2 b3 K1 K2 HRH8
          have HEQ9 := Lib.hid (HEQ.out w9 A5 c5 w8.heap.size HOH.out HO.out (Nat.le_trans HLEN.out (by decide)))
          clear HEQ
          simp only [List.length_cons] at HEQ9
          obtain ⟨g, cap, hgv, _, _⟩ := own_some HOH.out (by simp)
          injection hgv with hgv1 hgn hgc
          subst hgv1
          clear hgn hgc
          have z0 : w9.cell? ⟨g, 0, none⟩ = some (.int .i64 z) := (row_at HOH.out).1 0 _ rfl
          clear HO HOH HLEN
          generalize l.length = m at HEQ9 ⊢
          have hM0 : 0 < m + 1 := by omega
          generalize m + 1 = M at HEQ9 hM0 ⊢
          have q3 : (0 : Int) < (M : Int) := by omega
          go_wp2_with (go_at_call 20; refine HEQ9.out.mono ?_; rintro e w10 ⟨rfl, rfl⟩)
          go_ret
          exact ⟨rfl, below_then HB3.out HB9.out⟩
      · have HLK2 : Hid (Calls Tryz.prog 18 #[.slice I.Ab I.nb I.cb, .slice I.Al I.nl I.cl] w7 fun e w' => e = .returned (.tuple #[.slice none 0 0, .int .i64 3]) ∧ Below w7.heap.size w7 w') := by
          refine HLK.out.mono ?_
          rintro e w' ⟨hp, hb⟩
          rcases hp with ⟨v, _, _, ho⟩ | ⟨rfl, _⟩
          · exact absurd ho g3
          · exact ⟨rfl, hb⟩
        have h1 : er = 3 := by rw [HER.out]; unfold errE; rw [if_neg (fun h => h HSE.out.symm), if_neg (fun h => g3 h.2)]
        have h2 : hx = [] := by rw [HHX.out]; unfold hitX; rw [if_neg (by rw [← HER.out, h1]; decide)]
        clear HER HHX HSE HLK g3
        subst h1
        subst h2
        go_wp2_with (go_at_call 18; refine HLK2.out.mono ?_; rintro e w8 ⟨rfl, hb8⟩; have HB8 := Lib.hid (below_then HB7.out hb8); clear hb8)
        go_ret
        exact ⟨rfl, below_then HB3.out HB8.out⟩
    · have e2 : lE = 3 := by rw [hlE]; exact layE_no g2
      have h1 : er = 3 := by rw [HER.out]; unfold errE; rw [if_neg (fun h => h HSE.out.symm), if_neg (fun h => g2 h.1)]
      have h2 : hx = [] := by rw [HHX.out]; unfold hitX; rw [if_neg (by rw [← HER.out, h1]; decide)]
      clear HER HHX HSE hlE HLY g2
      subst e2
      subst h1
      subst h2
      go_wp2_with (go_at_call 17; refine HLY6.out.mono ?_; rintro e w7 ⟨rfl, hb7⟩; have HB7 := Lib.hid (below_then HB6.out hb7); clear hb7)
      go_ret
      exact ⟨rfl, below_then HB3.out HB7.out⟩
  · have q1 : (sE == 0) = false := by simp [g1]
    have q2 : (sE != 0) = true := by simp [g1]
    have h1 : er = sE := by rw [HER.out, HSE.out]; unfold errE; rw [if_pos (by rw [← HSE.out]; exact g1)]
    have h2 : hx = [] := by rw [HHX.out]; unfold hitX; rw [if_neg (by rw [← HER.out, h1]; exact g1)]
    clear HER HHX HSE HLY HLY6
    subst h1
    subst h2
    clear g1
    go_wp2_with fail
    go_ret
    exact ⟨rfl, below_then HB3.out HB6.out⟩
end Go.Proofs.YtkmmlcnoeeaekaaGreatDoor
