/- Several texts in one: BxJ, BxK. -/
import Derived.Test.YtkmmlcnoeeaekaaGreatDoorBoxesMakeM25
import Derived.Test.YtkmmlcnoeeaekaaGreatDoorBoxesMakeM6
import Derived.Laws.ResultCell
/- Contracts: the closures of flex rows and of idle runs. -/
namespace Go.Proofs.YtkmmlcnoeeaekaaGreatDoor
open Go.RowKit
set_option linter.unusedVariables false
set_option linter.unusedSimpArgs false

set_option maxRecDepth 100000 in
set_option maxHeartbeats 4000000 in
theorem boxB2_calls (I : BxV) (hc : DocOk I.ns) (g : Nat) (t : TreeV) (A : Option Addr) (m c : Nat) (w : World) (h : I.ok w w.heap.size) (hM : MkB I g w) (hn : t.node < I.n) :
    Calls Tryz.prog 111 #[.agg (treeC t A m c).toArray, .pointer (some ⟨g, 0, none⟩)] w fun e w' => e = .returned (.bool ((docB I hc).flexAlone t)) ∧ Below w.heap.size w w' := by
  have hbb := below_alloc (Below.refl w.heap.size w) (.cells #[.int .i64 t.kind, .int .i64 t.node, .int .i64 0, .slice none 0 0, .string t.text, .slice A m c] 75)
  have HT := Lib.hid (Blk.new w 75 #[.int .i64 t.kind, .int .i64 t.node, .int .i64 0, .slice none 0 0, .string t.text, .slice A m c])
  have HM := Lib.hid (MkB.below hM hbb)
  have HOK := Lib.hid ((h.below hbb (Nat.le_refl _)).more hbb.size)
  have HB := Lib.hid (blocky_calls I hc t A m c 2 _ HOK.out hn)
  have HW := Lib.hid hbb
  have hsame := Lib.hid h.same
  have hl := Lib.hid h.hl
  have HN0 := Lib.hid h.n0
  have HV : Hid ((docB I hc).flexAlone t = ((docB I hc).blockyT 2 t || (decide (0 ≤ t.node) && t.kind != 4 && outS (I.sty t.node.toNat) == 2))) := rfl
  unfold mkA treeC at HB
  unfold treeC
  obtain ⟨kd, hkd⟩ : ∃ kd, kd = t.kind := ⟨_, rfl⟩
  obtain ⟨nd, hnd⟩ : ∃ nd, nd = t.node := ⟨_, rfl⟩
  rw [← hkd, ← hnd] at HM HT HW HOK HV HB
  rw [← hkd, ← hnd]
  rw [← hnd] at hn
  generalize (docB I hc).flexAlone t = r at HV ⊢
  generalize (docB I hc).blockyT 2 t = b2 at HV HB
  clear h hM hbb hkd hnd
  go_enter Tryz.func111, Tryz.ntmps111
  go_upto_region 1 with fail
  generalize World.alloc w _ = w1 at HM HT HW HOK HB ⊢
  have m0 : w1.cell? ⟨g, 0, none⟩ = some (.slice I.A I.n I.c) := Blk.cell HM.out 0
  have m1 : w1.cell? ⟨g, 1, none⟩ = some (.slice I.Al I.nl I.cl) := Blk.cell HM.out 1
  have t0 : w1.cell? ⟨w.heap.size, 0, none⟩ = some (.int .i64 kd) := HT.out.cell 0
  have t1 : w1.cell? ⟨w.heap.size, 1, none⟩ = some (.int .i64 nd) := HT.out.cell 1
  have t2 : w1.cell? ⟨w.heap.size, 2, none⟩ = some (.int .i64 0) := HT.out.cell 2
  have t3 : w1.cell? ⟨w.heap.size, 3, none⟩ = some (.slice none 0 0) := HT.out.cell 3
  have t4 : w1.cell? ⟨w.heap.size, 4, none⟩ = some (.string t.text) := HT.out.cell 4
  have t5 : w1.cell? ⟨w.heap.size, 5, none⟩ = some (.slice A m c) := HT.out.cell 5
  cases b2 with
  | true =>
    have HE : Hid (r = true) := by show _ = _; rw [HV.out]; rfl
    go_wp2_with (go_at_call 62; refine HB.out.mono ?_; rintro e w3 ⟨rfl, hb3⟩; have HB3 := Lib.hid (below_then HW.out hb3); clear hb3)
    go_ret
    exact ⟨by rw [HE.out]; rfl, HB3.out⟩
  | false =>
    by_cases hneg : 0 ≤ nd
    · obtain ⟨k, rfl⟩ : ∃ k : Nat, nd = (k : Int) := ⟨nd.toNat, by omega⟩
      have hk : k < I.n := by omega
      have q0 : decide ((0 : Int) ≤ (k : Int)) = true := decide_eq_true hneg
      by_cases h4 : kd = 4
      · have q4 : (kd != 4) = false := by simp [h4]
        have HE : Hid (r = false) := by show _ = _; rw [HV.out, q4]; simp
        clear h4 hneg hn
        go_wp2_with (go_at_call 62; refine HB.out.mono ?_; rintro e w3 ⟨rfl, hb3⟩; have HB3 := Lib.hid (below_then HW.out hb3); have u0 := (HT.out.below hb3 HT.out.lt).cell 0; have u1 := (HT.out.below hb3 HT.out.lt).cell 1; change w3.cell? ⟨w.heap.size, 0, none⟩ = some (.int .i64 kd) at u0; change w3.cell? ⟨w.heap.size, 1, none⟩ = some (.int .i64 (k : Int)) at u1; clear hb3)
        go_ret
        exact ⟨by rw [HE.out]; rfl, HB3.out⟩
      · have q4 : (kd != 4) = true := by simp [h4]
        obtain ⟨b, off, hA, hb, hr⟩ := HOK.out.row hk
        have hz : (I.sty k).length = 118 := BxV.sty_len hl.out (by rw [hsame.out]; exact hk)
        have hkl : k < I.nl := by rw [hsame.out]; exact hk
        have hklb : k ≤ 200 := by have := HN0.out; omega
        rw [Int.toNat_natCast] at HV
        obtain ⟨zs, hzs⟩ : ∃ zs, zs = I.sty k := ⟨_, rfl⟩
        rw [← hzs] at hr hz HV
        have HR := Lib.hid hr
        have HB0 := Lib.hid hb
        have HSZ : Hid ((Tryz.prog.info? 35).map (·.size) = some (sty zs).toList.length) := by show _ = _; rw [Array.length_toList, sty_size, hz]; kernel_rfl
        have HO := Lib.hid (fun w => bout_calls zs w hz)
        have HE : Hid (r = (outS zs == 2)) := by
          show _ = _
          rw [HV.out, q4, q0]; rfl
        generalize outS zs = os at HO HE
        unfold MkB at HM
        rw [hA] at m1 HB HM
        clear hr hz hzs hb hA hneg hn HV HOK hl h4
        go_wp2_with (first | (go_at_call 62; refine HB.out.mono ?_; rintro e w3 ⟨rfl, hb3⟩; have HB3 := Lib.hid (below_then HW.out hb3); have u0 := (HT.out.below hb3 HT.out.lt).cell 0; have u1 := (HT.out.below hb3 HT.out.lt).cell 1; have v1 := Blk.cell (Blk.below HM.out hb3 (Blk.lt HM.out)) 1; change w3.cell? ⟨w.heap.size, 0, none⟩ = some (.int .i64 kd) at u0; change w3.cell? ⟨w.heap.size, 1, none⟩ = some (.int .i64 (k : Int)) at u1; change w3.cell? ⟨g, 1, none⟩ = some (.slice (some ⟨b, off, none⟩) I.nl I.cl) at v1; have HR3 : Hid (w3.rangeAt b (off + k * 118) (sty zs).toList) := (fun j v hv => (hb3.cell (p := ⟨b, off + k * 118 + j, none⟩) HB0.out).trans (HR.out j v hv)); clear hb3 m1 t0 t1) | (refine wpList_load_midB (by kernel_rfl) 35 _ rfl b (off + k * 118) rfl (sty zs).toList _ HR3.out Tryz.underlying35 rfl HSZ.out ?_) | (go_at_call 9; refine (HO.out _).mono ?_; rintro e w4 ⟨rfl, hb4⟩; have HB4 := Lib.hid (below_then HB3.out hb4); clear hb4))
        go_ret
        exact ⟨by rw [HE.out]; rfl, HB4.out⟩
    · have q0 : decide (0 ≤ nd) = false := decide_eq_false hneg
      have HE : Hid (r = false) := by show _ = _; rw [HV.out, q0]; rfl
      clear hneg hn
      go_wp2_with (go_at_call 62; refine HB.out.mono ?_; rintro e w3 ⟨rfl, hb3⟩; have HB3 := Lib.hid (below_then HW.out hb3); have u0 := (HT.out.below hb3 HT.out.lt).cell 0; have u1 := (HT.out.below hb3 HT.out.lt).cell 1; change w3.cell? ⟨w.heap.size, 0, none⟩ = some (.int .i64 kd) at u0; change w3.cell? ⟨w.heap.size, 1, none⟩ = some (.int .i64 nd) at u1; clear hb3)
      go_ret
      exact ⟨by rw [HE.out]; rfl, HB3.out⟩
/-- A cell of a node's style. -/
theorem BxV.ok.cellN {I : BxV} {w : World} {B k : Nat} (h : I.ok w B) (hk : k < I.n) (p : Nat) (hp : p < 59) : ∃ b off, I.Al = some ⟨b, off, none⟩ ∧ b < B ∧ w.cell? ⟨b, off + k * 118 + (p * 2 + 1), none⟩ = some (.int .i64 (stN (I.sty k) p)) := by
  obtain ⟨b, off, e, hb, hr⟩ := h.row hk
  have hz : (I.sty k).length = 118 := BxV.sty_len h.hl (by rw [h.same]; exact hk)
  refine ⟨b, off, e, hb, hr (p * 2 + 1) _ ?_⟩
  rw [Array.getElem?_toList]
  exact sty_at _ _ (by omega)
set_option maxRecDepth 100000 in
set_option maxHeartbeats 4000000 in
theorem idle1_calls (I : BxV) (hc : DocOk I.ns) (g : Nat) (t : TreeV) (A : Option Addr) (m c : Nat) (w : World) (h : I.ok w w.heap.size) (hM : MkB I g w) (ht : TreeOk I t) :
    Calls Tryz.prog 178 #[.agg (treeC t A m c).toArray, .pointer (some ⟨g, 0, none⟩)] w fun e w' => e = .returned (.bool (!(docB I hc).idle1 t)) ∧ Below w.heap.size w w' := by
  have hbb := below_alloc (Below.refl w.heap.size w) (.cells #[.int .i64 t.kind, .int .i64 t.node, .int .i64 0, .slice none 0 0, .string t.text, .slice A m c] 75)
  have HT := Lib.hid (Blk.new w 75 #[.int .i64 t.kind, .int .i64 t.node, .int .i64 0, .slice none 0 0, .string t.text, .slice A m c])
  have HM := Lib.hid (MkB.below hM hbb)
  have HOK := Lib.hid ((h.below hbb (Nat.le_refl _)).more hbb.size)
  have HW := Lib.hid hbb
  have hsame := Lib.hid h.same
  have HN0 := Lib.hid h.n0
  have HV : Hid ((!(docB I hc).idle1 t) = !(t.kind == 4 && idleB t.text.data.toList && !(stN (I.sty t.node.toNat) 41 == 1 || stN (I.sty t.node.toNat) 41 == 3))) := rfl
  unfold treeC
  unfold TreeOk at ht
  obtain ⟨kd, hkd⟩ : ∃ kd, kd = t.kind := ⟨_, rfl⟩
  obtain ⟨nd, hnd⟩ : ∃ nd, nd = t.node := ⟨_, rfl⟩
  obtain ⟨tx, htx⟩ : ∃ tx, tx = t.text := ⟨_, rfl⟩
  rw [← hkd, ← hnd, ← htx] at HM HT HW HOK HV ht
  rw [← hkd, ← hnd, ← htx]
  generalize (!(docB I hc).idle1 t) = r at HV ⊢
  clear h hM hbb hkd hnd htx
  unfold MkB at HM
  go_enter Tryz.func178, Tryz.ntmps178
  go_upto_region 1 with fail
  generalize World.alloc w _ = w1 at HM HT HW HOK ⊢
  have t0 : w1.cell? ⟨w.heap.size, 0, none⟩ = some (.int .i64 kd) := HT.out.cell 0
  have t4 : w1.cell? ⟨w.heap.size, 4, none⟩ = some (.string tx) := HT.out.cell 4
  by_cases h4 : kd = 4
  · have q4 : (kd != 4) = false := by simp [h4]
    obtain ⟨hn, ht2⟩ := ht
    obtain ⟨hnn, htx⟩ := ht2 h4
    obtain ⟨k, rfl⟩ : ∃ k : Nat, nd = (k : Int) := ⟨nd.toNat, by omega⟩
    have hk : k < I.n := by omega
    obtain ⟨b, off, hA, hb, hs⟩ := HOK.out.cellN hk 41 (by omega)
    have hkl : k < I.nl := by rw [hsame.out]; exact hk
    have hklb : k ≤ 200 := by have := HN0.out; omega
    rw [Int.toNat_natCast] at HV
    generalize stN (I.sty k) 41 = kp at HV hs
    have HID := Lib.hid (idle_calls tx w1 htx)
    generalize idleB tx.data.toList = bi at HV HID
    rw [hA] at HM
    have HS := Lib.hid hs
    have HBL := Lib.hid hb
    have HE : Hid (r = !(bi && !(kp == 1 || kp == 3))) := by show _ = _; rw [HV.out, h4]; rfl
    clear hs hb hA ht2 hnn htx hn HOK HV h4
    have HKP := Lib.hid (fun w => keeps_calls kp w)
    generalize (kp == 1 || kp == 3) = bk at HE HKP
    cases bi with
    | false =>
      go_wp2_with (go_at_call 179; refine HID.out.mono ?_; rintro e w3 ⟨rfl, hb3⟩; have HB3 := Lib.hid (below_then HW.out hb3); clear hb3)
      go_ret
      exact ⟨by rw [HE.out]; rfl, HB3.out⟩
    | true =>
      go_wp2_with (first | (go_at_call 179; refine HID.out.mono ?_; rintro e w3 ⟨rfl, hb3⟩; have HB3 := Lib.hid (below_then HW.out hb3); have u1 := (HT.out.below hb3 HT.out.lt).cell 1; have v1 := Blk.cell (Blk.below HM.out hb3 (Blk.lt HM.out)) 1; change w3.cell? ⟨w.heap.size, 1, none⟩ = some (.int .i64 (k : Int)) at u1; change w3.cell? ⟨g, 1, none⟩ = some (.slice (some ⟨b, off, none⟩) I.nl I.cl) at v1; have s3 : w3.cell? ⟨b, off + k * 118 + 82 + 1, none⟩ = some (.int .i64 kp) := (hb3.cell (p := ⟨b, off + k * 118 + 82 + 1, none⟩) HBL.out).trans HS.out; clear hb3) | (go_at_call 180; refine (HKP.out _).mono ?_; rintro e w4 ⟨rfl, rfl⟩))
      go_ret
      exact ⟨by rw [HE.out]; cases bk <;> rfl, HB3.out⟩
  · have q4 : (kd != 4) = true := by simp [h4]
    have HE : Hid (r = true) := by
      have : (kd == 4) = false := by simp [h4]
      show _ = _; rw [HV.out, this]; rfl
    clear h4 ht
    go_wp2_with fail
    go_ret
    exact ⟨by rw [HE.out]; rfl, HW.out⟩
end Go.Proofs.YtkmmlcnoeeaekaaGreatDoor
/- Contracts: anonymous, idle, lines. -/
namespace Go.Proofs.YtkmmlcnoeeaekaaGreatDoor
open Go.RowKit
set_option linter.unusedVariables false
set_option linter.unusedSimpArgs false

/-- Within a function of the maker: the maker's copy at gM, the result's cell at gR. -/
structure MkR (I : BxV) (w0 : World) (gM gR : Nat) (cs : Array Value) (w : World) : Prop where
  bel : Below w0.heap.size w0 w
  mkb : Blk w gM 69 #[.slice I.A I.n I.c, .slice I.Al I.nl I.cl]
  res : Blk w gR 75 cs
  ne : gM ≠ gR
  lo : w0.heap.size ≤ gR
  len : cs.size = 6
theorem MkR.call {I : BxV} {w0 : World} {gM gR : Nat} {cs : Array Value} {w w' : World} (h : MkR I w0 gM gR cs w) (hb : Below w.heap.size w w') : MkR I w0 gM gR cs w' :=
  { h with bel := below_then h.bel hb, mkb := h.mkb.below hb h.mkb.lt, res := h.res.below hb h.res.lt }
theorem MkR.alloc {I : BxV} {w0 : World} {gM gR : Nat} {cs : Array Value} {w : World} (h : MkR I w0 gM gR cs w) (o : Obj) : MkR I w0 gM gR cs (w.alloc o) := h.call (below_alloc (Below.refl _ _) o)
theorem MkR.drew {I : BxV} {w0 : World} {gM gR : Nat} {cs : Array Value} {w : World} (h : MkR I w0 gM gR cs w) : MkR I w0 gM gR cs w.drew :=
  { h with bel := h.bel.drew, mkb := h.mkb.drew, res := h.res.drew }
theorem MkR.set {I : BxV} {w0 : World} {gM gR : Nat} {cs : Array Value} {w : World} (h : MkR I w0 gM gR cs w) (vals : Array Value) (hs : vals.size = 6) : w.there gR 0 vals.size ∧ ∃ w2, w.setCells gR 0 vals.toList = w2 ∧ MkR I w0 gM gR vals w2 :=
  ⟨h.res.there _ (by rw [hs, h.len]; exact Nat.le_refl _), _, rfl, { bel := below_setCells h.lo _ _ _ h.bel, mkb := h.mkb.farCells h.ne _ _ _, res := h.res.setAll vals (by rw [hs, h.len]), ne := h.ne, lo := h.lo, len := hs }⟩
theorem MkR.s {I : BxV} {w0 : World} {gM gR : Nat} {cs : Array Value} {w : World} (h : MkR I w0 gM gR cs w) : w.cell? ⟨gM, 0, none⟩ = some (.slice I.A I.n I.c) ∧ w.cell? ⟨gM, 1, none⟩ = some (.slice I.Al I.nl I.cl) := ⟨h.mkb.cell 0, h.mkb.cell 1⟩
theorem MkR.new (I : BxV) (w : World) (cs : Array Value) (hs : cs.size = 6) : MkR I w w.heap.size (w.heap.size + 1) cs ((w.alloc (.cells #[.slice I.A I.n I.c, .slice I.Al I.nl I.cl] 69)).alloc (.cells cs 75)) where
  bel := below_alloc (below_alloc (Below.refl _ _) _) _
  mkb := (Blk.new w _ _).alloc _
  res := by
    have h := Blk.new (w.alloc (.cells #[.slice I.A I.n I.c, .slice I.Al I.nl I.cl] 69)) 75 cs
    rw [alloc_size] at h
    exact h
  ne := by omega
  lo := by omega
  len := hs
/-- A function over the maker at g (a closure): its result's cell alone is new. -/
theorem MkR.clos (I : BxV) (g : Nat) (w : World) (hM : MkB I g w) (cs : Array Value) (hs : cs.size = 6) : MkR I w g w.heap.size cs (w.alloc (.cells cs 75)) where
  bel := below_alloc (Below.refl _ _) _
  mkb := Blk.alloc hM _
  res := Blk.new w _ _
  ne := Nat.ne_of_lt (Blk.lt hM)
  lo := Nat.le_refl _
  len := hs
theorem ret_tree {fn : Func} {p : Tmp} (h : fn.results = #[.cell p 75]) (tmps : Array Value) (w : World) (g : Nat) (cs : Array Value) (hp : tmps.getD p undef = .pointer (some ⟨g, 0, none⟩)) (hg : Blk w g 75 cs) (hs : cs.size = 6) : (results fn tmps).run Tryz.prog w = .ok (.agg cs) w :=
  results_cell_row h _ _ g 75 cs (0, 0) _ hp hg Tryz.underlying75 rfl (by rw [hs]; kernel_rfl)
theorem ret_tree2 {fn : Func} {p u : Tmp} (h : fn.results = #[.cell p 75, .tmp u]) (tmps : Array Value) (w : World) (g : Nat) (cs : Array Value) (hp : tmps.getD p undef = .pointer (some ⟨g, 0, none⟩)) (hg : Blk w g 75 cs) (hs : cs.size = 6) : (results fn tmps).run Tryz.prog w = .ok (.tuple #[.agg cs, tmps.getD u undef]) w := by
  have hl := run_loadVar_row (P := Tryz.prog) w g 75 75 cs (0, 0) _ hg Tryz.underlying75 rfl (by rw [hs]; kernel_rfl)
  rw [results_cell_tmp h, hp]
  simp [asAddr, hl, Result.andThen]
set_option maxRecDepth 100000 in
set_option maxHeartbeats 4000000 in
theorem anon_calls (kd : Int) (A : Option Addr) (n c : Nat) (w : World) :
    Calls Tryz.prog 154 #[.int .i64 kd, .slice A n c] w fun e w' => e = .returned (.agg #[.int .i64 kd, .int .i64 (-1), .int .i64 0, .slice none 0 0, .string ⟨#[]⟩, .slice A n c]) ∧ Below w.heap.size w w' := by
  go_enter Tryz.func154, Tryz.ntmps154
  go_wp2_with fail
  exact bodyPost_ret (v := .agg #[.int .i64 kd, .int .i64 (-1), .int .i64 0, .slice none 0 0, .string ⟨#[]⟩, .slice A n c]) (results_cell_row Tryz.results154 _ _ w.heap.size 75 _ (0, 0) _ rfl (Blk.new w 75 #[.int .i64 kd, .int .i64 (-1), .int .i64 0, .slice none 0 0, .string ⟨#[]⟩, .slice A n c]) Tryz.underlying75 rfl (by kernel_rfl)) rfl ⟨rfl, below_alloc (Below.refl _ _) _⟩
/-- The closures over the maker, of trees that may be. -/
theorem says_cont (I : BxV) (hc : DocOk I.ns) (g : Nat) (ts : List TreeV) (w : World) (h : I.ok w w.heap.size) (hM : MkB I g w) (hn : ∀ t ∈ ts, TreeOk I t) : SaysT 61 g ((docB I hc).blockyT 1) ts w :=
  fun t ht A m c w' hb => contB_calls I hc g t A m c w' ((h.below hb (Nat.le_refl _)).more hb.size) (hM.below hb) (hn t ht).1
theorem says_box1 (I : BxV) (hc : DocOk I.ns) (g : Nat) (ts : List TreeV) (w : World) (h : I.ok w w.heap.size) (hM : MkB I g w) (hn : ∀ t ∈ ts, TreeOk I t) : SaysT 110 g ((docB I hc).blockyT 1) ts w :=
  fun t ht A m c w' hb => boxB1_calls I hc g t A m c w' ((h.below hb (Nat.le_refl _)).more hb.size) (hM.below hb) (hn t ht).1
theorem says_box2 (I : BxV) (hc : DocOk I.ns) (g : Nat) (ts : List TreeV) (w : World) (h : I.ok w w.heap.size) (hM : MkB I g w) (hn : ∀ t ∈ ts, TreeOk I t) : SaysT 111 g ((docB I hc).flexAlone) ts w :=
  fun t ht A m c w' hb => boxB2_calls I hc g t A m c w' ((h.below hb (Nat.le_refl _)).more hb.size) (hM.below hb) (hn t ht).1
theorem says_idle (I : BxV) (hc : DocOk I.ns) (g : Nat) (ts : List TreeV) (w : World) (h : I.ok w w.heap.size) (hM : MkB I g w) (hn : ∀ t ∈ ts, TreeOk I t) : SaysT 178 g (fun t => !(docB I hc).idle1 t) ts w :=
  fun t ht A m c w' hb => idle1_calls I hc g t A m c w' ((h.below hb (Nat.le_refl _)).more hb.size) (hM.below hb) (hn t ht)
set_option maxRecDepth 100000 in
set_option maxHeartbeats 4000000 in
theorem idleM_calls (I : BxV) (hc : DocOk I.ns) (ts : List TreeV) (A : Option Addr) (n c : Nat) (Q : Nat → Prop) (w : World) (hm : n ≤ 1000) (h : I.ok w w.heap.size) (hK : KidsAt w Q ts A n) (hQ : ∀ b, Q b → b < w.heap.size) (hn : ∀ t ∈ ts, TreeOk I t) :
    Calls Tryz.prog 155 #[mkA I, .slice A n c] w fun e w' => e = .returned (.bool ((docB I hc).idleT ts)) ∧ Below w.heap.size w w' := by
  have hba := below_alloc (Below.refl w.heap.size w) (.cells #[.slice I.A I.n I.c, .slice I.Al I.nl I.cl] 69)
  have hOK := (h.below hba (Nat.le_refl _)).more hba.size
  have HC := Lib.hid (containsT_calls 178 w.heap.size (fun t => !(docB I hc).idle1 t) ts A n c Q _ hm (.inr (.inr (.inr rfl))) (hK.below hba hQ) (fun b hb => Nat.lt_of_lt_of_le (hQ b hb) hba.size) (says_idle I hc w.heap.size ts _ hOK (mkB_new I w) hn))
  have HB := Lib.hid hba
  have HV : Hid ((docB I hc).idleT ts = !ts.any fun t => !(docB I hc).idle1 t) := by
    show List.all _ _ = _
    rw [List.all_eq_not_any_not]
  generalize (ts.any fun t => !(docB I hc).idle1 t) = b at HC HV
  generalize (docB I hc).idleT ts = r at HV ⊢
  clear h hba hOK hK hQ hn
  unfold mkA
  go_enter Tryz.func155, Tryz.ntmps155
  go_wp2_with (go_at_call 63; refine HC.out.mono ?_; rintro e w3 ⟨rfl, hb3⟩; have HB3 := Lib.hid (below_then HB.out hb3); clear hb3)
  go_ret
  exact ⟨by rw [HV.out]; rfl, HB3.out⟩
set_option maxRecDepth 100000 in
set_option maxHeartbeats 4000000 in
theorem lines_calls (I : BxV) (hc : DocOk I.ns) (ts : List TreeV) (A : Option Addr) (n c : Nat) (Q : Nat → Prop) (w : World) (hm : n ≤ 1000) (h : I.ok w w.heap.size) (hK : KidsAt w Q ts A n) (hQ : ∀ b, Q b → b < w.heap.size) (hn : ∀ t ∈ ts, TreeOk I t) :
    Calls Tryz.prog 108 #[mkA I, .slice A n c] w fun e w' => e = .returned (.tuple #[.agg (treeC (DocB.linesT ts) A n c).toArray, .bool (!(docB I hc).idleT ts)]) ∧ Below w.heap.size w w' := by
  have HID := Lib.hid (fun w' (hb : Below w.heap.size w w') => idleM_calls I hc ts A n c Q w' hm ((h.below hb (Nat.le_refl _)).more hb.size) (hK.below hb hQ) (fun b hq => Nat.lt_of_lt_of_le (hQ b hq) hb.size) hn)
  have HAN := Lib.hid (fun w' => anon_calls 2 A n c w')
  have HR := Lib.hid (MkR.new I w #[.int .i64 0, .int .i64 0, .int .i64 0, .slice none 0 0, .string ⟨#[]⟩, .slice none 0 0] rfl)
  have HL : Hid ((Value.agg (treeC (DocB.linesT ts) A n c).toArray) = .agg #[.int .i64 2, .int .i64 (-1), .int .i64 0, .slice none 0 0, .string ⟨#[]⟩, .slice A n c]) := rfl
  rw [HL.out]
  generalize (docB I hc).idleT ts = b at HID ⊢
  clear h hK hQ hn HL
  unfold mkA at HID ⊢
  go_enter Tryz.func108, Tryz.ntmps108
  go_upto_region 1 with fail
  generalize World.alloc (World.alloc w _) _ = w1 at HR ⊢
  have hS0 : (fun w' => w'.cell? ⟨w.heap.size, 0, none⟩ = some (.slice I.A I.n I.c) ∧ w'.cell? ⟨w.heap.size, 1, none⟩ = some (.slice I.Al I.nl I.cl)) w1 := HR.out.s
  refine wp_region_noPanic ?_
  refine region_M (S := fun w' => w'.cell? ⟨w.heap.size, 0, none⟩ = some (.slice I.A I.n I.c) ∧ w'.cell? ⟨w.heap.size, 1, none⟩ = some (.slice I.Al I.nl I.cl)) (T := []) (by kernel_rfl) ?_
  refine anyM_free (i := 0) (oi := { dst := some 6, op := _, type := _, pos := _, after := _, guard := _ }) (v := ?_) rfl (by kernel_rfl) (fun _ _ _ h => h) (Or.inl ⟨by kernel_rfl, ?_⟩) (fun _ => hS0) ?_
  rotate_left 1
  · (intro w hSw; (try dsimp only at hSw); go_simp; try with_reducible rfl)
  try simp only [Act.put, Array.toArray_toList, List.setIfInBounds_toArray, List.set_cons_zero, List.set_cons_succ]
  refine anyM_take (i := 2) (oi := { dst := some 8, op := _, type := _, pos := _, after := _, guard := _ }) (v := ?_) rfl (by kernel_rfl) (fun _ _ _ h => h) (Or.inl ⟨by kernel_rfl, ?_⟩) hS0 ?_
  rotate_left 1
  · (intro w hSw; (try dsimp only at hSw); go_simp; try with_reducible rfl)
  try simp only [Act.put, Array.toArray_toList, List.setIfInBounds_toArray, List.set_cons_zero, List.set_cons_succ]
  refine anyM_free (i := 3) (oi := { dst := some 9, op := _, type := _, pos := _, after := _, guard := _ }) (v := ?_) rfl (by kernel_rfl) (fun _ _ _ h => h) (Or.inl ⟨by kernel_rfl, ?_⟩) (fun _ => hS0) ?_
  rotate_left 1
  · (intro w hSw; (try dsimp only at hSw); go_simp; try with_reducible rfl)
  try simp only [Act.put, Array.toArray_toList, List.setIfInBounds_toArray, List.set_cons_zero, List.set_cons_succ]
  refine anyM_one (i := 1) (by kernel_rfl) rfl (fun K hK => ?_)
  go_simp
  refine Calls.mono (HAN.out _) ?_
  rintro e wa ⟨rfl, hbwa⟩
  replace HR := Lib.hid (by first | exact HR.out.call hbwa | exact HR.out.drew.call hbwa)
  have hS0 := HR.out.s
  refine hK.out _ _ (fun _ => hS0) ?_
  clear hK K
  try simp only [Act.put, Array.toArray_toList, List.setIfInBounds_toArray, List.set_cons_zero, List.set_cons_succ]
  refine anyM_one (i := 4) (by kernel_rfl) rfl (fun K hK => ?_)
  go_simp
  refine Calls.mono (HID.out _ (by first | exact HR.out.bel | exact HR.out.drew.bel)) ?_
  rintro e wb ⟨rfl, hbwb⟩
  replace HR := Lib.hid (by first | exact HR.out.call hbwb | exact HR.out.drew.call hbwb)
  have hS0 := HR.out.s
  refine hK.out _ _ (fun _ => hS0) ?_
  clear hK K
  try simp only [Act.put, Array.toArray_toList, List.setIfInBounds_toArray, List.set_cons_zero, List.set_cons_succ]
  refine anyM_free (i := 5) (oi := { dst := some 11, op := _, type := _, pos := _, after := _, guard := _ }) (v := ?_) rfl (by kernel_rfl) (fun _ _ _ h => h) (Or.inl ⟨by kernel_rfl, ?_⟩) (fun _ => hS0) ?_
  rotate_left 1
  · (intro w hSw; (try dsimp only at hSw); go_simp; try with_reducible rfl)
  try simp only [Act.put, Array.toArray_toList, List.setIfInBounds_toArray, List.set_cons_zero, List.set_cons_succ]
  refine anyM_one (i := 6) (by kernel_rfl) rfl (fun K hK => ?_)
  rw [if_pos (by kernel_rfl)]
  refine wp_store_mid _ _ _ rfl (w.heap.size + 1) 0 #[.int .i64 2, .int .i64 (-1), .int .i64 0, .slice none 0 0, .string ⟨#[]⟩, .slice A n c] rfl rfl (by first | exact (HR.out.set #[.int .i64 2, .int .i64 (-1), .int .i64 0, .slice none 0 0, .string ⟨#[]⟩, .slice A n c] rfl).1 | exact (HR.out.drew.set #[.int .i64 2, .int .i64 (-1), .int .i64 0, .slice none 0 0, .string ⟨#[]⟩, .slice A n c] rfl).1) (by kernel_rfl) (by kernel_rfl) ?_
  first | (obtain ⟨wc, hwwc, hrwc⟩ := (HR.out.set #[.int .i64 2, .int .i64 (-1), .int .i64 0, .slice none 0 0, .string ⟨#[]⟩, .slice A n c] rfl).2; rw [hwwc]; clear hwwc; replace HR := Lib.hid hrwc) | (obtain ⟨wc, hwwc, hrwc⟩ := (HR.out.drew.set #[.int .i64 2, .int .i64 (-1), .int .i64 0, .slice none 0 0, .string ⟨#[]⟩, .slice A n c] rfl).2; rw [hwwc]; clear hwwc; replace HR := Lib.hid hrwc)
  clear hrwc
  change K (Act.put _ none undef) _
  have hS0 := HR.out.s
  refine hK.out _ _ (fun _ => hS0) ?_
  clear hK K
  try simp only [Act.put, Array.toArray_toList, List.setIfInBounds_toArray, List.set_cons_zero, List.set_cons_succ]
  refine anyM_free (i := 7) (oi := { dst := some 5, op := _, type := _, pos := _, after := _, guard := _ }) (v := ?_) rfl (by kernel_rfl) (fun _ _ _ h => h) (Or.inl ⟨by kernel_rfl, ?_⟩) (fun _ => hS0) ?_
  rotate_left 1
  · (intro w hSw; (try dsimp only at hSw); go_simp; try with_reducible rfl)
  try simp only [Act.put, Array.toArray_toList, List.setIfInBounds_toArray, List.set_cons_zero, List.set_cons_succ]
  refine anyM_done (by kernel_rfl) ?_ _
  refine NoPanic.normal ?_
  go_wp2_with fail
  exact bodyPost_ret (ret_tree2 Tryz.results108 _ _ (w.heap.size + 1) _ rfl HR.out.res rfl) rfl ⟨rfl, HR.out.bel⟩

end Go.Proofs.YtkmmlcnoeeaekaaGreatDoor
