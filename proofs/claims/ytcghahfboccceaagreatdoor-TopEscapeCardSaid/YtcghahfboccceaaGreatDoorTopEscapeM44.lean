/- Several texts in one: TfT, TfV. -/
import Derived.Test.YtcghahfboccceaaGreatDoorTopEscapeM28
import Derived.Test.YtcghahfboccceaaGreatDoorTopEscapeM30
import Derived.Test.YtcghahfboccceaaGreatDoorTopEscapeM40
import Derived.Test.YtcghahfboccceaaGreatDoorTopEscapeM42
/- Contract of dom.walk. -/
namespace Go.Proofs.YtcghahfboccceaaGreatDoor
open Go.RowKit Go.Shelf
set_option linter.unusedVariables false
set_option linter.unusedSimpArgs false

/-- A node and all below it, in their order. -/
def walkF (ns : List NodeV) : Nat → Nat → List Int
  | 0, _ => []
  | u + 1, i => (i : Int) :: (nd ns i).kids.flatMap fun k => walkF ns u k.toNat
/-- The tree below a node is no deeper than that. -/
def DeepOk (ns : List NodeV) : Nat → Nat → Prop
  | 0, _ => False
  | u + 1, i => i < ns.length ∧ ∀ k ∈ (nd ns i).kids, 0 ≤ k ∧ DeepOk ns u k.toNat
theorem holds_cellI {w : World} {B : Nat} {A : Option Addr} {l : List Int} (h : Holds w B A (ints l)) (h0 : 0 < l.length) : ∃ b off, A = some ⟨b, off, none⟩ ∧ b < B ∧ ∀ j (hj : j < l.length), w.cell? ⟨b, off + j, none⟩ = some (.int .i64 l[j]) := by
  obtain ⟨b, off, hA, hlt, hc⟩ := h (by rw [ints_len]; exact h0)
  exact ⟨b, off, hA, hlt, fun j hj => by rw [hc j (by rw [ints_len]; exact hj), List.getD_eq_getElem?_getD, ints, List.getElem?_map, List.getElem?_eq_getElem hj]; rfl⟩
set_option maxRecDepth 100000 in
set_option maxHeartbeats 8000000 in
theorem walk_calls (Bo : Nat) (Ad : Option Addr) (nn cd : Nat) (q : Bool) (ns : List NodeV) (hnn : ns.length = nn) : ∀ (u i : Nat) (Ao : Option Addr) (no co : Nat) (out : List Int) (w : World), DeepOk ns u i → Nodes w Bo Ad ns → Bo ≤ w.heap.size → w.ownsRow Bo 3 1 (.slice Ao no co) no (ints out) → no + (walkF ns u i).length ≤ 100000 →
    Calls Tryz.prog 33 #[.agg #[.slice Ad nn cd, .bool q], .int .i64 (i : Int), .slice Ao no co] w fun e w' => ∃ A9 n9 c9, e = .returned (.slice A9 n9 c9) ∧ n9 = (out ++ walkF ns u i).length ∧ w'.ownsRow Bo 3 1 (.slice A9 n9 c9) n9 (ints (out ++ walkF ns u i)) ∧ Left Bo w w'
  | 0, _, _, _, _, _, _, h, _, _, _, _ => h.elim
  | u + 1, i, Ao, no, co, out, w, hd, hN, hB, ho, hz => by
    obtain ⟨i0, hi0, hz0, hz1, hz2⟩ := info_parts infoInt
    have IH := Lib.hid (walk_calls Bo Ad nn cd q ns hnn u)
    obtain ⟨hi, hk⟩ := hd
    obtain ⟨X, hX⟩ : ∃ X, X = nd ns i := ⟨_, rfl⟩
    obtain ⟨kids, hks⟩ : ∃ kids, kids = X.kids := ⟨_, rfl⟩
    rw [← hX, ← hks] at hk
    have hW : walkF ns (u + 1) i = (i : Int) :: kids.flatMap fun k => walkF ns u k.toNat := by rw [walkF, hks, hX]
    rw [hW] at hz ⊢
    obtain ⟨TOT, hT⟩ : ∃ TOT, TOT = out ++ (i : Int) :: kids.flatMap fun k => walkF ns u k.toNat := ⟨_, rfl⟩
    have hTl : TOT.length = no + ((i : Int) :: kids.flatMap fun k => walkF ns u k.toNat).length := by
      have := ho.1
      rw [ints_len, Nat.mul_one] at this
      rw [hT, List.length_append, this]
    rw [← hTl] at hz
    rw [← hT]
    have HT := Lib.hid hT
    have HK := Lib.hid hk
    have HKS := Lib.hid hks
    have HNN := Lib.hid hnn
    obtain ⟨g, hg⟩ : ∃ g, g = w.heap.size := ⟨_, rfl⟩
    obtain ⟨wa, hwa⟩ : ∃ wa, wa = w.alloc (.cells #[.slice Ad nn cd, .bool q] 27) := ⟨_, rfl⟩
    have hb0 : Below w.heap.size w wa := by rw [hwa]; exact (Below.refl _ w).alloc (Nat.le_refl _) _
    have TB : Hid (Blk wa g 27 #[.slice Ad nn cd, .bool q]) := by show Blk _ _ _ _; rw [hwa, hg]; exact Blk.new w _ _
    have LL := Lib.hid (Left.of_below hb0 hB)
    have HO := Lib.hid (own_below ho hb0)
    have HB := Lib.hid (Nat.le_trans hB hb0.size)
    have NW := Lib.hid (hN.below hb0 hB)
    have HWA := Lib.hid hwa
    have HG := Lib.hid hg
    have WB := Lib.hid (below_alloc (Below.refl wa.heap.size wa) (.cells #[.int .i64 (i : Int)] 3))
    have HNI := Lib.hid (Blk.new wa 3 #[.int .i64 (i : Int)])
    have HO2 := Lib.hid (own_below HO.out WB.out)
    have HX := Lib.hid hX
    have hno : no < 100000 := by rw [List.length_cons] at hTl; omega
    have HTL := Lib.hid hTl
    have hN0 := Lib.hid hN
    have hB0 := Lib.hid hB
    clear hT hk hks hg hwa hb0 hW hX hnn hN ho hTl
    go_enter Tryz.func33, Tryz.ntmps33
    go_upto_region 1 with fail
    rw [← HWA.out, ← HG.out]
    go_upto_region 2 with (at_builtin; refine wpList_append_any rfl _ _ 33 rfl Bo 3 i0 (.int .i64 0) 1 8 Tryz.underlying33 hi0 hz0 hz1 hz2 rfl (by decide) (.slice Ao no co) no (ints out) rfl HO2.out (some ⟨wa.heap.size, 0, none⟩) 1 1 [.int .i64 (i : Int)] rfl rfl (.inl ⟨wa.heap.size, 0, rfl, fun j u hj => by rw [Nat.zero_add, HNI.out.cell j]; simpa using hj⟩) (by intro u hu; simp at hu; subst hu; rfl) (by unfold maxLen; omega) (by omega) (Nat.le_trans HB.out WB.out.size) ?_; intro A8 c8 w8 ho8 hg8 hat8; have HO8 := Lib.hid ho8; have T8 := Lib.hid (blk_grown (TB.out.below WB.out TB.out.lt) hg8 (blk_ne (TB.out.below WB.out TB.out.lt) HO2.out (by decide))); have L8 := Lib.hid ((LL.out.trans (Left.of_below WB.out HB.out)).trans ⟨(Below.refl Bo _).grown hg8 (Nat.le_trans HB.out WB.out.size) (fun k hk => (HO2.out.lt k hk).1), Keep.grown hg8 (treeO_i HO2.out)⟩); clear ho8 hg8 hat8)
    have N8 := Lib.hid ((hN0.out.below L8.out.below (Nat.le_refl _)))
    obtain ⟨bn, off, rfl, hbn, hnc, hNI⟩ := N8.out i hi
    rw [← HX.out] at hnc hNI
    have d0 : w8.cell? ⟨g, 0, none⟩ = some (.slice (some ⟨bn, off, none⟩) nn cd) := T8.out.cell 0
    have d5 : w8.cell? ⟨bn, off + i * 6 + 5, none⟩ = some (.slice X.kidsA kids.length X.kcap) := by rw [hnc 5 (by decide), HKS.out]; rfl
    have hkN := hNI.kn
    rw [← HKS.out] at hkN
    have HKD : Hid (Holds w8 Bo X.kidsA (ints kids)) := by show Holds _ _ _ _; rw [HKS.out]; exact hNI.kids
    have hin : i < nn := by have := HNN.out; omega
    obtain ⟨kA, hkA⟩ : ∃ kA, kA = X.kidsA := ⟨_, rfl⟩
    obtain ⟨kc, hkc⟩ : ∃ kc, kc = X.kcap := ⟨_, rfl⟩
    rw [← hkA] at d5 HKD
    rw [← hkc] at d5
    have hw8 : Bo ≤ w8.heap.size := by have := L8.out.below.size; omega
    obtain ⟨kn, hkn⟩ : ∃ kn, kn = kids.length := ⟨_, rfl⟩
    rw [← hkn] at d5 hkN
    have HKN := Lib.hid hkn
    clear hnc hNI hkA hkc hkn N8
    go_wp2_with fail
    go_loopw [2, 20] (fun vo vi wr => ∃ (j n2 c2 : Nat) (A2 : Option Addr) (acc : List Int), j ≤ kn ∧ vi = .int .i64 (j : Int) ∧ vo = .slice A2 n2 c2 ∧ Hid (wr.ownsRow Bo 3 1 (.slice A2 n2 c2) n2 (ints acc)) ∧ Hid (acc ++ (kids.drop j).flatMap (fun k => walkF ns u k.toNat) = TOT) ∧ Hid (Left Bo w wr) ∧ Hid (Left Bo w8 wr) ∧ Hid (Blk wr g 27 #[.slice (some ⟨bn, off, none⟩) nn cd, .bool q])) (fun _ vi _ => kn - (intOf vi).toNat)
    case atStart => exact ⟨0, no + 1, c8, A8, out ++ [(i : Int)], Nat.zero_le _, rfl, rfl, by show World.ownsRow _ _ _ _ _ _ _; simpa [ints] using HO8.out, by show _ = _; rw [HT.out]; simp, L8.out, ⟨Below.refl _ _, Keep.refl _⟩, T8.out⟩
    case round =>
      obtain ⟨j, n2, c2, A2, acc, hj, rfl, rfl, HOW, HTT, HLL, HL8, HTB⟩ := hrel
      by_cases hlt : j < kn
      · have hjk : j < kids.length := by have := HKN.out; omega
        obtain ⟨bk, offk, rfl, hbk, hkc⟩ := holds_cellI HKD.out (by omega)
        have hbw := HL8.out.below
        have k1 : wr.cell? ⟨bk, offk + j, none⟩ = some (.int .i64 kids[j]) := (hbw.cell (p := ⟨bk, offk + j, none⟩) hbk).trans (hkc j hjk)
        obtain ⟨hk0, hkd⟩ := HK.out kids[j] (List.getElem_mem hjk)
        obtain ⟨k, hkk⟩ : ∃ k : Nat, kids[j] = (k : Int) := ⟨kids[j].toNat, by omega⟩
        have hkt : kids[j].toNat = k := by rw [hkk]; rfl
        rw [hkk] at k1
        rw [hkt] at hkd
        have hdr : (kids.drop j).flatMap (fun k => walkF ns u k.toNat) = walkF ns u k ++ (kids.drop (j + 1)).flatMap (fun k => walkF ns u k.toNat) := by rw [List.drop_eq_getElem_cons hjk, List.flatMap_cons, hkt]
        have hacc : acc.length = n2 := by have := HOW.out.1; rw [ints_len, Nat.mul_one] at this; exact this
        have HI := Lib.hid (IH.out k A2 n2 c2 acc wr hkd (hN0.out.below HLL.out.below (Nat.le_refl _)) (Nat.le_trans hB0.out HLL.out.below.size) HOW.out (by
          have h1 := congrArg List.length HTT.out
          rw [hdr, List.length_append, List.length_append, hacc] at h1
          omega))
        have HTT2 : Hid ((acc ++ walkF ns u k) ++ (kids.drop (j + 1)).flatMap (fun k => walkF ns u k.toNat) = TOT) := by show _ = _; rw [← HTT.out, hdr, List.append_assoc]
        have e0 : wr.cell? ⟨g, 0, none⟩ = some (.slice (some ⟨bn, off, none⟩) nn cd) := HTB.out.cell 0
        have e1 : wr.cell? ⟨g, 1, none⟩ = some (.bool q) := HTB.out.cell 1
        clear hkc hk0 hkd hkk hkt hdr hbw hacc
        go_wp2_with (go_at_call 33; refine HI.out.mono ?_; rintro e w2 ⟨A9, n9, c9, rfl, hn9, ho9, hl9⟩; clear hn9)
        go_roundw
        case rel => exact ⟨j + 1, n9, c9, A9, acc ++ walkF ns u k, by omega, by go_num, rfl, ho9, HTT2.out, HLL.out.trans hl9, HL8.out.trans hl9, hl9.keep.blk HTB.out (by decide) (by decide) (by decide)⟩
        case measure => simp [intOf]; omega
      · obtain rfl : j = kn := by omega
        have hacc : acc.length = n2 := by have := HOW.out.1; rw [ints_len, Nat.mul_one] at this; exact this
        have hTT : acc = TOT := by have := HTT.out; rw [List.drop_eq_nil_of_le (by have := HKN.out; omega)] at this; simpa using this
        have HAC := Lib.hid hacc
        have HTE := Lib.hid hTT
        clear hacc hTT
        go_wp2
        go_ret
        refine ⟨A2, n2, c2, rfl, ?_, by rw [← HTE.out]; exact HOW.out, HLL.out⟩
        rw [← HTE.out, HAC.out]
end Go.Proofs.YtcghahfboccceaaGreatDoor
/- Contracts of dom.ask, dom.TextOf. -/
namespace Go.Proofs.YtcghahfboccceaaGreatDoor
open Go.RowKit Go.Shelf
set_option linter.unusedVariables false
set_option linter.unusedSimpArgs false

set_option maxRecDepth 100000 in
set_option maxHeartbeats 2000000 in
theorem ask_calls (A : Option Addr) (n c i : Nat) (q : Bool) (ns : List NodeV) (w : World) (hn : ns.length = n) (h : Nodes w w.heap.size A ns) (hm : n ≤ 140737488355328) (hi : i < n) (hck : checkE ns = 0) :
    Calls Tryz.prog 32 #[.agg #[.slice A n c, .bool q], .int .i64 (i : Int)] w fun e w' => e = .returned (.int .i64 0) ∧ Below w.heap.size w w' := by
  have B0 := Lib.hid ((Below.refl w.heap.size w).alloc (Nat.le_refl _) (.cells #[.slice A n c, .bool q] 27))
  have H := Lib.hid (dcheck_calls A n c w.heap.size q ns _ hn (h.below B0.out (Nat.le_refl _)) B0.out.size hm)
  rw [hck] at H
  have HN := Lib.hid (Blk.new w 27 #[.slice A n c, .bool q])
  have hi1 : (i : Int) < (n : Int) := by omega
  clear h hck hn
  go_enter Tryz.func32, Tryz.ntmps32
  go_wp2_with (go_at_call 24; refine H.out.mono ?_; rintro e w1 ⟨rfl, hb1⟩; (have HB := Lib.hid (B0.out.trans (hb1.mono B0.out.size))); (have d0 : w1.cell? ⟨w.heap.size, 0, none⟩ = some (.slice A n c) := (HN.out.below hb1 HN.out.lt).cell 0); clear hb1)
  go_ret
  exact ⟨rfl, HB.out⟩
/-- The texts of some nodes. -/
def textG (ns : List NodeV) (a : ByteArray) (l : List Int) : ByteArray := l.foldl (fun a k => if (nd ns k.toNat).kind = 3 then a ++ (nd ns k.toNat).text else a) a
theorem textG_le (ns : List NodeV) : ∀ (l : List Int) (a : ByteArray), a.size ≤ (textG ns a l).size
  | [], a => Nat.le_refl _
  | k :: l, a => by
    rw [textG, List.foldl_cons]
    refine Nat.le_trans ?_ (textG_le ns l _)
    split
    · rw [ByteArray.size_append]; omega
    · exact Nat.le_refl _
set_option maxRecDepth 100000 in
set_option maxHeartbeats 8000000 in
theorem textOf_calls (A : Option Addr) (n c u : Nat) (q : Bool) (ns : List NodeV) (T : ByteArray) (w : World) (hn : ns.length = n) (h : Nodes w w.heap.size A ns) (hm : n ≤ 1000) (h0 : 0 < n) (hck : checkE ns = 0) (hd : DeepOk ns u 0) (hk4 : (nd ns 0).kind ≠ 4) (hT : textG ns ⟨#[]⟩ (walkF ns u 0) = T) (hr : ∀ k ∈ walkF ns u 0, 0 ≤ k ∧ k.toNat < n) (hl : (walkF ns u 0).length ≤ 100000) (hTs : T.size ≤ 1000000) :
    Calls Tryz.prog 16 #[.agg #[.slice A n c, .bool q], .int .i64 0] w fun e w' => e = .returned (.tuple #[.string T, .int .i64 0]) ∧ Below w.heap.size w w' := by
  obtain ⟨L, hL⟩ : ∃ L, L = walkF ns u 0 := ⟨_, rfl⟩
  rw [← hL] at hT hr hl
  obtain ⟨g, hg⟩ : ∃ g, g = w.heap.size := ⟨_, rfl⟩
  obtain ⟨wa, hwa⟩ : ∃ wa, wa = w.alloc (.cells #[.slice A n c, .bool q] 27) := ⟨_, rfl⟩
  have B0 : Hid (Below w.heap.size w wa) := by show Below _ _ _; rw [hwa]; exact (Below.refl _ w).alloc (Nat.le_refl _) _
  have TB : Hid (Blk wa g 27 #[.slice A n c, .bool q]) := by show Blk _ _ _ _; rw [hwa, hg]; exact Blk.new w _ _
  have N0 := Lib.hid (h.below B0.out (Nat.le_refl _))
  have HASK := Lib.hid (ask_calls A n c 0 q ns wa hn (N0.out.more B0.out.size) (by omega) h0 hck)
  have HWK := Lib.hid (fun W (hN : Nodes W w.heap.size A ns) (hB : w.heap.size ≤ W.heap.size) => walk_calls w.heap.size A n c q ns hn u 0 none 0 0 [] W hd hN hB (World.ownsRow_nil _ _ _ _) (by rw [← hL]; omega))
  rw [← hL] at HWK
  obtain ⟨k0, hk0⟩ : ∃ k0, k0 = (nd ns 0).kind := ⟨_, rfl⟩
  have e4 : (k0 == 4) = false := by rw [hk0]; simpa using hk4
  have HK0 := Lib.hid hk0
  have HT := Lib.hid hT
  have HR := Lib.hid hr
  have HWA := Lib.hid hwa
  have HG := Lib.hid hg
  have HN := Lib.hid hn
  clear hL hg hwa h hck hd hk4 hT hr hn hk0
  go_enter Tryz.func16, Tryz.ntmps16
  go_upto_region 1 with fail
  rw [← HWA.out, ← HG.out]
  obtain ⟨k0', k1', _⟩ : wa.cell? ⟨g, 0, none⟩ = some (.slice A n c) ∧ wa.cell? ⟨g, 1, none⟩ = some (.bool q) ∧ True := ⟨TB.out.cell 0, TB.out.cell 1, trivial⟩
  obtain ⟨bn, off, rfl, hbn, hnc, hNI⟩ := N0.out 0 (by have := HN.out; omega)
  have hcz := hnc 0 (by decide)
  have HKZ : Hid (wa.cell? ⟨bn, off, none⟩ = some (.int .i64 k0)) := by show _ = _; rw [HK0.out]; simp only [Nat.zero_mul, Nat.add_zero] at hcz; exact hcz.trans rfl
  clear hnc hNI hcz
  go_wp2_with (first
    | (go_at_call 32; refine HASK.out.mono ?_; rintro e w1 ⟨rfl, hb1⟩; (have B1 := Lib.hid (B0.out.trans (hb1.mono B0.out.size))); (have T1 := Lib.hid (TB.out.below hb1 TB.out.lt)); (have d0 : w1.cell? ⟨g, 0, none⟩ = some (.slice (some ⟨bn, off, none⟩) n c) := T1.out.cell 0); (have d1 : w1.cell? ⟨g, 1, none⟩ = some (.bool q) := T1.out.cell 1); (have N1 := Lib.hid (N0.out.below hb1 B0.out.size)); (have kz : w1.cell? ⟨bn, off, none⟩ = some (.int .i64 k0) := (hb1.cell (p := ⟨bn, off, none⟩) (Nat.lt_of_lt_of_le hbn B0.out.size)).trans HKZ.out); (have HW1 := Lib.hid (HWK.out _ N1.out B1.out.size)); clear hb1)
    | (go_at_call 33; refine HW1.out.mono ?_; rintro e w2 ⟨A9, n9, c9, rfl, hn9, ho9, hl9⟩; (have OW := Lib.hid ho9); (have L2 := Lib.hid hl9); (have T2 := Lib.hid (hl9.keep.blk T1.out (by decide) (by decide) (by decide))); (have hn9' := Lib.hid hn9); clear hn9 ho9 hl9))
  have N2 := Lib.hid (N1.out.below L2.out.below (Nat.le_refl _))
  have c0 : w2.cell? ⟨g, 0, none⟩ = some (.slice (some ⟨bn, off, none⟩) n c) := T2.out.cell 0
  have HLN : Hid (L.length = n9) := by show _ = _; rw [hn9'.out]; simp
  have BF := Lib.hid (B1.out.trans L2.out.below)
  clear HW1 HASK HWK hn9' d0 d1 kz
  go_loopw [7, 33] (fun tv iv wr => ∃ (j : Nat) (acc : ByteArray), j ≤ n9 ∧ iv = .int .i64 (j : Int) ∧ tv = .string acc ∧ Hid (textG ns acc (L.drop j) = T) ∧ wr = w2) (fun _ iv _ => n9 - (intOf iv).toNat)
  case atStart => exact ⟨0, ⟨#[]⟩, Nat.zero_le _, rfl, rfl, by show _ = _; rw [List.drop_zero]; exact HT.out, rfl⟩
  case round =>
    obtain ⟨j, acc, hj, rfl, rfl, HTG, rfl⟩ := hrel
    by_cases hlt : j < n9
    · have hjL : j < L.length := by have := HLN.out; omega
      obtain ⟨ga, cap, hA9, _, _⟩ := own_some OW.out (by omega)
      injection hA9 with ha hb hc
      subst ha; subst hc
      have k1 : wr.cell? ⟨ga, j, none⟩ = some (.int .i64 L[j]) := own_cell OW.out (by rw [List.nil_append, ints, List.getElem?_map, List.getElem?_eq_getElem hjL]; rfl)
      obtain ⟨hk0, hkn⟩ := HR.out L[j] (List.getElem_mem hjL)
      obtain ⟨k, hkk⟩ : ∃ k : Nat, L[j] = (k : Int) := ⟨L[j].toNat, by omega⟩
      have hkt : L[j].toNat = k := by rw [hkk]; rfl
      rw [hkk] at k1
      rw [hkt] at hkn
      obtain ⟨b', off', hb', hbn', hnc', hNI'⟩ := N2.out k (by have := HN.out; omega)
      injection hb' with hb'
      injection hb' with hb1 hb2
      subst hb1; subst hb2
      obtain ⟨X, hX⟩ : ∃ X, X = nd ns k := ⟨_, rfl⟩
      rw [← hX] at hnc' hNI'
      have x0 : wr.cell? ⟨bn, off + k * 6, none⟩ = some (.int .i64 X.kind) := (hnc' 0 (by decide)).trans rfl
      have x3 : wr.cell? ⟨bn, off + k * 6 + 3, none⟩ = some (.string X.text) := (hnc' 3 (by decide)).trans rfl
      have HST : Hid (textG ns (if X.kind = 3 then acc ++ X.text else acc) (L.drop (j + 1)) = T) := by
        show _ = _
        rw [← HTG.out, List.drop_eq_getElem_cons hjL, textG, textG, List.foldl_cons, hkt, hX]
      obtain ⟨kd, hkd⟩ : ∃ kd, kd = X.kind := ⟨_, rfl⟩
      obtain ⟨tx, htx⟩ : ∃ tx, tx = X.text := ⟨_, rfl⟩
      rw [← hkd] at x0 HST
      rw [← htx] at x3 HST
      clear hnc' hNI' hX hkk hkt hk0 hkd htx hb
      cases e3 : (kd == 3)
      · have HS2 : Hid (textG ns acc (L.drop (j + 1)) = T) := by show _ = _; rw [← HST.out, if_neg (by simpa using e3)]
        go_wp2
        go_roundw
        case rel => exact ⟨j + 1, acc, by omega, by go_num, rfl, HS2, trivial⟩
        case measure => simp [intOf]; omega
      · have HS2 : Hid (textG ns (acc ++ tx) (L.drop (j + 1)) = T) := by show _ = _; rw [← HST.out, if_pos (by simpa using e3)]
        have hsz : acc.size + tx.size ≤ 1000000 := by
          have := textG_le ns (L.drop (j + 1)) (acc ++ tx)
          rw [HS2.out, ByteArray.size_append] at this
          omega
        have hsz2 : ¬ (9223372036854775807 < (acc.size : Int) + (tx.size : Int)) := by omega
        have hsz3 : ¬ (9223372036854775807 < acc.size + tx.size) := by omega
        go_wp2
        go_roundw
        case rel => exact ⟨j + 1, acc ++ tx, by omega, by go_num, rfl, HS2, trivial⟩
        case measure => simp [intOf]; omega
    · obtain rfl : j = n9 := by omega
      have HTE : Hid (acc = T) := by show _ = _; rw [← HTG.out, List.drop_eq_nil_of_le (by have := HLN.out; omega)]; rfl
      go_wp2
      refine bodyPost_ret (results_tmp2 rfl _ _ _) rfl ⟨?_, BF.out⟩
      rw [← HTE.out]
      rfl
end Go.Proofs.YtcghahfboccceaaGreatDoor
