/- Several texts in one: TgO. -/
import Derived.Test.YtcghahfboccceaaGreatDoorTopEscapeM47
/- Contract of serial's node. Printed by genTgO.py. -/
namespace Go.Proofs.YtcghahfboccceaaGreatDoor
open Go.RowKit Go.Shelf
set_option linter.unusedVariables false
set_option linter.unusedSimpArgs false

section
variable (B b n c : Nat) (A : Option Addr) (q : Bool) (ns : List NodeV) (m : Int)
set_option maxRecDepth 100000 in
set_option maxHeartbeats 16000000 in
theorem wnode_step (hn : ns.length = n) (hB0 : 0 < B) (u : Nat) (hIH : NodeC B b n c A q ns m u) : NodeC B b n c A q ns m (u + 1) := by
  intro i out w hok h hN hm hlen
  obtain ⟨hi, hks, hkd0⟩ := hok
  rw [hn] at hi
  have HKC := Lib.hid (fun (out : List UInt8) (w : World) => wkids_calls B b n c A q ns m hn hB0 u hIH i out w hi hks)
  have HEL := Lib.hid (fun (out : List UInt8) (w : World) (hel : ElOk (nd ns i)) => welement_calls B b n c A q ns m hn hB0 u hIH i out w hi hks hel)
  have HTX := Lib.hid (fun (p na ca nk ck : Nat) (Aa Ak : Option Addr) (kind : Int) (name tx : ByteArray) (out : List UInt8) (w : World) => wtext_calls B b n c p na ca nk ck A Aa Ak q ns kind m name tx out w)
  have HNN := Lib.hid hn
  have HN := Lib.hid hN
  have HM := Lib.hid hm
  have HB0 := Lib.hid hB0
  have hBw := h.bw
  have WW := Lib.hid h
  obtain ⟨bn, off, rfl, hbn, hnc, hNI⟩ := hN i (by omega)
  rw [serF] at hlen ⊢
  obtain ⟨KS, hKS⟩ : ∃ KS, KS = (nd ns i).kids.flatMap fun k => serF ns u k.toNat := ⟨_, rfl⟩
  rw [← hKS] at HKC HEL hlen ⊢
  obtain ⟨X, hX⟩ : ∃ X, X = nd ns i := ⟨_, rfl⟩
  rw [← hX] at hkd0 hnc hNI hlen HEL ⊢
  obtain ⟨nm, hnm⟩ : ∃ nm, nm = X.name := ⟨_, rfl⟩
  obtain ⟨at9, hat9⟩ : ∃ at9, at9 = X.attrs := ⟨_, rfl⟩
  obtain ⟨kd, hkd⟩ : ∃ kd, kd = X.kind := ⟨_, rfl⟩
  obtain ⟨tx, htx⟩ : ∃ tx, tx = X.text := ⟨_, rfl⟩
  obtain ⟨pa, hpa⟩ : ∃ pa, pa = X.parent := ⟨_, rfl⟩
  obtain ⟨aA, haA⟩ : ∃ aA, aA = X.attrsA := ⟨_, rfl⟩
  obtain ⟨ac, hac⟩ : ∃ ac, ac = X.acap := ⟨_, rfl⟩
  obtain ⟨kA, hkA⟩ : ∃ kA, kA = X.kidsA := ⟨_, rfl⟩
  obtain ⟨kc, hkc⟩ : ∃ kc, kc = X.kcap := ⟨_, rfl⟩
  obtain ⟨kn, hkn⟩ : ∃ kn, kn = X.kids.length := ⟨_, rfl⟩
  obtain ⟨na, hna⟩ : ∃ na, na = X.attrs.length := ⟨_, rfl⟩
  have d0 : w.cell? ⟨bn, off + i * 6, none⟩ = some (.int .i64 kd) := by rw [hkd]; exact (hnc 0 (by decide)).trans rfl
  have d1 : w.cell? ⟨bn, off + i * 6 + 1, none⟩ = some (.string nm) := by rw [hnm]; exact (hnc 1 (by decide)).trans rfl
  have d2 : w.cell? ⟨bn, off + i * 6 + 2, none⟩ = some (.slice aA na ac) := by rw [haA, hna, hac]; exact (hnc 2 (by decide)).trans rfl
  have d3 : w.cell? ⟨bn, off + i * 6 + 3, none⟩ = some (.string tx) := by rw [htx]; exact (hnc 3 (by decide)).trans rfl
  have d4 : w.cell? ⟨bn, off + i * 6 + 4, none⟩ = some (.int .i64 pa) := by rw [hpa]; exact (hnc 4 (by decide)).trans rfl
  have d5 : w.cell? ⟨bn, off + i * 6 + 5, none⟩ = some (.slice kA kn kc) := by rw [hkA, hkn, hkc]; exact (hnc 5 (by decide)).trans rfl
  have c2 : w.cell? ⟨b, 2, none⟩ = some (.slice (some ⟨bn, off, none⟩) n c) := h.cells.1
  obtain ⟨g, hg⟩ : ∃ g, g = w.heap.size := ⟨_, rfl⟩
  obtain ⟨wa, hwa⟩ : ∃ wa, wa = w.alloc (.cells #[.int .i64 kd, .string nm, .slice aA na ac, .string tx, .int .i64 pa, .slice kA kn kc] 35) := ⟨_, rfl⟩
  have TB : Hid (Blk wa g 35 #[.int .i64 kd, .string nm, .slice aA na ac, .string tx, .int .i64 pa, .slice kA kn kc]) := by show Blk _ _ _ _; rw [hwa, hg]; exact Blk.new w _ _
  have hb0 : Below w.heap.size w wa := by rw [hwa]; exact (Below.refl _ w).alloc (Nat.le_refl _) _
  have WW := Lib.hid (h.below hb0)
  have LL := Lib.hid (Wd.of_below (b := b) hb0 h.bw)
  have CC : Hid (∀ W, Wd B b w W → W.cell? ⟨0, 0, none⟩ = some (.int .i64 m)) := fun W hW => (hW.below.cell (p := ⟨0, 0, none⟩) hB0).trans hm
  have HWR := Lib.hid (fun (acc : List UInt8) (s : ByteArray) (W : World) (hW : Wr B b (.slice (some ⟨bn, off, none⟩) n c) (.bool q) acc W) (hl : acc.length + s.size ≤ 140737488355328) => wr_write B b (.slice (some ⟨bn, off, none⟩) n c) (.bool q) acc s W hW hl)
  have HWA := Lib.hid hwa
  have HG := Lib.hid hg
  have hin : i < n := hi
  have k0 : wa.cell? ⟨g, 0, none⟩ = some (.int .i64 kd) := TB.out.cell 0
  have k1 : wa.cell? ⟨g, 1, none⟩ = some (.string nm) := TB.out.cell 1
  have k2 : wa.cell? ⟨g, 2, none⟩ = some (.slice aA na ac) := TB.out.cell 2
  have k3 : wa.cell? ⟨g, 3, none⟩ = some (.string tx) := TB.out.cell 3
  have k4 : wa.cell? ⟨g, 4, none⟩ = some (.int .i64 pa) := TB.out.cell 4
  have k5 : wa.cell? ⟨g, 5, none⟩ = some (.slice kA kn kc) := TB.out.cell 5
  rw [← hkd, ← hnm, ← hpa, ← htx] at hkd0
  rw [← hkd, ← hpa, ← htx] at hlen ⊢
  rw [show dtS X = [60, 33, 68, 79, 67, 84, 89, 80, 69, 32] ++ nm.data.toList ++ [62] by rw [hnm]; rfl] at hlen ⊢
  clear hnc hNI hX hnm hat9 htx hpa haA hac hkA hkc hkn hna hg hwa hb0 hN hm h hks hn hi hIH hKS hB0 hkd
  rcases hkd0 with rfl | ⟨rfl, hns⟩ | ⟨rfl, hp0, hp, hts⟩ | ⟨rfl, hel⟩
  · rw [if_pos rfl] at hlen ⊢
    have HLEN := Lib.hid hlen
    clear hlen HEL HTX
    go_enter Tryz.func25, Tryz.ntmps25
    go_upto_region 1 with fail
    rw [← HWA.out, ← HG.out]
    clear d0 d1 d2 d3 d4 d5 c2 HWA
    go_wp2_with (go_at_call 46; refine (HKC.out _ _ WW.out (HN.out.below LL.out.below (Nat.le_refl _)) (CC.out _ LL.out) HLEN.out).mono ?_; rintro e w2 ⟨rfl, hw2, hd2⟩; (have W2 := Lib.hid hw2); (have L2 := Lib.hid (LL.out.trans hd2)); clear hw2 hd2)
    go_end0
    exact ⟨rfl, W2.out, L2.out⟩
  · rw [if_neg (by decide), if_pos rfl] at hlen ⊢
    have HLEN := Lib.hid hlen
    clear hlen HEL HTX HKC
    go_enter Tryz.func25, Tryz.ntmps25
    go_upto_region 6 with fail
    rw [← HWA.out, ← HG.out]
    clear d0 d1 d2 d3 d4 d5 c2 HWA k0 k1 k2 k3 k4 k5
    have hS0 : (fun w' : World => w'.cell? ⟨g, 1, none⟩ = some (.string nm)) (World.drew wa) := TB.out.cell 1
    have TB : Hid (Blk (World.drew wa) g 35 #[.int .i64 5, .string nm, .slice aA na ac, .string tx, .int .i64 pa, .slice kA kn kc]) := TB.out
    have WW : Hid (Wr B b (.slice (some ⟨bn, off, none⟩) n c) (.bool q) out (World.drew wa)) := WW.out.below (below_drewN (Below.refl _ _) 1)
    have LL : Hid (Wd B b w (World.drew wa)) := LL.out.trans (Wd.of_below (below_drewN (Below.refl _ _) 1) (Nat.le_trans hBw LL.out.below.size))
    refine wp_region_noPanic ?_
    refine region_M (S := fun w' => w'.cell? ⟨g, 1, none⟩ = some (.string nm)) (T := []) (by kernel_rfl) ?_
    generalize World.drew wa = wd at TB WW LL hS0 ⊢
    refine anyM_free (i := 0) (oi := { dst := some 25, op := _, type := _, pos := _, after := _, guard := _ }) (v := ?_) rfl (by kernel_rfl) (fun _ _ _ h => h) (Or.inl ⟨by kernel_rfl, ?_⟩) (fun _ => hS0) ?_
    rotate_left 1
    · (intro w hSw; (try dsimp only at hSw); go_simp; (try rw [if_neg (by omega)]); try with_reducible rfl)
    try simp only [Act.put, Array.toArray_toList, List.setIfInBounds_toArray, List.set_cons_zero, List.set_cons_succ]
    refine anyM_free (i := 1) (oi := { dst := some 26, op := _, type := _, pos := _, after := _, guard := _ }) (v := ?_) rfl (by kernel_rfl) (fun _ _ _ h => h) (Or.inl ⟨by kernel_rfl, ?_⟩) (fun _ => hS0) ?_
    rotate_left 1
    · (intro w hSw; (try dsimp only at hSw); go_simp; (try rw [if_neg (by omega)]); try with_reducible rfl)
    try simp only [Act.put, Array.toArray_toList, List.setIfInBounds_toArray, List.set_cons_zero, List.set_cons_succ]
    refine anyM_free (i := 2) (oi := { dst := some 27, op := _, type := _, pos := _, after := _, guard := _ }) (v := ?_) rfl (by kernel_rfl) (fun _ _ _ h => h) (Or.inl ⟨by kernel_rfl, ?_⟩) (fun _ => hS0) ?_
    rotate_left 1
    · (intro w hSw; (try dsimp only at hSw); go_simp; (try rw [if_neg (by omega)]); try with_reducible rfl)
    try simp only [Act.put, Array.toArray_toList, List.setIfInBounds_toArray, List.set_cons_zero, List.set_cons_succ]
    refine anyM_free (i := 3) (oi := { dst := some 28, op := _, type := _, pos := _, after := _, guard := _ }) (v := ?_) rfl (by kernel_rfl) (fun _ _ _ h => h) (Or.inl ⟨by kernel_rfl, ?_⟩) (fun _ => hS0) ?_
    rotate_left 1
    · (intro w hSw; (try dsimp only at hSw); go_simp; (try rw [if_neg (by omega)]); try with_reducible rfl)
    try simp only [Act.put, Array.toArray_toList, List.setIfInBounds_toArray, List.set_cons_zero, List.set_cons_succ]
    refine anyM_take (i := 4) (oi := { dst := some 29, op := _, type := _, pos := _, after := _, guard := _ }) (v := ?_) rfl (by kernel_rfl) (fun _ _ _ h => h) (Or.inl ⟨by kernel_rfl, ?_⟩) hS0 ?_
    rotate_left 1
    · (intro w hSw; (try dsimp only at hSw); go_simp; (try rw [if_neg (by omega)]); try with_reducible rfl)
    try simp only [Act.put, Array.toArray_toList, List.setIfInBounds_toArray, List.set_cons_zero, List.set_cons_succ]
    refine anyM_free (i := 5) (oi := { dst := some 30, op := _, type := _, pos := _, after := _, guard := _ }) (v := ?_) rfl (by kernel_rfl) (fun _ _ _ h => h) (Or.inl ⟨by kernel_rfl, ?_⟩) (fun _ => hS0) ?_
    rotate_left 1
    · (intro w hSw; (try dsimp only at hSw); go_simp; (try rw [if_neg (by omega)]); try with_reducible rfl)
    try simp only [Act.put, Array.toArray_toList, List.setIfInBounds_toArray, List.set_cons_zero, List.set_cons_succ]
    refine anyM_free (i := 6) (oi := { dst := some 31, op := _, type := _, pos := _, after := _, guard := _ }) (v := ?_) rfl (by kernel_rfl) (fun _ _ _ h => h) (Or.inl ⟨by kernel_rfl, ?_⟩) (fun _ => hS0) ?_
    rotate_left 1
    · (intro w hSw; (try dsimp only at hSw); go_simp; (try rw [if_neg (by omega)]); try with_reducible rfl)
    try simp only [Act.put, Array.toArray_toList, List.setIfInBounds_toArray, List.set_cons_zero, List.set_cons_succ]
    refine anyM_one (i := 7) (by kernel_rfl) rfl (fun K hK => ?_)
    go_simp
    refine (HWR.out _ _ _ WW.out (by rw [ByteArray.size_append, ByteArray.size_append]; have h4 : (⟨#[60, 33, 68, 79, 67, 84, 89, 80, 69, 32]⟩ : ByteArray).size = 10 := rfl; have h5 : (⟨#[62]⟩ : ByteArray).size = 1 := rfl; have := HLEN.out; simp at this; omega)).mono ?_
    rintro e w7 ⟨⟨v7, rfl⟩, hw7, hd7⟩
    have TB := Lib.hid (hd7.blk TB.out (WW.out.ne TB.out (by decide)) (by decide))
    have LL := Lib.hid (LL.out.trans hd7)
    have W7 := Lib.hid hw7
    have hS0 : (fun w' : World => w'.cell? ⟨g, 1, none⟩ = some (.string nm)) w7 := TB.out.cell 1
    clear hw7 hd7
    refine hK.out _ _ (fun _ => hS0) ?_
    clear hK K
    try simp only [Act.put, Array.toArray_toList, List.setIfInBounds_toArray, List.set_cons_zero, List.set_cons_succ]
    refine anyM_done (by kernel_rfl) ?_ _
    refine NoPanic.normal ?_
    clear hS0
    go_wp2_with fail
    go_end0
    refine ⟨rfl, ?_, LL.out⟩
    have h := W7.out
    rw [show (⟨#[60, 33, 68, 79, 67, 84, 89, 80, 69, 32]⟩ ++ nm ++ ⟨#[62]⟩ : ByteArray).data.toList = [60, 33, 68, 79, 67, 84, 89, 80, 69, 32] ++ nm.data.toList ++ [62] by simp] at h
    exact h
  · rw [if_neg (by decide), if_neg (by decide), if_pos rfl] at hlen ⊢
    have HLEN := Lib.hid hlen
    obtain ⟨p, hpp⟩ : ∃ p : Nat, pa = (p : Int) := ⟨pa.toNat, by omega⟩
    subst hpp
    rw [show ((p : Int)).toNat = p from rfl] at HLEN ⊢
    have hpn : p < n := by have := HNN.out; omega
    have HT := Lib.hid (fun (W : World) (hW : Wr B b (.slice (some ⟨bn, off, none⟩) n c) (.bool q) out W) (hl : Wd B b w W) => HTX.out p na ac kn kc aA kA 3 nm tx out W hW (HN.out.below hl.below (Nat.le_refl _)) HNN.out hpn (CC.out _ hl) HB0.out hts HLEN.out)
    clear hlen HEL HTX HKC hp hp0
    go_enter Tryz.func25, Tryz.ntmps25
    go_upto_region 1 with fail
    rw [← HWA.out, ← HG.out]
    clear d0 d1 d2 d3 d4 d5 c2 HWA
    go_wp2_with (go_at_call 48; refine (HT.out _ WW.out LL.out).mono ?_; rintro e w2 ⟨rfl, hw2, hd2⟩; (have W2 := Lib.hid hw2); (have L2 := Lib.hid (LL.out.trans hd2)); clear hw2 hd2)
    go_end0
    exact ⟨rfl, W2.out, L2.out⟩
  · rw [if_neg (by decide), if_neg (by decide), if_neg (by decide)] at hlen ⊢
    have HLEN := Lib.hid hlen
    clear hlen HTX HKC
    go_enter Tryz.func25, Tryz.ntmps25
    go_upto_region 1 with fail
    rw [← HWA.out, ← HG.out]
    clear d0 d1 d2 d3 d4 d5 c2 HWA
    go_wp2_with (go_at_call 49; refine (HEL.out _ _ hel WW.out (HN.out.below LL.out.below (Nat.le_refl _)) (CC.out _ LL.out) HLEN.out).mono ?_; rintro e w2 ⟨rfl, hw2, hd2⟩; (have W2 := Lib.hid hw2); (have L2 := Lib.hid (LL.out.trans hd2)); clear hw2 hd2)
    go_end0
    exact ⟨rfl, W2.out, L2.out⟩
theorem wnode_calls (hn : ns.length = n) (hB0 : 0 < B) : ∀ u, NodeC B b n c A q ns m u
  | 0 => fun i out w h => h.elim
  | u + 1 => wnode_step B b n c A q ns m hn hB0 u (wnode_calls hn hB0 u)
end
end Go.Proofs.YtcghahfboccceaaGreatDoor
