/- Several texts in one: TgN. -/
import Derived.Test.YtcghahfboccceaaGreatDoorTopEscapeM46
/- Contract of serial's element. Printed by genTgN.py. -/
namespace Go.Proofs.YtcghahfboccceaaGreatDoor
open Go.RowKit Go.Shelf
set_option linter.unusedVariables false
set_option linter.unusedSimpArgs false

theorem ba_len (b : ByteArray) : b.data.toList.length = b.size := by simp
theorem holds_cellA {w : World} {B : Nat} {A : Option Addr} {l : List (ByteArray × ByteArray)} (h : Holds w B A (l.flatMap attrF)) (h0 : 0 < l.length) : ∃ b off, A = some ⟨b, off, none⟩ ∧ b < B ∧ ∀ j (hj : j < l.length), w.cell? ⟨b, off + j * 2, none⟩ = some (.string l[j].1) ∧ w.cell? ⟨b, off + j * 2 + 1, none⟩ = some (.string l[j].2) := by
  have hln : (l.flatMap attrF).length = l.length * 2 := by
    clear h h0
    induction l with
    | nil => rfl
    | cons r rs ih => rw [List.flatMap_cons, List.length_append, ih, List.length_cons]; show 2 + _ = _; omega
  have hat : ∀ (l : List (ByteArray × ByteArray)) (j : Nat) (hj : j < l.length), (l.flatMap attrF)[j * 2]? = some (.string l[j].1) ∧ (l.flatMap attrF)[j * 2 + 1]? = some (.string l[j].2) := by
    intro l
    induction l with
    | nil => intro j hj; simp at hj
    | cons r rs ih =>
      intro j hj
      cases j with
      | zero => exact ⟨rfl, rfl⟩
      | succ j =>
        obtain ⟨h1, h2⟩ := ih j (by simpa using hj)
        have e1 : (j + 1) * 2 = j * 2 + 2 := by omega
        rw [List.flatMap_cons, e1, show attrF r = [.string r.1, .string r.2] from rfl]
        exact ⟨h1, h2⟩
  obtain ⟨b, off, hA, hlt, hc⟩ := h (by rw [hln]; omega)
  refine ⟨b, off, hA, hlt, fun j hj => ⟨?_, ?_⟩⟩
  · rw [hc (j * 2) (by rw [hln]; omega), List.getD_eq_getElem?_getD, (hat l j hj).1]; rfl
  · have := hc (j * 2 + 1) (by rw [hln]; omega)
    rw [← Nat.add_assoc] at this
    rw [this, List.getD_eq_getElem?_getD, (hat l j hj).2]; rfl
set_option maxRecDepth 100000 in
set_option maxHeartbeats 1000000 in
theorem void_calls (name : ByteArray) (m : Int) (hs : name.size ≤ 100000) (w : World) (hm : w.cell? ⟨0, 0, none⟩ = some (.int .i64 m)) :
    Calls Tryz.prog 71 #[.string name] w fun e w' => e = .returned (.bool (oneP name voidL)) ∧ w' = w := by
  have H := Lib.hid (oneOf_calls name voidL m hs (by decide) w hm)
  go_enter Tryz.func71, Tryz.ntmps71
  go_wp2_with (go_at_call 68; refine H.out.mono ?_; rintro e w1 ⟨rfl, hw⟩; (obtain rfl := hw.symm))
  go_ret
  exact ⟨rfl, rfl⟩
section
variable (B b n c : Nat) (A : Option Addr) (q : Bool) (ns : List NodeV) (m : Int)
set_option maxRecDepth 100000 in
set_option maxHeartbeats 16000000 in
theorem welement_calls (hn : ns.length = n) (hB0 : 0 < B) (u : Nat) (hIH : NodeC B b n c A q ns m u) (i : Nat) (out : List UInt8) (w : World) (hi : i < n) (hks : ∀ k ∈ (nd ns i).kids, 0 ≤ k ∧ SerOk ns u k.toNat) (hel : ElOk (nd ns i)) (h : Wr B b (.slice A n c) (.bool q) out w) (hN : Nodes w B A ns) (hm : w.cell? ⟨0, 0, none⟩ = some (.int .i64 m))
    (hlen : out.length + (tagS (nd ns i) ++ ((nd ns i).kids.flatMap fun k => serF ns u k.toNat) ++ endS (nd ns i)).length ≤ 100000000) :
    Calls Tryz.prog 49 #[.pointer (some ⟨b, 0, none⟩), .int .i64 (i : Int)] w fun e w' => e = .returned (.tuple #[]) ∧ Wr B b (.slice A n c) (.bool q) (out ++ (tagS (nd ns i) ++ ((nd ns i).kids.flatMap fun k => serF ns u k.toNat) ++ endS (nd ns i))) w' ∧ Wd B b w w' := by
  have HKC := Lib.hid (fun out w => wkids_calls B b n c A q ns m hn hB0 u hIH i out w hi hks)
  have HN := Lib.hid hN
  have HM := Lib.hid hm
  have hBw := h.bw
  have WW := Lib.hid h
  obtain ⟨bn, off, rfl, hbn, hnc, hNI⟩ := hN i (by omega)
  obtain ⟨KS, hKS⟩ : ∃ KS, KS = (nd ns i).kids.flatMap fun k => serF ns u k.toNat := ⟨_, rfl⟩
  rw [← hKS] at HKC hlen ⊢
  obtain ⟨X, hX⟩ : ∃ X, X = nd ns i := ⟨_, rfl⟩
  rw [← hX] at hel hnc hNI hlen ⊢
  obtain ⟨nm, hnm⟩ : ∃ nm, nm = X.name := ⟨_, rfl⟩
  obtain ⟨at9, hat9⟩ : ∃ at9, at9 = X.attrs := ⟨_, rfl⟩
  obtain ⟨kd, hkd⟩ : ∃ kd, kd = X.kind := ⟨_, rfl⟩
  obtain ⟨tx, htx⟩ : ∃ tx, tx = X.text := ⟨_, rfl⟩
  obtain ⟨pa, hpa⟩ : ∃ pa, pa = X.parent := ⟨_, rfl⟩
  obtain ⟨aA, haA⟩ : ∃ aA, aA = X.attrsA := ⟨_, rfl⟩
  obtain ⟨ac, hac⟩ : ∃ ac, ac = X.acap := ⟨_, rfl⟩
  obtain ⟨kA, hkA⟩ : ∃ kA, kA = X.kidsA := ⟨_, rfl⟩
  obtain ⟨kc, hkc⟩ : ∃ kc, kc = X.kcap := ⟨_, rfl⟩
  obtain ⟨kn, hkn⟩ : ∃ kn, kn = X.kids.length := ⟨_, rfl⟩
  obtain ⟨na, hna⟩ : ∃ na, na = X.attrs.length := ⟨_, rfl⟩
  have HNA : Hid (na = at9.length) := by show _ = _; rw [hna, hat9]
  have d0 : w.cell? ⟨bn, off + i * 6, none⟩ = some (.int .i64 kd) := by rw [hkd]; exact (hnc 0 (by decide)).trans rfl
  have d1 : w.cell? ⟨bn, off + i * 6 + 1, none⟩ = some (.string nm) := by rw [hnm]; exact (hnc 1 (by decide)).trans rfl
  have d2 : w.cell? ⟨bn, off + i * 6 + 2, none⟩ = some (.slice aA na ac) := by rw [haA, hna, hac]; exact (hnc 2 (by decide)).trans rfl
  have d3 : w.cell? ⟨bn, off + i * 6 + 3, none⟩ = some (.string tx) := by rw [htx]; exact (hnc 3 (by decide)).trans rfl
  have d4 : w.cell? ⟨bn, off + i * 6 + 4, none⟩ = some (.int .i64 pa) := by rw [hpa]; exact (hnc 4 (by decide)).trans rfl
  have d5 : w.cell? ⟨bn, off + i * 6 + 5, none⟩ = some (.slice kA kn kc) := by rw [hkA, hkn, hkc]; exact (hnc 5 (by decide)).trans rfl
  have c2 : w.cell? ⟨b, 2, none⟩ = some (.slice (some ⟨bn, off, none⟩) n c) := h.cells.1
  have HAT : Hid (Holds w B aA (at9.flatMap attrF)) := by show Holds _ _ _ _; rw [haA, hat9]; exact hNI.attrs
  have hnaN : na ≤ 140737488355328 := by rw [hna]; exact hNI.an
  have hTG : tagS X = 60 :: nm.data.toList ++ at9.flatMap attrS ++ [62] := by rw [hnm, hat9]; rfl
  have hEN : endS X = 60 :: 47 :: nm.data.toList ++ [62] := by rw [hnm]; rfl
  rw [hTG, hEN] at hlen ⊢
  have hns : nm.size ≤ 100000 := by rw [hnm]; exact hel.name
  have hats : ∀ a ∈ at9, a.1.size ≤ 1000000 ∧ a.2.size ≤ 1000000 := by rw [hat9]; exact hel.attrs
  have HATS := Lib.hid hats
  have hnv : oneP nm voidL = false := by rw [hnm]; exact hel.nv
  have hpre : (nm.toList == [112, 114, 101]) = false := by rw [hnm]; exact hel.pre
  have hta : (nm.toList == [116, 101, 120, 116, 97, 114, 101, 97]) = false := by rw [hnm]; exact hel.ta
  have HVD := Lib.hid (fun (W : World) (hW : W.cell? ⟨0, 0, none⟩ = some (.int .i64 m)) => void_calls nm m hns W hW)
  rw [hnv] at HVD
  obtain ⟨T1, hT1⟩ : ∃ T1, T1 = out ++ (60 :: nm.data.toList ++ at9.flatMap attrS) := ⟨_, rfl⟩
  have HTT : Hid (out ++ (60 :: nm.data.toList ++ at9.flatMap attrS ++ [62] ++ KS ++ (60 :: 47 :: nm.data.toList ++ [62])) = T1 ++ [62] ++ KS ++ (60 :: 47 :: nm.data.toList ++ [62])) := by show _ = _; rw [hT1]; simp
  have HLEN : Hid ((T1 ++ [62] ++ KS ++ (60 :: 47 :: nm.data.toList ++ [62])).length ≤ 100000000) := by show _ ≤ _; rw [← HTT.out, List.length_append]; exact hlen
  rw [HTT.out]
  obtain ⟨g, hg⟩ : ∃ g, g = w.heap.size := ⟨_, rfl⟩
  obtain ⟨wa, hwa⟩ : ∃ wa, wa = w.alloc (.cells #[.int .i64 kd, .string nm, .slice aA na ac, .string tx, .int .i64 pa, .slice kA kn kc] 35) := ⟨_, rfl⟩
  have TB : Hid (Blk wa g 35 #[.int .i64 kd, .string nm, .slice aA na ac, .string tx, .int .i64 pa, .slice kA kn kc]) := by show Blk _ _ _ _; rw [hwa, hg]; exact Blk.new w _ _
  have hb0 : Below w.heap.size w wa := by rw [hwa]; exact (Below.refl _ w).alloc (Nat.le_refl _) _
  have WW := Lib.hid (h.below hb0)
  have LL := Lib.hid (Wd.of_below (b := b) hb0 h.bw)
  have CC : Hid (∀ W, Wd B b w W → W.cell? ⟨0, 0, none⟩ = some (.int .i64 m)) := fun W hW => (hW.below.cell (p := ⟨0, 0, none⟩) hB0).trans hm
  have HWR := Lib.hid (fun (acc : List UInt8) (s : ByteArray) (W : World) (hW : Wr B b (.slice (some ⟨bn, off, none⟩) n c) (.bool q) acc W) (hl : acc.length + s.size ≤ 140737488355328) => wr_write B b (.slice (some ⟨bn, off, none⟩) n c) (.bool q) acc s W hW hl)
  have HT1 := Lib.hid hT1
  have HL0 : Hid (out.length + ((⟨#[60]⟩ : ByteArray).size + nm.size) ≤ 140737488355328) := by
    have h1 := congrArg List.length hT1
    have h2 := HLEN.out
    rw [List.length_append, List.length_append, List.length_append] at h2
    rw [List.length_append, List.length_append, List.length_cons] at h1
    have h3 : nm.data.toList.length = nm.size := by simp
    have h4 : (⟨#[60]⟩ : ByteArray).size = 1 := rfl
    show _ ≤ _
    omega
  have HWA := Lib.hid hwa
  have HG := Lib.hid hg
  have hin : i < n := hi
  clear hnc hNI hX hnm hat9 hkd htx hpa haA hac hkA hkc hkn hna hTG hEN hel hlen hT1 hg hwa hb0 hN hm h hks hn hi hIH hats hnv hKS HM
  go_enter Tryz.func49, Tryz.ntmps49
  go_upto_region 1 with fail
  rw [← HWA.out, ← HG.out]
  clear d0 d1 d2 d3 d4 d5 c2 HWA
  have hS0 : (fun w' : World => w'.cell? ⟨g, 1, none⟩ = some (.string nm)) (World.drew wa) := TB.out.cell 1
  have TB : Hid (Blk (World.drew wa) g 35 #[.int .i64 kd, .string nm, .slice aA na ac, .string tx, .int .i64 pa, .slice kA kn kc]) := TB.out
  have WW : Hid (Wr B b (.slice (some ⟨bn, off, none⟩) n c) (.bool q) out (World.drew wa)) := WW.out.below (below_drewN (Below.refl _ _) 1)
  have LL : Hid (Wd B b w (World.drew wa)) := LL.out.trans (Wd.of_below (below_drewN (Below.refl _ _) 1) (Nat.le_trans hBw LL.out.below.size))
  refine wp_region_noPanic ?_
  refine region_M (S := fun w' => w'.cell? ⟨g, 1, none⟩ = some (.string nm)) (T := []) (by kernel_rfl) ?_
  generalize World.drew wa = wd at TB WW LL hS0 ⊢
  refine anyM_free (i := 0) (oi := { dst := some 15, op := _, type := _, pos := _, after := _, guard := _ }) (v := ?_) rfl (by kernel_rfl) (fun _ _ _ h => h) (Or.inl ⟨by kernel_rfl, ?_⟩) (fun _ => hS0) ?_
  rotate_left 1
  · (intro w hSw; (try dsimp only at hSw); go_simp; (try rw [if_neg (by omega)]); try with_reducible rfl)
  try simp only [Act.put, Array.toArray_toList, List.setIfInBounds_toArray, List.set_cons_zero, List.set_cons_succ]
  refine anyM_free (i := 1) (oi := { dst := some 16, op := _, type := _, pos := _, after := _, guard := _ }) (v := ?_) rfl (by kernel_rfl) (fun _ _ _ h => h) (Or.inl ⟨by kernel_rfl, ?_⟩) (fun _ => hS0) ?_
  rotate_left 1
  · (intro w hSw; (try dsimp only at hSw); go_simp; (try rw [if_neg (by omega)]); try with_reducible rfl)
  try simp only [Act.put, Array.toArray_toList, List.setIfInBounds_toArray, List.set_cons_zero, List.set_cons_succ]
  refine anyM_free (i := 2) (oi := { dst := some 17, op := _, type := _, pos := _, after := _, guard := _ }) (v := ?_) rfl (by kernel_rfl) (fun _ _ _ h => h) (Or.inl ⟨by kernel_rfl, ?_⟩) (fun _ => hS0) ?_
  rotate_left 1
  · (intro w hSw; (try dsimp only at hSw); go_simp; (try rw [if_neg (by omega)]); try with_reducible rfl)
  try simp only [Act.put, Array.toArray_toList, List.setIfInBounds_toArray, List.set_cons_zero, List.set_cons_succ]
  refine anyM_free (i := 3) (oi := { dst := some 18, op := _, type := _, pos := _, after := _, guard := _ }) (v := ?_) rfl (by kernel_rfl) (fun _ _ _ h => h) (Or.inl ⟨by kernel_rfl, ?_⟩) (fun _ => hS0) ?_
  rotate_left 1
  · (intro w hSw; (try dsimp only at hSw); go_simp; (try rw [if_neg (by omega)]); try with_reducible rfl)
  try simp only [Act.put, Array.toArray_toList, List.setIfInBounds_toArray, List.set_cons_zero, List.set_cons_succ]
  refine anyM_take (i := 4) (oi := { dst := some 19, op := _, type := _, pos := _, after := _, guard := _ }) (v := ?_) rfl (by kernel_rfl) (fun _ _ _ h => h) (Or.inl ⟨by kernel_rfl, ?_⟩) hS0 ?_
  rotate_left 1
  · (intro w hSw; (try dsimp only at hSw); go_simp; (try rw [if_neg (by omega)]); try with_reducible rfl)
  try simp only [Act.put, Array.toArray_toList, List.setIfInBounds_toArray, List.set_cons_zero, List.set_cons_succ]
  refine anyM_free (i := 5) (oi := { dst := some 20, op := _, type := _, pos := _, after := _, guard := _ }) (v := ?_) rfl (by kernel_rfl) (fun _ _ _ h => h) (Or.inl ⟨by kernel_rfl, ?_⟩) (fun _ => hS0) ?_
  rotate_left 1
  · (intro w hSw; (try dsimp only at hSw); go_simp; (try rw [if_neg (by omega)]); try with_reducible rfl)
  try simp only [Act.put, Array.toArray_toList, List.setIfInBounds_toArray, List.set_cons_zero, List.set_cons_succ]
  refine anyM_one (i := 6) (by kernel_rfl) rfl (fun K hK => ?_)
  go_simp
  refine (HWR.out _ _ _ WW.out (by rw [ByteArray.size_append]; exact HL0.out)).mono ?_
  rintro e w7 ⟨⟨v7, rfl⟩, hw7, hd7⟩
  have TB := Lib.hid (hd7.blk TB.out (WW.out.ne TB.out (by decide)) (by decide))
  have LL := Lib.hid (LL.out.trans hd7)
  have W7 := Lib.hid hw7
  have hS0 : (fun w' : World => w'.cell? ⟨g, 1, none⟩ = some (.string nm)) w7 := TB.out.cell 1
  clear hw7 hd7
  refine hK.out _ _ (fun _ => hS0) ?_
  clear hK K
  try simp only [Act.put, Array.toArray_toList, List.setIfInBounds_toArray, List.set_cons_zero, List.set_cons_succ]
  refine anyM_done (by kernel_rfl) ?_ _
  refine NoPanic.normal ?_
  clear hS0
  have c2 : w7.cell? ⟨g, 2, none⟩ = some (.slice aA na ac) := TB.out.cell 2
  go_wp2_with fail
  have hBY0 : out ++ (⟨#[60]⟩ ++ nm : ByteArray).data.toList = out ++ 60 :: nm.data.toList := by simp
  have WW : Hid (Wr B b (.slice (some ⟨bn, off, none⟩) n c) (.bool q) (out ++ 60 :: nm.data.toList) w7) := by show Wr _ _ _ _ _ _; rw [← hBY0]; exact W7.out
  clear W7 hBY0 c2
  go_loopw [25] (fun vi wr => ∃ (j : Nat) (acc : List UInt8), j ≤ na ∧ vi = .int .i64 (j : Int) ∧ Hid (acc ++ (at9.drop j).flatMap attrS = T1) ∧ Hid (Wr B b (.slice (some ⟨bn, off, none⟩) n c) (.bool q) acc wr) ∧ Hid (Wd B b w wr) ∧ Hid (Blk wr g 35 #[.int .i64 kd, .string nm, .slice aA na ac, .string tx, .int .i64 pa, .slice kA kn kc])) (fun vi _ => na - (intOf vi).toNat)
  case atStart => exact ⟨0, _, Nat.zero_le _, rfl, by show _ = _; rw [HT1.out]; simp, WW.out, LL.out, TB.out⟩
  case round =>
    clear WW LL TB
    obtain ⟨j, acc, hj, rfl, HTT9, WW, LL, TB⟩ := hrel
    by_cases hlt : j < na
    · have hja : j < at9.length := by have := HNA.out; omega
      obtain ⟨ba, offa, rfl, hba, hac9⟩ := holds_cellA HAT.out (by omega)
      obtain ⟨an, han⟩ : ∃ an, an = at9[j].1 := ⟨_, rfl⟩
      obtain ⟨av, hav⟩ : ∃ av, av = at9[j].2 := ⟨_, rfl⟩
      have k1 : wr.cell? ⟨ba, offa + j * 2, none⟩ = some (.string an) := by rw [han]; exact (LL.out.below.cell (p := ⟨ba, offa + j * 2, none⟩) hba).trans (hac9 j hja).1
      have k2 : wr.cell? ⟨ba, offa + j * 2 + 1, none⟩ = some (.string av) := by rw [hav]; exact (LL.out.below.cell (p := ⟨ba, offa + j * 2 + 1, none⟩) hba).trans (hac9 j hja).2
      have hsz := HATS.out at9[j] (List.getElem_mem hja)
      rw [← han, ← hav] at hsz
      obtain ⟨hs1, hs2⟩ := hsz
      have hdr : (at9.drop j).flatMap attrS = attrS (an, av) ++ (at9.drop (j + 1)).flatMap attrS := by rw [List.drop_eq_getElem_cons hja, List.flatMap_cons, han, hav]
      have HTT2 : Hid ((acc ++ attrS (an, av)) ++ (at9.drop (j + 1)).flatMap attrS = T1) := by show _ = _; rw [← HTT9.out, hdr, List.append_assoc]
      have HES := Lib.hid (fun (W : World) (hW : W.cell? ⟨0, 0, none⟩ = some (.int .i64 m)) => escape_calls av true m hs2 W hW)
      obtain ⟨es, hes⟩ : ∃ es : ByteArray, es = ⟨(escG true av.data.toList).toArray⟩ := ⟨_, rfl⟩
      rw [← hes] at HES
      have HBY : Hid ((⟨#[32]⟩ ++ an ++ ⟨#[61, 34]⟩ ++ es ++ ⟨#[34]⟩ : ByteArray).data.toList = attrS (an, av)) := by show _ = _; rw [hes, attrS]; simp
      have HSZ : Hid (acc.length + (⟨#[32]⟩ ++ an ++ ⟨#[61, 34]⟩ ++ es ++ ⟨#[34]⟩ : ByteArray).size ≤ 100000000) := by
        show _ ≤ _
        have h1 := congrArg List.length HTT2.out
        have h2 := congrArg List.length HBY.out
        have h3 := HLEN.out
        rw [List.length_append, List.length_append] at h1
        rw [List.length_append, List.length_append, List.length_append] at h3
        have h4 := ba_len (⟨#[32]⟩ ++ an ++ ⟨#[61, 34]⟩ ++ es ++ ⟨#[34]⟩ : ByteArray)
        omega
      have hes3 : es.size ≤ 100000000 := by have := HSZ.out; simp only [ByteArray.size_append] at this; omega
      clear han hav hac9 hdr hes
      go_upto_region 5 with fail
      obtain ⟨g6, hg6⟩ : ∃ g6, g6 = wr.heap.size := ⟨_, rfl⟩
      have G6 := Lib.hid (Blk.new wr 91 #[.string an, .string av])
      have hbA := below_alloc (Below.refl wr.heap.size wr) (.cells #[.string an, .string av] 91)
      have TB := Lib.hid (TB.out.below hbA TB.out.lt)
      have WW := Lib.hid (WW.out.below hbA)
      have LL := Lib.hid (LL.out.trans (Wd.of_below hbA (Nat.le_trans hBw LL.out.below.size)))
      rw [← hg6] at G6 ⊢
      generalize wr.alloc (.cells #[.string an, .string av] 91) = wb at TB WW LL G6 ⊢
      clear hbA hg6 k1 k2
      have hS0 : (fun w' : World => w'.cell? ⟨g6, 0, none⟩ = some (.string an) ∧ w'.cell? ⟨g6, 1, none⟩ = some (.string av)) (World.drew wb) := ⟨G6.out.cell 0, G6.out.cell 1⟩
      have TB : Hid (Blk (World.drew wb) g 35 #[.int .i64 kd, .string nm, .slice (some ⟨ba, offa, none⟩) na ac, .string tx, .int .i64 pa, .slice kA kn kc]) := TB.out
      have G6 : Hid (Blk (World.drew wb) g6 91 #[.string an, .string av]) := G6.out
      have WW : Hid (Wr B b (.slice (some ⟨bn, off, none⟩) n c) (.bool q) acc (World.drew wb)) := WW.out.below (below_drewN (Below.refl _ _) 1)
      have LL : Hid (Wd B b w (World.drew wb)) := LL.out.trans (Wd.of_below (below_drewN (Below.refl _ _) 1) (Nat.le_trans hBw LL.out.below.size))
      refine wp_region_noPanic ?_
      refine region_M (S := fun w' => w'.cell? ⟨g6, 0, none⟩ = some (.string an) ∧ w'.cell? ⟨g6, 1, none⟩ = some (.string av)) (T := []) (by kernel_rfl) ?_
      generalize World.drew wb = wd at TB G6 WW LL hS0 ⊢
      refine anyM_free (i := 0) (oi := { dst := some 29, op := _, type := _, pos := _, after := _, guard := _ }) (v := ?_) rfl (by kernel_rfl) (fun _ _ _ h => h) (Or.inl ⟨by kernel_rfl, ?_⟩) (fun _ => hS0) ?_
      rotate_left 1
      · (intro w hSw; (try dsimp only at hSw); go_simp; (try rw [if_neg (by omega)]); try with_reducible rfl)
      try simp only [Act.put, Array.toArray_toList, List.setIfInBounds_toArray, List.set_cons_zero, List.set_cons_succ]
      refine anyM_free (i := 1) (oi := { dst := some 30, op := _, type := _, pos := _, after := _, guard := _ }) (v := ?_) rfl (by kernel_rfl) (fun _ _ _ h => h) (Or.inl ⟨by kernel_rfl, ?_⟩) (fun _ => hS0) ?_
      rotate_left 1
      · (intro w hSw; (try dsimp only at hSw); go_simp; (try rw [if_neg (by omega)]); try with_reducible rfl)
      try simp only [Act.put, Array.toArray_toList, List.setIfInBounds_toArray, List.set_cons_zero, List.set_cons_succ]
      refine anyM_free (i := 2) (oi := { dst := some 31, op := _, type := _, pos := _, after := _, guard := _ }) (v := ?_) rfl (by kernel_rfl) (fun _ _ _ h => h) (Or.inl ⟨by kernel_rfl, ?_⟩) (fun _ => hS0) ?_
      rotate_left 1
      · (intro w hSw; (try dsimp only at hSw); go_simp; (try rw [if_neg (by omega)]); try with_reducible rfl)
      try simp only [Act.put, Array.toArray_toList, List.setIfInBounds_toArray, List.set_cons_zero, List.set_cons_succ]
      refine anyM_free (i := 3) (oi := { dst := some 32, op := _, type := _, pos := _, after := _, guard := _ }) (v := ?_) rfl (by kernel_rfl) (fun _ _ _ h => h) (Or.inl ⟨by kernel_rfl, ?_⟩) (fun _ => hS0) ?_
      rotate_left 1
      · (intro w hSw; (try dsimp only at hSw); go_simp; (try rw [if_neg (by omega)]); try with_reducible rfl)
      try simp only [Act.put, Array.toArray_toList, List.setIfInBounds_toArray, List.set_cons_zero, List.set_cons_succ]
      refine anyM_take (i := 4) (oi := { dst := some 33, op := _, type := _, pos := _, after := _, guard := _ }) (v := ?_) rfl (by kernel_rfl) (fun _ _ _ h => h) (Or.inl ⟨by kernel_rfl, ?_⟩) hS0 ?_
      rotate_left 1
      · (intro w hSw; (try dsimp only at hSw); go_simp; (try rw [if_neg (by omega)]); try with_reducible rfl)
      try simp only [Act.put, Array.toArray_toList, List.setIfInBounds_toArray, List.set_cons_zero, List.set_cons_succ]
      refine anyM_free (i := 5) (oi := { dst := some 34, op := _, type := _, pos := _, after := _, guard := _ }) (v := ?_) rfl (by kernel_rfl) (fun _ _ _ h => h) (Or.inl ⟨by kernel_rfl, ?_⟩) (fun _ => hS0) ?_
      rotate_left 1
      · (intro w hSw; (try dsimp only at hSw); go_simp; (try rw [if_neg (by omega)]); try with_reducible rfl)
      try simp only [Act.put, Array.toArray_toList, List.setIfInBounds_toArray, List.set_cons_zero, List.set_cons_succ]
      refine anyM_free (i := 6) (oi := { dst := some 35, op := _, type := _, pos := _, after := _, guard := _ }) (v := ?_) rfl (by kernel_rfl) (fun _ _ _ h => h) (Or.inl ⟨by kernel_rfl, ?_⟩) (fun _ => hS0) ?_
      rotate_left 1
      · (intro w hSw; (try dsimp only at hSw); go_simp; (try rw [if_neg (by omega)]); try with_reducible rfl)
      try simp only [Act.put, Array.toArray_toList, List.setIfInBounds_toArray, List.set_cons_zero, List.set_cons_succ]
      refine anyM_free (i := 7) (oi := { dst := some 36, op := _, type := _, pos := _, after := _, guard := _ }) (v := ?_) rfl (by kernel_rfl) (fun _ _ _ h => h) (Or.inl ⟨by kernel_rfl, ?_⟩) (fun _ => hS0) ?_
      rotate_left 1
      · (intro w hSw; (try dsimp only at hSw); go_simp; (try rw [if_neg (by omega)]); try with_reducible rfl)
      try simp only [Act.put, Array.toArray_toList, List.setIfInBounds_toArray, List.set_cons_zero, List.set_cons_succ]
      refine anyM_take (i := 8) (oi := { dst := some 37, op := _, type := _, pos := _, after := _, guard := _ }) (v := ?_) rfl (by kernel_rfl) (fun _ _ _ h => h) (Or.inl ⟨by kernel_rfl, ?_⟩) hS0 ?_
      rotate_left 1
      · (intro w hSw; (try dsimp only at hSw); go_simp; (try rw [if_neg (by omega)]); try with_reducible rfl)
      try simp only [Act.put, Array.toArray_toList, List.setIfInBounds_toArray, List.set_cons_zero, List.set_cons_succ]
      refine anyM_one (i := 9) (by kernel_rfl) rfl (fun K hK => ?_)
      go_simp
      refine (HES.out _ (CC.out _ LL.out)).mono ?_
      rintro e w8 ⟨rfl, hb⟩
      have G6 := Lib.hid (G6.out.below hb G6.out.lt)
      have TB := Lib.hid (TB.out.below hb TB.out.lt)
      have LL := Lib.hid (LL.out.trans (Wd.of_below hb (Nat.le_trans hBw LL.out.below.size)))
      have WW := Lib.hid (WW.out.below hb)
      have hS0 : (fun w' : World => w'.cell? ⟨g6, 0, none⟩ = some (.string an) ∧ w'.cell? ⟨g6, 1, none⟩ = some (.string av)) w8 := ⟨G6.out.cell 0, G6.out.cell 1⟩
      clear hb
      refine hK.out _ _ (fun _ => hS0) ?_
      clear hK K
      try simp only [Act.put, Array.toArray_toList, List.setIfInBounds_toArray, List.set_cons_zero, List.set_cons_succ]
      refine anyM_free (i := 10) (oi := { dst := some 39, op := _, type := _, pos := _, after := _, guard := _ }) (v := ?_) rfl (by kernel_rfl) (fun _ _ _ h => h) (Or.inl ⟨by kernel_rfl, ?_⟩) (fun _ => hS0) ?_
      rotate_left 1
      · (intro w hSw; (try dsimp only at hSw); go_simp; (try rw [if_neg (by omega)]); try with_reducible rfl)
      try simp only [Act.put, Array.toArray_toList, List.setIfInBounds_toArray, List.set_cons_zero, List.set_cons_succ]
      refine anyM_free (i := 11) (oi := { dst := some 40, op := _, type := _, pos := _, after := _, guard := _ }) (v := ?_) rfl (by kernel_rfl) (fun _ _ _ h => h) (Or.inl ⟨by kernel_rfl, ?_⟩) (fun _ => hS0) ?_
      rotate_left 1
      · (intro w hSw; (try dsimp only at hSw); go_simp; (try rw [if_neg (by omega)]); try with_reducible rfl)
      try simp only [Act.put, Array.toArray_toList, List.setIfInBounds_toArray, List.set_cons_zero, List.set_cons_succ]
      refine anyM_one (i := 12) (by kernel_rfl) rfl (fun K hK => ?_)
      go_simp
      refine (HWR.out _ _ _ WW.out (by have := HSZ.out; omega)).mono ?_
      rintro e w9 ⟨⟨v9, rfl⟩, hw9, hd9⟩
      have TB := Lib.hid (hd9.blk TB.out (WW.out.ne TB.out (by decide)) (by decide))
      have G6 := Lib.hid (hd9.blk G6.out (WW.out.ne G6.out (by decide)) (by decide))
      have LL := Lib.hid (LL.out.trans hd9)
      have W9 := Lib.hid hw9
      have hS0 : (fun w' : World => w'.cell? ⟨g6, 0, none⟩ = some (.string an) ∧ w'.cell? ⟨g6, 1, none⟩ = some (.string av)) w9 := ⟨G6.out.cell 0, G6.out.cell 1⟩
      clear hw9 hd9
      refine hK.out _ _ (fun _ => hS0) ?_
      clear hK K
      try simp only [Act.put, Array.toArray_toList, List.setIfInBounds_toArray, List.set_cons_zero, List.set_cons_succ]
      refine anyM_done (by kernel_rfl) ?_ _
      refine NoPanic.normal ?_
      clear hS0
      go_wp2_with fail
      go_roundw
      case rel =>
        refine ⟨j + 1, acc ++ attrS (an, av), by omega, by go_num, HTT2, ?_, LL.out, TB.out⟩
        have h := W9.out
        rw [HBY.out] at h
        exact h
      case measure => simp [intOf]; omega
    · obtain rfl : na = j := by omega
      have HTE : Hid (acc = T1) := by show _ = _; have := HTT9.out; rw [List.drop_eq_nil_of_le (by have := HNA.out; omega)] at this; simpa using this
      have HL2 : Hid (acc.length + 1 + KS.length + (nm.size + 3) ≤ 100000000) := by
        show _ ≤ _
        have h2 := HLEN.out
        rw [← HTE.out, List.length_append, List.length_append, List.length_append] at h2
        have h3 := ba_len nm
        have h5 : (60 :: 47 :: nm.data.toList ++ [62] : List UInt8).length = nm.size + 3 := by simp
        have h6 : ([62] : List UInt8).length = 1 := rfl
        omega
      have k1 : wr.cell? ⟨g, 1, none⟩ = some (.string nm) := TB.out.cell 1
      go_upto_region 9 with (first
        | (go_at_call 47; refine (HWR.out _ _ _ WW.out (by have := HL2.out; show _ + 1 ≤ _; omega)).mono ?_; rintro e w8 ⟨⟨v8, rfl⟩, hw8, hd8⟩; (have TB := Lib.hid (hd8.blk TB.out (WW.out.ne TB.out (by decide)) (by decide))); (have LL := Lib.hid (LL.out.trans hd8)); (have WW : Hid (Wr B b (.slice (some ⟨bn, off, none⟩) n c) (.bool q) (acc ++ [62]) w8) := hw8); (have k1 : w8.cell? ⟨g, 1, none⟩ = some (.string nm) := TB.out.cell 1); clear hw8 hd8)
        | (go_at_call 71; refine (HVD.out _ (CC.out _ LL.out)).mono ?_; rintro e w9 ⟨rfl, hw⟩; (obtain rfl := hw.symm)))
      go_quiet (fail)
      have TB : Hid (Blk (w8.drewN nq) g 35 #[.int .i64 kd, .string nm, .slice aA na ac, .string tx, .int .i64 pa, .slice kA kn kc]) := TB.out
      have WW := Lib.hid (WW.out.below (below_drewN (Below.refl _ _) nq))
      have LL := Lib.hid (LL.out.trans (Wd.of_below (below_drewN (Below.refl _ _) nq) (Nat.le_trans hBw LL.out.below.size)))
      generalize w8.drewN nq = w9 at TB WW LL ⊢
      clear nq k1
      go_upto_region 12 with (go_at_call 46; refine (HKC.out _ _ WW.out (HN.out.below LL.out.below (Nat.le_refl _)) (CC.out _ LL.out) (by have := HL2.out; have h6 : ([62] : List UInt8).length = 1 := rfl; rw [List.length_append]; omega)).mono ?_; rintro e wb ⟨rfl, hw10, hd10⟩; (have TB := Lib.hid (hd10.blk TB.out (WW.out.ne TB.out (by decide)) (by decide))); (have LL := Lib.hid (LL.out.trans hd10)); (have WW := Lib.hid hw10); clear hw10 hd10)
      have hS0 : (fun w' : World => w'.cell? ⟨g, 1, none⟩ = some (.string nm)) (World.drew wb) := TB.out.cell 1
      have TB : Hid (Blk (World.drew wb) g 35 #[.int .i64 kd, .string nm, .slice aA na ac, .string tx, .int .i64 pa, .slice kA kn kc]) := TB.out
      have WW : Hid (Wr B b (.slice (some ⟨bn, off, none⟩) n c) (.bool q) (acc ++ [62] ++ KS) (World.drew wb)) := WW.out.below (below_drewN (Below.refl _ _) 1)
      have LL : Hid (Wd B b w (World.drew wb)) := LL.out.trans (Wd.of_below (below_drewN (Below.refl _ _) 1) (Nat.le_trans hBw LL.out.below.size))
      have HLEN : Hid ((acc ++ [62] ++ KS).length + (nm.size + 3) ≤ 100000000) := by show _ ≤ _; have := HL2.out; have h6 : ([62] : List UInt8).length = 1 := rfl; rw [List.length_append, List.length_append]; omega
      refine wp_region_noPanic ?_
      refine region_M (S := fun w' => w'.cell? ⟨g, 1, none⟩ = some (.string nm)) (T := []) (by kernel_rfl) ?_
      generalize World.drew wb = wd at TB WW LL hS0 ⊢
      refine anyM_free (i := 0) (oi := { dst := some 107, op := _, type := _, pos := _, after := _, guard := _ }) (v := ?_) rfl (by kernel_rfl) (fun _ _ _ h => h) (Or.inl ⟨by kernel_rfl, ?_⟩) (fun _ => hS0) ?_
      rotate_left 1
      · (intro w hSw; (try dsimp only at hSw); go_simp; (try rw [if_neg (by omega)]); try with_reducible rfl)
      try simp only [Act.put, Array.toArray_toList, List.setIfInBounds_toArray, List.set_cons_zero, List.set_cons_succ]
      refine anyM_free (i := 1) (oi := { dst := some 108, op := _, type := _, pos := _, after := _, guard := _ }) (v := ?_) rfl (by kernel_rfl) (fun _ _ _ h => h) (Or.inl ⟨by kernel_rfl, ?_⟩) (fun _ => hS0) ?_
      rotate_left 1
      · (intro w hSw; (try dsimp only at hSw); go_simp; (try rw [if_neg (by omega)]); try with_reducible rfl)
      try simp only [Act.put, Array.toArray_toList, List.setIfInBounds_toArray, List.set_cons_zero, List.set_cons_succ]
      refine anyM_free (i := 2) (oi := { dst := some 109, op := _, type := _, pos := _, after := _, guard := _ }) (v := ?_) rfl (by kernel_rfl) (fun _ _ _ h => h) (Or.inl ⟨by kernel_rfl, ?_⟩) (fun _ => hS0) ?_
      rotate_left 1
      · (intro w hSw; (try dsimp only at hSw); go_simp; (try rw [if_neg (by omega)]); try with_reducible rfl)
      try simp only [Act.put, Array.toArray_toList, List.setIfInBounds_toArray, List.set_cons_zero, List.set_cons_succ]
      refine anyM_free (i := 3) (oi := { dst := some 110, op := _, type := _, pos := _, after := _, guard := _ }) (v := ?_) rfl (by kernel_rfl) (fun _ _ _ h => h) (Or.inl ⟨by kernel_rfl, ?_⟩) (fun _ => hS0) ?_
      rotate_left 1
      · (intro w hSw; (try dsimp only at hSw); go_simp; (try rw [if_neg (by omega)]); try with_reducible rfl)
      try simp only [Act.put, Array.toArray_toList, List.setIfInBounds_toArray, List.set_cons_zero, List.set_cons_succ]
      refine anyM_take (i := 4) (oi := { dst := some 111, op := _, type := _, pos := _, after := _, guard := _ }) (v := ?_) rfl (by kernel_rfl) (fun _ _ _ h => h) (Or.inl ⟨by kernel_rfl, ?_⟩) hS0 ?_
      rotate_left 1
      · (intro w hSw; (try dsimp only at hSw); go_simp; (try rw [if_neg (by omega)]); try with_reducible rfl)
      try simp only [Act.put, Array.toArray_toList, List.setIfInBounds_toArray, List.set_cons_zero, List.set_cons_succ]
      refine anyM_free (i := 5) (oi := { dst := some 112, op := _, type := _, pos := _, after := _, guard := _ }) (v := ?_) rfl (by kernel_rfl) (fun _ _ _ h => h) (Or.inl ⟨by kernel_rfl, ?_⟩) (fun _ => hS0) ?_
      rotate_left 1
      · (intro w hSw; (try dsimp only at hSw); go_simp; (try rw [if_neg (by omega)]); try with_reducible rfl)
      try simp only [Act.put, Array.toArray_toList, List.setIfInBounds_toArray, List.set_cons_zero, List.set_cons_succ]
      refine anyM_free (i := 6) (oi := { dst := some 113, op := _, type := _, pos := _, after := _, guard := _ }) (v := ?_) rfl (by kernel_rfl) (fun _ _ _ h => h) (Or.inl ⟨by kernel_rfl, ?_⟩) (fun _ => hS0) ?_
      rotate_left 1
      · (intro w hSw; (try dsimp only at hSw); go_simp; (try rw [if_neg (by omega)]); try with_reducible rfl)
      try simp only [Act.put, Array.toArray_toList, List.setIfInBounds_toArray, List.set_cons_zero, List.set_cons_succ]
      refine anyM_one (i := 7) (by kernel_rfl) rfl (fun K hK => ?_)
      go_simp
      refine (HWR.out _ _ _ WW.out (by rw [ByteArray.size_append, ByteArray.size_append]; have := HLEN.out; have h4 : (⟨#[60, 47]⟩ : ByteArray).size = 2 := rfl; have h5 : (⟨#[62]⟩ : ByteArray).size = 1 := rfl; omega)).mono ?_
      rintro e w7 ⟨⟨v7, rfl⟩, hw7, hd7⟩
      have TB := Lib.hid (hd7.blk TB.out (WW.out.ne TB.out (by decide)) (by decide))
      have LL := Lib.hid (LL.out.trans hd7)
      have W7 := Lib.hid hw7
      have hS0 : (fun w' : World => w'.cell? ⟨g, 1, none⟩ = some (.string nm)) w7 := TB.out.cell 1
      clear hw7 hd7
      refine hK.out _ _ (fun _ => hS0) ?_
      clear hK K
      try simp only [Act.put, Array.toArray_toList, List.setIfInBounds_toArray, List.set_cons_zero, List.set_cons_succ]
      refine anyM_done (by kernel_rfl) ?_ _
      refine NoPanic.normal ?_
      clear hS0
      go_wp2_with fail
      go_end0
      refine ⟨rfl, ?_, LL.out⟩
      have h := W7.out
      rw [← HTE.out]
      rw [show (⟨#[60, 47]⟩ ++ nm ++ ⟨#[62]⟩ : ByteArray).data.toList = 60 :: 47 :: nm.data.toList ++ [62] by simp] at h
      exact h
end
end Go.Proofs.YtcghahfboccceaaGreatDoor
