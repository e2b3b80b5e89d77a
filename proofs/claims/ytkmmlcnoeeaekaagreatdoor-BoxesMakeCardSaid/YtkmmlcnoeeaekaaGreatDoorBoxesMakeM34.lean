/- Several texts in one: BxPu. -/
import Derived.Test.YtkmmlcnoeeaekaaGreatDoorBoxesMakeM32
import Derived.Test.YtkmmlcnoeeaekaaGreatDoorBoxesMakeM33
import Derived.Test.YtkmmlcnoeeaekaaGreatDoorBoxesMakeM6
/- Contract of the reference's put. -/
namespace Go.Proofs.YtkmmlcnoeeaekaaGreatDoor
open Go.RowKit Go.Maps
set_option linter.unusedVariables false
set_option linter.unusedSimpArgs false

theorem put_fst (rs : List RowB) (r0 : RowB) (i k : Nat) (hi : i < rs.length) (A9 : Option Addr) (c9 : Nat) : ((rs ++ [r0]).set i ({ rs[i].1 with kids := rs[i].1.kids ++ [k] }, A9, c9)).map (·.1) = addKid (rs.map (·.1) ++ [r0.1]) i k := by
  have h := kid_fst (rs ++ [r0]) i k (by rw [List.length_append]; omega) A9 c9
  rw [List.getElem_append_left hi] at h
  rw [h, List.map_append]
  rfl
/-- What put answers. -/
def PutSays (X : DocB) (I : BxV) (base gM bK : Nat) (kd nd pr : Int) (tx : ByteArray) (O : Nat → Prop) (S : List PBox) (w : World) (e : Ending) (w' : World) : Prop := e = .returned (.int .i64 (S.length : Nat)) ∧ ∃ O', RSB X I base gM bK O' w' (putR kd nd pr tx S) ∧ TurnW O w O' w'
set_option maxRecDepth 100000 in
set_option maxHeartbeats 8000000 in
theorem put_calls (X : DocB) (I : BxV) (base gM bK : Nat) (kd nd pr : Int) (tx : ByteArray) (O : Nat → Prop) (S : List PBox) (w : World) (h : RSB X I base gM bK O w S) (hp : pr < S.length) (hz : S.length < 2000) :
    Calls Tryz.prog 69 #[.pointer (some ⟨gM, 0, none⟩), .int .i64 kd, .int .i64 nd, .int .i64 pr, .string tx] w (PutSays X I base gM bK kd nd pr tx O S w) := by
  obtain ⟨iB, hiB, hzB0, hzB1, hzB2⟩ := info_partsK info_boxB
  obtain ⟨iI, hiI, hzI0, hzI1, hzI2⟩ := info_partsK info_intB
  obtain ⟨A, n, c, rs, D, hR, hS⟩ := h
  have hSn : S.length = n := by rw [← hS, List.length_map]; exact hR.len
  unfold PutSays
  rw [hSn] at hp hz ⊢
  have HS := Lib.hid hS
  have HR := Lib.hid hR
  have m2 : w.cell? ⟨gM, 2, none⟩ = some (.slice A n c) := hR.blk.cell 2
  have HWA := Lib.hid (below_alloc (Below.refl w.heap.size w) (.cells #[.int .i64 kd, .int .i64 nd, .int .i64 pr, .slice none 0 0, .string tx] 72))
  have HA := Lib.hid (hR.below HWA.out)
  have hoa := HA.out.out.own
  rw [hR.len] at hoa
  have HOA := Lib.hid hoa
  have HNB := Lib.hid (Blk.new w 72 #[.int .i64 kd, .int .i64 nd, .int .i64 pr, .slice none 0 0, .string tx])
  clear hS hR hSn hoa
  go_enter Tryz.func69, Tryz.ntmps69
  go_upto_region 3 with (at_builtin; refine wpList_append_any rfl _ _ 26 rfl base 72 iB (.agg #[.int .i64 0, .int .i64 0, .int .i64 0, .slice none 0 0, .string ⟨#[]⟩]) 5 64 Tryz.underlying26 hiB hzB0 hzB1 hzB2 rfl (by decide) (.slice A n c) n (rs.flatMap boxC) rfl HOA.out (some ⟨w.heap.size, 0, none⟩) 1 1 (boxC (⟨kd, nd, pr, [], tx⟩, none, 0)) rfl rfl (.inl ⟨w.heap.size, 0, rfl, fun j u hj => by rw [Nat.zero_add, HNB.out.cell j]; simpa [boxC, kidV] using hj⟩) (boxC_one _) (by unfold maxLen; omega) (by omega) HA.out.bw ?_; intro A9 c9 w9 ho9 hg9 hat9; have HP9 := Lib.hid (RBox.app HA.out (by simpa using ho9) hg9 hat9); have f2 : w9.frozen? ⟨gM, 2, none⟩ = false := (blk_grown HA.out.blk hg9 HA.out.gM_ne).free 2; have m9 : w9.cell? ⟨gM, 2, none⟩ = some (.slice A n c) := (blk_grown HA.out.blk hg9 HA.out.gM_ne).cell 2; clear ho9 hg9 hat9)
  have HT5 := Lib.hid ((TurnW.below HWA.out).trans HP9.out.2)
  have HR5 := Lib.hid HP9.out.1
  clear f2 m9 m2
  generalize World.setCell w9 _ _ = w5 at HR5 HT5 HP9 ⊢
  clear HP9 HA HOA HNB HWA
  by_cases hneg : 0 ≤ pr
  · obtain ⟨p, rfl⟩ : ∃ p : Nat, pr = (p : Int) := ⟨pr.toNat, by omega⟩
    have q0 : decide ((0 : Int) ≤ (p : Int)) = true := decide_eq_true hneg
    obtain ⟨g9, cp9, hA9, _, _⟩ := own_some (HR5.out.out.ownN HR5.out.len) (by omega)
    injection hA9 with hA9 hn9 hc9
    clear hn9
    subst hA9; subst hc9
    have hpn : p < n := by omega
    have hpn1 : (p : Int) < (n : Int) + 1 := by omega
    have hn2 : n < 2000 := hz
    have HI : Hid (p < rs.length) := by show _ < _; rw [HR.out.len]; exact hpn
    obtain ⟨Rw, hRw⟩ : ∃ Rw, Rw = rs[p]'(HI.out) := ⟨_, rfl⟩
    have hI2 : p < (rs ++ [((⟨kd, nd, (p : Int), [], tx⟩ : PBox), (none : Option Addr), (0 : Nat))]).length := by rw [List.length_append]; have := HI.out; omega
    have hRe : (rs ++ [((⟨kd, nd, (p : Int), [], tx⟩ : PBox), (none : Option Addr), (0 : Nat))])[p]'hI2 = Rw := by rw [List.getElem_append_left HI.out, hRw]
    have hmk : Rw.1.kids.length < 2000 := by have h1 := HR.out.few Rw (by rw [hRw]; exact List.getElem_mem _); have h2 := HR.out.len; omega
    have k3 : w5.cell? ⟨g9, p * 5 + 3, none⟩ = some (kidV Rw) := HR5.out.out.cells hI2 (by rw [hRe]; rfl)
    have hko := HR5.out.out.kids Rw (by rw [← hRe]; exact List.getElem_mem _)
    have HKO := Lib.hid hko
    have HI2 := Lib.hid hI2
    have HRE : Hid ((rs ++ [((⟨kd, nd, (p : Int), [], tx⟩ : PBox), (none : Option Addr), (0 : Nat))])[p]'HI2.out = Rw) := hRe
    have HFEW : Hid (∀ (A8 : Option Addr) (c8 : Nat), FewS ((rs ++ [((⟨kd, nd, (p : Int), [], tx⟩ : PBox), (none : Option Addr), (0 : Nat))]).set p ({ Rw.1 with kids := Rw.1.kids ++ [n] }, A8, c8))) := fun A8 c8 => by rw [hRw]; exact HR.out.few.put HI.out _ rfl _ _ _
    have HFST : Hid (∀ (A8 : Option Addr) (c8 : Nat), ((rs ++ [((⟨kd, nd, (p : Int), [], tx⟩ : PBox), (none : Option Addr), (0 : Nat))]).set p ({ Rw.1 with kids := Rw.1.kids ++ [n] }, A8, c8)).map (·.1) = addKid (rs.map (·.1) ++ [⟨kd, nd, (p : Int), [], tx⟩]) p n) := fun A8 c8 => by rw [hRw]; exact put_fst _ _ _ _ HI.out _ _
    have HNE : Hid ((kidV Rw).ownBlock ≠ some g9) := fun e => HR5.out.out.ne (by rw [← hRe]; exact List.getElem_mem _) e rfl
    have HPV : Hid (putR kd nd (p : Int) tx S = addKid (rs.map (·.1) ++ [⟨kd, nd, (p : Int), [], tx⟩]) p n) := by
      show _ = _
      unfold putR
      rw [if_pos hneg, HS.out.symm, List.length_map, HR.out.len]
      rfl
    have m5 : w5.cell? ⟨gM, 2, none⟩ = some (.slice (some ⟨g9, 0, none⟩) (n + 1) c9) := HR5.out.blk.cell 2
    have f5 : ∀ wx : World, wx.heap[g9]? = w5.heap[g9]? → wx.frozen? ⟨g9, p * 5 + 3, none⟩ = false := fun wx hx => own_free (own_heap (HR5.out.out.ownN HR5.out.len) fun q hq => by
      have : q = g9 := by injection hq with hq; exact hq.symm
      subst this; exact hx)
    have HF5 := Lib.hid f5
    unfold kidV at k3 HKO HNE
    obtain ⟨Rb, RA, Rc⟩ := Rw
    dsimp only at k3 HKO hmk HNE HFEW HFST
    obtain ⟨mk, hmk2⟩ : ∃ mk, mk = Rb.kids.length := ⟨_, rfl⟩
    rw [← hmk2] at k3 HKO hmk HNE
    have HMK := Lib.hid hmk2
    have HGE : Hid (g9 < w5.heap.size ∧ gM < w5.heap.size) := ⟨(HR5.out.out.own.lt g9 rfl).2, HR5.out.blk.lt⟩
    clear hRw hRe hI2 hmk2 f5 hko hp hneg
    go_upto_region 4 with fail
    have hS0 : (fun w' : World => w'.cell? ⟨gM, 2, none⟩ = some (.slice (some ⟨g9, 0, none⟩) (n + 1) c9) ∧ w'.cell? ⟨g9, p * 5 + 3, none⟩ = some (.slice RA mk Rc)) w5 := ⟨m5, k3⟩
    have HK3 := Lib.hid k3
    replace HR5 := Lib.hid (show RBox X I base gM bK _ _ _ _ D _ (World.drew w5) from HR5.out.below ⟨rfl, rfl, rfl, Nat.le_refl _, fun _ _ => rfl⟩)
    replace HT5 := Lib.hid HT5.out.drew
    replace HKO := Lib.hid (show World.ownsRow (World.drew w5) _ _ _ _ _ _ from HKO.out)
    have HF5 : Hid (∀ wx : World, wx.heap[g9]? = (World.drew w5).heap[g9]? → wx.frozen? ⟨g9, p * 5 + 3, none⟩ = false) := HF5.out
    have HGE : Hid (g9 < (World.drew w5).heap.size ∧ gM < (World.drew w5).heap.size) := HGE.out
    have hS0 : (fun w' : World => w'.cell? ⟨gM, 2, none⟩ = some (.slice (some ⟨g9, 0, none⟩) (n + 1) c9) ∧ w'.cell? ⟨g9, p * 5 + 3, none⟩ = some (.slice RA mk Rc)) (World.drew w5) := hS0
    have HK3 : Hid ((World.drew w5).cell? ⟨g9, p * 5 + 3, none⟩ = some (.slice RA mk Rc)) := HK3.out
    clear m5 k3
    refine wp_region_noPanic ?_
    refine region_M (S := fun w' => w'.cell? ⟨gM, 2, none⟩ = some (.slice (some ⟨g9, 0, none⟩) (n + 1) c9) ∧ w'.cell? ⟨g9, p * 5 + 3, none⟩ = some (.slice RA mk Rc)) (T := [18]) (by kernel_rfl) ?_
    generalize World.drew w5 = wd at HR5 HT5 HKO HF5 HGE hS0 HK3 ⊢
    refine anyM_free (i := 0) (oi := { dst := some 33, op := _, type := _, pos := _, after := _, guard := _ }) (v := ?_) rfl (by kernel_rfl) (fun _ _ _ h => h) (Or.inl ⟨by kernel_rfl, ?_⟩) (fun _ => hS0) ?_
    rotate_left 1
    · (intro w hSw; (try dsimp only at hSw); go_simp; try with_reducible rfl)
    try simp only [Act.put, Array.toArray_toList, List.setIfInBounds_toArray, List.set_cons_zero, List.set_cons_succ]
    refine anyM_free (i := 1) (oi := { dst := some 34, op := _, type := _, pos := _, after := _, guard := _ }) (v := ?_) rfl (by kernel_rfl) (fun _ _ _ h => h) (Or.inl ⟨by kernel_rfl, ?_⟩) (fun _ => hS0) ?_
    rotate_left 1
    · (intro w hSw; (try dsimp only at hSw); go_simp; try with_reducible rfl)
    try simp only [Act.put, Array.toArray_toList, List.setIfInBounds_toArray, List.set_cons_zero, List.set_cons_succ]
    refine anyM_free (i := 2) (oi := { dst := some 35, op := _, type := _, pos := _, after := _, guard := _ }) (v := ?_) rfl (by kernel_rfl) (fun _ _ _ h => h) (Or.inl ⟨by kernel_rfl, ?_⟩) (fun _ => hS0) ?_
    rotate_left 1
    · (intro w hSw; (try dsimp only at hSw); go_simp; try with_reducible rfl)
    try simp only [Act.put, Array.toArray_toList, List.setIfInBounds_toArray, List.set_cons_zero, List.set_cons_succ]
    refine anyM_take (i := 3) (oi := { dst := some 36, op := _, type := _, pos := _, after := _, guard := _ }) (v := ?_) rfl (by kernel_rfl) (fun _ _ _ h => h) (Or.inl ⟨by kernel_rfl, ?_⟩) hS0 ?_
    rotate_left 1
    · (intro w hSw; (try dsimp only at hSw); go_simp; try with_reducible rfl)
    try simp only [Act.put, Array.toArray_toList, List.setIfInBounds_toArray, List.set_cons_zero, List.set_cons_succ]
    refine anyM_free (i := 4) (oi := { dst := some 37, op := _, type := _, pos := _, after := _, guard := _ }) (v := ?_) rfl (by kernel_rfl) (fun _ _ _ h => h) (Or.inl ⟨by kernel_rfl, ?_⟩) (fun _ => hS0) ?_
    rotate_left 1
    · (intro w hSw; (try dsimp only at hSw); go_simp; try with_reducible rfl)
    try simp only [Act.put, Array.toArray_toList, List.setIfInBounds_toArray, List.set_cons_zero, List.set_cons_succ]
    refine anyM_free (i := 5) (oi := { dst := some 38, op := _, type := _, pos := _, after := _, guard := _ }) (v := ?_) rfl (by kernel_rfl) (fun _ _ _ h => h) (Or.inl ⟨by kernel_rfl, ?_⟩) (fun _ => hS0) ?_
    rotate_left 1
    · (intro w hSw; (try dsimp only at hSw); go_simp; try with_reducible rfl)
    try simp only [Act.put, Array.toArray_toList, List.setIfInBounds_toArray, List.set_cons_zero, List.set_cons_succ]
    refine anyM_free (i := 6) (oi := { dst := some 39, op := _, type := _, pos := _, after := _, guard := _ }) (v := ?_) rfl (by kernel_rfl) (fun _ _ _ h => h) (Or.inl ⟨by kernel_rfl, ?_⟩) (fun _ => hS0) ?_
    rotate_left 1
    · (intro w hSw; (try dsimp only at hSw); go_simp; try with_reducible rfl)
    try simp only [Act.put, Array.toArray_toList, List.setIfInBounds_toArray, List.set_cons_zero, List.set_cons_succ]
    refine anyM_free (i := 7) (oi := { dst := some 40, op := _, type := _, pos := _, after := _, guard := _ }) (v := ?_) rfl (by kernel_rfl) (fun _ _ _ h => h) (Or.inl ⟨by kernel_rfl, ?_⟩) (fun _ => hS0) ?_
    rotate_left 1
    · (intro w hSw; (try dsimp only at hSw); go_simp; try with_reducible rfl)
    try simp only [Act.put, Array.toArray_toList, List.setIfInBounds_toArray, List.set_cons_zero, List.set_cons_succ]
    refine anyM_take (i := 8) (oi := { dst := some 41, op := _, type := _, pos := _, after := _, guard := _ }) (v := ?_) rfl (by kernel_rfl) (fun _ _ _ h => h) (Or.inl ⟨by kernel_rfl, ?_⟩) hS0 ?_
    rotate_left 1
    · (intro w hSw; (try dsimp only at hSw); go_simp; try with_reducible rfl)
    try simp only [Act.put, Array.toArray_toList, List.setIfInBounds_toArray, List.set_cons_zero, List.set_cons_succ]
    refine anyM_free (i := 9) (oi := { dst := some 42, op := _, type := _, pos := _, after := _, guard := _ }) (v := ?_) rfl (by kernel_rfl) (fun _ _ _ h => h) (Or.inl ⟨by kernel_rfl, ?_⟩) (fun _ => hS0) ?_
    rotate_left 1
    · (intro w hSw; (try dsimp only at hSw); go_simp; try with_reducible rfl)
    try simp only [Act.put, Array.toArray_toList, List.setIfInBounds_toArray, List.set_cons_zero, List.set_cons_succ]
    refine anyM_free (i := 10) (oi := { dst := some 43, op := _, type := _, pos := _, after := _, guard := _ }) (v := ?_) rfl (by kernel_rfl) (fun _ _ _ h => h) (Or.inl ⟨by kernel_rfl, ?_⟩) (fun _ => hS0) ?_
    rotate_left 1
    · (intro w hSw; (try dsimp only at hSw); go_simp; try with_reducible rfl)
    try simp only [Act.put, Array.toArray_toList, List.setIfInBounds_toArray, List.set_cons_zero, List.set_cons_succ]
    refine anyM_free (i := 11) (oi := { dst := some 44, op := _, type := _, pos := _, after := _, guard := _ }) (v := ?_) rfl (by kernel_rfl) (fun _ _ _ h => h) (Or.inl ⟨by kernel_rfl, ?_⟩) (fun _ => hS0) ?_
    rotate_left 1
    · (intro w hSw; (try dsimp only at hSw); go_simp; try with_reducible rfl)
    try simp only [Act.put, Array.toArray_toList, List.setIfInBounds_toArray, List.set_cons_zero, List.set_cons_succ]
    refine anyM_take (i := 12) (oi := { dst := some 45, op := _, type := _, pos := _, after := _, guard := _ }) (v := ?_) rfl (by kernel_rfl) (fun _ _ _ h => h) (Or.inl ⟨by kernel_rfl, ?_⟩) hS0 ?_
    rotate_left 1
    · (intro w hSw; (try dsimp only at hSw); go_simp; try with_reducible rfl)
    try simp only [Act.put, Array.toArray_toList, List.setIfInBounds_toArray, List.set_cons_zero, List.set_cons_succ]
    refine anyM_free (i := 13) (oi := { dst := some 46, op := _, type := _, pos := _, after := _, guard := _ }) (v := ?_) rfl (by kernel_rfl) (fun _ _ _ h => h) (Or.inl ⟨by kernel_rfl, ?_⟩) (fun _ => hS0) ?_
    rotate_left 1
    · (intro w hSw; (try dsimp only at hSw); go_simp; try with_reducible rfl)
    try simp only [Act.put, Array.toArray_toList, List.setIfInBounds_toArray, List.set_cons_zero, List.set_cons_succ]
    refine anyM_one (i := 14) (by kernel_rfl) rfl (fun K hK => ?_)
    go_simp
    have hbx := below_alloc (Below.refl wd.heap.size wd) (.cells #[.int .i64 (n : Nat)] 3)
    have HNI := Lib.hid (Blk.new wd 3 #[.int .i64 (n : Nat)])
    have HOA := Lib.hid (own_below HKO.out hbx)
    have HRA := Lib.hid (HR5.out.below hbx)
    have HTA := Lib.hid (HT5.out.trans (TurnW.below hbx))
    have hS0 : (fun w' : World => w'.cell? ⟨gM, 2, none⟩ = some (.slice (some ⟨g9, 0, none⟩) (n + 1) c9) ∧ w'.cell? ⟨g9, p * 5 + 3, none⟩ = some (.slice RA mk Rc)) (wd.alloc (.cells #[.int .i64 (n : Nat)] 3)) := ⟨(hbx.cell (p := ⟨gM, 2, none⟩) HGE.out.2).trans hS0.1, (hbx.cell (p := ⟨g9, p * 5 + 3, none⟩) HGE.out.1).trans hS0.2⟩
    have HBX := Lib.hid hbx
    clear hbx
    refine hK.out _ _ (fun _ => hS0) ?_
    clear hK K
    try simp only [Act.put, Array.toArray_toList, List.setIfInBounds_toArray, List.set_cons_zero, List.set_cons_succ]
    refine anyM_one (i := 15) (by kernel_rfl) rfl (fun K hK => ?_)
    rw [if_pos (by kernel_rfl)]
    refine wp_append_any _ _ 44 rfl base 3 iI (.int .i64 0) 1 8 Tryz.underlying44 hiI hzI0 hzI1 hzI2 rfl (by decide) (.slice RA mk Rc) mk (nums Rb.kids) rfl HOA.out (some ⟨wd.heap.size, 0, none⟩) 1 1 [.int .i64 (n : Nat)] rfl rfl (.inl ⟨wd.heap.size, 0, rfl, fun j u hj => by rw [Nat.zero_add, HNI.out.cell j]; simpa using hj⟩) (by intro u hu; simp at hu; subst hu; rfl) (by unfold maxLen; omega) (by omega) HRA.out.bw ?_
    intro A8 c8 w8 ho8 hg8 hat8
    have HO8 := Lib.hid ho8
    have HG8 := Lib.hid hg8
    have HAT8 := Lib.hid hat8
    have hw8 : w8.heap[g9]? = wd.heap[g9]? := (hg8.block g9 (Nat.lt_of_lt_of_le HGE.out.1 HBX.out.size) (fun e => HNE.out e.symm)).trans (HBX.out.block g9 HGE.out.1)
    have f8 : w8.frozen? ⟨g9, p * 5 + 3, none⟩ = false := HF5.out w8 hw8
    have hS0 : (fun w' : World => w'.cell? ⟨gM, 2, none⟩ = some (.slice (some ⟨g9, 0, none⟩) (n + 1) c9) ∧ w'.cell? ⟨g9, p * 5 + 3, none⟩ = some (.slice RA mk Rc)) w8 := ⟨(blk_grown HRA.out.blk hg8 (blk_ne HRA.out.blk HOA.out (by decide))).cell 2, (cell_same hw8).trans HK3.out⟩
    have m8 : w8.cell? ⟨g9, p * 5 + 3, none⟩ = some (.slice RA mk Rc) := hS0.2
    clear ho8 hg8 hat8 hw8
    change K (Act.put _ (some 48) _) _
    refine hK.out _ _ (fun _ => hS0) ?_
    clear hK K
    try simp only [Act.put, Array.toArray_toList, List.setIfInBounds_toArray, List.set_cons_zero, List.set_cons_succ]
    refine anyM_free (i := 16) (oi := { dst := some 49, op := _, type := _, pos := _, after := _, guard := _ }) (v := ?_) rfl (by kernel_rfl) (fun _ _ _ h => h) (Or.inl ⟨by kernel_rfl, ?_⟩) (fun _ => hS0) ?_
    rotate_left 1
    · (intro w hSw; (try dsimp only at hSw); go_simp; try with_reducible rfl)
    try simp only [Act.put, Array.toArray_toList, List.setIfInBounds_toArray, List.set_cons_zero, List.set_cons_succ]
    refine anyM_free (i := 17) (oi := { dst := some 50, op := _, type := _, pos := _, after := _, guard := _ }) (v := ?_) rfl (by kernel_rfl) (fun _ _ _ h => h) (Or.inl ⟨by kernel_rfl, ?_⟩) (fun _ => hS0) ?_
    rotate_left 1
    · (intro w hSw; (try dsimp only at hSw); go_simp; try with_reducible rfl)
    try simp only [Act.put, Array.toArray_toList, List.setIfInBounds_toArray, List.set_cons_zero, List.set_cons_succ]
    refine anyM_one (i := 18) (by kernel_rfl) rfl (fun K hK => ?_)
    go_simp
    have HKD := Lib.hid (RBox.kid' HRA.out HI2.out HRE.out HMK.out.symm HO8.out HG8.out HAT8.out (HFEW.out A8 c8))
    refine hK.out _ _ (fun h => late_no h (by kernel_rfl)) ?_
    clear hK K
    try simp only [Act.put, Array.toArray_toList, List.setIfInBounds_toArray, List.set_cons_zero, List.set_cons_succ]
    refine anyM_done (by kernel_rfl) ?_ _
    refine NoPanic.normal ?_
    clear hS0
    go_wp2_with fail
    go_ret
    exact ⟨rfl, _, ⟨_, _, _, _, D, HKD.out.1, by rw [HFST.out A8 c8, HPV.out]⟩, HTA.out.trans HKD.out.2⟩
  · have q0 : decide ((0 : Int) ≤ pr) = false := decide_eq_false hneg
    have HPV : Hid (putR kd nd pr tx S = rs.map (·.1) ++ [⟨kd, nd, pr, [], tx⟩]) := by
      show _ = _
      unfold putR
      rw [if_neg hneg, HS.out.symm]
    clear hneg hp
    go_wp2_with fail
    go_ret
    refine ⟨rfl, _, ⟨_, _, _, _, D, HR5.out, ?_⟩, HT5.out⟩
    rw [HPV.out, List.map_append]
    rfl
end Go.Proofs.YtkmmlcnoeeaekaaGreatDoor
