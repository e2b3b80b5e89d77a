/- Several texts in one: TeU. -/
import Derived.Test.YtcghahfboccceaaGreatDoorTopEscapeM13
import Derived.Test.YtcghahfboccceaaGreatDoorTopEscapeM20
/- Contract of token's text. Printed by genTeTok.py. -/
namespace Go.Proofs.YtcghahfboccceaaGreatDoor
open Go.RowKit Go.Shelf
set_option linter.unusedVariables false
set_option linter.unusedSimpArgs false

theorem u8_data (s : ByteArray) (k : Nat) (h : k < s.size) : s.data.toList[k]? = some s[k] := by rw [List.getElem?_eq_getElem (by simpa using h)]; rfl
/-- At a place where a tag or a declaration begins. -/
def Begins (s : ByteArray) (e : Nat) : Prop := ∃ h : e + 1 < s.size, s[e].toNat = 60 ∧ (s[e + 1].toNat = 112 ∨ s[e + 1].toNat = 33)
theorem markup_some (b : Nat) (s : ByteArray) (e : Nat) (c1 c2 c3 : Value) (hs : s.size ≤ 1099511627776) (h : Begins s e) : ∃ k : Int, k ≠ 0 ∧ ∀ w, Blk w b 82 #[.string s, c1, c2, c3] →
    Calls Tryz.prog 57 #[.pointer (some ⟨b, 0, none⟩), .int .i64 (e : Int)] w fun e w' => e = .returned (.int .u8 k) ∧ w' = w := by
  obtain ⟨h1, h2, h3 | h3⟩ := h
  · exact ⟨97, by decide, fun w hB => markup_p b s e c1 c2 c3 hs w h1 h2 h3 hB⟩
  · exact ⟨33, by decide, fun w hB => markup_ex b s e c1 c2 c3 hs w h1 h2 h3 hB⟩
set_option maxRecDepth 100000 in
set_option maxHeartbeats 8000000 in
theorem text_calls (B b : Nat) (s : ByteArray) (a e : Nat) (en : Int) (v : Value) (ts : List TokV) (hs : s.size ≤ 1099511627776) (hae : a ≤ e) (hes : e ≤ s.size) (hno : ∀ k (h : k < s.size), a ≤ k → k < e → s[k].toNat ≠ 60)
    (hend : e = s.size ∨ Begins s e) (hnn : NoNum (s.extract a e).data.toList) (w : World) (h : RdS B b s a en v ts w) (hB : B ≤ w.heap.size) (hz : ts.length < 1000000) :
    Calls Tryz.prog 56 #[.pointer (some ⟨b, 0, none⟩)] w fun x w' => x = .returned (.tuple #[]) ∧ ∃ v', RdS B b s e en v' (if a < e then ts ++ [⟨3, ⟨#[]⟩, .slice none 0 0, ⟨(readF false (s.extract a e).size (s.extract a e).data.toList).toArray⟩, false, a, e⟩] else ts) w' ∧ FrR b v w w' ∧ ∀ g, v'.ownBlock = some g → v.ownBlock = some g ∨ w.heap.size ≤ g := by
  obtain ⟨TS, hTS⟩ : ∃ TS, TS = if a < e then ts ++ [⟨3, ⟨#[]⟩, .slice none 0 0, ⟨(readF false (s.extract a e).size (s.extract a e).data.toList).toArray⟩, false, a, e⟩] else ts := ⟨_, rfl⟩
  rw [← hTS]
  have HTS := Lib.hid hTS
  clear hTS
  have c1 : w.cell? ⟨b, 1, none⟩ = some (.int .i64 (a : Int)) := h.blk.cell 1
  have H := Lib.hid h
  have HNO := Lib.hid hno
  have HEND := Lib.hid hend
  have HNN := Lib.hid hnn
  have HBW := Lib.hid hB
  clear h hno hend hnn hB
  go_enter Tryz.func56, Tryz.ntmps56
  go_wp2
  go_loopw [] (fun wr => ∃ k : Nat, a ≤ k ∧ k ≤ e ∧ Blk wr b 82 #[.string s, .int .i64 (k : Int), .int .i64 en, v] ∧ OnlyB b w wr) (fun wr => s.size - (match wr.cell? ⟨b, 1, none⟩ with | some v => (intOf v).toNat | none => 0))
  case atStart => exact ⟨a, by omega, hae, H.out.blk, OnlyB.refl _ _⟩
  case round =>
    obtain ⟨k, hk0, hk, hb, ho⟩ := hrel
    have d0 : wr.cell? ⟨b, 0, none⟩ = some (.string s) := hb.cell 0
    have d1 : wr.cell? ⟨b, 1, none⟩ = some (.int .i64 (k : Int)) := hb.cell 1
    have f1 : wr.frozen? ⟨b, 1, none⟩ = false := hb.free 1
    have HB1 := Lib.hid hb
    have HO := Lib.hid ho
    clear hb ho
    by_cases hlt : k < e
    · have hks : k < s.size := by omega
      have HM := Lib.hid (fun (w : World) (hB : Blk w b 82 #[.string s, .int .i64 (k : Int), .int .i64 en, v]) => markup_no b s k _ _ _ hs w hks (HNO.out k hks hk0 hlt) hB)
      go_wp2
      go_quiet (first | (go_at_call 57; refine Calls.quiet_of_same (HM.out _ HB1.out)))
      go_wp2
      go_roundw
      case rel => exact ⟨k + 1, by omega, by omega, (HB1.out : Blk (wr.drewN nq) b _ _).stored 1 (.int .i64 ((k : Int) + 1)), (HO.out.trans (OnlyB.drewN b wr nq)).trans (OnlyB.setCell (p := ⟨b, 1, none⟩) _ rfl _)⟩
      case measure =>
        have e1 : ((wr.drewN nq).setCell ⟨b, 1, none⟩ (.int .i64 ((k : Int) + 1))).cell? ⟨b, 1, none⟩ = some (.int .i64 ((k : Int) + 1)) := ((HB1.out : Blk (wr.drewN nq) b _ _).stored 1 (.int .i64 ((k : Int) + 1))).cell 1
        rw [e1, d1]
        simp [intOf]; omega
    · obtain rfl : k = e := by omega
      have fin : Hid (∃ wz, wz = wr) := ⟨_, rfl⟩
      rcases HEND.out with hend | hbeg
      · subst hend
        go_wp2
        go_quiet (fail)
        have HB1 : Hid (Blk (wr.drewN nq) b 82 #[.string s, .int .i64 (s.size : Int), .int .i64 en, v]) := HB1.out
        have HO : Hid (OnlyB b w (wr.drewN nq)) := HO.out.trans (OnlyB.drewN b wr nq)
        have d0 : (wr.drewN nq).cell? ⟨b, 0, none⟩ = some (.string s) := d0
        have d1 : (wr.drewN nq).cell? ⟨b, 1, none⟩ = some (.int .i64 (s.size : Int)) := d1
        clear f1
        generalize wr.drewN nq = wq at HB1 HO d0 d1 ⊢
        clear nq fin
        by_cases hak : a < s.size
        · have hgt : (a : Int) < (s.size : Int) := by omega
          have hgt2 : ((s.size : Int) ≤ (s.size : Int)) := by omega
          have HR : Hid (RdS B b s s.size en v ts wq) := H.out.only HB1.out HO.out.n
          obtain ⟨tx, htx⟩ : ∃ tx, tx = (⟨(readF false (s.extract a s.size).size (s.extract a s.size).data.toList).toArray⟩ : ByteArray) := ⟨_, rfl⟩
          have HT : Hid (∀ W, Calls Tryz.prog 79 #[.string (s.extract a s.size)] W fun e w' => e = .returned (.string tx) ∧ Below W.heap.size W w') := fun W => by rw [htx]; exact etext_calls _ HNN.out (by rw [ByteArray.size_extract]; omega) W
          have HE9 : Hid (TS = ts ++ [⟨3, ⟨#[]⟩, .slice none 0 0, tx, false, a, s.size⟩]) := by show _ = _; rw [HTS.out, if_pos hak, htx]
          clear htx
          go_wp2
          have hS0 : (fun w' : World => w'.cell? ⟨b, 0, none⟩ = some (.string s) ∧ w'.cell? ⟨b, 1, none⟩ = some (.int .i64 (s.size : Int))) wq := ⟨d0, d1⟩
          refine wp_region_noPanic ?_
          refine region_M (S := fun w' => w'.cell? ⟨b, 0, none⟩ = some (.string s) ∧ w'.cell? ⟨b, 1, none⟩ = some (.int .i64 (s.size : Int))) (T := []) (by kernel_rfl) ?_
          have hS0 : (fun w' : World => w'.cell? ⟨b, 0, none⟩ = some (.string s) ∧ w'.cell? ⟨b, 1, none⟩ = some (.int .i64 (s.size : Int))) (World.drew wq) := hS0
          have HR : Hid (RdS B b s s.size en v ts (World.drew wq)) := HR.out.only HR.out.blk ((OnlyN.refl b wq).drewN 1)
          have HO : Hid (OnlyN b w (World.drew wq)) := HO.out.n.drewN 1
          clear d0 d1
          generalize World.drew wq = wd at HR HO hS0 ⊢
          clear HB1
          refine anyM_free (i := 0) (oi := { dst := some 39, op := _, type := _, pos := _, after := _, guard := _ }) (v := ?_) rfl (by kernel_rfl) (fun _ _ _ h => h) (Or.inl ⟨by kernel_rfl, ?_⟩) (fun _ => hS0) ?_
          rotate_left 1
          · (intro w hSw; (try dsimp only at hSw); go_simp; try with_reducible rfl)
          try simp only [Act.put, Array.toArray_toList, List.setIfInBounds_toArray, List.set_cons_zero, List.set_cons_succ]
          refine anyM_free (i := 1) (oi := { dst := some 40, op := _, type := _, pos := _, after := _, guard := _ }) (v := ?_) rfl (by kernel_rfl) (fun _ _ _ h => h) (Or.inl ⟨by kernel_rfl, ?_⟩) (fun _ => hS0) ?_
          rotate_left 1
          · (intro w hSw; (try dsimp only at hSw); go_simp; try with_reducible rfl)
          try simp only [Act.put, Array.toArray_toList, List.setIfInBounds_toArray, List.set_cons_zero, List.set_cons_succ]
          refine anyM_free (i := 2) (oi := { dst := some 41, op := _, type := _, pos := _, after := _, guard := _ }) (v := ?_) rfl (by kernel_rfl) (fun _ _ _ h => h) (Or.inl ⟨by kernel_rfl, ?_⟩) (fun _ => hS0) ?_
          rotate_left 1
          · (intro w hSw; (try dsimp only at hSw); go_simp; try with_reducible rfl)
          try simp only [Act.put, Array.toArray_toList, List.setIfInBounds_toArray, List.set_cons_zero, List.set_cons_succ]
          refine anyM_free (i := 3) (oi := { dst := some 42, op := _, type := _, pos := _, after := _, guard := _ }) (v := ?_) rfl (by kernel_rfl) (fun _ _ _ h => h) (Or.inl ⟨by kernel_rfl, ?_⟩) (fun _ => hS0) ?_
          rotate_left 1
          · (intro w hSw; (try dsimp only at hSw); go_simp; try with_reducible rfl)
          try simp only [Act.put, Array.toArray_toList, List.setIfInBounds_toArray, List.set_cons_zero, List.set_cons_succ]
          refine anyM_take (i := 4) (oi := { dst := some 43, op := _, type := _, pos := _, after := _, guard := _ }) (v := ?_) rfl (by kernel_rfl) (fun _ _ _ h => h) (Or.inl ⟨by kernel_rfl, ?_⟩) hS0 ?_
          rotate_left 1
          · (intro w hSw; (try dsimp only at hSw); go_simp; try with_reducible rfl)
          try simp only [Act.put, Array.toArray_toList, List.setIfInBounds_toArray, List.set_cons_zero, List.set_cons_succ]
          refine anyM_free (i := 5) (oi := { dst := some 44, op := _, type := _, pos := _, after := _, guard := _ }) (v := ?_) rfl (by kernel_rfl) (fun _ _ _ h => h) (Or.inl ⟨by kernel_rfl, ?_⟩) (fun _ => hS0) ?_
          rotate_left 1
          · (intro w hSw; (try dsimp only at hSw); go_simp; try with_reducible rfl)
          try simp only [Act.put, Array.toArray_toList, List.setIfInBounds_toArray, List.set_cons_zero, List.set_cons_succ]
          refine anyM_free (i := 6) (oi := { dst := some 45, op := _, type := _, pos := _, after := _, guard := _ }) (v := ?_) rfl (by kernel_rfl) (fun _ _ _ h => h) (Or.inl ⟨by kernel_rfl, ?_⟩) (fun _ => hS0) ?_
          rotate_left 1
          · (intro w hSw; (try dsimp only at hSw); go_simp; try with_reducible rfl)
          try simp only [Act.put, Array.toArray_toList, List.setIfInBounds_toArray, List.set_cons_zero, List.set_cons_succ]
          refine anyM_free (i := 7) (oi := { dst := some 46, op := _, type := _, pos := _, after := _, guard := _ }) (v := ?_) rfl (by kernel_rfl) (fun _ _ _ h => h) (Or.inl ⟨by kernel_rfl, ?_⟩) (fun _ => hS0) ?_
          rotate_left 1
          · (intro w hSw; (try dsimp only at hSw); go_simp; try with_reducible rfl)
          try simp only [Act.put, Array.toArray_toList, List.setIfInBounds_toArray, List.set_cons_zero, List.set_cons_succ]
          refine anyM_free (i := 8) (oi := { dst := some 47, op := _, type := _, pos := _, after := _, guard := _ }) (v := ?_) rfl (by kernel_rfl) (fun _ _ _ h => h) (Or.inl ⟨by kernel_rfl, ?_⟩) (fun _ => hS0) ?_
          rotate_left 1
          · (intro w hSw; (try dsimp only at hSw); go_simp; try with_reducible rfl)
          try simp only [Act.put, Array.toArray_toList, List.setIfInBounds_toArray, List.set_cons_zero, List.set_cons_succ]
          refine anyM_take (i := 9) (oi := { dst := some 48, op := _, type := _, pos := _, after := _, guard := _ }) (v := ?_) rfl (by kernel_rfl) (fun _ _ _ h => h) (Or.inl ⟨by kernel_rfl, ?_⟩) hS0 ?_
          rotate_left 1
          · (intro w hSw; (try dsimp only at hSw); go_simp; try with_reducible rfl)
          try simp only [Act.put, Array.toArray_toList, List.setIfInBounds_toArray, List.set_cons_zero, List.set_cons_succ]
          refine anyM_free (i := 10) (oi := { dst := some 49, op := _, type := _, pos := _, after := _, guard := _ }) (v := ?_) rfl (by kernel_rfl) (fun _ _ _ h => h) (Or.inl ⟨by kernel_rfl, ?_⟩) (fun _ => hS0) ?_
          rotate_left 1
          · (intro w hSw; (try dsimp only at hSw); go_simp; try with_reducible rfl)
          try simp only [Act.put, Array.toArray_toList, List.setIfInBounds_toArray, List.set_cons_zero, List.set_cons_succ]
          refine anyM_free (i := 13) (oi := { dst := some 52, op := _, type := _, pos := _, after := _, guard := _ }) (v := ?_) rfl (by kernel_rfl) (fun _ _ _ h => h) (Or.inl ⟨by kernel_rfl, ?_⟩) (fun _ => hS0) ?_
          rotate_left 1
          · (intro w hSw; (try dsimp only at hSw); go_simp; try with_reducible rfl)
          try simp only [Act.put, Array.toArray_toList, List.setIfInBounds_toArray, List.set_cons_zero, List.set_cons_succ]
          refine anyM_one (i := 11) (by kernel_rfl) rfl (fun K hK => ?_)
          go_simp
          refine (HT.out _).mono ?_
          rintro e w8 ⟨rfl, hb8⟩
          have HR8 := Lib.hid (HR.out.only (HR.out.blk.below hb8 HR.out.blk.lt) (.of_below hb8))
          have HO8 := Lib.hid (HO.out.trans (OnlyN.of_below hb8))
          have hS0 : (fun w' : World => w'.cell? ⟨b, 0, none⟩ = some (.string s) ∧ w'.cell? ⟨b, 1, none⟩ = some (.int .i64 (s.size : Int))) w8 := ⟨HR8.out.blk.cell 0, HR8.out.blk.cell 1⟩
          clear hb8
          refine hK.out _ _ (fun _ => hS0) ?_
          clear hK K
          try simp only [Act.put, Array.toArray_toList, List.setIfInBounds_toArray, List.set_cons_zero, List.set_cons_succ]
          refine anyM_free (i := 12) (oi := { dst := some 51, op := _, type := _, pos := _, after := _, guard := _ }) (v := ?_) rfl (by kernel_rfl) (fun _ _ _ h => h) (Or.inl ⟨by kernel_rfl, ?_⟩) (fun _ => hS0) ?_
          rotate_left 1
          · (intro w hSw; (try dsimp only at hSw); go_simp; try with_reducible rfl)
          try simp only [Act.put, Array.toArray_toList, List.setIfInBounds_toArray, List.set_cons_zero, List.set_cons_succ]
          refine anyM_one (i := 14) (by kernel_rfl) rfl (fun K hK => ?_)
          go_simp
          refine (put_tok B b s _ en v ts 3 ⟨#[]⟩ tx (.slice none 0 0) false (a : Int) 0 0 rfl _ HR8.out (by have := HBW.out; have := HO8.out.size; omega) hz).mono ?_
          rintro e w9 ⟨rfl, v', h9, hf9, hv9⟩
          have H9 := Lib.hid h9
          have HF9 := Lib.hid hf9
          have HV9 := Lib.hid hv9
          have hS0 : (fun w' : World => w'.cell? ⟨b, 0, none⟩ = some (.string s) ∧ w'.cell? ⟨b, 1, none⟩ = some (.int .i64 (s.size : Int))) w9 := ⟨H9.out.blk.cell 0, H9.out.blk.cell 1⟩
          clear h9 hf9 hv9
          refine hK.out _ _ (fun _ => hS0) ?_
          clear hK K
          try simp only [Act.put, Array.toArray_toList, List.setIfInBounds_toArray, List.set_cons_zero, List.set_cons_succ]
          refine anyM_done (by kernel_rfl) ?_ _
          refine NoPanic.normal ?_
          clear hS0
          go_wp2_with fail
          go_end0
          exact ⟨rfl, _, by rw [HE9.out]; exact H9.out, (HO8.out.fr v).trans HF9.out, fun g hg => by rcases HV9.out g hg with h1 | h1; exact .inl h1; exact .inr (Nat.le_trans HO8.out.size h1)⟩
        · have hgt : ¬ ((a : Int) < (s.size : Int)) := by omega
          go_wp2
          go_end0
          exact ⟨rfl, v, by rw [HTS.out, if_neg hak]; exact H.out.only HB1.out HO.out.n, HO.out.n.fr v, fun g hg => .inl hg⟩
      · obtain ⟨kd, hkd, HM0⟩ := markup_some b s k (.int .i64 (k : Int)) (.int .i64 en) v hs hbeg
        have HM := Lib.hid HM0
        have e2 : (kd == 0) = false := by simp; exact hkd
        have hks : k < s.size := by obtain ⟨h1, _⟩ := hbeg; omega
        clear HM0 hbeg hkd
        go_wp2
        go_quiet (first | (go_at_call 57; refine Calls.quiet_of_same (HM.out _ HB1.out)))
        have HB1 : Hid (Blk (wr.drewN nq) b 82 #[.string s, .int .i64 (k : Int), .int .i64 en, v]) := HB1.out
        have HO : Hid (OnlyB b w (wr.drewN nq)) := HO.out.trans (OnlyB.drewN b wr nq)
        have d0 : (wr.drewN nq).cell? ⟨b, 0, none⟩ = some (.string s) := d0
        have d1 : (wr.drewN nq).cell? ⟨b, 1, none⟩ = some (.int .i64 (k : Int)) := d1
        clear f1
        generalize wr.drewN nq = wq at HB1 HO d0 d1 ⊢
        clear nq fin e2
        by_cases hak : a < k
        · have hgt : (a : Int) < (k : Int) := by omega
          have hgt2 : ((k : Int) ≤ (s.size : Int)) := by omega
          have HR : Hid (RdS B b s k en v ts wq) := H.out.only HB1.out HO.out.n
          obtain ⟨tx, htx⟩ : ∃ tx, tx = (⟨(readF false (s.extract a k).size (s.extract a k).data.toList).toArray⟩ : ByteArray) := ⟨_, rfl⟩
          have HT : Hid (∀ W, Calls Tryz.prog 79 #[.string (s.extract a k)] W fun e w' => e = .returned (.string tx) ∧ Below W.heap.size W w') := fun W => by rw [htx]; exact etext_calls _ HNN.out (by rw [ByteArray.size_extract]; omega) W
          have HE9 : Hid (TS = ts ++ [⟨3, ⟨#[]⟩, .slice none 0 0, tx, false, a, k⟩]) := by show _ = _; rw [HTS.out, if_pos hak, htx]
          clear htx
          go_wp2
          have hS0 : (fun w' : World => w'.cell? ⟨b, 0, none⟩ = some (.string s) ∧ w'.cell? ⟨b, 1, none⟩ = some (.int .i64 (k : Int))) wq := ⟨d0, d1⟩
          refine wp_region_noPanic ?_
          refine region_M (S := fun w' => w'.cell? ⟨b, 0, none⟩ = some (.string s) ∧ w'.cell? ⟨b, 1, none⟩ = some (.int .i64 (k : Int))) (T := []) (by kernel_rfl) ?_
          have hS0 : (fun w' : World => w'.cell? ⟨b, 0, none⟩ = some (.string s) ∧ w'.cell? ⟨b, 1, none⟩ = some (.int .i64 (k : Int))) (World.drew wq) := hS0
          have HR : Hid (RdS B b s k en v ts (World.drew wq)) := HR.out.only HR.out.blk ((OnlyN.refl b wq).drewN 1)
          have HO : Hid (OnlyN b w (World.drew wq)) := HO.out.n.drewN 1
          clear d0 d1
          generalize World.drew wq = wd at HR HO hS0 ⊢
          clear HB1
          refine anyM_free (i := 0) (oi := { dst := some 39, op := _, type := _, pos := _, after := _, guard := _ }) (v := ?_) rfl (by kernel_rfl) (fun _ _ _ h => h) (Or.inl ⟨by kernel_rfl, ?_⟩) (fun _ => hS0) ?_
          rotate_left 1
          · (intro w hSw; (try dsimp only at hSw); go_simp; try with_reducible rfl)
          try simp only [Act.put, Array.toArray_toList, List.setIfInBounds_toArray, List.set_cons_zero, List.set_cons_succ]
          refine anyM_free (i := 1) (oi := { dst := some 40, op := _, type := _, pos := _, after := _, guard := _ }) (v := ?_) rfl (by kernel_rfl) (fun _ _ _ h => h) (Or.inl ⟨by kernel_rfl, ?_⟩) (fun _ => hS0) ?_
          rotate_left 1
          · (intro w hSw; (try dsimp only at hSw); go_simp; try with_reducible rfl)
          try simp only [Act.put, Array.toArray_toList, List.setIfInBounds_toArray, List.set_cons_zero, List.set_cons_succ]
          refine anyM_free (i := 2) (oi := { dst := some 41, op := _, type := _, pos := _, after := _, guard := _ }) (v := ?_) rfl (by kernel_rfl) (fun _ _ _ h => h) (Or.inl ⟨by kernel_rfl, ?_⟩) (fun _ => hS0) ?_
          rotate_left 1
          · (intro w hSw; (try dsimp only at hSw); go_simp; try with_reducible rfl)
          try simp only [Act.put, Array.toArray_toList, List.setIfInBounds_toArray, List.set_cons_zero, List.set_cons_succ]
          refine anyM_free (i := 3) (oi := { dst := some 42, op := _, type := _, pos := _, after := _, guard := _ }) (v := ?_) rfl (by kernel_rfl) (fun _ _ _ h => h) (Or.inl ⟨by kernel_rfl, ?_⟩) (fun _ => hS0) ?_
          rotate_left 1
          · (intro w hSw; (try dsimp only at hSw); go_simp; try with_reducible rfl)
          try simp only [Act.put, Array.toArray_toList, List.setIfInBounds_toArray, List.set_cons_zero, List.set_cons_succ]
          refine anyM_take (i := 4) (oi := { dst := some 43, op := _, type := _, pos := _, after := _, guard := _ }) (v := ?_) rfl (by kernel_rfl) (fun _ _ _ h => h) (Or.inl ⟨by kernel_rfl, ?_⟩) hS0 ?_
          rotate_left 1
          · (intro w hSw; (try dsimp only at hSw); go_simp; try with_reducible rfl)
          try simp only [Act.put, Array.toArray_toList, List.setIfInBounds_toArray, List.set_cons_zero, List.set_cons_succ]
          refine anyM_free (i := 5) (oi := { dst := some 44, op := _, type := _, pos := _, after := _, guard := _ }) (v := ?_) rfl (by kernel_rfl) (fun _ _ _ h => h) (Or.inl ⟨by kernel_rfl, ?_⟩) (fun _ => hS0) ?_
          rotate_left 1
          · (intro w hSw; (try dsimp only at hSw); go_simp; try with_reducible rfl)
          try simp only [Act.put, Array.toArray_toList, List.setIfInBounds_toArray, List.set_cons_zero, List.set_cons_succ]
          refine anyM_free (i := 6) (oi := { dst := some 45, op := _, type := _, pos := _, after := _, guard := _ }) (v := ?_) rfl (by kernel_rfl) (fun _ _ _ h => h) (Or.inl ⟨by kernel_rfl, ?_⟩) (fun _ => hS0) ?_
          rotate_left 1
          · (intro w hSw; (try dsimp only at hSw); go_simp; try with_reducible rfl)
          try simp only [Act.put, Array.toArray_toList, List.setIfInBounds_toArray, List.set_cons_zero, List.set_cons_succ]
          refine anyM_free (i := 7) (oi := { dst := some 46, op := _, type := _, pos := _, after := _, guard := _ }) (v := ?_) rfl (by kernel_rfl) (fun _ _ _ h => h) (Or.inl ⟨by kernel_rfl, ?_⟩) (fun _ => hS0) ?_
          rotate_left 1
          · (intro w hSw; (try dsimp only at hSw); go_simp; try with_reducible rfl)
          try simp only [Act.put, Array.toArray_toList, List.setIfInBounds_toArray, List.set_cons_zero, List.set_cons_succ]
          refine anyM_free (i := 8) (oi := { dst := some 47, op := _, type := _, pos := _, after := _, guard := _ }) (v := ?_) rfl (by kernel_rfl) (fun _ _ _ h => h) (Or.inl ⟨by kernel_rfl, ?_⟩) (fun _ => hS0) ?_
          rotate_left 1
          · (intro w hSw; (try dsimp only at hSw); go_simp; try with_reducible rfl)
          try simp only [Act.put, Array.toArray_toList, List.setIfInBounds_toArray, List.set_cons_zero, List.set_cons_succ]
          refine anyM_take (i := 9) (oi := { dst := some 48, op := _, type := _, pos := _, after := _, guard := _ }) (v := ?_) rfl (by kernel_rfl) (fun _ _ _ h => h) (Or.inl ⟨by kernel_rfl, ?_⟩) hS0 ?_
          rotate_left 1
          · (intro w hSw; (try dsimp only at hSw); go_simp; try with_reducible rfl)
          try simp only [Act.put, Array.toArray_toList, List.setIfInBounds_toArray, List.set_cons_zero, List.set_cons_succ]
          refine anyM_free (i := 10) (oi := { dst := some 49, op := _, type := _, pos := _, after := _, guard := _ }) (v := ?_) rfl (by kernel_rfl) (fun _ _ _ h => h) (Or.inl ⟨by kernel_rfl, ?_⟩) (fun _ => hS0) ?_
          rotate_left 1
          · (intro w hSw; (try dsimp only at hSw); go_simp; try with_reducible rfl)
          try simp only [Act.put, Array.toArray_toList, List.setIfInBounds_toArray, List.set_cons_zero, List.set_cons_succ]
          refine anyM_free (i := 13) (oi := { dst := some 52, op := _, type := _, pos := _, after := _, guard := _ }) (v := ?_) rfl (by kernel_rfl) (fun _ _ _ h => h) (Or.inl ⟨by kernel_rfl, ?_⟩) (fun _ => hS0) ?_
          rotate_left 1
          · (intro w hSw; (try dsimp only at hSw); go_simp; try with_reducible rfl)
          try simp only [Act.put, Array.toArray_toList, List.setIfInBounds_toArray, List.set_cons_zero, List.set_cons_succ]
          refine anyM_one (i := 11) (by kernel_rfl) rfl (fun K hK => ?_)
          go_simp
          refine (HT.out _).mono ?_
          rintro e w8 ⟨rfl, hb8⟩
          have HR8 := Lib.hid (HR.out.only (HR.out.blk.below hb8 HR.out.blk.lt) (.of_below hb8))
          have HO8 := Lib.hid (HO.out.trans (OnlyN.of_below hb8))
          have hS0 : (fun w' : World => w'.cell? ⟨b, 0, none⟩ = some (.string s) ∧ w'.cell? ⟨b, 1, none⟩ = some (.int .i64 (k : Int))) w8 := ⟨HR8.out.blk.cell 0, HR8.out.blk.cell 1⟩
          clear hb8
          refine hK.out _ _ (fun _ => hS0) ?_
          clear hK K
          try simp only [Act.put, Array.toArray_toList, List.setIfInBounds_toArray, List.set_cons_zero, List.set_cons_succ]
          refine anyM_free (i := 12) (oi := { dst := some 51, op := _, type := _, pos := _, after := _, guard := _ }) (v := ?_) rfl (by kernel_rfl) (fun _ _ _ h => h) (Or.inl ⟨by kernel_rfl, ?_⟩) (fun _ => hS0) ?_
          rotate_left 1
          · (intro w hSw; (try dsimp only at hSw); go_simp; try with_reducible rfl)
          try simp only [Act.put, Array.toArray_toList, List.setIfInBounds_toArray, List.set_cons_zero, List.set_cons_succ]
          refine anyM_one (i := 14) (by kernel_rfl) rfl (fun K hK => ?_)
          go_simp
          refine (put_tok B b s _ en v ts 3 ⟨#[]⟩ tx (.slice none 0 0) false (a : Int) 0 0 rfl _ HR8.out (by have := HBW.out; have := HO8.out.size; omega) hz).mono ?_
          rintro e w9 ⟨rfl, v', h9, hf9, hv9⟩
          have H9 := Lib.hid h9
          have HF9 := Lib.hid hf9
          have HV9 := Lib.hid hv9
          have hS0 : (fun w' : World => w'.cell? ⟨b, 0, none⟩ = some (.string s) ∧ w'.cell? ⟨b, 1, none⟩ = some (.int .i64 (k : Int))) w9 := ⟨H9.out.blk.cell 0, H9.out.blk.cell 1⟩
          clear h9 hf9 hv9
          refine hK.out _ _ (fun _ => hS0) ?_
          clear hK K
          try simp only [Act.put, Array.toArray_toList, List.setIfInBounds_toArray, List.set_cons_zero, List.set_cons_succ]
          refine anyM_done (by kernel_rfl) ?_ _
          refine NoPanic.normal ?_
          clear hS0
          go_wp2_with fail
          go_end0
          exact ⟨rfl, _, by rw [HE9.out]; exact H9.out, (HO8.out.fr v).trans HF9.out, fun g hg => by rcases HV9.out g hg with h1 | h1; exact .inl h1; exact .inr (Nat.le_trans HO8.out.size h1)⟩
        · have hgt : ¬ ((a : Int) < (k : Int)) := by omega
          go_wp2
          go_end0
          exact ⟨rfl, v, by rw [HTS.out, if_neg hak]; exact H.out.only HB1.out HO.out.n, HO.out.n.fr v, fun g hg => .inl hg⟩
end Go.Proofs.YtcghahfboccceaaGreatDoor
